/-
 Each function of the program as a Lean function,and that its calls come to what that says.
-/
import Derived.Test.YtgkaoimndglnoaaGreatFwE
import Derived.Test.YtgkaoimndglnoaaGreatProg
set_option linter.unusedVariables false
set_option linter.unusedSimpArgs false
namespace Go.Dm
open Go.RowKit Go.Proofs
noncomputable def E0:cg:={ eq:=eqTy Tryz.prog,key:=aiA Tryz.prog,bw:=true }
abbrev tI:Ty:=.int .i64
theorem bS:Tryz.prog.follows .mixedOrders=true:=by kernel_rfl
set_option maxRecDepth 100000
abbrev ZD (p:List bg):Type:=(aa p).den
abbrev ZJ (c v p:List bg):Type:=ZD c->ZD v->ZD p
abbrev ZS (c v p:List bg):Type:=ZD p->ZD c×ZD v
abbrev ZE (c:List bg) (v y:bk):Type:=(id:Nat)->ZD c->ZD (ct v id)->ZD (ct y id)
def ZI {α β:Type}:α->β->β:=fun _ y=>y
def gC {α β:Type} {τ:Ty}:α->β->τ.den:=fun _ _=>τ.dflt
def ZA:(c v:List bg)->ZD c->ZD v->ZD (c ++ v)
 | [],_,_,v=>v
 | _ :: cs,vs,c,v=>(c.1,ZA cs vs c.2 v)
def ZF:(c v:List bg)->ZD (c ++ v)->ZD c
 | [],_,_=>()
 | _ :: cs,vs,x=>(x.1,ZF cs vs x.2)
def ZV:(c v:List bg)->ZD (c ++ v)->ZD v
 | [],_,x=>x
 | _ :: cs,vs,x=>ZV cs vs x.2
def ZP (c v:List bg) (x:ZD (c ++ v)):ZD c×ZD v:=(ZF c v x,ZV c v x)
structure bV (i:FuncId) (f:Func) (c:Code):Prop where
 a:Tryz.prog.funcs[i]? = some f
 b:f.body=some c
 c:eY Tryz.prog i
noncomputable def bW (f:Func):Code:=f.body.getD .skip
theorem bX {i:FuncId} {f:Func} {c:Code} (h:Tryz.prog.funcs[i]? = some f:=by kernel_rfl) (b:f.body=some c:=by kernel_rfl) (h1:(f.name == "runtime.NumGoroutine")=false:=by kernel_rfl) (h2:f.body.isNone=false:=by kernel_rfl):bV i f c:=
 ⟨h,b,Jd h h1 h2⟩
abbrev SP (G:Ctx):Prop:=Sound Tryz.prog G
theorem fa {α:Type} {p:α->Prop} {a:α} {l:List α} (h:p a/\∀ x∈l,p x):∀ x∈a :: l,p x:=List.forall_mem_cons.2 h
theorem f0 {α:Type} {p:α->Prop}:∀ x∈([]:List α),p x:=fun _ h=>by cases h
abbrev QO (G:Ctx) (f:Func) (ls:List Loop) (a r:Ty) (Q:(Option r.den->Tree (Option r.den))->(Tree (Option r.den)->Tree (Option r.den)->Tree (Option r.den))->a.den->Tree (Option r.den)):Prop:=∀ x,me Tryz.prog E0 G f ls a r x=Q .leaf .any x
abbrev MOz (G:Ctx) (f:Func) (ls:List Loop) {a r:Ty} (M:a.den->Option r.den):Prop:=∀ x,(me Tryz.prog E0 G f ls a r x).sure=M x
def pO {α β:Type} (M:α->Option β) (x:α):Bool:=(M x).isSome
def vO {α:Type} {τ:Ty} (M:α->Option τ.den) (x:α):τ.den:=(M x).getD τ.dflt
theorem hO {i:FuncId} {f:Func} {c:Code} {ls:List Loop} {G:Ctx} {a r:Ty} {M:a.den->Option r.den} (o:bV i f c) (g:SP G) (hM:MOz G f ls M)
  (hl:∀ G':Gh,G'.lo=0->G'.iL->Env Tryz.prog E0 G G' Fence.wide->ff Tryz.prog f.ntmps G' i Fence.wide 0 c ls) (hn:Nat.ble a.cells f.ntmps=true:=by kernel_rfl):aQ Tryz.prog i (qy M):=
 mj (E:=E0) bS g bN bH o.a o.b hn hM hl
theorem l0 {P:Program} {E:cg} {Γ:Ctx} {N i:Nat} {c:Code} (h:ay c=[]:=by kernel_rfl):∀ G':Gh,G'.lo=0->G'.iL->Env P E Γ G' Fence.wide->ff P N G' i Fence.wide 0 c []:=fun _ _ _ _=>aP (by rw [h]; exact .nil)
theorem ln {P:Program} {N r:Nat} {i:FuncId} {G:Gh} {F:Fence} {c:Code} (h:ay c=[]):ff P N G i F r c []:=aP (by rw [h]; exact .nil)
abbrev ZO (G:Ctx) (lo N:Nat) {cs vs ps:List bg} {wv wy:bk} (b:Code) (ls:List Loop) (j:ZJ cs vs ps) (je:ZE cs wv wy) (jr:ZD cs->ZD wv.ret->ZD wy.ret) (jp:ZD cs->ZD wv.bP->ZD wy.bP) (Z:(RQ vs wv->Tree (RQ ps wy))->(Tree (RQ ps wy)->Tree (RQ ps wy)->Tree (RQ ps wy))->ZD cs->ZD vs->Tree (RQ ps wy)):Prop:=
 ∀ c v,cG Tryz.prog E0 G lo N [] ps wy b ls (j c v)=Z (fun r=>.leaf (r.lift j je jr jp c)) .any c v
abbrev SO (G:Ctx) (lo N:Nat) {cs vs ps:List bg} {wv wy:bk} (b:Code) (ls:List Loop) (j:ZJ cs vs ps) (je:ZE cs wv wy) (jr:ZD cs->ZD wv.ret->ZD wy.ret) (jp:ZD cs->ZD wv.bP->ZD wy.bP) (S:ZD cs->ZD vs->RQ vs wv):Prop:=
 ∀ c v,bE (cG Tryz.prog E0 G lo N [] ps wy b ls (j c v))=(S c v).lift j je jr jp c
theorem lv {Γ:Ctx} {N:Nat} {G:Gh} {i:FuncId} {Fw:Fence} {r lo:Nat} {cs vs ps:List bg} {wv wy:bk} {b:Code} {ls:List Loop} {j:ZJ cs vs ps} {je:ZE cs wv wy} {jr:ZD cs->ZD wv.ret->ZD wy.ret} {jp:ZD cs->ZD wv.bP->ZD wy.bP} {hr:Bool} {S:ZD cs->ZD vs->RQ vs wv}
  (hE:Env Tryz.prog E0 Γ G Fw) (ht:G.iL) (hlo:G.lo=lo) (hls:ff Tryz.prog N G i Fw r b ls) (sp:ZS cs vs ps) (s:SO Γ lo N b ls j je jr jp S) (hps:Vp [] false ps=true:=by kernel_rfl) (hwy:wy.wf [] false=true:=by kernel_rfl)
  (h1:∀ x,j (sp x).1 (sp x).2=x:=by exact fun _=>rfl) (h2:∀ c v,sp (j c v)=(c,v):=by exact fun _ _=>rfl) :
  dF Tryz.prog N G i Fw r (.loop b) (fm lo [] ps fun x=>cD wy je jr jp [] hr (sp x).1 (bB (S (sp x).1) dw (sp x).2) wy.dY):=
 fK hE ht hlo hls hps hwy sp h1 h2 s dw
def lk (lo:Nat) {cs vs ps:List bg} {wv wy:bk} (je:ZE cs wv wy) (jr:ZD cs->ZD wv.ret->ZD wy.ret) (jp:ZD cs->ZD wv.bP->ZD wy.bP) (hr:Bool) (sp:ZS cs vs ps) (L:ZD cs->ZD vs->LQ wv):Loop:=.known (fm lo [] ps fun x=>cD wy je jr jp [] hr (sp x).1 (L (sp x).1 (sp x).2) wy.dY)
theorem dqs:(type_of% @aX)/\(type_of% @aY)/\(type_of% @bz)/\(type_of% @aF)/\(type_of% @aR)/\(type_of% @aH)/\(type_of% @aJ)/\(type_of% @aT)/\(type_of% @aL)/\(type_of% @aV)/\(type_of% @aZ)/\(type_of% @aN)/\(type_of% @bA)/\(type_of% @aG)/\(type_of% @aS)/\(type_of% @aI)/\(type_of% @aK)/\(type_of% @aU)/\(type_of% @aM)/\(type_of% @aW)/\(type_of% @bf)/\(type_of% @aO):=
 ⟨@aX,@aY,@bz,@aF,@aR,@aH,@aJ,@aT,@aL,@aV,@aZ,@aN,@bA,@aG,@aS,@aI,@aK,@aU,@aM,@aW,@bf,@aO⟩
theorem sus:(type_of% @az)/\(type_of% @aC)/\(type_of% @af)/\(type_of% @aq)/\(type_of% @ah)/\(type_of% @ai)/\(type_of% @au)/\(type_of% @aj)/\(type_of% @ax)/\(type_of% @aA)/\(type_of% @ak):=
 ⟨@az,@aC,@af,@aq,@ah,@ai,@au,@aj,@ax,@aA,@ak⟩
abbrev vo:Ty:=.cons tI (.cons tI .nil)
abbrev tL:Ty:=.sl (.cons tI .nil)
abbrev Da:Ty:=.cons tI .nil
abbrev tB1:Ty:=.cons .bool .nil
abbrev tC:Ty:=.cons tI (.cons tI (.cons tI .nil))
abbrev tG:Ty:=.cons tI (.cons tI (.cons tI (.cons tI (.cons tI (.cons tI (.cons tI (.cons tI (.cons (.sl tC) .nil))))))))
abbrev LW:Ty:=.cons tI (.cons tI (.cons tI (.cons tI (.cons tI (.cons tI (.cons tI (.cons tI (.cons (.sl tC) (.cons .vl .nil)))))))))
abbrev tGR:Ty:=.cons tI (.cons tI (.cons tI (.cons tI (.cons tI (.cons tI (.cons tI (.cons tI (.cons tI (.cons tI .nil)))))))))
abbrev tTr:Ty:=.cons tI (.cons tI (.cons tI (.cons tI (.cons tI (.cons tI (.cons tI .nil))))))
abbrev tWe:Ty:=.cons tI (.cons tI (.cons tI .nil))
abbrev tFW:Ty:=.cons (.fn (.cons (.agg tWe) .nil) Da) .nil
abbrev tSt:Ty:=.cons tI (.cons tI (.cons tI .nil))
abbrev tM:Ty:=.cons tI (.cons tI (.cons tI (.cons (.sl tSt) .nil)))
abbrev tF:Ty:=.cons tI (.cons tL .nil)
abbrev tR:Ty:=.cons tI (.cons tI (.cons tI (.cons tI (.cons tI (.cons tI (.cons tI .nil))))))
abbrev tK:Ty:=.cons tI (.cons tI (.cons tI .nil))
abbrev tP:Ty:=.cons tI (.cons tI (.cons tI (.cons tI .nil)))
abbrev tW:Ty:=.cons tI (.cons (.sl tR) (.cons (.sl tK) (.cons (.sl tP) (.cons tI (.cons tI (.cons tI (.cons tI (.cons tI .nil))))))))
abbrev tX:Ty:=.cons tI (.cons (.sl tR) (.cons (.sl tK) (.cons (.sl tP) (.cons tI (.cons tI (.cons tI (.cons tI (.cons tI (.cons (.map (.agg vo) .bool) .nil)))))))))
noncomputable def c48:=bW Tryz.f48
theorem Jq:bV 48 Tryz.f48 c48:=bX
abbrev T0:Ty:=(.cons tI .nil)
abbrev T1:Ty:=(.cons tI T0)
abbrev T2:Ty:=(.cons tI T1)
abbrev T3:Ty:=(.cons .bool .nil)
abbrev a48:Ty:=T2
abbrev Fv:Ty:=T3
noncomputable def G48:Ctx:=Ctx.of []
theorem g48:SP G48:=aB f0
def Q48 {α:Type} (l:Option (Fv).den->α) (an:α->α->α) (x:(a48).den):α:=bif (decide (x.2.1<=x.1)) then l (some ((decide (x.1<=x.2.2.1)),())) else l (some (false,()))
theorem q48:QO G48 Tryz.f48 [] a48 Fv Q48:=fun _=>by kernel_rfl
def Ed (x:(a48).den):Option (Fv).den:=Q48 (fun r=>r) (fun _ _=>none) x
theorem m48:MOz G48 Tryz.f48 [] Ed:=fun x=>by rw [q48]; unfold Ed Q48; simp only [Tree.sure,sus]
def p48:=pO Ed
def v48:=vO (τ:=Fv) Ed
def k48:Con:=⟨a48,Fv,p48,v48⟩
theorem h48:aQ Tryz.prog 48 k48:=hO Jq g48 m48 l0
noncomputable def aGF:=bW Tryz.f124
theorem PT:bV 124 Tryz.f124 aGF:=bX
abbrev T4:Ty:=(.agg T1)
abbrev T5:Ty:=(.cons T4 T1)
abbrev adZ:Ty:=T5
abbrev BQ:Ty:=T3
noncomputable def ami:Ctx:=Ctx.of []
theorem aGG:SP ami:=aB f0
def ad0 {α:Type} (l:Option (BQ).den->α) (an:α->α->α) (x:(adZ).den):α:=bif (decide (x.2.1<=x.1.1)) then bif (decide (x.1.1<=x.1.2.1)) then l (some ((decide (x.1.2.1<=x.2.2.1)),())) else l (some (false,())) else l (some (false,()))
theorem aGH:QO ami Tryz.f124 [] adZ BQ ad0:=fun _=>by kernel_rfl
def zA (x:(adZ).den):Option (BQ).den:=ad0 (fun r=>r) (fun _ _=>none) x
theorem aGI:MOz ami Tryz.f124 [] zA:=fun x=>by rw [aGH]; unfold zA ad0; simp only [Tree.sure,sus]
def aGJ:=pO zA
def aGK:=vO (τ:=BQ) zA
def ad1:Con:=⟨adZ,BQ,aGJ,aGK⟩
theorem amj:aQ Tryz.prog 124 ad1:=hO PT aGG aGI l0
noncomputable def aGL:=bW Tryz.f163
theorem aiS:bV 163 Tryz.f163 aGL:=bX
abbrev T6:Ty:=(.agg T2)
abbrev T7:Ty:=(.cons T6 .nil)
abbrev ad3:Ty:=T7
abbrev Tp:Ty:=T3
noncomputable def amk:Ctx:=Ctx.of [(48,.pure k48),(124,.pure ad1)]
theorem aGM:SP amk:=aB (fa ⟨⟨Jq.c,h48⟩,fa ⟨⟨PT.c,amj⟩,f0⟩⟩)
def ad4 {α:Type} (l:Option (Tp).den->α) (an:α->α->α) (x:(ad3).den):α:=cl (Fv).dflt (Ed (x.1.1,((0:Int),((400:Int),())))) (fun u0=>bif u0.1 then cl (BQ).dflt (zA (x.1.2,((-2000:Int),((2000:Int),())))) (fun u1=>l (some u1)) (l none) else l (some (false,()))) (l none)
theorem aGN:QO amk Tryz.f163 [] ad3 Tp ad4:=fun _=>by kernel_rfl
def LX (x:(ad3).den):Option (Tp).den:=ad4 (fun r=>r) (fun _ _=>none) x
theorem aGO:MOz amk Tryz.f163 [] LX:=fun x=>by rw [aGN]; unfold LX ad4; simp only [Tree.sure,sus]
def aGP:=pO LX
def aGQ:=vO (τ:=Tp) LX
def awc:Con:=⟨ad3,Tp,aGP,aGQ⟩
theorem aGR:aQ Tryz.prog 163 awc:=hO aiS aGM aGO l0
noncomputable def aml:=bW Tryz.f110
theorem aiT:bV 110 Tryz.f110 aml:=bX
abbrev T8:Ty:=(.cons (.sl T2) .nil)
abbrev T9:Ty:=(.cons tI T8)
abbrev T10:Ty:=(.cons tI T9)
abbrev T11:Ty:=(.cons tI T10)
abbrev T12:Ty:=(.cons tI T11)
abbrev T13:Ty:=(.cons tI T12)
abbrev T14:Ty:=(.cons tI T13)
abbrev T15:Ty:=(.cons tI T14)
abbrev T16:Ty:=(.cons tI T15)
abbrev T17:Ty:=(.agg T16)
abbrev T18:Ty:=(.cons T17 .nil)
abbrev ad5:Ty:=T18
abbrev LY:Ty:=T3
noncomputable def WQ:Ctx:=Ctx.of [(48,.pure k48),(124,.pure ad1),(163,.pure awc)]
theorem aGT:SP WQ:=aB (fa ⟨⟨Jq.c,h48⟩,fa ⟨⟨PT.c,amj⟩,fa ⟨⟨aiS.c,aGR⟩,f0⟩⟩⟩)
noncomputable def Fx:Code:=bn ((ay (aml))[0]?)
theorem ad6:ay (Fx)=[]:=by kernel_rfl
abbrev oB:List bg:=[.slot 1 (.ptr 1),.slot 6 (.pc (.sl T2)),.slot 7 (.pc tI),.box 1 [.pc tI,.pc tI,.pc tI,.pc tI,.pc tI,.pc tI,.pc tI,.pc tI,.pc (.sl T2)]]
abbrev kg:List bg:=[.slot 8 (.pc tI)]
abbrev PU:List bg:=oB ++ kg
def WR:ZJ oB kg PU:=ZA _ _
def PV:ZS oB kg PU:=ZP _ _
abbrev ad7:bk:=⟨[(0,[.slot 1 (.ptr 1),.box 1 [.pc tI,.pc tI,.pc tI,.pc tI,.pc tI,.pc tI,.pc tI,.pc tI,.pc (.sl T2)]])],[.slot 2 (.pc .bool)],[]⟩
abbrev zS:bk:=⟨[(0,[])],[.slot 2 (.pc .bool)],[]⟩
def Fy:ZE oB zS ad7:=fun id=>match id with | 0=>fun c y=>(c.1,(c.2.2.2.1,y)) | _=>gC
def BR {α:Type} (l:RQ kg zS->α) (an:α->α->α) (c:ZD oB) (v:ZD kg):α:=bif (decide (v.1 < c.2.2.1)) then bif (decide (((0:Int)<=v.1)/\(v.1 < ((c.2.1.n:Nat):Int)))) then cl (Tp).dflt (LX ((c.2.1.g (Int.toNat v.1)),())) (fun u0=>bif (!u0.1) then l (.out (.ret (false,()))) else l (.next ((W (v.1 + (1:Int))),()))) (l .bad) else l .bad else l (.out (.exit 0 ()))
theorem amm:ZO WQ 0 50 Fx [] WR Fy ZI ZI BR:=fun _ _=>by kernel_rfl
def BS (c:ZD oB) (v:ZD kg):RQ kg zS:=BR (fun r=>r) (fun _ _=>.bad) c v
theorem amn:SO WQ 0 50 Fx [] WR Fy ZI ZI BS:=fun c v=>by rw [amm]; unfold BS BR; simp only [bE,bq,dqs]
def BT (c:ZD oB) (v:ZD kg):LQ zS:=bB (BS c) dw v
theorem awd:ay (aml)=[.loop Fx]:=by kernel_rfl
noncomputable def awe:List Loop:=[lk 0 Fy ZI ZI true PV BT]
def ad8 {α:Type} (l:Option (LY).den->α) (an:α->α->α) (x:(ad5).den):α:=bp (BT ((),(x.1.2.2.2.2.2.2.2.2.1,(((x.1.2.2.2.2.2.2.2.2.1.n:Nat):Int),(x.1,())))) ((0:Int),())) 0 (fun u1=>cl (BQ).dflt (zA ((x.1.1,(x.1.2.1,())),((0:Int),((3000:Int),())))) (fun u2=>bif u2.1 then cl (BQ).dflt (zA ((x.1.2.2.1,(x.1.2.2.2.1,())),((-3000:Int),((3000:Int),())))) (fun u3=>bif u3.1 then cl (Fv).dflt (Ed (x.1.2.2.2.2.1,((0:Int),((100:Int),())))) (fun u4=>bif u4.1 then cl (Fv).dflt (Ed (x.1.2.2.2.2.2.1,((0:Int),((200:Int),())))) (fun u5=>bif u5.1 then cl (Fv).dflt (Ed (x.1.2.2.2.2.2.2.1,((-720:Int),((720:Int),())))) (fun u6=>bif u6.1 then cl (Fv).dflt (Ed (x.1.2.2.2.2.2.2.2.1,((0:Int),((60:Int),())))) (fun u7=>bif u7.1 then l (some ((decide (((x.1.2.2.2.2.2.2.2.2.1.n:Nat):Int)<=(12:Int))),())) else l (some (false,()))) (l none) else l (some (false,()))) (l none) else l (some (false,()))) (l none) else l (some (false,()))) (l none) else l (some (false,()))) (l none) else l (some (false,()))) (l none)) (bK (BT ((),(x.1.2.2.2.2.2.2.2.2.1,(((x.1.2.2.2.2.2.2.2.2.1.n:Nat):Int),(x.1,())))) ((0:Int),())) (fun u8=>l (some u8)) (l none))
theorem aGU:QO WQ Tryz.f110 awe ad5 LY ad8:=fun _=>by kernel_rfl
def Fz (x:(ad5).den):Option (LY).den:=ad8 (fun r=>r) (fun _ _=>none) x
theorem aGV:MOz WQ Tryz.f110 awe Fz:=fun x=>by rw [aGU]; unfold Fz ad8; simp only [Tree.sure,sus]
def aGW:=pO Fz
def aGX:=vO (τ:=LY) Fz
def awf:Con:=⟨ad5,LY,aGW,aGX⟩
theorem aGY:aQ Tryz.prog 110 awf:=hO aiT aGT aGV fun G' hlo hF hE=>aP (by rw [awd]; exact .cons (lv hE hF hlo (ln ad6) PV amn) (.nil))
noncomputable def amo:=bW Tryz.f114
theorem PW:bV 114 Tryz.f114 amo:=bX
abbrev Tq:Ty:=(.cons (.sl T0) .nil)
abbrev ad9:Ty:=Tq
abbrev Jr:Ty:=T0
noncomputable def amp:Ctx:=Ctx.of []
theorem aGZ:SP amp:=aB f0
noncomputable def WS:Code:=bn ((ay (amo))[0]?)
theorem aea:ay (WS)=[]:=by kernel_rfl
theorem awg:ay (amo)=[.loop WS]:=by kernel_rfl
noncomputable def awh:List Loop:=[.ia 4 []]
def aeb {α:Type} (l:Option (Jr).den->α) (an:α->α->α) (x:(ad9).den):α:=bif (decide (((0:Int)<=(0:Int))/\((0:Int) < ((x.1.n:Nat):Int)))) then bif (decide ((0:Int) < ((x.1.n:Nat):Int))) then bif (decide (((0:Int)<=(0:Int))/\((0:Int) < ((x.1.n:Nat):Int)))) then bif (decide ((1:Int) < ((x.1.n:Nat):Int))) then bif (decide (((0:Int)<=(1:Int))/\((1:Int) < ((x.1.n:Nat):Int)))) then bif (decide ((2:Int) < ((x.1.n:Nat):Int))) then bif (decide (((0:Int)<=(2:Int))/\((2:Int) < ((x.1.n:Nat):Int)))) then bif (decide ((3:Int) < ((x.1.n:Nat):Int))) then bif (decide (((0:Int)<=(3:Int))/\((3:Int) < ((x.1.n:Nat):Int)))) then l none else l none else l (some ((mx (mx (mx (x.1.g 0).1 (x.1.g 0).1) (x.1.g 1).1) (x.1.g 2).1),())) else l none else l (some ((mx (mx (x.1.g 0).1 (x.1.g 0).1) (x.1.g 1).1),())) else l none else l (some ((mx (x.1.g 0).1 (x.1.g 0).1),())) else l none else l (some (x.1.g 0)) else l none
theorem aG0:QO amp Tryz.f114 awh ad9 Jr aeb:=fun _=>by kernel_rfl
def FA (x:(ad9).den):Option (Jr).den:=aeb (fun r=>r) (fun _ _=>none) x
theorem aG1:MOz amp Tryz.f114 awh FA:=fun x=>by rw [aG0]; unfold FA aeb; simp only [Tree.sure,sus]
def aG2:=pO FA
def aG3:=vO (τ:=Jr) FA
def aec:Con:=⟨ad9,Jr,aG2,aG3⟩
theorem amq:aQ Tryz.prog 114 aec:=hO PW aGZ aG1 fun G' hlo hF hE=>aP (by rw [awg]; exact .WH (aP (by rw [aea]; exact .nil)) (.nil))
noncomputable def amr:=bW Tryz.f115
theorem WT:bV 115 Tryz.f115 amr:=bX
abbrev aed:Ty:=Tq
abbrev LZ:Ty:=T0
noncomputable def ams:Ctx:=Ctx.of []
theorem aG4:SP ams:=aB f0
noncomputable def WU:Code:=bn ((ay (amr))[0]?)
theorem aee:ay (WU)=[]:=by kernel_rfl
theorem awi:ay (amr)=[.loop WU]:=by kernel_rfl
noncomputable def awj:List Loop:=[.ia 4 []]
def aef {α:Type} (l:Option (LZ).den->α) (an:α->α->α) (x:(aed).den):α:=bif (decide (((0:Int)<=(0:Int))/\((0:Int) < ((x.1.n:Nat):Int)))) then bif (decide ((0:Int) < ((x.1.n:Nat):Int))) then bif (decide (((0:Int)<=(0:Int))/\((0:Int) < ((x.1.n:Nat):Int)))) then bif (decide ((1:Int) < ((x.1.n:Nat):Int))) then bif (decide (((0:Int)<=(1:Int))/\((1:Int) < ((x.1.n:Nat):Int)))) then bif (decide ((2:Int) < ((x.1.n:Nat):Int))) then bif (decide (((0:Int)<=(2:Int))/\((2:Int) < ((x.1.n:Nat):Int)))) then bif (decide ((3:Int) < ((x.1.n:Nat):Int))) then bif (decide (((0:Int)<=(3:Int))/\((3:Int) < ((x.1.n:Nat):Int)))) then l none else l none else l (some ((mn (mn (mn (x.1.g 0).1 (x.1.g 0).1) (x.1.g 1).1) (x.1.g 2).1),())) else l none else l (some ((mn (mn (x.1.g 0).1 (x.1.g 0).1) (x.1.g 1).1),())) else l none else l (some ((mn (x.1.g 0).1 (x.1.g 0).1),())) else l none else l (some (x.1.g 0)) else l none
theorem aG5:QO ams Tryz.f115 awj aed LZ aef:=fun _=>by kernel_rfl
def Js (x:(aed).den):Option (LZ).den:=aef (fun r=>r) (fun _ _=>none) x
theorem aG6:MOz ams Tryz.f115 awj Js:=fun x=>by rw [aG5]; unfold Js aef; simp only [Tree.sure,sus]
def aG7:=pO Js
def aG8:=vO (τ:=LZ) Js
def amt:Con:=⟨aed,LZ,aG7,aG8⟩
theorem awk:aQ Tryz.prog 115 amt:=hO WT aG4 aG6 fun G' hlo hF hE=>aP (by rw [awi]; exact .WH (aP (by rw [aee]; exact .nil)) (.nil))
noncomputable def aG9:=bW Tryz.f166
theorem WV:bV 166 Tryz.f166 aG9:=bX
abbrev WW:Ty:=T1
abbrev Ts:Ty:=T0
noncomputable def amu:Ctx:=Ctx.of [(114,.pure aec)]
theorem aHa:SP amu:=aB (fa ⟨⟨PW.c,amq⟩,f0⟩)
def aeg {α:Type} (l:Option (Ts).den->α) (an:α->α->α) (x:(WW).den):α:=cl (Jr).dflt (FA ((⟨2,fun i=>List.getD [((W (x.1 - x.2.1)),()),((W (x.2.1 - x.1)),())] i ((W (x.1 - x.2.1)),())⟩:Sl _),())) (fun u0=>l (some u0)) (l none)
theorem aHb:QO amu Tryz.f166 [] WW Ts aeg:=fun _=>by kernel_rfl
def Ma (x:(WW).den):Option (Ts).den:=aeg (fun r=>r) (fun _ _=>none) x
theorem aHc:MOz amu Tryz.f166 [] Ma:=fun x=>by rw [aHb]; unfold Ma aeg; simp only [Tree.sure,sus]
def amv:=pO Ma
def WX:=vO (τ:=Ts) Ma
def amw:Con:=⟨WW,Ts,amv,WX⟩
theorem awl:aQ Tryz.prog 166 amw:=hO WV aHa aHc l0
noncomputable def aHd:=bW Tryz.f164
theorem aiU:bV 164 Tryz.f164 aHd:=bX
abbrev T20:Ty:=(.cons .vl .nil)
abbrev T21:Ty:=(.cons (.sl T2) T20)
abbrev T22:Ty:=(.cons tI T21)
abbrev T23:Ty:=(.cons tI T22)
abbrev T24:Ty:=(.cons tI T23)
abbrev T25:Ty:=(.cons tI T24)
abbrev T26:Ty:=(.cons tI T25)
abbrev T27:Ty:=(.cons tI T26)
abbrev T28:Ty:=(.cons tI T27)
abbrev T29:Ty:=(.cons tI T28)
abbrev T30:Ty:=(.agg T29)
abbrev T31:Ty:=(.cons T6 T7)
abbrev T32:Ty:=(.cons T30 T31)
abbrev aeh:Ty:=T32
abbrev Tt:Ty:=T3
noncomputable def amx:Ctx:=Ctx.of [(166,.pure amw)]
theorem aHf:SP amx:=aB (fa ⟨⟨WV.c,awl⟩,f0⟩)
def aei {α:Type} (l:Option (Tt).den->α) (an:α->α->α) (x:(aeh).den):α:=cl (Ts).dflt (Ma (x.2.1.1,(x.2.2.1.1,()))) (fun u0=>bif (decide (x.2.2.1.2.2.1 < (W (x.2.1.2.1 - (W (x.1.2.2.2.2.1 * u0.1)))))) then l (some (true,())) else l (some ((decide (x.2.1.2.2.1 < (W (x.2.2.1.2.1 - (W (x.1.2.2.2.2.1 * u0.1)))))),()))) (l none)
theorem aHg:QO amx Tryz.f164 [] aeh Tt aei:=fun _=>by kernel_rfl
def Mb (x:(aeh).den):Option (Tt).den:=aei (fun r=>r) (fun _ _=>none) x
theorem aHh:MOz amx Tryz.f164 [] Mb:=fun x=>by rw [aHg]; unfold Mb aei; simp only [Tree.sure,sus]
def aHi:=pO Mb
def aHj:=vO (τ:=Tt) Mb
def awm:Con:=⟨aeh,Tt,aHi,aHj⟩
theorem aHk:aQ Tryz.prog 164 awm:=hO aiU aHf aHh l0
noncomputable def amy:=bW Tryz.f112
theorem aiV:bV 112 Tryz.f112 amy:=bX
abbrev T33:Ty:=(.cons T30 .nil)
abbrev T34:Ty:=(.cons tI T3)
abbrev T35:Ty:=(.cons tI T34)
abbrev aej:Ty:=T33
abbrev Mc:Ty:=T35
noncomputable def Me:Ctx:=Ctx.of [(164,.pure awm)]
theorem aHm:SP Me:=aB (fa ⟨⟨aiU.c,aHk⟩,f0⟩)
noncomputable def BU:Code:=bn ((ay (amy))[0]?)
noncomputable def wg:Code:=bn ((ay (BU))[0]?)
theorem Tu:ay (wg)=[]:=by kernel_rfl
abbrev iY:List bg:=[.slot 1 (.ptr 1),.slot 5 (.pc tI),.slot 6 (.pc tI),.slot 7 (.pc .bool),.slot 8 (.pc tI),.slot 9 (.ptr 56),.slot 13 (.pc (.sl T2)),.slot 14 (.pc tI),.slot 15 (.pc tI),.box 56 [.pc tI,.pc tI,.pc tI]]
abbrev gy:List bg:=[.slot 10 (.pc tI),.box 1 [.pc tI,.pc tI,.pc tI,.pc tI,.pc tI,.pc tI,.pc tI,.pc tI,.pc (.sl T2),.pc .vl]]
abbrev sI:List bg:=iY ++ gy
def Jt:ZJ iY gy sI:=ZA _ _
def iZ:ZS iY gy sI:=ZP _ _
abbrev nB:bk:=⟨[(0,[.slot 5 (.pc tI),.slot 6 (.pc tI),.slot 7 (.pc .bool)]),(2,[.slot 1 (.ptr 1),.slot 5 (.pc tI),.slot 6 (.pc tI),.slot 7 (.pc .bool),.slot 13 (.pc (.sl T2)),.slot 14 (.pc tI),.slot 15 (.pc tI),.box 1 [.pc tI,.pc tI,.pc tI,.pc tI,.pc tI,.pc tI,.pc tI,.pc tI,.pc (.sl T2),.pc .vl]])],[],[]⟩
abbrev sJ:bk:=⟨[(0,[.slot 5 (.pc tI),.slot 6 (.pc tI),.slot 7 (.pc .bool)]),(2,[.box 1 [.pc tI,.pc tI,.pc tI,.pc tI,.pc tI,.pc tI,.pc tI,.pc tI,.pc (.sl T2),.pc .vl]])],[],[]⟩
def sK:ZE iY sJ nB:=fun id=>match id with | 0=>fun c y=>y | 2=>fun c y=>(c.1,(c.2.1,(c.2.2.1,(c.2.2.2.1,(c.2.2.2.2.2.2.1,(c.2.2.2.2.2.2.2.1,(c.2.2.2.2.2.2.2.2.1,y))))))) | _=>gC
def rB {α:Type} (l:RQ gy sJ->α) (an:α->α->α) (c:ZD iY) (v:ZD gy):α:=bif (decide (v.1 < ((v.2.1.2.2.2.2.2.2.2.2.1.n:Nat):Int))) then bif (decide (((0:Int)<=v.1)/\(v.1 < ((v.2.1.2.2.2.2.2.2.2.2.1.n:Nat):Int)))) then cl (Tt).dflt (Mb ((v.2.1.1,(v.2.1.2.1,(v.2.1.2.2.1,(v.2.1.2.2.2.1,(v.2.1.2.2.2.2.1,(v.2.1.2.2.2.2.2.1,(v.2.1.2.2.2.2.2.2.1,(v.2.1.2.2.2.2.2.2.2.1,(v.2.1.2.2.2.2.2.2.2.2.1,((),())))))))))),(c.2.2.2.2.2.2.2.2.2.1,((v.2.1.2.2.2.2.2.2.2.2.1.g (Int.toNat v.1)),())))) (fun u0=>bif u0.1 then l (.out (.exit 0 (c.2.2.2.2.1,(v.1,(true,()))))) else l (.next ((W (v.1 + (1:Int))),((v.2.1.1,(v.2.1.2.1,(v.2.1.2.2.1,(v.2.1.2.2.2.1,(v.2.1.2.2.2.2.1,(v.2.1.2.2.2.2.2.1,(v.2.1.2.2.2.2.2.2.1,(v.2.1.2.2.2.2.2.2.2.1,(v.2.1.2.2.2.2.2.2.2.2.1,((),())))))))))),())))) (l .bad) else l .bad else l (.out (.exit 2 ((v.2.1.1,(v.2.1.2.1,(v.2.1.2.2.1,(v.2.1.2.2.2.1,(v.2.1.2.2.2.2.1,(v.2.1.2.2.2.2.2.1,(v.2.1.2.2.2.2.2.2.1,(v.2.1.2.2.2.2.2.2.2.1,(v.2.1.2.2.2.2.2.2.2.2.1,((),())))))))))),())))
theorem WY:ZO Me 0 45 wg [] Jt sK ZI ZI rB:=fun _ _=>by kernel_rfl
def rC (c:ZD iY) (v:ZD gy):RQ gy sJ:=rB (fun r=>r) (fun _ _=>.bad) c v
theorem WZ:SO Me 0 45 wg [] Jt sK ZI ZI rC:=fun c v=>by rw [WY]; unfold rC rB; simp only [bE,bq,dqs]
def nC (c:ZD iY) (v:ZD gy):LQ sJ:=bB (rC c) dw v
theorem aek:ay (BU)=[.loop wg]:=by kernel_rfl
abbrev oC:List bg:=[.slot 1 (.ptr 1),.slot 5 (.pc tI),.slot 6 (.pc tI),.slot 7 (.pc .bool),.slot 13 (.pc (.sl T2)),.slot 14 (.pc tI)]
abbrev kn:List bg:=[.slot 15 (.pc tI),.box 1 [.pc tI,.pc tI,.pc tI,.pc tI,.pc tI,.pc tI,.pc tI,.pc tI,.pc (.sl T2),.pc .vl]]
abbrev PX:List bg:=oC ++ kn
def Xa:ZJ oC kn PX:=ZA _ _
def PY:ZS oC kn PX:=ZP _ _
abbrev ael:bk:=⟨[(0,[.slot 5 (.pc tI),.slot 6 (.pc tI),.slot 7 (.pc .bool)])],[],[]⟩
abbrev zT:bk:=⟨[(0,[.slot 5 (.pc tI),.slot 6 (.pc tI),.slot 7 (.pc .bool)])],[],[]⟩
def FB:ZE oC zT ael:=fun id=>match id with | 0=>fun c y=>y | _=>gC
def BV {α:Type} (l:RQ kn zT->α) (an:α->α->α) (c:ZD oC) (v:ZD kn):α:=bif (decide (v.1 < c.2.2.2.2.2.1)) then bif (decide (((0:Int)<=v.1)/\(v.1 < ((c.2.2.2.2.1.n:Nat):Int)))) then bp (nC ((),(c.2.1,(c.2.2.1,(c.2.2.2.1,(v.1,((),(c.2.2.2.2.1,(c.2.2.2.2.2.1,(v.1,((c.2.2.2.2.1.g (Int.toNat v.1)),())))))))))) ((W (v.1 + (1:Int))),((v.2.1.1,(v.2.1.2.1,(v.2.1.2.2.1,(v.2.1.2.2.2.1,(v.2.1.2.2.2.2.1,(v.2.1.2.2.2.2.2.1,(v.2.1.2.2.2.2.2.2.1,(v.2.1.2.2.2.2.2.2.2.1,(v.2.1.2.2.2.2.2.2.2.2.1,((),())))))))))),()))) 0 (fun u1=>l (.out (.exit 0 u1))) (bp (nC ((),(c.2.1,(c.2.2.1,(c.2.2.2.1,(v.1,((),(c.2.2.2.2.1,(c.2.2.2.2.2.1,(v.1,((c.2.2.2.2.1.g (Int.toNat v.1)),())))))))))) ((W (v.1 + (1:Int))),((v.2.1.1,(v.2.1.2.1,(v.2.1.2.2.1,(v.2.1.2.2.2.1,(v.2.1.2.2.2.2.1,(v.2.1.2.2.2.2.2.1,(v.2.1.2.2.2.2.2.2.1,(v.2.1.2.2.2.2.2.2.2.1,(v.2.1.2.2.2.2.2.2.2.2.1,((),())))))))))),()))) 2 (fun u2=>l (.next ((W (v.1 + (1:Int))),((u2.1.1,(u2.1.2.1,(u2.1.2.2.1,(u2.1.2.2.2.1,(u2.1.2.2.2.2.1,(u2.1.2.2.2.2.2.1,(u2.1.2.2.2.2.2.2.1,(u2.1.2.2.2.2.2.2.2.1,(u2.1.2.2.2.2.2.2.2.2.1,((),())))))))))),())))) (l .bad)) else l .bad else l (.out (.exit 0 (c.2.1,(c.2.2.1,(c.2.2.2.1,())))))
theorem amA:ZO Me 0 45 BU [.known (fm 0 [] sI fun x=>cD nB sK ZI ZI [] false (iZ x).1 (nC (iZ x).1 (iZ x).2) nB.dY)] Xa FB ZI ZI BV:=fun _ _=>by kernel_rfl
def BW (c:ZD oC) (v:ZD kn):RQ kn zT:=BV (fun r=>r) (fun _ _=>.bad) c v
theorem amB:SO Me 0 45 BU [.known (fm 0 [] sI fun x=>cD nB sK ZI ZI [] false (iZ x).1 (nC (iZ x).1 (iZ x).2) nB.dY)] Xa FB ZI ZI BW:=fun c v=>by rw [amA]; unfold BW BV; simp only [bE,bq,dqs]
def FC (c:ZD oC) (v:ZD kn):LQ zT:=bB (BW c) dw v
theorem awn:ay (amy)=[.loop BU]:=by kernel_rfl
noncomputable def awo:List Loop:=[lk 0 FB ZI ZI false PY FC]
def aem {α:Type} (l:Option (Mc).den->α) (an:α->α->α) (x:(aej).den):α:=bp (FC ((),((0:Int),((0:Int),(false,(x.1.2.2.2.2.2.2.2.2.1,(((x.1.2.2.2.2.2.2.2.2.1.n:Nat):Int),())))))) ((0:Int),((x.1.1,(x.1.2.1,(x.1.2.2.1,(x.1.2.2.2.1,(x.1.2.2.2.2.1,(x.1.2.2.2.2.2.1,(x.1.2.2.2.2.2.2.1,(x.1.2.2.2.2.2.2.2.1,(x.1.2.2.2.2.2.2.2.2.1,((),())))))))))),()))) 0 (fun u3=>l (some u3)) (l none)
theorem aHn:QO Me Tryz.f112 awo aej Mc aem:=fun _=>by kernel_rfl
def FD (x:(aej).den):Option (Mc).den:=aem (fun r=>r) (fun _ _=>none) x
theorem aHo:MOz Me Tryz.f112 awo FD:=fun x=>by rw [aHn]; unfold FD aem; simp only [Tree.sure,sus]
def aHp:=pO FD
def aHq:=vO (τ:=Mc) FD
def awp:Con:=⟨aej,Mc,aHp,aHq⟩
theorem aHr:aQ Tryz.prog 112 awp:=hO aiV aHm aHo fun G' hlo hF hE=>aP (by rw [awn]; exact .cons (lv hE hF hlo (aP (by rw [aek]; exact .cons (lv hE hF hlo (ln Tu) iZ WZ) (.nil))) PY amB) (.nil))
noncomputable def awq:=bW Tryz.f111
theorem PZ:bV 111 Tryz.f111 awq:=bX
abbrev FE:Ty:=T18
abbrev Mf:Ty:=T33
noncomputable def aen:Ctx:=Ctx.of []
theorem awr:SP aen:=aB f0
theorem aiW:ay (awq)=[]:=by kernel_rfl
noncomputable def aeo:List Loop:=[]
def amC {α:Type} (l:Option (Mf).den->α) (an:α->α->α) (x:(FE).den):α:=l (some ((x.1.1,(x.1.2.1,(x.1.2.2.1,(x.1.2.2.2.1,(x.1.2.2.2.2.1,(x.1.2.2.2.2.2.1,(x.1.2.2.2.2.2.2.1,(x.1.2.2.2.2.2.2.2.1,(x.1.2.2.2.2.2.2.2.2.1,((),())))))))))),()))
theorem aHs:QO aen Tryz.f111 aeo FE Mf amC:=fun _=>by kernel_rfl
def Mg (x:(FE).den):Option (Mf).den:=amC (fun r=>r) (fun _ _=>none) x
theorem aHt:MOz aen Tryz.f111 aeo Mg:=fun x=>by rw [aHs]; unfold Mg amC; simp only [Tree.sure,sus]
def amD:=pO Mg
def amE:=vO (τ:=Mf) Mg
def aHu:Con:=⟨FE,Mf,amD,amE⟩
theorem aZc:aQ Tryz.prog 111 aHu:=hO PZ awr aHt fun G' hlo hF hE=>aP (by rw [aiW]; exact .nil)
def aHv {α:Type} (l:Option (Ty.den T29×Ty.den .nil×Option MO)->α) (an:α->α->α) (x:(FE).den):α:=l (some ((x.1.1,(x.1.2.1,(x.1.2.2.1,(x.1.2.2.2.1,(x.1.2.2.2.2.1,(x.1.2.2.2.2.2.1,(x.1.2.2.2.2.2.2.1,(x.1.2.2.2.2.2.2.2.1,(x.1.2.2.2.2.2.2.2.2.1,((),())))))))))),(),(some (⟨tI,T4,fun _=>none⟩:MO))))
theorem aHw (x:(FE).den):runM Tryz.prog E0 aen Tryz.f111 aeo 2 129 [] T29 .nil 9 FE x=aHv .leaf .any x:=by kernel_rfl
theorem aws:(Ent.loc (fun _=>[300]) (Ft Tryz.f111.ntmps 300 9 tI (.agg vo) FE LW .nil amD amE (fun _=>true))).Ok Tryz.prog 111:=
 WO (E:=E0) bS awr bN bH PZ.a PZ.b (ls:=aeo) (t:=2) (T:=129) (rs:=[]) (by kernel_rfl) rfl (fun G' _ _ _=>aP (by rw [aiW]; exact .nil)) (fun x _=>by rw [aHw]; rfl)
noncomputable def c47:=bW Tryz.f47
theorem Mh:bV 47 Tryz.f47 c47:=bX
abbrev T36:Ty:=(.cons T17 T3)
abbrev T37:Ty:=(.cons T30 T0)
abbrev Tv:Ty:=T36
abbrev r47:Ty:=T37
noncomputable def G47:Ctx:=Ctx.of [(110,.pure awf),(111,.loc (fun _=>[300]) (Ft Tryz.f111.ntmps 300 9 tI (.agg vo) FE LW .nil amD amE (fun _=>true))),(112,.pure awp)]
theorem g47:SP G47:=aB (fa ⟨⟨aiT.c,aGY⟩,fa ⟨⟨PZ.c,aws⟩,fa ⟨⟨aiV.c,aHr⟩,f0⟩⟩⟩)
theorem awt:ay (c47)=[]:=by kernel_rfl
noncomputable def l47:List Loop:=[]
def Q47 {α:Type} (l:Option (r47).den->α) (an:α->α->α) (x:(Tv).den):α:=cl (LY).dflt (Fz (x.1,())) (fun u0=>bif (!u0.1) then l (some (((0:Int),((0:Int),((0:Int),((0:Int),((0:Int),((0:Int),((0:Int),((0:Int),((⟨0,fun i=>((0:Int),((0:Int),((0:Int),())))⟩:Sl _),((),())))))))))),((2:Int),()))) else bif (!x.2.1) then l (some (((0:Int),((0:Int),((0:Int),((0:Int),((0:Int),((0:Int),((0:Int),((0:Int),((⟨0,fun i=>((0:Int),((0:Int),((0:Int),())))⟩:Sl _),((),())))))))))),((2:Int),()))) else cl (Mf).dflt (Mg (x.1,())) (fun u1=>cl (Mc).dflt (FD ((u1.1.1,(u1.1.2.1,(u1.1.2.2.1,(u1.1.2.2.2.1,(u1.1.2.2.2.2.1,(u1.1.2.2.2.2.2.1,(u1.1.2.2.2.2.2.2.1,(u1.1.2.2.2.2.2.2.2.1,(u1.1.2.2.2.2.2.2.2.2.1,((),())))))))))),())) (fun u2=>bif u2.2.2.1 then l (some (((0:Int),((0:Int),((0:Int),((0:Int),((0:Int),((0:Int),((0:Int),((0:Int),((⟨0,fun i=>((0:Int),((0:Int),((0:Int),())))⟩:Sl _),((),())))))))))),((7:Int),()))) else l (some ((u1.1.1,(u1.1.2.1,(u1.1.2.2.1,(u1.1.2.2.2.1,(u1.1.2.2.2.2.1,(u1.1.2.2.2.2.2.1,(u1.1.2.2.2.2.2.2.1,(u1.1.2.2.2.2.2.2.2.1,(u1.1.2.2.2.2.2.2.2.2.1,((),())))))))))),((0:Int),())))) (l none)) (l none)) (l none)
theorem q47:QO G47 Tryz.f47 l47 Tv r47 Q47:=fun _=>by kernel_rfl
def Tw (x:(Tv).den):Option (r47).den:=Q47 (fun r=>r) (fun _ _=>none) x
theorem m47:MOz G47 Tryz.f47 l47 Tw:=fun x=>by rw [q47]; unfold Tw Q47; simp only [Tree.sure,sus]
def p47:=pO Tw
def v47:=vO (τ:=r47) Tw
def k47:Con:=⟨Tv,r47,p47,v47⟩
theorem h47:aQ Tryz.prog 47 k47:=hO Mh g47 m47 fun G' hlo hF hE=>aP (by rw [awt]; exact .nil)
def X47 {α:Type} (l:Option (Ty.den T29×Ty.den T0×Option MO)->α) (an:α->α->α) (x:(Tv).den):α:=cl (LY).dflt (Fz (x.1,())) (fun u0=>bif (!u0.1) then l (some (((0:Int),((0:Int),((0:Int),((0:Int),((0:Int),((0:Int),((0:Int),((0:Int),((⟨0,fun i=>((0:Int),((0:Int),((0:Int),())))⟩:Sl _),((),())))))))))),((2:Int),()),none)) else bif (!x.2.1) then l (some (((0:Int),((0:Int),((0:Int),((0:Int),((0:Int),((0:Int),((0:Int),((0:Int),((⟨0,fun i=>((0:Int),((0:Int),((0:Int),())))⟩:Sl _),((),())))))))))),((2:Int),()),none)) else cl (Mf).dflt (Mg (x.1,())) (fun u1=>cl (Mc).dflt (FD ((u1.1.1,(u1.1.2.1,(u1.1.2.2.1,(u1.1.2.2.2.1,(u1.1.2.2.2.2.1,(u1.1.2.2.2.2.2.1,(u1.1.2.2.2.2.2.2.1,(u1.1.2.2.2.2.2.2.2.1,(u1.1.2.2.2.2.2.2.2.2.1,((),())))))))))),())) (fun u2=>bif u2.2.2.1 then l (some (((0:Int),((0:Int),((0:Int),((0:Int),((0:Int),((0:Int),((0:Int),((0:Int),((⟨0,fun i=>((0:Int),((0:Int),((0:Int),())))⟩:Sl _),((),())))))))))),((7:Int),()),none)) else l (some ((u1.1.1,(u1.1.2.1,(u1.1.2.2.1,(u1.1.2.2.2.1,(u1.1.2.2.2.2.1,(u1.1.2.2.2.2.2.1,(u1.1.2.2.2.2.2.2.1,(u1.1.2.2.2.2.2.2.2.1,(u1.1.2.2.2.2.2.2.2.2.1,((),())))))))))),((0:Int),()),(some (⟨tI,T4,fun _=>none⟩:MO))))) (l none)) (l none)) (l none)
theorem x47 (x:(Tv).den):runM Tryz.prog E0 G47 Tryz.f47 l47 4 129 [.tmp 5] T29 T0 9 Tv x=X47 .leaf .any x:=by kernel_rfl
def Tx (z:LW.den×Da.den):Bool:=decide (z.2.1=(0:Int))
theorem aHy (x:(Tv).den) (hp:p47 x=true):(X47 Tree.leaf Tree.any x).gJ (· = some ((v47 x).1,(v47 x).2,bif Tx (v47 x) then some (⟨tI,.agg vo,fun _=>none⟩:MO) else none)):=by
 have hp:(Tw x).isSome=true:=hp
 have key:(Tw x).isSome=true->(X47 Tree.leaf Tree.any x).gJ (· = some (((Tw x).getD (r47).dflt).1,((Tw x).getD (r47).dflt).2,bif Tx ((Tw x).getD (r47).dflt) then some (⟨tI,.agg vo,fun _=>none⟩:MO) else none)):=by
  unfold Tw Q47 X47
  cases Fz (x.1,()) with
  | none=>intro h; cases h
  | some u0 =>
   rw [bU,bU]
   cases hu:u0.1 with
   | false=>intro _; rfl
   | true =>
    simp only [Bool.not_true,cond_false]
    cases hf:x.2.1 with
    | false=>intro _; rfl
    | true =>
     simp only [Bool.not_true,cond_false]
     cases Mg (x.1,()) with
     | none=>intro h; cases h
     | some u1 =>
      rw [bU,bU]
      cases FD ((u1.1.1,(u1.1.2.1,(u1.1.2.2.1,(u1.1.2.2.2.1,(u1.1.2.2.2.2.1,(u1.1.2.2.2.2.2.1,(u1.1.2.2.2.2.2.2.1,(u1.1.2.2.2.2.2.2.2.1,(u1.1.2.2.2.2.2.2.2.2.1,((),())))))))))),()) with
      | none=>intro h; cases h
      | some u2 =>
       rw [bU,bU]
       cases u2.2.2.1 with
       | true=>intro _; rfl
       | false=>intro _; rfl
 exact key hp
theorem aep:(Ent.loc (fun _=>[300]) (Ft Tryz.f47.ntmps 300 9 tI (.agg vo) Tv LW Da p47 v47 Tx)).Ok Tryz.prog 47:=
 WO (E:=E0) bS g47 bN bH Mh.a Mh.b (ls:=l47) (t:=4) (T:=129) (rs:=[.tmp 5]) (by kernel_rfl) rfl (fun G' _ _ _=>aP (by rw [awt]; exact .nil)) (fun x hp=>by rw [x47]; exact aHy x hp)
noncomputable def awv:=bW Tryz.f165
theorem Xb:bV 165 Tryz.f165 awv:=bX
abbrev Mi:Ty:=.nil
abbrev T38:Ty:=(.ptr T29)
abbrev T39:Ty:=(.ptr T0)
abbrev T40:Ty:=(.cons T39 .nil)
abbrev T41:Ty:=(.cons T38 T40)
abbrev Mj:Ty:=T41
abbrev lz:Ty:=(.cons T4 .nil)
abbrev aww:Ty:=lz
abbrev mQ:Ty:=.cons (.agg vo) .nil
abbrev qt:List bg:=[.slot 0 .jI,.slot 1 (.pc (.ptr LW)),.slot 2 (.pc (.ptr Da)),.slot 9 (.pc (.sl tC)),.slot 10 (.pc tI),.slot 11 (.pc tI)]
abbrev Xc:bk:=⟨[(0,[.tr mQ])],[.tr mQ],[.tr mQ]⟩
noncomputable def aeq:Code:=((Tryz.f165.body).bind dZ).getD .skip
noncomputable def Xd:Ctx:=Ctx.of [(166,.pure amw)]
theorem awx:Sound Tryz.prog Xd:=aB (fa ⟨⟨WV.c,awl⟩,f0⟩)
theorem awy (x:(WW).den):amv x=true:=by kernel_rfl
def aer (st:LW.den) (dy:Da.den) (c:tC.den):Int:=W (st.2.2.2.2.1 * (WX (dy.1,(c.1,()))).1)
def Ju (st:LW.den) (dy:Da.den) (c:tC.den):mQ.den:=((W (c.2.1 - aer st dy c),(W (c.2.2.1 + aer st dy c),())),())
theorem Jv (tr:Sl mQ.den) (st:LW.den) (dy:Da.den) (o:Sl tC.den) (n i:Int) :
  iz true Tryz.prog E0 Xd 0 38 [] (.tr mQ :: qt) Xc aeq [] (tr,(),st,dy,o,n,i,()) =
   bif decide (i < n) then bif decide (((0:Int)<=i)/\(i < ((o.n:Nat):Int))) then bif amv (dy.1,((o.g (Int.toNat i)).1,())) then
    .any (.leaf (.next (gN tr (Ju st dy (o.g (Int.toNat i))),(),st,dy,o,n,W (i + 1),())))
     (.any (.leaf (.out (.stop mQ (gN tr (Ju st dy (o.g (Int.toNat i))))))) (.leaf (.out (.bD mQ (gN tr (Ju st dy (o.g (Int.toNat i))))))))
    else .leaf (.out .bad) else .leaf (.out .bad) else .leaf (.out (.exit 0 [.tr mQ] (tr,()))):=by
 kernel_rfl
def awz (x:ZD qt):Bool:=decide ((show Int from x.2.2.2.2.2.1) < (show Int from x.2.2.2.2.1))
def BX (x:ZD qt):Bool:=decide ((show Int from x.2.2.2.2.1)=((x.2.2.2.1.n:Nat):Int)/\0<=(show Int from x.2.2.2.2.2.1)/\(show Int from x.2.2.2.2.1)<=140737488355328)
def wj (x:ZD qt):Option mQ.den:=some (Ju x.2.1 x.2.2.1 (x.2.2.2.1.g (Int.toNat x.2.2.2.2.2.1)))
def wk (x:ZD qt):(ZD qt):=((),x.2.1,x.2.2.1,x.2.2.2.1,x.2.2.2.2.1,(show Int from x.2.2.2.2.2.1) + 1,())
def Mk (x:ZD qt):Nat:=((show Int from x.2.2.2.2.1) - (show Int from x.2.2.2.2.2.1)).toNat
theorem aHz:ItR (fun tr x=>iz true Tryz.prog E0 Xd 0 38 [] (.tr mQ :: qt) Xc aeq [] (tr,x)) awz BX wj wk Mk 0 where
 inv:=by
  rintro ⟨⟨⟩,st,dy,o,n,i,⟨⟩⟩ h1 h2
  obtain ⟨a1,a2,a3⟩:(show Int from n)=((o.n:Nat):Int)/\0<=(show Int from i)/\(show Int from n)<=140737488355328:=of_decide_eq_true h1
  have a4:(show Int from i) < (show Int from n):=of_decide_eq_true h2
  refine ⟨decide_eq_true ⟨a1,?_,a3⟩,?_⟩
  ·show 0<=(show Int from i) + 1
   omega
  ·show ((show Int from n) - (show Int from i)).toNat=((show Int from n) - ((show Int from i) + 1)).toNat + 1
   omega
 hit:=by
  rintro tr ⟨⟨⟩,st,dy,o,n,i,⟨⟩⟩ v h1 h2 h3
  obtain ⟨a1,a2,a3⟩:(show Int from n)=((o.n:Nat):Int)/\0<=(show Int from i)/\(show Int from n)<=140737488355328:=of_decide_eq_true h1
  have a4:(show Int from i) < (show Int from n):=of_decide_eq_true h2
  obtain rfl:Ju st dy (o.g (Int.toNat i))=v:=Option.some.inj h3
  have hW:W ((show Int from i) + 1)=(show Int from i) + 1:=IntWalk.i64_in _ ⟨by omega,by omega⟩
  have b1:(0:Int)<=(show Int from i)/\(show Int from i) < ((o.n:Nat):Int):=by omega
  refine (Jv tr st dy o n i).trans ?_
  rw [show decide ((show Int from i) < (show Int from n))=true from h2,cond_true,show decide (((0:Int)<=(show Int from i))/\((show Int from i) < ((o.n:Nat):Int)))=true from decide_eq_true b1,cond_true,awy,cond_true,hW]
  rfl
 amh:=by
  rintro tr x h1 h2 h3
  cases h3
 fin:=by
  rintro tr ⟨⟨⟩,st,dy,o,n,i,⟨⟩⟩ h1 h2
  have a4:¬ ((show Int from i) < (show Int from n)):=of_decide_eq_false h2
  refine ⟨?_,?_⟩
  ·show ((show Int from n) - (show Int from i)).toNat=0
   omega
  ·refine (Jv tr st dy o n i).trans ?_
   rw [show decide ((show Int from i) < (show Int from n))=false from h2,cond_false]
def Ee (st:LW.den) (dy:Da.den):(ZD qt):=((),st,dy,st.2.2.2.2.2.2.2.2.1,((st.2.2.2.2.2.2.2.2.1.n:Nat):Int),(0:Int),())
def nD (st:LW.den) (dy:Da.den):Sl mQ.den:=nA wj wk (Mk (Ee st dy)) (Ee st dy) ⟨0,fun _=>mQ.dflt⟩
def aiX (_:(Mi).den) (y:(Mj).den):Bool:=BX (Ee y.1 y.2.1)
def aiY (_:(Mi).den) (y:(Mj).den):Sl (aww).den:=nD y.1 y.2.1
def i165:Dc:=⟨Mi,Mj,aww,aiX,aiY⟩
noncomputable abbrev Xe:List Loop:=[.known (mc 0 [] (.tr mQ :: qt) (To BX wj wk Mk 0))]
theorem amG (st:LW.den) (dy:Da.den):Tg Tryz.prog E0 Xd Tryz.f165 Xe i165 () (st,(dy,())) =
  bif BX (Ee st dy) then .any (.leaf (.full ⟨mQ,true,nD st dy⟩)) (.any (.leaf (.stop ⟨mQ,false,nD st dy⟩)) (.leaf (.bD ⟨mQ,false,nD st dy⟩)))
  else .leaf .bad:=by
 kernel_rfl
theorem Xf (G':Gh) (h0:G'.lo=0) (hok:G'.Ok Tryz.prog):ff Tryz.prog 38 G' 165 Fence.wide 0 awv Xe:=by
 have hE:Env Tryz.prog E0 Xd G' Fence.wide:=⟨bS,awx,bN,bH,hok,.wide,fun _=>rfl⟩
 have l0:dF Tryz.prog 38 G' 165 Fence.wide 0 (.loop aeq) (mc 0 [] (.tr mQ :: qt) (To BX wj wk Mk 0)):=by
  have:=vR (fid:=165) (r:=0) (N:=38) (bw:=[]) hE (tr:=true) (.inl rfl) (ps:=.tr mQ :: qt) (wy:=Xc) (body:=aeq) (ls:=[]) cO (by kernel_rfl) (by kernel_rfl) (To BX wj wk Mk 0) (itM Mk) (by rw [h0]; exact Jp aHz)
  rw [h0] at this; exact this
 exact gi l0 (by kernel_rfl) (by kernel_rfl)
theorem aHA:xz Tryz.prog 165 i165:=by
 refine jn bS awx bN bH (E:=E0) Xb.a Xb.b (ls:=Xe) i165 rfl rfl (Nat.le_of_ble_eq_true (by kernel_rfl)) (by kernel_rfl) (fun G' h0 hok _=>Xf G' h0 hok) ?_
 rintro ⟨⟩ ⟨st,dy,⟨⟩⟩ hp
 rw [amG]
 have hp:BX (Ee st dy)=true:=hp
 rw [hp,cond_true]
 exact ⟨⟨_,rfl,rfl⟩,⟨_,rfl,List.prefix_refl _⟩,_,rfl,List.prefix_refl _⟩
noncomputable def aHB:=bW Tryz.f113
theorem aiZ:bV 113 Tryz.f113 aHB:=bX
abbrev T43:Ty:=(.seq lz)
abbrev T44:Ty:=(.cons T43 .nil)
abbrev aes:Ty:=T37
abbrev Tz:Ty:=T44
noncomputable def amH:Ctx:=Ctx.of [(165,.iter i165)]
theorem aHC:SP amH:=aB (fa ⟨⟨Xb.c,aHA⟩,f0⟩)
def aet {α:Type} (l:Option (Tz).den->α) (an:α->α->α) (x:(aes).den):α:=bif (aiX () ((x.1.1,(x.1.2.1,(x.1.2.2.1,(x.1.2.2.2.1,(x.1.2.2.2.2.1,(x.1.2.2.2.2.2.1,(x.1.2.2.2.2.2.2.1,(x.1.2.2.2.2.2.2.2.1,(x.1.2.2.2.2.2.2.2.2.1,((),())))))))))),(x.2,()))) then l (some ((aiY () ((x.1.1,(x.1.2.1,(x.1.2.2.1,(x.1.2.2.2.1,(x.1.2.2.2.2.1,(x.1.2.2.2.2.2.1,(x.1.2.2.2.2.2.2.1,(x.1.2.2.2.2.2.2.2.1,(x.1.2.2.2.2.2.2.2.2.1,((),())))))))))),(x.2,()))),())) else l none
theorem aHD:QO amH Tryz.f113 [] aes Tz aet:=fun _=>by kernel_rfl
def Ml (x:(aes).den):Option (Tz).den:=aet (fun r=>r) (fun _ _=>none) x
theorem aHE:MOz amH Tryz.f113 [] Ml:=fun x=>by rw [aHD]; unfold Ml aet; simp only [Tree.sure,sus]
def aHF:=pO Ml
def aHG:=vO (τ:=Tz) Ml
def awA:Con:=⟨aes,Tz,aHF,aHG⟩
theorem aHH:aQ Tryz.prog 113 awA:=hO aiZ aHC aHE l0
noncomputable def c49:=bW Tryz.f49
theorem Mm:bV 49 Tryz.f49 c49:=bX
abbrev r49:Ty:=lz
abbrev rD:List bg:=[.cells 0 [.pc tI,.pc tI,.pc tI,.pc tI,.pc tI,.pc tI,.pc tI,.pc tI,.pc (.sl tC),.mp 300],.slot 1 (.pc tI),.mp 300 tI (.agg vo)]
abbrev Xg:List (Nat×Ty):=[]
noncomputable def G49:Ctx:=Ctx.of [(113,.pure awA),(114,.pure aec),(115,.pure amt)]
theorem g49:SP G49:=aB (fa ⟨⟨aiZ.c,aHH⟩,fa ⟨⟨PW.c,amq⟩,fa ⟨⟨WT.c,awk⟩,f0⟩⟩⟩)
noncomputable def Qa:Code:=kK ((ay (c49))[0]?)
noncomputable def Mn:Code:=sH ((ay (c49))[0]?)
abbrev jN:List bg:=[.slot 1 (.pc tI),.slot 2 (.ptr 402),.slot 4 (.ptr 404),.slot 7 (.ptr 530),.box 402 [.pc tI,.pc tI,.pc tI,.pc tI,.pc tI,.pc tI,.pc tI,.pc tI,.pc (.sl T2),.mp 300],.box 404 [.pc tI,.pc tI],.box 530 [.pc tI,.pc tI],.mp 300 tI T4]
theorem amI:ay (Qa)=[]:=by kernel_rfl
def Qb {α:Type} (l:RO jN->α) (an:α->α->α) (x:ZD jN) (it:Ty.den lz):α:=cl (Jr).dflt (FA ((⟨2,fun i=>List.getD [(x.2.2.2.2.2.2.1.1,()),(it.1.1,())] i (x.2.2.2.2.2.2.1.1,())⟩:Sl _),())) (fun u0=>cl (LZ).dflt (Js ((⟨2,fun i=>List.getD [x.2.2.2.2.2.2.1.2,it.1.2] i x.2.2.2.2.2.2.1.2⟩:Sl _),())) (fun u1=>l (.next (x.1,((),((),((),((x.2.2.2.2.1.1,(x.2.2.2.2.1.2.1,(x.2.2.2.2.1.2.2.1,(x.2.2.2.2.1.2.2.2.1,(x.2.2.2.2.1.2.2.2.2.1,(x.2.2.2.2.1.2.2.2.2.2.1,(x.2.2.2.2.1.2.2.2.2.2.2.1,(x.2.2.2.2.1.2.2.2.2.2.2.2.1,(x.2.2.2.2.1.2.2.2.2.2.2.2.2.1,((),())))))))))),(x.2.2.2.2.2.1,((u0.1,u1),x.2.2.2.2.2.2.2))))))))) (l .bad)) (l .bad)
theorem awC (x:ZD jN) (it:Ty.den lz):gE Tryz.prog E0 G49 400 500000 41 [22] Mn Qa [] [] lz jN x it=Qb .leaf .any x it:=by kernel_rfl
def Qc (x:ZD jN) (it:Ty.den lz):RO jN:=Qb (fun r=>r) (fun _ _=>.bad) x it
theorem awD (x:ZD jN) (it:Ty.den lz):(gE Tryz.prog E0 G49 400 500000 41 [22] Mn Qa [] [] lz jN x it).cT .bad=Qc x it:=by rw [awC]; unfold Qc Qb; simp only [ew,Tree.cT,gH,cZ,dK,de,dg,dL,dh,dM,ez,dm]
def Jw (x:ZD jN) (l:List (Ty.den lz)):RO jN:=cJ Qc x l
theorem aHI:ay (c49)=[.rangeFunc (.tmp 21) #[22] Mn Qa]:=by kernel_rfl
noncomputable def l49:List Loop:=[.known (ow 400 [] 21 lz jN [] [] (fun x l=>Jw x l))]
def Q49 {α:Type} (l:GO r49 (aD rD)->α) (an:α->α->α) (x:ZD rD):α:=cl (Ty.dflt T4) (x.2.2.1 x.2.1) (fun u2=>l (.ok (u2,()) x.2.2)) (cl (Tz).dflt (Ml ((x.1.1,(x.1.2.1,(x.1.2.2.1,(x.1.2.2.2.1,(x.1.2.2.2.2.1,(x.1.2.2.2.2.2.1,(x.1.2.2.2.2.2.2.1,(x.1.2.2.2.2.2.2.2.1,(x.1.2.2.2.2.2.2.2.2.1,((),())))))))))),(x.2.1,()))) (fun u3=>eo (Jw (x.2.1,((),((),((),((x.1.1,(x.1.2.1,(x.1.2.2.1,(x.1.2.2.2.1,(x.1.2.2.2.2.1,(x.1.2.2.2.2.2.1,(x.1.2.2.2.2.2.2.1,(x.1.2.2.2.2.2.2.2.1,(x.1.2.2.2.2.2.2.2.2.1,((),())))))))))),(((0:Int),((0:Int),())),(((-2000:Int),((2000:Int),())),x.2.2))))))) (Sl.list u3.1)) (fun u4=>l (.ok (u4.2.2.2.2.2.2.1,()) ((fP (nJ tI) u4.2.2.2.2.2.2.2.1 u4.1 u4.2.2.2.2.2.2.1),()))) (eM (Jw (x.2.1,((),((),((),((x.1.1,(x.1.2.1,(x.1.2.2.1,(x.1.2.2.2.1,(x.1.2.2.2.2.1,(x.1.2.2.2.2.2.1,(x.1.2.2.2.2.2.2.1,(x.1.2.2.2.2.2.2.2.1,(x.1.2.2.2.2.2.2.2.2.1,((),())))))))))),(((0:Int),((0:Int),())),(((-2000:Int),((2000:Int),())),x.2.2))))))) (Sl.list u3.1)) (fun u5=>l (.ok (u5.2.2.2.2.2.1,()) u5.2.2.2.2.2.2.2)) (l .bad))) (l .bad))
theorem q49 (x:ZD rD):ur Tryz.prog E0 G49 Tryz.f49 l49 400 r49 rD x=Q49 .leaf .any x:=by kernel_rfl
def Qd (x:ZD rD):GO r49 (aD rD):=Q49 (fun r=>r) (fun _ _=>.bad) x
theorem m49 (x:ZD rD):(ur Tryz.prog E0 G49 Tryz.f49 l49 400 r49 rD x).cT .bad=Qd x:=by rw [q49]; unfold Qd Q49; simp only [ew,Tree.cT,gH,cZ,dK,de,dg,dL,dh,dM,ez,dm]
theorem h49:dP Tryz.prog 49 (fT Tryz.f49.ntmps r49 rD Xg Qd):=gT (E:=E0) bS g49 bN bH Mm.a Mm.b (by kernel_rfl) (fun G' hlo hF hE=>aP (by rw [aHI]; exact .cons (kI hE hF hlo Mm.a (by kernel_rfl) (by kernel_rfl) (by kernel_rfl) (by kernel_rfl) (by kernel_rfl) (fun G' hlo hF l hE=>cO) (fun G' hlo hF l hE=>aP (by rw [amI]; exact .nil)) awD) (.nil))) Xg m49
noncomputable def aHJ:=bW Tryz.f128
theorem ai0:bV 128 Tryz.f128 aHJ:=bX
abbrev T45:Ty:=(.cons T4 T3)
abbrev aev:Ty:=T45
abbrev zB:Ty:=T0
noncomputable def amJ:Ctx:=Ctx.of []
theorem aHK:SP amJ:=aB f0
def amK {α:Type} (l:Option (zB).den->α) (an:α->α->α) (x:(aev).den):α:=bif x.2.1 then l (some (x.1.1,())) else l (some x.1.2)
theorem aHL:QO amJ Tryz.f128 [] aev zB amK:=fun _=>by kernel_rfl
def BY (x:(aev).den):Option (zB).den:=amK (fun r=>r) (fun _ _=>none) x
theorem aHM:MOz amJ Tryz.f128 [] BY:=fun x=>by rw [aHL]; unfold BY amK; simp only [Tree.sure,sus]
def aHN:=pO BY
def aHO:=vO (τ:=zB) BY
def awE:Con:=⟨aev,zB,aHN,aHO⟩
theorem h128:aQ Tryz.prog 128 awE:=hO ai0 aHK aHM l0
noncomputable def c72:=bW Tryz.f72
theorem amL:bV 72 Tryz.f72 c72:=bX
abbrev T46:Ty:=(.cons tI T2)
abbrev T47:Ty:=(.cons tI T46)
abbrev T48:Ty:=(.cons tI T47)
abbrev Mo:Ty:=(.cons tI T48)
abbrev T50:Ty:=(.agg Mo)
abbrev T51:Ty:=(.cons T50 .nil)
abbrev r72:Ty:=T51
abbrev BZ:List bg:=[.cells 0 [.pc tI,.pc tI,.pc tI,.pc tI,.pc tI,.pc tI,.pc tI,.pc tI,.pc (.sl tC),.mp 300],.agg 1 tGR,.slot 2 (.pc .bool),.slot 3 (.pc .bool),.slot 4 (.pc .bool),.slot 5 (.pc .bool),.mp 300 tI (.agg vo)]
abbrev Xh:List (Nat×Ty):=[]
noncomputable def G72:Ctx:=Ctx.of [(49,.loc (fun _=>cz rD) (BO Tryz.f49.ntmps r49 rD Qd)),(128,.pure awE)]
theorem g72:SP G72:=aB (fa ⟨⟨Mm.c,(vZ (by kernel_rfl) h49)⟩,fa ⟨⟨ai0.c,h128⟩,f0⟩⟩)
theorem aHQ:ay (c72)=[]:=by kernel_rfl
noncomputable def l72:List Loop:=[]
def Q72 {α:Type} (l:GO r72 (aD BZ)->α) (an:α->α->α) (x:ZD BZ):α:=gF (Qd ((x.1.1,(x.1.2.1,(x.1.2.2.1,(x.1.2.2.2.1,(x.1.2.2.2.2.1,(x.1.2.2.2.2.2.1,(x.1.2.2.2.2.2.2.1,(x.1.2.2.2.2.2.2.2.1,(x.1.2.2.2.2.2.2.2.2.1,((),())))))))))),(x.2.1.1,x.2.2.2.2.2.2))) (fun u0=>cl (zB).dflt (BY (u0.1.1,((!x.2.2.1),()))) (fun u1=>cl (zB).dflt (BY (((W ((0:Int) - x.1.2.2.2.2.2.1)),(x.1.2.2.2.2.2.1,())),((!x.2.2.1),()))) (fun u2=>cl (zB).dflt (BY ((x.1.2.2.1,(x.1.2.2.2.1,())),(x.2.2.1,()))) (fun u3=>cl (zB).dflt (BY ((x.1.1,(x.1.2.1,())),(x.2.2.2.1,()))) (fun u4=>cl (zB).dflt (BY ((x.2.1.2.2.2.2.1,(x.2.1.2.2.2.2.2.1,())),((!x.2.2.1),()))) (fun u5=>cl (zB).dflt (BY ((x.2.1.2.2.2.2.2.2.1,(x.2.1.2.2.2.2.2.2.2.1,())),(x.2.2.2.2.1,()))) (fun u6=>cl (zB).dflt (BY (x.2.1.2.2.2.2.2.2.2.2,(x.2.2.2.2.2.1,()))) (fun u7=>l (.ok ((u1.1,(u2.1,(u3.1,(u4.1,(u5.1,(u6.1,u7)))))),()) u0.2)) (l .bad)) (l .bad)) (l .bad)) (l .bad)) (l .bad)) (l .bad)) (l .bad)) (l .bad)
theorem q72 (x:ZD BZ):ur Tryz.prog E0 G72 Tryz.f72 l72 400 r72 BZ x=Q72 .leaf .any x:=by kernel_rfl
def U72 (x:ZD BZ):GO r72 (aD BZ):=Q72 (fun r=>r) (fun _ _=>.bad) x
theorem m72 (x:ZD BZ):(ur Tryz.prog E0 G72 Tryz.f72 l72 400 r72 BZ x).cT .bad=U72 x:=by rw [q72]; unfold U72 Q72; simp only [ew,Tree.cT,gH,cZ,dK,de,dg,dL,dh,dM,ez,dm]
theorem h72:dP Tryz.prog 72 (fT Tryz.f72.ntmps r72 BZ Xh U72):=gT (E:=E0) bS g72 bN bH amL.a amL.b (by kernel_rfl) (fun G' hlo hF hE=>aP (by rw [aHQ]; exact .nil)) Xh m72
noncomputable def aHS:=bW Tryz.f173
theorem Jx:bV 173 Tryz.f173 aHS:=bX
abbrev aex:Ty:=T1
abbrev Dv:Ty:=T0
noncomputable def amM:Ctx:=Ctx.of []
theorem aHT:SP amM:=aB f0
def amN {α:Type} (l:Option (Dv).den->α) (an:α->α->α) (x:(aex).den):α:=bif (decide (x.2.1=(0:Int))) then l none else bif (decide (x.2.1=(0:Int))) then l none else bif (decide ((Int.tmod x.1 x.2.1) < (0:Int))) then l (some ((W ((W (Int.tdiv x.1 x.2.1)) - (1:Int))),())) else l (some ((W (Int.tdiv x.1 x.2.1)),()))
theorem aHU:QO amM Tryz.f173 [] aex Dv amN:=fun _=>by kernel_rfl
def FF (x:(aex).den):Option (Dv).den:=amN (fun r=>r) (fun _ _=>none) x
theorem aHV:MOz amM Tryz.f173 [] FF:=fun x=>by rw [aHU]; unfold FF amN; simp only [Tree.sure,sus]
def aHW:=pO FF
def aHX:=vO (τ:=Dv) FF
def Xi:Con:=⟨aex,Dv,aHW,aHX⟩
theorem aey:aQ Tryz.prog 173 Xi:=hO Jx aHT aHV l0
noncomputable def aHY:=bW Tryz.f191
theorem ai2:bV 191 Tryz.f191 aHY:=bX
abbrev T52:Ty:=(.cons tI Mo)
abbrev T53:Ty:=(.cons tI T52)
abbrev T54:Ty:=(.cons tI T53)
abbrev T55:Ty:=(.cons tI T54)
abbrev T56:Ty:=(.cons tI T55)
abbrev T57:Ty:=(.cons tI T56)
abbrev T58:Ty:=(.cons tI T57)
abbrev T59:Ty:=(.cons tI T58)
abbrev T60:Ty:=(.cons tI T59)
abbrev T61:Ty:=(.cons tI T60)
abbrev T62:Ty:=(.agg T61)
abbrev T63:Ty:=(.cons T62 .nil)
abbrev aez:Ty:=.nil
abbrev TA:Ty:=T63
noncomputable def amO:Ctx:=Ctx.of []
theorem aH0:SP amO:=aB f0
def amP {α:Type} (l:Option (TA).den->α) (an:α->α->α) (x:(aez).den):α:=l (some (((38:Int),((61:Int),((96:Int),((144:Int),((216:Int),((316:Int),((458:Int),((654:Int),((921:Int),((1279:Int),((1753:Int),((2376:Int),((3182:Int),((4218:Int),((5532:Int),((7188:Int),((9251:Int),()))))))))))))))))),()))
theorem aH1:QO amO Tryz.f191 [] aez TA amP:=fun _=>by kernel_rfl
def Xj (x:(aez).den):Option (TA).den:=amP (fun r=>r) (fun _ _=>none) x
theorem aH2:MOz amO Tryz.f191 [] Xj:=fun x=>by rw [aH1]; unfold Xj amP; simp only [Tree.sure,sus]
def aH3:=pO Xj
def aH4:=vO (τ:=TA) Xj
def awF:Con:=⟨aez,TA,aH3,aH4⟩
theorem aH5:aQ Tryz.prog 191 awF:=hO ai2 aH0 aH2 l0
noncomputable def aH6:=bW Tryz.f174
theorem ai3:bV 174 Tryz.f174 aH6:=bX
abbrev aeA:Ty:=T0
abbrev Mp:Ty:=T0
noncomputable def amQ:Ctx:=Ctx.of [(191,.pure awF)]
theorem aH7:SP amQ:=aB (fa ⟨⟨ai2.c,aH5⟩,f0⟩)
def amR {α:Type} (l:Option (Mp).den->α) (an:α->α->α) (x:(aeA).den):α:=cl (TA).dflt (Xj ()) (fun u0=>bif (decide ((Int.tmod (W (x.1 + (300:Int))) (50:Int))=(0:Int))) then bif (decide (((0:Int)<=(W (Int.tdiv (W (x.1 + (300:Int))) (50:Int))))/\((W (Int.tdiv (W (x.1 + (300:Int))) (50:Int))) < (17:Int)))) then bif (decide ((0 + ((Int.toNat (W (Int.tdiv (W (x.1 + (300:Int))) (50:Int)))) * 1)) < 17)) then l (some ((List.getD [u0.1.1,u0.1.2.1,u0.1.2.2.1,u0.1.2.2.2.1,u0.1.2.2.2.2.1,u0.1.2.2.2.2.2.1,u0.1.2.2.2.2.2.2.1,u0.1.2.2.2.2.2.2.2.1,u0.1.2.2.2.2.2.2.2.2.1,u0.1.2.2.2.2.2.2.2.2.2.1,u0.1.2.2.2.2.2.2.2.2.2.2.1,u0.1.2.2.2.2.2.2.2.2.2.2.2.1,u0.1.2.2.2.2.2.2.2.2.2.2.2.2.1,u0.1.2.2.2.2.2.2.2.2.2.2.2.2.2.1,u0.1.2.2.2.2.2.2.2.2.2.2.2.2.2.2.1,u0.1.2.2.2.2.2.2.2.2.2.2.2.2.2.2.2.1,u0.1.2.2.2.2.2.2.2.2.2.2.2.2.2.2.2.2.1] (0 + ((Int.toNat (W (Int.tdiv (W (x.1 + (300:Int))) (50:Int)))) * 1)) u0.1.1),())) else l none else l none else bif (decide (((0:Int)<=(W (Int.tdiv (W (x.1 + (300:Int))) (50:Int))))/\((W (Int.tdiv (W (x.1 + (300:Int))) (50:Int))) < (17:Int)))) then bif (decide ((0 + ((Int.toNat (W (Int.tdiv (W (x.1 + (300:Int))) (50:Int)))) * 1)) < 17)) then bif (decide (((0:Int)<=(W ((W (Int.tdiv (W (x.1 + (300:Int))) (50:Int))) + (1:Int))))/\((W ((W (Int.tdiv (W (x.1 + (300:Int))) (50:Int))) + (1:Int))) < (17:Int)))) then bif (decide ((0 + ((Int.toNat (W ((W (Int.tdiv (W (x.1 + (300:Int))) (50:Int))) + (1:Int)))) * 1)) < 17)) then bif (decide (((0:Int)<=(W (Int.tdiv (W (x.1 + (300:Int))) (50:Int))))/\((W (Int.tdiv (W (x.1 + (300:Int))) (50:Int))) < (17:Int)))) then bif (decide ((0 + ((Int.toNat (W (Int.tdiv (W (x.1 + (300:Int))) (50:Int)))) * 1)) < 17)) then l (some ((W ((List.getD [u0.1.1,u0.1.2.1,u0.1.2.2.1,u0.1.2.2.2.1,u0.1.2.2.2.2.1,u0.1.2.2.2.2.2.1,u0.1.2.2.2.2.2.2.1,u0.1.2.2.2.2.2.2.2.1,u0.1.2.2.2.2.2.2.2.2.1,u0.1.2.2.2.2.2.2.2.2.2.1,u0.1.2.2.2.2.2.2.2.2.2.2.1,u0.1.2.2.2.2.2.2.2.2.2.2.2.1,u0.1.2.2.2.2.2.2.2.2.2.2.2.2.1,u0.1.2.2.2.2.2.2.2.2.2.2.2.2.2.1,u0.1.2.2.2.2.2.2.2.2.2.2.2.2.2.2.1,u0.1.2.2.2.2.2.2.2.2.2.2.2.2.2.2.2.1,u0.1.2.2.2.2.2.2.2.2.2.2.2.2.2.2.2.2.1] (0 + ((Int.toNat (W (Int.tdiv (W (x.1 + (300:Int))) (50:Int)))) * 1)) u0.1.1) + (W (Int.tdiv (W ((W ((List.getD [u0.1.1,u0.1.2.1,u0.1.2.2.1,u0.1.2.2.2.1,u0.1.2.2.2.2.1,u0.1.2.2.2.2.2.1,u0.1.2.2.2.2.2.2.1,u0.1.2.2.2.2.2.2.2.1,u0.1.2.2.2.2.2.2.2.2.1,u0.1.2.2.2.2.2.2.2.2.2.1,u0.1.2.2.2.2.2.2.2.2.2.2.1,u0.1.2.2.2.2.2.2.2.2.2.2.2.1,u0.1.2.2.2.2.2.2.2.2.2.2.2.2.1,u0.1.2.2.2.2.2.2.2.2.2.2.2.2.2.1,u0.1.2.2.2.2.2.2.2.2.2.2.2.2.2.2.1,u0.1.2.2.2.2.2.2.2.2.2.2.2.2.2.2.2.1,u0.1.2.2.2.2.2.2.2.2.2.2.2.2.2.2.2.2.1] (0 + ((Int.toNat (W ((W (Int.tdiv (W (x.1 + (300:Int))) (50:Int))) + (1:Int)))) * 1)) u0.1.1) - (List.getD [u0.1.1,u0.1.2.1,u0.1.2.2.1,u0.1.2.2.2.1,u0.1.2.2.2.2.1,u0.1.2.2.2.2.2.1,u0.1.2.2.2.2.2.2.1,u0.1.2.2.2.2.2.2.2.1,u0.1.2.2.2.2.2.2.2.2.1,u0.1.2.2.2.2.2.2.2.2.2.1,u0.1.2.2.2.2.2.2.2.2.2.2.1,u0.1.2.2.2.2.2.2.2.2.2.2.2.1,u0.1.2.2.2.2.2.2.2.2.2.2.2.2.1,u0.1.2.2.2.2.2.2.2.2.2.2.2.2.2.1,u0.1.2.2.2.2.2.2.2.2.2.2.2.2.2.2.1,u0.1.2.2.2.2.2.2.2.2.2.2.2.2.2.2.2.1,u0.1.2.2.2.2.2.2.2.2.2.2.2.2.2.2.2.2.1] (0 + ((Int.toNat (W (Int.tdiv (W (x.1 + (300:Int))) (50:Int)))) * 1)) u0.1.1))) * (Int.tmod (W (x.1 + (300:Int))) (50:Int)))) (50:Int))))),())) else l none else l none else l none else l none else l none else l none) (l none)
theorem aH8:QO amQ Tryz.f174 [] aeA Mp amR:=fun _=>by kernel_rfl
def TB (x:(aeA).den):Option (Mp).den:=amR (fun r=>r) (fun _ _=>none) x
theorem aH9:MOz amQ Tryz.f174 [] TB:=fun x=>by rw [aH8]; unfold TB amR; simp only [Tree.sure,sus]
def aIa:=pO TB
def aIb:=vO (τ:=Mp) TB
def awG:Con:=⟨aeA,Mp,aIa,aIb⟩
theorem aIc:aQ Tryz.prog 174 awG:=hO ai3 aH7 aH9 l0
noncomputable def aId:=bW Tryz.f170
theorem ai4:bV 170 Tryz.f170 aId:=bX
abbrev T64:Ty:=(.agg T52)
abbrev T65:Ty:=(.cons T64 T0)
abbrev aeB:Ty:=T65
abbrev TC:Ty:=T0
noncomputable def amS:Ctx:=Ctx.of []
theorem aIe:SP amS:=aB f0
def amT {α:Type} (l:Option (TC).den->α) (an:α->α->α) (x:(aeB).den):α:=l (some ((W ((W (x.1.2.2.2.2.2.2.2.1 - x.1.1)) - x.1.2.1)),()))
theorem aIf:QO amS Tryz.f170 [] aeB TC amT:=fun _=>by kernel_rfl
def Xk (x:(aeB).den):Option (TC).den:=amT (fun r=>r) (fun _ _=>none) x
theorem aIg:MOz amS Tryz.f170 [] Xk:=fun x=>by rw [aIf]; unfold Xk amT; simp only [Tree.sure,sus]
def aIh:=pO Xk
def aIi:=vO (τ:=TC) Xk
def awI:Con:=⟨aeB,TC,aIh,aIi⟩
theorem aIj:aQ Tryz.prog 170 awI:=hO ai4 aIe aIg l0
noncomputable def aIk:=bW Tryz.f171
theorem ai5:bV 171 Tryz.f171 aIk:=bX
abbrev aeC:Ty:=T65
abbrev TD:Ty:=T0
noncomputable def amU:Ctx:=Ctx.of [(173,.pure Xi)]
theorem aIl:SP amU:=aB (fa ⟨⟨Jx.c,aey⟩,f0⟩)
def amV {α:Type} (l:Option (TD).den->α) (an:α->α->α) (x:(aeC).den):α:=cl (Dv).dflt (FF ((W ((W (x.2.1 * x.1.2.2.2.2.1)) * (163:Int))),((10000000:Int),()))) (fun u0=>l (some ((W (x.2.1 - u0.1)),()))) (l none)
theorem aIm:QO amU Tryz.f171 [] aeC TD amV:=fun _=>by kernel_rfl
def Xl (x:(aeC).den):Option (TD).den:=amV (fun r=>r) (fun _ _=>none) x
theorem aIn:MOz amU Tryz.f171 [] Xl:=fun x=>by rw [aIm]; unfold Xl amV; simp only [Tree.sure,sus]
def aIo:=pO Xl
def aIp:=vO (τ:=TD) Xl
def awJ:Con:=⟨aeC,TD,aIo,aIp⟩
theorem aIq:aQ Tryz.prog 171 awJ:=hO ai5 aIl aIn l0
noncomputable def aIr:=bW Tryz.f172
theorem ai6:bV 172 Tryz.f172 aIr:=bX
abbrev aeD:Ty:=T65
abbrev TE:Ty:=T0
noncomputable def amW:Ctx:=Ctx.of [(173,.pure Xi)]
theorem aIs:SP amW:=aB (fa ⟨⟨Jx.c,aey⟩,f0⟩)
def amX {α:Type} (l:Option (TE).den->α) (an:α->α->α) (x:(aeD).den):α:=cl (Dv).dflt (FF ((W (x.2.1 * x.1.2.2.1)),((1000000:Int),()))) (fun u0=>l (some ((W (x.2.1 + u0.1)),()))) (l none)
theorem aIt:QO amW Tryz.f172 [] aeD TE amX:=fun _=>by kernel_rfl
def Xm (x:(aeD).den):Option (TE).den:=amX (fun r=>r) (fun _ _=>none) x
theorem aIu:MOz amW Tryz.f172 [] Xm:=fun x=>by rw [aIt]; unfold Xm amX; simp only [Tree.sure,sus]
def aIv:=pO Xm
def aIw:=vO (τ:=TE) Xm
def awK:Con:=⟨aeD,TE,aIv,aIw⟩
theorem aIx:aQ Tryz.prog 172 awK:=hO ai6 aIs aIu l0
noncomputable def amY:=bW Tryz.f125
theorem ai7:bV 125 Tryz.f125 amY:=bX
abbrev T66:Ty:=(.cons T64 .nil)
abbrev aeE:Ty:=T66
abbrev TF:Ty:=T0
noncomputable def amZ:Ctx:=Ctx.of [(170,.pure awI),(171,.pure awJ),(172,.pure awK)]
theorem aIy:SP amZ:=aB (fa ⟨⟨ai4.c,aIj⟩,fa ⟨⟨ai5.c,aIq⟩,fa ⟨⟨ai6.c,aIx⟩,f0⟩⟩⟩)
noncomputable def Xn:Code:=bn ((ay (amY))[0]?)
theorem aeF:ay (Xn)=[]:=by kernel_rfl
theorem awL:ay (amY)=[.loop Xn]:=by kernel_rfl
noncomputable def awM:List Loop:=[.ia 4 []]
def am0 {α:Type} (l:Option (TF).den->α) (an:α->α->α) (x:(aeE).den):α:=cl (TC).dflt (Xk (x.1,((0:Int),()))) (fun u0=>cl (TD).dflt (Xl (x.1,u0)) (fun u1=>cl (TE).dflt (Xm (x.1,u1)) (fun u2=>l (some u2)) (l none)) (l none)) (l none)
theorem aIz:QO amZ Tryz.f125 awM aeE TF am0:=fun _=>by kernel_rfl
def Xo (x:(aeE).den):Option (TF).den:=am0 (fun r=>r) (fun _ _=>none) x
theorem aIA:MOz amZ Tryz.f125 awM Xo:=fun x=>by rw [aIz]; unfold Xo am0; simp only [Tree.sure,sus]
def aIB:=pO Xo
def aIC:=vO (τ:=TF) Xo
def awN:Con:=⟨aeE,TF,aIB,aIC⟩
theorem aID:aQ Tryz.prog 125 awN:=hO ai7 aIy aIA fun G' hlo hF hE=>aP (by rw [awL]; exact .WH (aP (by rw [aeF]; exact .nil)) (.nil))
noncomputable def aIE:=bW Tryz.f126
theorem ai8:bV 126 Tryz.f126 aIE:=bX
abbrev aeG:Ty:=T65
abbrev TH:Ty:=T0
noncomputable def am1:Ctx:=Ctx.of [(173,.pure Xi)]
theorem aIF:SP am1:=aB (fa ⟨⟨Jx.c,aey⟩,f0⟩)
def am2 {α:Type} (l:Option (TH).den->α) (an:α->α->α) (x:(aeG).den):α:=cl (Dv).dflt (FF ((W ((W (x.2.1 * x.1.2.2.2.1)) * (10:Int))),((W ((79900:Int) + (W ((29:Int) * x.1.2.2.2.2.2.1)))),()))) (fun u0=>l (some ((W (x.2.1 + u0.1)),()))) (l none)
theorem aIG:QO am1 Tryz.f126 [] aeG TH am2:=fun _=>by kernel_rfl
def Xp (x:(aeG).den):Option (TH).den:=am2 (fun r=>r) (fun _ _=>none) x
theorem aIH:MOz am1 Tryz.f126 [] Xp:=fun x=>by rw [aIG]; unfold Xp am2; simp only [Tree.sure,sus]
def aII:=pO Xp
def aIJ:=vO (τ:=TH) Xp
def awO:Con:=⟨aeG,TH,aII,aIJ⟩
theorem aIK:aQ Tryz.prog 126 awO:=hO ai8 aIF aIH l0
noncomputable def aIL:=bW Tryz.f127
theorem ai9:bV 127 Tryz.f127 aIL:=bX
abbrev aeH:Ty:=T65
abbrev TI:Ty:=T0
noncomputable def am3:Ctx:=Ctx.of [(114,.pure aec),(115,.pure amt),(173,.pure Xi),(174,.pure awG)]
theorem aIM:SP am3:=aB (fa ⟨⟨PW.c,amq⟩,fa ⟨⟨WT.c,awk⟩,fa ⟨⟨Jx.c,aey⟩,fa ⟨⟨ai3.c,aIc⟩,f0⟩⟩⟩⟩)
def am4 {α:Type} (l:Option (TI).den->α) (an:α->α->α) (x:(aeH).den):α:=cl (LZ).dflt (Js ((⟨2,fun i=>List.getD [(x.1.2.2.2.2.2.2.1,()),(x.1.2.2.2.2.2.1,())] i (x.1.2.2.2.2.2.2.1,())⟩:Sl _),())) (fun u0=>cl (Mp).dflt (TB u0) (fun u1=>cl (Dv).dflt (FF ((W ((W (x.2.1 * (W (x.1.2.2.2.2.2.1 - u0.1)))) * (8:Int))),((100000:Int),()))) (fun u2=>cl (Jr).dflt (FA ((⟨2,fun i=>List.getD [((0:Int),()),((W (u1.1 - u2.1)),())] i ((0:Int),())⟩:Sl _),())) (fun u3=>cl (Mp).dflt (TB (x.1.2.2.2.2.2.1,())) (fun u4=>cl (Dv).dflt (FF ((W ((100:Int) * u3.1)),u4)) (fun u5=>l (some u5)) (l none)) (l none)) (l none)) (l none)) (l none)) (l none)
theorem aIN:QO am3 Tryz.f127 [] aeH TI am4:=fun _=>by kernel_rfl
def Xq (x:(aeH).den):Option (TI).den:=am4 (fun r=>r) (fun _ _=>none) x
theorem aIO:MOz am3 Tryz.f127 [] Xq:=fun x=>by rw [aIN]; unfold Xq am4; simp only [Tree.sure,sus]
def aIP:=pO Xq
def aIQ:=vO (τ:=TI) Xq
def awP:Con:=⟨aeH,TI,aIP,aIQ⟩
theorem aIR:aQ Tryz.prog 127 awP:=hO ai9 aIM aIO l0
noncomputable def c71:=bW Tryz.f71
theorem am5:bV 71 Tryz.f71 c71:=bX
abbrev T67:Ty:=(.agg T54)
abbrev T68:Ty:=(.cons T67 T51)
abbrev a71:Ty:=T68
abbrev r71:Ty:=T7
noncomputable def G71:Ctx:=Ctx.of [(125,.pure awN),(126,.pure awO),(127,.pure awP)]
theorem g71:SP G71:=aB (fa ⟨⟨ai7.c,aID⟩,fa ⟨⟨ai8.c,aIK⟩,fa ⟨⟨ai9.c,aIR⟩,f0⟩⟩⟩)
def Q71 {α:Type} (l:Option (r71).den->α) (an:α->α->α) (x:(a71).den):α:=cl (TF).dflt (Xo ((x.2.1.1,(x.2.1.2.1,(x.2.1.2.2.1,(x.2.1.2.2.2.1,(x.2.1.2.2.2.2.1,(x.2.1.2.2.2.2.2.1,(x.2.1.2.2.2.2.2.2.1,(x.1.2.2.2.1,())))))))),())) (fun u0=>cl (TH).dflt (Xp ((x.2.1.1,(x.2.1.2.1,(x.2.1.2.2.1,(x.2.1.2.2.2.1,(x.2.1.2.2.2.2.1,(x.2.1.2.2.2.2.2.1,(x.2.1.2.2.2.2.2.2.1,(x.1.2.2.2.1,())))))))),u0)) (fun u1=>cl (TI).dflt (Xq ((x.2.1.1,(x.2.1.2.1,(x.2.1.2.2.1,(x.2.1.2.2.2.1,(x.2.1.2.2.2.2.1,(x.2.1.2.2.2.2.2.1,(x.2.1.2.2.2.2.2.2.1,(x.1.2.2.2.1,())))))))),u0)) (fun u2=>l (some ((u0.1,(u1.1,u2)),()))) (l none)) (l none)) (l none)
theorem q71:QO G71 Tryz.f71 [] a71 r71 Q71:=fun _=>by kernel_rfl
def M71 (x:(a71).den):Option (r71).den:=Q71 (fun r=>r) (fun _ _=>none) x
theorem m71:MOz G71 Tryz.f71 [] M71:=fun x=>by rw [q71]; unfold M71 Q71; simp only [Tree.sure,sus]
def p71:=pO M71
def v71:=vO (τ:=r71) M71
def k71:Con:=⟨a71,r71,p71,v71⟩
theorem h71:aQ Tryz.prog 71 k71:=hO am5 g71 m71 l0
abbrev T69:Ty:=(.cons tI lz)
noncomputable def c68:=bW Tryz.f68
theorem am7:bV 68 Tryz.f68 c68:=bX
abbrev T70:Ty:=(.cons T67 .nil)
abbrev a68:Ty:=T70
abbrev r68:Ty:=T3
noncomputable def G68:Ctx:=Ctx.of [(48,.pure k48),(124,.pure ad1)]
theorem g68:SP G68:=aB (fa ⟨⟨Jq.c,h48⟩,fa ⟨⟨PT.c,amj⟩,f0⟩⟩)
def Q68 {α:Type} (l:Option (r68).den->α) (an:α->α->α) (x:(a68).den):α:=cl (Fv).dflt (Ed (x.1.1,((0:Int),((400:Int),())))) (fun u0=>bif u0.1 then cl (Fv).dflt (Ed (x.1.2.1,((0:Int),((1439:Int),())))) (fun u1=>bif u1.1 then cl (Fv).dflt (Ed (x.1.2.2.1,((1:Int),((3:Int),())))) (fun u2=>bif u2.1 then cl (Fv).dflt (Ed (x.1.2.2.2.1,((40000:Int),((90000:Int),())))) (fun u3=>bif u3.1 then cl (BQ).dflt (zA ((x.1.2.2.2.2.1,(x.1.2.2.2.2.2.1,())),((-300:Int),((500:Int),())))) (fun u4=>bif u4.1 then cl (BQ).dflt (zA ((x.1.2.2.2.2.2.2.1,(x.1.2.2.2.2.2.2.2.1,())),((-300:Int),((500:Int),())))) (fun u5=>bif u5.1 then cl (BQ).dflt (zA (x.1.2.2.2.2.2.2.2.2,((-300:Int),((500:Int),())))) (fun u6=>l (some u6)) (l none) else l (some (false,()))) (l none) else l (some (false,()))) (l none) else l (some (false,()))) (l none) else l (some (false,()))) (l none) else l (some (false,()))) (l none) else l (some (false,()))) (l none)
theorem q68:QO G68 Tryz.f68 [] a68 r68 Q68:=fun _=>by kernel_rfl
def M68 (x:(a68).den):Option (r68).den:=Q68 (fun r=>r) (fun _ _=>none) x
theorem m68:MOz G68 Tryz.f68 [] M68:=fun x=>by rw [q68]; unfold M68 Q68; simp only [Tree.sure,sus]
def p68:=pO M68
def v68:=vO (τ:=r68) M68
def k68:Con:=⟨a68,r68,p68,v68⟩
theorem h68:aQ Tryz.prog 68 k68:=hO am7 g68 m68 l0
noncomputable def c70:=bW Tryz.f70
theorem awR:bV 70 Tryz.f70 c70:=bX
abbrev T71:Ty:=(.fn T7 T0)
abbrev T72:Ty:=(.cons T71 .nil)
abbrev T73:Ty:=(.ptr T72)
abbrev T74:Ty:=(.ptr T54)
abbrev T75:Ty:=(.cons T74 .nil)
abbrev T76:Ty:=(.cons T73 T75)
abbrev T77:Ty:=(.cons T50 T76)
abbrev a70:Ty:=T77
abbrev r70:Ty:=T0
noncomputable def G70:Ctx:=Ctx.of [(71,.pure k71)]
theorem g70:SP G70:=aB (fa ⟨⟨am5.c,h71⟩,f0⟩)
def Q70 {α:Type} (l:Option (r70).den->α) (an:α->α->α) (x:(a70).den):α:=cl (r71).dflt (M71 (x.2.2.1,(x.1,()))) (fun u0=>bif (x.2.1.1 (u0.1,())).1 then l (some (x.2.1.1 (u0.1,())).2) else l none) (l none)
theorem q70:QO G70 Tryz.f70 [] a70 r70 Q70:=fun _=>by kernel_rfl
def M70 (x:(a70).den):Option (r70).den:=Q70 (fun r=>r) (fun _ _=>none) x
theorem m70:MOz G70 Tryz.f70 [] M70:=fun x=>by rw [q70]; unfold M70 Q70; simp only [Tree.sure,sus]
def p70:=pO M70
def v70:=vO (τ:=r70) M70
def k70:Con:=⟨a70,r70,p70,v70⟩
theorem h70:aQ Tryz.prog 70 k70:=hO awR g70 m70 l0
noncomputable def c69:=bW Tryz.f69
theorem awT:bV 69 Tryz.f69 c69:=bX
abbrev T78:Ty:=(.cons T71 T75)
abbrev T79:Ty:=(.fn T51 T0)
abbrev T80:Ty:=(.cons T79 .nil)
abbrev a69:Ty:=T78
abbrev r69:Ty:=T80
noncomputable def G69:Ctx:=Ctx.of [(70,.pure k70)]
theorem g69:SP G69:=aB (fa ⟨⟨awR.c,h70⟩,f0⟩)
def Q69 {α:Type} (l:Option (r69).den->α) (an:α->α->α) (x:(a69).den):α:=l (some ((fun y1=>((p70 (y1.1,((x.1,()),x.2))),(v70 (y1.1,((x.1,()),x.2))))),()))
theorem q69:QO G69 Tryz.f69 [] a69 r69 Q69:=fun _=>by kernel_rfl
def M69 (x:(a69).den):Option (r69).den:=Q69 (fun r=>r) (fun _ _=>none) x
theorem m69:MOz G69 Tryz.f69 [] M69:=fun x=>by rw [q69]; unfold M69 Q69; simp only [Tree.sure,sus]
def p69:=pO M69
def v69:=vO (τ:=r69) M69
def k69:Con:=⟨a69,r69,p69,v69⟩
theorem h69:aQ Tryz.prog 69 k69:=hO awT g69 m69 l0
noncomputable def c74:=bW Tryz.f74
theorem awU:bV 74 Tryz.f74 c74:=bX
abbrev a74:Ty:=T7
abbrev r74:Ty:=T0
noncomputable def G74:Ctx:=Ctx.of []
theorem g74:SP G74:=aB f0
def Q74 {α:Type} (l:Option (r74).den->α) (an:α->α->α) (x:(a74).den):α:=l (some (x.1.1,()))
theorem q74:QO G74 Tryz.f74 [] a74 r74 Q74:=fun _=>by kernel_rfl
def M74 (x:(a74).den):Option (r74).den:=Q74 (fun r=>r) (fun _ _=>none) x
theorem m74:MOz G74 Tryz.f74 [] M74:=fun x=>by rw [q74]; unfold M74 Q74; simp only [Tree.sure,sus]
def p74:=pO M74
def v74:=vO (τ:=r74) M74
def k74:Con:=⟨a74,r74,p74,v74⟩
theorem h74:aQ Tryz.prog 74 k74:=hO awU g74 m74 l0
noncomputable def c75:=bW Tryz.f75
theorem awW:bV 75 Tryz.f75 c75:=bX
abbrev a75:Ty:=T7
abbrev r75:Ty:=T0
noncomputable def G75:Ctx:=Ctx.of []
theorem g75:SP G75:=aB f0
def Q75 {α:Type} (l:Option (r75).den->α) (an:α->α->α) (x:(a75).den):α:=l (some (x.1.2.1,()))
theorem q75:QO G75 Tryz.f75 [] a75 r75 Q75:=fun _=>by kernel_rfl
def M75 (x:(a75).den):Option (r75).den:=Q75 (fun r=>r) (fun _ _=>none) x
theorem m75:MOz G75 Tryz.f75 [] M75:=fun x=>by rw [q75]; unfold M75 Q75; simp only [Tree.sure,sus]
def p75:=pO M75
def v75:=vO (τ:=r75) M75
def k75:Con:=⟨a75,r75,p75,v75⟩
theorem h75:aQ Tryz.prog 75 k75:=hO awW g75 m75 l0
noncomputable def c76:=bW Tryz.f76
theorem awY:bV 76 Tryz.f76 c76:=bX
abbrev a76:Ty:=T7
abbrev r76:Ty:=T0
noncomputable def G76:Ctx:=Ctx.of []
theorem g76:SP G76:=aB f0
def Q76 {α:Type} (l:Option (r76).den->α) (an:α->α->α) (x:(a76).den):α:=l (some x.1.2.2)
theorem q76:QO G76 Tryz.f76 [] a76 r76 Q76:=fun _=>by kernel_rfl
def M76 (x:(a76).den):Option (r76).den:=Q76 (fun r=>r) (fun _ _=>none) x
theorem m76:MOz G76 Tryz.f76 [] M76:=fun x=>by rw [q76]; unfold M76 Q76; simp only [Tree.sure,sus]
def p76:=pO M76
def v76:=vO (τ:=r76) M76
def k76:Con:=⟨a76,r76,p76,v76⟩
theorem h76:aQ Tryz.prog 76 k76:=hO awY g76 m76 l0
noncomputable def c73:=bW Tryz.f73
theorem aw0:bV 73 Tryz.f73 c73:=bX
abbrev T81:Ty:=(.cons T50 T80)
abbrev T82:Ty:=(.cons T50 T81)
abbrev a73:Ty:=T82
abbrev r73:Ty:=lz
noncomputable def G73:Ctx:=Ctx.of []
theorem g73:SP G73:=aB f0
def Q73 {α:Type} (l:Option (r73).den->α) (an:α->α->α) (x:(a73).den):α:=bif (x.2.2.1 (x.1,())).1 then bif (x.2.2.1 (x.2.1,())).1 then l (some (((x.2.2.1 (x.1,())).2.1,(x.2.2.1 (x.2.1,())).2),())) else l none else l none
theorem q73:QO G73 Tryz.f73 [] a73 r73 Q73:=fun _=>by kernel_rfl
def M73 (x:(a73).den):Option (r73).den:=Q73 (fun r=>r) (fun _ _=>none) x
theorem m73:MOz G73 Tryz.f73 [] M73:=fun x=>by rw [q73]; unfold M73 Q73; simp only [Tree.sure,sus]
def p73:=pO M73
def v73:=vO (τ:=r73) M73
def k73:Con:=⟨a73,r73,p73,v73⟩
theorem h73:aQ Tryz.prog 73 k73:=hO aw0 g73 m73 l0
abbrev T83:Ty:=(.cons T17 T0)
abbrev T84:Ty:=(.cons T4 T0)
noncomputable def c11:=bW Tryz.f11
theorem anb:bV 11 Tryz.f11 c11:=bX
abbrev T85:Ty:=(.cons T17 T1)
abbrev a11:Ty:=T85
abbrev Xs:Ty:=T1
noncomputable def G11:Ctx:=Ctx.of [(47,.loc (fun _=>[300]) (Ft Tryz.f47.ntmps 300 9 tI (.agg vo) Tv LW Da p47 v47 Tx)),(48,.pure k48),(49,.loc (fun _=>cz rD) (BO Tryz.f49.ntmps r49 rD Qd))]
theorem g11:SP G11:=aB (fa ⟨⟨Mh.c,aep⟩,fa ⟨⟨Jq.c,h48⟩,fa ⟨⟨Mm.c,(vZ (by kernel_rfl) h49)⟩,f0⟩⟩⟩)
noncomputable def Qe:Code:=bn ((ay (c11))[0]?)
theorem ane:ay (Qe)=[]:=by kernel_rfl
abbrev ux:List bg:=[.slot 1 (.pc tI),.slot 2 (.pc tI),.slot 8 (.ptr 56),.slot 28 (.pc tI)]
abbrev oD:List bg:=[.slot 29 (.pc tI),.box 56 [.pc tI,.pc tI,.pc tI,.pc tI,.pc tI,.pc tI,.pc tI,.pc tI,.pc (.sl T2),.mp 300],.mp 300 tI T4]
abbrev Xt:List bg:=ux ++ oD
def aje:ZJ ux oD Xt:=ZA _ _
def Xu:ZS ux oD Xt:=ZP _ _
abbrev anf:bk:=⟨[(0,[])],[.slot 6 (.pc tI),.slot 7 (.pc tI)],[]⟩
abbrev Ca:bk:=⟨[(0,[])],[.slot 6 (.pc tI),.slot 7 (.pc tI)],[]⟩
def Mq:ZE ux Ca anf:=fun id=>match id with | 0=>fun c y=>y | _=>gC
def Jy {α:Type} (l:RQ oD Ca->α) (an:α->α->α) (c:ZD ux) (v:ZD oD):α:=bif (decide (v.1 < c.2.2.2.1)) then gF (Qd ((v.2.1.1,(v.2.1.2.1,(v.2.1.2.2.1,(v.2.1.2.2.2.1,(v.2.1.2.2.2.2.1,(v.2.1.2.2.2.2.2.1,(v.2.1.2.2.2.2.2.2.1,(v.2.1.2.2.2.2.2.2.2.1,(v.2.1.2.2.2.2.2.2.2.2.1,((),())))))))))),((W (c.1 + v.1)),v.2.2))) (fun u0=>bif (decide (c.2.1 < (W (u0.1.1.2.1 - u0.1.1.1)))) then l (.out (.ret ((W (c.1 + v.1)),((0:Int),())))) else l (.next ((W (v.1 + (1:Int))),((v.2.1.1,(v.2.1.2.1,(v.2.1.2.2.1,(v.2.1.2.2.2.1,(v.2.1.2.2.2.2.1,(v.2.1.2.2.2.2.2.1,(v.2.1.2.2.2.2.2.2.1,(v.2.1.2.2.2.2.2.2.2.1,(v.2.1.2.2.2.2.2.2.2.2.1,((),())))))))))),u0.2)))) (l .bad) else l (.out (.exit 0 ()))
theorem aw3:ZO G11 0 48 Qe [] aje Mq ZI ZI Jy:=fun _ _=>by kernel_rfl
def yU (c:ZD ux) (v:ZD oD):RQ oD Ca:=Jy (fun r=>r) (fun _ _=>.bad) c v
theorem aw4:SO G11 0 48 Qe [] aje Mq ZI ZI yU:=fun c v=>by rw [aw3]; unfold yU Jy; simp only [bE,bq,dqs]
def yV (c:ZD ux) (v:ZD oD):LQ Ca:=bB (yU c) dw v
theorem aJf:ay (c11)=[.loop Qe]:=by kernel_rfl
noncomputable def l11:List Loop:=[lk 0 Mq ZI ZI true Xu yV]
def Q11 {α:Type} (l:Option (Xs).den->α) (an:α->α->α) (x:(a11).den):α:=cl (Fv).dflt (Ed (x.2.1,((0:Int),((400:Int),())))) (fun u1=>bif u1.1 then cl (Fv).dflt (Ed (x.2.2.1,((0:Int),((4000:Int),())))) (fun u2=>cl (r47).dflt (Tw (x.1,u2)) (fun u3=>bif (decide (u3.2.1=(0:Int))) then bif (!(decide (u3.2.1=(0:Int)))) then l (some ((0:Int),u3.2)) else bp (yV (x.2.1,(x.2.2.1,((),((W ((W ((400:Int) - x.2.1)) + (1:Int))),())))) ((0:Int),((u3.1.1,(u3.1.2.1,(u3.1.2.2.1,(u3.1.2.2.2.1,(u3.1.2.2.2.2.1,(u3.1.2.2.2.2.2.1,(u3.1.2.2.2.2.2.2.1,(u3.1.2.2.2.2.2.2.2.1,(u3.1.2.2.2.2.2.2.2.2.1,((),())))))))))),((fun y1=>none),())))) 0 (fun u4=>l (some ((0:Int),((5:Int),())))) (bK (yV (x.2.1,(x.2.2.1,((),((W ((W ((400:Int) - x.2.1)) + (1:Int))),())))) ((0:Int),((u3.1.1,(u3.1.2.1,(u3.1.2.2.1,(u3.1.2.2.2.1,(u3.1.2.2.2.2.1,(u3.1.2.2.2.2.2.1,(u3.1.2.2.2.2.2.2.1,(u3.1.2.2.2.2.2.2.2.1,(u3.1.2.2.2.2.2.2.2.2.1,((),())))))))))),((fun y1=>none),())))) (fun u5=>l (some u5)) (l none)) else bif (!(decide (u3.2.1=(0:Int)))) then l (some ((0:Int),u3.2)) else l none) (l none)) (l none) else cl (r47).dflt (Tw (x.1,(false,()))) (fun u6=>bif (decide (u6.2.1=(0:Int))) then bif (!(decide (u6.2.1=(0:Int)))) then l (some ((0:Int),u6.2)) else bp (yV (x.2.1,(x.2.2.1,((),((W ((W ((400:Int) - x.2.1)) + (1:Int))),())))) ((0:Int),((u6.1.1,(u6.1.2.1,(u6.1.2.2.1,(u6.1.2.2.2.1,(u6.1.2.2.2.2.1,(u6.1.2.2.2.2.2.1,(u6.1.2.2.2.2.2.2.1,(u6.1.2.2.2.2.2.2.2.1,(u6.1.2.2.2.2.2.2.2.2.1,((),())))))))))),((fun y1=>none),())))) 0 (fun u7=>l (some ((0:Int),((5:Int),())))) (bK (yV (x.2.1,(x.2.2.1,((),((W ((W ((400:Int) - x.2.1)) + (1:Int))),())))) ((0:Int),((u6.1.1,(u6.1.2.1,(u6.1.2.2.1,(u6.1.2.2.2.1,(u6.1.2.2.2.2.1,(u6.1.2.2.2.2.2.1,(u6.1.2.2.2.2.2.2.1,(u6.1.2.2.2.2.2.2.2.1,(u6.1.2.2.2.2.2.2.2.2.1,((),())))))))))),((fun y1=>none),())))) (fun u8=>l (some u8)) (l none)) else bif (!(decide (u6.2.1=(0:Int)))) then l (some ((0:Int),u6.2)) else l none) (l none)) (l none)
theorem q11:QO G11 Tryz.f11 l11 a11 Xs Q11:=fun _=>by kernel_rfl
def Xv (x:(a11).den):Option (Xs).den:=Q11 (fun r=>r) (fun _ _=>none) x
theorem m11:MOz G11 Tryz.f11 l11 Xv:=fun x=>by rw [q11]; unfold Xv Q11; simp only [Tree.sure,sus]
def p11:=pO Xv
def v11:=vO (τ:=Xs) Xv
def k11:Con:=⟨a11,Xs,p11,v11⟩
theorem h11:aQ Tryz.prog 11 k11:=hO anb g11 m11 fun G' hlo hF hE=>aP (by rw [aJf]; exact .cons (lv hE hF hlo (ln ane) Xu aw4) (.nil))
abbrev T86:Ty:=(.cons T17 T68)
abbrev T87:Ty:=(.cons T6 T0)
noncomputable def c22:=bW Tryz.f22
theorem ang:bV 22 Tryz.f22 c22:=bX
abbrev T88:Ty:=(.cons T17 T70)
abbrev T89:Ty:=(.agg T48)
abbrev T90:Ty:=(.cons T89 T0)
abbrev a22:Ty:=T88
abbrev Xw:Ty:=T90
noncomputable def G22:Ctx:=Ctx.of [(47,.loc (fun _=>[300]) (Ft Tryz.f47.ntmps 300 9 tI (.agg vo) Tv LW Da p47 v47 Tx)),(68,.pure k68),(69,.pure k69),(72,.loc (fun _=>cz BZ) (BO Tryz.f72.ntmps r72 BZ U72)),(73,.pure k73),(74,.pure k74),(75,.pure k75),(76,.pure k76)]
theorem g22:SP G22:=aB (fa ⟨⟨Mh.c,aep⟩,fa ⟨⟨am7.c,h68⟩,fa ⟨⟨awT.c,h69⟩,fa ⟨⟨amL.c,(vZ (by kernel_rfl) h72)⟩,fa ⟨⟨aw0.c,h73⟩,fa ⟨⟨awU.c,h74⟩,fa ⟨⟨awW.c,h75⟩,fa ⟨⟨awY.c,h76⟩,f0⟩⟩⟩⟩⟩⟩⟩⟩)
def Q22 {α:Type} (l:Option (Xw).den->α) (an:α->α->α) (x:(a22).den):α:=cl (r68).dflt (M68 (x.2.1,())) (fun u0=>cl (r47).dflt (Tw (x.1,u0)) (fun u1=>bif (decide (u1.2.1=(0:Int))) then bif (!(decide (u1.2.1=(0:Int)))) then l (some (((0:Int),((0:Int),((0:Int),((0:Int),((0:Int),((0:Int),())))))),u1.2)) else gF (U72 ((u1.1.1,(u1.1.2.1,(u1.1.2.2.1,(u1.1.2.2.2.1,(u1.1.2.2.2.2.1,(u1.1.2.2.2.2.2.1,(u1.1.2.2.2.2.2.2.1,(u1.1.2.2.2.2.2.2.2.1,(u1.1.2.2.2.2.2.2.2.2.1,((),())))))))))),(x.2.1,(true,(true,(false,(true,((fun y1=>none),())))))))) (fun u2=>gF (U72 ((u1.1.1,(u1.1.2.1,(u1.1.2.2.1,(u1.1.2.2.2.1,(u1.1.2.2.2.2.1,(u1.1.2.2.2.2.2.1,(u1.1.2.2.2.2.2.2.1,(u1.1.2.2.2.2.2.2.2.1,(u1.1.2.2.2.2.2.2.2.2.1,((),())))))))))),(x.2.1,(false,(false,(true,(true,u2.2))))))) (fun u3=>gF (U72 ((u1.1.1,(u1.1.2.1,(u1.1.2.2.1,(u1.1.2.2.2.1,(u1.1.2.2.2.2.1,(u1.1.2.2.2.2.2.1,(u1.1.2.2.2.2.2.2.1,(u1.1.2.2.2.2.2.2.2.1,(u1.1.2.2.2.2.2.2.2.2.1,((),())))))))))),(x.2.1,(false,(true,(false,(true,u3.2))))))) (fun u4=>gF (U72 ((u1.1.1,(u1.1.2.1,(u1.1.2.2.1,(u1.1.2.2.2.1,(u1.1.2.2.2.2.1,(u1.1.2.2.2.2.2.1,(u1.1.2.2.2.2.2.2.1,(u1.1.2.2.2.2.2.2.2.1,(u1.1.2.2.2.2.2.2.2.2.1,((),())))))))))),(x.2.1,(true,(true,(true,(false,u4.2))))))) (fun u5=>cl (r69).dflt (M69 ((fun y1=>((p74 y1),(v74 y1))),(x.2.1,()))) (fun u6=>cl (r73).dflt (M73 (u2.1.1,(u3.1.1,u6))) (fun u7=>cl (r69).dflt (M69 ((fun y1=>((p75 y1),(v75 y1))),(x.2.1,()))) (fun u8=>cl (r73).dflt (M73 (u2.1.1,(u3.1.1,u8))) (fun u9=>cl (r69).dflt (M69 ((fun y1=>((p76 y1),(v76 y1))),(x.2.1,()))) (fun FH=>cl (r73).dflt (M73 (u4.1.1,(u5.1.1,FH))) (fun TJ=>l (some ((u7.1.1,(u7.1.2.1,(u9.1.1,(u9.1.2.1,TJ.1)))),((0:Int),())))) (l none)) (l none)) (l none)) (l none)) (l none)) (l none)) (l none)) (l none)) (l none)) (l none) else bif (!(decide (u1.2.1=(0:Int)))) then l (some (((0:Int),((0:Int),((0:Int),((0:Int),((0:Int),((0:Int),())))))),u1.2)) else l none) (l none)) (l none)
theorem q22:QO G22 Tryz.f22 [] a22 Xw Q22:=fun _=>by kernel_rfl
def M22 (x:(a22).den):Option (Xw).den:=Q22 (fun r=>r) (fun _ _=>none) x
theorem m22:MOz G22 Tryz.f22 [] M22:=fun x=>by rw [q22]; unfold M22 Q22; simp only [Tree.sure,sus]
def p22:=pO M22
def v22:=vO (τ:=Xw) M22
def k22:Con:=⟨a22,Xw,p22,v22⟩
theorem h22:aQ Tryz.prog 22 k22:=hO ang g22 m22 l0
noncomputable def c83:=bW Tryz.f83
theorem TL:bV 83 Tryz.f83 c83:=bX
abbrev a83:Ty:=T2
abbrev TM:Ty:=T3
noncomputable def G83:Ctx:=Ctx.of []
theorem g83:SP G83:=aB f0
def Q83 {α:Type} (l:Option (TM).den->α) (an:α->α->α) (x:(a83).den):α:=bif (decide (x.2.1<=x.1)) then l (some ((decide (x.1<=x.2.2.1)),())) else l (some (false,()))
theorem q83:QO G83 Tryz.f83 [] a83 TM Q83:=fun _=>by kernel_rfl
def Vq (x:(a83).den):Option (TM).den:=Q83 (fun r=>r) (fun _ _=>none) x
theorem m83:MOz G83 Tryz.f83 [] Vq:=fun x=>by rw [q83]; unfold Vq Q83; simp only [Tree.sure,sus]
def p83:=pO Vq
def v83:=vO (τ:=TM) Vq
def k83:Con:=⟨a83,TM,p83,v83⟩
theorem h83:aQ Tryz.prog 83 k83:=hO TL g83 m83 l0
noncomputable def anj:=bW Tryz.f136
theorem Xx:bV 136 Tryz.f136 anj:=bX
abbrev aeI:Ty:=Tq
abbrev Mr:Ty:=T0
noncomputable def ank:Ctx:=Ctx.of []
theorem aJo:SP ank:=aB f0
noncomputable def Xy:Code:=bn ((ay (anj))[0]?)
theorem aeJ:ay (Xy)=[]:=by kernel_rfl
theorem aw8:ay (anj)=[.loop Xy]:=by kernel_rfl
noncomputable def aw9:List Loop:=[.ia 4 []]
def anl {α:Type} (l:Option (Mr).den->α) (an:α->α->α) (x:(aeI).den):α:=bif (decide (((0:Int)<=(0:Int))/\((0:Int) < ((x.1.n:Nat):Int)))) then bif (decide ((0:Int) < ((x.1.n:Nat):Int))) then bif (decide (((0:Int)<=(0:Int))/\((0:Int) < ((x.1.n:Nat):Int)))) then bif (decide ((1:Int) < ((x.1.n:Nat):Int))) then bif (decide (((0:Int)<=(1:Int))/\((1:Int) < ((x.1.n:Nat):Int)))) then bif (decide ((2:Int) < ((x.1.n:Nat):Int))) then bif (decide (((0:Int)<=(2:Int))/\((2:Int) < ((x.1.n:Nat):Int)))) then bif (decide ((3:Int) < ((x.1.n:Nat):Int))) then bif (decide (((0:Int)<=(3:Int))/\((3:Int) < ((x.1.n:Nat):Int)))) then l none else l none else l (some ((mx (mx (mx (x.1.g 0).1 (x.1.g 0).1) (x.1.g 1).1) (x.1.g 2).1),())) else l none else l (some ((mx (mx (x.1.g 0).1 (x.1.g 0).1) (x.1.g 1).1),())) else l none else l (some ((mx (x.1.g 0).1 (x.1.g 0).1),())) else l none else l (some (x.1.g 0)) else l none
theorem aJp:QO ank Tryz.f136 aw9 aeI Mr anl:=fun _=>by kernel_rfl
def TN (x:(aeI).den):Option (Mr).den:=anl (fun r=>r) (fun _ _=>none) x
theorem aJq:MOz ank Tryz.f136 aw9 TN:=fun x=>by rw [aJp]; unfold TN anl; simp only [Tree.sure,sus]
def aJr:=pO TN
def aJs:=vO (τ:=Mr) TN
def anm:Con:=⟨aeI,Mr,aJr,aJs⟩
theorem axa:aQ Tryz.prog 136 anm:=hO Xx aJo aJq fun G' hlo hF hE=>aP (by rw [aw8]; exact .WH (aP (by rw [aeJ]; exact .nil)) (.nil))
noncomputable def ann:=bW Tryz.f176
theorem ajf:bV 176 Tryz.f176 ann:=bX
abbrev aeK:Ty:=Tq
abbrev TO:Ty:=T0
noncomputable def ano:Ctx:=Ctx.of []
theorem aJt:SP ano:=aB f0
noncomputable def Xz:Code:=bn ((ay (ann))[0]?)
theorem aeL:ay (Xz)=[]:=by kernel_rfl
theorem axb:ay (ann)=[.loop Xz]:=by kernel_rfl
noncomputable def axc:List Loop:=[.ia 4 []]
def anp {α:Type} (l:Option (TO).den->α) (an:α->α->α) (x:(aeK).den):α:=bif (decide (((0:Int)<=(0:Int))/\((0:Int) < ((x.1.n:Nat):Int)))) then bif (decide ((0:Int) < ((x.1.n:Nat):Int))) then bif (decide (((0:Int)<=(0:Int))/\((0:Int) < ((x.1.n:Nat):Int)))) then bif (decide ((1:Int) < ((x.1.n:Nat):Int))) then bif (decide (((0:Int)<=(1:Int))/\((1:Int) < ((x.1.n:Nat):Int)))) then bif (decide ((2:Int) < ((x.1.n:Nat):Int))) then bif (decide (((0:Int)<=(2:Int))/\((2:Int) < ((x.1.n:Nat):Int)))) then bif (decide ((3:Int) < ((x.1.n:Nat):Int))) then bif (decide (((0:Int)<=(3:Int))/\((3:Int) < ((x.1.n:Nat):Int)))) then l none else l none else l (some ((mn (mn (mn (x.1.g 0).1 (x.1.g 0).1) (x.1.g 1).1) (x.1.g 2).1),())) else l none else l (some ((mn (mn (x.1.g 0).1 (x.1.g 0).1) (x.1.g 1).1),())) else l none else l (some ((mn (x.1.g 0).1 (x.1.g 0).1),())) else l none else l (some (x.1.g 0)) else l none
theorem aJu:QO ano Tryz.f176 axc aeK TO anp:=fun _=>by kernel_rfl
def XA (x:(aeK).den):Option (TO).den:=anp (fun r=>r) (fun _ _=>none) x
theorem aJv:MOz ano Tryz.f176 axc XA:=fun x=>by rw [aJu]; unfold XA anp; simp only [Tree.sure,sus]
def aJw:=pO XA
def aJx:=vO (τ:=TO) XA
def axd:Con:=⟨aeK,TO,aJw,aJx⟩
theorem aJy:aQ Tryz.prog 176 axd:=hO ajf aJt aJv fun G' hlo hF hE=>aP (by rw [axb]; exact .WH (aP (by rw [aeL]; exact .nil)) (.nil))
noncomputable def c85:=bW Tryz.f85
theorem anq:bV 85 Tryz.f85 c85:=bX
abbrev a85:Ty:=T1
abbrev r85:Ty:=T0
noncomputable def G85:Ctx:=Ctx.of [(136,.pure anm)]
theorem g85:SP G85:=aB (fa ⟨⟨Xx.c,axa⟩,f0⟩)
def Q85 {α:Type} (l:Option (r85).den->α) (an:α->α->α) (x:(a85).den):α:=cl (Mr).dflt (TN ((⟨2,fun i=>List.getD [((W (x.1 - x.2.1)),()),((W (x.2.1 - x.1)),())] i ((W (x.1 - x.2.1)),())⟩:Sl _),())) (fun u0=>l (some u0)) (l none)
theorem q85:QO G85 Tryz.f85 [] a85 r85 Q85:=fun _=>by kernel_rfl
def M85 (x:(a85).den):Option (r85).den:=Q85 (fun r=>r) (fun _ _=>none) x
theorem m85:MOz G85 Tryz.f85 [] M85:=fun x=>by rw [q85]; unfold M85 Q85; simp only [Tree.sure,sus]
def p85:=pO M85
def v85:=vO (τ:=r85) M85
def k85:Con:=⟨a85,r85,p85,v85⟩
theorem h85:aQ Tryz.prog 85 k85:=hO anq g85 m85 l0
noncomputable def aJC:=bW Tryz.f134
theorem XB:bV 134 Tryz.f134 aJC:=bX
abbrev aeM:Ty:=T84
abbrev Ms:Ty:=T0
noncomputable def anr:Ctx:=Ctx.of []
theorem aJD:SP anr:=aB f0
def ans {α:Type} (l:Option (Ms).den->α) (an:α->α->α) (x:(aeM).den):α:=bif (decide (x.1.1=(0:Int))) then l none else l (some ((W (Int.tdiv x.2.1 x.1.1)),()))
theorem aJE:QO anr Tryz.f134 [] aeM Ms ans:=fun _=>by kernel_rfl
def Mt (x:(aeM).den):Option (Ms).den:=ans (fun r=>r) (fun _ _=>none) x
theorem aJF:MOz anr Tryz.f134 [] Mt:=fun x=>by rw [aJE]; unfold Mt ans; simp only [Tree.sure,sus]
def aJG:=pO Mt
def aJH:=vO (τ:=Ms) Mt
def ant:Con:=⟨aeM,Ms,aJG,aJH⟩
theorem axe:aQ Tryz.prog 134 ant:=hO XB aJD aJF l0
noncomputable def aJI:=bW Tryz.f135
theorem XC:bV 135 Tryz.f135 aJI:=bX
abbrev aeN:Ty:=T84
abbrev Mu:Ty:=T0
noncomputable def anu:Ctx:=Ctx.of []
theorem aJJ:SP anu:=aB f0
def anv {α:Type} (l:Option (Mu).den->α) (an:α->α->α) (x:(aeN).den):α:=bif (decide (x.1.1=(0:Int))) then l none else l (some ((Int.tmod x.2.1 x.1.1),()))
theorem aJK:QO anu Tryz.f135 [] aeN Mu anv:=fun _=>by kernel_rfl
def Mv (x:(aeN).den):Option (Mu).den:=anv (fun r=>r) (fun _ _=>none) x
theorem aJL:MOz anu Tryz.f135 [] Mv:=fun x=>by rw [aJK]; unfold Mv anv; simp only [Tree.sure,sus]
def aJM:=pO Mv
def aJN:=vO (τ:=Mu) Mv
def anw:Con:=⟨aeN,Mu,aJM,aJN⟩
theorem axf:aQ Tryz.prog 135 anw:=hO XC aJJ aJL l0
noncomputable def aJO:=bW Tryz.f133
theorem Jz:bV 133 Tryz.f133 aJO:=bX
abbrev aeO:Ty:=T5
abbrev JA:Ty:=T0
noncomputable def anx:Ctx:=Ctx.of [(85,.pure k85),(134,.pure ant),(135,.pure anw)]
theorem aJP:SP anx:=aB (fa ⟨⟨anq.c,h85⟩,fa ⟨⟨XB.c,axe⟩,fa ⟨⟨XC.c,axf⟩,f0⟩⟩⟩)
def aeP {α:Type} (l:Option (JA).den->α) (an:α->α->α) (x:(aeO).den):α:=cl (Ms).dflt (Mt (x.1,(x.2.1,()))) (fun u0=>cl (Ms).dflt (Mt (x.1,x.2.2)) (fun u1=>cl (r85).dflt (M85 (u0.1,u1)) (fun u2=>cl (Mu).dflt (Mv (x.1,(x.2.1,()))) (fun u3=>cl (Mu).dflt (Mv (x.1,x.2.2)) (fun u4=>cl (r85).dflt (M85 (u3.1,u4)) (fun u5=>l (some ((W (u2.1 + u5.1)),()))) (l none)) (l none)) (l none)) (l none)) (l none)) (l none)
theorem aJQ:QO anx Tryz.f133 [] aeO JA aeP:=fun _=>by kernel_rfl
def Dw (x:(aeO).den):Option (JA).den:=aeP (fun r=>r) (fun _ _=>none) x
theorem aJR:MOz anx Tryz.f133 [] Dw:=fun x=>by rw [aJQ]; unfold Dw aeP; simp only [Tree.sure,sus]
def anz:=pO Dw
def axg:=vO (τ:=JA) Dw
def XD:Con:=⟨aeO,JA,anz,axg⟩
theorem aeQ:aQ Tryz.prog 133 XD:=hO Jz aJP aJR l0
noncomputable def aJS:=bW Tryz.f131
theorem aji:bV 131 Tryz.f131 aJS:=bX
abbrev T91:Ty:=(.ptr T11)
abbrev T92:Ty:=(.cons T91 .nil)
abbrev T93:Ty:=(.cons T6 T92)
abbrev aeR:Ty:=T93
abbrev XE:Ty:=T3
noncomputable def anA:Ctx:=Ctx.of [(83,.pure k83)]
theorem aJT:SP anA:=aB (fa ⟨⟨TL.c,h83⟩,f0⟩)
def anB {α:Type} (l:Option (XE).den->α) (an:α->α->α) (x:(aeR).den):α:=cl (TM).dflt (Vq (x.1.1,((0:Int),((W ((W (x.2.1.1 * x.2.1.2.1)) - (1:Int))),())))) (fun u0=>bif (!u0.1) then l (some (true,())) else bif (decide (x.1.2.1 < (0:Int))) then l (some (true,())) else bif (decide (x.1.2.2.1 < x.1.2.1)) then l (some (true,())) else l (some ((decide ((99999:Int) < x.1.2.2.1)),()))) (l none)
theorem aJU:QO anA Tryz.f131 [] aeR XE anB:=fun _=>by kernel_rfl
def aeS (x:(aeR).den):Option (XE).den:=anB (fun r=>r) (fun _ _=>none) x
theorem aJV:MOz anA Tryz.f131 [] aeS:=fun x=>by rw [aJU]; unfold aeS anB; simp only [Tree.sure,sus]
def axh:=pO aeS
def axi:=vO (τ:=XE) aeS
def axj:Con:=⟨aeR,XE,axh,axi⟩
theorem aJW:aQ Tryz.prog 131 axj:=hO aji aJT aJV l0
noncomputable def c81:=bW Tryz.f81
theorem anD:bV 81 Tryz.f81 c81:=bX
abbrev T94:Ty:=(.fn T7 T3)
abbrev T95:Ty:=(.cons T94 .nil)
abbrev T96:Ty:=(.cons (.sl T2) T95)
abbrev T97:Ty:=(.cons T6 T3)
abbrev a81:Ty:=T96
abbrev r81:Ty:=T97
noncomputable def G81:Ctx:=Ctx.of []
theorem g81:SP G81:=aB f0
noncomputable def Qf:Code:=bn ((ay (c81))[0]?)
theorem anF:ay (Qf)=[]:=by kernel_rfl
abbrev rE:List bg:=[.slot 1 (.pc T94),.slot 4 (.ptr 4),.slot 9 (.pc (.sl T2)),.slot 10 (.pc tI),.box 4 [.pc tI,.pc tI,.pc tI]]
abbrev rF:List bg:=[.slot 11 (.pc tI)]
abbrev XF:List bg:=rE ++ rF
def ajj:ZJ rE rF XF:=ZA _ _
def XG:ZS rE rF XF:=ZP _ _
abbrev XH:bk:=⟨[(0,[.slot 4 (.ptr 4),.box 4 [.pc tI,.pc tI,.pc tI]])],[.slot 4 (.ptr 4),.slot 5 (.pc .bool),.box 4 [.pc tI,.pc tI,.pc tI]],[]⟩
abbrev Cb:bk:=⟨[(0,[])],[.slot 5 (.pc .bool),.box 4 [.pc tI,.pc tI,.pc tI]],[]⟩
def Mw:ZE rE Cb XH:=fun id=>match id with | 0=>fun c y=>(c.2.1,(c.2.2.2.2.1,y)) | _=>gC
def Mx:(ZD rE)->(aa (Cb).ret).den->(aa (XH).ret).den:=fun c y=>(c.2.1,y)
def XI {α:Type} (l:RQ rF Cb->α) (an:α->α->α) (c:ZD rE) (v:ZD rF):α:=bif (decide (v.1 < c.2.2.2.1)) then bif (decide (((0:Int)<=v.1)/\(v.1 < ((c.2.2.1.n:Nat):Int)))) then bif (c.1 ((c.2.2.1.g (Int.toNat v.1)),())).1 then bif (c.1 ((c.2.2.1.g (Int.toNat v.1)),())).2.1 then l (.out (.ret (true,((c.2.2.1.g (Int.toNat v.1)),())))) else l (.next ((W (v.1 + (1:Int))),())) else l .bad else l .bad else l (.out (.exit 0 ()))
theorem axl:ZO G81 0 21 Qf [] ajj Mw Mx ZI XI:=fun _ _=>by kernel_rfl
def XJ (c:ZD rE) (v:ZD rF):RQ rF Cb:=XI (fun r=>r) (fun _ _=>.bad) c v
theorem axm:SO G81 0 21 Qf [] ajj Mw Mx ZI XJ:=fun c v=>by rw [axl]; unfold XJ XI; simp only [bE,bq,dqs]
def XK (c:ZD rE) (v:ZD rF):LQ Cb:=bB (XJ c) dw v
theorem aJ0:ay (c81)=[.loop Qf]:=by kernel_rfl
noncomputable def l81:List Loop:=[lk 0 Mw Mx ZI true XG XK]
def Q81 {α:Type} (l:Option (r81).den->α) (an:α->α->α) (x:(a81).den):α:=bp (XK (x.2.1,((),(x.1,(((x.1.n:Nat):Int),(((0:Int),((0:Int),((0:Int),()))),()))))) ((0:Int),())) 0 (fun u0=>l (some (((0:Int),((0:Int),((0:Int),()))),(false,())))) (bK (XK (x.2.1,((),(x.1,(((x.1.n:Nat):Int),(((0:Int),((0:Int),((0:Int),()))),()))))) ((0:Int),())) (fun u1=>l (some (u1.2.1,(u1.1,())))) (l none))
theorem q81:QO G81 Tryz.f81 l81 a81 r81 Q81:=fun _=>by kernel_rfl
def M81 (x:(a81).den):Option (r81).den:=Q81 (fun r=>r) (fun _ _=>none) x
theorem m81:MOz G81 Tryz.f81 l81 M81:=fun x=>by rw [q81]; unfold M81 Q81; simp only [Tree.sure,sus]
def p81:=pO M81
def v81:=vO (τ:=r81) M81
def k81:Con:=⟨a81,r81,p81,v81⟩
theorem h81:aQ Tryz.prog 81 k81:=hO anD g81 m81 fun G' hlo hF hE=>aP (by rw [aJ0]; exact .cons (lv hE hF hlo (ln anF) XG axm) (.nil))
noncomputable def c79:=bW Tryz.f79
theorem anG:bV 79 Tryz.f79 c79:=bX
abbrev T98:Ty:=(.agg T11)
abbrev T99:Ty:=(.cons T98 .nil)
abbrev a79:Ty:=T99
abbrev r79:Ty:=T3
noncomputable def G79:Ctx:=Ctx.of [(81,.pure k81),(83,.pure k83),(131,.pure axj)]
theorem g79:SP G79:=aB (fa ⟨⟨anD.c,h81⟩,fa ⟨⟨TL.c,h83⟩,fa ⟨⟨aji.c,aJW⟩,f0⟩⟩⟩)
def Q79 {α:Type} (l:Option (r79).den->α) (an:α->α->α) (x:(a79).den):α:=cl (TM).dflt (Vq (x.1.1,((1:Int),((6:Int),())))) (fun u0=>bif (!u0.1) then l (some (false,())) else cl (TM).dflt (Vq (x.1.2.1,((1:Int),((5:Int),())))) (fun u1=>bif (!u1.1) then l (some (false,())) else cl (TM).dflt (Vq (x.1.2.2.1,((0:Int),((5000:Int),())))) (fun u2=>bif (!u2.1) then l (some (false,())) else bif (decide ((12:Int) < ((x.1.2.2.2.1.n:Nat):Int))) then l (some (false,())) else cl (r81).dflt (M81 (x.1.2.2.2.1,((fun y1=>((axh (y1.1,(x.1,()))),(axi (y1.1,(x.1,()))))),()))) (fun u3=>l (some ((!u3.2.1),()))) (l none)) (l none)) (l none)) (l none)
theorem q79:QO G79 Tryz.f79 [] a79 r79 Q79:=fun _=>by kernel_rfl
def M79 (x:(a79).den):Option (r79).den:=Q79 (fun r=>r) (fun _ _=>none) x
theorem m79:MOz G79 Tryz.f79 [] M79:=fun x=>by rw [q79]; unfold M79 Q79; simp only [Tree.sure,sus]
def p79:=pO M79
def v79:=vO (τ:=r79) M79
def k79:Con:=⟨a79,r79,p79,v79⟩
theorem h79:aQ Tryz.prog 79 k79:=hO anG g79 m79 l0
noncomputable def aJ6:=bW Tryz.f130
theorem ajk:bV 130 Tryz.f130 aJ6:=bX
abbrev aeT:Ty:=T0
abbrev XL:Ty:=T3
noncomputable def anJ:Ctx:=Ctx.of [(83,.pure k83)]
theorem aJ7:SP anJ:=aB (fa ⟨⟨TL.c,h83⟩,f0⟩)
def anK {α:Type} (l:Option (XL).den->α) (an:α->α->α) (x:(aeT).den):α:=cl (TM).dflt (Vq (x.1,((0:Int),((99999:Int),())))) (fun u0=>l (some ((!u0.1),()))) (l none)
theorem aJ8:QO anJ Tryz.f130 [] aeT XL anK:=fun _=>by kernel_rfl
def aeU (x:(aeT).den):Option (XL).den:=anK (fun r=>r) (fun _ _=>none) x
theorem aJ9:MOz anJ Tryz.f130 [] aeU:=fun x=>by rw [aJ8]; unfold aeU anK; simp only [Tree.sure,sus]
def axn:=pO aeU
def axo:=vO (τ:=XL) aeU
def axp:Con:=⟨aeT,XL,axn,axo⟩
theorem aKa:aQ Tryz.prog 130 axp:=hO ajk aJ7 aJ9 l0
noncomputable def anL:=bW Tryz.f129
theorem ajl:bV 129 Tryz.f129 anL:=bX
abbrev anM:Ty:=(.fn T0 T3)
abbrev axq:Ty:=(.cons anM .nil)
abbrev aKb:Ty:=(.cons (.sl T0) axq)
abbrev aeV:Ty:=aKb
abbrev TP:Ty:=T34
noncomputable def XM:Ctx:=Ctx.of []
theorem aKc:SP XM:=aB f0
noncomputable def FJ:Code:=bn ((ay (anL))[0]?)
theorem aeW:ay (FJ)=[]:=by kernel_rfl
abbrev oE:List bg:=[.slot 1 (.pc anM),.slot 9 (.pc (.sl T0)),.slot 10 (.pc tI)]
abbrev mo:List bg:=[.slot 11 (.pc tI)]
abbrev Qg:List bg:=oE ++ mo
def XN:ZJ oE mo Qg:=ZA _ _
def Qh:ZS oE mo Qg:=ZP _ _
abbrev aeX:bk:=⟨[(0,[])],[.slot 4 (.pc tI),.slot 5 (.pc .bool)],[]⟩
abbrev zU:bk:=⟨[(0,[])],[.slot 4 (.pc tI),.slot 5 (.pc .bool)],[]⟩
def FK:ZE oE zU aeX:=fun id=>match id with | 0=>fun c y=>y | _=>gC
def My {α:Type} (l:RQ mo zU->α) (an:α->α->α) (c:ZD oE) (v:ZD mo):α:=bif (decide (v.1 < c.2.2.1)) then bif (decide (((0:Int)<=v.1)/\(v.1 < ((c.2.1.n:Nat):Int)))) then bif (c.1 (c.2.1.g (Int.toNat v.1))).1 then bif (c.1 (c.2.1.g (Int.toNat v.1))).2.1 then l (.out (.ret ((c.2.1.g (Int.toNat v.1)).1,(true,())))) else l (.next ((W (v.1 + (1:Int))),())) else l .bad else l .bad else l (.out (.exit 0 ()))
theorem anN:ZO XM 0 21 FJ [] XN FK ZI ZI My:=fun _ _=>by kernel_rfl
def Mz (c:ZD oE) (v:ZD mo):RQ mo zU:=My (fun r=>r) (fun _ _=>.bad) c v
theorem anO:SO XM 0 21 FJ [] XN FK ZI ZI Mz:=fun c v=>by rw [anN]; unfold Mz My; simp only [bE,bq,dqs]
def MA (c:ZD oE) (v:ZD mo):LQ zU:=bB (Mz c) dw v
theorem axr:ay (anL)=[.loop FJ]:=by kernel_rfl
noncomputable def axt:List Loop:=[lk 0 FK ZI ZI true Qh MA]
def anP {α:Type} (l:Option (TP).den->α) (an:α->α->α) (x:(aeV).den):α:=bp (MA (x.2.1,(x.1,(((x.1.n:Nat):Int),()))) ((0:Int),())) 0 (fun u0=>l (some ((0:Int),(false,())))) (bK (MA (x.2.1,(x.1,(((x.1.n:Nat):Int),()))) ((0:Int),())) (fun u1=>l (some u1)) (l none))
theorem aKd:QO XM Tryz.f129 axt aeV TP anP:=fun _=>by kernel_rfl
def XO (x:(aeV).den):Option (TP).den:=anP (fun r=>r) (fun _ _=>none) x
theorem aKe:MOz XM Tryz.f129 axt XO:=fun x=>by rw [aKd]; unfold XO anP; simp only [Tree.sure,sus]
def aKf:=pO XO
def aKg:=vO (τ:=TP) XO
def axu:Con:=⟨aeV,TP,aKf,aKg⟩
theorem aKh:aQ Tryz.prog 129 axu:=hO ajl aKc aKe fun G' hlo hF hE=>aP (by rw [axr]; exact .cons (lv hE hF hlo (ln aeW) Qh anO) (.nil))
noncomputable def c78:=bW Tryz.f78
theorem axv:bV 78 Tryz.f78 c78:=bX
abbrev axw:Ty:=(.cons tI Tq)
abbrev anQ:Ty:=(.agg axw)
abbrev aeY:Ty:=(.cons anQ .nil)
abbrev a78:Ty:=aeY
abbrev r78:Ty:=T34
noncomputable def G78:Ctx:=Ctx.of [(83,.pure k83),(129,.pure axu),(130,.pure axp)]
theorem g78:SP G78:=aB (fa ⟨⟨TL.c,h83⟩,fa ⟨⟨ajl.c,aKh⟩,fa ⟨⟨ajk.c,aKa⟩,f0⟩⟩⟩)
def Q78 {α:Type} (l:Option (r78).den->α) (an:α->α->α) (x:(a78).den):α:=cl (TM).dflt (Vq (x.1.1,((1:Int),((6:Int),())))) (fun u0=>bif (!u0.1) then l (some ((0:Int),(false,()))) else bif (decide (x.1.1=(0:Int))) then l none else bif (!(decide ((Int.tmod ((x.1.2.1.n:Nat):Int) x.1.1)=(0:Int)))) then l (some ((0:Int),(false,()))) else bif (decide (x.1.1=(0:Int))) then l none else cl (TM).dflt (Vq ((W (Int.tdiv ((x.1.2.1.n:Nat):Int) x.1.1)),((1:Int),((5:Int),())))) (fun u1=>bif (!u1.1) then l (some ((0:Int),(false,()))) else cl (TP).dflt (XO (x.1.2.1,((fun y1=>((axn y1),(axo y1))),()))) (fun u2=>bif (decide (x.1.1=(0:Int))) then l none else l (some ((W (Int.tdiv ((x.1.2.1.n:Nat):Int) x.1.1)),((!u2.2.1),())))) (l none)) (l none)) (l none)
theorem q78:QO G78 Tryz.f78 [] a78 r78 Q78:=fun _=>by kernel_rfl
def M78 (x:(a78).den):Option (r78).den:=Q78 (fun r=>r) (fun _ _=>none) x
theorem m78:MOz G78 Tryz.f78 [] M78:=fun x=>by rw [q78]; unfold M78 Q78; simp only [Tree.sure,sus]
def p78:=pO M78
def v78:=vO (τ:=r78) M78
def k78:Con:=⟨a78,r78,p78,v78⟩
theorem h78:aQ Tryz.prog 78 k78:=hO axv g78 m78 l0
noncomputable def c80:=bW Tryz.f80
theorem anR:bV 80 Tryz.f80 c80:=bX
abbrev aKk:Ty:=(.cons (.sl T2) T1)
abbrev aKl:Ty:=(.cons tI aKk)
abbrev aKm:Ty:=(.cons tI aKl)
abbrev aKn:Ty:=(.cons tI aKm)
abbrev anS:Ty:=(.agg aKn)
abbrev XP:Ty:=(.cons anS .nil)
abbrev a80:Ty:=T99
abbrev r80:Ty:=XP
noncomputable def G80:Ctx:=Ctx.of []
theorem g80:SP G80:=aB f0
def Q80 {α:Type} (l:Option (r80).den->α) (an:α->α->α) (x:(a80).den):α:=l (some ((x.1.1,(x.1.2.1,(x.1.2.2.1,(x.1.2.2.2.1,(x.1.1,(x.1.2.1,())))))),()))
theorem q80:QO G80 Tryz.f80 [] a80 r80 Q80:=fun _=>by kernel_rfl
def M80 (x:(a80).den):Option (r80).den:=Q80 (fun r=>r) (fun _ _=>none) x
theorem m80:MOz G80 Tryz.f80 [] M80:=fun x=>by rw [q80]; unfold M80 Q80; simp only [Tree.sure,sus]
def p80:=pO M80
def v80:=vO (τ:=r80) M80
def k80:Con:=⟨a80,r80,p80,v80⟩
theorem h80:aQ Tryz.prog 80 k80:=hO anR g80 m80 l0
noncomputable def aKr:=bW Tryz.f175
theorem ajm:bV 175 Tryz.f175 aKr:=bX
abbrev aKs:Ty:=(.cons anS T31)
abbrev aeZ:Ty:=aKs
abbrev TQ:Ty:=T3
noncomputable def anU:Ctx:=Ctx.of [(133,.pure XD)]
theorem aKt:SP anU:=aB (fa ⟨⟨Jz.c,aeQ⟩,f0⟩)
def anV {α:Type} (l:Option (TQ).den->α) (an:α->α->α) (x:(aeZ).den):α:=cl (JA).dflt (Dw (x.1.2.2.2.2,(x.2.1.1,(x.2.2.1.1,())))) (fun u0=>bif (decide (x.2.2.1.2.2.1 < (W (x.2.1.2.1 - (W (x.1.2.2.1 * u0.1)))))) then l (some (true,())) else l (some ((decide (x.2.1.2.2.1 < (W (x.2.2.1.2.1 - (W (x.1.2.2.1 * u0.1)))))),()))) (l none)
theorem aKu:QO anU Tryz.f175 [] aeZ TQ anV:=fun _=>by kernel_rfl
def XQ (x:(aeZ).den):Option (TQ).den:=anV (fun r=>r) (fun _ _=>none) x
theorem aKv:MOz anU Tryz.f175 [] XQ:=fun x=>by rw [aKu]; unfold XQ anV; simp only [Tree.sure,sus]
def aKw:=pO XQ
def aKx:=vO (τ:=TQ) XQ
def axy:Con:=⟨aeZ,TQ,aKw,aKx⟩
theorem aKy:aQ Tryz.prog 175 axy:=hO ajm aKt aKv l0
noncomputable def anW:=bW Tryz.f137
theorem ajn:bV 137 Tryz.f137 anW:=bX
abbrev ae0:Ty:=XP
abbrev TR:Ty:=T35
noncomputable def MB:Ctx:=Ctx.of [(175,.pure axy)]
theorem aKz:SP MB:=aB (fa ⟨⟨ajm.c,aKy⟩,f0⟩)
noncomputable def Cc:Code:=bn ((ay (anW))[0]?)
noncomputable def wm:Code:=bn ((ay (Cc))[0]?)
theorem TS:ay (wm)=[]:=by kernel_rfl
abbrev ja:List bg:=[.slot 1 (.ptr 1),.slot 5 (.pc tI),.slot 6 (.ptr 47),.slot 10 (.pc (.sl T2)),.slot 11 (.pc tI),.slot 12 (.pc tI),.box 1 [.pc tI,.pc tI,.pc tI,.pc (.sl T2),.pc tI,.pc tI],.box 47 [.pc tI,.pc tI,.pc tI]]
abbrev gU:List bg:=[.slot 7 (.pc tI)]
abbrev sL:List bg:=ja ++ gU
def JB:ZJ ja gU sL:=ZA _ _
def jb:ZS ja gU sL:=ZP _ _
abbrev nE:bk:=⟨[(2,[.slot 1 (.ptr 1),.slot 10 (.pc (.sl T2)),.slot 11 (.pc tI),.slot 12 (.pc tI),.box 1 [.pc tI,.pc tI,.pc tI,.pc (.sl T2),.pc tI,.pc tI]])],[.slot 2 (.pc tI),.slot 3 (.pc tI),.slot 4 (.pc .bool)],[]⟩
abbrev sM:bk:=⟨[(2,[])],[.slot 2 (.pc tI),.slot 3 (.pc tI),.slot 4 (.pc .bool)],[]⟩
def sN:ZE ja sM nE:=fun id=>match id with | 2=>fun c y=>(c.1,(c.2.2.2.1,(c.2.2.2.2.1,(c.2.2.2.2.2.1,(c.2.2.2.2.2.2.1,y))))) | _=>gC
def Cd {α:Type} (l:RQ gU sM->α) (an:α->α->α) (c:ZD ja) (v:ZD gU):α:=bif (decide (v.1 < ((c.2.2.2.2.2.2.1.2.2.2.1.n:Nat):Int))) then bif (decide (((0:Int)<=v.1)/\(v.1 < ((c.2.2.2.2.2.2.1.2.2.2.1.n:Nat):Int)))) then cl (TQ).dflt (XQ (c.2.2.2.2.2.2.1,(c.2.2.2.2.2.2.2.1,((c.2.2.2.2.2.2.1.2.2.2.1.g (Int.toNat v.1)),())))) (fun u0=>bif u0.1 then l (.out (.ret (c.2.1,(v.1,(true,()))))) else l (.next ((W (v.1 + (1:Int))),()))) (l .bad) else l .bad else l (.out (.exit 2 ()))
theorem XR:ZO MB 0 39 wm [] JB sN ZI ZI Cd:=fun _ _=>by kernel_rfl
def Ce (c:ZD ja) (v:ZD gU):RQ gU sM:=Cd (fun r=>r) (fun _ _=>.bad) c v
theorem XS:SO MB 0 39 wm [] JB sN ZI ZI Ce:=fun c v=>by rw [XR]; unfold Ce Cd; simp only [bE,bq,dqs]
def wo (c:ZD ja) (v:ZD gU):LQ sM:=bB (Ce c) dw v
theorem ae1:ay (Cc)=[.loop wm]:=by kernel_rfl
abbrev oF:List bg:=[.slot 1 (.ptr 1),.slot 10 (.pc (.sl T2)),.slot 11 (.pc tI),.box 1 [.pc tI,.pc tI,.pc tI,.pc (.sl T2),.pc tI,.pc tI]]
abbrev mq:List bg:=[.slot 12 (.pc tI)]
abbrev Qi:List bg:=oF ++ mq
def XT:ZJ oF mq Qi:=ZA _ _
def Qj:ZS oF mq Qi:=ZP _ _
abbrev ae2:bk:=⟨[(0,[])],[.slot 2 (.pc tI),.slot 3 (.pc tI),.slot 4 (.pc .bool)],[]⟩
abbrev zV:bk:=⟨[(0,[])],[.slot 2 (.pc tI),.slot 3 (.pc tI),.slot 4 (.pc .bool)],[]⟩
def FL:ZE oF zV ae2:=fun id=>match id with | 0=>fun c y=>y | _=>gC
def MC {α:Type} (l:RQ mq zV->α) (an:α->α->α) (c:ZD oF) (v:ZD mq):α:=bif (decide (v.1 < c.2.2.1)) then bif (decide (((0:Int)<=v.1)/\(v.1 < ((c.2.1.n:Nat):Int)))) then bp (wo ((),(v.1,((),(c.2.1,(c.2.2.1,(v.1,(c.2.2.2.1,((c.2.1.g (Int.toNat v.1)),())))))))) ((W (v.1 + (1:Int))),())) 2 (fun u1=>l (.next ((W (v.1 + (1:Int))),()))) (bK (wo ((),(v.1,((),(c.2.1,(c.2.2.1,(v.1,(c.2.2.2.1,((c.2.1.g (Int.toNat v.1)),())))))))) ((W (v.1 + (1:Int))),())) (fun u2=>l (.out (.ret u2))) (l .bad)) else l .bad else l (.out (.exit 0 ()))
theorem anX:ZO MB 0 39 Cc [.known (fm 0 [] sL fun x=>cD nE sN ZI ZI [] true (jb x).1 (wo (jb x).1 (jb x).2) nE.dY)] XT FL ZI ZI MC:=fun _ _=>by kernel_rfl
def MD (c:ZD oF) (v:ZD mq):RQ mq zV:=MC (fun r=>r) (fun _ _=>.bad) c v
theorem anY:SO MB 0 39 Cc [.known (fm 0 [] sL fun x=>cD nE sN ZI ZI [] true (jb x).1 (wo (jb x).1 (jb x).2) nE.dY)] XT FL ZI ZI MD:=fun c v=>by rw [anX]; unfold MD MC; simp only [bE,bq,dqs]
def ME (c:ZD oF) (v:ZD mq):LQ zV:=bB (MD c) dw v
theorem axz:ay (anW)=[.loop Cc]:=by kernel_rfl
noncomputable def axA:List Loop:=[lk 0 FL ZI ZI true Qj ME]
def anZ {α:Type} (l:Option (TR).den->α) (an:α->α->α) (x:(ae0).den):α:=bp (ME ((),(x.1.2.2.2.1,(((x.1.2.2.2.1.n:Nat):Int),(x.1,())))) ((0:Int),())) 0 (fun u3=>l (some ((0:Int),((0:Int),(false,()))))) (bK (ME ((),(x.1.2.2.2.1,(((x.1.2.2.2.1.n:Nat):Int),(x.1,())))) ((0:Int),())) (fun u4=>l (some u4)) (l none))
theorem aKA:QO MB Tryz.f137 axA ae0 TR anZ:=fun _=>by kernel_rfl
def XU (x:(ae0).den):Option (TR).den:=anZ (fun r=>r) (fun _ _=>none) x
theorem aKB:MOz MB Tryz.f137 axA XU:=fun x=>by rw [aKA]; unfold XU anZ; simp only [Tree.sure,sus]
def aKC:=pO XU
def aKD:=vO (τ:=TR) XU
def axB:Con:=⟨ae0,TR,aKC,aKD⟩
theorem aKE:aQ Tryz.prog 137 axB:=hO ajn aKz aKB fun G' hlo hF hE=>aP (by rw [axz]; exact .cons (lv hE hF hlo (aP (by rw [ae1]; exact .cons (lv hE hF hlo (ln TS) jb XS) (.nil))) Qj anY) (.nil))
noncomputable def c87:=bW Tryz.f87
theorem an0:bV 87 Tryz.f87 c87:=bX
abbrev a87:Ty:=XP
abbrev r87:Ty:=T3
noncomputable def G87:Ctx:=Ctx.of []
theorem g87:SP G87:=aB f0
def Q87 {α:Type} (l:Option (r87).den->α) (an:α->α->α) (x:(a87).den):α:=l (some (true,()))
theorem q87:QO G87 Tryz.f87 [] a87 r87 Q87:=fun _=>by kernel_rfl
def M87 (x:(a87).den):Option (r87).den:=Q87 (fun r=>r) (fun _ _=>none) x
theorem m87:MOz G87 Tryz.f87 [] M87:=fun x=>by rw [q87]; unfold M87 Q87; simp only [Tree.sure,sus]
def p87:=pO M87
def v87:=vO (τ:=r87) M87
def k87:Con:=⟨a87,r87,p87,v87⟩
theorem h87:aQ Tryz.prog 87 k87:=hO an0 g87 m87 l0
noncomputable def c86:=bW Tryz.f86
theorem an1:bV 86 Tryz.f86 c86:=bX
abbrev aKK:Ty:=(.fn XP T3)
abbrev aKL:Ty:=(.cons aKK .nil)
abbrev aKM:Ty:=(.cons T98 aKL)
abbrev an2:Ty:=(.cons anS T0)
abbrev a86:Ty:=aKM
abbrev r86:Ty:=an2
noncomputable def G86:Ctx:=Ctx.of [(79,.pure k79),(80,.pure k80),(137,.pure axB)]
theorem g86:SP G86:=aB (fa ⟨⟨anG.c,h79⟩,fa ⟨⟨anR.c,h80⟩,fa ⟨⟨ajn.c,aKE⟩,f0⟩⟩⟩)
def Q86 {α:Type} (l:Option (r86).den->α) (an:α->α->α) (x:(a86).den):α:=cl (r79).dflt (M79 (x.1,())) (fun u0=>bif (!u0.1) then l (some (((0:Int),((0:Int),((0:Int),((⟨0,fun i=>((0:Int),((0:Int),((0:Int),())))⟩:Sl _),((0:Int),((0:Int),())))))),((2:Int),()))) else cl (r80).dflt (M80 (x.1,())) (fun u1=>bif (x.2.1 (u1.1,())).1 then bif (!(x.2.1 (u1.1,())).2.1) then l (some (((0:Int),((0:Int),((0:Int),((⟨0,fun i=>((0:Int),((0:Int),((0:Int),())))⟩:Sl _),((0:Int),((0:Int),())))))),((2:Int),()))) else cl (TR).dflt (XU (u1.1,())) (fun u2=>bif u2.2.2.1 then l (some (((0:Int),((0:Int),((0:Int),((⟨0,fun i=>((0:Int),((0:Int),((0:Int),())))⟩:Sl _),((0:Int),((0:Int),())))))),((7:Int),()))) else l (some (u1.1,((0:Int),())))) (l none) else l none) (l none)) (l none)
theorem q86:QO G86 Tryz.f86 [] a86 r86 Q86:=fun _=>by kernel_rfl
def M86 (x:(a86).den):Option (r86).den:=Q86 (fun r=>r) (fun _ _=>none) x
theorem m86:MOz G86 Tryz.f86 [] M86:=fun x=>by rw [q86]; unfold M86 Q86; simp only [Tree.sure,sus]
def p86:=pO M86
def v86:=vO (τ:=r86) M86
def k86:Con:=⟨a86,r86,p86,v86⟩
theorem h86:aQ Tryz.prog 86 k86:=hO an1 g86 m86 l0
noncomputable def an4:=bW Tryz.f138
theorem ajo:bV 138 Tryz.f138 an4:=bX
abbrev ae3:Ty:=an2
abbrev XV:Ty:=T0
noncomputable def XW:Ctx:=Ctx.of [(133,.pure XD),(136,.pure anm)]
theorem aKQ:SP XW:=aB (fa ⟨⟨Jz.c,aeQ⟩,fa ⟨⟨Xx.c,axa⟩,f0⟩⟩)
noncomputable def FM:Code:=bn ((ay (an4))[0]?)
theorem ae4:ay (FM)=[]:=by kernel_rfl
abbrev oG:List bg:=[.slot 1 (.pc tI),.slot 2 (.ptr 2),.slot 10 (.pc (.sl T2)),.slot 11 (.pc tI),.box 2 [.pc tI,.pc tI,.pc tI,.pc (.sl T2),.pc tI,.pc tI]]
abbrev mu:List bg:=[.slot 5 (.pc tI),.slot 12 (.pc tI)]
abbrev Qk:List bg:=oG ++ mu
def XX:ZJ oG mu Qk:=ZA _ _
def Ql:ZS oG mu Qk:=ZP _ _
abbrev ae5:bk:=⟨[(0,[.slot 5 (.pc tI)])],[],[]⟩
abbrev zW:bk:=⟨[(0,[.slot 5 (.pc tI)])],[],[]⟩
def FN:ZE oG zW ae5:=fun id=>match id with | 0=>fun c y=>y | _=>gC
def MF {α:Type} (l:RQ mu zW->α) (an:α->α->α) (c:ZD oG) (v:ZD mu):α:=bif (decide (v.2.1 < c.2.2.2.1)) then bif (decide (((0:Int)<=v.2.1)/\(v.2.1 < ((c.2.2.1.n:Nat):Int)))) then cl (JA).dflt (Dw (c.2.2.2.2.1.2.2.2.2,(c.1,((c.2.2.1.g (Int.toNat v.2.1)).1,())))) (fun u0=>cl (Mr).dflt (TN ((⟨2,fun i=>List.getD [(v.1,()),((W ((c.2.2.1.g (Int.toNat v.2.1)).2.1 - (W (c.2.2.2.2.1.2.2.1 * u0.1)))),())] i (v.1,())⟩:Sl _),())) (fun u1=>l (.next (u1.1,((W (v.2.1 + (1:Int))),())))) (l .bad)) (l .bad) else l .bad else l (.out (.exit 0 (v.1,())))
theorem an5:ZO XW 0 35 FM [] XX FN ZI ZI MF:=fun _ _=>by kernel_rfl
def MG (c:ZD oG) (v:ZD mu):RQ mu zW:=MF (fun r=>r) (fun _ _=>.bad) c v
theorem an6:SO XW 0 35 FM [] XX FN ZI ZI MG:=fun c v=>by rw [an5]; unfold MG MF; simp only [bE,bq,dqs]
def XY (c:ZD oG) (v:ZD mu):LQ zW:=bB (MG c) dw v
theorem axD:ay (an4)=[.loop FM]:=by kernel_rfl
noncomputable def axE:List Loop:=[lk 0 FN ZI ZI false Ql XY]
def an7 {α:Type} (l:Option (XV).den->α) (an:α->α->α) (x:(ae3).den):α:=bp (XY (x.2.1,((),(x.1.2.2.2.1,(((x.1.2.2.2.1.n:Nat):Int),(x.1,()))))) ((0:Int),((0:Int),()))) 0 (fun u2=>l (some u2)) (l none)
theorem aKR:QO XW Tryz.f138 axE ae3 XV an7:=fun _=>by kernel_rfl
def ae6 (x:(ae3).den):Option (XV).den:=an7 (fun r=>r) (fun _ _=>none) x
theorem aKS:MOz XW Tryz.f138 axE ae6:=fun x=>by rw [aKR]; unfold ae6 an7; simp only [Tree.sure,sus]
def ae7:=pO ae6
def ae8:=vO (τ:=XV) ae6
def axF:Con:=⟨ae3,XV,ae7,ae8⟩
theorem aKT:aQ Tryz.prog 138 axF:=hO ajo aKQ aKS fun G' hlo hF hE=>aP (by rw [axD]; exact .cons (lv hE hF hlo (ln ae4) Ql an6) (.nil))
noncomputable def an8:=bW Tryz.f139
theorem ajp:bV 139 Tryz.f139 an8:=bX
abbrev ae9:Ty:=an2
abbrev XZ:Ty:=T0
noncomputable def Ya:Ctx:=Ctx.of [(133,.pure XD),(176,.pure axd)]
theorem aKU:SP Ya:=aB (fa ⟨⟨Jz.c,aeQ⟩,fa ⟨⟨ajf.c,aJy⟩,f0⟩⟩)
noncomputable def FO:Code:=bn ((ay (an8))[0]?)
theorem afa:ay (FO)=[]:=by kernel_rfl
abbrev oH:List bg:=[.slot 1 (.pc tI),.slot 2 (.ptr 2),.slot 10 (.pc (.sl T2)),.slot 11 (.pc tI),.box 2 [.pc tI,.pc tI,.pc tI,.pc (.sl T2),.pc tI,.pc tI]]
abbrev mw:List bg:=[.slot 5 (.pc tI),.slot 12 (.pc tI)]
abbrev Qm:List bg:=oH ++ mw
def Yb:ZJ oH mw Qm:=ZA _ _
def Qn:ZS oH mw Qm:=ZP _ _
abbrev afb:bk:=⟨[(0,[.slot 5 (.pc tI)])],[],[]⟩
abbrev zX:bk:=⟨[(0,[.slot 5 (.pc tI)])],[],[]⟩
def FQ:ZE oH zX afb:=fun id=>match id with | 0=>fun c y=>y | _=>gC
def MH {α:Type} (l:RQ mw zX->α) (an:α->α->α) (c:ZD oH) (v:ZD mw):α:=bif (decide (v.2.1 < c.2.2.2.1)) then bif (decide (((0:Int)<=v.2.1)/\(v.2.1 < ((c.2.2.1.n:Nat):Int)))) then cl (JA).dflt (Dw (c.2.2.2.2.1.2.2.2.2,(c.1,((c.2.2.1.g (Int.toNat v.2.1)).1,())))) (fun u0=>cl (TO).dflt (XA ((⟨2,fun i=>List.getD [(v.1,()),((W ((c.2.2.1.g (Int.toNat v.2.1)).2.2.1 + (W (c.2.2.2.2.1.2.2.1 * u0.1)))),())] i (v.1,())⟩:Sl _),())) (fun u1=>l (.next (u1.1,((W (v.2.1 + (1:Int))),())))) (l .bad)) (l .bad) else l .bad else l (.out (.exit 0 (v.1,())))
theorem an9:ZO Ya 0 35 FO [] Yb FQ ZI ZI MH:=fun _ _=>by kernel_rfl
def MI (c:ZD oH) (v:ZD mw):RQ mw zX:=MH (fun r=>r) (fun _ _=>.bad) c v
theorem aoa:SO Ya 0 35 FO [] Yb FQ ZI ZI MI:=fun c v=>by rw [an9]; unfold MI MH; simp only [bE,bq,dqs]
def Yc (c:ZD oH) (v:ZD mw):LQ zX:=bB (MI c) dw v
theorem axG:ay (an8)=[.loop FO]:=by kernel_rfl
noncomputable def axH:List Loop:=[lk 0 FQ ZI ZI false Qn Yc]
def aob {α:Type} (l:Option (XZ).den->α) (an:α->α->α) (x:(ae9).den):α:=bp (Yc (x.2.1,((),(x.1.2.2.2.1,(((x.1.2.2.2.1.n:Nat):Int),(x.1,()))))) ((99999:Int),((0:Int),()))) 0 (fun u2=>l (some u2)) (l none)
theorem aKV:QO Ya Tryz.f139 axH ae9 XZ aob:=fun _=>by kernel_rfl
def afc (x:(ae9).den):Option (XZ).den:=aob (fun r=>r) (fun _ _=>none) x
theorem aKW:MOz Ya Tryz.f139 axH afc:=fun x=>by rw [aKV]; unfold afc aob; simp only [Tree.sure,sus]
def afd:=pO afc
def afe:=vO (τ:=XZ) afc
def axI:Con:=⟨ae9,XZ,afd,afe⟩
theorem aKX:aQ Tryz.prog 139 axI:=hO ajp aKU aKW fun G' hlo hF hE=>aP (by rw [axG]; exact .cons (lv hE hF hlo (ln afa) Qn aoa) (.nil))
noncomputable def c88:=bW Tryz.f88
theorem aoc:bV 88 Tryz.f88 c88:=bX
abbrev TT:Ty:=(.cons (.sl T0) Tq)
abbrev aKZ:Ty:=(.agg TT)
abbrev aod:Ty:=(.cons aKZ .nil)
abbrev a88:Ty:=XP
abbrev r88:Ty:=aod
noncomputable def G88:Ctx:=Ctx.of [(138,.pure axF),(139,.pure axI)]
theorem g88:SP G88:=aB (fa ⟨⟨ajo.c,aKT⟩,fa ⟨⟨ajp.c,aKX⟩,f0⟩⟩)
noncomputable def Yd:Code:=bn ((ay (c88))[0]?)
noncomputable def oI:Code:=bn ((ay (Yd))[0]?)
abbrev Dx:Ty:=(.fn T0 T0)
abbrev aK0:Ty:=(.cons Dx .nil)
abbrev xT:Ty:=(.cons Dx aK0)
theorem MJ:ay (oI)=[]:=by kernel_rfl
abbrev eO:List bg:=[.slot 1 (.ptr 1),.slot 2 (.ptr 2),.slot 3 (.ptr 44),.slot 4 (.k (0:Int)),.slot 5 (.pc Dx),.agg 12 xT,.slot 13 (.pc tI),.slot 23 (.pc tI),.box 1 [.pc tI,.pc tI,.pc tI,.pc (.sl T2),.pc tI,.pc tI],.box 2 [.own 1003000 3 T0,.own 1003001 3 T0]]
abbrev fE:List bg:=[.slot 24 (.pc tI),.box 44 [.own 1045000 3 T0,.own 1045001 3 T0]]
abbrev lA:List bg:=[.slot 1 (.ptr 1),.slot 2 (.ptr 2),.slot 3 (.ptr 44),.slot 4 (.k (0:Int)),.slot 5 (.pc Dx),.agg 12 xT,.slot 13 (.pc tI),.slot 23 (.pc tI),.box 1 [.pc tI,.pc tI,.pc tI,.pc (.sl T2),.pc tI,.pc tI],.box 2 [.own 1003000 3 T0,.own 1003001 3 T0],.slot 24 (.pc tI),.box 44 [.own 1045000 3 T0,.own 1045001 3 T0]]
def sO:(ZD eO)->(ZD fE)->(ZD lA):=fun c v=>(c.1,(c.2.1,(c.2.2.1,(c.2.2.2.1,(c.2.2.2.2.1,(c.2.2.2.2.2.1,(c.2.2.2.2.2.2.1,(c.2.2.2.2.2.2.2.1,(c.2.2.2.2.2.2.2.2.1,(c.2.2.2.2.2.2.2.2.2.1,v))))))))))
def oJ:(ZD lA)->(ZD eO)×(ZD fE):=fun x=>((x.1,(x.2.1,(x.2.2.1,(x.2.2.2.1,(x.2.2.2.2.1,(x.2.2.2.2.2.1,(x.2.2.2.2.2.2.1,(x.2.2.2.2.2.2.2.1,(x.2.2.2.2.2.2.2.2.1,(x.2.2.2.2.2.2.2.2.2.1,())))))))))),x.2.2.2.2.2.2.2.2.2.2)
abbrev gk:bk:=⟨[(2,[.slot 1 (.ptr 1),.slot 2 (.ptr 2),.slot 3 (.ptr 44),.agg 12 xT,.slot 13 (.pc tI),.box 1 [.pc tI,.pc tI,.pc tI,.pc (.sl T2),.pc tI,.pc tI],.box 2 [.own 1003000 3 T0,.own 1003001 3 T0],.box 44 [.own 1045000 3 T0,.own 1045001 3 T0]])],[],[]⟩
abbrev jc:bk:=⟨[(2,[.box 44 [.own 1045000 3 T0,.own 1045001 3 T0]])],[],[]⟩
def uy:(id:Nat)->(ZD eO)->(ZD (ct jc id))->(ZD (ct gk id)):=fun id=>match id with | 2=>fun c y=>(c.1,(c.2.1,(c.2.2.1,(c.2.2.2.2.2.1,(c.2.2.2.2.2.2.1,(c.2.2.2.2.2.2.2.2.1,(c.2.2.2.2.2.2.2.2.2.1,y))))))) | id=>fun _ _=>(aa (ct gk id)).dflt
def uz:(ZD eO)->(aa (jc).ret).den->(aa (gk).ret).den:=fun c y=>y
def uA:(ZD eO)->(aa (jc).bP).den->(aa (gk).bP).den:=fun c y=>y
def xU {α:Type} (l:RQ fE jc->α) (an:α->α->α) (c:ZD eO) (v:ZD fE):α:=bif (decide (v.1 < c.2.2.2.2.2.2.2.1)) then bif (c.2.2.2.2.1 (v.1,())).1 then bif (decide (((v.2.1.1.n + 1) * 8)<=140737488355328)) then l (.next ((W (v.1 + (1:Int))),(((cj v.2.1.1 (⟨1,fun i=>List.getD [(c.2.2.2.2.1 (v.1,())).2] i (c.2.2.2.2.1 (v.1,())).2⟩:Sl (Ty.den T0))),v.2.1.2),()))) else l .bad else l .bad else l (.out (.exit 2 (v.2.1,())))
theorem TU (c:ZD eO) (v:ZD fE):cG Tryz.prog E0 G88 0 41 [] lA gk oI [] (sO c v)=xU (fun r=>.leaf (r.lift sO uy uz uA c)) .any c v:=by kernel_rfl
def xV (c:ZD eO) (v:ZD fE):RQ fE jc:=xU (fun r=>r) (fun _ _=>.bad) c v
theorem TV (c:ZD eO) (v:ZD fE):bE (cG Tryz.prog E0 G88 0 41 [] lA gk oI [] (sO c v))=(xV c v).lift sO uy uz uA c:=by rw [TU]; unfold xV xU; simp only [bE,bq,dqs]
def Ef (c:ZD eO) (v:ZD fE):LQ jc:=bB (xV c) dw v
theorem MK:ay (oI)=[]:=by kernel_rfl
abbrev eP:List bg:=[.slot 1 (.ptr 1),.slot 2 (.ptr 2),.slot 3 (.ptr 44),.slot 4 (.k (1:Int)),.slot 5 (.pc Dx),.agg 12 xT,.slot 13 (.pc tI),.slot 23 (.pc tI),.box 1 [.pc tI,.pc tI,.pc tI,.pc (.sl T2),.pc tI,.pc tI],.box 2 [.own 1003000 3 T0,.own 1003001 3 T0]]
abbrev fF:List bg:=[.slot 24 (.pc tI),.box 44 [.own 1045000 3 T0,.own 1045001 3 T0]]
abbrev lB:List bg:=[.slot 1 (.ptr 1),.slot 2 (.ptr 2),.slot 3 (.ptr 44),.slot 4 (.k (1:Int)),.slot 5 (.pc Dx),.agg 12 xT,.slot 13 (.pc tI),.slot 23 (.pc tI),.box 1 [.pc tI,.pc tI,.pc tI,.pc (.sl T2),.pc tI,.pc tI],.box 2 [.own 1003000 3 T0,.own 1003001 3 T0],.slot 24 (.pc tI),.box 44 [.own 1045000 3 T0,.own 1045001 3 T0]]
def sP:(ZD eP)->(ZD fF)->(ZD lB):=fun c v=>(c.1,(c.2.1,(c.2.2.1,(c.2.2.2.1,(c.2.2.2.2.1,(c.2.2.2.2.2.1,(c.2.2.2.2.2.2.1,(c.2.2.2.2.2.2.2.1,(c.2.2.2.2.2.2.2.2.1,(c.2.2.2.2.2.2.2.2.2.1,v))))))))))
def oK:(ZD lB)->(ZD eP)×(ZD fF):=fun x=>((x.1,(x.2.1,(x.2.2.1,(x.2.2.2.1,(x.2.2.2.2.1,(x.2.2.2.2.2.1,(x.2.2.2.2.2.2.1,(x.2.2.2.2.2.2.2.1,(x.2.2.2.2.2.2.2.2.1,(x.2.2.2.2.2.2.2.2.2.1,())))))))))),x.2.2.2.2.2.2.2.2.2.2)
abbrev gl:bk:=⟨[(2,[.slot 1 (.ptr 1),.slot 2 (.ptr 2),.slot 3 (.ptr 44),.agg 12 xT,.slot 13 (.pc tI),.box 1 [.pc tI,.pc tI,.pc tI,.pc (.sl T2),.pc tI,.pc tI],.box 2 [.own 1003000 3 T0,.own 1003001 3 T0],.box 44 [.own 1045000 3 T0,.own 1045001 3 T0]])],[],[]⟩
abbrev jf:bk:=⟨[(2,[.box 44 [.own 1045000 3 T0,.own 1045001 3 T0]])],[],[]⟩
def uB:(id:Nat)->(ZD eP)->(ZD (ct jf id))->(ZD (ct gl id)):=fun id=>match id with | 2=>fun c y=>(c.1,(c.2.1,(c.2.2.1,(c.2.2.2.2.2.1,(c.2.2.2.2.2.2.1,(c.2.2.2.2.2.2.2.2.1,(c.2.2.2.2.2.2.2.2.2.1,y))))))) | id=>fun _ _=>(aa (ct gl id)).dflt
def uC:(ZD eP)->(aa (jf).ret).den->(aa (gl).ret).den:=fun c y=>y
def uD:(ZD eP)->(aa (jf).bP).den->(aa (gl).bP).den:=fun c y=>y
def xW {α:Type} (l:RQ fF jf->α) (an:α->α->α) (c:ZD eP) (v:ZD fF):α:=bif (decide (v.1 < c.2.2.2.2.2.2.2.1)) then bif (c.2.2.2.2.1 (v.1,())).1 then bif (decide (((v.2.1.2.1.n + 1) * 8)<=140737488355328)) then l (.next ((W (v.1 + (1:Int))),((v.2.1.1,((cj v.2.1.2.1 (⟨1,fun i=>List.getD [(c.2.2.2.2.1 (v.1,())).2] i (c.2.2.2.2.1 (v.1,())).2⟩:Sl (Ty.den T0))),())),()))) else l .bad else l .bad else l (.out (.exit 2 (v.2.1,())))
theorem TW (c:ZD eP) (v:ZD fF):cG Tryz.prog E0 G88 0 41 [] lB gl oI [] (sP c v)=xW (fun r=>.leaf (r.lift sP uB uC uD c)) .any c v:=by kernel_rfl
def xX (c:ZD eP) (v:ZD fF):RQ fF jf:=xW (fun r=>r) (fun _ _=>.bad) c v
theorem TX (c:ZD eP) (v:ZD fF):bE (cG Tryz.prog E0 G88 0 41 [] lB gl oI [] (sP c v))=(xX c v).lift sP uB uC uD c:=by rw [TW]; unfold xX xW; simp only [bE,bq,dqs]
def Eg (c:ZD eP) (v:ZD fF):LQ jf:=bB (xX c) dw v
theorem aog:ay (Yd)=[.loop oI]:=by kernel_rfl
theorem aK1:ay (c88)=[.loop Yd]:=by kernel_rfl
noncomputable def l88:List Loop:=[.ia 3 [.known (Tk 4 (0:Int) (fm 0 [] lA fun x=>cD gk uy uz uA [] false (oJ x).1 (Ef (oJ x).1 (oJ x).2) gk.dY) (fm 0 [] lB fun x=>cD gl uB uC uD [] false (oK x).1 (Eg (oK x).1 (oK x).2) gl.dY))]]
def Q88 {α:Type} (l:Option (r88).den->α) (an:α->α->α) (x:(a88).den):α:=bp (Ef ((),((),((),((),((fun y1=>((ae7 (x.1,y1)),(ae8 (x.1,y1)))),(((fun y1=>((ae7 (x.1,y1)),(ae8 (x.1,y1)))),((fun y1=>((afd (x.1,y1)),(afe (x.1,y1)))),())),((0:Int),((W (x.1.1 * x.1.2.1)),(x.1,(((⟨0,fun i=>((0:Int),())⟩:Sl _),((⟨0,fun i=>((0:Int),())⟩:Sl _),())),())))))))))) ((0:Int),(((⟨0,fun i=>((0:Int),())⟩:Sl _),((⟨0,fun i=>((0:Int),())⟩:Sl _),())),()))) 2 (fun u0=>bp (Eg ((),((),((),((),((fun y1=>((afd (x.1,y1)),(afe (x.1,y1)))),(((fun y1=>((ae7 (x.1,y1)),(ae8 (x.1,y1)))),((fun y1=>((afd (x.1,y1)),(afe (x.1,y1)))),())),((1:Int),((W (x.1.1 * x.1.2.1)),(x.1,(((⟨0,fun i=>((0:Int),())⟩:Sl _),((⟨0,fun i=>((0:Int),())⟩:Sl _),())),())))))))))) ((0:Int),(u0.1,()))) 2 (fun u1=>l (some (u1.1,()))) (l none)) (l none)
theorem q88:QO G88 Tryz.f88 l88 a88 r88 Q88:=fun _=>by kernel_rfl
def M88 (x:(a88).den):Option (r88).den:=Q88 (fun r=>r) (fun _ _=>none) x
theorem m88:MOz G88 Tryz.f88 l88 M88:=fun x=>by rw [q88]; unfold M88 Q88; simp only [Tree.sure,sus]
def p88:=pO M88
def v88:=vO (τ:=r88) M88
def k88:Con:=⟨a88,r88,p88,v88⟩
theorem h88:aQ Tryz.prog 88 k88:=hO aoc g88 m88 fun G' hlo hF hE=>aP (by rw [aK1]; exact .WH (aP (by rw [aog]; exact .cons ((Je (fK hE hF hlo (aP (by rw [MJ]; exact .nil)) (by kernel_rfl) (by kernel_rfl) oJ (fun _=>rfl) (fun _ _=>rfl) (TV) dw) (fK hE hF hlo (aP (by rw [MK]; exact .nil)) (by kernel_rfl) (by kernel_rfl) oK (fun _=>rfl) (fun _ _=>rfl) (TX) dw))) (.nil))) (.nil))
noncomputable def c25:=bW Tryz.f25
theorem aoh:bV 25 Tryz.f25 c25:=bX
abbrev axJ:Ty:=(.cons (.sl T1) T0)
abbrev a25:Ty:=T99
abbrev Ye:Ty:=axJ
noncomputable def G25:Ctx:=Ctx.of [(86,.pure k86),(87,.pure k87),(88,.pure k88)]
theorem g25:SP G25:=aB (fa ⟨⟨an1.c,h86⟩,fa ⟨⟨an0.c,h87⟩,fa ⟨⟨aoc.c,h88⟩,f0⟩⟩⟩)
noncomputable def Qo:Code:=bn ((ay (c25))[0]?)
theorem aoj:ay (Qo)=[]:=by kernel_rfl
abbrev uE:List bg:=[.slot 6 (.ptr 129),.slot 21 (.pc tI),.box 129 [.pc (.sl T0),.pc (.sl T0)]]
abbrev rG:List bg:=[.slot 7 (.own 1000007 31 T1),.slot 22 (.pc tI)]
abbrev Yf:List bg:=uE ++ rG
def ajq:ZJ uE rG Yf:=ZA _ _
def Yg:ZS uE rG Yf:=ZP _ _
abbrev aok:bk:=⟨[(0,[.slot 7 (.pc (.sl T1))])],[],[]⟩
abbrev FT:bk:=⟨[(0,[.slot 7 (.pc (.sl T1))])],[],[]⟩
def ML:ZE uE FT aok:=fun id=>match id with | 0=>fun c y=>y | _=>gC
def Yh {α:Type} (l:RQ rG FT->α) (an:α->α->α) (c:ZD uE) (v:ZD rG):α:=bif (decide (v.2.1 < c.2.1)) then bif (decide (((0:Int)<=v.2.1)/\(v.2.1 < ((c.2.2.1.1.n:Nat):Int)))) then bif (decide (((0:Int)<=v.2.1)/\(v.2.1 < ((c.2.2.1.2.1.n:Nat):Int)))) then bif (decide (((v.1.n + 1) * 16)<=140737488355328)) then l (.next ((cj v.1 (⟨1,fun i=>List.getD [((c.2.2.1.1.g (Int.toNat v.2.1)).1,(c.2.2.1.2.1.g (Int.toNat v.2.1)))] i ((c.2.2.1.1.g (Int.toNat v.2.1)).1,(c.2.2.1.2.1.g (Int.toNat v.2.1)))⟩:Sl (Ty.den T1))),((W (v.2.1 + (1:Int))),()))) else l .bad else l .bad else l .bad else l (.out (.exit 0 (v.1,())))
theorem axL:ZO G25 0 41 Qo [] ajq ML ZI ZI Yh:=fun _ _=>by kernel_rfl
def Yi (c:ZD uE) (v:ZD rG):RQ rG FT:=Yh (fun r=>r) (fun _ _=>.bad) c v
theorem axM:SO G25 0 41 Qo [] ajq ML ZI ZI Yi:=fun c v=>by rw [axL]; unfold Yi Yh; simp only [bE,bq,dqs]
def ajr (c:ZD uE) (v:ZD rG):LQ FT:=bB (Yi c) dw v
theorem aK5:ay (c25)=[.loop Qo]:=by kernel_rfl
noncomputable def l25:List Loop:=[lk 0 ML ZI ZI false Yg ajr]
def Q25 {α:Type} (l:Option (Ye).den->α) (an:α->α->α) (x:(a25).den):α:=cl (r86).dflt (M86 (x.1,((fun y1=>((p87 y1),(v87 y1))),()))) (fun u0=>bif (!(decide (u0.2.1=(0:Int)))) then l (some ((⟨0,fun i=>((0:Int),((0:Int),()))⟩:Sl _),u0.2)) else cl (r88).dflt (M88 (u0.1,())) (fun u1=>bp (ajr ((),(((u1.1.1.n:Nat):Int),(u1.1,()))) ((⟨0,fun i=>((0:Int),((0:Int),()))⟩:Sl _),((0:Int),()))) 0 (fun u2=>l (some (u2.1,((0:Int),())))) (l none)) (l none)) (l none)
theorem q25:QO G25 Tryz.f25 l25 a25 Ye Q25:=fun _=>by kernel_rfl
def M25 (x:(a25).den):Option (Ye).den:=Q25 (fun r=>r) (fun _ _=>none) x
theorem m25:MOz G25 Tryz.f25 l25 M25:=fun x=>by rw [q25]; unfold M25 Q25; simp only [Tree.sure,sus]
def p25:=pO M25
def v25:=vO (τ:=Ye) M25
def k25:Con:=⟨a25,Ye,p25,v25⟩
theorem h25:aQ Tryz.prog 25 k25:=hO aoh g25 m25 fun G' hlo hF hE=>aP (by rw [aK5]; exact .cons (lv hE hF hlo (ln aoj) Yg axM) (.nil))
abbrev aK9:Ty:=(.cons anQ T0)
noncomputable def axS:=bW Tryz.f132
theorem Yn:bV 132 Tryz.f132 axS:=bX
abbrev MN:Ty:=.nil
abbrev aLc:Ty:=(.ptr T1)
abbrev aLd:Ty:=(.ptr T3)
abbrev aLe:Ty:=(.cons aLd .nil)
abbrev aLf:Ty:=(.cons T39 aLe)
abbrev aLg:Ty:=(.cons aLc aLf)
abbrev MP:Ty:=aLg
abbrev axT:Ty:=T0
abbrev mR:Ty:=.cons tI .nil
abbrev qu:List bg:=[.slot 0 .jI,.slot 1 (.pc (.ptr vo)),.slot 2 (.pc (.ptr Da)),.slot 3 (.pc (.ptr tB1)),.slot 12 (.pc tI),.slot 13 (.pc tI)]
abbrev Yo:bk:=⟨[(0,[.tr mR])],[.tr mR],[.tr mR]⟩
noncomputable def aff:Code:=((Tryz.f132.body).bind dZ).getD .skip
noncomputable def Yp:Ctx:=Ctx.of [(133,.pure XD),(134,.pure ant),(135,.pure anw)]
theorem axU:Sound Tryz.prog Yp:=aB (fa ⟨⟨Jz.c,aeQ⟩,fa ⟨⟨XB.c,axe⟩,fa ⟨⟨XC.c,axf⟩,f0⟩⟩⟩)
theorem Eh {α β:Type} {d:α} {o:Option α} {x:α} {f:α->β} {g:β} (h:o=some x):cl d o f g=f x:=by rw [h]; exact bU _ _ _ _
theorem aju (a b:Int):M85 (a,(b,()))=some (mx (mx (W (a - b)) (W (a - b))) (W (b - a)),()):=by kernel_rfl
theorem Yq {g:vo.den} (hg:(show Int from g.1)≠0) (p:Int):Mt (g,(p,()))=some (W (Int.tdiv p g.1),()):=by
 have hz:decide ((show Int from g.1)=(0:Int))=false:=decide_eq_false hg
 show (bif decide ((show Int from g.1)=(0:Int)) then none else some (W (Int.tdiv p g.1),()))=_
 rw [hz]; rfl
theorem Yr {g:vo.den} (hg:(show Int from g.1)≠0) (p:Int):Mv (g,(p,()))=some (Int.tmod p g.1,()):=by
 have hz:decide ((show Int from g.1)=(0:Int))=false:=decide_eq_false hg
 show (bif decide ((show Int from g.1)=(0:Int)) then none else some (Int.tmod p g.1,()))=_
 rw [hz]; rfl
def dst (g:vo.den) (a b:Int):Int:=W (mx (mx (W (W (Int.tdiv a g.1) - W (Int.tdiv b g.1))) (W (W (Int.tdiv a g.1) - W (Int.tdiv b g.1)))) (W (W (Int.tdiv b g.1) - W (Int.tdiv a g.1))) + mx (mx (W (Int.tmod a g.1 - Int.tmod b g.1)) (W (Int.tmod a g.1 - Int.tmod b g.1))) (W (Int.tmod b g.1 - Int.tmod a g.1)))
theorem aoo {g:vo.den} (hg:(show Int from g.1)≠0) (a b:Int):Dw (g,(a,(b,())))=some (dst g a b,()):=by
 unfold Dw aeP
 exact (Eh (Yq hg a)).trans ((Eh (Yq hg b)).trans ((Eh (aju _ _)).trans ((Eh (Yr hg a)).trans ((Eh (Yr hg b)).trans (Eh (aju _ _))))))
theorem ajv (g:vo.den) (hg:(show Int from g.1)≠0) (a b:Int):anz (g,(a,(b,())))=true:=by
 show (Dw (g,(a,(b,())))).isSome=true
 rw [aoo hg]; rfl
def Ei (g:vo.den) (p:Da.den) (q:Int):Bool:=decide ((show Int from (axg (g,(p.1,(q,())))).1)=(1:Int))
theorem Cf (tr:Sl mR.den) (g:vo.den) (p:Da.den) (n q:Int) :
  iz true Tryz.prog E0 Yp 0 55 [] (.tr mR :: qu) Yo aff [] (tr,(),g,p,(false,()),n,q,()) =
   bif decide (q < n) then bif anz (g,(p.1,(q,()))) then bif Ei g p q then
    .any (.leaf (.next (gN tr (q,()),(),g,p,(false,()),n,W (q + 1),())))
     (.any (.leaf (.out (.stop mR (gN tr (q,()))))) (.leaf (.out (.bD mR (gN tr (q,()))))))
    else .leaf (.next (tr,(),g,p,(false,()),n,W (q + 1),())) else .leaf (.out .bad) else .leaf (.out (.exit 0 [.tr mR] (tr,()))):=by
 kernel_rfl
def axV (x:ZD qu):Bool:=decide ((show Int from x.2.2.2.2.2.1) < (show Int from x.2.2.2.2.1))
def yW (x:ZD qu):Bool:=decide ((show Int from x.2.1.1)≠0/\(show Bool from x.2.2.2.1.1)=false/\0<=(show Int from x.2.2.2.2.2.1)/\(show Int from x.2.2.2.2.1)<=140737488355328)
def JC (x:ZD qu):Option mR.den:=bif Ei x.2.1 x.2.2.1 x.2.2.2.2.2.1 then some (x.2.2.2.2.2.1,()) else none
def JD (x:ZD qu):(ZD qu):=((),x.2.1,x.2.2.1,x.2.2.2.1,x.2.2.2.2.1,(show Int from x.2.2.2.2.2.1) + 1,())
def TY (x:ZD qu):Nat:=((show Int from x.2.2.2.2.1) - (show Int from x.2.2.2.2.2.1)).toNat
theorem FV {g:vo.den} {p:Da.den} {cb:tB1.den} {n q:Int} (h:yW ((),g,p,cb,n,q,())=true):(show Int from g.1)≠0/\cb=(false,())/\0<=q/\n<=140737488355328:=by
 obtain ⟨a1,a2,a3,a4⟩:(show Int from g.1)≠0/\(show Bool from cb.1)=false/\0<=q/\n<=140737488355328:=of_decide_eq_true h
 obtain ⟨c,⟨⟩⟩:=cb
 have a2:c=false:=a2
 subst a2
 exact ⟨a1,rfl,a3,a4⟩
theorem aLh:ItR (fun tr x=>iz true Tryz.prog E0 Yp 0 55 [] (.tr mR :: qu) Yo aff [] (tr,x)) axV yW JC JD TY 0 where
 inv:=by
  rintro ⟨⟨⟩,g,p,cb,n,q,⟨⟩⟩ h1 h2
  obtain ⟨a1,rfl,a3,a4⟩:=FV h1
  have a5:(show Int from q) < (show Int from n):=of_decide_eq_true h2
  refine ⟨decide_eq_true ⟨a1,rfl,?_,a4⟩,?_⟩
  ·show 0<=(show Int from q) + 1
   have a3:0<=(show Int from q):=a3
   omega
  ·show ((show Int from n) - (show Int from q)).toNat=((show Int from n) - ((show Int from q) + 1)).toNat + 1
   omega
 hit:=by
  rintro tr ⟨⟨⟩,g,p,cb,n,q,⟨⟩⟩ v h1 h2 h3
  obtain ⟨a1,rfl,a3,a4⟩:=FV h1
  have a3:0<=(show Int from q):=a3
  have a4:(show Int from n)<=140737488355328:=a4
  have a5:(show Int from q) < (show Int from n):=of_decide_eq_true h2
  have hW:W ((show Int from q) + 1)=(show Int from q) + 1:=IntWalk.i64_in _ ⟨by omega,by omega⟩
  have h3:(bif Ei g p q then some ((q,()):mR.den) else none)=some v:=h3
  cases hi:Ei g p q with
  | false=>rw [hi] at h3; cases h3
  | true =>
   rw [hi] at h3
   obtain rfl:((q,()):mR.den)=v:=Option.some.inj h3
   refine (Cf tr g p n q).trans ?_
   rw [show decide ((show Int from q) < (show Int from n))=true from h2,cond_true,ajv g a1,cond_true,hi,cond_true,hW]
   rfl
 amh:=by
  rintro tr ⟨⟨⟩,g,p,cb,n,q,⟨⟩⟩ h1 h2 h3
  obtain ⟨a1,rfl,a3,a4⟩:=FV h1
  have a3:0<=(show Int from q):=a3
  have a4:(show Int from n)<=140737488355328:=a4
  have a5:(show Int from q) < (show Int from n):=of_decide_eq_true h2
  have hW:W ((show Int from q) + 1)=(show Int from q) + 1:=IntWalk.i64_in _ ⟨by omega,by omega⟩
  have h3:(bif Ei g p q then some ((q,()):mR.den) else none)=none:=h3
  cases hi:Ei g p q with
  | true=>rw [hi] at h3; cases h3
  | false =>
   refine (Cf tr g p n q).trans ?_
   rw [show decide ((show Int from q) < (show Int from n))=true from h2,cond_true,ajv g a1,cond_true,hi,cond_false,hW]
   rfl
 fin:=by
  rintro tr ⟨⟨⟩,g,p,cb,n,q,⟨⟩⟩ h1 h2
  obtain ⟨a1,rfl,a3,a4⟩:=FV h1
  have a5:¬ ((show Int from q) < (show Int from n)):=of_decide_eq_false h2
  refine ⟨?_,?_⟩
  ·show ((show Int from n) - (show Int from q)).toNat=0
   omega
  ·refine (Cf tr g p n q).trans ?_
   rw [show decide ((show Int from q) < (show Int from n))=false from h2,cond_false]
def JE (g:vo.den) (p:Da.den) (cb:tB1.den):(ZD qu):=((),g,p,cb,W (g.1 * g.2.1),(0:Int),())
def wq (g:vo.den) (p:Da.den) (cb:tB1.den):Sl mR.den:=nA JC JD (TY (JE g p cb)) (JE g p cb) ⟨0,fun _=>mR.dflt⟩
def ajw (_:(MN).den) (y:(MP).den):Bool:=yW (JE y.1 y.2.1 y.2.2.1)
def ajx (_:(MN).den) (y:(MP).den):Sl (axT).den:=wq y.1 y.2.1 y.2.2.1
def i132:Dc:=⟨MN,MP,axT,ajw,ajx⟩
noncomputable abbrev Ys:List Loop:=[.known (mc 0 [] (.tr mR :: qu) (To yW JC JD TY 0))]
theorem aop (g:vo.den) (p:Da.den) (cb:tB1.den):Tg Tryz.prog E0 Yp Tryz.f132 Ys i132 () (g,(p,(cb,()))) =
  bif yW (JE g p cb) then .any (.leaf (.full ⟨mR,true,wq g p cb⟩)) (.any (.leaf (.stop ⟨mR,false,wq g p cb⟩)) (.leaf (.bD ⟨mR,false,wq g p cb⟩)))
  else .leaf .bad:=by
 kernel_rfl
theorem Yt (G':Gh) (h0:G'.lo=0) (hok:G'.Ok Tryz.prog):ff Tryz.prog 55 G' 132 Fence.wide 0 axS Ys:=by
 have hE:Env Tryz.prog E0 Yp G' Fence.wide:=⟨bS,axU,bN,bH,hok,.wide,fun _=>rfl⟩
 have l0:dF Tryz.prog 55 G' 132 Fence.wide 0 (.loop aff) (mc 0 [] (.tr mR :: qu) (To yW JC JD TY 0)):=by
  have:=vR (fid:=132) (r:=0) (N:=55) (bw:=[]) hE (tr:=true) (.inl rfl) (ps:=.tr mR :: qu) (wy:=Yo) (body:=aff) (ls:=[]) cO (by kernel_rfl) (by kernel_rfl) (To yW JC JD TY 0) (itM TY) (by rw [h0]; exact Jp aLh)
  rw [h0] at this; exact this
 exact gi l0 (by kernel_rfl) (by kernel_rfl)
theorem aLi:xz Tryz.prog 132 i132:=by
 refine jn bS axU bN bH (E:=E0) Yn.a Yn.b (ls:=Ys) i132 rfl rfl (Nat.le_of_ble_eq_true (by kernel_rfl)) (by kernel_rfl) (fun G' h0 hok _=>Yt G' h0 hok) ?_
 rintro ⟨⟩ ⟨g,p,cb,⟨⟩⟩ hp
 rw [aop]
 have hp:yW (JE g p cb)=true:=hp
 rw [hp,cond_true]
 exact ⟨⟨_,rfl,rfl⟩,⟨_,rfl,List.prefix_refl _⟩,_,rfl,List.prefix_refl _⟩
noncomputable def c84:=bW Tryz.f84
theorem axW:bV 84 Tryz.f84 c84:=bX
abbrev aLj:Ty:=(.cons T4 T34)
abbrev aLk:Ty:=(.seq T0)
abbrev aLl:Ty:=(.cons aLk .nil)
abbrev a84:Ty:=aLj
abbrev r84:Ty:=aLl
noncomputable def G84:Ctx:=Ctx.of [(132,.iter i132)]
theorem g84:SP G84:=aB (fa ⟨⟨Yn.c,aLi⟩,f0⟩)
def Q84 {α:Type} (l:Option (r84).den->α) (an:α->α->α) (x:(a84).den):α:=bif (ajw () (x.1,((x.2.1,()),(x.2.2,())))) then l (some ((ajx () (x.1,((x.2.1,()),(x.2.2,())))),())) else l none
theorem q84:QO G84 Tryz.f84 [] a84 r84 Q84:=fun _=>by kernel_rfl
def M84 (x:(a84).den):Option (r84).den:=Q84 (fun r=>r) (fun _ _=>none) x
theorem m84:MOz G84 Tryz.f84 [] M84:=fun x=>by rw [q84]; unfold M84 Q84; simp only [Tree.sure,sus]
def p84:=pO M84
def v84:=vO (τ:=r84) M84
def k84:Con:=⟨a84,r84,p84,v84⟩
theorem h84:aQ Tryz.prog 84 k84:=hO axW g84 m84 l0
noncomputable def c82:=bW Tryz.f82
theorem axY:bV 82 Tryz.f82 c82:=bX
abbrev aoq:Ty:=(.ptr axw)
abbrev aLo:Ty:=(.cons aoq .nil)
abbrev aLp:Ty:=(.cons T6 aLo)
abbrev a82:Ty:=aLp
abbrev r82:Ty:=T3
noncomputable def G82:Ctx:=Ctx.of [(83,.pure k83)]
theorem g82:SP G82:=aB (fa ⟨⟨TL.c,h83⟩,f0⟩)
def Q82 {α:Type} (l:Option (r82).den->α) (an:α->α->α) (x:(a82).den):α:=bif (decide (((0:Int)<=x.1.1)/\(x.1.1 < ((x.2.1.2.1.n:Nat):Int)))) then cl (TM).dflt (Vq ((x.2.1.2.1.g (Int.toNat x.1.1)).1,x.1.2)) (fun u0=>l (some ((!u0.1),()))) (l none) else l none
theorem q82:QO G82 Tryz.f82 [] a82 r82 Q82:=fun _=>by kernel_rfl
def M82 (x:(a82).den):Option (r82).den:=Q82 (fun r=>r) (fun _ _=>none) x
theorem m82:MOz G82 Tryz.f82 [] M82:=fun x=>by rw [q82]; unfold M82 Q82; simp only [Tree.sure,sus]
def p82:=pO M82
def v82:=vO (τ:=r82) M82
def k82:Con:=⟨a82,r82,p82,v82⟩
theorem h82:aQ Tryz.prog 82 k82:=hO axY g82 m82 l0
noncomputable def c24:=bW Tryz.f24
theorem afg:bV 24 Tryz.f24 c24:=bX
abbrev aLt:Ty:=(.cons T98 aeY)
abbrev aLu:Ty:=(.cons .bool T0)
abbrev a24:Ty:=aLt
abbrev r24:Ty:=aLu
noncomputable def G24:Ctx:=Ctx.of [(78,.pure k78),(79,.pure k79),(80,.pure k80),(81,.pure k81),(82,.pure k82),(84,.pure k84),(85,.pure k85)]
theorem g24:SP G24:=aB (fa ⟨⟨axv.c,h78⟩,fa ⟨⟨anG.c,h79⟩,fa ⟨⟨anR.c,h80⟩,fa ⟨⟨anD.c,h81⟩,fa ⟨⟨axY.c,h82⟩,fa ⟨⟨axW.c,h84⟩,fa ⟨⟨anq.c,h85⟩,f0⟩⟩⟩⟩⟩⟩⟩)
noncomputable def Ej:Code:=bn ((ay (c24))[0]?)
noncomputable def zY:Code:=kK ((ay (Ej))[0]?)
noncomputable def Cg:Code:=sH ((ay (Ej))[0]?)
abbrev fL:List bg:=[.slot 2 (.ptr 2),.slot 3 (.pc aoq),.slot 4 (.ptr 4),.slot 5 (.ptr 5),.slot 8 (.ptr 292),.slot 12 (.ptr 376),.slot 48 (.pc (.sl T0)),.slot 49 (.pc tI),.slot 50 (.pc tI),.box 2 [.pc tI,.pc tI,.pc tI,.pc (.sl T2)],.box 4 [.pc .bool],.box 5 [.pc tI],.box 292 [.pc tI,.pc tI,.pc tI,.pc (.sl T2),.pc tI,.pc tI],.box 376 [.pc tI]]
theorem Yu:ay (zY)=[]:=by kernel_rfl
def FX {α:Type} (l:RO fL->α) (an:α->α->α) (x:ZD fL) (it:Ty.den T0):α:=bif (decide (((0:Int)<=it.1)/\(it.1 < ((x.2.1.2.1.n:Nat):Int)))) then cl (r85).dflt (M85 (x.2.2.2.2.2.2.2.2.2.2.2.2.2.1.1,(x.2.1.2.1.g (Int.toNat it.1)))) (fun u0=>bif (decide (x.2.2.2.2.2.2.2.2.2.1.2.2.1 < u0.1)) then l (.ret ((),(x.2.1,((),((),((),((),(x.2.2.2.2.2.2.1,(x.2.2.2.2.2.2.2.1,(x.2.2.2.2.2.2.2.2.1,(x.2.2.2.2.2.2.2.2.2.1,((false,()),(((0:Int),()),(x.2.2.2.2.2.2.2.2.2.2.2.2.1,(x.2.2.2.2.2.2.2.2.2.2.2.2.2.1,()))))))))))))))) else l (.next ((),(x.2.1,((),((),((),((),(x.2.2.2.2.2.2.1,(x.2.2.2.2.2.2.2.1,(x.2.2.2.2.2.2.2.2.1,(x.2.2.2.2.2.2.2.2.2.1,(x.2.2.2.2.2.2.2.2.2.2.1,(x.2.2.2.2.2.2.2.2.2.2.2.1,(x.2.2.2.2.2.2.2.2.2.2.2.2.1,(x.2.2.2.2.2.2.2.2.2.2.2.2.2.1,())))))))))))))))) (l .bad) else l .bad
theorem afh (x:ZD fL) (it:Ty.den T0):gE Tryz.prog E0 G24 0 500000 71 [59] Cg zY [] [] T0 fL x it=FX .leaf .any x it:=by kernel_rfl
def FY (x:ZD fL) (it:Ty.den T0):RO fL:=FX (fun r=>r) (fun _ _=>.bad) x it
theorem afi (x:ZD fL) (it:Ty.den T0):(gE Tryz.prog E0 G24 0 500000 71 [59] Cg zY [] [] T0 fL x it).cT .bad=FY x it:=by rw [afh]; unfold FY FX; simp only [ew,Tree.cT,gH,cZ,dK,de,dg,dL,dh,dM,ez,dm]
def zZ (x:ZD fL) (l:List (Ty.den T0)):RO fL:=cJ FY x l
theorem aos:ay (Ej)=[.rangeFunc (.tmp 58) #[59] Cg zY]:=by kernel_rfl
abbrev mS:List bg:=[.slot 2 (.ptr 2),.slot 4 (.ptr 4),.slot 5 (.ptr 5),.slot 8 (.ptr 292)]
abbrev mT:List bg:=[.slot 3 (.pc aoq),.slot 48 (.pc (.sl T0)),.slot 49 (.pc tI),.slot 50 (.pc tI),.box 2 [.pc tI,.pc tI,.pc tI,.pc (.sl T2)],.box 4 [.pc .bool],.box 5 [.pc tI],.box 292 [.pc tI,.pc tI,.pc tI,.pc (.sl T2),.pc tI,.pc tI]]
abbrev Ch:List bg:=mS ++ mT
def Qq:ZJ mS mT Ch:=ZA _ _
def FZ:ZS mS mT Ch:=ZP _ _
abbrev xY:bk:=⟨[(0,[.slot 4 (.ptr 4),.slot 5 (.ptr 5),.box 4 [.pc .bool],.box 5 [.pc tI]])],[.slot 4 (.ptr 4),.slot 5 (.ptr 5),.box 4 [.pc .bool],.box 5 [.pc tI]],[]⟩
abbrev Ci:bk:=⟨[(0,[.box 4 [.pc .bool],.box 5 [.pc tI]])],[.box 4 [.pc .bool],.box 5 [.pc tI]],[]⟩
def MQ:ZE mS Ci xY:=fun id=>match id with | 0=>fun c y=>(c.2.1,(c.2.2.1,y)) | _=>gC
def MR:(ZD mS)->(aa (Ci).ret).den->(aa (xY).ret).den:=fun c y=>(c.2.1,(c.2.2.1,y))
def Yv {α:Type} (l:RQ mT Ci->α) (an:α->α->α) (c:ZD mS) (v:ZD mT):α:=bif (decide (v.2.2.2.1 < v.2.2.1)) then bif (decide (((0:Int)<=v.2.2.2.1)/\(v.2.2.2.1 < ((v.2.1.n:Nat):Int)))) then cl (r84).dflt (M84 (v.2.2.2.2.2.2.2.1.2.2.2.2,(v.2.2.2.1,(false,())))) (fun u1=>eo (zZ ((),(v.1,((),((),((),((),(v.2.1,(v.2.2.1,(v.2.2.2.1,(v.2.2.2.2.1,(v.2.2.2.2.2.1,(v.2.2.2.2.2.2.1,(v.2.2.2.2.2.2.2.1,((v.2.1.g (Int.toNat v.2.2.2.1)),())))))))))))))) (Sl.list u1.1)) (fun u2=>l (.next (u2.2.1,(u2.2.2.2.2.2.2.1,(u2.2.2.2.2.2.2.2.1,((W (u2.2.2.2.2.2.2.2.2.1 + (1:Int))),(u2.2.2.2.2.2.2.2.2.2.1,(u2.2.2.2.2.2.2.2.2.2.2.1,(u2.2.2.2.2.2.2.2.2.2.2.2.1,(u2.2.2.2.2.2.2.2.2.2.2.2.2.1,())))))))))) (eM (zZ ((),(v.1,((),((),((),((),(v.2.1,(v.2.2.1,(v.2.2.2.1,(v.2.2.2.2.1,(v.2.2.2.2.2.1,(v.2.2.2.2.2.2.1,(v.2.2.2.2.2.2.2.1,((v.2.1.g (Int.toNat v.2.2.2.1)),())))))))))))))) (Sl.list u1.1)) (fun u3=>l (.out (.ret (u3.2.2.2.2.2.2.2.2.2.2.1,(u3.2.2.2.2.2.2.2.2.2.2.2.1,()))))) (l .bad))) (l .bad) else l .bad else l (.out (.exit 0 (v.2.2.2.2.2.1,(v.2.2.2.2.2.2.1,()))))
theorem ax0 (c:ZD mS) (v:ZD mT):cG Tryz.prog E0 G24 0 71 [.marks] Ch xY Ej [.known (fun s0=>Tree.map Jo ((ow 0 [.marks] 58 T0 fL [] [] (fun x l=>zZ x l)) s0))] (Qq c v)=Yv (fun r=>.leaf (r.lift Qq MQ MR ZI c)) .any c v:=by kernel_rfl
def Yw (c:ZD mS) (v:ZD mT):RQ mT Ci:=Yv (fun r=>r) (fun _ _=>.bad) c v
theorem ax1 (c:ZD mS) (v:ZD mT):bE (cG Tryz.prog E0 G24 0 71 [.marks] Ch xY Ej [.known (fun s0=>Tree.map Jo ((ow 0 [.marks] 58 T0 fL [] [] (fun x l=>zZ x l)) s0))] (Qq c v))=(Yw c v).lift Qq MQ MR ZI c:=by rw [ax0]; unfold Yw Yv; simp only [bE,bq,dqs]
def Yx (c:ZD mS) (v:ZD mT):LQ Ci:=bB (Yw c) dw v
theorem aLv:ay (c24)=[.loop Ej]:=by kernel_rfl
noncomputable def l24:List Loop:=[.known (fun s0=>(fm 0 [.marks] Ch fun x=>cD xY MQ MR ZI [] true (FZ x).1 (Yx (FZ x).1 (FZ x).2) xY.dY) (mkS s0))]
def Q24 {α:Type} (l:Option (r24).den->α) (an:α->α->α) (x:(a24).den):α:=cl (r78).dflt (M78 (x.2.1,())) (fun u4=>cl (r79).dflt (M79 (x.1,())) (fun u5=>bif (!u5.1) then l (some (false,((2:Int),()))) else bif (!u4.2.1) then l (some (false,((2:Int),()))) else bif (!(decide (x.2.1.1=x.1.1))) then l (some (false,((0:Int),()))) else bif (!(decide (u4.1=x.1.2.1))) then l (some (false,((0:Int),()))) else cl (r80).dflt (M80 (x.1,())) (fun u6=>cl (r81).dflt (M81 (x.1.2.2.2.1,((fun y1=>((p82 (y1.1,(x.2.1,()))),(v82 (y1.1,(x.2.1,()))))),()))) (fun u7=>bif u7.2.1 then l (some (false,((0:Int),()))) else bp (Yx ((),((),((),((),())))) (x.2.1,(x.2.1.2.1,(((x.2.1.2.1.n:Nat):Int),((0:Int),(x.1,((false,()),(((0:Int),()),(u6.1,()))))))))) 0 (fun u8=>l (some (true,((0:Int),())))) (bK (Yx ((),((),((),((),())))) (x.2.1,(x.2.1.2.1,(((x.2.1.2.1.n:Nat):Int),((0:Int),(x.1,((false,()),(((0:Int),()),(u6.1,()))))))))) (fun u9=>l (some (u9.1.1,u9.2.1))) (l none))) (l none)) (l none)) (l none)) (l none)
theorem q24:QO G24 Tryz.f24 l24 a24 r24 Q24:=fun _=>by kernel_rfl
def M24 (x:(a24).den):Option (r24).den:=Q24 (fun r=>r) (fun _ _=>none) x
theorem m24:MOz G24 Tryz.f24 l24 M24:=fun x=>by rw [q24]; unfold M24 Q24; simp only [Tree.sure,sus]
def p24:=pO M24
def v24:=vO (τ:=r24) M24
def k24:Con:=⟨a24,r24,p24,v24⟩
theorem h24:aQ Tryz.prog 24 k24:=hO afg g24 m24 fun G' hlo hF hE=>aP (by rw [aLv]; exact .cons (adX (fK hE hF hlo (aP (by rw [aos]; exact .cons (Tn (kI hE hF hlo afg.a (by kernel_rfl) (by kernel_rfl) (by kernel_rfl) (by kernel_rfl) (by kernel_rfl) (fun G' hlo hF l hE=>cO) (fun G' hlo hF l hE=>aP (by rw [Yu]; exact .nil)) afi)) (.nil))) (by kernel_rfl) (by kernel_rfl) FZ (fun _=>rfl) (fun _ _=>rfl) (ax1) dw)) (.nil))
noncomputable def c64:=bW Tryz.f64
theorem TZ:bV 64 Tryz.f64 c64:=bX
abbrev a64:Ty:=T2
abbrev r64:Ty:=T3
noncomputable def G64:Ctx:=Ctx.of []
theorem g64:SP G64:=aB f0
def Q64 {α:Type} (l:Option (r64).den->α) (an:α->α->α) (x:(a64).den):α:=bif (decide (x.2.1<=x.1)) then l (some ((decide (x.1<=x.2.2.1)),())) else l (some (false,()))
theorem q64:QO G64 Tryz.f64 [] a64 r64 Q64:=fun _=>by kernel_rfl
def Yy (x:(a64).den):Option (r64).den:=Q64 (fun r=>r) (fun _ _=>none) x
theorem m64:MOz G64 Tryz.f64 [] Yy:=fun x=>by rw [q64]; unfold Yy Q64; simp only [Tree.sure,sus]
def p64:=pO Yy
def v64:=vO (τ:=r64) Yy
def k64:Con:=⟨a64,r64,p64,v64⟩
theorem h64:aQ Tryz.prog 64 k64:=hO TZ g64 m64 l0
noncomputable def c63:=bW Tryz.f63
theorem ax3:bV 63 Tryz.f63 c63:=bX
abbrev a63:Ty:=T1
abbrev r63:Ty:=T3
noncomputable def G63:Ctx:=Ctx.of [(64,.pure k64)]
theorem g63:SP G63:=aB (fa ⟨⟨TZ.c,h64⟩,f0⟩)
def Q63 {α:Type} (l:Option (r63).den->α) (an:α->α->α) (x:(a63).den):α:=cl (r64).dflt (Yy (x.1,((1:Int),((6:Int),())))) (fun u0=>bif u0.1 then cl (r64).dflt (Yy (x.2.1,((1:Int),((5:Int),())))) (fun u1=>l (some u1)) (l none) else l (some (false,()))) (l none)
theorem q63:QO G63 Tryz.f63 [] a63 r63 Q63:=fun _=>by kernel_rfl
def M63 (x:(a63).den):Option (r63).den:=Q63 (fun r=>r) (fun _ _=>none) x
theorem m63:MOz G63 Tryz.f63 [] M63:=fun x=>by rw [q63]; unfold M63 Q63; simp only [Tree.sure,sus]
def p63:=pO M63
def v63:=vO (τ:=r63) M63
def k63:Con:=⟨a63,r63,p63,v63⟩
theorem h63:aQ Tryz.prog 63 k63:=hO ax3 g63 m63 l0
noncomputable def c65:=bW Tryz.f65
theorem aou:bV 65 Tryz.f65 c65:=bX
abbrev a65:Ty:=T0
abbrev r65:Ty:=T3
noncomputable def G65:Ctx:=Ctx.of [(64,.pure k64)]
theorem g65:SP G65:=aB (fa ⟨⟨TZ.c,h64⟩,f0⟩)
def Q65 {α:Type} (l:Option (r65).den->α) (an:α->α->α) (x:(a65).den):α:=cl (r64).dflt (Yy (x.1,((0:Int),((99999:Int),())))) (fun u0=>l (some u0)) (l none)
theorem q65:QO G65 Tryz.f65 [] a65 r65 Q65:=fun _=>by kernel_rfl
def M65 (x:(a65).den):Option (r65).den:=Q65 (fun r=>r) (fun _ _=>none) x
theorem m65:MOz G65 Tryz.f65 [] M65:=fun x=>by rw [q65]; unfold M65 Q65; simp only [Tree.sure,sus]
def p65:=pO M65
def v65:=vO (τ:=r65) M65
def k65:Con:=⟨a65,r65,p65,v65⟩
theorem h65:aQ Tryz.prog 65 k65:=hO aou g65 m65 l0
noncomputable def c28:=bW Tryz.f28
theorem afj:bV 28 Tryz.f28 c28:=bX
abbrev aLF:Ty:=(.cons T98 T0)
abbrev a28:Ty:=aLF
abbrev r28:Ty:=T3
noncomputable def G28:Ctx:=Ctx.of [(64,.pure k64)]
theorem g28:SP G28:=aB (fa ⟨⟨TZ.c,h64⟩,f0⟩)
def Q28 {α:Type} (l:Option (r28).den->α) (an:α->α->α) (x:(a28).den):α:=cl (r64).dflt (Yy (x.2.1,((0:Int),((W ((W (x.1.1 * x.1.2.1)) - (1:Int))),())))) (fun u0=>l (some u0)) (l none)
theorem q28:QO G28 Tryz.f28 [] a28 r28 Q28:=fun _=>by kernel_rfl
def M28 (x:(a28).den):Option (r28).den:=Q28 (fun r=>r) (fun _ _=>none) x
theorem m28:MOz G28 Tryz.f28 [] M28:=fun x=>by rw [q28]; unfold M28 Q28; simp only [Tree.sure,sus]
def p28:=pO M28
def v28:=vO (τ:=r28) M28
def k28:Con:=⟨a28,r28,p28,v28⟩
theorem h28:aQ Tryz.prog 28 k28:=hO afj g28 m28 l0
noncomputable def c20:=bW Tryz.f20
theorem aox:bV 20 Tryz.f20 c20:=bX
abbrev a20:Ty:=aeY
abbrev r20:Ty:=T3
noncomputable def G20:Ctx:=Ctx.of [(64,.pure k64),(65,.pure k65)]
theorem g20:SP G20:=aB (fa ⟨⟨TZ.c,h64⟩,fa ⟨⟨aou.c,h65⟩,f0⟩⟩)
noncomputable def Qr:Code:=bn ((ay (c20))[0]?)
theorem aoz:ay (Qr)=[]:=by kernel_rfl
abbrev uG:List bg:=[.slot 1 (.ptr 1),.box 1 [.pc tI,.pc (.sl T0)]]
abbrev rI:List bg:=[.slot 3 (.pc tI)]
abbrev Yz:List bg:=uG ++ rI
def ajB:ZJ uG rI Yz:=ZA _ _
def YA:ZS uG rI Yz:=ZP _ _
abbrev aoA:bk:=⟨[(0,[])],[.slot 2 (.pc .bool)],[]⟩
abbrev Ga:bk:=⟨[(0,[])],[.slot 2 (.pc .bool)],[]⟩
def MS:ZE uG Ga aoA:=fun id=>match id with | 0=>fun c y=>y | _=>gC
def YB {α:Type} (l:RQ rI Ga->α) (an:α->α->α) (c:ZD uG) (v:ZD rI):α:=bif (decide (v.1 < ((c.2.1.2.1.n:Nat):Int))) then bif (decide (((0:Int)<=v.1)/\(v.1 < ((c.2.1.2.1.n:Nat):Int)))) then cl (r65).dflt (M65 (c.2.1.2.1.g (Int.toNat v.1))) (fun u0=>bif (!u0.1) then l (.out (.ret (false,()))) else l (.next ((W (v.1 + (1:Int))),()))) (l .bad) else l .bad else l (.out (.exit 0 ()))
theorem ax6:ZO G20 0 41 Qr [] ajB MS ZI ZI YB:=fun _ _=>by kernel_rfl
def YC (c:ZD uG) (v:ZD rI):RQ rI Ga:=YB (fun r=>r) (fun _ _=>.bad) c v
theorem ax7:SO G20 0 41 Qr [] ajB MS ZI ZI YC:=fun c v=>by rw [ax6]; unfold YC YB; simp only [bE,bq,dqs]
def YD (c:ZD uG) (v:ZD rI):LQ Ga:=bB (YC c) dw v
theorem aLK:ay (c20)=[.loop Qr]:=by kernel_rfl
noncomputable def l20:List Loop:=[lk 0 MS ZI ZI true YA YD]
def Q20 {α:Type} (l:Option (r20).den->α) (an:α->α->α) (x:(a20).den):α:=cl (r64).dflt (Yy (x.1.1,((1:Int),((6:Int),())))) (fun u1=>bif (!u1.1) then l (some (false,())) else bif (decide (x.1.1=(0:Int))) then l none else bif (!(decide ((Int.tmod ((x.1.2.1.n:Nat):Int) x.1.1)=(0:Int)))) then l (some (false,())) else bif (decide (x.1.1=(0:Int))) then l none else cl (r64).dflt (Yy ((W (Int.tdiv ((x.1.2.1.n:Nat):Int) x.1.1)),((1:Int),((5:Int),())))) (fun u2=>bif (!u2.1) then l (some (false,())) else bp (YD ((),(x.1,())) ((0:Int),())) 0 (fun u3=>l (some (true,()))) (bK (YD ((),(x.1,())) ((0:Int),())) (fun u4=>l (some u4)) (l none))) (l none)) (l none)
theorem q20:QO G20 Tryz.f20 l20 a20 r20 Q20:=fun _=>by kernel_rfl
def M20 (x:(a20).den):Option (r20).den:=Q20 (fun r=>r) (fun _ _=>none) x
theorem m20:MOz G20 Tryz.f20 l20 M20:=fun x=>by rw [q20]; unfold M20 Q20; simp only [Tree.sure,sus]
def p20:=pO M20
def v20:=vO (τ:=r20) M20
def k20:Con:=⟨a20,r20,p20,v20⟩
theorem h20:aQ Tryz.prog 20 k20:=hO aox g20 m20 fun G' hlo hF hE=>aP (by rw [aLK]; exact .cons (lv hE hF hlo (ln aoz) YA ax7) (.nil))
noncomputable def c19:=bW Tryz.f19
theorem aoB:bV 19 Tryz.f19 c19:=bX
abbrev a19:Ty:=T99
abbrev r19:Ty:=T3
noncomputable def G19:Ctx:=Ctx.of [(28,.pure k28),(63,.pure k63),(64,.pure k64),(65,.pure k65)]
theorem g19:SP G19:=aB (fa ⟨⟨afj.c,h28⟩,fa ⟨⟨ax3.c,h63⟩,fa ⟨⟨TZ.c,h64⟩,fa ⟨⟨aou.c,h65⟩,f0⟩⟩⟩⟩)
noncomputable def Qs:Code:=bn ((ay (c19))[0]?)
theorem aoD:ay (Qs)=[]:=by kernel_rfl
abbrev uH:List bg:=[.slot 1 (.ptr 1),.box 1 [.pc tI,.pc tI,.pc tI,.pc (.sl T2)]]
abbrev rJ:List bg:=[.slot 3 (.pc tI)]
abbrev YE:List bg:=uH ++ rJ
def ajC:ZJ uH rJ YE:=ZA _ _
def YF:ZS uH rJ YE:=ZP _ _
abbrev aoE:bk:=⟨[(0,[])],[.slot 2 (.pc .bool)],[]⟩
abbrev Gb:bk:=⟨[(0,[])],[.slot 2 (.pc .bool)],[]⟩
def MT:ZE uH Gb aoE:=fun id=>match id with | 0=>fun c y=>y | _=>gC
def YH {α:Type} (l:RQ rJ Gb->α) (an:α->α->α) (c:ZD uH) (v:ZD rJ):α:=bif (decide (v.1 < ((c.2.1.2.2.2.1.n:Nat):Int))) then bif (decide (((0:Int)<=v.1)/\(v.1 < ((c.2.1.2.2.2.1.n:Nat):Int)))) then cl (r28).dflt (M28 (c.2.1,((c.2.1.2.2.2.1.g (Int.toNat v.1)).1,()))) (fun u0=>bif (!u0.1) then l (.out (.ret (false,()))) else cl (r65).dflt (M65 ((c.2.1.2.2.2.1.g (Int.toNat v.1)).2.1,())) (fun u1=>bif (!u1.1) then l (.out (.ret (false,()))) else cl (r65).dflt (M65 (c.2.1.2.2.2.1.g (Int.toNat v.1)).2.2) (fun u2=>bif (!u2.1) then l (.out (.ret (false,()))) else bif (decide ((c.2.1.2.2.2.1.g (Int.toNat v.1)).2.2.1 < (c.2.1.2.2.2.1.g (Int.toNat v.1)).2.1)) then l (.out (.ret (false,()))) else l (.next ((W (v.1 + (1:Int))),()))) (l .bad)) (l .bad)) (l .bad) else l .bad else l (.out (.exit 0 ()))
theorem ax9:ZO G19 0 63 Qs [] ajC MT ZI ZI YH:=fun _ _=>by kernel_rfl
def YI (c:ZD uH) (v:ZD rJ):RQ rJ Gb:=YH (fun r=>r) (fun _ _=>.bad) c v
theorem aya:SO G19 0 63 Qs [] ajC MT ZI ZI YI:=fun c v=>by rw [ax9]; unfold YI YH; simp only [bE,bq,dqs]
def YJ (c:ZD uH) (v:ZD rJ):LQ Gb:=bB (YI c) dw v
theorem aLO:ay (c19)=[.loop Qs]:=by kernel_rfl
noncomputable def l19:List Loop:=[lk 0 MT ZI ZI true YF YJ]
def Q19 {α:Type} (l:Option (r19).den->α) (an:α->α->α) (x:(a19).den):α:=cl (r63).dflt (M63 (x.1.1,(x.1.2.1,()))) (fun u3=>bif (!u3.1) then l (some (false,())) else cl (r64).dflt (Yy (x.1.2.2.1,((0:Int),((5000:Int),())))) (fun u4=>bif (!u4.1) then l (some (false,())) else bif (decide ((12:Int) < ((x.1.2.2.2.1.n:Nat):Int))) then l (some (false,())) else bp (YJ ((),(x.1,())) ((0:Int),())) 0 (fun u5=>l (some (true,()))) (bK (YJ ((),(x.1,())) ((0:Int),())) (fun u6=>l (some u6)) (l none))) (l none)) (l none)
theorem q19:QO G19 Tryz.f19 l19 a19 r19 Q19:=fun _=>by kernel_rfl
def M19 (x:(a19).den):Option (r19).den:=Q19 (fun r=>r) (fun _ _=>none) x
theorem m19:MOz G19 Tryz.f19 l19 M19:=fun x=>by rw [q19]; unfold M19 Q19; simp only [Tree.sure,sus]
def p19:=pO M19
def v19:=vO (τ:=r19) M19
def k19:Con:=⟨a19,r19,p19,v19⟩
theorem h19:aQ Tryz.prog 19 k19:=hO aoB g19 m19 fun G' hlo hF hE=>aP (by rw [aLO]; exact .cons (lv hE hF hlo (ln aoD) YF aya) (.nil))
noncomputable def c92:=bW Tryz.f92
theorem ayb:bV 92 Tryz.f92 c92:=bX
abbrev a92:Ty:=T1
abbrev r92:Ty:=T0
noncomputable def G92:Ctx:=Ctx.of []
theorem g92:SP G92:=aB f0
def Q92 {α:Type} (l:Option (r92).den->α) (an:α->α->α) (x:(a92).den):α:=l (some ((mx (W (x.1 - x.2.1)) (W (x.2.1 - x.1))),()))
theorem q92:QO G92 Tryz.f92 [] a92 r92 Q92:=fun _=>by kernel_rfl
def M92 (x:(a92).den):Option (r92).den:=Q92 (fun r=>r) (fun _ _=>none) x
theorem m92:MOz G92 Tryz.f92 [] M92:=fun x=>by rw [q92]; unfold M92 Q92; simp only [Tree.sure,sus]
def p92:=pO M92
def v92:=vO (τ:=r92) M92
def k92:Con:=⟨a92,r92,p92,v92⟩
theorem h92:aQ Tryz.prog 92 k92:=hO ayb g92 m92 l0
noncomputable def c29:=bW Tryz.f29
theorem ayc:bV 29 Tryz.f29 c29:=bX
abbrev a29:Ty:=T2
abbrev r29:Ty:=T0
noncomputable def G29:Ctx:=Ctx.of [(92,.pure k92)]
theorem g29:SP G29:=aB (fa ⟨⟨ayb.c,h92⟩,f0⟩)
def Q29 {α:Type} (l:Option (r29).den->α) (an:α->α->α) (x:(a29).den):α:=bif (decide (x.1=(0:Int))) then l none else bif (decide (x.1=(0:Int))) then l none else cl (r92).dflt (M92 ((W (Int.tdiv x.2.1 x.1)),((W (Int.tdiv x.2.2.1 x.1)),()))) (fun u0=>bif (decide (x.1=(0:Int))) then l none else bif (decide (x.1=(0:Int))) then l none else cl (r92).dflt (M92 ((Int.tmod x.2.1 x.1),((Int.tmod x.2.2.1 x.1),()))) (fun u1=>l (some ((W (u0.1 + u1.1)),()))) (l none)) (l none)
theorem q29:QO G29 Tryz.f29 [] a29 r29 Q29:=fun _=>by kernel_rfl
def M29 (x:(a29).den):Option (r29).den:=Q29 (fun r=>r) (fun _ _=>none) x
theorem m29:MOz G29 Tryz.f29 [] M29:=fun x=>by rw [q29]; unfold M29 Q29; simp only [Tree.sure,sus]
def p29:=pO M29
def v29:=vO (τ:=r29) M29
def k29:Con:=⟨a29,r29,p29,v29⟩
theorem h29:aQ Tryz.prog 29 k29:=hO ayc g29 m29 l0
noncomputable def aLV:=bW Tryz.f102
theorem ajE:bV 102 Tryz.f102 aLV:=bX
abbrev afl:Ty:=T2
abbrev JF:Ty:=T7
noncomputable def aoG:Ctx:=Ctx.of []
theorem aLW:SP aoG:=aB f0
def aoH {α:Type} (l:Option (JF).den->α) (an:α->α->α) (x:(afl).den):α:=l (some (x,()))
theorem aLX:QO aoG Tryz.f102 [] afl JF aoH:=fun _=>by kernel_rfl
def MU (x:(afl).den):Option (JF).den:=aoH (fun r=>r) (fun _ _=>none) x
theorem aLY:MOz aoG Tryz.f102 [] MU:=fun x=>by rw [aLX]; unfold MU aoH; simp only [Tree.sure,sus]
def aLZ:=pO MU
def aL0:=vO (τ:=JF) MU
def ayd:Con:=⟨afl,JF,aLZ,aL0⟩
theorem aL1:aQ Tryz.prog 102 ayd:=hO ajE aLW aLY l0
noncomputable def c39:=bW Tryz.f39
theorem aye:bV 39 Tryz.f39 c39:=bX
abbrev a39:Ty:=.nil
abbrev r39:Ty:=T99
noncomputable def G39:Ctx:=Ctx.of [(102,.pure ayd)]
theorem g39:SP G39:=aB (fa ⟨⟨ajE.c,aL1⟩,f0⟩)
def Q39 {α:Type} (l:Option (r39).den->α) (an:α->α->α) (x:(a39).den):α:=cl (JF).dflt (MU ((0:Int),((76000:Int),((76010:Int),())))) (fun u0=>cl (JF).dflt (MU ((5:Int),((75850:Int),((75870:Int),())))) (fun u1=>cl (JF).dflt (MU ((11:Int),((76030:Int),((76050:Int),())))) (fun u2=>l (some (((4:Int),((3:Int),((100:Int),((⟨3,fun i=>List.getD [u0.1,u1.1,u2.1] i u0.1⟩:Sl _),())))),()))) (l none)) (l none)) (l none)
theorem q39:QO G39 Tryz.f39 [] a39 r39 Q39:=fun _=>by kernel_rfl
def M39 (x:(a39).den):Option (r39).den:=Q39 (fun r=>r) (fun _ _=>none) x
theorem m39:MOz G39 Tryz.f39 [] M39:=fun x=>by rw [q39]; unfold M39 Q39; simp only [Tree.sure,sus]
def p39:=pO M39
def v39:=vO (τ:=r39) M39
def k39:Con:=⟨a39,r39,p39,v39⟩
theorem h39:aQ Tryz.prog 39 k39:=hO aye g39 m39 l0
noncomputable def c61:=bW Tryz.f61
theorem YK:bV 61 Tryz.f61 c61:=bX
abbrev a61:Ty:=T2
abbrev MV:Ty:=T3
noncomputable def G61:Ctx:=Ctx.of []
theorem g61:SP G61:=aB f0
def Q61 {α:Type} (l:Option (MV).den->α) (an:α->α->α) (x:(a61).den):α:=bif (decide (x.2.1<=x.1)) then l (some ((decide (x.1<=x.2.2.1)),())) else l (some (false,()))
theorem q61:QO G61 Tryz.f61 [] a61 MV Q61:=fun _=>by kernel_rfl
def KV (x:(a61).den):Option (MV).den:=Q61 (fun r=>r) (fun _ _=>none) x
theorem m61:MOz G61 Tryz.f61 [] KV:=fun x=>by rw [q61]; unfold KV Q61; simp only [Tree.sure,sus]
def p61:=pO KV
def v61:=vO (τ:=MV) KV
def k61:Con:=⟨a61,MV,p61,v61⟩
theorem h61:aQ Tryz.prog 61 k61:=hO YK g61 m61 l0
noncomputable def aoJ:=bW Tryz.f186
theorem Qt:bV 186 Tryz.f186 aoJ:=bX
abbrev afm:Ty:=Tq
abbrev JG:Ty:=T0
noncomputable def YL:Ctx:=Ctx.of []
theorem aL5:SP YL:=aB f0
noncomputable def Gc:Code:=bn ((ay (aoJ))[0]?)
theorem afn:ay (Gc)=[]:=by kernel_rfl
abbrev oM:List bg:=[.slot 6 (.pc (.sl T0)),.slot 7 (.pc tI)]
abbrev mz:List bg:=[.slot 3 (.pc tI),.slot 8 (.pc tI)]
abbrev Qu:List bg:=oM ++ mz
def YM:ZJ oM mz Qu:=ZA _ _
def Qv:ZS oM mz Qu:=ZP _ _
abbrev afo:bk:=⟨[(0,[.slot 3 (.pc tI)])],[],[]⟩
abbrev Aa:bk:=⟨[(0,[.slot 3 (.pc tI)])],[],[]⟩
def Gd:ZE oM Aa afo:=fun id=>match id with | 0=>fun c y=>y | _=>gC
def MW {α:Type} (l:RQ mz Aa->α) (an:α->α->α) (c:ZD oM) (v:ZD mz):α:=bif (decide (v.2.1 < c.2.1)) then bif (decide (((0:Int)<=v.2.1)/\(v.2.1 < ((c.1.n:Nat):Int)))) then l (.next ((W (v.1 * (c.1.g (Int.toNat v.2.1)).1)),((W (v.2.1 + (1:Int))),()))) else l .bad else l (.out (.exit 0 (v.1,())))
theorem aoK:ZO YL 0 17 Gc [] YM Gd ZI ZI MW:=fun _ _=>by kernel_rfl
def MX (c:ZD oM) (v:ZD mz):RQ mz Aa:=MW (fun r=>r) (fun _ _=>.bad) c v
theorem aoL:SO YL 0 17 Gc [] YM Gd ZI ZI MX:=fun c v=>by rw [aoK]; unfold MX MW; simp only [bE,bq,dqs]
def YN (c:ZD oM) (v:ZD mz):LQ Aa:=bB (MX c) dw v
theorem ayg:ay (aoJ)=[.loop Gc]:=by kernel_rfl
noncomputable def ayh:List Loop:=[lk 0 Gd ZI ZI false Qv YN]
def aoM {α:Type} (l:Option (JG).den->α) (an:α->α->α) (x:(afm).den):α:=bp (YN (x.1,(((x.1.n:Nat):Int),())) ((1:Int),((0:Int),()))) 0 (fun u0=>l (some u0)) (l none)
theorem aL6:QO YL Tryz.f186 ayh afm JG aoM:=fun _=>by kernel_rfl
def MY (x:(afm).den):Option (JG).den:=aoM (fun r=>r) (fun _ _=>none) x
theorem aL7:MOz YL Tryz.f186 ayh MY:=fun x=>by rw [aL6]; unfold MY aoM; simp only [Tree.sure,sus]
def aL8:=pO MY
def aL9:=vO (τ:=JG) MY
def afp:Con:=⟨afm,JG,aL8,aL9⟩
theorem aoN:aQ Tryz.prog 186 afp:=hO Qt aL5 aL7 fun G' hlo hF hE=>aP (by rw [ayg]; exact .cons (lv hE hF hlo (ln afn) Qv aoL) (.nil))
noncomputable def aoO:=bW Tryz.f187
theorem YO:bV 187 Tryz.f187 aoO:=bX
abbrev afq:Ty:=T1
abbrev MZ:Ty:=T0
noncomputable def YP:Ctx:=Ctx.of []
theorem aMa:SP YP:=aB f0
noncomputable def Ge:Code:=bn ((ay (aoO))[0]?)
theorem afr:ay (Ge)=[]:=by kernel_rfl
abbrev oN:List bg:=[.slot 0 (.pc tI),.slot 7 (.pc tI)]
abbrev mA:List bg:=[.slot 5 (.pc tI),.slot 8 (.pc tI)]
abbrev Qw:List bg:=oN ++ mA
def YQ:ZJ oN mA Qw:=ZA _ _
def Qx:ZS oN mA Qw:=ZP _ _
abbrev afs:bk:=⟨[(0,[.slot 5 (.pc tI)])],[],[]⟩
abbrev Ab:bk:=⟨[(0,[.slot 5 (.pc tI)])],[],[]⟩
def Gf:ZE oN Ab afs:=fun id=>match id with | 0=>fun c y=>y | _=>gC
def Na {α:Type} (l:RQ mA Ab->α) (an:α->α->α) (c:ZD oN) (v:ZD mA):α:=bif (decide (v.2.1 < c.2.1)) then bif (decide ((W (v.2.1 + (1:Int)))=(0:Int))) then l .bad else l (.next ((W (Int.tdiv (W (v.1 * (W (c.1 - v.2.1)))) (W (v.2.1 + (1:Int))))),((W (v.2.1 + (1:Int))),()))) else l (.out (.exit 0 (v.1,())))
theorem aoP:ZO YP 0 21 Ge [] YQ Gf ZI ZI Na:=fun _ _=>by kernel_rfl
def Nb (c:ZD oN) (v:ZD mA):RQ mA Ab:=Na (fun r=>r) (fun _ _=>.bad) c v
theorem aoQ:SO YP 0 21 Ge [] YQ Gf ZI ZI Nb:=fun c v=>by rw [aoP]; unfold Nb Na; simp only [bE,bq,dqs]
def YS (c:ZD oN) (v:ZD mA):LQ Ab:=bB (Nb c) dw v
theorem ayi:ay (aoO)=[.loop Ge]:=by kernel_rfl
noncomputable def ayj:List Loop:=[lk 0 Gf ZI ZI false Qx YS]
def aoR {α:Type} (l:Option (MZ).den->α) (an:α->α->α) (x:(afq).den):α:=bp (YS x ((1:Int),((0:Int),()))) 0 (fun u0=>l (some u0)) (l none)
theorem aMb:QO YP Tryz.f187 ayj afq MZ aoR:=fun _=>by kernel_rfl
def Ua (x:(afq).den):Option (MZ).den:=aoR (fun r=>r) (fun _ _=>none) x
theorem aMc:MOz YP Tryz.f187 ayj Ua:=fun x=>by rw [aMb]; unfold Ua aoR; simp only [Tree.sure,sus]
def aMd:=pO Ua
def aMe:=vO (τ:=MZ) Ua
def aoS:Con:=⟨afq,MZ,aMd,aMe⟩
theorem ayk:aQ Tryz.prog 187 aoS:=hO YO aMa aMc fun G' hlo hF hE=>aP (by rw [ayi]; exact .cons (lv hE hF hlo (ln afr) Qx aoQ) (.nil))
noncomputable def aoT:=bW Tryz.f188
theorem YT:bV 188 Tryz.f188 aoT:=bX
abbrev aft:Ty:=T1
abbrev Nc:Ty:=T0
noncomputable def YU:Ctx:=Ctx.of [(186,.pure afp)]
theorem aMf:SP YU:=aB (fa ⟨⟨Qt.c,aoN⟩,f0⟩)
noncomputable def Gg:Code:=bn ((ay (aoT))[0]?)
theorem afu:ay (Gg)=[]:=by kernel_rfl
abbrev oO:List bg:=[.slot 0 (.pc tI),.slot 6 (.pc tI)]
abbrev mB:List bg:=[.slot 5 (.pc tI),.slot 7 (.pc tI)]
abbrev Qy:List bg:=oO ++ mB
def YV:ZJ oO mB Qy:=ZA _ _
def Qz:ZS oO mB Qy:=ZP _ _
abbrev afv:bk:=⟨[(0,[.slot 5 (.pc tI)])],[],[]⟩
abbrev Ac:bk:=⟨[(0,[.slot 5 (.pc tI)])],[],[]⟩
def Gi:ZE oO Ac afv:=fun id=>match id with | 0=>fun c y=>y | _=>gC
def Nd {α:Type} (l:RQ mB Ac->α) (an:α->α->α) (c:ZD oO) (v:ZD mB):α:=bif (decide (v.2.1 < c.2.1)) then cl (JG).dflt (MY ((⟨2,fun i=>List.getD [(v.1,()),(c.1,())] i (v.1,())⟩:Sl _),())) (fun u0=>l (.next (u0.1,((W (v.2.1 + (1:Int))),())))) (l .bad) else l (.out (.exit 0 (v.1,())))
theorem aoU:ZO YU 0 15 Gg [] YV Gi ZI ZI Nd:=fun _ _=>by kernel_rfl
def Nf (c:ZD oO) (v:ZD mB):RQ mB Ac:=Nd (fun r=>r) (fun _ _=>.bad) c v
theorem aoV:SO YU 0 15 Gg [] YV Gi ZI ZI Nf:=fun c v=>by rw [aoU]; unfold Nf Nd; simp only [bE,bq,dqs]
def YW (c:ZD oO) (v:ZD mB):LQ Ac:=bB (Nf c) dw v
theorem ayl:ay (aoT)=[.loop Gg]:=by kernel_rfl
noncomputable def aym:List Loop:=[lk 0 Gi ZI ZI false Qz YW]
def aoW {α:Type} (l:Option (Nc).den->α) (an:α->α->α) (x:(aft).den):α:=bp (YW x ((1:Int),((0:Int),()))) 0 (fun u1=>l (some u1)) (l none)
theorem aMg:QO YU Tryz.f188 aym aft Nc aoW:=fun _=>by kernel_rfl
def Ub (x:(aft).den):Option (Nc).den:=aoW (fun r=>r) (fun _ _=>none) x
theorem aMh:MOz YU Tryz.f188 aym Ub:=fun x=>by rw [aMg]; unfold Ub aoW; simp only [Tree.sure,sus]
def aMi:=pO Ub
def aMj:=vO (τ:=Nc) Ub
def aoX:Con:=⟨aft,Nc,aMi,aMj⟩
theorem ayn:aQ Tryz.prog 188 aoX:=hO YT aMf aMh fun G' hlo hF hE=>aP (by rw [ayl]; exact .cons (lv hE hF hlo (ln afu) Qz aoV) (.nil))
noncomputable def aoY:=bW Tryz.f159
theorem ajF:bV 159 Tryz.f159 aoY:=bX
abbrev afw:Ty:=T84
abbrev YX:Ty:=T0
noncomputable def YY:Ctx:=Ctx.of [(186,.pure afp),(187,.pure aoS),(188,.pure aoX)]
theorem aMk:SP YY:=aB (fa ⟨⟨Qt.c,aoN⟩,fa ⟨⟨YO.c,ayk⟩,fa ⟨⟨YT.c,ayn⟩,f0⟩⟩⟩)
noncomputable def Gj:Code:=bn ((ay (aoY))[0]?)
theorem afx:ay (Gj)=[]:=by kernel_rfl
abbrev oP:List bg:=[.slot 2 (.ptr 2),.box 2 [.pc tI,.pc tI]]
abbrev mC:List bg:=[.slot 5 (.pc tI),.slot 6 (.pc tI)]
abbrev QA:List bg:=oP ++ mC
def YZ:ZJ oP mC QA:=ZA _ _
def QB:ZS oP mC QA:=ZP _ _
abbrev afy:bk:=⟨[(0,[.slot 5 (.pc tI)])],[],[]⟩
abbrev Ad:bk:=⟨[(0,[.slot 5 (.pc tI)])],[],[]⟩
def Gk:ZE oP Ad afy:=fun id=>match id with | 0=>fun c y=>y | _=>gC
def Ng {α:Type} (l:RQ mC Ad->α) (an:α->α->α) (c:ZD oP) (v:ZD mC):α:=bif (decide (v.2.1<=c.2.1.2.1)) then cl (MZ).dflt (Ua (c.2.1.2.1,v.2)) (fun u0=>cl (Nc).dflt (Ub ((W (c.2.1.1 - (1:Int))),((W (c.2.1.2.1 - v.2.1)),()))) (fun u1=>cl (JG).dflt (MY ((⟨2,fun i=>List.getD [u0,u1] i u0⟩:Sl _),())) (fun u2=>l (.next ((W (v.1 + u2.1)),((W (v.2.1 + (1:Int))),())))) (l .bad)) (l .bad)) (l .bad) else l (.out (.exit 0 (v.1,())))
theorem aoZ:ZO YY 0 31 Gj [] YZ Gk ZI ZI Ng:=fun _ _=>by kernel_rfl
def Nh (c:ZD oP) (v:ZD mC):RQ mC Ad:=Ng (fun r=>r) (fun _ _=>.bad) c v
theorem ao0:SO YY 0 31 Gj [] YZ Gk ZI ZI Nh:=fun c v=>by rw [aoZ]; unfold Nh Ng; simp only [bE,bq,dqs]
def Za (c:ZD oP) (v:ZD mC):LQ Ad:=bB (Nh c) dw v
theorem ayo:ay (aoY)=[.loop Gj]:=by kernel_rfl
noncomputable def ayp:List Loop:=[lk 0 Gk ZI ZI false QB Za]
def ao1 {α:Type} (l:Option (YX).den->α) (an:α->α->α) (x:(afw).den):α:=bp (Za ((),(x.1,())) ((0:Int),x.2)) 0 (fun u3=>l (some u3)) (l none)
theorem aMl:QO YY Tryz.f159 ayp afw YX ao1:=fun _=>by kernel_rfl
def afz (x:(afw).den):Option (YX).den:=ao1 (fun r=>r) (fun _ _=>none) x
theorem aMm:MOz YY Tryz.f159 ayp afz:=fun x=>by rw [aMl]; unfold afz ao1; simp only [Tree.sure,sus]
def ayq:=pO afz
def ayr:=vO (τ:=YX) afz
def ays:Con:=⟨afw,YX,ayq,ayr⟩
theorem aMn:aQ Tryz.prog 159 ays:=hO ajF aMk aMm fun G' hlo hF hE=>aP (by rw [ayo]; exact .cons (lv hE hF hlo (ln afx) QB ao0) (.nil))
noncomputable def ao2:=bW Tryz.f189
theorem QC:bV 189 Tryz.f189 ao2:=bX
abbrev ko:Ty:=T0
abbrev cU:List bg:=[.agg 0 vo,.slot 1 (.ptr 26),.slot 2 (.ptr 3),.slot 3 (.ptr 48),.box 26 [.mp 29],.box 3 [.pc tI],.box 48 [.iM 189 [26,3,48]],.mp 29 (.agg vo) tI]
abbrev oQ:List (Nat×Ty):=[]
noncomputable def Zb:((ZD cU)->GO ko (aD cU))->Ctx:=fun fV=>Ctx.of [(186,.pure afp),(187,.pure aoS),(189,.gen (fT Tryz.f189.ntmps ko cU oQ fV))]
theorem aMo (fV:(ZD cU)->GO ko (aD cU)) (hR:dP Tryz.prog 189 (fT Tryz.f189.ntmps ko cU oQ fV)):Sound Tryz.prog (Zb fV):=aB (fa ⟨⟨Qt.c,aoN⟩,fa ⟨⟨YO.c,ayk⟩,fa ⟨⟨QC.c,hR⟩,f0⟩⟩⟩)
noncomputable def Gl:Code:=bn ((ay (ao2))[0]?)
theorem afA:ay (Gl)=[]:=by kernel_rfl
abbrev kq:List bg:=[.slot 1 (.ptr 26),.slot 2 (.ptr 3),.slot 3 (.ptr 48),.slot 4 (.ptr 204),.box 204 [.pc tI,.pc tI]]
abbrev jo:List bg:=[.slot 8 (.pc tI),.slot 9 (.pc tI),.box 26 [.mp 29],.box 3 [.pc tI],.box 48 [.iM 189 [26,3,48]],.mp 29 T4 tI]
abbrev wu:List bg:=kq ++ jo
def Gm:ZJ kq jo wu:=ZA _ _
def Ae:ZS kq jo wu:=ZP _ _
abbrev wz:bk:=⟨[(0,[.slot 1 (.ptr 26),.slot 2 (.ptr 3),.slot 3 (.ptr 48),.slot 4 (.ptr 204),.box 204 [.pc tI,.pc tI],.slot 8 (.pc tI),.box 26 [.mp 29],.box 3 [.pc tI],.box 48 [.iM 189 [26,3,48]],.mp 29 T4 tI])],[],[]⟩
abbrev Af:bk:=⟨[(0,[.slot 8 (.pc tI),.box 26 [.mp 29],.box 3 [.pc tI],.box 48 [.iM 189 [26,3,48]],.mp 29 T4 tI])],[],[]⟩
def Gn:ZE kq Af wz:=fun id=>match id with | 0=>fun c y=>(c.1,(c.2.1,(c.2.2.1,(c.2.2.2.1,(c.2.2.2.2.1,y))))) | _=>gC
def Ni (fV:(ZD cU)->GO ko (aD cU)) {α:Type} (l:RQ jo Af->α) (an:α->α->α) (c:ZD kq) (v:ZD jo):α:=bif (decide (v.2.1 < v.2.2.2.1.1)) then bif (decide (v.2.1<=c.2.2.2.2.1.2.1)) then gF (fV (((W (c.2.2.2.2.1.1 - (1:Int))),((W (c.2.2.2.2.1.2.1 - v.2.1)),())),((),((),((),(((),()),(v.2.2.2.1,(((),()),v.2.2.2.2.2)))))))) (fun u0=>cl (MZ).dflt (Ua (c.2.2.2.2.1.2.1,(v.2.1,()))) (fun u1=>cl (JG).dflt (MY ((⟨2,fun i=>List.getD [u1,u0.1] i u1⟩:Sl _),())) (fun u2=>l (.next ((W (v.1 + u2.1)),((W (v.2.1 + (1:Int))),(((),()),(u0.2.2.1,(((),()),u0.2.2.2.2))))))) (l .bad)) (l .bad)) (l .bad) else l (.out (.exit 0 (v.1,(((),()),(v.2.2.2.1,(((),()),v.2.2.2.2.2)))))) else l (.out (.exit 0 (v.1,(((),()),(v.2.2.2.1,(((),()),v.2.2.2.2.2))))))
theorem ao3 (fV:(ZD cU)->GO ko (aD cU)) (c:ZD kq) (v:ZD jo):cG Tryz.prog E0 (Zb fV) 200 59 [] wu wz Gl [] (Gm c v)=Ni fV (fun r=>.leaf (r.lift Gm Gn ZI ZI c)) .any c v:=by kernel_rfl
def Nj (fV:(ZD cU)->GO ko (aD cU)) (c:ZD kq) (v:ZD jo):RQ jo Af:=Ni fV (fun r=>r) (fun _ _=>.bad) c v
theorem ao4 (fV:(ZD cU)->GO ko (aD cU)) (c:ZD kq) (v:ZD jo):bE (cG Tryz.prog E0 (Zb fV) 200 59 [] wu wz Gl [] (Gm c v))=(Nj fV c v).lift Gm Gn ZI ZI c:=by rw [ao3]; unfold Nj Ni; simp only [bE,bq,dqs]
def Zc (fV:(ZD cU)->GO ko (aD cU)) (c:ZD kq) (v:ZD jo):LQ Af:=bB (Nj fV c) dw v
theorem ayt:ay (ao2)=[.loop Gl]:=by kernel_rfl
noncomputable def ayu:((ZD cU)->GO ko (aD cU))->List Loop:=fun fV=>[.known (fm 200 [] wu fun x=>cD wz Gn ZI ZI [] false (Ae x).1 (Zc fV (Ae x).1 (Ae x).2) wz.dY)]
def ao5 (fV:(ZD cU)->GO ko (aD cU)) {α:Type} (l:GO ko (aD cU)->α) (an:α->α->α) (x:ZD cU):α:=bif (decide (x.1.1=(0:Int))) then bif (decide (x.1.2.1=(0:Int))) then l (.ok ((1:Int),()) (((),()),(x.2.2.2.2.2.1,(((),()),x.2.2.2.2.2.2.2)))) else l (.ok ((0:Int),()) (((),()),(x.2.2.2.2.2.1,(((),()),x.2.2.2.2.2.2.2)))) else cl (Ty.dflt tI) (x.2.2.2.2.2.2.2.1 x.1) (fun u3=>l (.ok (u3,()) (((),()),(x.2.2.2.2.2.1,(((),()),x.2.2.2.2.2.2.2))))) (bp (Zc fV ((),((),((),((),(x.1,()))))) ((0:Int),((0:Int),(((),()),(x.2.2.2.2.2.1,(((),()),x.2.2.2.2.2.2.2)))))) 0 (fun u4=>l (.ok (u4.1,()) (((),()),(u4.2.2.1,(((),()),((fP (nJ T4) u4.2.2.2.2.1 x.1 u4.1),())))))) (l .bad))
theorem aMp (fV:(ZD cU)->GO ko (aD cU)) (x:ZD cU):ur Tryz.prog E0 (Zb fV) Tryz.f189 (ayu fV) 200 ko cU x=ao5 fV .leaf .any x:=by kernel_rfl
def afB (fV:(ZD cU)->GO ko (aD cU)) (x:ZD cU):GO ko (aD cU):=ao5 fV (fun r=>r) (fun _ _=>.bad) x
theorem aMq (fV:(ZD cU)->GO ko (aD cU)) (x:ZD cU):(ur Tryz.prog E0 (Zb fV) Tryz.f189 (ayu fV) 200 ko cU x).cT .bad=afB fV x:=by rw [aMp]; unfold afB ao5; simp only [ew,Tree.cT,gH,cZ,dK,de,dg,dL,dh,dM,ez,dm]
theorem ayv (fV:(ZD cU)->GO ko (aD cU)) (hR:dP Tryz.prog 189 (fT Tryz.f189.ntmps ko cU oQ fV)):dP Tryz.prog 189 (fT Tryz.f189.ntmps ko cU oQ (afB fV)):=gT (E:=E0) bS (aMo fV hR) bN bH QC.a QC.b (by kernel_rfl) (fun G' hlo hF hE=>aP (by rw [ayt]; exact .cons (fK hE hF hlo (aP (by rw [afA]; exact .nil)) (by kernel_rfl) (by kernel_rfl) Ae (fun _=>rfl) (fun _ _=>rfl) (ao4 fV) dw) (.nil))) oQ (aMq fV)
def afC:Nat->(ZD cU)->GO ko (aD cU)
 | 0=>fun _=>.bad
 | n + 1=>afB (afC n)
theorem ayw:∀ n,dP Tryz.prog 189 (fT Tryz.f189.ntmps ko cU oQ (afC n))
 | 0=>Ea
 | n + 1=>ayv _ (ayw n)
noncomputable def aMr:=bW Tryz.f161
theorem Zd:bV 161 Tryz.f161 aMr:=bX
abbrev afD:Ty:=lz
abbrev Nk:Ty:=T0
noncomputable def ao6:Ctx:=Ctx.of [(188,.pure aoX)]
theorem aMs:SP ao6:=aB (fa ⟨⟨YT.c,ayn⟩,f0⟩)
def ao7 {α:Type} (l:Option (Nk).den->α) (an:α->α->α) (x:(afD).den):α:=cl (Nc).dflt (Ub x.1) (fun u0=>l (some u0)) (l none)
theorem aMt:QO ao6 Tryz.f161 [] afD Nk ao7:=fun _=>by kernel_rfl
def Uc (x:(afD).den):Option (Nk).den:=ao7 (fun r=>r) (fun _ _=>none) x
theorem aMu:MOz ao6 Tryz.f161 [] Uc:=fun x=>by rw [aMt]; unfold Uc ao7; simp only [Tree.sure,sus]
def aMv:=pO Uc
def aMw:=vO (τ:=Nk) Uc
def ao8:Con:=⟨afD,Nk,aMv,aMw⟩
theorem ayx:aQ Tryz.prog 161 ao8:=hO Zd aMs aMu l0
noncomputable def aMx:=bW Tryz.f160
theorem ajG:bV 160 Tryz.f160 aMx:=bX
abbrev afE:Ty:=T84
abbrev Ze:Ty:=T0
noncomputable def ao9:Ctx:=Ctx.of [(161,.pure ao8),(189,.gen (fT Tryz.f189.ntmps ko cU oQ (afC 13)))]
theorem aMy:SP ao9:=aB (fa ⟨⟨Zd.c,ayx⟩,fa ⟨⟨QC.c,ayw 13⟩,f0⟩⟩)
def apa {α:Type} (l:Option (Ze).den->α) (an:α->α->α) (x:(afE).den):α:=gF (afC 13 (x.1,((),((),((),(((),()),(x.2,(((),()),((fun y1=>none),()))))))))) (fun u0=>cl (Nk).dflt (Uc (x.1,())) (fun u1=>l (some ((W (u1.1 - u0.1.1)),()))) (l none)) (l none)
theorem aMz:QO ao9 Tryz.f160 [] afE Ze apa:=fun _=>by kernel_rfl
def afF (x:(afE).den):Option (Ze).den:=apa (fun r=>r) (fun _ _=>none) x
theorem aMA:MOz ao9 Tryz.f160 [] afF:=fun x=>by rw [aMz]; unfold afF apa; simp only [Tree.sure,sus]
def ayy:=pO afF
def ayz:=vO (τ:=Ze) afF
def ayA:Con:=⟨afE,Ze,ayy,ayz⟩
theorem aMB:aQ Tryz.prog 160 ayA:=hO ajG aMy aMA l0
noncomputable def aMC:=bW Tryz.f106
theorem ajH:bV 106 Tryz.f106 aMC:=bX
abbrev aMD:Ty:=(.agg xT)
abbrev aME:Ty:=(.cons aMD .nil)
abbrev afG:Ty:=lz
abbrev Ud:Ty:=aME
noncomputable def apb:Ctx:=Ctx.of [(159,.pure ays),(160,.pure ayA)]
theorem aMF:SP apb:=aB (fa ⟨⟨ajF.c,aMn⟩,fa ⟨⟨ajG.c,aMB⟩,f0⟩⟩)
def apc {α:Type} (l:Option (Ud).den->α) (an:α->α->α) (x:(afG).den):α:=l (some (((fun y1=>((ayq (x.1,y1)),(ayr (x.1,y1)))),((fun y1=>((ayy (x.1,y1)),(ayz (x.1,y1)))),())),()))
theorem aMG:QO apb Tryz.f106 [] afG Ud apc:=fun _=>by kernel_rfl
def Zf (x:(afG).den):Option (Ud).den:=apc (fun r=>r) (fun _ _=>none) x
theorem aMH:MOz apb Tryz.f106 [] Zf:=fun x=>by rw [aMG]; unfold Zf apc; simp only [Tree.sure,sus]
def aMI:=pO Zf
def aMJ:=vO (τ:=Ud) Zf
def ayB:Con:=⟨afG,Ud,aMI,aMJ⟩
theorem aMK:aQ Tryz.prog 106 ayB:=hO ajH aMF aMH l0
noncomputable def aML:=bW Tryz.f107
theorem ajI:bV 107 Tryz.f107 aML:=bX
abbrev afH:Ty:=T5
abbrev Nl:Ty:=T3
noncomputable def apd:Ctx:=Ctx.of [(161,.pure ao8)]
theorem aMM:SP apd:=aB (fa ⟨⟨Zd.c,ayx⟩,f0⟩)
def ape {α:Type} (l:Option (Nl).den->α) (an:α->α->α) (x:(afH).den):α:=cl (Nk).dflt (Uc (x.1,())) (fun u0=>bif (decide ((W ((2:Int) * x.2.2.1))=(0:Int))) then l none else l (some ((decide (x.2.1<=(W (Int.tdiv u0.1 (W ((2:Int) * x.2.2.1)))))),()))) (l none)
theorem aMN:QO apd Tryz.f107 [] afH Nl ape:=fun _=>by kernel_rfl
def Ue (x:(afH).den):Option (Nl).den:=ape (fun r=>r) (fun _ _=>none) x
theorem aMO:MOz apd Tryz.f107 [] Ue:=fun x=>by rw [aMN]; unfold Ue ape; simp only [Tree.sure,sus]
def aMP:=pO Ue
def aMQ:=vO (τ:=Nl) Ue
def ayC:Con:=⟨afH,Nl,aMP,aMQ⟩
theorem aMR:aQ Tryz.prog 107 ayC:=hO ajI aMM aMO l0
noncomputable def apf:=bW Tryz.f104
theorem ajJ:bV 104 Tryz.f104 apf:=bX
abbrev aMS:Ty:=(.cons tI TT)
abbrev ayD:Ty:=(.cons tI aMS)
abbrev aMT:Ty:=(.agg ayD)
abbrev Zg:Ty:=(.cons aMT .nil)
abbrev afI:Ty:=Zg
abbrev Uf:Ty:=T3
noncomputable def Zh:Ctx:=Ctx.of [(61,.pure k61)]
theorem aMU:SP Zh:=aB (fa ⟨⟨YK.c,h61⟩,f0⟩)
noncomputable def Gp:Code:=bn ((ay (apf))[0]?)
theorem afJ:ay (Gp)=[]:=by kernel_rfl
abbrev oR:List bg:=[.slot 1 (.ptr 1),.slot 31 (.pc (.sl T0)),.slot 32 (.pc tI),.box 1 [.pc tI,.pc tI,.pc (.sl T0),.pc (.sl T0)]]
abbrev mD:List bg:=[.slot 33 (.pc tI)]
abbrev QD:List bg:=oR ++ mD
def Zi:ZJ oR mD QD:=ZA _ _
def QE:ZS oR mD QD:=ZP _ _
abbrev afK:bk:=⟨[(0,[])],[.slot 2 (.pc .bool)],[]⟩
abbrev Ag:bk:=⟨[(0,[])],[.slot 2 (.pc .bool)],[]⟩
def Gq:ZE oR Ag afK:=fun id=>match id with | 0=>fun c y=>y | _=>gC
def Nm {α:Type} (l:RQ mD Ag->α) (an:α->α->α) (c:ZD oR) (v:ZD mD):α:=bif (decide (v.1 < c.2.2.1)) then bif (decide (((0:Int)<=v.1)/\(v.1 < ((c.2.1.n:Nat):Int)))) then cl (MV).dflt (KV ((c.2.1.g (Int.toNat v.1)).1,((-1:Int),((W (c.2.2.2.1.1 - (1:Int))),())))) (fun u0=>bif (!u0.1) then l (.out (.ret (false,()))) else bif (decide (((0:Int)<=v.1)/\(v.1 < ((c.2.2.2.1.2.2.2.1.n:Nat):Int)))) then cl (MV).dflt (KV ((c.2.2.2.1.2.2.2.1.g (Int.toNat v.1)).1,((-1:Int),((W (c.2.2.2.1.1 - (1:Int))),())))) (fun u1=>bif (!u1.1) then l (.out (.ret (false,()))) else l (.next ((W (v.1 + (1:Int))),()))) (l .bad) else l .bad) (l .bad) else l .bad else l (.out (.exit 0 ()))
theorem apg:ZO Zh 0 57 Gp [] Zi Gq ZI ZI Nm:=fun _ _=>by kernel_rfl
def Nn (c:ZD oR) (v:ZD mD):RQ mD Ag:=Nm (fun r=>r) (fun _ _=>.bad) c v
theorem aph:SO Zh 0 57 Gp [] Zi Gq ZI ZI Nn:=fun c v=>by rw [apg]; unfold Nn Nm; simp only [bE,bq,dqs]
def No (c:ZD oR) (v:ZD mD):LQ Ag:=bB (Nn c) dw v
theorem ayE:ay (apf)=[.loop Gp]:=by kernel_rfl
noncomputable def ayF:List Loop:=[lk 0 Gq ZI ZI true QE No]
def api {α:Type} (l:Option (Uf).den->α) (an:α->α->α) (x:(afI).den):α:=cl (MV).dflt (KV (x.1.1,((2:Int),((10:Int),())))) (fun u2=>bif (!u2.1) then l (some (false,())) else cl (MV).dflt (KV (x.1.2.1,((1:Int),((1000000:Int),())))) (fun u3=>bif (!u3.1) then l (some (false,())) else bif (!(decide (((x.1.2.2.1.n:Nat):Int)=((x.1.2.2.2.1.n:Nat):Int)))) then l (some (false,())) else bif (decide ((18:Int) < ((x.1.2.2.1.n:Nat):Int))) then l (some (false,())) else bp (No ((),(x.1.2.2.1,(((x.1.2.2.1.n:Nat):Int),(x.1,())))) ((0:Int),())) 0 (fun u4=>l (some (true,()))) (bK (No ((),(x.1.2.2.1,(((x.1.2.2.1.n:Nat):Int),(x.1,())))) ((0:Int),())) (fun u5=>l (some u5)) (l none))) (l none)) (l none)
theorem aMV:QO Zh Tryz.f104 ayF afI Uf api:=fun _=>by kernel_rfl
def Zj (x:(afI).den):Option (Uf).den:=api (fun r=>r) (fun _ _=>none) x
theorem aMW:MOz Zh Tryz.f104 ayF Zj:=fun x=>by rw [aMV]; unfold Zj api; simp only [Tree.sure,sus]
def aMX:=pO Zj
def aMY:=vO (τ:=Uf) Zj
def ayG:Con:=⟨afI,Uf,aMX,aMY⟩
theorem aMZ:aQ Tryz.prog 104 ayG:=hO ajJ aMU aMW fun G' hlo hF hE=>aP (by rw [ayE]; exact .cons (lv hE hF hlo (ln afJ) QE aph) (.nil))
end Go.Dm

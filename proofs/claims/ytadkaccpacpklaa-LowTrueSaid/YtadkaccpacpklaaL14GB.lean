/-
 Each function of the program as a Lean function,and that its calls come to what that says.
-/
import Derived.Test.YtadkaccpacpklaaL14GA
set_option linter.unusedVariables false
set_option linter.unusedSimpArgs false
namespace Go.Dm
open Go.RowKit Go.Proofs
set_option maxRecDepth 100000
noncomputable def c69:=zo Try.f69
theorem auj:zq 69 Try.f69 c69:=zu
abbrev a69:Ty:=T13
abbrev WK:Ty:=T3
noncomputable def G69:Ctx:=Ctx.of []
theorem g69:SP G69:=aD f0
def Q69 {α:Type} (l:Option (WK).den->α) (an:α->α->α) (x:(a69).den):α:=bif (decide ((0:Int)<=x.1.1)) then bif (decide (x.1.1<=x.1.2.1)) then l (some ((decide (x.1.2.1<=x.2.1)),())) else l (some (false,())) else l (some (false,()))
theorem q69:QO G69 Try.f69 [] a69 WK Q69:=fun _=>by kernel_rfl
def M69 (x:(a69).den):Option (WK).den:=Q69 (fun r=>r) (fun _ _=>none) x
theorem m69:MO G69 Try.f69 [] M69:=fun x=>by rw [q69]; unfold M69 Q69; simp only [Tree.sure,iO]
def p69:=pO M69
def v69:=vO (τ:=WK) M69
def k69:ee:=⟨a69,WK,p69,v69⟩
theorem h69:Holds Try.prog 69 k69:=hO auj g69 m69 l0
noncomputable def c21:=zo Try.f21
theorem aeR:zq 21 Try.f21 c21:=zu
abbrev a21:Ty:=Jd
abbrev Rf:Ty:=T3
noncomputable def G21:Ctx:=Ctx.of [(68,.pure k68),(69,.pure k69)]
theorem g21:SP G21:=aD (fa ⟨⟨aiE.c,h68⟩,fa ⟨⟨auj.c,h69⟩,f0⟩⟩)
noncomputable def HQ:Code:=aG ((af (c21))[0]?)
noncomputable def xR:Code:=aG ((af (HQ))[0]?)
theorem Ui:af (xR)=[]:=by kernel_rfl
abbrev iM:List aL:=[.slot 1 (.ptr 1),.slot 3 (.pc tI),.slot 4 (.ptr 103),.box 1 [.pc eX,.pc tI,.pc tI,.pc tI,.pc tI],.box 103 [.pc tI,.pc (.sl T6)]]
abbrev eG:List aL:=[.slot 5 (.pc tI)]
abbrev nC:List aL:=iM ++ eG
def zM:ZJ iM eG nC:=ZA _ _
def kr:ZS iM eG nC:=ZP _ _
abbrev kS:aO:=⟨[(2,[.slot 1 (.ptr 1),.slot 3 (.pc tI),.box 1 [.pc eX,.pc tI,.pc tI,.pc tI,.pc tI]])],[.slot 2 (.pc .bool)],[]⟩
abbrev gL:aO:=⟨[(2,[])],[.slot 2 (.pc .bool)],[]⟩
def tP:ZE iM gL kS:=fun id=>match id with | 2=>fun c y=>(c.1,(c.2.1,(c.2.2.2.1,y))) | _=>jm
def tQ {α:Type} (l:RQ eG gL->α) (an:α->α->α) (c:ZD iM) (v:ZD eG):α:=bif (decide (v.1 < ((c.2.2.2.2.1.2.1.n:Nat):Int))) then bif (decide (((0:Int)<=v.1)/\(v.1 < ((c.2.2.2.2.1.2.1.n:Nat):Int)))) then cl (WK).dflt (M69 (((c.2.2.2.2.1.2.1.g (Int.toNat v.1)).1,((c.2.2.2.2.1.2.1.g (Int.toNat v.1)).2.1,())),((100:Int),()))) (fun u0=>bif (!u0.1) then l (.out (.ret (false,()))) else cl (WK).dflt (M69 (((c.2.2.2.2.1.2.1.g (Int.toNat v.1)).2.2.1,((c.2.2.2.2.1.2.1.g (Int.toNat v.1)).2.2.2.1,())),((100:Int),()))) (fun u1=>bif (!u1.1) then l (.out (.ret (false,()))) else cl (WK).dflt (M69 ((c.2.2.2.2.1.2.1.g (Int.toNat v.1)).2.2.2.2,((99999:Int),()))) (fun u2=>bif (!u2.1) then l (.out (.ret (false,()))) else l (.next ((W (v.1 + (1:Int))),()))) (l .bad)) (l .bad)) (l .bad) else l .bad else l (.out (.exit 2 ()))
theorem Yh:ZO G21 0 97 xR [] zM tP ZI ZI tQ:=fun _ _=>by kernel_rfl
def tR (c:ZD iM) (v:ZD eG):RQ eG gL:=tQ (fun r=>r) (fun _ _=>.bad) c v
theorem Yi:SO G21 0 97 xR [] zM tP ZI ZI tR:=fun c v=>by rw [Yh]; unfold tR tQ; simp only [bu,aM,pM]
def jf (c:ZD iM) (v:ZD eG):LQ gL:=aH (tR c) cz v
theorem aeT:af (HQ)=[.loop xR]:=by kernel_rfl
abbrev oC:List aL:=[.slot 1 (.ptr 1),.box 1 [.pc eX,.pc tI,.pc tI,.pc tI,.pc tI]]
abbrev fS:List aL:=[.slot 3 (.pc tI)]
abbrev BK:List aL:=oC ++ fS
def Pn:ZJ oC fS BK:=ZA _ _
def GR:ZS oC fS BK:=ZP _ _
abbrev CQ:aO:=⟨[(0,[.slot 1 (.ptr 1),.box 1 [.pc eX,.pc tI,.pc tI,.pc tI,.pc tI]])],[.slot 2 (.pc .bool)],[]⟩
abbrev jb:aO:=⟨[(0,[])],[.slot 2 (.pc .bool)],[]⟩
def LB:ZE oC jb CQ:=fun id=>match id with | 0=>fun c y=>(c.1,(c.2.1,y)) | _=>jm
def HR {α:Type} (l:RQ fS jb->α) (an:α->α->α) (c:ZD oC) (v:ZD fS):α:=bif (decide (v.1 < ((c.2.1.1.n:Nat):Int))) then bif (decide (((0:Int)<=v.1)/\(v.1 < ((c.2.1.1.n:Nat):Int)))) then cl (Kj).dflt (MC ((c.2.1.1.g (Int.toNat v.1)).1,((0:Int),((200:Int),())))) (fun u3=>bif (!u3.1) then l (.out (.ret (false,()))) else bif (decide ((0:Int) < v.1)) then bif (decide (((0:Int)<=(W (v.1 - (1:Int))))/\((W (v.1 - (1:Int))) < ((c.2.1.1.n:Nat):Int)))) then bif (decide ((c.2.1.1.g (Int.toNat v.1)).1<=(c.2.1.1.g (Int.toNat (W (v.1 - (1:Int))))).1)) then l (.out (.ret (false,()))) else bif (decide ((3:Int) < (((c.2.1.1.g (Int.toNat v.1)).2.1.n:Nat):Int))) then l (.out (.ret (false,()))) else aF (jf ((),(v.1,((),(c.2.1,((c.2.1.1.g (Int.toNat v.1)),()))))) ((0:Int),())) 2 (fun u4=>l (.next ((W (v.1 + (1:Int))),()))) (bS (jf ((),(v.1,((),(c.2.1,((c.2.1.1.g (Int.toNat v.1)),()))))) ((0:Int),())) (fun u5=>l (.out (.ret u5))) (l .bad)) else l .bad else bif (decide ((3:Int) < (((c.2.1.1.g (Int.toNat v.1)).2.1.n:Nat):Int))) then l (.out (.ret (false,()))) else aF (jf ((),(v.1,((),(c.2.1,((c.2.1.1.g (Int.toNat v.1)),()))))) ((0:Int),())) 2 (fun u6=>l (.next ((W (v.1 + (1:Int))),()))) (bS (jf ((),(v.1,((),(c.2.1,((c.2.1.1.g (Int.toNat v.1)),()))))) ((0:Int),())) (fun u7=>l (.out (.ret u7))) (l .bad))) (l .bad) else l .bad else l (.out (.exit 0 ()))
theorem am0:ZO G21 0 97 HQ [.known (bF 0 [] nC fun x=>aJ kS tP ZI ZI [] true (kr x).1 (jf (kr x).1 (kr x).2) kS.bw)] Pn LB ZI ZI HR:=fun _ _=>by kernel_rfl
def HS (c:ZD oC) (v:ZD fS):RQ fS jb:=HR (fun r=>r) (fun _ _=>.bad) c v
theorem am1:SO G21 0 97 HQ [.known (bF 0 [] nC fun x=>aJ kS tP ZI ZI [] true (kr x).1 (jf (kr x).1 (kr x).2) kS.bw)] Pn LB ZI ZI HS:=fun c v=>by rw [am0]; unfold HS HR; simp only [bu,aM,pM]
def HT (c:ZD oC) (v:ZD fS):LQ jb:=aH (HS c) cz v
theorem ayk:af (c21)=[.loop HQ]:=by kernel_rfl
noncomputable def l21:List Loop:=[lk 0 LB ZI ZI true GR HT]
def Q21 {α:Type} (l:Option (Rf).den->α) (an:α->α->α) (x:(a21).den):α:=aF (HT ((),(x.1,())) ((0:Int),())) 0 (fun u8=>cl (Kj).dflt (MC (((x.1.1.n:Nat):Int),((1:Int),((4:Int),())))) (fun u9=>bif u9.1 then cl (Kj).dflt (MC (x.1.2.1,((0:Int),((50:Int),())))) (fun vD=>bif vD.1 then cl (Kj).dflt (MC (x.1.2.2.1,((0:Int),((1000:Int),())))) (fun lM=>bif lM.1 then cl (Kj).dflt (MC (x.1.2.2.2.1,((0:Int),((12:Int),())))) (fun MA=>bif MA.1 then cl (Kj).dflt (MC (x.1.2.2.2.2.1,((0:Int),((12:Int),())))) (fun Df=>l (some Df)) (l none) else l (some (false,()))) (l none) else l (some (false,()))) (l none) else l (some (false,()))) (l none) else l (some (false,()))) (l none)) (bS (HT ((),(x.1,())) ((0:Int),())) (fun PX=>l (some PX)) (l none))
theorem q21:QO G21 Try.f21 l21 a21 Rf Q21:=fun _=>by kernel_rfl
def Sj (x:(a21).den):Option (Rf).den:=Q21 (fun r=>r) (fun _ _=>none) x
theorem m21:MO G21 Try.f21 l21 Sj:=fun x=>by rw [q21]; unfold Sj Q21; simp only [Tree.sure,iO]
def p21:=pO Sj
def v21:=vO (τ:=Rf) Sj
def k21:ee:=⟨a21,Rf,p21,v21⟩
theorem h21:Holds Try.prog 21 k21:=hO aeR g21 m21 fun G' hlo hF hE=>ai (by rw [ayk]; exact .cons (lv hE hF hlo (ai (by rw [aeT]; exact .cons (lv hE hF hlo (ln Ui) kr Yi) (.nil))) GR am1) (.nil))
noncomputable def c56:=zo Try.f56
theorem auk:zq 56 Try.f56 c56:=zu
abbrev a56:Ty:=OG
abbrev r56:Ty:=T0
noncomputable def G56:Ctx:=Ctx.of []
theorem g56:SP G56:=aD f0
noncomputable def NL:Code:=aG ((af (c56))[0]?)
noncomputable def Em:Code:=aG ((af (NL))[0]?)
theorem aak:af (Em)=[]:=by kernel_rfl
abbrev kT:List aL:=[.slot 0 (.pc ec),.slot 4 (.pc tI)]
abbrev eB:List aL:=[.slot 3 (.pc tI),.slot 5 (.pc tI)]
abbrev sK:List aL:=kT ++ eB
def HU:ZJ kT eB sK:=ZA _ _
def oD:ZS kT eB sK:=ZP _ _
abbrev pJ:aO:=⟨[(2,[.slot 0 (.pc ec),.slot 4 (.pc tI),.slot 3 (.pc tI)])],[],[]⟩
abbrev oE:aO:=⟨[(2,[.slot 3 (.pc tI)])],[],[]⟩
def yW:ZE kT oE pJ:=fun id=>match id with | 2=>fun c y=>(c.1,(c.2.1,y)) | _=>jm
def yX {α:Type} (l:RQ eB oE->α) (an:α->α->α) (c:ZD kT) (v:ZD eB):α:=bif (decide (((0:Int)<=c.2.1)/\(c.2.1 < ((c.1.n:Nat):Int)))) then bif (decide (v.2.1 < (((c.1.g (Int.toNat c.2.1)).1.n:Nat):Int))) then bif (decide (((0:Int)<=c.2.1)/\(c.2.1 < ((c.1.n:Nat):Int)))) then bif (decide (((0:Int)<=v.2.1)/\(v.2.1 < (((c.1.g (Int.toNat c.2.1)).1.n:Nat):Int)))) then bif (decide (((c.1.g (Int.toNat c.2.1)).1.g (Int.toNat v.2.1)).1=(-1:Int))) then l (.next ((W (v.1 + (1:Int))),((W (v.2.1 + (1:Int))),()))) else l (.next (v.1,((W (v.2.1 + (1:Int))),()))) else l .bad else l .bad else l (.out (.exit 2 (v.1,()))) else l .bad
theorem aeU:ZO G56 0 32 Em [] HU yW ZI ZI yX:=fun _ _=>by kernel_rfl
def vv (c:ZD kT) (v:ZD eB):RQ eB oE:=yX (fun r=>r) (fun _ _=>.bad) c v
theorem aeV:SO G56 0 32 Em [] HU yW ZI ZI vv:=fun c v=>by rw [aeU]; unfold vv yX; simp only [bu,aM,pM]
def yY (c:ZD kT) (v:ZD eB):LQ oE:=aH (vv c) cz v
theorem aj4:af (NL)=[.loop Em]:=by kernel_rfl
abbrev sZ:List aL:=[.slot 0 (.pc ec)]
abbrev nq:List aL:=[.slot 3 (.pc tI),.slot 4 (.pc tI)]
abbrev JE:List aL:=sZ ++ nq
def Wg:ZJ sZ nq JE:=ZA _ _
def NM:ZS sZ nq JE:=ZP _ _
abbrev LC:aO:=⟨[(0,[.slot 3 (.pc tI)])],[],[]⟩
abbrev FT:aO:=⟨[(0,[.slot 3 (.pc tI)])],[],[]⟩
def Rg:ZE sZ FT LC:=fun id=>match id with | 0=>fun c y=>y | _=>jm
def NN {α:Type} (l:RQ nq FT->α) (an:α->α->α) (c:ZD sZ) (v:ZD nq):α:=bif (decide (v.2.1 < ((c.1.n:Nat):Int))) then aF (yY (c.1,v.2) (v.1,((0:Int),()))) 2 (fun u0=>l (.next (u0.1,((W (v.2.1 + (1:Int))),())))) (l .bad) else l (.out (.exit 0 (v.1,())))
theorem asq:ZO G56 0 32 NL [.known (bF 0 [] sK fun x=>aJ pJ yW ZI ZI [] false (oD x).1 (yY (oD x).1 (oD x).2) pJ.bw)] Wg Rg ZI ZI NN:=fun _ _=>by kernel_rfl
def JF (c:ZD sZ) (v:ZD nq):RQ nq FT:=NN (fun r=>r) (fun _ _=>.bad) c v
theorem asr:SO G56 0 32 NL [.known (bF 0 [] sK fun x=>aJ pJ yW ZI ZI [] false (oD x).1 (yY (oD x).1 (oD x).2) pJ.bw)] Wg Rg ZI ZI JF:=fun c v=>by rw [asq]; unfold JF NN; simp only [bu,aM,pM]
def Uj (c:ZD sZ) (v:ZD nq):LQ FT:=aH (JF c) cz v
theorem aC5:af (c56)=[.loop NL]:=by kernel_rfl
noncomputable def l56:List Loop:=[lk 0 Rg ZI ZI false NM Uj]
def Q56 {α:Type} (l:Option (r56).den->α) (an:α->α->α) (x:(a56).den):α:=aF (Uj x ((0:Int),((1:Int),()))) 0 (fun u1=>l (some u1)) (l none)
theorem q56:QO G56 Try.f56 l56 a56 r56 Q56:=fun _=>by kernel_rfl
def M56 (x:(a56).den):Option (r56).den:=Q56 (fun r=>r) (fun _ _=>none) x
theorem m56:MO G56 Try.f56 l56 M56:=fun x=>by rw [q56]; unfold M56 Q56; simp only [Tree.sure,iO]
def p56:=pO M56
def v56:=vO (τ:=r56) M56
def k56:ee:=⟨a56,r56,p56,v56⟩
theorem h56:Holds Try.prog 56 k56:=hO auk g56 m56 fun G' hlo hF hE=>ai (by rw [aC5]; exact .cons (lv hE hF hlo (ai (by rw [aj4]; exact .cons (lv hE hF hlo (ln aak) oD aeV) (.nil))) NM asr) (.nil))
noncomputable def c73:=zo Try.f73
theorem aj5:zq 73 Try.f73 c73:=zu
abbrev a73:Ty:=T29
abbrev r73:Ty:=T3
noncomputable def G73:Ctx:=Ctx.of []
theorem g73:SP G73:=aD f0
noncomputable def Uk:Code:=aG ((af (c73))[0]?)
theorem aj6:af (Uk)=[]:=by kernel_rfl
abbrev tc:List aL:=[.slot 0 (.pc (.sl T0)),.slot 1 (.pc tI)]
abbrev mc:List aL:=[.slot 5 (.pc tI)]
abbrev JG:List aL:=tc ++ mc
def Wh:ZJ tc mc JG:=ZA _ _
def NO:ZS tc mc JG:=ZP _ _
abbrev LD:aO:=⟨[(0,[])],[.slot 4 (.pc .bool)],[]⟩
abbrev sg:aO:=⟨[(0,[])],[.slot 4 (.pc .bool)],[]⟩
def Rh:ZE tc sg LD:=fun id=>match id with | 0=>fun c y=>y | _=>jm
def NP {α:Type} (l:RQ mc sg->α) (an:α->α->α) (c:ZD tc) (v:ZD mc):α:=bif (decide (v.1 < ((c.1.n:Nat):Int))) then bif (decide (((0:Int)<=v.1)/\(v.1 < ((c.1.n:Nat):Int)))) then bif (decide ((c.1.g (Int.toNat v.1)).1=c.2.1)) then l (.out (.ret (true,()))) else l (.next ((W (v.1 + (1:Int))),())) else l .bad else l (.out (.exit 0 ()))
theorem ast:ZO G73 0 18 Uk [] Wh Rh ZI ZI NP:=fun _ _=>by kernel_rfl
def NQ (c:ZD tc) (v:ZD mc):RQ mc sg:=NP (fun r=>r) (fun _ _=>.bad) c v
theorem asu:SO G73 0 18 Uk [] Wh Rh ZI ZI NQ:=fun c v=>by rw [ast]; unfold NQ NP; simp only [bu,aM,pM]
def NR (c:ZD tc) (v:ZD mc):LQ sg:=aH (NQ c) cz v
theorem aC7:af (c73)=[.loop Uk]:=by kernel_rfl
noncomputable def l73:List Loop:=[lk 0 Rh ZI ZI true NO NR]
def Q73 {α:Type} (l:Option (r73).den->α) (an:α->α->α) (x:(a73).den):α:=aF (NR x ((0:Int),())) 0 (fun u0=>l (some (false,()))) (bS (NR x ((0:Int),())) (fun u1=>l (some u1)) (l none))
theorem q73:QO G73 Try.f73 l73 a73 r73 Q73:=fun _=>by kernel_rfl
def M73 (x:(a73).den):Option (r73).den:=Q73 (fun r=>r) (fun _ _=>none) x
theorem m73:MO G73 Try.f73 l73 M73:=fun x=>by rw [q73]; unfold M73 Q73; simp only [Tree.sure,iO]
def p73:=pO M73
def v73:=vO (τ:=r73) M73
def k73:ee:=⟨a73,r73,p73,v73⟩
theorem h73:Holds Try.prog 73 k73:=hO aj5 g73 m73 fun G' hlo hF hE=>ai (by rw [aC7]; exact .cons (lv hE hF hlo (ln aj6) NO asu) (.nil))
abbrev T94:Ty:=(.cons T12 T13)
abbrev T95:Ty:=(.cons PV T4)
abbrev T96:Ty:=(.cons PV OG)
abbrev T97:Ty:=(.sl OG)
abbrev T98:Ty:=(.cons T97 .nil)
abbrev T99:Ty:=(.cons PV T98)
abbrev Ic:Ty:=(.cons T97 T0)
abbrev aps:Ty:=(.cons PV Ic)
noncomputable def c31:=zo Try.f31
theorem aO9:zq 31 Try.f31 c31:=zu
abbrev aGf:Ty:=(.cons ec T1)
abbrev a31:Ty:=aGf
abbrev r31:Ty:=T3
noncomputable def G31:Ctx:=Ctx.of []
theorem g31:SP G31:=aD f0
noncomputable def aFk:Code:=aG ((af (c31))[0]?)
theorem aS7:af (aFk)=[]:=by kernel_rfl
abbrev ak2:List aL:=[.slot 0 (.pc ec),.slot 1 (.pc tI),.slot 2 (.pc tI)]
abbrev aaY:List aL:=[.slot 7 (.pc tI)]
abbrev aJu:List aL:=ak2 ++ aaY
def aP5:ZJ ak2 aaY aJu:=ZA _ _
def aJv:ZS ak2 aaY aJu:=ZP _ _
abbrev aS8:aO:=⟨[(0,[.slot 0 (.pc ec),.slot 1 (.pc tI)])],[.slot 6 (.pc .bool)],[]⟩
abbrev atu:aO:=⟨[(0,[])],[.slot 6 (.pc .bool)],[]⟩
def aDX:ZE ak2 atu aS8:=fun id=>match id with | 0=>fun c y=>(c.1,(c.2.1,y)) | _=>jm
def aAp {α:Type} (l:RQ aaY atu->α) (an:α->α->α) (c:ZD ak2) (v:ZD aaY):α:=bif (decide (v.1 < ((c.1.n:Nat):Int))) then bif (decide (((0:Int)<=v.1)/\(v.1 < ((c.1.n:Nat):Int)))) then bif (!(decide ((((c.1.g (Int.toNat v.1)).1.n:Nat):Int)=c.2.2.1))) then l (.out (.ret (false,()))) else l (.next ((W (v.1 + (1:Int))),())) else l .bad else l (.out (.exit 0 ()))
theorem aVy:ZO G31 0 25 aFk [] aP5 aDX ZI ZI aAp:=fun _ _=>by kernel_rfl
def aAq (c:ZD ak2) (v:ZD aaY):RQ aaY atu:=aAp (fun r=>r) (fun _ _=>.bad) c v
theorem aVz:SO G31 0 25 aFk [] aP5 aDX ZI ZI aAq:=fun c v=>by rw [aVy]; unfold aAq aAp; simp only [bu,aM,pM]
def aAr (c:ZD ak2) (v:ZD aaY):LQ atu:=aH (aAq c) cz v
theorem aZp:af (c31)=[.loop aFk]:=by kernel_rfl
noncomputable def l31:List Loop:=[lk 0 aDX ZI ZI true aJv aAr]
def Q31 {α:Type} (l:Option (r31).den->α) (an:α->α->α) (x:(a31).den):α:=aF (aAr x ((0:Int),())) 0 (fun u0=>l (some ((decide (((x.1.n:Nat):Int)=x.2.1)),()))) (bS (aAr x ((0:Int),())) (fun u1=>l (some u1)) (l none))
theorem q31:QO G31 Try.f31 l31 a31 r31 Q31:=fun _=>by kernel_rfl
def M31 (x:(a31).den):Option (r31).den:=Q31 (fun r=>r) (fun _ _=>none) x
theorem m31:MO G31 Try.f31 l31 M31:=fun x=>by rw [q31]; unfold M31 Q31; simp only [Tree.sure,iO]
def p31:=pO M31
def v31:=vO (τ:=r31) M31
def k31:ee:=⟨a31,r31,p31,v31⟩
theorem h31:Holds Try.prog 31 k31:=hO aO9 g31 m31 fun G' hlo hF hE=>ai (by rw [aZp]; exact .cons (lv hE hF hlo (ln aS7) aJv aVz) (.nil))
noncomputable def c35:=zo Try.f35
theorem aPa:zq 35 Try.f35 c35:=zu
abbrev a35:Ty:=T88
abbrev r35:Ty:=T3
noncomputable def G35:Ctx:=Ctx.of [(68,.pure k68)]
theorem g35:SP G35:=aD (fa ⟨⟨aiE.c,h68⟩,f0⟩)
def Q35 {α:Type} (l:Option (r35).den->α) (an:α->α->α) (x:(a35).den):α:=cl (Kj).dflt (MC (x.2.1,((0:Int),((W (((x.1.1.n:Nat):Int) - (1:Int))),())))) (fun u0=>bif u0.1 then bif (decide (((0:Int)<=x.2.1)/\(x.2.1 < ((x.1.1.n:Nat):Int)))) then cl (Kj).dflt (MC (x.2.2.1,((0:Int),((W ((((x.1.1.g (Int.toNat x.2.1)).2.1.n:Nat):Int) - (1:Int))),())))) (fun u1=>l (some u1)) (l none) else l none else l (some (false,()))) (l none)
theorem q35:QO G35 Try.f35 [] a35 r35 Q35:=fun _=>by kernel_rfl
def M35 (x:(a35).den):Option (r35).den:=Q35 (fun r=>r) (fun _ _=>none) x
theorem m35:MO G35 Try.f35 [] M35:=fun x=>by rw [q35]; unfold M35 Q35; simp only [Tree.sure,iO]
def p35:=pO M35
def v35:=vO (τ:=r35) M35
def k35:ee:=⟨a35,r35,p35,v35⟩
theorem h35:Holds Try.prog 35 k35:=hO aPa g35 m35 l0
abbrev ayo:Ty:=(.cons T12 T1)
noncomputable def c89:=zo Try.f89
theorem aGh:zq 89 Try.f89 c89:=zu
abbrev a89:Ty:=T87
abbrev r89:Ty:=T80
noncomputable def G89:Ctx:=Ctx.of [(77,.pure k77)]
theorem g89:SP G89:=aD (fa ⟨⟨ad9.c,h77⟩,f0⟩)
def Q89 {α:Type} (l:Option (r89).den->α) (an:α->α->α) (x:(a89).den):α:=bif (decide (((0:Int)<=(0:Int))/\(((0:Int)<=(W (x.1 + (1:Int))))/\((W (x.1 + (1:Int)))<=((x.2.1.1.n:Nat):Int))))) then cl (Xi).dflt (Yx (((⟨(Int.toNat ((W (x.1 + (1:Int))) - (0:Int))),fun i=>(x.2.1.1.g (i + 0))⟩:Sl _),x.2.1.2),())) (fun u0=>l (some (true,((!u0.1),())))) (l none) else l none
theorem q89:QO G89 Try.f89 [] a89 r89 Q89:=fun _=>by kernel_rfl
def M89 (x:(a89).den):Option (r89).den:=Q89 (fun r=>r) (fun _ _=>none) x
theorem m89:MO G89 Try.f89 [] M89:=fun x=>by rw [q89]; unfold M89 Q89; simp only [Tree.sure,iO]
def p89:=pO M89
def v89:=vO (τ:=r89) M89
def k89:ee:=⟨a89,r89,p89,v89⟩
theorem h89:Holds Try.prog 89 k89:=hO aGh g89 m89 l0
noncomputable def c46:=zo Try.f46
theorem azX:zq 46 Try.f46 c46:=zu
abbrev a46:Ty:=Jd
abbrev r46:Ty:=T1
noncomputable def G46:Ctx:=Ctx.of [(74,.pure k74),(75,.pure k75),(89,.pure k89)]
theorem g46:SP G46:=aD (fa ⟨⟨aa7.c,h74⟩,fa ⟨⟨aoB.c,h75⟩,fa ⟨⟨aGh.c,h89⟩,f0⟩⟩⟩)
def Q46 {α:Type} (l:Option (r46).den->α) (an:α->α->α) (x:(a46).den):α:=cl (Wa).dflt (WW (x.1,())) (fun u0=>bif (!u0.1) then l (some ((0:Int),((2:Int),()))) else cl (r75).dflt (Xl ((0:Int),((W (((x.1.1.n:Nat):Int) - (1:Int))),((fun y1=>((p89 (y1.1,(x.1,()))),(v89 (y1.1,(x.1,()))))),())))) (fun u1=>bif (!u1.2.2.1) then l (some ((0:Int),((5:Int),()))) else l (some (u1.2.1,((0:Int),())))) (l none)) (l none)
theorem q46:QO G46 Try.f46 [] a46 r46 Q46:=fun _=>by kernel_rfl
def Yl (x:(a46).den):Option (r46).den:=Q46 (fun r=>r) (fun _ _=>none) x
theorem m46:MO G46 Try.f46 [] Yl:=fun x=>by rw [q46]; unfold Yl Q46; simp only [Tree.sure,iO]
def p46:=pO Yl
def v46:=vO (τ:=r46) Yl
def k46:ee:=⟨a46,r46,p46,v46⟩
theorem h46:Holds Try.prog 46 k46:=hO azX g46 m46 l0
noncomputable def c91:=zo Try.f91
theorem aOx:zq 91 Try.f91 c91:=zu
abbrev a91:Ty:=OG
abbrev r91:Ty:=T3
noncomputable def G91:Ctx:=Ctx.of []
theorem g91:SP G91:=aD f0
noncomputable def anl:Code:=aG ((af (c91))[0]?)
theorem aDo:af (anl)=[]:=by kernel_rfl
abbrev Oc:List aL:=[.slot 0 (.pc ec)]
abbrev CT:List aL:=[.slot 3 (.pc tI)]
abbrev ahd:List aL:=Oc ++ CT
def asV:ZJ Oc CT ahd:=ZA _ _
def akl:ZS Oc CT ahd:=ZP _ _
abbrev akm:aO:=⟨[(0,[.slot 0 (.pc ec)])],[.slot 2 (.pc .bool)],[]⟩
abbrev Rk:aO:=⟨[(0,[])],[.slot 2 (.pc .bool)],[]⟩
def akn:ZE Oc Rk akm:=fun id=>match id with | 0=>fun c y=>(c.1,y) | _=>jm
def ahe {α:Type} (l:RQ CT Rk->α) (an:α->α->α) (c:ZD Oc) (v:ZD CT):α:=bif (decide (v.1 < ((c.1.n:Nat):Int))) then bif (decide (v.1 < (7:Int))) then bif (decide (((0:Int)<=v.1)/\(v.1 < ((c.1.n:Nat):Int)))) then bif (decide ((5:Int) < (((c.1.g (Int.toNat v.1)).1.n:Nat):Int))) then l (.out (.ret (false,()))) else l (.next ((W (v.1 + (1:Int))),())) else l .bad else l (.out (.exit 0 ())) else l (.out (.exit 0 ()))
theorem aIA:ZO G91 0 23 anl [] asV akn ZI ZI ahe:=fun _ _=>by kernel_rfl
def ahf (c:ZD Oc) (v:ZD CT):RQ CT Rk:=ahe (fun r=>r) (fun _ _=>.bad) c v
theorem aIB:SO G91 0 23 anl [] asV akn ZI ZI ahf:=fun c v=>by rw [aIA]; unfold ahf ahe; simp only [bu,aM,pM]
def ahg (c:ZD Oc) (v:ZD CT):LQ Rk:=aH (ahf c) cz v
theorem aSc:af (c91)=[.loop anl]:=by kernel_rfl
noncomputable def l91:List Loop:=[lk 0 akn ZI ZI true akl ahg]
def Q91 {α:Type} (l:Option (r91).den->α) (an:α->α->α) (x:(a91).den):α:=aF (ahg x ((0:Int),())) 0 (fun u0=>l (some ((decide (((x.1.n:Nat):Int)<=(6:Int))),()))) (bS (ahg x ((0:Int),())) (fun u1=>l (some u1)) (l none))
theorem q91:QO G91 Try.f91 l91 a91 r91 Q91:=fun _=>by kernel_rfl
def M91 (x:(a91).den):Option (r91).den:=Q91 (fun r=>r) (fun _ _=>none) x
theorem m91:MO G91 Try.f91 l91 M91:=fun x=>by rw [q91]; unfold M91 Q91; simp only [Tree.sure,iO]
def p91:=pO M91
def v91:=vO (τ:=r91) M91
def k91:ee:=⟨a91,r91,p91,v91⟩
theorem h91:Holds Try.prog 91 k91:=hO aOx g91 m91 fun G' hlo hF hE=>ai (by rw [aSc]; exact .cons (lv hE hF hlo (ln aDo) akl aIB) (.nil))
noncomputable def c50:=zo Try.f50
theorem aGm:zq 50 Try.f50 c50:=zu
abbrev aId:Ty:=(.cons ec T79)
abbrev aGg:Ty:=(.cons ec aId)
abbrev aIi:Ty:=(.agg aGg)
abbrev ayp:Ty:=(.cons aIi .nil)
abbrev a50:Ty:=ayp
abbrev r50:Ty:=T3
noncomputable def G50:Ctx:=Ctx.of [(91,.pure k91)]
theorem g50:SP G50:=aD (fa ⟨⟨aOx.c,h91⟩,f0⟩)
def Q50 {α:Type} (l:Option (r50).den->α) (an:α->α->α) (x:(a50).den):α:=cl (r91).dflt (M91 (x.1.1,())) (fun u0=>bif u0.1 then cl (r91).dflt (M91 (x.1.2.1,())) (fun u1=>bif u1.1 then cl (r91).dflt (M91 (x.1.2.2.1,())) (fun u2=>bif u2.1 then cl (r91).dflt (M91 x.1.2.2.2) (fun u3=>l (some u3)) (l none) else l (some (false,()))) (l none) else l (some (false,()))) (l none) else l (some (false,()))) (l none)
theorem q50:QO G50 Try.f50 [] a50 r50 Q50:=fun _=>by kernel_rfl
def M50 (x:(a50).den):Option (r50).den:=Q50 (fun r=>r) (fun _ _=>none) x
theorem m50:MO G50 Try.f50 [] M50:=fun x=>by rw [q50]; unfold M50 Q50; simp only [Tree.sure,iO]
def p50:=pO M50
def v50:=vO (τ:=r50) M50
def k50:ee:=⟨a50,r50,p50,v50⟩
theorem h50:Holds Try.prog 50 k50:=hO aGm g50 m50 l0
noncomputable def c92:=zo Try.f92
theorem aGn:zq 92 Try.f92 c92:=zu
abbrev a92:Ty:=T96
abbrev r92:Ty:=T3
noncomputable def G92:Ctx:=Ctx.of []
theorem g92:SP G92:=aD f0
noncomputable def anm:Code:=aG ((af (c92))[0]?)
theorem aDp:af (anm)=[]:=by kernel_rfl
abbrev Od:List aL:=[.slot 1 (.pc ec),.slot 2 (.ptr 2),.box 2 [.pc eX,.pc tI,.pc tI,.pc tI,.pc tI]]
abbrev CU:List aL:=[.slot 5 (.pc tI)]
abbrev ahh:List aL:=Od ++ CU
def asW:ZJ Od CU ahh:=ZA _ _
def ako:ZS Od CU ahh:=ZP _ _
abbrev akp:aO:=⟨[(0,[])],[.slot 4 (.pc .bool)],[]⟩
abbrev Rl:aO:=⟨[(0,[])],[.slot 4 (.pc .bool)],[]⟩
def akq:ZE Od Rl akp:=fun id=>match id with | 0=>fun c y=>y | _=>jm
def ahi {α:Type} (l:RQ CU Rl->α) (an:α->α->α) (c:ZD Od) (v:ZD CU):α:=bif (decide (v.1 < ((c.1.n:Nat):Int))) then bif (decide (((0:Int)<=v.1)/\(v.1 < ((c.1.n:Nat):Int)))) then bif (decide (((0:Int)<=v.1)/\(v.1 < ((c.2.2.1.1.n:Nat):Int)))) then bif (!(decide ((((c.1.g (Int.toNat v.1)).1.n:Nat):Int)=(((c.2.2.1.1.g (Int.toNat v.1)).2.1.n:Nat):Int)))) then l (.out (.ret (false,()))) else l (.next ((W (v.1 + (1:Int))),())) else l .bad else l .bad else l (.out (.exit 0 ()))
theorem aID:ZO G92 0 31 anm [] asW akq ZI ZI ahi:=fun _ _=>by kernel_rfl
def ahj (c:ZD Od) (v:ZD CU):RQ CU Rl:=ahi (fun r=>r) (fun _ _=>.bad) c v
theorem aIE:SO G92 0 31 anm [] asW akq ZI ZI ahj:=fun c v=>by rw [aID]; unfold ahj ahi; simp only [bu,aM,pM]
def ahk (c:ZD Od) (v:ZD CU):LQ Rl:=aH (ahj c) cz v
theorem aSg:af (c92)=[.loop anm]:=by kernel_rfl
noncomputable def l92:List Loop:=[lk 0 akq ZI ZI true ako ahk]
def Q92 {α:Type} (l:Option (r92).den->α) (an:α->α->α) (x:(a92).den):α:=bif (!(decide (((x.2.1.n:Nat):Int)=((x.1.1.n:Nat):Int)))) then l (some (false,())) else aF (ahk (x.2.1,((),(x.1,()))) ((0:Int),())) 0 (fun u0=>l (some (true,()))) (bS (ahk (x.2.1,((),(x.1,()))) ((0:Int),())) (fun u1=>l (some u1)) (l none))
theorem q92:QO G92 Try.f92 l92 a92 r92 Q92:=fun _=>by kernel_rfl
def M92 (x:(a92).den):Option (r92).den:=Q92 (fun r=>r) (fun _ _=>none) x
theorem m92:MO G92 Try.f92 l92 M92:=fun x=>by rw [q92]; unfold M92 Q92; simp only [Tree.sure,iO]
def p92:=pO M92
def v92:=vO (τ:=r92) M92
def k92:ee:=⟨a92,r92,p92,v92⟩
theorem h92:Holds Try.prog 92 k92:=hO aGn g92 m92 fun G' hlo hF hE=>ai (by rw [aSg]; exact .cons (lv hE hF hlo (ln aDp) ako aIE) (.nil))
noncomputable def c60:=zo Try.f60
theorem aIF:zq 60 Try.f60 c60:=zu
abbrev a60:Ty:=T96
abbrev r60:Ty:=T3
noncomputable def G60:Ctx:=Ctx.of [(68,.pure k68),(92,.pure k92)]
theorem g60:SP G60:=aD (fa ⟨⟨aiE.c,h68⟩,fa ⟨⟨aGn.c,h92⟩,f0⟩⟩)
noncomputable def ahl:Code:=aG ((af (c60))[0]?)
noncomputable def Yp:Code:=aG ((af (ahl))[0]?)
theorem asX:af (Yp)=[]:=by kernel_rfl
abbrev BR:List aL:=[.slot 1 (.pc ec),.slot 2 (.ptr 2),.slot 5 (.pc tI),.box 2 [.pc eX,.pc tI,.pc tI,.pc tI,.pc tI]]
abbrev mg:List aL:=[.slot 6 (.pc tI)]
abbrev Oe:List aL:=BR ++ mg
def ae4:ZJ BR mg Oe:=ZA _ _
def FZ:ZS BR mg Oe:=ZP _ _
abbrev JV:aO:=⟨[(2,[.slot 1 (.pc ec),.slot 2 (.ptr 2),.slot 5 (.pc tI),.box 2 [.pc eX,.pc tI,.pc tI,.pc tI,.pc tI]])],[.slot 4 (.pc .bool)],[]⟩
abbrev pL:aO:=⟨[(2,[])],[.slot 4 (.pc .bool)],[]⟩
def Ut:ZE BR pL JV:=fun id=>match id with | 2=>fun c y=>(c.1,(c.2.1,(c.2.2.1,(c.2.2.2.1,y)))) | _=>jm
def Uu {α:Type} (l:RQ mg pL->α) (an:α->α->α) (c:ZD BR) (v:ZD mg):α:=bif (decide (((0:Int)<=c.2.2.1)/\(c.2.2.1 < ((c.1.n:Nat):Int)))) then bif (decide (v.1 < (((c.1.g (Int.toNat c.2.2.1)).1.n:Nat):Int))) then bif (decide ((0:Int) < c.2.2.1)) then bif (decide (((0:Int)<=(W (c.2.2.1 - (1:Int))))/\((W (c.2.2.1 - (1:Int))) < ((c.2.2.2.1.1.n:Nat):Int)))) then bif (decide (((0:Int)<=c.2.2.1)/\(c.2.2.1 < ((c.1.n:Nat):Int)))) then bif (decide (((0:Int)<=v.1)/\(v.1 < (((c.1.g (Int.toNat c.2.2.1)).1.n:Nat):Int)))) then cl (Kj).dflt (MC (((c.1.g (Int.toNat c.2.2.1)).1.g (Int.toNat v.1)).1,((-1:Int),((W ((((c.2.2.2.1.1.g (Int.toNat (W (c.2.2.1 - (1:Int))))).2.1.n:Nat):Int) - (1:Int))),())))) (fun u0=>bif (!u0.1) then l (.out (.ret (false,()))) else l (.next ((W (v.1 + (1:Int))),()))) (l .bad) else l .bad else l .bad else l .bad else bif (decide (((0:Int)<=c.2.2.1)/\(c.2.2.1 < ((c.1.n:Nat):Int)))) then bif (decide (((0:Int)<=v.1)/\(v.1 < (((c.1.g (Int.toNat c.2.2.1)).1.n:Nat):Int)))) then cl (Kj).dflt (MC (((c.1.g (Int.toNat c.2.2.1)).1.g (Int.toNat v.1)).1,((-1:Int),((-1:Int),())))) (fun u1=>bif (!u1.1) then l (.out (.ret (false,()))) else l (.next ((W (v.1 + (1:Int))),()))) (l .bad) else l .bad else l .bad else l (.out (.exit 2 ())) else l .bad
theorem ayD:ZO G60 0 48 Yp [] ae4 Ut ZI ZI Uu:=fun _ _=>by kernel_rfl
def Uv (c:ZD BR) (v:ZD mg):RQ mg pL:=Uu (fun r=>r) (fun _ _=>.bad) c v
theorem ayE:SO G60 0 48 Yp [] ae4 Ut ZI ZI Uv:=fun c v=>by rw [ayD]; unfold Uv Uu; simp only [bu,aM,pM]
def OP (c:ZD BR) (v:ZD mg):LQ pL:=aH (Uv c) cz v
theorem aDr:af (ahl)=[.loop Yp]:=by kernel_rfl
abbrev Of:List aL:=[.slot 1 (.pc ec),.slot 2 (.ptr 2),.box 2 [.pc eX,.pc tI,.pc tI,.pc tI,.pc tI]]
abbrev CV:List aL:=[.slot 5 (.pc tI)]
abbrev ahm:List aL:=Of ++ CV
def asY:ZJ Of CV ahm:=ZA _ _
def akr:ZS Of CV ahm:=ZP _ _
abbrev aks:aO:=⟨[(0,[])],[.slot 4 (.pc .bool)],[]⟩
abbrev Rm:aO:=⟨[(0,[])],[.slot 4 (.pc .bool)],[]⟩
def akt:ZE Of Rm aks:=fun id=>match id with | 0=>fun c y=>y | _=>jm
def ahn {α:Type} (l:RQ CV Rm->α) (an:α->α->α) (c:ZD Of) (v:ZD CV):α:=bif (decide (v.1 < ((c.1.n:Nat):Int))) then aF (OP (c.1,((),(v.1,(c.2.2.1,())))) ((0:Int),())) 2 (fun u2=>l (.next ((W (v.1 + (1:Int))),()))) (bS (OP (c.1,((),(v.1,(c.2.2.1,())))) ((0:Int),())) (fun u3=>l (.out (.ret u3))) (l .bad)) else l (.out (.exit 0 ()))
theorem aIG:ZO G60 0 48 ahl [.known (bF 0 [] Oe fun x=>aJ JV Ut ZI ZI [] true (FZ x).1 (OP (FZ x).1 (FZ x).2) JV.bw)] asY akt ZI ZI ahn:=fun _ _=>by kernel_rfl
def aho (c:ZD Of) (v:ZD CV):RQ CV Rm:=ahn (fun r=>r) (fun _ _=>.bad) c v
theorem aIH:SO G60 0 48 ahl [.known (bF 0 [] Oe fun x=>aJ JV Ut ZI ZI [] true (FZ x).1 (OP (FZ x).1 (FZ x).2) JV.bw)] asY akt ZI ZI aho:=fun c v=>by rw [aIG]; unfold aho ahn; simp only [bu,aM,pM]
def ahp (c:ZD Of) (v:ZD CV):LQ Rm:=aH (aho c) cz v
theorem aSj:af (c60)=[.loop ahl]:=by kernel_rfl
noncomputable def l60:List Loop:=[lk 0 akt ZI ZI true akr ahp]
def Q60 {α:Type} (l:Option (r60).den->α) (an:α->α->α) (x:(a60).den):α:=cl (r92).dflt (M92 (x.1,x.2)) (fun u4=>bif (!u4.1) then l (some (false,())) else aF (ahp (x.2.1,((),(x.1,()))) ((0:Int),())) 0 (fun u5=>l (some (true,()))) (bS (ahp (x.2.1,((),(x.1,()))) ((0:Int),())) (fun u6=>l (some u6)) (l none))) (l none)
theorem q60:QO G60 Try.f60 l60 a60 r60 Q60:=fun _=>by kernel_rfl
def M60 (x:(a60).den):Option (r60).den:=Q60 (fun r=>r) (fun _ _=>none) x
theorem m60:MO G60 Try.f60 l60 M60:=fun x=>by rw [q60]; unfold M60 Q60; simp only [Tree.sure,iO]
def p60:=pO M60
def v60:=vO (τ:=r60) M60
def k60:ee:=⟨a60,r60,p60,v60⟩
theorem h60:Holds Try.prog 60 k60:=hO aIF g60 m60 fun G' hlo hF hE=>ai (by rw [aSj]; exact .cons (lv hE hF hlo (ai (by rw [aDr]; exact .cons (lv hE hF hlo (ln asX) FZ ayE) (.nil))) akr aIH) (.nil))
noncomputable def c51:=zo Try.f51
theorem aGo:zq 51 Try.f51 c51:=zu
abbrev ag6:Ty:=(.cons PV ayp)
abbrev a51:Ty:=ag6
abbrev r51:Ty:=T3
noncomputable def G51:Ctx:=Ctx.of [(60,.pure k60),(92,.pure k92)]
theorem g51:SP G51:=aD (fa ⟨⟨aIF.c,h60⟩,fa ⟨⟨aGn.c,h92⟩,f0⟩⟩)
def Q51 {α:Type} (l:Option (r51).den->α) (an:α->α->α) (x:(a51).den):α:=cl (r60).dflt (M60 (x.1,(x.2.1.1,()))) (fun u0=>bif u0.1 then cl (r92).dflt (M92 (x.1,(x.2.1.2.1,()))) (fun u1=>bif u1.1 then cl (r92).dflt (M92 (x.1,(x.2.1.2.2.1,()))) (fun u2=>bif u2.1 then cl (r92).dflt (M92 (x.1,x.2.1.2.2.2)) (fun u3=>l (some u3)) (l none) else l (some (false,()))) (l none) else l (some (false,()))) (l none) else l (some (false,()))) (l none)
theorem q51:QO G51 Try.f51 [] a51 r51 Q51:=fun _=>by kernel_rfl
def M51 (x:(a51).den):Option (r51).den:=Q51 (fun r=>r) (fun _ _=>none) x
theorem m51:MO G51 Try.f51 [] M51:=fun x=>by rw [q51]; unfold M51 Q51; simp only [Tree.sure,iO]
def p51:=pO M51
def v51:=vO (τ:=r51) M51
def k51:ee:=⟨a51,r51,p51,v51⟩
theorem h51:Holds Try.prog 51 k51:=hO aGo g51 m51 l0
noncomputable def aDs:=zo Try.f115
theorem aE7:zq 115 Try.f115 aDs:=zu
abbrev anf:Ty:=(.agg T15)
abbrev asG:Ty:=(.cons anf .nil)
abbrev aoF:Ty:=(.cons (.sl T0) asG)
abbrev ayq:Ty:=(.fn aoF T3)
abbrev ayr:Ty:=(.cons ayq .nil)
abbrev asH:Ty:=(.cons eX ayr)
abbrev asI:Ty:=(.cons ec asH)
abbrev ann:Ty:=asI
abbrev aku:Ty:=T3
noncomputable def as1:Ctx:=Ctx.of []
theorem aSm:SP as1:=aD f0
noncomputable def ae5:Code:=aG ((af (aDs))[0]?)
theorem ayF:af (ae5)=[]:=by kernel_rfl
abbrev Iq:List aL:=[.slot 1 (.pc eX),.slot 2 (.pc ayq),.slot 15 (.pc ec),.slot 16 (.pc tI)]
abbrev wC:List aL:=[.slot 17 (.pc tI)]
abbrev abP:List aL:=Iq ++ wC
def akv:ZJ Iq wC abP:=ZA _ _
def ae6:ZS Iq wC abP:=ZP _ _
abbrev ae7:aO:=⟨[(0,[])],[.slot 6 (.pc .bool)],[]⟩
abbrev LN:aO:=⟨[(0,[])],[.slot 6 (.pc .bool)],[]⟩
def ae8:ZE Iq LN ae7:=fun id=>match id with | 0=>fun c y=>y | _=>jm
def aaE {α:Type} (l:RQ wC LN->α) (an:α->α->α) (c:ZD Iq) (v:ZD wC):α:=bif (decide (v.1 < c.2.2.2.1)) then bif (decide (((0:Int)<=v.1)/\(v.1 < ((c.2.2.1.n:Nat):Int)))) then bif (decide (((0:Int)<=v.1)/\(v.1 < ((c.1.n:Nat):Int)))) then bif (c.2.1 ((c.2.2.1.g (Int.toNat v.1)).1,((c.1.g (Int.toNat v.1)),()))).1 then bif (!(c.2.1 ((c.2.2.1.g (Int.toNat v.1)).1,((c.1.g (Int.toNat v.1)),()))).2.1) then l (.out (.ret (false,()))) else l (.next ((W (v.1 + (1:Int))),())) else l .bad else l .bad else l .bad else l (.out (.exit 0 ()))
theorem aDt:ZO as1 0 32 ae5 [] akv ae8 ZI ZI aaE:=fun _ _=>by kernel_rfl
def aaF (c:ZD Iq) (v:ZD wC):RQ wC LN:=aaE (fun r=>r) (fun _ _=>.bad) c v
theorem aDu:SO as1 0 32 ae5 [] akv ae8 ZI ZI aaF:=fun c v=>by rw [aDt]; unfold aaF aaE; simp only [bu,aM,pM]
def aaG (c:ZD Iq) (v:ZD wC):LQ LN:=aH (aaF c) cz v
theorem aII:af (aDs)=[.loop ae5]:=by kernel_rfl
noncomputable def aIJ:List Loop:=[lk 0 ae8 ZI ZI true ae6 aaG]
def ayG {α:Type} (l:Option (aku).den->α) (an:α->α->α) (x:(ann).den):α:=bif (!(decide (((x.1.n:Nat):Int)=((x.2.1.n:Nat):Int)))) then l (some (false,())) else aF (aaG (x.2.1,(x.2.2.1,(x.1,(((x.1.n:Nat):Int),())))) ((0:Int),())) 0 (fun u0=>l (some (true,()))) (bS (aaG (x.2.1,(x.2.2.1,(x.1,(((x.1.n:Nat):Int),())))) ((0:Int),())) (fun u1=>l (some u1)) (l none))
theorem aSn:QO as1 Try.f115 aIJ ann aku ayG:=fun _=>by kernel_rfl
def akw (x:(ann).den):Option (aku).den:=ayG (fun r=>r) (fun _ _=>none) x
theorem aSo:MO as1 Try.f115 aIJ akw:=fun x=>by rw [aSn]; unfold akw ayG; simp only [Tree.sure,iO]
def aSp:=pO akw
def aSq:=vO (τ:=aku) akw
def aIK:ee:=⟨ann,aku,aSp,aSq⟩
theorem aDv:Holds Try.prog 115 aIK:=hO aE7 aSm aSo fun G' hlo hF hE=>ai (by rw [aII]; exact .cons (lv hE hF hlo (ln ayF) ae6 aDu) (.nil))
noncomputable def aOE:=zo Try.f116
theorem aE8:zq 116 Try.f116 aOE:=zu
abbrev a116:Ty:=aoF
abbrev aoG:Ty:=T3
noncomputable def aDw:Ctx:=Ctx.of []
theorem aSr:SP aDw:=aD f0
def aDx {α:Type} (l:Option (aoG).den->α) (an:α->α->α) (x:(a116).den):α:=l (some ((decide (((x.1.n:Nat):Int)=((x.2.1.2.1.n:Nat):Int))),()))
theorem aSs:QO aDw Try.f116 [] a116 aoG aDx:=fun _=>by kernel_rfl
def ayH (x:(a116).den):Option (aoG).den:=aDx (fun r=>r) (fun _ _=>none) x
theorem aSt:MO aDw Try.f116 [] ayH:=fun x=>by rw [aSs]; unfold ayH aDx; simp only [Tree.sure,iO]
def ayI:=pO ayH
def ayJ:=vO (τ:=aoG) ayH
def aIL:ee:=⟨a116,aoG,ayI,ayJ⟩
theorem aSu:Holds Try.prog 116 aIL:=hO aE8 aSr aSt l0
noncomputable def c93:=zo Try.f93
theorem aOF:zq 93 Try.f93 c93:=zu
abbrev a93:Ty:=T96
abbrev r93:Ty:=T3
noncomputable def G93:Ctx:=Ctx.of [(115,.pure aIK),(116,.pure aIL)]
theorem g93:SP G93:=aD (fa ⟨⟨aE7.c,aDv⟩,fa ⟨⟨aE8.c,aSu⟩,f0⟩⟩)
def Q93 {α:Type} (l:Option (r93).den->α) (an:α->α->α) (x:(a93).den):α:=cl (aku).dflt (akw (x.2.1,(x.1.1,((fun y1=>((ayI y1),(ayJ y1))),())))) (fun u0=>l (some u0)) (l none)
theorem q93:QO G93 Try.f93 [] a93 r93 Q93:=fun _=>by kernel_rfl
def M93 (x:(a93).den):Option (r93).den:=Q93 (fun r=>r) (fun _ _=>none) x
theorem m93:MO G93 Try.f93 [] M93:=fun x=>by rw [q93]; unfold M93 Q93; simp only [Tree.sure,iO]
def p93:=pO M93
def v93:=vO (τ:=r93) M93
def k93:ee:=⟨a93,r93,p93,v93⟩
theorem h93:Holds Try.prog 93 k93:=hO aOF g93 m93 l0
noncomputable def c52:=zo Try.f52
theorem aGp:zq 52 Try.f52 c52:=zu
abbrev ays:Ty:=(.cons .bool T0)
abbrev a52:Ty:=ag6
abbrev r52:Ty:=ays
noncomputable def G52:Ctx:=Ctx.of [(64,.pure k64),(74,.pure k74),(93,.pure k93),(94,.pure k94),(95,.pure k95),(96,.pure k96),(97,.pure k97)]
theorem g52:SP G52:=aD (fa ⟨⟨VM.c,h64⟩,fa ⟨⟨aa7.c,h74⟩,fa ⟨⟨aOF.c,h93⟩,fa ⟨⟨PF.c,h94⟩,fa ⟨⟨apk.c,h95⟩,fa ⟨⟨aa8.c,h96⟩,fa ⟨⟨api.c,h97⟩,f0⟩⟩⟩⟩⟩⟩⟩)
noncomputable def ano:Code:=aG ((af (c52))[0]?)
theorem aDA:af (ano)=[]:=by kernel_rfl
abbrev Og:List aL:=[.slot 2 (.ptr 2),.slot 3 (.ptr 3),.agg 37 aGg,.box 2 [.pc eX,.pc tI,.pc tI,.pc tI,.pc tI],.box 3 [.pc ec,.pc ec,.pc ec,.pc ec]]
abbrev CW:List aL:=[.slot 38 (.pc tI)]
abbrev ahq:List aL:=Og ++ CW
def as2:ZJ Og CW ahq:=ZA _ _
def akx:ZS Og CW ahq:=ZP _ _
abbrev aky:aO:=⟨[(0,[.slot 2 (.ptr 2),.slot 3 (.ptr 3),.box 2 [.pc eX,.pc tI,.pc tI,.pc tI,.pc tI],.box 3 [.pc ec,.pc ec,.pc ec,.pc ec]])],[.slot 4 (.pc .bool),.slot 5 (.pc tI)],[]⟩
abbrev Rn:aO:=⟨[(0,[])],[.slot 4 (.pc .bool),.slot 5 (.pc tI)],[]⟩
def akz:ZE Og Rn aky:=fun id=>match id with | 0=>fun c y=>(c.1,(c.2.1,(c.2.2.2.1,(c.2.2.2.2.1,y)))) | _=>jm
def ahr {α:Type} (l:RQ CW Rn->α) (an:α->α->α) (c:ZD Og) (v:ZD CW):α:=bif (decide (v.1 < (4:Int))) then bif (decide ((v.1 < (4:Int))/\((0:Int)<=v.1))) then bif (decide (((Int.toNat v.1) * 1) < 4)) then cl (r93).dflt (M93 (c.2.2.2.1,((List.getD [c.2.2.1.1,c.2.2.1.2.1,c.2.2.1.2.2.1,c.2.2.1.2.2.2.1] ((Int.toNat v.1) * 1) c.2.2.1.1),()))) (fun u0=>bif (!u0.1) then l (.out (.ret (false,((2:Int),())))) else l (.next ((W (v.1 + (1:Int))),()))) (l .bad) else l .bad else l .bad else l (.out (.exit 0 ()))
theorem aIN:ZO G52 0 242 ano [] as2 akz ZI ZI ahr:=fun _ _=>by kernel_rfl
def ahs (c:ZD Og) (v:ZD CW):RQ CW Rn:=ahr (fun r=>r) (fun _ _=>.bad) c v
theorem aIO:SO G52 0 242 ano [] as2 akz ZI ZI ahs:=fun c v=>by rw [aIN]; unfold ahs ahr; simp only [bu,aM,pM]
def aht (c:ZD Og) (v:ZD CW):LQ Rn:=aH (ahs c) cz v
noncomputable def ahu:Code:=aG ((af (c52))[1]?)
noncomputable def Yq:Code:=aG ((af (ahu))[0]?)
theorem as3:af (Yq)=[]:=by kernel_rfl
abbrev BS:List aL:=[.slot 2 (.ptr 2),.slot 3 (.ptr 3),.slot 10 (.pc tI),.slot 47 (.pc ec),.slot 48 (.pc tI),.slot 49 (.pc tI),.slot 64 (.pc (.sl T0)),.slot 65 (.pc tI),.box 2 [.pc eX,.pc tI,.pc tI,.pc tI,.pc tI],.box 3 [.pc ec,.pc ec,.pc ec,.pc ec]]
abbrev sN:List aL:=[.slot 66 (.pc tI)]
abbrev Oh:List aL:=BS ++ sN
def afa:ZJ BS sN Oh:=ZA _ _
def Ga:ZS BS sN Oh:=ZP _ _
abbrev JW:aO:=⟨[(4,[.slot 2 (.ptr 2),.slot 3 (.ptr 3),.slot 47 (.pc ec),.slot 48 (.pc tI),.slot 49 (.pc tI),.box 2 [.pc eX,.pc tI,.pc tI,.pc tI,.pc tI],.box 3 [.pc ec,.pc ec,.pc ec,.pc ec]])],[.slot 4 (.pc .bool),.slot 5 (.pc tI)],[]⟩
abbrev Gb:aO:=⟨[(4,[])],[.slot 4 (.pc .bool),.slot 5 (.pc tI)],[]⟩
def Uw:ZE BS Gb JW:=fun id=>match id with | 4=>fun c y=>(c.1,(c.2.1,(c.2.2.2.1,(c.2.2.2.2.1,(c.2.2.2.2.2.1,(c.2.2.2.2.2.2.2.2.1,(c.2.2.2.2.2.2.2.2.2.1,y))))))) | _=>jm
def Ux {α:Type} (l:RQ sN Gb->α) (an:α->α->α) (c:ZD BS) (v:ZD sN):α:=bif (decide (v.1 < c.2.2.2.2.2.2.2.1)) then bif (decide (((0:Int)<=v.1)/\(v.1 < ((c.2.2.2.2.2.2.1.n:Nat):Int)))) then cl (r64).dflt (Kk ((c.2.2.2.2.2.2.1.g (Int.toNat v.1)).1,((-1:Int),((W (c.2.2.1 - (1:Int))),())))) (fun u1=>bif (!u1.1) then l (.out (.ret (false,((2:Int),())))) else l (.next ((W (v.1 + (1:Int))),()))) (l .bad) else l .bad else l (.out (.exit 4 ()))
theorem ayK:ZO G52 0 242 Yq [] afa Uw ZI ZI Ux:=fun _ _=>by kernel_rfl
def Uy (c:ZD BS) (v:ZD sN):RQ sN Gb:=Ux (fun r=>r) (fun _ _=>.bad) c v
theorem ayL:SO G52 0 242 Yq [] afa Uw ZI ZI Uy:=fun c v=>by rw [ayK]; unfold Uy Ux; simp only [bu,aM,pM]
def Ir (c:ZD BS) (v:ZD sN):LQ Gb:=aH (Uy c) cz v
theorem aDB:af (ahu)=[.loop Yq]:=by kernel_rfl
abbrev Oi:List aL:=[.slot 2 (.ptr 2),.slot 3 (.ptr 3),.slot 47 (.pc ec),.slot 48 (.pc tI),.box 2 [.pc eX,.pc tI,.pc tI,.pc tI,.pc tI],.box 3 [.pc ec,.pc ec,.pc ec,.pc ec]]
abbrev CX:List aL:=[.slot 49 (.pc tI)]
abbrev ahv:List aL:=Oi ++ CX
def as4:ZJ Oi CX ahv:=ZA _ _
def akA:ZS Oi CX ahv:=ZP _ _
abbrev akB:aO:=⟨[(2,[.slot 2 (.ptr 2),.slot 3 (.ptr 3),.box 2 [.pc eX,.pc tI,.pc tI,.pc tI,.pc tI],.box 3 [.pc ec,.pc ec,.pc ec,.pc ec]])],[.slot 4 (.pc .bool),.slot 5 (.pc tI)],[]⟩
abbrev Ro:aO:=⟨[(2,[])],[.slot 4 (.pc .bool),.slot 5 (.pc tI)],[]⟩
def akC:ZE Oi Ro akB:=fun id=>match id with | 2=>fun c y=>(c.1,(c.2.1,(c.2.2.2.2.1,(c.2.2.2.2.2.1,y)))) | _=>jm
def ahw {α:Type} (l:RQ CX Ro->α) (an:α->α->α) (c:ZD Oi) (v:ZD CX):α:=bif (decide (v.1 < c.2.2.2.1)) then bif (decide (((0:Int)<=v.1)/\(v.1 < ((c.2.2.1.n:Nat):Int)))) then bif (decide ((0:Int) < v.1)) then bif (decide (((0:Int)<=(W (v.1 - (1:Int))))/\((W (v.1 - (1:Int))) < ((c.2.2.2.2.1.1.n:Nat):Int)))) then aF (Ir ((),((),((((c.2.2.2.2.1.1.g (Int.toNat (W (v.1 - (1:Int))))).2.1.n:Nat):Int),(c.2.2.1,(c.2.2.2.1,(v.1,((c.2.2.1.g (Int.toNat v.1)).1,((((c.2.2.1.g (Int.toNat v.1)).1.n:Nat):Int),(c.2.2.2.2.1,(c.2.2.2.2.2.1,())))))))))) ((0:Int),())) 4 (fun u2=>l (.next ((W (v.1 + (1:Int))),()))) (bS (Ir ((),((),((((c.2.2.2.2.1.1.g (Int.toNat (W (v.1 - (1:Int))))).2.1.n:Nat):Int),(c.2.2.1,(c.2.2.2.1,(v.1,((c.2.2.1.g (Int.toNat v.1)).1,((((c.2.2.1.g (Int.toNat v.1)).1.n:Nat):Int),(c.2.2.2.2.1,(c.2.2.2.2.2.1,())))))))))) ((0:Int),())) (fun u3=>l (.out (.ret u3))) (l .bad)) else l .bad else aF (Ir ((),((),((0:Int),(c.2.2.1,(c.2.2.2.1,(v.1,((c.2.2.1.g (Int.toNat v.1)).1,((((c.2.2.1.g (Int.toNat v.1)).1.n:Nat):Int),(c.2.2.2.2.1,(c.2.2.2.2.2.1,())))))))))) ((0:Int),())) 4 (fun u4=>l (.next ((W (v.1 + (1:Int))),()))) (bS (Ir ((),((),((0:Int),(c.2.2.1,(c.2.2.2.1,(v.1,((c.2.2.1.g (Int.toNat v.1)).1,((((c.2.2.1.g (Int.toNat v.1)).1.n:Nat):Int),(c.2.2.2.2.1,(c.2.2.2.2.2.1,())))))))))) ((0:Int),())) (fun u5=>l (.out (.ret u5))) (l .bad)) else l .bad else l (.out (.exit 2 ()))
theorem aIP:ZO G52 0 242 ahu [.known (bF 0 [] Oh fun x=>aJ JW Uw ZI ZI [] true (Ga x).1 (Ir (Ga x).1 (Ga x).2) JW.bw)] as4 akC ZI ZI ahw:=fun _ _=>by kernel_rfl
def ahx (c:ZD Oi) (v:ZD CX):RQ CX Ro:=ahw (fun r=>r) (fun _ _=>.bad) c v
theorem aIQ:SO G52 0 242 ahu [.known (bF 0 [] Oh fun x=>aJ JW Uw ZI ZI [] true (Ga x).1 (Ir (Ga x).1 (Ga x).2) JW.bw)] as4 akC ZI ZI ahx:=fun c v=>by rw [aIP]; unfold ahx ahw; simp only [bu,aM,pM]
def ahy (c:ZD Oi) (v:ZD CX):LQ Ro:=aH (ahx c) cz v
noncomputable def acD:Code:=aG ((af (c52))[2]?)
noncomputable def OQ:Code:=aG ((af (acD))[0]?)
noncomputable def OS:Code:=aG ((af (OQ))[0]?)
theorem akD:af (OS)=[]:=by kernel_rfl
abbrev oL:List aL:=[.slot 2 (.ptr 2),.slot 3 (.ptr 3),.slot 13 (.ptr 17),.slot 14 (.pc tI),.slot 15 (.pc tI),.slot 16 (.pc tI),.slot 17 (.pc tI),.slot 18 (.pc tI),.slot 19 (.ptr 521),.slot 83 (.pc tI),.slot 84 (.pc tI),.slot 91 (.pc (.sl T0)),.slot 92 (.pc tI),.slot 93 (.pc tI),.agg 126 T6,.box 2 [.pc eX,.pc tI,.pc tI,.pc tI,.pc tI],.box 3 [.pc ec,.pc ec,.pc ec,.pc ec],.box 17 [.pc eX,.pc tI,.pc tI,.pc tI,.pc tI,.pc ec],.box 521 [.pc tI,.pc tI,.pc tI]]
abbrev mG:List aL:=[.slot 127 (.pc tI)]
abbrev Gd:List aL:=oL ++ mG
def VV:ZJ oL mG Gd:=ZA _ _
def xu:ZS oL mG Gd:=ZP _ _
abbrev AH:aO:=⟨[(10,[.slot 2 (.ptr 2),.slot 3 (.ptr 3),.slot 13 (.ptr 17),.slot 14 (.pc tI),.slot 15 (.pc tI),.slot 16 (.pc tI),.slot 17 (.pc tI),.slot 18 (.pc tI),.slot 19 (.ptr 521),.slot 83 (.pc tI),.slot 84 (.pc tI),.slot 91 (.pc (.sl T0)),.slot 92 (.pc tI),.slot 93 (.pc tI),.box 2 [.pc eX,.pc tI,.pc tI,.pc tI,.pc tI],.box 3 [.pc ec,.pc ec,.pc ec,.pc ec],.box 17 [.pc eX,.pc tI,.pc tI,.pc tI,.pc tI,.pc ec],.box 521 [.pc tI,.pc tI,.pc tI]])],[.slot 4 (.pc .bool),.slot 5 (.pc tI)],[]⟩
abbrev su:aO:=⟨[(10,[])],[.slot 4 (.pc .bool),.slot 5 (.pc tI)],[]⟩
def LP:ZE oL su AH:=fun id=>match id with | 10=>fun c y=>(c.1,(c.2.1,(c.2.2.1,(c.2.2.2.1,(c.2.2.2.2.1,(c.2.2.2.2.2.1,(c.2.2.2.2.2.2.1,(c.2.2.2.2.2.2.2.1,(c.2.2.2.2.2.2.2.2.1,(c.2.2.2.2.2.2.2.2.2.1,(c.2.2.2.2.2.2.2.2.2.2.1,(c.2.2.2.2.2.2.2.2.2.2.2.1,(c.2.2.2.2.2.2.2.2.2.2.2.2.1,(c.2.2.2.2.2.2.2.2.2.2.2.2.2.1,(c.2.2.2.2.2.2.2.2.2.2.2.2.2.2.2.1,(c.2.2.2.2.2.2.2.2.2.2.2.2.2.2.2.2.1,(c.2.2.2.2.2.2.2.2.2.2.2.2.2.2.2.2.2.1,(c.2.2.2.2.2.2.2.2.2.2.2.2.2.2.2.2.2.2.1,y)))))))))))))))))) | _=>jm
def JX {α:Type} (l:RQ mG su->α) (an:α->α->α) (c:ZD oL) (v:ZD mG):α:=bif (decide (v.1 < (3:Int))) then bif (decide ((v.1 < (3:Int))/\((0:Int)<=v.1))) then bif (decide ((((Int.toNat v.1) * 2) + 2)<=6)) then bif (decide (((0:Int)<=v.1)/\(v.1 < (3:Int)))) then bif (decide ((0 + ((Int.toNat v.1) * 1)) < 3)) then cl (r64).dflt (Kk ((List.getD [c.2.2.2.2.2.2.2.2.2.2.2.2.2.2.2.2.2.2.1.1,c.2.2.2.2.2.2.2.2.2.2.2.2.2.2.2.2.2.2.1.2.1,c.2.2.2.2.2.2.2.2.2.2.2.2.2.2.2.2.2.2.1.2.2.1] (0 + ((Int.toNat v.1) * 1)) c.2.2.2.2.2.2.2.2.2.2.2.2.2.2.2.2.2.2.1.1),((List.getD [c.2.2.2.2.2.2.2.2.2.2.2.2.2.2.1.1,c.2.2.2.2.2.2.2.2.2.2.2.2.2.2.1.2.1,c.2.2.2.2.2.2.2.2.2.2.2.2.2.2.1.2.2.1,c.2.2.2.2.2.2.2.2.2.2.2.2.2.2.1.2.2.2.1,c.2.2.2.2.2.2.2.2.2.2.2.2.2.2.1.2.2.2.2.1,c.2.2.2.2.2.2.2.2.2.2.2.2.2.2.1.2.2.2.2.2.1] ((Int.toNat v.1) * 2) c.2.2.2.2.2.2.2.2.2.2.2.2.2.2.1.1),((List.getD [c.2.2.2.2.2.2.2.2.2.2.2.2.2.2.1.2.1,c.2.2.2.2.2.2.2.2.2.2.2.2.2.2.1.2.2.1,c.2.2.2.2.2.2.2.2.2.2.2.2.2.2.1.2.2.2.1,c.2.2.2.2.2.2.2.2.2.2.2.2.2.2.1.2.2.2.2.1,c.2.2.2.2.2.2.2.2.2.2.2.2.2.2.1.2.2.2.2.2.1] ((Int.toNat v.1) * 2) c.2.2.2.2.2.2.2.2.2.2.2.2.2.2.1.1),())))) (fun u6=>bif (!u6.1) then l (.out (.ret (false,((0:Int),())))) else l (.next ((W (v.1 + (1:Int))),()))) (l .bad) else l .bad else l .bad else l .bad else l .bad else l (.out (.exit 10 ()))
theorem aoH:ZO G52 0 242 OS [] VV LP ZI ZI JX:=fun _ _=>by kernel_rfl
def JY (c:ZD oL) (v:ZD mG):RQ mG su:=JX (fun r=>r) (fun _ _=>.bad) c v
theorem aoI:SO G52 0 242 OS [] VV LP ZI ZI JY:=fun c v=>by rw [aoH]; unfold JY JX; simp only [bu,aM,pM]
def xG (c:ZD oL) (v:ZD mG):LQ su:=aH (JY c) cz v
noncomputable def OT:Code:=aG ((af (OQ))[1]?)
theorem akE:af (OT)=[]:=by kernel_rfl
abbrev pU:List aL:=[.slot 2 (.ptr 2),.slot 3 (.ptr 3),.slot 13 (.ptr 17),.slot 14 (.pc tI),.slot 15 (.pc tI),.slot 16 (.pc tI),.slot 17 (.pc tI),.slot 18 (.pc tI),.slot 19 (.ptr 521),.slot 22 (.ptr 1028),.slot 83 (.pc tI),.slot 84 (.pc tI),.slot 91 (.pc (.sl T0)),.slot 92 (.pc tI),.slot 93 (.pc tI),.agg 179 T2,.box 2 [.pc eX,.pc tI,.pc tI,.pc tI,.pc tI],.box 3 [.pc ec,.pc ec,.pc ec,.pc ec],.box 17 [.pc eX,.pc tI,.pc tI,.pc tI,.pc tI,.pc ec],.box 521 [.pc tI,.pc tI,.pc tI],.box 1028 [.pc tI,.pc tI,.pc tI]]
abbrev mH:List aL:=[.slot 180 (.pc tI)]
abbrev Ge:List aL:=pU ++ mH
def VW:ZJ pU mH Ge:=ZA _ _
def xw:ZS pU mH Ge:=ZP _ _
abbrev AI:aO:=⟨[(12,[.slot 2 (.ptr 2),.slot 3 (.ptr 3),.slot 13 (.ptr 17),.slot 14 (.pc tI),.slot 15 (.pc tI),.slot 16 (.pc tI),.slot 17 (.pc tI),.slot 18 (.pc tI),.slot 83 (.pc tI),.slot 84 (.pc tI),.slot 91 (.pc (.sl T0)),.slot 92 (.pc tI),.slot 93 (.pc tI),.box 2 [.pc eX,.pc tI,.pc tI,.pc tI,.pc tI],.box 3 [.pc ec,.pc ec,.pc ec,.pc ec],.box 17 [.pc eX,.pc tI,.pc tI,.pc tI,.pc tI,.pc ec]])],[.slot 4 (.pc .bool),.slot 5 (.pc tI)],[]⟩
abbrev sw:aO:=⟨[(12,[])],[.slot 4 (.pc .bool),.slot 5 (.pc tI)],[]⟩
def LR:ZE pU sw AI:=fun id=>match id with | 12=>fun c y=>(c.1,(c.2.1,(c.2.2.1,(c.2.2.2.1,(c.2.2.2.2.1,(c.2.2.2.2.2.1,(c.2.2.2.2.2.2.1,(c.2.2.2.2.2.2.2.1,(c.2.2.2.2.2.2.2.2.2.2.1,(c.2.2.2.2.2.2.2.2.2.2.2.1,(c.2.2.2.2.2.2.2.2.2.2.2.2.1,(c.2.2.2.2.2.2.2.2.2.2.2.2.2.1,(c.2.2.2.2.2.2.2.2.2.2.2.2.2.2.1,(c.2.2.2.2.2.2.2.2.2.2.2.2.2.2.2.2.1,(c.2.2.2.2.2.2.2.2.2.2.2.2.2.2.2.2.2.1,(c.2.2.2.2.2.2.2.2.2.2.2.2.2.2.2.2.2.2.1,y)))))))))))))))) | _=>jm
def JZ {α:Type} (l:RQ mH sw->α) (an:α->α->α) (c:ZD pU) (v:ZD mH):α:=bif (decide (v.1 < (3:Int))) then bif (decide ((v.1 < (3:Int))/\((0:Int)<=v.1))) then bif (decide (((Int.toNat v.1) * 1) < 3)) then bif (decide (((0:Int)<=v.1)/\(v.1 < (3:Int)))) then bif (decide ((0 + ((Int.toNat v.1) * 1)) < 3)) then bif (decide (((0:Int)<=v.1)/\(v.1 < (3:Int)))) then bif (decide ((0 + ((Int.toNat v.1) * 1)) < 3)) then cl (r64).dflt (Kk ((W ((List.getD [c.2.2.2.2.2.2.2.2.2.2.2.2.2.2.2.2.2.2.2.1.1,c.2.2.2.2.2.2.2.2.2.2.2.2.2.2.2.2.2.2.2.1.2.1,c.2.2.2.2.2.2.2.2.2.2.2.2.2.2.2.2.2.2.2.1.2.2.1] (0 + ((Int.toNat v.1) * 1)) c.2.2.2.2.2.2.2.2.2.2.2.2.2.2.2.2.2.2.2.1.1) - (List.getD [c.2.2.2.2.2.2.2.2.2.2.2.2.2.2.2.2.2.2.2.2.1.1,c.2.2.2.2.2.2.2.2.2.2.2.2.2.2.2.2.2.2.2.2.1.2.1,c.2.2.2.2.2.2.2.2.2.2.2.2.2.2.2.2.2.2.2.2.1.2.2.1] (0 + ((Int.toNat v.1) * 1)) c.2.2.2.2.2.2.2.2.2.2.2.2.2.2.2.2.2.2.2.2.1.1))),((W ((0:Int) - (List.getD [c.2.2.2.2.2.2.2.2.2.2.2.2.2.2.2.1.1,c.2.2.2.2.2.2.2.2.2.2.2.2.2.2.2.1.2.1,c.2.2.2.2.2.2.2.2.2.2.2.2.2.2.2.1.2.2.1] ((Int.toNat v.1) * 1) c.2.2.2.2.2.2.2.2.2.2.2.2.2.2.2.1.1))),((List.getD [c.2.2.2.2.2.2.2.2.2.2.2.2.2.2.2.1.1,c.2.2.2.2.2.2.2.2.2.2.2.2.2.2.2.1.2.1,c.2.2.2.2.2.2.2.2.2.2.2.2.2.2.2.1.2.2.1] ((Int.toNat v.1) * 1) c.2.2.2.2.2.2.2.2.2.2.2.2.2.2.2.1.1),())))) (fun u7=>bif (!u7.1) then l (.out (.ret (false,((0:Int),())))) else l (.next ((W (v.1 + (1:Int))),()))) (l .bad) else l .bad else l .bad else l .bad else l .bad else l .bad else l .bad else l (.out (.exit 12 ()))
theorem aoJ:ZO G52 0 242 OT [] VW LR ZI ZI JZ:=fun _ _=>by kernel_rfl
def Ka (c:ZD pU) (v:ZD mH):RQ mH sw:=JZ (fun r=>r) (fun _ _=>.bad) c v
theorem aoK:SO G52 0 242 OT [] VW LR ZI ZI Ka:=fun c v=>by rw [aoJ]; unfold Ka JZ; simp only [bu,aM,pM]
def AJ (c:ZD pU) (v:ZD mH):LQ sw:=aH (Ka c) cz v
theorem as5:af (OQ)=[.loop OS,.loop OT]:=by kernel_rfl
abbrev BT:List aL:=[.slot 2 (.ptr 2),.slot 3 (.ptr 3),.slot 13 (.ptr 17),.slot 15 (.pc tI),.slot 16 (.pc tI),.slot 83 (.pc tI),.slot 84 (.pc tI),.slot 91 (.pc (.sl T0)),.slot 92 (.pc tI),.box 2 [.pc eX,.pc tI,.pc tI,.pc tI,.pc tI],.box 3 [.pc ec,.pc ec,.pc ec,.pc ec],.box 17 [.pc eX,.pc tI,.pc tI,.pc tI,.pc tI,.pc ec]]
abbrev sO:List aL:=[.slot 14 (.pc tI),.slot 93 (.pc tI)]
abbrev Oj:List aL:=BT ++ sO
def afb:ZJ BT sO Oj:=ZA _ _
def Gf:ZS BT sO Oj:=ZP _ _
abbrev Kb:aO:=⟨[(8,[.slot 2 (.ptr 2),.slot 3 (.ptr 3),.slot 13 (.ptr 17),.slot 15 (.pc tI),.slot 16 (.pc tI),.slot 83 (.pc tI),.slot 84 (.pc tI),.box 2 [.pc eX,.pc tI,.pc tI,.pc tI,.pc tI],.box 3 [.pc ec,.pc ec,.pc ec,.pc ec],.box 17 [.pc eX,.pc tI,.pc tI,.pc tI,.pc tI,.pc ec],.slot 14 (.pc tI)])],[.slot 4 (.pc .bool),.slot 5 (.pc tI)],[]⟩
abbrev uV:aO:=⟨[(8,[.slot 14 (.pc tI)])],[.slot 4 (.pc .bool),.slot 5 (.pc tI)],[]⟩
def Uz:ZE BT uV Kb:=fun id=>match id with | 8=>fun c y=>(c.1,(c.2.1,(c.2.2.1,(c.2.2.2.1,(c.2.2.2.2.1,(c.2.2.2.2.2.1,(c.2.2.2.2.2.2.1,(c.2.2.2.2.2.2.2.2.2.1,(c.2.2.2.2.2.2.2.2.2.2.1,(c.2.2.2.2.2.2.2.2.2.2.2.1,y)))))))))) | _=>jm
def UA {α:Type} (l:RQ sO uV->α) (an:α->α->α) (c:ZD BT) (v:ZD sO):α:=bif (decide (v.2.1 < c.2.2.2.2.2.2.2.2.1)) then bif (decide (((0:Int)<=v.2.1)/\(v.2.1 < ((c.2.2.2.2.2.2.2.1.n:Nat):Int)))) then bif (decide (((0:Int)<=c.2.2.2.2.1)/\(c.2.2.2.2.1 < ((c.2.2.2.2.2.2.2.2.2.2.1.2.1.n:Nat):Int)))) then bif (decide (((0:Int)<=v.2.1)/\(v.2.1 < (((c.2.2.2.2.2.2.2.2.2.2.1.2.1.g (Int.toNat c.2.2.2.2.1)).1.n:Nat):Int)))) then bif (decide (((0:Int)<=c.2.2.2.2.1)/\(c.2.2.2.2.1 < ((c.2.2.2.2.2.2.2.2.2.2.1.2.2.1.n:Nat):Int)))) then bif (decide (((0:Int)<=v.2.1)/\(v.2.1 < (((c.2.2.2.2.2.2.2.2.2.2.1.2.2.1.g (Int.toNat c.2.2.2.2.1)).1.n:Nat):Int)))) then bif (decide (((0:Int)<=c.2.2.2.2.1)/\(c.2.2.2.2.1 < ((c.2.2.2.2.2.2.2.2.2.2.1.2.2.2.1.n:Nat):Int)))) then bif (decide (((0:Int)<=v.2.1)/\(v.2.1 < (((c.2.2.2.2.2.2.2.2.2.2.1.2.2.2.1.g (Int.toNat c.2.2.2.2.1)).1.n:Nat):Int)))) then cl (PW).dflt (Sf ((c.2.2.2.2.2.2.2.2.2.2.2.1.1,(c.2.2.2.2.2.2.2.2.2.2.2.1.2.1,(c.2.2.2.2.2.2.2.2.2.2.2.1.2.2.1,(c.2.2.2.2.2.2.2.2.2.2.2.1.2.2.2.1,(c.2.2.2.2.2.2.2.2.2.2.2.1.2.2.2.2.1,((),())))))),(c.2.2.2.2.1,v.2))) (fun u8=>aF (xG ((),((),((),(v.1,(c.2.2.2.1,(c.2.2.2.2.1,(v.2.1,((c.2.2.2.2.2.2.2.1.g (Int.toNat v.2.1)).1,((),(c.2.2.2.2.2.1,(c.2.2.2.2.2.2.1,(c.2.2.2.2.2.2.2.1,(c.2.2.2.2.2.2.2.2.1,(v.2.1,(u8.1,(c.2.2.2.2.2.2.2.2.2.1,(c.2.2.2.2.2.2.2.2.2.2.1,(c.2.2.2.2.2.2.2.2.2.2.2.1,((((c.2.2.2.2.2.2.2.2.2.2.1.2.1.g (Int.toNat c.2.2.2.2.1)).1.g (Int.toNat v.2.1)).1,(((c.2.2.2.2.2.2.2.2.2.2.1.2.2.1.g (Int.toNat c.2.2.2.2.1)).1.g (Int.toNat v.2.1)).1,((c.2.2.2.2.2.2.2.2.2.2.1.2.2.2.1.g (Int.toNat c.2.2.2.2.1)).1.g (Int.toNat v.2.1)))),()))))))))))))))))))) ((0:Int),())) 10 (fun u9=>bif (decide (c.2.2.2.2.1=(0:Int))) then l (.next (v.1,((W (v.2.1 + (1:Int))),()))) else bif (decide ((c.2.2.2.2.2.2.2.1.g (Int.toNat v.2.1)).1 < (0:Int))) then l (.next ((W (v.1 + (1:Int))),((W (v.2.1 + (1:Int))),()))) else bif (decide (((0:Int)<=(W (c.2.2.2.2.1 - (1:Int))))/\((W (c.2.2.2.2.1 - (1:Int))) < ((c.2.2.2.2.2.2.2.2.2.2.1.2.1.n:Nat):Int)))) then bif (decide (((0:Int)<=(c.2.2.2.2.2.2.2.1.g (Int.toNat v.2.1)).1)/\((c.2.2.2.2.2.2.2.1.g (Int.toNat v.2.1)).1 < (((c.2.2.2.2.2.2.2.2.2.2.1.2.1.g (Int.toNat (W (c.2.2.2.2.1 - (1:Int))))).1.n:Nat):Int)))) then bif (decide (((0:Int)<=(W (c.2.2.2.2.1 - (1:Int))))/\((W (c.2.2.2.2.1 - (1:Int))) < ((c.2.2.2.2.2.2.2.2.2.2.1.2.2.1.n:Nat):Int)))) then bif (decide (((0:Int)<=(c.2.2.2.2.2.2.2.1.g (Int.toNat v.2.1)).1)/\((c.2.2.2.2.2.2.2.1.g (Int.toNat v.2.1)).1 < (((c.2.2.2.2.2.2.2.2.2.2.1.2.2.1.g (Int.toNat (W (c.2.2.2.2.1 - (1:Int))))).1.n:Nat):Int)))) then bif (decide (((0:Int)<=(W (c.2.2.2.2.1 - (1:Int))))/\((W (c.2.2.2.2.1 - (1:Int))) < ((c.2.2.2.2.2.2.2.2.2.2.1.2.2.2.1.n:Nat):Int)))) then bif (decide (((0:Int)<=(c.2.2.2.2.2.2.2.1.g (Int.toNat v.2.1)).1)/\((c.2.2.2.2.2.2.2.1.g (Int.toNat v.2.1)).1 < (((c.2.2.2.2.2.2.2.2.2.2.1.2.2.2.1.g (Int.toNat (W (c.2.2.2.2.1 - (1:Int))))).1.n:Nat):Int)))) then cl (Wb).dflt (WG ((c.2.2.2.2.2.2.2.2.2.2.2.1.1,(c.2.2.2.2.2.2.2.2.2.2.2.1.2.1,(c.2.2.2.2.2.2.2.2.2.2.2.1.2.2.1,(c.2.2.2.2.2.2.2.2.2.2.2.1.2.2.2.1,(c.2.2.2.2.2.2.2.2.2.2.2.1.2.2.2.2.1,((),())))))),(c.2.2.2.2.1,()))) (fun vD=>cl (r95).dflt (M95 ((c.2.2.2.2.2.2.2.2.2.2.2.1.1,(c.2.2.2.2.2.2.2.2.2.2.2.1.2.1,(c.2.2.2.2.2.2.2.2.2.2.2.1.2.2.1,(c.2.2.2.2.2.2.2.2.2.2.2.1.2.2.2.1,(c.2.2.2.2.2.2.2.2.2.2.2.1.2.2.2.2.1,((),())))))),vD)) (fun lM=>aF (AJ ((),((),((),(v.1,(c.2.2.2.1,(c.2.2.2.2.1,(v.2.1,((c.2.2.2.2.2.2.2.1.g (Int.toNat v.2.1)).1,((),((),(c.2.2.2.2.2.1,(c.2.2.2.2.2.2.1,(c.2.2.2.2.2.2.2.1,(c.2.2.2.2.2.2.2.2.1,(v.2.1,(lM.1,(c.2.2.2.2.2.2.2.2.2.1,(c.2.2.2.2.2.2.2.2.2.2.1,(c.2.2.2.2.2.2.2.2.2.2.2.1,((((c.2.2.2.2.2.2.2.2.2.2.1.2.1.g (Int.toNat c.2.2.2.2.1)).1.g (Int.toNat v.2.1)).1,(((c.2.2.2.2.2.2.2.2.2.2.1.2.2.1.g (Int.toNat c.2.2.2.2.1)).1.g (Int.toNat v.2.1)).1,((c.2.2.2.2.2.2.2.2.2.2.1.2.2.2.1.g (Int.toNat c.2.2.2.2.1)).1.g (Int.toNat v.2.1)))),((((c.2.2.2.2.2.2.2.2.2.2.1.2.1.g (Int.toNat (W (c.2.2.2.2.1 - (1:Int))))).1.g (Int.toNat (c.2.2.2.2.2.2.2.1.g (Int.toNat v.2.1)).1)).1,(((c.2.2.2.2.2.2.2.2.2.2.1.2.2.1.g (Int.toNat (W (c.2.2.2.2.1 - (1:Int))))).1.g (Int.toNat (c.2.2.2.2.2.2.2.1.g (Int.toNat v.2.1)).1)).1,((c.2.2.2.2.2.2.2.2.2.2.1.2.2.2.1.g (Int.toNat (W (c.2.2.2.2.1 - (1:Int))))).1.g (Int.toNat (c.2.2.2.2.2.2.2.1.g (Int.toNat v.2.1)).1)))),()))))))))))))))))))))) ((0:Int),())) 12 (fun MA=>bif (decide (((0:Int)<=c.2.2.2.2.1)/\(c.2.2.2.2.1 < ((c.2.2.2.2.2.2.2.2.2.2.1.1.n:Nat):Int)))) then bif (decide (((0:Int)<=(0:Int))/\(((0:Int)<=v.2.1)/\(v.2.1<=(((c.2.2.2.2.2.2.2.2.2.2.1.1.g (Int.toNat c.2.2.2.2.1)).1.n:Nat):Int))))) then cl (WX).dflt (XA ((⟨(Int.toNat (v.2.1 - (0:Int))),fun i=>((c.2.2.2.2.2.2.2.2.2.2.1.1.g (Int.toNat c.2.2.2.2.1)).1.g (i + 0))⟩:Sl _),(c.2.2.2.2.2.2.2.1.g (Int.toNat v.2.1)))) (fun Df=>bif Df.1 then l (.out (.ret (false,((0:Int),())))) else l (.next (v.1,((W (v.2.1 + (1:Int))),())))) (l .bad) else l .bad else l .bad) (bS (AJ ((),((),((),(v.1,(c.2.2.2.1,(c.2.2.2.2.1,(v.2.1,((c.2.2.2.2.2.2.2.1.g (Int.toNat v.2.1)).1,((),((),(c.2.2.2.2.2.1,(c.2.2.2.2.2.2.1,(c.2.2.2.2.2.2.2.1,(c.2.2.2.2.2.2.2.2.1,(v.2.1,(lM.1,(c.2.2.2.2.2.2.2.2.2.1,(c.2.2.2.2.2.2.2.2.2.2.1,(c.2.2.2.2.2.2.2.2.2.2.2.1,((((c.2.2.2.2.2.2.2.2.2.2.1.2.1.g (Int.toNat c.2.2.2.2.1)).1.g (Int.toNat v.2.1)).1,(((c.2.2.2.2.2.2.2.2.2.2.1.2.2.1.g (Int.toNat c.2.2.2.2.1)).1.g (Int.toNat v.2.1)).1,((c.2.2.2.2.2.2.2.2.2.2.1.2.2.2.1.g (Int.toNat c.2.2.2.2.1)).1.g (Int.toNat v.2.1)))),((((c.2.2.2.2.2.2.2.2.2.2.1.2.1.g (Int.toNat (W (c.2.2.2.2.1 - (1:Int))))).1.g (Int.toNat (c.2.2.2.2.2.2.2.1.g (Int.toNat v.2.1)).1)).1,(((c.2.2.2.2.2.2.2.2.2.2.1.2.2.1.g (Int.toNat (W (c.2.2.2.2.1 - (1:Int))))).1.g (Int.toNat (c.2.2.2.2.2.2.2.1.g (Int.toNat v.2.1)).1)).1,((c.2.2.2.2.2.2.2.2.2.2.1.2.2.2.1.g (Int.toNat (W (c.2.2.2.2.1 - (1:Int))))).1.g (Int.toNat (c.2.2.2.2.2.2.2.1.g (Int.toNat v.2.1)).1)))),()))))))))))))))))))))) ((0:Int),())) (fun PX=>l (.out (.ret PX))) (l .bad))) (l .bad)) (l .bad) else l .bad else l .bad else l .bad else l .bad else l .bad else l .bad) (bS (xG ((),((),((),(v.1,(c.2.2.2.1,(c.2.2.2.2.1,(v.2.1,((c.2.2.2.2.2.2.2.1.g (Int.toNat v.2.1)).1,((),(c.2.2.2.2.2.1,(c.2.2.2.2.2.2.1,(c.2.2.2.2.2.2.2.1,(c.2.2.2.2.2.2.2.2.1,(v.2.1,(u8.1,(c.2.2.2.2.2.2.2.2.2.1,(c.2.2.2.2.2.2.2.2.2.2.1,(c.2.2.2.2.2.2.2.2.2.2.2.1,((((c.2.2.2.2.2.2.2.2.2.2.1.2.1.g (Int.toNat c.2.2.2.2.1)).1.g (Int.toNat v.2.1)).1,(((c.2.2.2.2.2.2.2.2.2.2.1.2.2.1.g (Int.toNat c.2.2.2.2.1)).1.g (Int.toNat v.2.1)).1,((c.2.2.2.2.2.2.2.2.2.2.1.2.2.2.1.g (Int.toNat c.2.2.2.2.1)).1.g (Int.toNat v.2.1)))),()))))))))))))))))))) ((0:Int),())) (fun PB=>l (.out (.ret PB))) (l .bad))) (l .bad) else l .bad else l .bad else l .bad else l .bad else l .bad else l .bad else l .bad else l (.out (.exit 8 (v.1,())))
theorem ayM:ZO G52 0 242 OQ [.known (bF 0 [] Gd fun x=>aJ AH LP ZI ZI [] true (xu x).1 (xG (xu x).1 (xu x).2) AH.bw),.known (bF 0 [] Ge fun x=>aJ AI LR ZI ZI [] true (xw x).1 (AJ (xw x).1 (xw x).2) AI.bw)] afb Uz ZI ZI UA:=fun _ _=>by kernel_rfl
def OU (c:ZD BT) (v:ZD sO):RQ sO uV:=UA (fun r=>r) (fun _ _=>.bad) c v
theorem ayN:SO G52 0 242 OQ [.known (bF 0 [] Gd fun x=>aJ AH LP ZI ZI [] true (xu x).1 (xG (xu x).1 (xu x).2) AH.bw),.known (bF 0 [] Ge fun x=>aJ AI LR ZI ZI [] true (xw x).1 (AJ (xw x).1 (xw x).2) AI.bw)] afb Uz ZI ZI OU:=fun c v=>by rw [ayM]; unfold OU UA; simp only [bu,aM,pM]
def UB (c:ZD BT) (v:ZD sO):LQ uV:=aH (OU c) cz v
noncomputable def Yr:Code:=aG ((af (acD))[1]?)
theorem as6:af (Yr)=[]:=by kernel_rfl
abbrev BU:List aL:=[.slot 2 (.ptr 2),.slot 3 (.ptr 3),.slot 13 (.ptr 17),.slot 14 (.pc tI),.slot 16 (.pc tI),.slot 83 (.pc tI),.slot 84 (.pc tI),.slot 216 (.pc tI),.box 2 [.pc eX,.pc tI,.pc tI,.pc tI,.pc tI],.box 3 [.pc ec,.pc ec,.pc ec,.pc ec],.box 17 [.pc eX,.pc tI,.pc tI,.pc tI,.pc tI,.pc ec]]
abbrev mN:List aL:=[.slot 15 (.pc tI),.slot 217 (.pc tI)]
abbrev Ol:List aL:=BU ++ mN
def afc:ZJ BU mN Ol:=ZA _ _
def Gg:ZS BU mN Ol:=ZP _ _
abbrev Kc:aO:=⟨[(14,[.slot 2 (.ptr 2),.slot 3 (.ptr 3),.slot 13 (.ptr 17),.slot 14 (.pc tI),.slot 83 (.pc tI),.slot 84 (.pc tI),.box 2 [.pc eX,.pc tI,.pc tI,.pc tI,.pc tI],.box 3 [.pc ec,.pc ec,.pc ec,.pc ec],.box 17 [.pc eX,.pc tI,.pc tI,.pc tI,.pc tI,.pc ec],.slot 15 (.pc tI)])],[],[]⟩
abbrev Gi:aO:=⟨[(14,[.slot 15 (.pc tI)])],[],[]⟩
def UC:ZE BU Gi Kc:=fun id=>match id with | 14=>fun c y=>(c.1,(c.2.1,(c.2.2.1,(c.2.2.2.1,(c.2.2.2.2.2.1,(c.2.2.2.2.2.2.1,(c.2.2.2.2.2.2.2.2.1,(c.2.2.2.2.2.2.2.2.2.1,(c.2.2.2.2.2.2.2.2.2.2.1,y))))))))) | _=>jm
def UD {α:Type} (l:RQ mN Gi->α) (an:α->α->α) (c:ZD BU) (v:ZD mN):α:=bif (decide (v.2.1 < c.2.2.2.2.2.2.2.1)) then bif (decide (((0:Int)<=c.2.2.2.2.1)/\(c.2.2.2.2.1 < ((c.2.2.2.2.2.2.2.2.2.1.1.n:Nat):Int)))) then cl (WX).dflt (XA ((c.2.2.2.2.2.2.2.2.2.1.1.g (Int.toNat c.2.2.2.2.1)).1,v.2)) (fun u16=>bif (!u16.1) then l (.next ((W (v.1 + (1:Int))),((W (v.2.1 + (1:Int))),()))) else l (.next (v.1,((W (v.2.1 + (1:Int))),())))) (l .bad) else l .bad else l (.out (.exit 14 (v.1,())))
theorem ayO:ZO G52 0 242 Yr [] afc UC ZI ZI UD:=fun _ _=>by kernel_rfl
def UE (c:ZD BU) (v:ZD mN):RQ mN Gi:=UD (fun r=>r) (fun _ _=>.bad) c v
theorem ayP:SO G52 0 242 Yr [] afc UC ZI ZI UE:=fun c v=>by rw [ayO]; unfold UE UD; simp only [bu,aM,pM]
def UF (c:ZD BU) (v:ZD mN):LQ Gi:=aH (UE c) cz v
theorem aDC:af (acD)=[.loop OQ,.loop Yr]:=by kernel_rfl
abbrev Om:List aL:=[.slot 2 (.ptr 2),.slot 3 (.ptr 3),.slot 13 (.ptr 17),.slot 83 (.pc tI),.box 2 [.pc eX,.pc tI,.pc tI,.pc tI,.pc tI],.box 3 [.pc ec,.pc ec,.pc ec,.pc ec],.box 17 [.pc eX,.pc tI,.pc tI,.pc tI,.pc tI,.pc ec]]
abbrev zm:List aL:=[.slot 14 (.pc tI),.slot 15 (.pc tI),.slot 84 (.pc tI)]
abbrev ahz:List aL:=Om ++ zm
def as7:ZJ Om zm ahz:=ZA _ _
def akF:ZS Om zm ahz:=ZP _ _
abbrev akG:aO:=⟨[(6,[.slot 2 (.ptr 2),.box 2 [.pc eX,.pc tI,.pc tI,.pc tI,.pc tI],.slot 14 (.pc tI),.slot 15 (.pc tI)])],[.slot 4 (.pc .bool),.slot 5 (.pc tI)],[]⟩
abbrev IS:aO:=⟨[(6,[.slot 14 (.pc tI),.slot 15 (.pc tI)])],[.slot 4 (.pc .bool),.slot 5 (.pc tI)],[]⟩
def akH:ZE Om IS akG:=fun id=>match id with | 6=>fun c y=>(c.1,(c.2.2.2.2.1,y)) | _=>jm
def ahA {α:Type} (l:RQ zm IS->α) (an:α->α->α) (c:ZD Om) (v:ZD zm):α:=bif (decide (v.2.2.1 < c.2.2.2.1)) then bif (decide (((0:Int)<=v.2.2.1)/\(v.2.2.1 < ((c.2.2.2.2.2.1.1.n:Nat):Int)))) then aF (UB ((),((),((),(v.2.1,(v.2.2.1,(c.2.2.2.1,(v.2.2.1,((c.2.2.2.2.2.1.1.g (Int.toNat v.2.2.1)).1,((((c.2.2.2.2.2.1.1.g (Int.toNat v.2.2.1)).1.n:Nat):Int),(c.2.2.2.2.1,(c.2.2.2.2.2.1,(c.2.2.2.2.2.2.1,())))))))))))) (v.1,((0:Int),()))) 8 (fun Wf=>bif (decide (v.2.2.1=(0:Int))) then l (.next (Wf.1,(v.2.1,((W (v.2.2.1 + (1:Int))),())))) else bif (decide (((0:Int)<=(W (v.2.2.1 - (1:Int))))/\((W (v.2.2.1 - (1:Int))) < ((c.2.2.2.2.1.1.n:Nat):Int)))) then aF (UF ((),((),((),(Wf.1,(v.2.2.1,(c.2.2.2.1,(v.2.2.1,((((c.2.2.2.2.1.1.g (Int.toNat (W (v.2.2.1 - (1:Int))))).2.1.n:Nat):Int),(c.2.2.2.2.1,(c.2.2.2.2.2.1,(c.2.2.2.2.2.2.1,()))))))))))) (v.2.1,((0:Int),()))) 14 (fun VP=>l (.next (Wf.1,(VP.1,((W (v.2.2.1 + (1:Int))),()))))) (l .bad) else l .bad) (bS (UB ((),((),((),(v.2.1,(v.2.2.1,(c.2.2.2.1,(v.2.2.1,((c.2.2.2.2.2.1.1.g (Int.toNat v.2.2.1)).1,((((c.2.2.2.2.2.1.1.g (Int.toNat v.2.2.1)).1.n:Nat):Int),(c.2.2.2.2.1,(c.2.2.2.2.2.1,(c.2.2.2.2.2.2.1,())))))))))))) (v.1,((0:Int),()))) (fun UO=>l (.out (.ret UO))) (l .bad)) else l .bad else l (.out (.exit 6 (v.1,(v.2.1,()))))
theorem aIR:ZO G52 0 242 acD [.known (bF 0 [] Oj fun x=>aJ Kb Uz ZI ZI [] true (Gf x).1 (UB (Gf x).1 (Gf x).2) Kb.bw),.known (bF 0 [] Ol fun x=>aJ Kc UC ZI ZI [] false (Gg x).1 (UF (Gg x).1 (Gg x).2) Kc.bw)] as7 akH ZI ZI ahA:=fun _ _=>by kernel_rfl
def acE (c:ZD Om) (v:ZD zm):RQ zm IS:=ahA (fun r=>r) (fun _ _=>.bad) c v
theorem aIS:SO G52 0 242 acD [.known (bF 0 [] Oj fun x=>aJ Kb Uz ZI ZI [] true (Gf x).1 (UB (Gf x).1 (Gf x).2) Kb.bw),.known (bF 0 [] Ol fun x=>aJ Kc UC ZI ZI [] false (Gg x).1 (UF (Gg x).1 (Gg x).2) Kc.bw)] as7 akH ZI ZI acE:=fun c v=>by rw [aIR]; unfold acE ahA; simp only [bu,aM,pM]
def anp (c:ZD Om) (v:ZD zm):LQ IS:=aH (acE c) cz v
theorem aSw:af (c52)=[.loop ano,.loop ahu,.loop acD]:=by kernel_rfl
noncomputable def l52:List Loop:=[lk 0 akz ZI ZI true akx aht,lk 0 akC ZI ZI true akA ahy,lk 0 akH ZI ZI true akF anp]
def Q52 {α:Type} (l:Option (r52).den->α) (an:α->α->α) (x:(a52).den):α:=cl (Wa).dflt (WW (x.1,())) (fun u20=>bif (!u20.1) then l (some (false,((2:Int),()))) else aF (aht ((),((),(x.2.1,(x.1,(x.2.1,()))))) ((0:Int),())) 0 (fun u21=>aF (ahy ((),((),(x.2.1.1,(((x.2.1.1.n:Nat):Int),(x.1,(x.2.1,())))))) ((0:Int),())) 2 (fun u22=>aF (anp ((),((),((),(((x.1.1.n:Nat):Int),(x.1,(x.2.1,((x.1.1,(x.1.2.1,(x.1.2.2.1,(x.1.2.2.2.1,(x.1.2.2.2.2.1,(x.2.1.1,())))))),()))))))) ((0:Int),((0:Int),((0:Int),())))) 6 (fun Dh=>bif (decide (Dh.1<=x.1.2.2.2.1)) then l (some ((decide (Dh.2.1<=x.1.2.2.2.2.1)),((0:Int),()))) else l (some (false,((0:Int),())))) (bS (anp ((),((),((),(((x.1.1.n:Nat):Int),(x.1,(x.2.1,((x.1.1,(x.1.2.1,(x.1.2.2.1,(x.1.2.2.2.1,(x.1.2.2.2.2.1,(x.2.1.1,())))))),()))))))) ((0:Int),((0:Int),((0:Int),())))) (fun Xd=>l (some Xd)) (l none))) (bS (ahy ((),((),(x.2.1.1,(((x.2.1.1.n:Nat):Int),(x.1,(x.2.1,())))))) ((0:Int),())) (fun WL=>l (some WL)) (l none))) (bS (aht ((),((),(x.2.1,(x.1,(x.2.1,()))))) ((0:Int),())) (fun Xo=>l (some Xo)) (l none))) (l none)
theorem q52:QO G52 Try.f52 l52 a52 r52 Q52:=fun _=>by kernel_rfl
def M52 (x:(a52).den):Option (r52).den:=Q52 (fun r=>r) (fun _ _=>none) x
theorem m52:MO G52 Try.f52 l52 M52:=fun x=>by rw [q52]; unfold M52 Q52; simp only [Tree.sure,iO]
def p52:=pO M52
def v52:=vO (τ:=r52) M52
def k52:ee:=⟨a52,r52,p52,v52⟩
theorem h52:Holds Try.prog 52 k52:=hO aGp g52 m52 fun G' hlo hF hE=>ai (by rw [aSw]; exact .cons (lv hE hF hlo (ln aDA) akx aIO) (.cons (lv hE hF hlo (ai (by rw [aDB]; exact .cons (lv hE hF hlo (ln as3) Ga ayL) (.nil))) akA aIQ) (.cons (lv hE hF hlo (ai (by rw [aDC]; exact .cons (lv hE hF hlo (ai (by rw [as5]; exact .cons (lv hE hF hlo (ln akD) xu aoI) (.cons (lv hE hF hlo (ln akE) xw aoK) (.nil)))) Gf ayN) (.cons (lv hE hF hlo (ln as6) Gg ayP) (.nil)))) akF aIS) (.nil))))
noncomputable def c53:=zo Try.f53
theorem aVV:zq 53 Try.f53 c53:=zu
abbrev ayt:Ty:=(.cons tI T20)
abbrev a53:Ty:=ayt
abbrev r53:Ty:=T3
noncomputable def G53:Ctx:=Ctx.of []
theorem g53:SP G53:=aD f0
def Q53 {α:Type} (l:Option (r53).den->α) (an:α->α->α) (x:(a53).den):α:=bif (decide (x.2.1.1<=x.1)) then l (some ((decide (x.1<=x.2.1.2.1)),())) else l (some (false,()))
theorem q53:QO G53 Try.f53 [] a53 r53 Q53:=fun _=>by kernel_rfl
def M53 (x:(a53).den):Option (r53).den:=Q53 (fun r=>r) (fun _ _=>none) x
theorem m53:MO G53 Try.f53 [] M53:=fun x=>by rw [q53]; unfold M53 Q53; simp only [Tree.sure,iO]
def p53:=pO M53
def v53:=vO (τ:=r53) M53
def k53:ee:=⟨a53,r53,p53,v53⟩
theorem h53:Holds Try.prog 53 k53:=hO aVV g53 m53 l0
noncomputable def c57:=zo Try.f57
theorem aZM:zq 57 Try.f57 c57:=zu
abbrev a57:Ty:=T85
abbrev r57:Ty:=T3
noncomputable def G57:Ctx:=Ctx.of []
theorem g57:SP G57:=aD f0
def Q57 {α:Type} (l:Option (r57).den->α) (an:α->α->α) (x:(a57).den):α:=bif (decide ((1:Int)<=x.1)) then bif (decide (x.1<=(3:Int))) then bif (!(decide (x.1=(3:Int)))) then bif (!(decide (x.1=(1:Int)))) then l (some (true,())) else l (some ((!x.2.1),())) else bif x.2.1 then bif (!(decide (x.1=(1:Int)))) then l (some (true,())) else l (some ((!x.2.1),())) else l (some (false,())) else l (some (false,())) else l (some (false,()))
theorem q57:QO G57 Try.f57 [] a57 r57 Q57:=fun _=>by kernel_rfl
def M57 (x:(a57).den):Option (r57).den:=Q57 (fun r=>r) (fun _ _=>none) x
theorem m57:MO G57 Try.f57 [] M57:=fun x=>by rw [q57]; unfold M57 Q57; simp only [Tree.sure,iO]
def p57:=pO M57
def v57:=vO (τ:=r57) M57
def k57:ee:=⟨a57,r57,p57,v57⟩
theorem h57:Holds Try.prog 57 k57:=hO aZM g57 m57 l0
noncomputable def c58:=zo Try.f58
theorem aZQ:zq 58 Try.f58 c58:=zu
abbrev a58:Ty:=aGf
abbrev r58:Ty:=nK
noncomputable def G58:Ctx:=Ctx.of [(73,.pure k73)]
theorem g58:SP G58:=aD (fa ⟨⟨aj5.c,h73⟩,f0⟩)
noncomputable def aAx:Code:=aG ((af (c58))[0]?)
noncomputable def apY:Code:=aG ((af (aAx))[0]?)
theorem aJJ:af (apY)=[]:=by kernel_rfl
abbrev aa1:List aL:=[.slot 0 (.pc ec),.slot 1 (.pc tI),.slot 7 (.own 70 3 T0)]
abbrev WE:List aL:=[.slot 8 (.pc tI)]
abbrev anT:List aL:=aa1 ++ WE
def aFr:ZJ aa1 WE anT:=ZA _ _
def aa2:ZS aa1 WE anT:=ZP _ _
abbrev ah4:aO:=⟨[(2,[.slot 0 (.pc ec),.slot 1 (.pc tI),.slot 7 (.own 70 3 T0)])],[],[]⟩
abbrev anU:aO:=⟨[(2,[.slot 7 (.own 70 3 T0)])],[],[]⟩
def anV:ZE aa1 anU ah4:=fun id=>match id with | 2=>fun c y=>(c.1,(c.2.1,y)) | _=>jm
def ay4 {α:Type} (l:RQ WE anU->α) (an:α->α->α) (c:ZD aa1) (v:ZD WE):α:=bif (decide (((0:Int)<=c.2.1)/\(c.2.1 < ((c.1.n:Nat):Int)))) then bif (decide (v.1 < (((c.1.g (Int.toNat c.2.1)).1.n:Nat):Int))) then bif (decide (((0:Int)<=c.2.1)/\(c.2.1 < ((c.1.n:Nat):Int)))) then bif (decide (((0:Int)<=v.1)/\(v.1 < (((c.1.g (Int.toNat c.2.1)).1.n:Nat):Int)))) then bif (decide (((0:Int)<=(W (((c.2.2.1.n:Nat):Int) - (1:Int))))/\((W (((c.2.2.1.n:Nat):Int) - (1:Int))) < ((c.2.2.1.n:Nat):Int)))) then bif (decide (((c.1.g (Int.toNat c.2.1)).1.g (Int.toNat v.1)).1=(c.2.2.1.g (Int.toNat (W (((c.2.2.1.n:Nat):Int) - (1:Int))))).1)) then bif (decide (((c.2.2.1.n + 1) * 8)<=140737488355328)) then l (.out (.exit 2 ((cK c.2.2.1 (⟨1,fun i=>List.getD [v] i v⟩:Sl (Ty.den T0))),()))) else l .bad else l (.next ((W (v.1 + (1:Int))),())) else l .bad else l .bad else l .bad else l (.out (.exit 2 c.2.2)) else l .bad
theorem aPf:ZO G58 0 60 apY [] aFr anV ZI ZI ay4:=fun _ _=>by kernel_rfl
def ay5 (c:ZD aa1) (v:ZD WE):RQ WE anU:=ay4 (fun r=>r) (fun _ _=>.bad) c v
theorem aPg:SO G58 0 60 apY [] aFr anV ZI ZI ay5:=fun c v=>by rw [aPf]; unfold ay5 ay4; simp only [bu,aM,pM]
def ay6 (c:ZD aa1) (v:ZD WE):LQ anU:=aH (ay5 c) cz v
theorem aTk:af (aAx)=[.loop apY]:=by kernel_rfl
abbrev ak9:List aL:=[.slot 0 (.pc ec)]
abbrev ah5:List aL:=[.slot 1 (.pc tI),.slot 7 (.own 70 3 T0)]
abbrev aJK:List aL:=ak9 ++ ah5
def aQf:ZJ ak9 ah5 aJK:=ZA _ _
def aJL:ZS ak9 ah5 aJK:=ZP _ _
abbrev aTl:aO:=⟨[(0,[.slot 7 (.pc (.sl T0))])],[],[]⟩
abbrev ay7:aO:=⟨[(0,[.slot 7 (.pc (.sl T0))])],[],[]⟩
def aD3:ZE ak9 ay7 aTl:=fun id=>match id with | 0=>fun c y=>y | _=>jm
def aJM {α:Type} (l:RQ ah5 ay7->α) (an:α->α->α) (c:ZD ak9) (v:ZD ah5):α:=bif (decide ((W (v.1 + (1:Int))) < ((c.1.n:Nat):Int))) then bif (decide (((0:Int)<=(W (v.1 + (1:Int))))/\((W (v.1 + (1:Int))) < ((c.1.n:Nat):Int)))) then bif (decide (((0:Int)<=(W (((v.2.1.n:Nat):Int) - (1:Int))))/\((W (((v.2.1.n:Nat):Int) - (1:Int))) < ((v.2.1.n:Nat):Int)))) then cl (r73).dflt (M73 ((c.1.g (Int.toNat (W (v.1 + (1:Int))))).1,(v.2.1.g (Int.toNat (W (((v.2.1.n:Nat):Int) - (1:Int))))))) (fun u0=>bif u0.1 then aF (ay6 (c.1,((W (v.1 + (1:Int))),v.2)) ((0:Int),())) 2 (fun u1=>l (.next ((W (v.1 + (1:Int))),u1))) (l .bad) else l (.out (.exit 0 v.2))) (l .bad) else l .bad else l .bad else l (.out (.exit 0 v.2))
theorem aVY:ZO G58 0 60 aAx [.known (bF 0 [] anT fun x=>aJ ah4 anV ZI ZI [] false (aa2 x).1 (ay6 (aa2 x).1 (aa2 x).2) ah4.bw)] aQf aD3 ZI ZI aJM:=fun _ _=>by kernel_rfl
def aJN (c:ZD ak9) (v:ZD ah5):RQ ah5 ay7:=aJM (fun r=>r) (fun _ _=>.bad) c v
theorem aVZ:SO G58 0 60 aAx [.known (bF 0 [] anT fun x=>aJ ah4 anV ZI ZI [] false (aa2 x).1 (ay6 (aa2 x).1 (aa2 x).2) ah4.bw)] aQf aD3 ZI ZI aJN:=fun c v=>by rw [aVY]; unfold aJN aJM; simp only [bu,aM,pM]
def aQg (c:ZD ak9) (v:ZD ah5):LQ ay7:=aH (aJN c) cz v
theorem aZR:af (c58)=[.loop aAx]:=by kernel_rfl
noncomputable def l58:List Loop:=[lk 0 aD3 ZI ZI false aJL aQg]
def Q58 {α:Type} (l:Option (r58).den->α) (an:α->α->α) (x:(a58).den):α:=aF (aQg (x.1,()) (x.2.1,((⟨1,fun i=>List.getD [x.2.2] i x.2.2⟩:Sl _),()))) 0 (fun u2=>l (some u2)) (l none)
theorem q58:QO G58 Try.f58 l58 a58 r58 Q58:=fun _=>by kernel_rfl
def M58 (x:(a58).den):Option (r58).den:=Q58 (fun r=>r) (fun _ _=>none) x
theorem m58:MO G58 Try.f58 l58 M58:=fun x=>by rw [q58]; unfold M58 Q58; simp only [Tree.sure,iO]
def p58:=pO M58
def v58:=vO (τ:=r58) M58
def k58:ee:=⟨a58,r58,p58,v58⟩
theorem h58:Holds Try.prog 58 k58:=hO aZQ g58 m58 fun G' hlo hF hE=>ai (by rw [aZR]; exact .cons (lv hE hF hlo (ai (by rw [aTk]; exact .cons (lv hE hF hlo (ln aJJ) aa2 aPg) (.nil))) aJL aVZ) (.nil))
noncomputable def c17:=zo Try.f17
theorem acz:zq 17 Try.f17 c17:=zu
abbrev a17:Ty:=.nil
abbrev nQ:Ty:=T3
noncomputable def G17:Ctx:=Ctx.of [(18,.pure k18),(19,.pure k19),(20,.pure k20),(23,.pure k23),(28,.pure k28),(36,.pure k36),(39,.pure k39),(40,.pure k40),(41,.pure k41),(43,.pure k43),(44,.pure k44),(48,.pure k48),(62,.pure k62)]
theorem g17:SP G17:=aD (fa ⟨⟨alY.c,h18⟩,fa ⟨⟨al3.c,h19⟩,fa ⟨⟨aoA.c,h20⟩,fa ⟨⟨apm.c,h23⟩,fa ⟨⟨ajW.c,h28⟩,fa ⟨⟨apo.c,h36⟩,fa ⟨⟨apr.c,h39⟩,fa ⟨⟨apq.c,h40⟩,fa ⟨⟨aue.c,h41⟩,fa ⟨⟨ar6.c,h43⟩,fa ⟨⟨aiD.c,h44⟩,fa ⟨⟨agY.c,h48⟩,fa ⟨⟨aui.c,h62⟩,f0⟩⟩⟩⟩⟩⟩⟩⟩⟩⟩⟩⟩⟩)
theorem ayv:af (c17)=[]:=by kernel_rfl
noncomputable def l17:List Loop:=[]
def Q17 {α:Type} (l:Option (nQ).den->α) (an:α->α->α) (x:(a17).den):α:=cl (vN).dflt (OM ()) (fun u0=>cl (MF).dflt (XV (u0.1,((1:Int),()))) (fun u1=>cl (vN).dflt (OM ()) (fun u2=>cl (OK).dflt (M19 (u0.1,())) (fun u3=>cl (vN).dflt (OM ()) (fun u4=>cl (Pz).dflt (M20 (u0.1,())) (fun u5=>cl (vN).dflt (OM ()) (fun u6=>cl (Re).dflt (M39 (u0.1,((0:Int),((0:Int),())))) (fun u7=>cl (vN).dflt (OM ()) (fun u8=>cl (PE).dflt (M36 (u0.1,((1:Int),((0:Int),())))) (fun u9=>cl (vN).dflt (OM ()) (fun vD=>cl (Rc).dflt (M43 (u0.1,((0:Int),((3:Int),())))) (fun lM=>cl (vN).dflt (OM ()) (fun MA=>cl (Rb).dflt (M40 (u0.1,())) (fun Df=>cl (vN).dflt (OM ()) (fun PX=>cl (OB).dflt (VO (u0.1,())) (fun PB=>bif (!(decide (u1.2.1=(0:Int)))) then l (some (false,())) else bif (!(decide (u3.2.1=(0:Int)))) then l (some (false,())) else bif (!(decide (u5.2.1=(0:Int)))) then l (some (false,())) else bif (!(decide (u7.2.1=(0:Int)))) then l (some (false,())) else bif (!(decide (u9.2.1=(0:Int)))) then l (some (false,())) else bif (!(decide (lM.2.1=(0:Int)))) then l (some (false,())) else bif (!(decide (Df.2.2.1=(0:Int)))) then l (some (false,())) else bif (!(decide (PB.2.1=(0:Int)))) then l (some (false,())) else cl (IN).dflt (VN (u1.1,((⟨2,fun i=>List.getD [((⟨2,fun i=>List.getD [((3:Int),()),((1:Int),())] i ((3:Int),())⟩:Sl _),()),((⟨2,fun i=>List.getD [((1:Int),()),((3:Int),())] i ((1:Int),())⟩:Sl _),())] i ((⟨2,fun i=>List.getD [((3:Int),()),((1:Int),())] i ((3:Int),())⟩:Sl _),())⟩:Sl _),()))) (fun u16=>bif (!u16.1) then l (some (false,())) else cl (IN).dflt (VN (u3.1,((⟨2,fun i=>List.getD [((⟨2,fun i=>List.getD [((1:Int),()),((1:Int),())] i ((1:Int),())⟩:Sl _),()),((⟨1,fun i=>List.getD [((1:Int),())] i ((1:Int),())⟩:Sl _),())] i ((⟨2,fun i=>List.getD [((1:Int),()),((1:Int),())] i ((1:Int),())⟩:Sl _),())⟩:Sl _),()))) (fun Wf=>bif (!Wf.1) then l (some (false,())) else cl (IN).dflt (VN (u5.1,((⟨2,fun i=>List.getD [((⟨2,fun i=>List.getD [((1:Int),()),((1:Int),())] i ((1:Int),())⟩:Sl _),()),((⟨2,fun i=>List.getD [((2:Int),()),((2:Int),())] i ((2:Int),())⟩:Sl _),())] i ((⟨2,fun i=>List.getD [((1:Int),()),((1:Int),())] i ((1:Int),())⟩:Sl _),())⟩:Sl _),()))) (fun VP=>bif (!VP.1) then l (some (false,())) else cl (MI).dflt (M41 (u7.1,((⟨2,fun i=>List.getD [((⟨2,fun i=>List.getD [((0:Int),()),((0:Int),())] i ((0:Int),())⟩:Sl _),()),((⟨3,fun i=>List.getD [((0:Int),()),((0:Int),()),((0:Int),())] i ((0:Int),())⟩:Sl _),())] i ((⟨2,fun i=>List.getD [((0:Int),()),((0:Int),())] i ((0:Int),())⟩:Sl _),())⟩:Sl _),()))) (fun UO=>bif (!UO.1) then l (some (false,())) else cl (oM).dflt (vA ((20:Int),((21:Int),()))) (fun u20=>cl (oM).dflt (vA ((50:Int),((52:Int),()))) (fun u21=>cl (oM).dflt (vA ((74100:Int),((74300:Int),()))) (fun u22=>cl (Es).dflt (PU (u20.1,(u21.1,(u22.1,())))) (fun Dh=>bif ((decide (u9.1.1=Dh.1.1)) && ((decide (u9.1.2.1=Dh.1.2.1)) && ((decide (u9.1.2.2.1=Dh.1.2.2.1)) && ((decide (u9.1.2.2.2.1=Dh.1.2.2.2.1)) && ((decide (u9.1.2.2.2.2.1=Dh.1.2.2.2.2.1)) && ((decide (u9.1.2.2.2.2.2.1=Dh.1.2.2.2.2.2.1)) && true)))))) then cl (oM).dflt (vA ((25:Int),((39:Int),()))) (fun Xd=>cl (oM).dflt (vA ((46:Int),((59:Int),()))) (fun WL=>cl (oM).dflt (vA ((74050:Int),((75050:Int),()))) (fun Xo=>cl (Es).dflt (PU (Xd.1,(WL.1,(Xo.1,())))) (fun Gp=>bif ((decide (lM.1.1=Gp.1.1)) && ((decide (lM.1.2.1=Gp.1.2.1)) && ((decide (lM.1.2.2.1=Gp.1.2.2.1)) && ((decide (lM.1.2.2.2.1=Gp.1.2.2.2.1)) && ((decide (lM.1.2.2.2.2.1=Gp.1.2.2.2.2.1)) && ((decide (lM.1.2.2.2.2.2.1=Gp.1.2.2.2.2.2.1)) && true)))))) then bif (decide (Df.1=(2:Int))) then cl (MI).dflt (M41 (Df.2.1,((⟨3,fun i=>List.getD [((⟨2,fun i=>List.getD [((-1:Int),()),((-1:Int),())] i ((-1:Int),())⟩:Sl _),()),((⟨2,fun i=>List.getD [((0:Int),()),((1:Int),())] i ((0:Int),())⟩:Sl _),()),((⟨1,fun i=>List.getD [((0:Int),())] i ((0:Int),())⟩:Sl _),())] i ((⟨2,fun i=>List.getD [((-1:Int),()),((-1:Int),())] i ((-1:Int),())⟩:Sl _),())⟩:Sl _),()))) (fun u28=>bif u28.1 then l (some ((decide (PB.1=(2:Int))),())) else l (some (false,()))) (l none) else l (some (false,())) else l (some (false,()))) (l none)) (l none)) (l none)) (l none) else l (some (false,()))) (l none)) (l none)) (l none)) (l none)) (l none)) (l none)) (l none)) (l none)) (l none)) (l none)) (l none)) (l none)) (l none)) (l none)) (l none)) (l none)) (l none)) (l none)) (l none)) (l none)) (l none)) (l none)) (l none)) (l none)
def ayy (m18:(Tq).den->Option (MF).den) (m19:(Tu).den->Option (OK).den) (m20:(a20).den->Option (Pz).den) (m23:(Tv).den->Option (IN).den) (m28:(a28).den->Option (OB).den) (m36:(TD).den->Option (PE).den) (m39:(a39).den->Option (Re).den) (m40:(a40).den->Option (Rb).den) (m41:(a41).den->Option (MI).den) (m43:(TR).den->Option (Rc).den) (m44:(a44).den->Option (Es).den) (Ug:(PA).den->Option (oM).den) (ON:(Uh).den->Option (vN).den) {α:Type} (l:Option (nQ).den->α) (an:α->α->α) (x:(a17).den):α:=cl (vN).dflt (ON ()) (fun u0=>cl (MF).dflt (m18 (u0.1,((1:Int),()))) (fun u1=>cl (vN).dflt (ON ()) (fun u2=>cl (OK).dflt (m19 (u0.1,())) (fun u3=>cl (vN).dflt (ON ()) (fun u4=>cl (Pz).dflt (m20 (u0.1,())) (fun u5=>cl (vN).dflt (ON ()) (fun u6=>cl (Re).dflt (m39 (u0.1,((0:Int),((0:Int),())))) (fun u7=>cl (vN).dflt (ON ()) (fun u8=>cl (PE).dflt (m36 (u0.1,((1:Int),((0:Int),())))) (fun u9=>cl (vN).dflt (ON ()) (fun vD=>cl (Rc).dflt (m43 (u0.1,((0:Int),((3:Int),())))) (fun lM=>cl (vN).dflt (ON ()) (fun MA=>cl (Rb).dflt (m40 (u0.1,())) (fun Df=>cl (vN).dflt (ON ()) (fun PX=>cl (OB).dflt (m28 (u0.1,())) (fun PB=>bif (!(decide (u1.2.1=(0:Int)))) then l (some (false,())) else bif (!(decide (u3.2.1=(0:Int)))) then l (some (false,())) else bif (!(decide (u5.2.1=(0:Int)))) then l (some (false,())) else bif (!(decide (u7.2.1=(0:Int)))) then l (some (false,())) else bif (!(decide (u9.2.1=(0:Int)))) then l (some (false,())) else bif (!(decide (lM.2.1=(0:Int)))) then l (some (false,())) else bif (!(decide (Df.2.2.1=(0:Int)))) then l (some (false,())) else bif (!(decide (PB.2.1=(0:Int)))) then l (some (false,())) else cl (IN).dflt (m23 (u1.1,((⟨2,fun i=>List.getD [((⟨2,fun i=>List.getD [((3:Int),()),((1:Int),())] i ((3:Int),())⟩:Sl _),()),((⟨2,fun i=>List.getD [((1:Int),()),((3:Int),())] i ((1:Int),())⟩:Sl _),())] i ((⟨2,fun i=>List.getD [((3:Int),()),((1:Int),())] i ((3:Int),())⟩:Sl _),())⟩:Sl _),()))) (fun u16=>bif (!u16.1) then l (some (false,())) else cl (IN).dflt (m23 (u3.1,((⟨2,fun i=>List.getD [((⟨2,fun i=>List.getD [((1:Int),()),((1:Int),())] i ((1:Int),())⟩:Sl _),()),((⟨1,fun i=>List.getD [((1:Int),())] i ((1:Int),())⟩:Sl _),())] i ((⟨2,fun i=>List.getD [((1:Int),()),((1:Int),())] i ((1:Int),())⟩:Sl _),())⟩:Sl _),()))) (fun Wf=>bif (!Wf.1) then l (some (false,())) else cl (IN).dflt (m23 (u5.1,((⟨2,fun i=>List.getD [((⟨2,fun i=>List.getD [((1:Int),()),((1:Int),())] i ((1:Int),())⟩:Sl _),()),((⟨2,fun i=>List.getD [((2:Int),()),((2:Int),())] i ((2:Int),())⟩:Sl _),())] i ((⟨2,fun i=>List.getD [((1:Int),()),((1:Int),())] i ((1:Int),())⟩:Sl _),())⟩:Sl _),()))) (fun VP=>bif (!VP.1) then l (some (false,())) else cl (MI).dflt (m41 (u7.1,((⟨2,fun i=>List.getD [((⟨2,fun i=>List.getD [((0:Int),()),((0:Int),())] i ((0:Int),())⟩:Sl _),()),((⟨3,fun i=>List.getD [((0:Int),()),((0:Int),()),((0:Int),())] i ((0:Int),())⟩:Sl _),())] i ((⟨2,fun i=>List.getD [((0:Int),()),((0:Int),())] i ((0:Int),())⟩:Sl _),())⟩:Sl _),()))) (fun UO=>bif (!UO.1) then l (some (false,())) else cl (oM).dflt (Ug ((20:Int),((21:Int),()))) (fun u20=>cl (oM).dflt (Ug ((50:Int),((52:Int),()))) (fun u21=>cl (oM).dflt (Ug ((74100:Int),((74300:Int),()))) (fun u22=>cl (Es).dflt (m44 (u20.1,(u21.1,(u22.1,())))) (fun Dh=>bif ((decide (u9.1.1=Dh.1.1)) && ((decide (u9.1.2.1=Dh.1.2.1)) && ((decide (u9.1.2.2.1=Dh.1.2.2.1)) && ((decide (u9.1.2.2.2.1=Dh.1.2.2.2.1)) && ((decide (u9.1.2.2.2.2.1=Dh.1.2.2.2.2.1)) && ((decide (u9.1.2.2.2.2.2.1=Dh.1.2.2.2.2.2.1)) && true)))))) then cl (oM).dflt (Ug ((25:Int),((39:Int),()))) (fun Xd=>cl (oM).dflt (Ug ((46:Int),((59:Int),()))) (fun WL=>cl (oM).dflt (Ug ((74050:Int),((75050:Int),()))) (fun Xo=>cl (Es).dflt (m44 (Xd.1,(WL.1,(Xo.1,())))) (fun Gp=>bif ((decide (lM.1.1=Gp.1.1)) && ((decide (lM.1.2.1=Gp.1.2.1)) && ((decide (lM.1.2.2.1=Gp.1.2.2.1)) && ((decide (lM.1.2.2.2.1=Gp.1.2.2.2.1)) && ((decide (lM.1.2.2.2.2.1=Gp.1.2.2.2.2.1)) && ((decide (lM.1.2.2.2.2.2.1=Gp.1.2.2.2.2.2.1)) && true)))))) then bif (decide (Df.1=(2:Int))) then cl (MI).dflt (m41 (Df.2.1,((⟨3,fun i=>List.getD [((⟨2,fun i=>List.getD [((-1:Int),()),((-1:Int),())] i ((-1:Int),())⟩:Sl _),()),((⟨2,fun i=>List.getD [((0:Int),()),((1:Int),())] i ((0:Int),())⟩:Sl _),()),((⟨1,fun i=>List.getD [((0:Int),())] i ((0:Int),())⟩:Sl _),())] i ((⟨2,fun i=>List.getD [((-1:Int),()),((-1:Int),())] i ((-1:Int),())⟩:Sl _),())⟩:Sl _),()))) (fun u28=>bif u28.1 then l (some ((decide (PB.1=(2:Int))),())) else l (some (false,()))) (l none) else l (some (false,())) else l (some (false,()))) (l none)) (l none)) (l none)) (l none) else l (some (false,()))) (l none)) (l none)) (l none)) (l none)) (l none)) (l none)) (l none)) (l none)) (l none)) (l none)) (l none)) (l none)) (l none)) (l none)) (l none)) (l none)) (l none)) (l none)) (l none)) (l none)) (l none)) (l none)) (l none)) (l none)
theorem ayz (m18:(Tq).den->Option (MF).den) (m19:(Tu).den->Option (OK).den) (m20:(a20).den->Option (Pz).den) (m23:(Tv).den->Option (IN).den) (m28:(a28).den->Option (OB).den) (m36:(TD).den->Option (PE).den) (m39:(a39).den->Option (Re).den) (m40:(a40).den->Option (Rb).den) (m41:(a41).den->Option (MI).den) (m43:(TR).den->Option (Rc).den) (m44:(a44).den->Option (Es).den) (Ug:(PA).den->Option (oM).den) (ON:(Uh).den->Option (vN).den) (x:(a17).den):aI Try.prog E0 (Ctx.of [(18,.pure (gU (τa:=Tq) (τr:=MF) m18)),(19,.pure (gU (τa:=Tu) (τr:=OK) m19)),(20,.pure (gU (τa:=a20) (τr:=Pz) m20)),(23,.pure (gU (τa:=Tv) (τr:=IN) m23)),(28,.pure (gU (τa:=a28) (τr:=OB) m28)),(36,.pure (gU (τa:=TD) (τr:=PE) m36)),(39,.pure (gU (τa:=a39) (τr:=Re) m39)),(40,.pure (gU (τa:=a40) (τr:=Rb) m40)),(41,.pure (gU (τa:=a41) (τr:=MI) m41)),(43,.pure (gU (τa:=TR) (τr:=Rc) m43)),(44,.pure (gU (τa:=a44) (τr:=Es) m44)),(48,.pure (gU (τa:=PA) (τr:=oM) Ug)),(62,.pure (gU (τa:=Uh) (τr:=vN) ON))]) Try.f17 l17 a17 nQ x=ayy m18 m19 m20 m23 m28 m36 m39 m40 m41 m43 m44 Ug ON .leaf .any x:=by kernel_rfl
theorem q17 (x:(a17).den):aI Try.prog E0 G17 Try.f17 l17 a17 nQ x=Q17 .leaf .any x:=ayz XV M19 M20 VN VO M36 M39 M40 M41 M43 PU vA OM x
def qf (x:(a17).den):Option (nQ).den:=Q17 (fun r=>r) (fun _ _=>none) x
theorem m17 (x:(a17).den):(aI Try.prog E0 G17 Try.f17 l17 a17 nQ x).sure=qf x:=by rw [q17]; unfold qf Q17; simp only [Tree.sure,iO]
def p17 (x:(a17).den):Bool:=(qf x).isSome
def v17 (x:(a17).den):(nQ).den:=(qf x).getD (nQ).dflt
def k17:ee:=⟨a17,nQ,p17,v17⟩
theorem h17:Holds Try.prog 17 k17:=aC (E:=E0) aA g17 aB au acz.a acz.b (by kernel_rfl) m17 fun G' hlo hF hE=>ai (by rw [ayv]; exact .nil)
abbrev aGi:Ty:=(.cons tI T6)
abbrev aGj:Ty:=(.cons PV aGi)
abbrev aIn:Ty:=(.cons aIi T5)
abbrev ayA:Ty:=(.cons PV aIn)
noncomputable def c14:=zo Try.f14
theorem aUF:zq 14 Try.f14 c14:=zu
abbrev aIo:Ty:=(.cons aIi T1)
abbrev ayB:Ty:=(.cons PV aIo)
abbrev a14:Ty:=ayB
abbrev r14:Ty:=T3
noncomputable def G14:Ctx:=Ctx.of [(16,.pure k16),(17,.pure k17),(18,.pure k18),(19,.pure k19),(20,.pure k20),(21,.pure k21),(31,.pure k31),(35,.pure k35),(36,.pure k36),(39,.pure k39),(40,.pure k40),(46,.pure k46),(50,.pure k50),(51,.pure k51),(52,.pure k52),(53,.pure k53),(56,.pure k56),(57,.pure k57),(58,.pure k58),(59,.pure k59)]
theorem g14:SP G14:=aD (fa ⟨⟨aeP.c,h16⟩,fa ⟨⟨acz.c,h17⟩,fa ⟨⟨alY.c,h18⟩,fa ⟨⟨al3.c,h19⟩,fa ⟨⟨aoA.c,h20⟩,fa ⟨⟨aeR.c,h21⟩,fa ⟨⟨aO9.c,h31⟩,fa ⟨⟨aPa.c,h35⟩,fa ⟨⟨apo.c,h36⟩,fa ⟨⟨apr.c,h39⟩,fa ⟨⟨apq.c,h40⟩,fa ⟨⟨azX.c,h46⟩,fa ⟨⟨aGm.c,h50⟩,fa ⟨⟨aGo.c,h51⟩,fa ⟨⟨aGp.c,h52⟩,fa ⟨⟨aVV.c,h53⟩,fa ⟨⟨auk.c,h56⟩,fa ⟨⟨aZM.c,h57⟩,fa ⟨⟨aZQ.c,h58⟩,fa ⟨⟨aud.c,h59⟩,f0⟩⟩⟩⟩⟩⟩⟩⟩⟩⟩⟩⟩⟩⟩⟩⟩⟩⟩⟩⟩)
noncomputable def ao2:Code:=aG ((af (c14))[0]?)
noncomputable def ajG:Code:=aG ((af (ao2))[0]?)
noncomputable def aif:Code:=aG ((af (ajG))[0]?)
theorem aqw:af (aif)=[]:=by kernel_rfl
abbrev ac4:List aL:=[.slot 2 (.pc tI),.slot 3 (.pc tI),.slot 4 (.ptr 4),.slot 5 (.ptr 5),.slot 13 (.pc ec),.slot 15 (.pc ec),.slot 17 (.pc ec),.slot 19 (.ptr 3430),.slot 24 (.pc tI),.slot 25 (.pc ec),.slot 27 (.pc tI),.box 4 [.pc eX,.pc tI,.pc tI,.pc tI,.pc tI],.box 5 [.pc ec,.pc ec,.pc ec,.pc ec],.box 3430 [.pc tI,.pc tI,.pc tI,.pc tI,.pc tI,.pc tI]]
abbrev acq:List aL:=[.slot 28 (.pc tI)]
abbrev agv:List aL:=ac4 ++ acq
def ao3:ZJ ac4 acq agv:=ZA _ _
def adm:ZS ac4 acq agv:=ZP _ _
abbrev afL:aO:=⟨[(4,[.slot 2 (.pc tI),.slot 3 (.pc tI),.slot 4 (.ptr 4),.slot 5 (.ptr 5),.slot 13 (.pc ec),.slot 15 (.pc ec),.slot 17 (.pc ec),.slot 19 (.ptr 3430),.slot 24 (.pc tI),.slot 25 (.pc ec),.slot 27 (.pc tI),.box 4 [.pc eX,.pc tI,.pc tI,.pc tI,.pc tI],.box 5 [.pc ec,.pc ec,.pc ec,.pc ec],.box 3430 [.pc tI,.pc tI,.pc tI,.pc tI,.pc tI,.pc tI]])],[.slot 8 (.pc .bool)],[]⟩
abbrev afM:aO:=⟨[(4,[])],[.slot 8 (.pc .bool)],[]⟩
def agC:ZE ac4 afM afL:=fun id=>match id with | 4=>fun c y=>(c.1,(c.2.1,(c.2.2.1,(c.2.2.2.1,(c.2.2.2.2.1,(c.2.2.2.2.2.1,(c.2.2.2.2.2.2.1,(c.2.2.2.2.2.2.2.1,(c.2.2.2.2.2.2.2.2.1,(c.2.2.2.2.2.2.2.2.2.1,(c.2.2.2.2.2.2.2.2.2.2.1,(c.2.2.2.2.2.2.2.2.2.2.2.1,(c.2.2.2.2.2.2.2.2.2.2.2.2.1,(c.2.2.2.2.2.2.2.2.2.2.2.2.2.1,y)))))))))))))) | _=>jm
def age {α:Type} (l:RQ acq afM->α) (an:α->α->α) (c:ZD ac4) (v:ZD acq):α:=bif (decide (((0:Int)<=c.2.2.2.2.2.2.2.2.2.2.1)/\(c.2.2.2.2.2.2.2.2.2.2.1 < ((c.2.2.2.2.2.2.2.2.2.1.n:Nat):Int)))) then bif (decide (v.1 < (((c.2.2.2.2.2.2.2.2.2.1.g (Int.toNat c.2.2.2.2.2.2.2.2.2.2.1)).1.n:Nat):Int))) then bif (decide (((0:Int)<=c.2.2.2.2.2.2.2.2.2.2.1)/\(c.2.2.2.2.2.2.2.2.2.2.1 < ((c.2.2.2.2.2.2.2.2.2.1.n:Nat):Int)))) then bif (decide (((0:Int)<=v.1)/\(v.1 < (((c.2.2.2.2.2.2.2.2.2.1.g (Int.toNat c.2.2.2.2.2.2.2.2.2.2.1)).1.n:Nat):Int)))) then bif (decide (((0:Int)<=c.2.2.2.2.2.2.2.2.1)/\(c.2.2.2.2.2.2.2.2.1 < ((c.2.2.2.2.2.2.2.2.2.2.2.2.1.1.n:Nat):Int)))) then bif (decide (((0:Int)<=c.2.2.2.2.2.2.2.2.2.2.1)/\(c.2.2.2.2.2.2.2.2.2.2.1 < (((c.2.2.2.2.2.2.2.2.2.2.2.2.1.1.g (Int.toNat c.2.2.2.2.2.2.2.2.1)).1.n:Nat):Int)))) then cl (r57).dflt (M57 (((c.2.2.2.2.2.2.2.2.2.1.g (Int.toNat c.2.2.2.2.2.2.2.2.2.2.1)).1.g (Int.toNat v.1)).1,((decide (((c.2.2.2.2.2.2.2.2.2.2.2.2.1.1.g (Int.toNat c.2.2.2.2.2.2.2.2.1)).1.g (Int.toNat c.2.2.2.2.2.2.2.2.2.2.1)).1=v.1)),()))) (fun u0=>bif (!u0.1) then l (.out (.ret (false,()))) else l (.next ((W (v.1 + (1:Int))),()))) (l .bad) else l .bad else l .bad else l .bad else l .bad else l (.out (.exit 4 ())) else l .bad
theorem aup:ZO G14 0 379 aif [] ao3 agC ZI ZI age:=fun _ _=>by kernel_rfl
def agf (c:ZD ac4) (v:ZD acq):RQ acq afM:=age (fun r=>r) (fun _ _=>.bad) c v
theorem auq:SO G14 0 379 aif [] ao3 agC ZI ZI agf:=fun c v=>by rw [aup]; unfold agf age; simp only [bu,aM,pM]
def aeW (c:ZD ac4) (v:ZD acq):LQ afM:=aH (agf c) cz v
theorem awE:af (ajG)=[.loop aif]:=by kernel_rfl
abbrev afO:List aL:=[.slot 2 (.pc tI),.slot 3 (.pc tI),.slot 4 (.ptr 4),.slot 5 (.ptr 5),.slot 13 (.pc ec),.slot 15 (.pc ec),.slot 17 (.pc ec),.slot 19 (.ptr 3430),.slot 24 (.pc tI),.slot 25 (.pc ec),.box 4 [.pc eX,.pc tI,.pc tI,.pc tI,.pc tI],.box 5 [.pc ec,.pc ec,.pc ec,.pc ec],.box 3430 [.pc tI,.pc tI,.pc tI,.pc tI,.pc tI,.pc tI]]
abbrev acS:List aL:=[.slot 27 (.pc tI)]
abbrev ajO:List aL:=afO ++ acS
def asB:ZJ afO acS ajO:=ZA _ _
def afT:ZS afO acS ajO:=ZP _ _
abbrev ag7:aO:=⟨[(2,[.slot 2 (.pc tI),.slot 3 (.pc tI),.slot 4 (.ptr 4),.slot 5 (.ptr 5),.slot 13 (.pc ec),.slot 15 (.pc ec),.slot 17 (.pc ec),.slot 19 (.ptr 3430),.slot 24 (.pc tI),.slot 25 (.pc ec),.box 4 [.pc eX,.pc tI,.pc tI,.pc tI,.pc tI],.box 5 [.pc ec,.pc ec,.pc ec,.pc ec],.box 3430 [.pc tI,.pc tI,.pc tI,.pc tI,.pc tI,.pc tI]])],[.slot 8 (.pc .bool)],[]⟩
abbrev agi:aO:=⟨[(2,[])],[.slot 8 (.pc .bool)],[]⟩
def ajQ:ZE afO agi ag7:=fun id=>match id with | 2=>fun c y=>(c.1,(c.2.1,(c.2.2.1,(c.2.2.2.1,(c.2.2.2.2.1,(c.2.2.2.2.2.1,(c.2.2.2.2.2.2.1,(c.2.2.2.2.2.2.2.1,(c.2.2.2.2.2.2.2.2.1,(c.2.2.2.2.2.2.2.2.2.1,(c.2.2.2.2.2.2.2.2.2.2.1,(c.2.2.2.2.2.2.2.2.2.2.2.1,(c.2.2.2.2.2.2.2.2.2.2.2.2.1,y))))))))))))) | _=>jm
def ajR {α:Type} (l:RQ acS agi->α) (an:α->α->α) (c:ZD afO) (v:ZD acS):α:=bif (decide (v.1 < ((c.2.2.2.2.2.2.2.2.2.1.n:Nat):Int))) then bif (decide (((0:Int)<=(W (c.2.2.2.2.2.2.2.2.1 - (1:Int))))/\((W (c.2.2.2.2.2.2.2.2.1 - (1:Int))) < ((c.2.2.2.2.1.n:Nat):Int)))) then bif (decide (((0:Int)<=v.1)/\(v.1 < (((c.2.2.2.2.1.g (Int.toNat (W (c.2.2.2.2.2.2.2.2.1 - (1:Int))))).1.n:Nat):Int)))) then bif (decide (((0:Int)<=c.2.2.2.2.2.2.2.2.1)/\(c.2.2.2.2.2.2.2.2.1 < ((c.2.2.2.2.2.2.2.2.2.2.2.1.1.n:Nat):Int)))) then bif (decide (((0:Int)<=v.1)/\(v.1 < (((c.2.2.2.2.2.2.2.2.2.2.2.1.1.g (Int.toNat c.2.2.2.2.2.2.2.2.1)).1.n:Nat):Int)))) then cl (r57).dflt (M57 (((c.2.2.2.2.1.g (Int.toNat (W (c.2.2.2.2.2.2.2.2.1 - (1:Int))))).1.g (Int.toNat v.1)).1,((decide (((c.2.2.2.2.2.2.2.2.2.2.2.1.1.g (Int.toNat c.2.2.2.2.2.2.2.2.1)).1.g (Int.toNat v.1)).1=(-1:Int))),()))) (fun u1=>bif (!u1.1) then l (.out (.ret (false,()))) else aF (aeW (c.1,(c.2.1,((),((),(c.2.2.2.2.1,(c.2.2.2.2.2.1,(c.2.2.2.2.2.2.1,((),(c.2.2.2.2.2.2.2.2.1,(c.2.2.2.2.2.2.2.2.2.1,(v.1,(c.2.2.2.2.2.2.2.2.2.2.1,(c.2.2.2.2.2.2.2.2.2.2.2.1,(c.2.2.2.2.2.2.2.2.2.2.2.2.1,())))))))))))))) ((0:Int),())) 4 (fun u2=>l (.next ((W (v.1 + (1:Int))),()))) (bS (aeW (c.1,(c.2.1,((),((),(c.2.2.2.2.1,(c.2.2.2.2.2.1,(c.2.2.2.2.2.2.1,((),(c.2.2.2.2.2.2.2.2.1,(c.2.2.2.2.2.2.2.2.2.1,(v.1,(c.2.2.2.2.2.2.2.2.2.2.1,(c.2.2.2.2.2.2.2.2.2.2.2.1,(c.2.2.2.2.2.2.2.2.2.2.2.2.1,())))))))))))))) ((0:Int),())) (fun u3=>l (.out (.ret u3))) (l .bad))) (l .bad) else l .bad else l .bad else l .bad else l .bad else l (.out (.exit 2 ()))
theorem az1:ZO G14 0 379 ajG [.known (bF 0 [] agv fun x=>aJ afL agC ZI ZI [] true (adm x).1 (aeW (adm x).1 (adm x).2) afL.bw)] asB ajQ ZI ZI ajR:=fun _ _=>by kernel_rfl
def ajX (c:ZD afO) (v:ZD acS):RQ acS agi:=ajR (fun r=>r) (fun _ _=>.bad) c v
theorem az2:SO G14 0 379 ajG [.known (bF 0 [] agv fun x=>aJ afL agC ZI ZI [] true (adm x).1 (aeW (adm x).1 (adm x).2) afL.bw)] asB ajQ ZI ZI ajX:=fun c v=>by rw [az1]; unfold ajX ajR; simp only [bu,aM,pM]
def aih (c:ZD afO) (v:ZD acS):LQ agi:=aH (ajX c) cz v
noncomputable def aj3:Code:=aG ((af (ao2))[1]?)
noncomputable def aii:Code:=aG ((af (aj3))[0]?)
theorem aqy:af (aii)=[]:=by kernel_rfl
abbrev aej:List aL:=[.slot 2 (.pc tI),.slot 3 (.pc tI),.slot 4 (.ptr 4),.slot 5 (.ptr 5),.slot 13 (.pc ec),.slot 15 (.pc ec),.slot 17 (.pc ec),.slot 19 (.ptr 3430),.slot 24 (.pc tI),.slot 25 (.pc ec),.slot 29 (.pc tI),.box 4 [.pc eX,.pc tI,.pc tI,.pc tI,.pc tI],.box 5 [.pc ec,.pc ec,.pc ec,.pc ec],.box 3430 [.pc tI,.pc tI,.pc tI,.pc tI,.pc tI,.pc tI]]
abbrev ab6:List aL:=[.slot 30 (.pc .bool),.slot 31 (.pc tI)]
abbrev agR:List aL:=aej ++ ab6
def ao4:ZJ aej ab6 agR:=ZA _ _
def aem:ZS aej ab6 agR:=ZP _ _
abbrev afU:aO:=⟨[(8,[.slot 2 (.pc tI),.slot 3 (.pc tI),.slot 4 (.ptr 4),.slot 5 (.ptr 5),.slot 13 (.pc ec),.slot 15 (.pc ec),.slot 17 (.pc ec),.slot 19 (.ptr 3430),.slot 24 (.pc tI),.slot 25 (.pc ec),.slot 29 (.pc tI),.box 4 [.pc eX,.pc tI,.pc tI,.pc tI,.pc tI],.box 5 [.pc ec,.pc ec,.pc ec,.pc ec],.box 3430 [.pc tI,.pc tI,.pc tI,.pc tI,.pc tI,.pc tI],.slot 30 (.pc .bool)])],[],[]⟩
abbrev aeL:aO:=⟨[(8,[.slot 30 (.pc .bool)])],[],[]⟩
def agU:ZE aej aeL afU:=fun id=>match id with | 8=>fun c y=>(c.1,(c.2.1,(c.2.2.1,(c.2.2.2.1,(c.2.2.2.2.1,(c.2.2.2.2.2.1,(c.2.2.2.2.2.2.1,(c.2.2.2.2.2.2.2.1,(c.2.2.2.2.2.2.2.2.1,(c.2.2.2.2.2.2.2.2.2.1,(c.2.2.2.2.2.2.2.2.2.2.1,(c.2.2.2.2.2.2.2.2.2.2.2.1,(c.2.2.2.2.2.2.2.2.2.2.2.2.1,(c.2.2.2.2.2.2.2.2.2.2.2.2.2.1,y)))))))))))))) | _=>jm
def agl {α:Type} (l:RQ ab6 aeL->α) (an:α->α->α) (c:ZD aej) (v:ZD ab6):α:=bif (decide (v.2.1 < ((c.2.2.2.2.2.2.2.2.2.1.n:Nat):Int))) then bif v.1 then bif (decide (((0:Int)<=c.2.2.2.2.2.2.2.2.1)/\(c.2.2.2.2.2.2.2.2.1 < ((c.2.2.2.2.2.2.2.2.2.2.2.2.1.1.n:Nat):Int)))) then bif (decide (((0:Int)<=v.2.1)/\(v.2.1 < (((c.2.2.2.2.2.2.2.2.2.2.2.2.1.1.g (Int.toNat c.2.2.2.2.2.2.2.2.1)).1.n:Nat):Int)))) then l (.next ((!(decide (((c.2.2.2.2.2.2.2.2.2.2.2.2.1.1.g (Int.toNat c.2.2.2.2.2.2.2.2.1)).1.g (Int.toNat v.2.1)).1=c.2.2.2.2.2.2.2.2.2.2.1))),((W (v.2.1 + (1:Int))),()))) else l .bad else l .bad else l (.next (false,((W (v.2.1 + (1:Int))),()))) else l (.out (.exit 8 (v.1,())))
theorem aur:ZO G14 0 379 aii [] ao4 agU ZI ZI agl:=fun _ _=>by kernel_rfl
def agm (c:ZD aej) (v:ZD ab6):RQ ab6 aeL:=agl (fun r=>r) (fun _ _=>.bad) c v
theorem aus:SO G14 0 379 aii [] ao4 agU ZI ZI agm:=fun c v=>by rw [aur]; unfold agm agl; simp only [bu,aM,pM]
def aeZ (c:ZD aej) (v:ZD ab6):LQ aeL:=aH (agm c) cz v
theorem awL:af (aj3)=[.loop aii]:=by kernel_rfl
abbrev aga:List aL:=[.slot 2 (.pc tI),.slot 3 (.pc tI),.slot 4 (.ptr 4),.slot 5 (.ptr 5),.slot 13 (.pc ec),.slot 15 (.pc ec),.slot 17 (.pc ec),.slot 19 (.ptr 3430),.slot 24 (.pc tI),.slot 25 (.pc ec),.box 4 [.pc eX,.pc tI,.pc tI,.pc tI,.pc tI],.box 5 [.pc ec,.pc ec,.pc ec,.pc ec],.box 3430 [.pc tI,.pc tI,.pc tI,.pc tI,.pc tI,.pc tI]]
abbrev acs:List aL:=[.slot 29 (.pc tI)]
abbrev aj7:List aL:=aga ++ acs
def asD:ZJ aga acs aj7:=ZA _ _
def agc:ZS aga acs aj7:=ZP _ _
abbrev aha:aO:=⟨[(6,[.slot 2 (.pc tI),.slot 3 (.pc tI),.slot 4 (.ptr 4),.slot 5 (.ptr 5),.slot 13 (.pc ec),.slot 15 (.pc ec),.slot 17 (.pc ec),.slot 19 (.ptr 3430),.slot 24 (.pc tI),.box 4 [.pc eX,.pc tI,.pc tI,.pc tI,.pc tI],.box 5 [.pc ec,.pc ec,.pc ec,.pc ec],.box 3430 [.pc tI,.pc tI,.pc tI,.pc tI,.pc tI,.pc tI]])],[.slot 8 (.pc .bool)],[]⟩
abbrev agd:aO:=⟨[(6,[])],[.slot 8 (.pc .bool)],[]⟩
def akR:ZE aga agd aha:=fun id=>match id with | 6=>fun c y=>(c.1,(c.2.1,(c.2.2.1,(c.2.2.2.1,(c.2.2.2.2.1,(c.2.2.2.2.2.1,(c.2.2.2.2.2.2.1,(c.2.2.2.2.2.2.2.1,(c.2.2.2.2.2.2.2.2.1,(c.2.2.2.2.2.2.2.2.2.2.1,(c.2.2.2.2.2.2.2.2.2.2.2.1,(c.2.2.2.2.2.2.2.2.2.2.2.2.1,y)))))))))))) | _=>jm
def akS {α:Type} (l:RQ acs agd->α) (an:α->α->α) (c:ZD aga) (v:ZD acs):α:=bif (decide (((0:Int)<=(W (c.2.2.2.2.2.2.2.2.1 - (1:Int))))/\((W (c.2.2.2.2.2.2.2.2.1 - (1:Int))) < ((c.2.2.2.2.2.1.n:Nat):Int)))) then bif (decide (v.1 < (((c.2.2.2.2.2.1.g (Int.toNat (W (c.2.2.2.2.2.2.2.2.1 - (1:Int))))).1.n:Nat):Int))) then aF (aeZ (c.1,(c.2.1,((),((),(c.2.2.2.2.1,(c.2.2.2.2.2.1,(c.2.2.2.2.2.2.1,((),(c.2.2.2.2.2.2.2.2.1,(c.2.2.2.2.2.2.2.2.2.1,(v.1,(c.2.2.2.2.2.2.2.2.2.2.1,(c.2.2.2.2.2.2.2.2.2.2.2.1,(c.2.2.2.2.2.2.2.2.2.2.2.2.1,())))))))))))))) (true,((0:Int),()))) 8 (fun u4=>bif (decide (((0:Int)<=(W (c.2.2.2.2.2.2.2.2.1 - (1:Int))))/\((W (c.2.2.2.2.2.2.2.2.1 - (1:Int))) < ((c.2.2.2.2.2.1.n:Nat):Int)))) then bif (decide (((0:Int)<=v.1)/\(v.1 < (((c.2.2.2.2.2.1.g (Int.toNat (W (c.2.2.2.2.2.2.2.2.1 - (1:Int))))).1.n:Nat):Int)))) then cl (r57).dflt (M57 (((c.2.2.2.2.2.1.g (Int.toNat (W (c.2.2.2.2.2.2.2.2.1 - (1:Int))))).1.g (Int.toNat v.1)).1,u4)) (fun u5=>bif (!u5.1) then l (.out (.ret (false,()))) else l (.next ((W (v.1 + (1:Int))),()))) (l .bad) else l .bad else l .bad) (l .bad) else l (.out (.exit 6 ())) else l .bad
theorem az3:ZO G14 0 379 aj3 [.known (bF 0 [] agR fun x=>aJ afU agU ZI ZI [] false (aem x).1 (aeZ (aem x).1 (aem x).2) afU.bw)] asD akR ZI ZI akS:=fun _ _=>by kernel_rfl
def alj (c:ZD aga) (v:ZD acs):RQ acs agd:=akS (fun r=>r) (fun _ _=>.bad) c v
theorem az4:SO G14 0 379 aj3 [.known (bF 0 [] agR fun x=>aJ afU agU ZI ZI [] false (aem x).1 (aeZ (aem x).1 (aem x).2) afU.bw)] asD akR ZI ZI alj:=fun c v=>by rw [az3]; unfold alj akS; simp only [bu,aM,pM]
def aij (c:ZD aga) (v:ZD acs):LQ agd:=aH (alj c) cz v
theorem aFO:af (ao2)=[.loop ajG,.loop aj3]:=by kernel_rfl
abbrev ajl:List aL:=[.slot 2 (.pc tI),.slot 3 (.pc tI),.slot 4 (.ptr 4),.slot 5 (.ptr 5),.slot 13 (.pc ec),.slot 15 (.pc ec),.slot 17 (.pc ec),.slot 19 (.ptr 3430),.box 4 [.pc eX,.pc tI,.pc tI,.pc tI,.pc tI],.box 5 [.pc ec,.pc ec,.pc ec,.pc ec],.box 3430 [.pc tI,.pc tI,.pc tI,.pc tI,.pc tI,.pc tI]]
abbrev aeS:List aL:=[.slot 24 (.pc tI)]
abbrev awM:List aL:=ajl ++ aeS
def aBQ:ZJ ajl aeS awM:=ZA _ _
def awN:ZS ajl aeS awM:=ZP _ _
abbrev aFP:aO:=⟨[(0,[.slot 2 (.pc tI),.slot 3 (.pc tI),.slot 5 (.ptr 5),.slot 17 (.pc ec),.slot 19 (.ptr 3430),.box 5 [.pc ec,.pc ec,.pc ec,.pc ec],.box 3430 [.pc tI,.pc tI,.pc tI,.pc tI,.pc tI,.pc tI]])],[.slot 8 (.pc .bool)],[]⟩
abbrev amx:aO:=⟨[(0,[])],[.slot 8 (.pc .bool)],[]⟩
def aqD:ZE ajl amx aFP:=fun id=>match id with | 0=>fun c y=>(c.1,(c.2.1,(c.2.2.2.1,(c.2.2.2.2.2.2.1,(c.2.2.2.2.2.2.2.1,(c.2.2.2.2.2.2.2.2.2.1,(c.2.2.2.2.2.2.2.2.2.2.1,y))))))) | _=>jm
def apJ {α:Type} (l:RQ aeS amx->α) (an:α->α->α) (c:ZD ajl) (v:ZD aeS):α:=bif (decide (v.1 < ((c.2.2.2.2.2.2.2.2.1.1.n:Nat):Int))) then cl (MF).dflt (XV (c.2.2.2.2.2.2.2.2.1,v)) (fun u6=>bif (!(decide (u6.2.1=(0:Int)))) then l (.out (.ret (false,()))) else bif (decide (((0:Int)<=v.1)/\(v.1 < ((c.2.2.2.2.2.2.2.2.1.1.n:Nat):Int)))) then bif (decide (((0:Int)<=(W (v.1 - (1:Int))))/\((W (v.1 - (1:Int))) < ((c.2.2.2.2.2.2.2.2.1.1.n:Nat):Int)))) then cl (r31).dflt (M31 (u6.1,((((c.2.2.2.2.2.2.2.2.1.1.g (Int.toNat v.1)).2.1.n:Nat):Int),((((c.2.2.2.2.2.2.2.2.1.1.g (Int.toNat (W (v.1 - (1:Int))))).2.1.n:Nat):Int),())))) (fun u7=>bif (!u7.1) then l (.out (.ret (false,()))) else bif (decide (((0:Int)<=(W (v.1 - (1:Int))))/\((W (v.1 - (1:Int))) < ((c.2.2.2.2.1.n:Nat):Int)))) then bif (!(decide ((((c.2.2.2.2.1.g (Int.toNat (W (v.1 - (1:Int))))).1.n:Nat):Int)=((u6.1.n:Nat):Int)))) then l (.out (.ret (false,()))) else bif (decide (((0:Int)<=(W (v.1 - (1:Int))))/\((W (v.1 - (1:Int))) < ((c.2.2.2.2.2.1.n:Nat):Int)))) then bif (decide (((0:Int)<=(W (v.1 - (1:Int))))/\((W (v.1 - (1:Int))) < ((c.2.2.2.2.2.2.2.2.1.1.n:Nat):Int)))) then bif (!(decide ((((c.2.2.2.2.2.1.g (Int.toNat (W (v.1 - (1:Int))))).1.n:Nat):Int)=(((c.2.2.2.2.2.2.2.2.1.1.g (Int.toNat (W (v.1 - (1:Int))))).2.1.n:Nat):Int)))) then l (.out (.ret (false,()))) else aF (aih (c.1,(c.2.1,((),((),(c.2.2.2.2.1,(c.2.2.2.2.2.1,(c.2.2.2.2.2.2.1,((),(v.1,(u6.1,(c.2.2.2.2.2.2.2.2.1,(c.2.2.2.2.2.2.2.2.2.1,(c.2.2.2.2.2.2.2.2.2.2.1,()))))))))))))) ((0:Int),())) 2 (fun u8=>aF (aij (c.1,(c.2.1,((),((),(c.2.2.2.2.1,(c.2.2.2.2.2.1,(c.2.2.2.2.2.2.1,((),(v.1,(u6.1,(c.2.2.2.2.2.2.2.2.1,(c.2.2.2.2.2.2.2.2.2.1,(c.2.2.2.2.2.2.2.2.2.2.1,()))))))))))))) ((0:Int),())) 6 (fun u9=>l (.next ((W (v.1 + (1:Int))),()))) (bS (aij (c.1,(c.2.1,((),((),(c.2.2.2.2.1,(c.2.2.2.2.2.1,(c.2.2.2.2.2.2.1,((),(v.1,(u6.1,(c.2.2.2.2.2.2.2.2.1,(c.2.2.2.2.2.2.2.2.2.1,(c.2.2.2.2.2.2.2.2.2.2.1,()))))))))))))) ((0:Int),())) (fun vD=>l (.out (.ret vD))) (l .bad))) (bS (aih (c.1,(c.2.1,((),((),(c.2.2.2.2.1,(c.2.2.2.2.2.1,(c.2.2.2.2.2.2.1,((),(v.1,(u6.1,(c.2.2.2.2.2.2.2.2.1,(c.2.2.2.2.2.2.2.2.2.1,(c.2.2.2.2.2.2.2.2.2.2.1,()))))))))))))) ((0:Int),())) (fun lM=>l (.out (.ret lM))) (l .bad)) else l .bad else l .bad else l .bad) (l .bad) else l .bad else l .bad) (l .bad) else l (.out (.exit 0 ()))
theorem aLD:ZO G14 0 379 ao2 [.known (bF 0 [] ajO fun x=>aJ ag7 ajQ ZI ZI [] true (afT x).1 (aih (afT x).1 (afT x).2) ag7.bw),.known (bF 0 [] aj7 fun x=>aJ aha akR ZI ZI [] true (agc x).1 (aij (agc x).1 (agc x).2) aha.bw)] aBQ aqD ZI ZI apJ:=fun _ _=>by kernel_rfl
def apK (c:ZD ajl) (v:ZD aeS):RQ aeS amx:=apJ (fun r=>r) (fun _ _=>.bad) c v
theorem aLE:SO G14 0 379 ao2 [.known (bF 0 [] ajO fun x=>aJ ag7 ajQ ZI ZI [] true (afT x).1 (aih (afT x).1 (afT x).2) ag7.bw),.known (bF 0 [] aj7 fun x=>aJ aha akR ZI ZI [] true (agc x).1 (aij (agc x).1 (agc x).2) aha.bw)] aBQ aqD ZI ZI apK:=fun c v=>by rw [aLD]; unfold apK apJ; simp only [bu,aM,pM]
def apL (c:ZD ajl) (v:ZD aeS):LQ amx:=aH (apK c) cz v
noncomputable def asK:Code:=aG ((af (c14))[1]?)
theorem aFQ:af (asK)=[]:=by kernel_rfl
abbrev ajr:List aL:=[.slot 2 (.pc tI),.slot 3 (.pc tI),.slot 5 (.ptr 5),.slot 17 (.pc ec),.slot 19 (.ptr 3430),.slot 32 (.pc (.sl T0)),.box 5 [.pc ec,.pc ec,.pc ec,.pc ec],.box 3430 [.pc tI,.pc tI,.pc tI,.pc tI,.pc tI,.pc tI]]
abbrev aev:List aL:=[.slot 33 (.pc .bool),.slot 34 (.pc tI)]
abbrev awO:List aL:=ajr ++ aev
def aBR:ZJ ajr aev awO:=ZA _ _
def awP:ZS ajr aev awO:=ZP _ _
abbrev aFR:aO:=⟨[(10,[.slot 2 (.pc tI),.slot 3 (.pc tI),.slot 5 (.ptr 5),.slot 19 (.ptr 3430),.box 5 [.pc ec,.pc ec,.pc ec,.pc ec],.box 3430 [.pc tI,.pc tI,.pc tI,.pc tI,.pc tI,.pc tI],.slot 33 (.pc .bool)])],[],[]⟩
abbrev amy:aO:=⟨[(10,[.slot 33 (.pc .bool)])],[],[]⟩
def aqO:ZE ajr amy aFR:=fun id=>match id with | 10=>fun c y=>(c.1,(c.2.1,(c.2.2.1,(c.2.2.2.2.1,(c.2.2.2.2.2.2.1,(c.2.2.2.2.2.2.2.1,y)))))) | _=>jm
def apM {α:Type} (l:RQ aev amy->α) (an:α->α->α) (c:ZD ajr) (v:ZD aev):α:=bif (decide (v.2.1 < ((c.2.2.2.1.n:Nat):Int))) then bif v.1 then l (.next (true,((W (v.2.1 + (1:Int))),()))) else bif (decide (((0:Int)<=v.2.1)/\(v.2.1 < ((c.2.2.2.1.n:Nat):Int)))) then cl (r59).dflt (M59 ((c.2.2.2.1.g (Int.toNat v.2.1)).1,(c.2.2.2.2.2.1,()))) (fun MA=>l (.next (MA.1,((W (v.2.1 + (1:Int))),())))) (l .bad) else l .bad else l (.out (.exit 10 (v.1,())))
theorem aLF:ZO G14 0 379 asK [] aBR aqO ZI ZI apM:=fun _ _=>by kernel_rfl
def apN (c:ZD ajr) (v:ZD aev):RQ aev amy:=apM (fun r=>r) (fun _ _=>.bad) c v
theorem aLG:SO G14 0 379 asK [] aBR aqO ZI ZI apN:=fun c v=>by rw [aLF]; unfold apN apM; simp only [bu,aM,pM]
def asP (c:ZD ajr) (v:ZD aev):LQ amy:=aH (apN c) cz v
theorem aUH:af (c14)=[.loop ao2,.loop asK]:=by kernel_rfl
noncomputable def l14:List Loop:=[lk 0 aqD ZI ZI true awN apL,lk 0 aqO ZI ZI false awP asP]
def Q14 {α:Type} (l:Option (r14).den->α) (an:α->α->α) (x:(a14).den):α:=cl (WZ).dflt (Yz (x.1,())) (fun Df=>bif (!Df.1) then cl (nQ).dflt (qf ()) (fun PX=>l (some PX)) (l none) else cl (r50).dflt (M50 (x.2.1,())) (fun PB=>bif (!PB.1) then cl (nQ).dflt (qf ()) (fun u16=>l (some u16)) (l none) else cl (Rf).dflt (Sj (x.1,())) (fun Wf=>bif (!Wf.1) then cl (nQ).dflt (qf ()) (fun VP=>l (some VP)) (l none) else cl (r51).dflt (M51 (x.1,(x.2.1,()))) (fun UO=>bif (!UO.1) then cl (nQ).dflt (qf ()) (fun u20=>l (some u20)) (l none) else cl (r35).dflt (M35 (x.1,x.2.2)) (fun u21=>bif (!u21.1) then cl (nQ).dflt (qf ()) (fun u22=>l (some u22)) (l none) else cl (r52).dflt (M52 (x.1,(x.2.1,()))) (fun Dh=>bif (!(decide (Dh.2.1=(0:Int)))) then l (some (false,())) else bif (!Dh.1) then cl (nQ).dflt (qf ()) (fun Xd=>l (some Xd)) (l none) else cl (r46).dflt (Yl (x.1,())) (fun WL=>cl (OK).dflt (M19 (x.1,())) (fun Xo=>cl (Pz).dflt (M20 (x.1,())) (fun Gp=>cl (Re).dflt (M39 (x.1,x.2.2)) (fun u28=>cl (PE).dflt (M36 (x.1,x.2.2)) (fun u29=>cl (Rb).dflt (M40 (x.1,())) (fun u30=>bif (!(decide (WL.2.1=(5:Int)))) then l (some (false,())) else bif (!(decide (Xo.2.1=(0:Int)))) then l (some (false,())) else bif (!(decide (Gp.2.1=(0:Int)))) then l (some (false,())) else bif (!(decide (u28.2.1=(0:Int)))) then l (some (false,())) else bif (!(decide (u29.2.1=(0:Int)))) then l (some (false,())) else bif (!(decide (u30.2.2.1=(0:Int)))) then l (some (false,())) else bif (decide (((0:Int)<=(0:Int))/\((0:Int) < ((x.1.1.n:Nat):Int)))) then cl (r56).dflt (M56 (x.2.1.1,())) (fun u31=>bif (decide ((W ((((x.1.1.g 0).2.1.n:Nat):Int) + u31.1)) < u30.1)) then l (some (false,())) else bif (!(decide (((Xo.1.n:Nat):Int)=(W (((x.1.1.n:Nat):Int) - (1:Int)))))) then l (some (false,())) else bif (!(decide (((Gp.1.n:Nat):Int)=((Xo.1.n:Nat):Int)))) then l (some (false,())) else aF (apL (x.2.2.1,(x.2.2.2.1,((),((),(Xo.1,(Gp.1,(u28.1,((),(x.1,(x.2.1,(u29.1,()))))))))))) ((1:Int),())) 0 (fun u32=>cl (r58).dflt (M58 (x.2.1.1,x.2.2)) (fun u33=>aF (asP (x.2.2.1,(x.2.2.2.1,((),(u28.1,((),(u33.1,(x.2.1,(u29.1,())))))))) (false,((0:Int),()))) 10 (fun u34=>bif u34.1 then bif (decide (((0:Int)<=x.2.2.1)/\(x.2.2.1 < ((x.2.1.2.1.n:Nat):Int)))) then bif (decide (((0:Int)<=x.2.2.2.1)/\(x.2.2.2.1 < (((x.2.1.2.1.g (Int.toNat x.2.2.1)).1.n:Nat):Int)))) then cl (r53).dflt (M53 (((x.2.1.2.1.g (Int.toNat x.2.2.1)).1.g (Int.toNat x.2.2.2.1)).1,((u29.1.1,(u29.1.2.1,())),()))) (fun u35=>bif u35.1 then bif (decide (((0:Int)<=x.2.2.1)/\(x.2.2.1 < ((x.2.1.2.2.1.n:Nat):Int)))) then bif (decide (((0:Int)<=x.2.2.2.1)/\(x.2.2.2.1 < (((x.2.1.2.2.1.g (Int.toNat x.2.2.1)).1.n:Nat):Int)))) then cl (r53).dflt (M53 (((x.2.1.2.2.1.g (Int.toNat x.2.2.1)).1.g (Int.toNat x.2.2.2.1)).1,((u29.1.2.2.1,(u29.1.2.2.2.1,())),()))) (fun u36=>bif u36.1 then bif (decide (((0:Int)<=x.2.2.1)/\(x.2.2.1 < ((x.2.1.2.2.2.1.n:Nat):Int)))) then bif (decide (((0:Int)<=x.2.2.2.1)/\(x.2.2.2.1 < (((x.2.1.2.2.2.1.g (Int.toNat x.2.2.1)).1.n:Nat):Int)))) then cl (r53).dflt (M53 (((x.2.1.2.2.2.1.g (Int.toNat x.2.2.1)).1.g (Int.toNat x.2.2.2.1)).1,(u29.1.2.2.2.2,()))) (fun u37=>bif u37.1 then cl (nQ).dflt (qf ()) (fun u38=>l (some u38)) (l none) else l (some (false,()))) (l none) else l none else l none else l (some (false,()))) (l none) else l none else l none else l (some (false,()))) (l none) else l none else l none else l (some (false,()))) (l none)) (l none)) (bS (apL (x.2.2.1,(x.2.2.2.1,((),((),(Xo.1,(Gp.1,(u28.1,((),(x.1,(x.2.1,(u29.1,()))))))))))) ((1:Int),())) (fun u39=>l (some u39)) (l none))) (l none) else l none) (l none)) (l none)) (l none)) (l none)) (l none)) (l none)) (l none)) (l none)) (l none)) (l none)) (l none)) (l none)
theorem q14:QO G14 Try.f14 l14 a14 r14 Q14:=fun _=>by kernel_rfl
def M14 (x:(a14).den):Option (r14).den:=Q14 (fun r=>r) (fun _ _=>none) x
theorem m14:MO G14 Try.f14 l14 M14:=fun x=>by rw [q14]; unfold M14 Q14; simp only [Tree.sure,iO]
def p14:=pO M14
def v14:=vO (τ:=r14) M14
def k14:ee:=⟨a14,r14,p14,v14⟩
theorem h14:Holds Try.prog 14 k14:=hO aUF g14 m14 fun G' hlo hF hE=>ai (by rw [aUH]; exact .cons (lv hE hF hlo (ai (by rw [aFO]; exact .cons (lv hE hF hlo (ai (by rw [awE]; exact .cons (lv hE hF hlo (ln aqw) adm auq) (.nil))) afT az2) (.cons (lv hE hF hlo (ai (by rw [awL]; exact .cons (lv hE hF hlo (ln aqy) aem aus) (.nil))) agc az4) (.nil)))) awN aLE) (.cons (lv hE hF hlo (ln aFQ) awP aLG) (.nil)))
end Go.Dm

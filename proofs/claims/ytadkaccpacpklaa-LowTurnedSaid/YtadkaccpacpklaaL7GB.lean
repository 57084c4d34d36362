/-
 Each function of the program as a Lean function,and that its calls come to what that says.
-/
import Derived.Test.YtadkaccpacpklaaL7GA
set_option linter.unusedVariables false
set_option linter.unusedSimpArgs false
namespace Go.Dm
open Go.RowKit Go.Proofs
set_option maxRecDepth 100000
noncomputable def c69:=zo Try.f69
theorem auj:zq 69 Try.f69 c69:=zu
abbrev a69:Ty:=T13
abbrev WK:Ty:=T3
noncomputable def G69:Ctx:=Ctx.of []
theorem g69:SP G69:=aD f0
def Q69 {α:Type} (l:Option (WK).den->α) (an:α->α->α) (x:(a69).den):α:=bif (decide ((0:Int)<=x.1.1)) then bif (decide (x.1.1<=x.1.2.1)) then l (some ((decide (x.1.2.1<=x.2.1)),())) else l (some (false,())) else l (some (false,()))
theorem q69:QO G69 Try.f69 [] a69 WK Q69:=fun _=>by kernel_rfl
def M69 (x:(a69).den):Option (WK).den:=Q69 (fun r=>r) (fun _ _=>none) x
theorem m69:MO G69 Try.f69 [] M69:=fun x=>by rw [q69]; unfold M69 Q69; simp only [Tree.sure,iO]
def p69:=pO M69
def v69:=vO (τ:=WK) M69
def k69:ee:=⟨a69,WK,p69,v69⟩
theorem h69:Holds Try.prog 69 k69:=hO auj g69 m69 l0
noncomputable def c21:=zo Try.f21
theorem aeR:zq 21 Try.f21 c21:=zu
abbrev a21:Ty:=Jd
abbrev Rf:Ty:=T3
noncomputable def G21:Ctx:=Ctx.of [(68,.pure k68),(69,.pure k69)]
theorem g21:SP G21:=aD (fa ⟨⟨aiE.c,h68⟩,fa ⟨⟨auj.c,h69⟩,f0⟩⟩)
noncomputable def HQ:Code:=aG ((af (c21))[0]?)
noncomputable def xR:Code:=aG ((af (HQ))[0]?)
theorem Ui:af (xR)=[]:=by kernel_rfl
abbrev iM:List aL:=[.slot 1 (.ptr 1),.slot 3 (.pc tI),.slot 4 (.ptr 103),.box 1 [.pc eX,.pc tI,.pc tI,.pc tI,.pc tI],.box 103 [.pc tI,.pc (.sl T6)]]
abbrev eG:List aL:=[.slot 5 (.pc tI)]
abbrev nC:List aL:=iM ++ eG
def zM:ZJ iM eG nC:=ZA _ _
def kr:ZS iM eG nC:=ZP _ _
abbrev kS:aO:=⟨[(2,[.slot 1 (.ptr 1),.slot 3 (.pc tI),.box 1 [.pc eX,.pc tI,.pc tI,.pc tI,.pc tI]])],[.slot 2 (.pc .bool)],[]⟩
abbrev gL:aO:=⟨[(2,[])],[.slot 2 (.pc .bool)],[]⟩
def tP:ZE iM gL kS:=fun id=>match id with | 2=>fun c y=>(c.1,(c.2.1,(c.2.2.2.1,y))) | _=>jm
def tQ {α:Type} (l:RQ eG gL->α) (an:α->α->α) (c:ZD iM) (v:ZD eG):α:=bif (decide (v.1 < ((c.2.2.2.2.1.2.1.n:Nat):Int))) then bif (decide (((0:Int)<=v.1)/\(v.1 < ((c.2.2.2.2.1.2.1.n:Nat):Int)))) then cl (WK).dflt (M69 (((c.2.2.2.2.1.2.1.g (Int.toNat v.1)).1,((c.2.2.2.2.1.2.1.g (Int.toNat v.1)).2.1,())),((100:Int),()))) (fun u0=>bif (!u0.1) then l (.out (.ret (false,()))) else cl (WK).dflt (M69 (((c.2.2.2.2.1.2.1.g (Int.toNat v.1)).2.2.1,((c.2.2.2.2.1.2.1.g (Int.toNat v.1)).2.2.2.1,())),((100:Int),()))) (fun u1=>bif (!u1.1) then l (.out (.ret (false,()))) else cl (WK).dflt (M69 ((c.2.2.2.2.1.2.1.g (Int.toNat v.1)).2.2.2.2,((99999:Int),()))) (fun u2=>bif (!u2.1) then l (.out (.ret (false,()))) else l (.next ((W (v.1 + (1:Int))),()))) (l .bad)) (l .bad)) (l .bad) else l .bad else l (.out (.exit 2 ()))
theorem Yh:ZO G21 0 97 xR [] zM tP ZI ZI tQ:=fun _ _=>by kernel_rfl
def tR (c:ZD iM) (v:ZD eG):RQ eG gL:=tQ (fun r=>r) (fun _ _=>.bad) c v
theorem Yi:SO G21 0 97 xR [] zM tP ZI ZI tR:=fun c v=>by rw [Yh]; unfold tR tQ; simp only [bu,aM,pM]
def jf (c:ZD iM) (v:ZD eG):LQ gL:=aH (tR c) cz v
theorem aeT:af (HQ)=[.loop xR]:=by kernel_rfl
abbrev oC:List aL:=[.slot 1 (.ptr 1),.box 1 [.pc eX,.pc tI,.pc tI,.pc tI,.pc tI]]
abbrev fS:List aL:=[.slot 3 (.pc tI)]
abbrev BK:List aL:=oC ++ fS
def Pn:ZJ oC fS BK:=ZA _ _
def GR:ZS oC fS BK:=ZP _ _
abbrev CQ:aO:=⟨[(0,[.slot 1 (.ptr 1),.box 1 [.pc eX,.pc tI,.pc tI,.pc tI,.pc tI]])],[.slot 2 (.pc .bool)],[]⟩
abbrev jb:aO:=⟨[(0,[])],[.slot 2 (.pc .bool)],[]⟩
def LB:ZE oC jb CQ:=fun id=>match id with | 0=>fun c y=>(c.1,(c.2.1,y)) | _=>jm
def HR {α:Type} (l:RQ fS jb->α) (an:α->α->α) (c:ZD oC) (v:ZD fS):α:=bif (decide (v.1 < ((c.2.1.1.n:Nat):Int))) then bif (decide (((0:Int)<=v.1)/\(v.1 < ((c.2.1.1.n:Nat):Int)))) then cl (Kj).dflt (MC ((c.2.1.1.g (Int.toNat v.1)).1,((0:Int),((200:Int),())))) (fun u3=>bif (!u3.1) then l (.out (.ret (false,()))) else bif (decide ((0:Int) < v.1)) then bif (decide (((0:Int)<=(W (v.1 - (1:Int))))/\((W (v.1 - (1:Int))) < ((c.2.1.1.n:Nat):Int)))) then bif (decide ((c.2.1.1.g (Int.toNat v.1)).1<=(c.2.1.1.g (Int.toNat (W (v.1 - (1:Int))))).1)) then l (.out (.ret (false,()))) else bif (decide ((3:Int) < (((c.2.1.1.g (Int.toNat v.1)).2.1.n:Nat):Int))) then l (.out (.ret (false,()))) else aF (jf ((),(v.1,((),(c.2.1,((c.2.1.1.g (Int.toNat v.1)),()))))) ((0:Int),())) 2 (fun u4=>l (.next ((W (v.1 + (1:Int))),()))) (bS (jf ((),(v.1,((),(c.2.1,((c.2.1.1.g (Int.toNat v.1)),()))))) ((0:Int),())) (fun u5=>l (.out (.ret u5))) (l .bad)) else l .bad else bif (decide ((3:Int) < (((c.2.1.1.g (Int.toNat v.1)).2.1.n:Nat):Int))) then l (.out (.ret (false,()))) else aF (jf ((),(v.1,((),(c.2.1,((c.2.1.1.g (Int.toNat v.1)),()))))) ((0:Int),())) 2 (fun u6=>l (.next ((W (v.1 + (1:Int))),()))) (bS (jf ((),(v.1,((),(c.2.1,((c.2.1.1.g (Int.toNat v.1)),()))))) ((0:Int),())) (fun u7=>l (.out (.ret u7))) (l .bad))) (l .bad) else l .bad else l (.out (.exit 0 ()))
theorem am0:ZO G21 0 97 HQ [.known (bF 0 [] nC fun x=>aJ kS tP ZI ZI [] true (kr x).1 (jf (kr x).1 (kr x).2) kS.bw)] Pn LB ZI ZI HR:=fun _ _=>by kernel_rfl
def HS (c:ZD oC) (v:ZD fS):RQ fS jb:=HR (fun r=>r) (fun _ _=>.bad) c v
theorem am1:SO G21 0 97 HQ [.known (bF 0 [] nC fun x=>aJ kS tP ZI ZI [] true (kr x).1 (jf (kr x).1 (kr x).2) kS.bw)] Pn LB ZI ZI HS:=fun c v=>by rw [am0]; unfold HS HR; simp only [bu,aM,pM]
def HT (c:ZD oC) (v:ZD fS):LQ jb:=aH (HS c) cz v
theorem ayk:af (c21)=[.loop HQ]:=by kernel_rfl
noncomputable def l21:List Loop:=[lk 0 LB ZI ZI true GR HT]
def Q21 {α:Type} (l:Option (Rf).den->α) (an:α->α->α) (x:(a21).den):α:=aF (HT ((),(x.1,())) ((0:Int),())) 0 (fun u8=>cl (Kj).dflt (MC (((x.1.1.n:Nat):Int),((1:Int),((4:Int),())))) (fun u9=>bif u9.1 then cl (Kj).dflt (MC (x.1.2.1,((0:Int),((50:Int),())))) (fun vD=>bif vD.1 then cl (Kj).dflt (MC (x.1.2.2.1,((0:Int),((1000:Int),())))) (fun lM=>bif lM.1 then cl (Kj).dflt (MC (x.1.2.2.2.1,((0:Int),((12:Int),())))) (fun MA=>bif MA.1 then cl (Kj).dflt (MC (x.1.2.2.2.2.1,((0:Int),((12:Int),())))) (fun Df=>l (some Df)) (l none) else l (some (false,()))) (l none) else l (some (false,()))) (l none) else l (some (false,()))) (l none) else l (some (false,()))) (l none)) (bS (HT ((),(x.1,())) ((0:Int),())) (fun PX=>l (some PX)) (l none))
theorem q21:QO G21 Try.f21 l21 a21 Rf Q21:=fun _=>by kernel_rfl
def Sj (x:(a21).den):Option (Rf).den:=Q21 (fun r=>r) (fun _ _=>none) x
theorem m21:MO G21 Try.f21 l21 Sj:=fun x=>by rw [q21]; unfold Sj Q21; simp only [Tree.sure,iO]
def p21:=pO Sj
def v21:=vO (τ:=Rf) Sj
def k21:ee:=⟨a21,Rf,p21,v21⟩
theorem h21:Holds Try.prog 21 k21:=hO aeR g21 m21 fun G' hlo hF hE=>ai (by rw [ayk]; exact .cons (lv hE hF hlo (ai (by rw [aeT]; exact .cons (lv hE hF hlo (ln Ui) kr Yi) (.nil))) GR am1) (.nil))
abbrev T94:Ty:=(.cons T12 T13)
abbrev T95:Ty:=(.cons PV T4)
abbrev T96:Ty:=(.cons PV OG)
abbrev T97:Ty:=(.sl OG)
abbrev T98:Ty:=(.cons T97 .nil)
abbrev T99:Ty:=(.cons PV T98)
abbrev Ic:Ty:=(.cons T97 T0)
abbrev aps:Ty:=(.cons PV Ic)
abbrev aGf:Ty:=(.cons ec T1)
noncomputable def c35:=zo Try.f35
theorem aPa:zq 35 Try.f35 c35:=zu
abbrev a35:Ty:=T88
abbrev r35:Ty:=T3
noncomputable def G35:Ctx:=Ctx.of [(68,.pure k68)]
theorem g35:SP G35:=aD (fa ⟨⟨aiE.c,h68⟩,f0⟩)
def Q35 {α:Type} (l:Option (r35).den->α) (an:α->α->α) (x:(a35).den):α:=cl (Kj).dflt (MC (x.2.1,((0:Int),((W (((x.1.1.n:Nat):Int) - (1:Int))),())))) (fun u0=>bif u0.1 then bif (decide (((0:Int)<=x.2.1)/\(x.2.1 < ((x.1.1.n:Nat):Int)))) then cl (Kj).dflt (MC (x.2.2.1,((0:Int),((W ((((x.1.1.g (Int.toNat x.2.1)).2.1.n:Nat):Int) - (1:Int))),())))) (fun u1=>l (some u1)) (l none) else l none else l (some (false,()))) (l none)
theorem q35:QO G35 Try.f35 [] a35 r35 Q35:=fun _=>by kernel_rfl
def M35 (x:(a35).den):Option (r35).den:=Q35 (fun r=>r) (fun _ _=>none) x
theorem m35:MO G35 Try.f35 [] M35:=fun x=>by rw [q35]; unfold M35 Q35; simp only [Tree.sure,iO]
def p35:=pO M35
def v35:=vO (τ:=r35) M35
def k35:ee:=⟨a35,r35,p35,v35⟩
theorem h35:Holds Try.prog 35 k35:=hO aPa g35 m35 l0
noncomputable def c37:=zo Try.f37
theorem aVN:zq 37 Try.f37 c37:=zu
abbrev a37:Ty:=T0
abbrev r37:Ty:=T3
noncomputable def G37:Ctx:=Ctx.of [(68,.pure k68)]
theorem g37:SP G37:=aD (fa ⟨⟨aiE.c,h68⟩,f0⟩)
def Q37 {α:Type} (l:Option (r37).den->α) (an:α->α->α) (x:(a37).den):α:=cl (Kj).dflt (MC (x.1,((0:Int),((200:Int),())))) (fun u0=>l (some u0)) (l none)
theorem q37:QO G37 Try.f37 [] a37 r37 Q37:=fun _=>by kernel_rfl
def M37 (x:(a37).den):Option (r37).den:=Q37 (fun r=>r) (fun _ _=>none) x
theorem m37:MO G37 Try.f37 [] M37:=fun x=>by rw [q37]; unfold M37 Q37; simp only [Tree.sure,iO]
def p37:=pO M37
def v37:=vO (τ:=r37) M37
def k37:ee:=⟨a37,r37,p37,v37⟩
theorem h37:Holds Try.prog 37 k37:=hO aVN g37 m37 l0
noncomputable def c42:=zo Try.f42
theorem aVP:zq 42 Try.f42 c42:=zu
abbrev a42:Ty:=T8
abbrev r42:Ty:=T8
noncomputable def G42:Ctx:=Ctx.of [(48,.pure k48)]
theorem g42:SP G42:=aD (fa ⟨⟨agY.c,h48⟩,f0⟩)
def Q42 {α:Type} (l:Option (r42).den->α) (an:α->α->α) (x:(a42).den):α:=cl (oM).dflt (vA ((W ((100:Int) - x.1.2.1)),((W ((100:Int) - x.1.1)),()))) (fun u0=>l (some ((x.1.2.2.1,(x.1.2.2.2.1,(u0.1.1,(u0.1.2.1,x.1.2.2.2.2)))),()))) (l none)
theorem q42:QO G42 Try.f42 [] a42 r42 Q42:=fun _=>by kernel_rfl
def M42 (x:(a42).den):Option (r42).den:=Q42 (fun r=>r) (fun _ _=>none) x
theorem m42:MO G42 Try.f42 [] M42:=fun x=>by rw [q42]; unfold M42 Q42; simp only [Tree.sure,iO]
def p42:=pO M42
def v42:=vO (τ:=r42) M42
def k42:ee:=⟨a42,r42,p42,v42⟩
theorem h42:Holds Try.prog 42 k42:=hO aVP g42 m42 l0
noncomputable def c38:=zo Try.f38
theorem aZG:zq 38 Try.f38 c38:=zu
abbrev a38:Ty:=Jd
abbrev r38:Ty:=Jd
noncomputable def G38:Ctx:=Ctx.of [(42,.pure k42)]
theorem g38:SP G38:=aD (fa ⟨⟨aVP.c,h42⟩,f0⟩)
noncomputable def aAw:Code:=aG ((af (c38))[0]?)
noncomputable def apX:Code:=aG ((af (aAw))[0]?)
theorem aJE:af (apX)=[]:=by kernel_rfl
abbrev aaZ:List aL:=[.slot 1 (.ptr 1),.slot 2 (.ptr 2),.slot 3 (.ptr 61),.slot 4 (.pc tI),.slot 5 (.ptr 1062064),.box 1 [.pc eX,.pc tI,.pc tI,.pc tI,.pc tI],.box 2 [.own 1003000 44 T15,.pc tI,.pc tI,.pc tI,.pc tI],.box 61 [.own 1062000 44 T15,.pc tI,.pc tI,.pc tI,.pc tI]]
abbrev WD:List aL:=[.slot 6 (.pc tI),.box 1062064 [.pc tI,.own 1063065001 54 T6]]
abbrev anQ:List aL:=aaZ ++ WD
def aFq:ZJ aaZ WD anQ:=ZA _ _
def aa0:ZS aaZ WD anQ:=ZP _ _
abbrev ah2:aO:=⟨[(2,[.slot 1 (.ptr 1),.slot 2 (.ptr 2),.slot 3 (.ptr 61),.slot 4 (.pc tI),.slot 5 (.ptr 1062064),.box 1 [.pc eX,.pc tI,.pc tI,.pc tI,.pc tI],.box 2 [.own 1003000 44 T15,.pc tI,.pc tI,.pc tI,.pc tI],.box 61 [.own 1062000 44 T15,.pc tI,.pc tI,.pc tI,.pc tI],.box 1062064 [.pc tI,.own 1063065001 54 T6]])],[],[]⟩
abbrev anR:aO:=⟨[(2,[.box 1062064 [.pc tI,.own 1063065001 54 T6]])],[],[]⟩
def anS:ZE aaZ anR ah2:=fun id=>match id with | 2=>fun c y=>(c.1,(c.2.1,(c.2.2.1,(c.2.2.2.1,(c.2.2.2.2.1,(c.2.2.2.2.2.1,(c.2.2.2.2.2.2.1,(c.2.2.2.2.2.2.2.1,y)))))))) | _=>jm
def ay0 {α:Type} (l:RQ WD anR->α) (an:α->α->α) (c:ZD aaZ) (v:ZD WD):α:=bif (decide (((0:Int)<=c.2.2.2.1)/\(c.2.2.2.1 < ((c.2.2.2.2.2.1.1.n:Nat):Int)))) then bif (decide (v.1 < (((c.2.2.2.2.2.1.1.g (Int.toNat c.2.2.2.1)).2.1.n:Nat):Int))) then bif (decide (((0:Int)<=c.2.2.2.1)/\(c.2.2.2.1 < ((c.2.2.2.2.2.1.1.n:Nat):Int)))) then bif (decide (((0:Int)<=v.1)/\(v.1 < (((c.2.2.2.2.2.1.1.g (Int.toNat c.2.2.2.1)).2.1.n:Nat):Int)))) then cl (r42).dflt (M42 (((c.2.2.2.2.2.1.1.g (Int.toNat c.2.2.2.1)).2.1.g (Int.toNat v.1)),())) (fun u0=>bif (decide (((v.2.1.2.1.n + 1) * 48)<=140737488355328)) then l (.next ((W (v.1 + (1:Int))),((v.2.1.1,((cK v.2.1.2.1 (⟨1,fun i=>List.getD [u0.1] i u0.1⟩:Sl (Ty.den T6))),())),()))) else l .bad) (l .bad) else l .bad else l .bad else l (.out (.exit 2 (v.2.1,()))) else l .bad
theorem aPc:ZO G38 0 58 apX [] aFq anS ZI ZI ay0:=fun _ _=>by kernel_rfl
def ay1 (c:ZD aaZ) (v:ZD WD):RQ WD anR:=ay0 (fun r=>r) (fun _ _=>.bad) c v
theorem aPd:SO G38 0 58 apX [] aFq anS ZI ZI ay1:=fun c v=>by rw [aPc]; unfold ay1 ay0; simp only [bu,aM,pM]
def ay2 (c:ZD aaZ) (v:ZD WD):LQ anR:=aH (ay1 c) cz v
theorem aTg:af (aAw)=[.loop apX]:=by kernel_rfl
abbrev ak8:List aL:=[.slot 1 (.ptr 1),.slot 2 (.ptr 2),.slot 3 (.ptr 61),.box 1 [.pc eX,.pc tI,.pc tI,.pc tI,.pc tI],.box 2 [.own 1003000 44 T15,.pc tI,.pc tI,.pc tI,.pc tI]]
abbrev ah3:List aL:=[.slot 4 (.pc tI),.box 61 [.own 1062000 44 T15,.pc tI,.pc tI,.pc tI,.pc tI]]
abbrev aJF:List aL:=ak8 ++ ah3
def aQb:ZJ ak8 ah3 aJF:=ZA _ _
def aJG:ZS ak8 ah3 aJF:=ZP _ _
abbrev aTh:aO:=⟨[(0,[.slot 2 (.ptr 2),.slot 3 (.ptr 61),.box 2 [.own 1003000 44 T15,.pc tI,.pc tI,.pc tI,.pc tI],.box 61 [.own 1062000 44 T15,.pc tI,.pc tI,.pc tI,.pc tI]])],[],[]⟩
abbrev ay3:aO:=⟨[(0,[.box 61 [.own 1062000 44 T15,.pc tI,.pc tI,.pc tI,.pc tI]])],[],[]⟩
def aD2:ZE ak8 ay3 aTh:=fun id=>match id with | 0=>fun c y=>(c.2.1,(c.2.2.1,(c.2.2.2.2.1,y))) | _=>jm
def aJH {α:Type} (l:RQ ah3 ay3->α) (an:α->α->α) (c:ZD ak8) (v:ZD ah3):α:=bif (decide (v.1 < ((c.2.2.2.1.1.n:Nat):Int))) then bif (decide (((0:Int)<=v.1)/\(v.1 < ((c.2.2.2.1.1.n:Nat):Int)))) then aF (ay2 ((),((),((),(v.1,((),(c.2.2.2.1,(c.2.2.2.2.1,(v.2.1,())))))))) ((0:Int),(((c.2.2.2.1.1.g (Int.toNat v.1)).1,((⟨0,fun i=>((0:Int),((0:Int),((0:Int),((0:Int),((0:Int),((0:Int),()))))))⟩:Sl _),())),()))) 2 (fun u1=>bif (decide (((v.2.1.1.n + 1) * 32)<=140737488355328)) then l (.next ((W (v.1 + (1:Int))),(((cK v.2.1.1 (⟨1,fun i=>List.getD [u1.1] i u1.1⟩:Sl (Ty.den T15))),v.2.1.2),()))) else l .bad) (l .bad) else l .bad else l (.out (.exit 0 (v.2.1,())))
theorem aVS:ZO G38 0 58 aAw [.known (bF 0 [] anQ fun x=>aJ ah2 anS ZI ZI [] false (aa0 x).1 (ay2 (aa0 x).1 (aa0 x).2) ah2.bw)] aQb aD2 ZI ZI aJH:=fun _ _=>by kernel_rfl
def aJI (c:ZD ak8) (v:ZD ah3):RQ ah3 ay3:=aJH (fun r=>r) (fun _ _=>.bad) c v
theorem aVT:SO G38 0 58 aAw [.known (bF 0 [] anQ fun x=>aJ ah2 anS ZI ZI [] false (aa0 x).1 (ay2 (aa0 x).1 (aa0 x).2) ah2.bw)] aQb aD2 ZI ZI aJI:=fun c v=>by rw [aVS]; unfold aJI aJH; simp only [bu,aM,pM]
def aQc (c:ZD ak8) (v:ZD ah3):LQ ay3:=aH (aJI c) cz v
theorem aZH:af (c38)=[.loop aAw]:=by kernel_rfl
noncomputable def l38:List Loop:=[lk 0 aD2 ZI ZI false aJG aQc]
def Q38 {α:Type} (l:Option (r38).den->α) (an:α->α->α) (x:(a38).den):α:=aF (aQc ((),((),((),(x.1,(((⟨0,fun i=>((0:Int),((⟨0,fun i=>((0:Int),((0:Int),((0:Int),((0:Int),((0:Int),((0:Int),()))))))⟩:Sl _),()))⟩:Sl _),((0:Int),((0:Int),((0:Int),((0:Int),()))))),()))))) ((0:Int),(((⟨0,fun i=>((0:Int),((⟨0,fun i=>((0:Int),((0:Int),((0:Int),((0:Int),((0:Int),((0:Int),()))))))⟩:Sl _),()))⟩:Sl _),x.1.2),()))) 0 (fun u2=>l (some (u2.1,()))) (l none)
theorem q38:QO G38 Try.f38 l38 a38 r38 Q38:=fun _=>by kernel_rfl
def M38 (x:(a38).den):Option (r38).den:=Q38 (fun r=>r) (fun _ _=>none) x
theorem m38:MO G38 Try.f38 l38 M38:=fun x=>by rw [q38]; unfold M38 Q38; simp only [Tree.sure,iO]
def p38:=pO M38
def v38:=vO (τ:=r38) M38
def k38:ee:=⟨a38,r38,p38,v38⟩
theorem h38:Holds Try.prog 38 k38:=hO aZG g38 m38 fun G' hlo hF hE=>ai (by rw [aZH]; exact .cons (lv hE hF hlo (ai (by rw [aTg]; exact .cons (lv hE hF hlo (ln aJE) aa0 aPd) (.nil))) aJG aVT) (.nil))
abbrev ayo:Ty:=(.cons T12 T1)
abbrev aId:Ty:=(.cons ec T79)
abbrev aGg:Ty:=(.cons ec aId)
abbrev aIi:Ty:=(.agg aGg)
abbrev ayp:Ty:=(.cons aIi .nil)
abbrev ag6:Ty:=(.cons PV ayp)
abbrev anf:Ty:=(.agg T15)
abbrev asG:Ty:=(.cons anf .nil)
abbrev aoF:Ty:=(.cons (.sl T0) asG)
abbrev ayq:Ty:=(.fn aoF T3)
abbrev ayr:Ty:=(.cons ayq .nil)
abbrev asH:Ty:=(.cons eX ayr)
abbrev asI:Ty:=(.cons ec asH)
abbrev ays:Ty:=(.cons .bool T0)
abbrev ayt:Ty:=(.cons tI T20)
noncomputable def c17:=zo Try.f17
theorem acz:zq 17 Try.f17 c17:=zu
abbrev a17:Ty:=.nil
abbrev nQ:Ty:=T3
noncomputable def G17:Ctx:=Ctx.of [(18,.pure k18),(19,.pure k19),(20,.pure k20),(23,.pure k23),(28,.pure k28),(36,.pure k36),(39,.pure k39),(40,.pure k40),(41,.pure k41),(43,.pure k43),(44,.pure k44),(48,.pure k48),(62,.pure k62)]
theorem g17:SP G17:=aD (fa ⟨⟨alY.c,h18⟩,fa ⟨⟨al3.c,h19⟩,fa ⟨⟨aoA.c,h20⟩,fa ⟨⟨apm.c,h23⟩,fa ⟨⟨ajW.c,h28⟩,fa ⟨⟨apo.c,h36⟩,fa ⟨⟨apr.c,h39⟩,fa ⟨⟨apq.c,h40⟩,fa ⟨⟨aue.c,h41⟩,fa ⟨⟨ar6.c,h43⟩,fa ⟨⟨aiD.c,h44⟩,fa ⟨⟨agY.c,h48⟩,fa ⟨⟨aui.c,h62⟩,f0⟩⟩⟩⟩⟩⟩⟩⟩⟩⟩⟩⟩⟩)
theorem ayv:af (c17)=[]:=by kernel_rfl
noncomputable def l17:List Loop:=[]
def Q17 {α:Type} (l:Option (nQ).den->α) (an:α->α->α) (x:(a17).den):α:=cl (vN).dflt (OM ()) (fun u0=>cl (MF).dflt (XV (u0.1,((1:Int),()))) (fun u1=>cl (vN).dflt (OM ()) (fun u2=>cl (OK).dflt (M19 (u0.1,())) (fun u3=>cl (vN).dflt (OM ()) (fun u4=>cl (Pz).dflt (M20 (u0.1,())) (fun u5=>cl (vN).dflt (OM ()) (fun u6=>cl (Re).dflt (M39 (u0.1,((0:Int),((0:Int),())))) (fun u7=>cl (vN).dflt (OM ()) (fun u8=>cl (PE).dflt (M36 (u0.1,((1:Int),((0:Int),())))) (fun u9=>cl (vN).dflt (OM ()) (fun vD=>cl (Rc).dflt (M43 (u0.1,((0:Int),((3:Int),())))) (fun lM=>cl (vN).dflt (OM ()) (fun MA=>cl (Rb).dflt (M40 (u0.1,())) (fun Df=>cl (vN).dflt (OM ()) (fun PX=>cl (OB).dflt (VO (u0.1,())) (fun PB=>bif (!(decide (u1.2.1=(0:Int)))) then l (some (false,())) else bif (!(decide (u3.2.1=(0:Int)))) then l (some (false,())) else bif (!(decide (u5.2.1=(0:Int)))) then l (some (false,())) else bif (!(decide (u7.2.1=(0:Int)))) then l (some (false,())) else bif (!(decide (u9.2.1=(0:Int)))) then l (some (false,())) else bif (!(decide (lM.2.1=(0:Int)))) then l (some (false,())) else bif (!(decide (Df.2.2.1=(0:Int)))) then l (some (false,())) else bif (!(decide (PB.2.1=(0:Int)))) then l (some (false,())) else cl (IN).dflt (VN (u1.1,((⟨2,fun i=>List.getD [((⟨2,fun i=>List.getD [((3:Int),()),((1:Int),())] i ((3:Int),())⟩:Sl _),()),((⟨2,fun i=>List.getD [((1:Int),()),((3:Int),())] i ((1:Int),())⟩:Sl _),())] i ((⟨2,fun i=>List.getD [((3:Int),()),((1:Int),())] i ((3:Int),())⟩:Sl _),())⟩:Sl _),()))) (fun u16=>bif (!u16.1) then l (some (false,())) else cl (IN).dflt (VN (u3.1,((⟨2,fun i=>List.getD [((⟨2,fun i=>List.getD [((1:Int),()),((1:Int),())] i ((1:Int),())⟩:Sl _),()),((⟨1,fun i=>List.getD [((1:Int),())] i ((1:Int),())⟩:Sl _),())] i ((⟨2,fun i=>List.getD [((1:Int),()),((1:Int),())] i ((1:Int),())⟩:Sl _),())⟩:Sl _),()))) (fun Wf=>bif (!Wf.1) then l (some (false,())) else cl (IN).dflt (VN (u5.1,((⟨2,fun i=>List.getD [((⟨2,fun i=>List.getD [((1:Int),()),((1:Int),())] i ((1:Int),())⟩:Sl _),()),((⟨2,fun i=>List.getD [((2:Int),()),((2:Int),())] i ((2:Int),())⟩:Sl _),())] i ((⟨2,fun i=>List.getD [((1:Int),()),((1:Int),())] i ((1:Int),())⟩:Sl _),())⟩:Sl _),()))) (fun VP=>bif (!VP.1) then l (some (false,())) else cl (MI).dflt (M41 (u7.1,((⟨2,fun i=>List.getD [((⟨2,fun i=>List.getD [((0:Int),()),((0:Int),())] i ((0:Int),())⟩:Sl _),()),((⟨3,fun i=>List.getD [((0:Int),()),((0:Int),()),((0:Int),())] i ((0:Int),())⟩:Sl _),())] i ((⟨2,fun i=>List.getD [((0:Int),()),((0:Int),())] i ((0:Int),())⟩:Sl _),())⟩:Sl _),()))) (fun UO=>bif (!UO.1) then l (some (false,())) else cl (oM).dflt (vA ((20:Int),((21:Int),()))) (fun u20=>cl (oM).dflt (vA ((50:Int),((52:Int),()))) (fun u21=>cl (oM).dflt (vA ((74100:Int),((74300:Int),()))) (fun u22=>cl (Es).dflt (PU (u20.1,(u21.1,(u22.1,())))) (fun Dh=>bif ((decide (u9.1.1=Dh.1.1)) && ((decide (u9.1.2.1=Dh.1.2.1)) && ((decide (u9.1.2.2.1=Dh.1.2.2.1)) && ((decide (u9.1.2.2.2.1=Dh.1.2.2.2.1)) && ((decide (u9.1.2.2.2.2.1=Dh.1.2.2.2.2.1)) && ((decide (u9.1.2.2.2.2.2.1=Dh.1.2.2.2.2.2.1)) && true)))))) then cl (oM).dflt (vA ((25:Int),((39:Int),()))) (fun Xd=>cl (oM).dflt (vA ((46:Int),((59:Int),()))) (fun WL=>cl (oM).dflt (vA ((74050:Int),((75050:Int),()))) (fun Xo=>cl (Es).dflt (PU (Xd.1,(WL.1,(Xo.1,())))) (fun Gp=>bif ((decide (lM.1.1=Gp.1.1)) && ((decide (lM.1.2.1=Gp.1.2.1)) && ((decide (lM.1.2.2.1=Gp.1.2.2.1)) && ((decide (lM.1.2.2.2.1=Gp.1.2.2.2.1)) && ((decide (lM.1.2.2.2.2.1=Gp.1.2.2.2.2.1)) && ((decide (lM.1.2.2.2.2.2.1=Gp.1.2.2.2.2.2.1)) && true)))))) then bif (decide (Df.1=(2:Int))) then cl (MI).dflt (M41 (Df.2.1,((⟨3,fun i=>List.getD [((⟨2,fun i=>List.getD [((-1:Int),()),((-1:Int),())] i ((-1:Int),())⟩:Sl _),()),((⟨2,fun i=>List.getD [((0:Int),()),((1:Int),())] i ((0:Int),())⟩:Sl _),()),((⟨1,fun i=>List.getD [((0:Int),())] i ((0:Int),())⟩:Sl _),())] i ((⟨2,fun i=>List.getD [((-1:Int),()),((-1:Int),())] i ((-1:Int),())⟩:Sl _),())⟩:Sl _),()))) (fun u28=>bif u28.1 then l (some ((decide (PB.1=(2:Int))),())) else l (some (false,()))) (l none) else l (some (false,())) else l (some (false,()))) (l none)) (l none)) (l none)) (l none) else l (some (false,()))) (l none)) (l none)) (l none)) (l none)) (l none)) (l none)) (l none)) (l none)) (l none)) (l none)) (l none)) (l none)) (l none)) (l none)) (l none)) (l none)) (l none)) (l none)) (l none)) (l none)) (l none)) (l none)) (l none)) (l none)
def ayy (m18:(Tq).den->Option (MF).den) (m19:(Tu).den->Option (OK).den) (m20:(a20).den->Option (Pz).den) (m23:(Tv).den->Option (IN).den) (m28:(a28).den->Option (OB).den) (m36:(TD).den->Option (PE).den) (m39:(a39).den->Option (Re).den) (m40:(a40).den->Option (Rb).den) (m41:(a41).den->Option (MI).den) (m43:(TR).den->Option (Rc).den) (m44:(a44).den->Option (Es).den) (Ug:(PA).den->Option (oM).den) (ON:(Uh).den->Option (vN).den) {α:Type} (l:Option (nQ).den->α) (an:α->α->α) (x:(a17).den):α:=cl (vN).dflt (ON ()) (fun u0=>cl (MF).dflt (m18 (u0.1,((1:Int),()))) (fun u1=>cl (vN).dflt (ON ()) (fun u2=>cl (OK).dflt (m19 (u0.1,())) (fun u3=>cl (vN).dflt (ON ()) (fun u4=>cl (Pz).dflt (m20 (u0.1,())) (fun u5=>cl (vN).dflt (ON ()) (fun u6=>cl (Re).dflt (m39 (u0.1,((0:Int),((0:Int),())))) (fun u7=>cl (vN).dflt (ON ()) (fun u8=>cl (PE).dflt (m36 (u0.1,((1:Int),((0:Int),())))) (fun u9=>cl (vN).dflt (ON ()) (fun vD=>cl (Rc).dflt (m43 (u0.1,((0:Int),((3:Int),())))) (fun lM=>cl (vN).dflt (ON ()) (fun MA=>cl (Rb).dflt (m40 (u0.1,())) (fun Df=>cl (vN).dflt (ON ()) (fun PX=>cl (OB).dflt (m28 (u0.1,())) (fun PB=>bif (!(decide (u1.2.1=(0:Int)))) then l (some (false,())) else bif (!(decide (u3.2.1=(0:Int)))) then l (some (false,())) else bif (!(decide (u5.2.1=(0:Int)))) then l (some (false,())) else bif (!(decide (u7.2.1=(0:Int)))) then l (some (false,())) else bif (!(decide (u9.2.1=(0:Int)))) then l (some (false,())) else bif (!(decide (lM.2.1=(0:Int)))) then l (some (false,())) else bif (!(decide (Df.2.2.1=(0:Int)))) then l (some (false,())) else bif (!(decide (PB.2.1=(0:Int)))) then l (some (false,())) else cl (IN).dflt (m23 (u1.1,((⟨2,fun i=>List.getD [((⟨2,fun i=>List.getD [((3:Int),()),((1:Int),())] i ((3:Int),())⟩:Sl _),()),((⟨2,fun i=>List.getD [((1:Int),()),((3:Int),())] i ((1:Int),())⟩:Sl _),())] i ((⟨2,fun i=>List.getD [((3:Int),()),((1:Int),())] i ((3:Int),())⟩:Sl _),())⟩:Sl _),()))) (fun u16=>bif (!u16.1) then l (some (false,())) else cl (IN).dflt (m23 (u3.1,((⟨2,fun i=>List.getD [((⟨2,fun i=>List.getD [((1:Int),()),((1:Int),())] i ((1:Int),())⟩:Sl _),()),((⟨1,fun i=>List.getD [((1:Int),())] i ((1:Int),())⟩:Sl _),())] i ((⟨2,fun i=>List.getD [((1:Int),()),((1:Int),())] i ((1:Int),())⟩:Sl _),())⟩:Sl _),()))) (fun Wf=>bif (!Wf.1) then l (some (false,())) else cl (IN).dflt (m23 (u5.1,((⟨2,fun i=>List.getD [((⟨2,fun i=>List.getD [((1:Int),()),((1:Int),())] i ((1:Int),())⟩:Sl _),()),((⟨2,fun i=>List.getD [((2:Int),()),((2:Int),())] i ((2:Int),())⟩:Sl _),())] i ((⟨2,fun i=>List.getD [((1:Int),()),((1:Int),())] i ((1:Int),())⟩:Sl _),())⟩:Sl _),()))) (fun VP=>bif (!VP.1) then l (some (false,())) else cl (MI).dflt (m41 (u7.1,((⟨2,fun i=>List.getD [((⟨2,fun i=>List.getD [((0:Int),()),((0:Int),())] i ((0:Int),())⟩:Sl _),()),((⟨3,fun i=>List.getD [((0:Int),()),((0:Int),()),((0:Int),())] i ((0:Int),())⟩:Sl _),())] i ((⟨2,fun i=>List.getD [((0:Int),()),((0:Int),())] i ((0:Int),())⟩:Sl _),())⟩:Sl _),()))) (fun UO=>bif (!UO.1) then l (some (false,())) else cl (oM).dflt (Ug ((20:Int),((21:Int),()))) (fun u20=>cl (oM).dflt (Ug ((50:Int),((52:Int),()))) (fun u21=>cl (oM).dflt (Ug ((74100:Int),((74300:Int),()))) (fun u22=>cl (Es).dflt (m44 (u20.1,(u21.1,(u22.1,())))) (fun Dh=>bif ((decide (u9.1.1=Dh.1.1)) && ((decide (u9.1.2.1=Dh.1.2.1)) && ((decide (u9.1.2.2.1=Dh.1.2.2.1)) && ((decide (u9.1.2.2.2.1=Dh.1.2.2.2.1)) && ((decide (u9.1.2.2.2.2.1=Dh.1.2.2.2.2.1)) && ((decide (u9.1.2.2.2.2.2.1=Dh.1.2.2.2.2.2.1)) && true)))))) then cl (oM).dflt (Ug ((25:Int),((39:Int),()))) (fun Xd=>cl (oM).dflt (Ug ((46:Int),((59:Int),()))) (fun WL=>cl (oM).dflt (Ug ((74050:Int),((75050:Int),()))) (fun Xo=>cl (Es).dflt (m44 (Xd.1,(WL.1,(Xo.1,())))) (fun Gp=>bif ((decide (lM.1.1=Gp.1.1)) && ((decide (lM.1.2.1=Gp.1.2.1)) && ((decide (lM.1.2.2.1=Gp.1.2.2.1)) && ((decide (lM.1.2.2.2.1=Gp.1.2.2.2.1)) && ((decide (lM.1.2.2.2.2.1=Gp.1.2.2.2.2.1)) && ((decide (lM.1.2.2.2.2.2.1=Gp.1.2.2.2.2.2.1)) && true)))))) then bif (decide (Df.1=(2:Int))) then cl (MI).dflt (m41 (Df.2.1,((⟨3,fun i=>List.getD [((⟨2,fun i=>List.getD [((-1:Int),()),((-1:Int),())] i ((-1:Int),())⟩:Sl _),()),((⟨2,fun i=>List.getD [((0:Int),()),((1:Int),())] i ((0:Int),())⟩:Sl _),()),((⟨1,fun i=>List.getD [((0:Int),())] i ((0:Int),())⟩:Sl _),())] i ((⟨2,fun i=>List.getD [((-1:Int),()),((-1:Int),())] i ((-1:Int),())⟩:Sl _),())⟩:Sl _),()))) (fun u28=>bif u28.1 then l (some ((decide (PB.1=(2:Int))),())) else l (some (false,()))) (l none) else l (some (false,())) else l (some (false,()))) (l none)) (l none)) (l none)) (l none) else l (some (false,()))) (l none)) (l none)) (l none)) (l none)) (l none)) (l none)) (l none)) (l none)) (l none)) (l none)) (l none)) (l none)) (l none)) (l none)) (l none)) (l none)) (l none)) (l none)) (l none)) (l none)) (l none)) (l none)) (l none)) (l none)
theorem ayz (m18:(Tq).den->Option (MF).den) (m19:(Tu).den->Option (OK).den) (m20:(a20).den->Option (Pz).den) (m23:(Tv).den->Option (IN).den) (m28:(a28).den->Option (OB).den) (m36:(TD).den->Option (PE).den) (m39:(a39).den->Option (Re).den) (m40:(a40).den->Option (Rb).den) (m41:(a41).den->Option (MI).den) (m43:(TR).den->Option (Rc).den) (m44:(a44).den->Option (Es).den) (Ug:(PA).den->Option (oM).den) (ON:(Uh).den->Option (vN).den) (x:(a17).den):aI Try.prog E0 (Ctx.of [(18,.pure (gU (τa:=Tq) (τr:=MF) m18)),(19,.pure (gU (τa:=Tu) (τr:=OK) m19)),(20,.pure (gU (τa:=a20) (τr:=Pz) m20)),(23,.pure (gU (τa:=Tv) (τr:=IN) m23)),(28,.pure (gU (τa:=a28) (τr:=OB) m28)),(36,.pure (gU (τa:=TD) (τr:=PE) m36)),(39,.pure (gU (τa:=a39) (τr:=Re) m39)),(40,.pure (gU (τa:=a40) (τr:=Rb) m40)),(41,.pure (gU (τa:=a41) (τr:=MI) m41)),(43,.pure (gU (τa:=TR) (τr:=Rc) m43)),(44,.pure (gU (τa:=a44) (τr:=Es) m44)),(48,.pure (gU (τa:=PA) (τr:=oM) Ug)),(62,.pure (gU (τa:=Uh) (τr:=vN) ON))]) Try.f17 l17 a17 nQ x=ayy m18 m19 m20 m23 m28 m36 m39 m40 m41 m43 m44 Ug ON .leaf .any x:=by kernel_rfl
theorem q17 (x:(a17).den):aI Try.prog E0 G17 Try.f17 l17 a17 nQ x=Q17 .leaf .any x:=ayz XV M19 M20 VN VO M36 M39 M40 M41 M43 PU vA OM x
def qf (x:(a17).den):Option (nQ).den:=Q17 (fun r=>r) (fun _ _=>none) x
theorem m17 (x:(a17).den):(aI Try.prog E0 G17 Try.f17 l17 a17 nQ x).sure=qf x:=by rw [q17]; unfold qf Q17; simp only [Tree.sure,iO]
def p17 (x:(a17).den):Bool:=(qf x).isSome
def v17 (x:(a17).den):(nQ).den:=(qf x).getD (nQ).dflt
def k17:ee:=⟨a17,nQ,p17,v17⟩
theorem h17:Holds Try.prog 17 k17:=aC (E:=E0) aA g17 aB au acz.a acz.b (by kernel_rfl) m17 fun G' hlo hF hE=>ai (by rw [ayv]; exact .nil)
abbrev aGi:Ty:=(.cons tI T6)
abbrev aGj:Ty:=(.cons PV aGi)
abbrev aIn:Ty:=(.cons aIi T5)
abbrev ayA:Ty:=(.cons PV aIn)
noncomputable def c7:=zo Try.f7
theorem cl7:zq 7 Try.f7 c7:=zu
abbrev a7:Ty:=T78
abbrev r7:Ty:=T3
noncomputable def G7:Ctx:=Ctx.of [(16,.pure k16),(17,.pure k17),(21,.pure k21),(35,.pure k35),(36,.pure k36),(37,.pure k37),(38,.pure k38),(39,.pure k39),(40,.pure k40),(41,.pure k41),(42,.pure k42),(43,.pure k43)]
theorem g7:SP G7:=aD (fa ⟨⟨aeP.c,h16⟩,fa ⟨⟨acz.c,h17⟩,fa ⟨⟨aeR.c,h21⟩,fa ⟨⟨aPa.c,h35⟩,fa ⟨⟨apo.c,h36⟩,fa ⟨⟨aVN.c,h37⟩,fa ⟨⟨aZG.c,h38⟩,fa ⟨⟨apr.c,h39⟩,fa ⟨⟨apq.c,h40⟩,fa ⟨⟨aue.c,h41⟩,fa ⟨⟨aVP.c,h42⟩,fa ⟨⟨ar6.c,h43⟩,f0⟩⟩⟩⟩⟩⟩⟩⟩⟩⟩⟩⟩)
def Q7 {α:Type} (l:Option (r7).den->α) (an:α->α->α) (x:(a7).den):α:=cl (WZ).dflt (Yz (x.1,())) (fun u0=>bif (!u0.1) then cl (nQ).dflt (qf ()) (fun u1=>l (some u1)) (l none) else cl (Rf).dflt (Sj (x.1,())) (fun u2=>bif (!u2.1) then cl (nQ).dflt (qf ()) (fun u3=>l (some u3)) (l none) else cl (r35).dflt (M35 (x.1,(x.2.1,(x.2.2.1,())))) (fun u4=>bif (!u4.1) then cl (nQ).dflt (qf ()) (fun u5=>l (some u5)) (l none) else cl (r37).dflt (M37 x.2.2.2) (fun u6=>bif (!u6.1) then cl (nQ).dflt (qf ()) (fun u7=>l (some u7)) (l none) else cl (r38).dflt (M38 (x.1,())) (fun u8=>cl (Re).dflt (M39 (x.1,(x.2.1,(x.2.2.1,())))) (fun u9=>cl (Re).dflt (M39 (u8.1,(x.2.1,(x.2.2.1,())))) (fun vD=>cl (PE).dflt (M36 (x.1,(x.2.1,(x.2.2.1,())))) (fun lM=>cl (PE).dflt (M36 (u8.1,(x.2.1,(x.2.2.1,())))) (fun MA=>cl (Rb).dflt (M40 (x.1,())) (fun Df=>cl (Rb).dflt (M40 (u8.1,())) (fun PX=>bif (!(decide (u9.2.1=vD.2.1))) then l (some (false,())) else bif (!(decide (lM.2.1=MA.2.1))) then l (some (false,())) else bif (!(decide (Df.2.2.1=PX.2.2.1))) then l (some (false,())) else bif (!(decide (u9.2.1=lM.2.1))) then l (some (false,())) else bif (!(decide (u9.2.1=Df.2.2.1))) then l (some (false,())) else cl (MI).dflt (M41 (u9.1,(vD.1,()))) (fun PB=>bif (!PB.1) then l (some (false,())) else bif (!(decide (Df.1=PX.1))) then l (some (false,())) else cl (MI).dflt (M41 (Df.2.1,(PX.2.1,()))) (fun u16=>bif (!u16.1) then l (some (false,())) else bif (!(decide (u9.2.1=(0:Int)))) then cl (nQ).dflt (qf ()) (fun Wf=>l (some Wf)) (l none) else cl (r42).dflt (M42 (lM.1,())) (fun VP=>bif (!((decide (MA.1.1=VP.1.1)) && ((decide (MA.1.2.1=VP.1.2.1)) && ((decide (MA.1.2.2.1=VP.1.2.2.1)) && ((decide (MA.1.2.2.2.1=VP.1.2.2.2.1)) && ((decide (MA.1.2.2.2.2.1=VP.1.2.2.2.2.1)) && ((decide (MA.1.2.2.2.2.2.1=VP.1.2.2.2.2.2.1)) && true))))))) then l (some (false,())) else bif (decide (x.2.1=(W (((x.1.1.n:Nat):Int) - (1:Int))))) then cl (Rc).dflt (M43 (x.1,x.2.2)) (fun UO=>cl (Rc).dflt (M43 (u8.1,x.2.2)) (fun u20=>bif (!(decide (UO.2.1=(0:Int)))) then l (some (false,())) else bif (!(decide (u20.2.1=(0:Int)))) then l (some (false,())) else cl (r42).dflt (M42 (UO.1,())) (fun u21=>bif (!((decide (u20.1.1=u21.1.1)) && ((decide (u20.1.2.1=u21.1.2.1)) && ((decide (u20.1.2.2.1=u21.1.2.2.1)) && ((decide (u20.1.2.2.2.1=u21.1.2.2.2.1)) && ((decide (u20.1.2.2.2.2.1=u21.1.2.2.2.2.1)) && ((decide (u20.1.2.2.2.2.2.1=u21.1.2.2.2.2.2.1)) && true))))))) then l (some (false,())) else cl (nQ).dflt (qf ()) (fun u22=>l (some u22)) (l none)) (l none)) (l none)) (l none) else cl (nQ).dflt (qf ()) (fun Dh=>l (some Dh)) (l none)) (l none)) (l none)) (l none)) (l none)) (l none)) (l none)) (l none)) (l none)) (l none)) (l none)) (l none)) (l none)) (l none)) (l none)
theorem q7:QO G7 Try.f7 [] a7 r7 Q7:=fun _=>by kernel_rfl
def M7 (x:(a7).den):Option (r7).den:=Q7 (fun r=>r) (fun _ _=>none) x
theorem m7:MO G7 Try.f7 [] M7:=fun x=>by rw [q7]; unfold M7 Q7; simp only [Tree.sure,iO]
def p7:=pO M7
def v7:=vO (τ:=r7) M7
def k7:ee:=⟨a7,r7,p7,v7⟩
theorem h7:Holds Try.prog 7 k7:=hO cl7 g7 m7 l0
abbrev aIo:Ty:=(.cons aIi T1)
abbrev ayB:Ty:=(.cons PV aIo)
end Go.Dm

/-
 Each function of the program as a Lean function,and that its calls come to what that says.
-/
import Derived.Test.YtadkaccpacpklaaL8GA
set_option linter.unusedVariables false
set_option linter.unusedSimpArgs false
namespace Go.Dm
open Go.RowKit Go.Proofs
set_option maxRecDepth 100000
noncomputable def c21:=zo Try.f21
theorem aeR:zq 21 Try.f21 c21:=zu
abbrev a21:Ty:=Jd
abbrev Rf:Ty:=T3
noncomputable def G21:Ctx:=Ctx.of [(68,.pure k68),(69,.pure k69)]
theorem g21:SP G21:=aD (fa ⟨⟨aiE.c,h68⟩,fa ⟨⟨auj.c,h69⟩,f0⟩⟩)
noncomputable def HQ:Code:=aG ((af (c21))[0]?)
noncomputable def xR:Code:=aG ((af (HQ))[0]?)
theorem Ui:af (xR)=[]:=by kernel_rfl
abbrev iM:List aL:=[.slot 1 (.ptr 1),.slot 3 (.pc tI),.slot 4 (.ptr 103),.box 1 [.pc eX,.pc tI,.pc tI,.pc tI,.pc tI],.box 103 [.pc tI,.pc (.sl T6)]]
abbrev eG:List aL:=[.slot 5 (.pc tI)]
abbrev nC:List aL:=iM ++ eG
def zM:ZJ iM eG nC:=ZA _ _
def kr:ZS iM eG nC:=ZP _ _
abbrev kS:aO:=⟨[(2,[.slot 1 (.ptr 1),.slot 3 (.pc tI),.box 1 [.pc eX,.pc tI,.pc tI,.pc tI,.pc tI]])],[.slot 2 (.pc .bool)],[]⟩
abbrev gL:aO:=⟨[(2,[])],[.slot 2 (.pc .bool)],[]⟩
def tP:ZE iM gL kS:=fun id=>match id with | 2=>fun c y=>(c.1,(c.2.1,(c.2.2.2.1,y))) | _=>jm
def tQ {α:Type} (l:RQ eG gL->α) (an:α->α->α) (c:ZD iM) (v:ZD eG):α:=bif (decide (v.1 < ((c.2.2.2.2.1.2.1.n:Nat):Int))) then bif (decide (((0:Int)<=v.1)/\(v.1 < ((c.2.2.2.2.1.2.1.n:Nat):Int)))) then cl (WK).dflt (M69 (((c.2.2.2.2.1.2.1.g (Int.toNat v.1)).1,((c.2.2.2.2.1.2.1.g (Int.toNat v.1)).2.1,())),((100:Int),()))) (fun u0=>bif (!u0.1) then l (.out (.ret (false,()))) else cl (WK).dflt (M69 (((c.2.2.2.2.1.2.1.g (Int.toNat v.1)).2.2.1,((c.2.2.2.2.1.2.1.g (Int.toNat v.1)).2.2.2.1,())),((100:Int),()))) (fun u1=>bif (!u1.1) then l (.out (.ret (false,()))) else cl (WK).dflt (M69 ((c.2.2.2.2.1.2.1.g (Int.toNat v.1)).2.2.2.2,((99999:Int),()))) (fun u2=>bif (!u2.1) then l (.out (.ret (false,()))) else l (.next ((W (v.1 + (1:Int))),()))) (l .bad)) (l .bad)) (l .bad) else l .bad else l (.out (.exit 2 ()))
theorem Yh:ZO G21 0 97 xR [] zM tP ZI ZI tQ:=fun _ _=>by kernel_rfl
def tR (c:ZD iM) (v:ZD eG):RQ eG gL:=tQ (fun r=>r) (fun _ _=>.bad) c v
theorem Yi:SO G21 0 97 xR [] zM tP ZI ZI tR:=fun c v=>by rw [Yh]; unfold tR tQ; simp only [bu,aM,pM]
def jf (c:ZD iM) (v:ZD eG):LQ gL:=aH (tR c) cz v
theorem aeT:af (HQ)=[.loop xR]:=by kernel_rfl
abbrev oC:List aL:=[.slot 1 (.ptr 1),.box 1 [.pc eX,.pc tI,.pc tI,.pc tI,.pc tI]]
abbrev fS:List aL:=[.slot 3 (.pc tI)]
abbrev BK:List aL:=oC ++ fS
def Pn:ZJ oC fS BK:=ZA _ _
def GR:ZS oC fS BK:=ZP _ _
abbrev CQ:aO:=⟨[(0,[.slot 1 (.ptr 1),.box 1 [.pc eX,.pc tI,.pc tI,.pc tI,.pc tI]])],[.slot 2 (.pc .bool)],[]⟩
abbrev jb:aO:=⟨[(0,[])],[.slot 2 (.pc .bool)],[]⟩
def LB:ZE oC jb CQ:=fun id=>match id with | 0=>fun c y=>(c.1,(c.2.1,y)) | _=>jm
def HR {α:Type} (l:RQ fS jb->α) (an:α->α->α) (c:ZD oC) (v:ZD fS):α:=bif (decide (v.1 < ((c.2.1.1.n:Nat):Int))) then bif (decide (((0:Int)<=v.1)/\(v.1 < ((c.2.1.1.n:Nat):Int)))) then cl (Kj).dflt (MC ((c.2.1.1.g (Int.toNat v.1)).1,((0:Int),((200:Int),())))) (fun u3=>bif (!u3.1) then l (.out (.ret (false,()))) else bif (decide ((0:Int) < v.1)) then bif (decide (((0:Int)<=(W (v.1 - (1:Int))))/\((W (v.1 - (1:Int))) < ((c.2.1.1.n:Nat):Int)))) then bif (decide ((c.2.1.1.g (Int.toNat v.1)).1<=(c.2.1.1.g (Int.toNat (W (v.1 - (1:Int))))).1)) then l (.out (.ret (false,()))) else bif (decide ((3:Int) < (((c.2.1.1.g (Int.toNat v.1)).2.1.n:Nat):Int))) then l (.out (.ret (false,()))) else aF (jf ((),(v.1,((),(c.2.1,((c.2.1.1.g (Int.toNat v.1)),()))))) ((0:Int),())) 2 (fun u4=>l (.next ((W (v.1 + (1:Int))),()))) (bS (jf ((),(v.1,((),(c.2.1,((c.2.1.1.g (Int.toNat v.1)),()))))) ((0:Int),())) (fun u5=>l (.out (.ret u5))) (l .bad)) else l .bad else bif (decide ((3:Int) < (((c.2.1.1.g (Int.toNat v.1)).2.1.n:Nat):Int))) then l (.out (.ret (false,()))) else aF (jf ((),(v.1,((),(c.2.1,((c.2.1.1.g (Int.toNat v.1)),()))))) ((0:Int),())) 2 (fun u6=>l (.next ((W (v.1 + (1:Int))),()))) (bS (jf ((),(v.1,((),(c.2.1,((c.2.1.1.g (Int.toNat v.1)),()))))) ((0:Int),())) (fun u7=>l (.out (.ret u7))) (l .bad))) (l .bad) else l .bad else l (.out (.exit 0 ()))
theorem am0:ZO G21 0 97 HQ [.known (bF 0 [] nC fun x=>aJ kS tP ZI ZI [] true (kr x).1 (jf (kr x).1 (kr x).2) kS.bw)] Pn LB ZI ZI HR:=fun _ _=>by kernel_rfl
def HS (c:ZD oC) (v:ZD fS):RQ fS jb:=HR (fun r=>r) (fun _ _=>.bad) c v
theorem am1:SO G21 0 97 HQ [.known (bF 0 [] nC fun x=>aJ kS tP ZI ZI [] true (kr x).1 (jf (kr x).1 (kr x).2) kS.bw)] Pn LB ZI ZI HS:=fun c v=>by rw [am0]; unfold HS HR; simp only [bu,aM,pM]
def HT (c:ZD oC) (v:ZD fS):LQ jb:=aH (HS c) cz v
theorem ayk:af (c21)=[.loop HQ]:=by kernel_rfl
noncomputable def l21:List Loop:=[lk 0 LB ZI ZI true GR HT]
def Q21 {α:Type} (l:Option (Rf).den->α) (an:α->α->α) (x:(a21).den):α:=aF (HT ((),(x.1,())) ((0:Int),())) 0 (fun u8=>cl (Kj).dflt (MC (((x.1.1.n:Nat):Int),((1:Int),((4:Int),())))) (fun u9=>bif u9.1 then cl (Kj).dflt (MC (x.1.2.1,((0:Int),((50:Int),())))) (fun vD=>bif vD.1 then cl (Kj).dflt (MC (x.1.2.2.1,((0:Int),((1000:Int),())))) (fun lM=>bif lM.1 then cl (Kj).dflt (MC (x.1.2.2.2.1,((0:Int),((12:Int),())))) (fun MA=>bif MA.1 then cl (Kj).dflt (MC (x.1.2.2.2.2.1,((0:Int),((12:Int),())))) (fun Df=>l (some Df)) (l none) else l (some (false,()))) (l none) else l (some (false,()))) (l none) else l (some (false,()))) (l none) else l (some (false,()))) (l none)) (bS (HT ((),(x.1,())) ((0:Int),())) (fun PX=>l (some PX)) (l none))
theorem q21:QO G21 Try.f21 l21 a21 Rf Q21:=fun _=>by kernel_rfl
def Sj (x:(a21).den):Option (Rf).den:=Q21 (fun r=>r) (fun _ _=>none) x
theorem m21:MO G21 Try.f21 l21 Sj:=fun x=>by rw [q21]; unfold Sj Q21; simp only [Tree.sure,iO]
def p21:=pO Sj
def v21:=vO (τ:=Rf) Sj
def k21:ee:=⟨a21,Rf,p21,v21⟩
theorem h21:Holds Try.prog 21 k21:=hO aeR g21 m21 fun G' hlo hF hE=>ai (by rw [ayk]; exact .cons (lv hE hF hlo (ai (by rw [aeT]; exact .cons (lv hE hF hlo (ln Ui) kr Yi) (.nil))) GR am1) (.nil))
abbrev T97:Ty:=(.cons T12 T13)
abbrev T98:Ty:=(.cons PV T4)
abbrev T99:Ty:=(.cons PV OG)
abbrev Ic:Ty:=(.sl OG)
abbrev aps:Ty:=(.cons Ic .nil)
abbrev aGf:Ty:=(.cons PV aps)
abbrev ayo:Ty:=(.cons Ic T0)
abbrev aId:Ty:=(.cons PV ayo)
noncomputable def c31:=zo Try.f31
theorem aO9:zq 31 Try.f31 c31:=zu
abbrev aGg:Ty:=(.cons ec T1)
abbrev a31:Ty:=aGg
abbrev r31:Ty:=T3
noncomputable def G31:Ctx:=Ctx.of []
theorem g31:SP G31:=aD f0
noncomputable def aFk:Code:=aG ((af (c31))[0]?)
theorem aS7:af (aFk)=[]:=by kernel_rfl
abbrev ak2:List aL:=[.slot 0 (.pc ec),.slot 1 (.pc tI),.slot 2 (.pc tI)]
abbrev aaY:List aL:=[.slot 7 (.pc tI)]
abbrev aJu:List aL:=ak2 ++ aaY
def aP5:ZJ ak2 aaY aJu:=ZA _ _
def aJv:ZS ak2 aaY aJu:=ZP _ _
abbrev aS8:aO:=⟨[(0,[.slot 0 (.pc ec),.slot 1 (.pc tI)])],[.slot 6 (.pc .bool)],[]⟩
abbrev atu:aO:=⟨[(0,[])],[.slot 6 (.pc .bool)],[]⟩
def aDX:ZE ak2 atu aS8:=fun id=>match id with | 0=>fun c y=>(c.1,(c.2.1,y)) | _=>jm
def aAp {α:Type} (l:RQ aaY atu->α) (an:α->α->α) (c:ZD ak2) (v:ZD aaY):α:=bif (decide (v.1 < ((c.1.n:Nat):Int))) then bif (decide (((0:Int)<=v.1)/\(v.1 < ((c.1.n:Nat):Int)))) then bif (!(decide ((((c.1.g (Int.toNat v.1)).1.n:Nat):Int)=c.2.2.1))) then l (.out (.ret (false,()))) else l (.next ((W (v.1 + (1:Int))),())) else l .bad else l (.out (.exit 0 ()))
theorem aVy:ZO G31 0 25 aFk [] aP5 aDX ZI ZI aAp:=fun _ _=>by kernel_rfl
def aAq (c:ZD ak2) (v:ZD aaY):RQ aaY atu:=aAp (fun r=>r) (fun _ _=>.bad) c v
theorem aVz:SO G31 0 25 aFk [] aP5 aDX ZI ZI aAq:=fun c v=>by rw [aVy]; unfold aAq aAp; simp only [bu,aM,pM]
def aAr (c:ZD ak2) (v:ZD aaY):LQ atu:=aH (aAq c) cz v
theorem aZp:af (c31)=[.loop aFk]:=by kernel_rfl
noncomputable def l31:List Loop:=[lk 0 aDX ZI ZI true aJv aAr]
def Q31 {α:Type} (l:Option (r31).den->α) (an:α->α->α) (x:(a31).den):α:=aF (aAr x ((0:Int),())) 0 (fun u0=>l (some ((decide (((x.1.n:Nat):Int)=x.2.1)),()))) (bS (aAr x ((0:Int),())) (fun u1=>l (some u1)) (l none))
theorem q31:QO G31 Try.f31 l31 a31 r31 Q31:=fun _=>by kernel_rfl
def M31 (x:(a31).den):Option (r31).den:=Q31 (fun r=>r) (fun _ _=>none) x
theorem m31:MO G31 Try.f31 l31 M31:=fun x=>by rw [q31]; unfold M31 Q31; simp only [Tree.sure,iO]
def p31:=pO M31
def v31:=vO (τ:=r31) M31
def k31:ee:=⟨a31,r31,p31,v31⟩
theorem h31:Holds Try.prog 31 k31:=hO aO9 g31 m31 fun G' hlo hF hE=>ai (by rw [aZp]; exact .cons (lv hE hF hlo (ln aS7) aJv aVz) (.nil))
noncomputable def c35:=zo Try.f35
theorem aPa:zq 35 Try.f35 c35:=zu
abbrev a35:Ty:=T88
abbrev r35:Ty:=T3
noncomputable def G35:Ctx:=Ctx.of [(68,.pure k68)]
theorem g35:SP G35:=aD (fa ⟨⟨aiE.c,h68⟩,f0⟩)
def Q35 {α:Type} (l:Option (r35).den->α) (an:α->α->α) (x:(a35).den):α:=cl (Kj).dflt (MC (x.2.1,((0:Int),((W (((x.1.1.n:Nat):Int) - (1:Int))),())))) (fun u0=>bif u0.1 then bif (decide (((0:Int)<=x.2.1)/\(x.2.1 < ((x.1.1.n:Nat):Int)))) then cl (Kj).dflt (MC (x.2.2.1,((0:Int),((W ((((x.1.1.g (Int.toNat x.2.1)).2.1.n:Nat):Int) - (1:Int))),())))) (fun u1=>l (some u1)) (l none) else l none else l (some (false,()))) (l none)
theorem q35:QO G35 Try.f35 [] a35 r35 Q35:=fun _=>by kernel_rfl
def M35 (x:(a35).den):Option (r35).den:=Q35 (fun r=>r) (fun _ _=>none) x
theorem m35:MO G35 Try.f35 [] M35:=fun x=>by rw [q35]; unfold M35 Q35; simp only [Tree.sure,iO]
def p35:=pO M35
def v35:=vO (τ:=r35) M35
def k35:ee:=⟨a35,r35,p35,v35⟩
theorem h35:Holds Try.prog 35 k35:=hO aPa g35 m35 l0
noncomputable def c45:=zo Try.f45
theorem aVU:zq 45 Try.f45 c45:=zu
abbrev aIi:Ty:=(.cons T12 T1)
abbrev a45:Ty:=aIi
abbrev r45:Ty:=T20
noncomputable def G45:Ctx:=Ctx.of [(48,.pure k48)]
theorem g45:SP G45:=aD (fa ⟨⟨agY.c,h48⟩,f0⟩)
def Q45 {α:Type} (l:Option (r45).den->α) (an:α->α->α) (x:(a45).den):α:=cl (oM).dflt (vA ((W (x.1.1 + (W (Int.tdiv (W ((W (x.1.2.1 - x.1.1)) * x.2.1)) (100:Int))))),((W (x.1.1 + (W (Int.tdiv (W ((W (x.1.2.1 - x.1.1)) * x.2.2.1)) (100:Int))))),()))) (fun u0=>l (some (u0.1,()))) (l none)
theorem q45:QO G45 Try.f45 [] a45 r45 Q45:=fun _=>by kernel_rfl
def M45 (x:(a45).den):Option (r45).den:=Q45 (fun r=>r) (fun _ _=>none) x
theorem m45:MO G45 Try.f45 [] M45:=fun x=>by rw [q45]; unfold M45 Q45; simp only [Tree.sure,iO]
def p45:=pO M45
def v45:=vO (τ:=r45) M45
def k45:ee:=⟨a45,r45,p45,v45⟩
theorem h45:Holds Try.prog 45 k45:=hO aVU g45 m45 l0
abbrev ayp:Ty:=(.cons ec T79)
abbrev ag6:Ty:=(.cons ec ayp)
abbrev anf:Ty:=(.agg ag6)
abbrev asG:Ty:=(.cons anf .nil)
abbrev aoF:Ty:=(.cons PV asG)
abbrev ayq:Ty:=(.agg T15)
abbrev ayr:Ty:=(.cons ayq .nil)
abbrev asH:Ty:=(.cons (.sl T0) ayr)
abbrev asI:Ty:=(.fn asH T3)
abbrev ays:Ty:=(.cons asI .nil)
abbrev ayt:Ty:=(.cons eX ays)
abbrev aGi:Ty:=(.cons ec ayt)
abbrev aGj:Ty:=(.cons .bool T0)
abbrev aIn:Ty:=(.cons tI T20)
noncomputable def c17:=zo Try.f17
theorem acz:zq 17 Try.f17 c17:=zu
abbrev a17:Ty:=.nil
abbrev nQ:Ty:=T3
noncomputable def G17:Ctx:=Ctx.of [(18,.pure k18),(19,.pure k19),(20,.pure k20),(23,.pure k23),(28,.pure k28),(36,.pure k36),(39,.pure k39),(40,.pure k40),(41,.pure k41),(43,.pure k43),(44,.pure k44),(48,.pure k48),(62,.pure k62)]
theorem g17:SP G17:=aD (fa ⟨⟨alY.c,h18⟩,fa ⟨⟨al3.c,h19⟩,fa ⟨⟨aoA.c,h20⟩,fa ⟨⟨apm.c,h23⟩,fa ⟨⟨ajW.c,h28⟩,fa ⟨⟨apo.c,h36⟩,fa ⟨⟨apr.c,h39⟩,fa ⟨⟨apq.c,h40⟩,fa ⟨⟨aue.c,h41⟩,fa ⟨⟨ar6.c,h43⟩,fa ⟨⟨aiD.c,h44⟩,fa ⟨⟨agY.c,h48⟩,fa ⟨⟨aui.c,h62⟩,f0⟩⟩⟩⟩⟩⟩⟩⟩⟩⟩⟩⟩⟩)
theorem ayv:af (c17)=[]:=by kernel_rfl
noncomputable def l17:List Loop:=[]
def Q17 {α:Type} (l:Option (nQ).den->α) (an:α->α->α) (x:(a17).den):α:=cl (vN).dflt (OM ()) (fun u0=>cl (MF).dflt (XV (u0.1,((1:Int),()))) (fun u1=>cl (vN).dflt (OM ()) (fun u2=>cl (OK).dflt (M19 (u0.1,())) (fun u3=>cl (vN).dflt (OM ()) (fun u4=>cl (Pz).dflt (M20 (u0.1,())) (fun u5=>cl (vN).dflt (OM ()) (fun u6=>cl (Re).dflt (M39 (u0.1,((0:Int),((0:Int),())))) (fun u7=>cl (vN).dflt (OM ()) (fun u8=>cl (PE).dflt (M36 (u0.1,((1:Int),((0:Int),())))) (fun u9=>cl (vN).dflt (OM ()) (fun vD=>cl (Rc).dflt (M43 (u0.1,((0:Int),((3:Int),())))) (fun lM=>cl (vN).dflt (OM ()) (fun MA=>cl (Rb).dflt (M40 (u0.1,())) (fun Df=>cl (vN).dflt (OM ()) (fun PX=>cl (OB).dflt (VO (u0.1,())) (fun PB=>bif (!(decide (u1.2.1=(0:Int)))) then l (some (false,())) else bif (!(decide (u3.2.1=(0:Int)))) then l (some (false,())) else bif (!(decide (u5.2.1=(0:Int)))) then l (some (false,())) else bif (!(decide (u7.2.1=(0:Int)))) then l (some (false,())) else bif (!(decide (u9.2.1=(0:Int)))) then l (some (false,())) else bif (!(decide (lM.2.1=(0:Int)))) then l (some (false,())) else bif (!(decide (Df.2.2.1=(0:Int)))) then l (some (false,())) else bif (!(decide (PB.2.1=(0:Int)))) then l (some (false,())) else cl (IN).dflt (VN (u1.1,((⟨2,fun i=>List.getD [((⟨2,fun i=>List.getD [((3:Int),()),((1:Int),())] i ((3:Int),())⟩:Sl _),()),((⟨2,fun i=>List.getD [((1:Int),()),((3:Int),())] i ((1:Int),())⟩:Sl _),())] i ((⟨2,fun i=>List.getD [((3:Int),()),((1:Int),())] i ((3:Int),())⟩:Sl _),())⟩:Sl _),()))) (fun u16=>bif (!u16.1) then l (some (false,())) else cl (IN).dflt (VN (u3.1,((⟨2,fun i=>List.getD [((⟨2,fun i=>List.getD [((1:Int),()),((1:Int),())] i ((1:Int),())⟩:Sl _),()),((⟨1,fun i=>List.getD [((1:Int),())] i ((1:Int),())⟩:Sl _),())] i ((⟨2,fun i=>List.getD [((1:Int),()),((1:Int),())] i ((1:Int),())⟩:Sl _),())⟩:Sl _),()))) (fun Wf=>bif (!Wf.1) then l (some (false,())) else cl (IN).dflt (VN (u5.1,((⟨2,fun i=>List.getD [((⟨2,fun i=>List.getD [((1:Int),()),((1:Int),())] i ((1:Int),())⟩:Sl _),()),((⟨2,fun i=>List.getD [((2:Int),()),((2:Int),())] i ((2:Int),())⟩:Sl _),())] i ((⟨2,fun i=>List.getD [((1:Int),()),((1:Int),())] i ((1:Int),())⟩:Sl _),())⟩:Sl _),()))) (fun VP=>bif (!VP.1) then l (some (false,())) else cl (MI).dflt (M41 (u7.1,((⟨2,fun i=>List.getD [((⟨2,fun i=>List.getD [((0:Int),()),((0:Int),())] i ((0:Int),())⟩:Sl _),()),((⟨3,fun i=>List.getD [((0:Int),()),((0:Int),()),((0:Int),())] i ((0:Int),())⟩:Sl _),())] i ((⟨2,fun i=>List.getD [((0:Int),()),((0:Int),())] i ((0:Int),())⟩:Sl _),())⟩:Sl _),()))) (fun UO=>bif (!UO.1) then l (some (false,())) else cl (oM).dflt (vA ((20:Int),((21:Int),()))) (fun u20=>cl (oM).dflt (vA ((50:Int),((52:Int),()))) (fun u21=>cl (oM).dflt (vA ((74100:Int),((74300:Int),()))) (fun u22=>cl (Es).dflt (PU (u20.1,(u21.1,(u22.1,())))) (fun Dh=>bif ((decide (u9.1.1=Dh.1.1)) && ((decide (u9.1.2.1=Dh.1.2.1)) && ((decide (u9.1.2.2.1=Dh.1.2.2.1)) && ((decide (u9.1.2.2.2.1=Dh.1.2.2.2.1)) && ((decide (u9.1.2.2.2.2.1=Dh.1.2.2.2.2.1)) && ((decide (u9.1.2.2.2.2.2.1=Dh.1.2.2.2.2.2.1)) && true)))))) then cl (oM).dflt (vA ((25:Int),((39:Int),()))) (fun Xd=>cl (oM).dflt (vA ((46:Int),((59:Int),()))) (fun WL=>cl (oM).dflt (vA ((74050:Int),((75050:Int),()))) (fun Xo=>cl (Es).dflt (PU (Xd.1,(WL.1,(Xo.1,())))) (fun Gp=>bif ((decide (lM.1.1=Gp.1.1)) && ((decide (lM.1.2.1=Gp.1.2.1)) && ((decide (lM.1.2.2.1=Gp.1.2.2.1)) && ((decide (lM.1.2.2.2.1=Gp.1.2.2.2.1)) && ((decide (lM.1.2.2.2.2.1=Gp.1.2.2.2.2.1)) && ((decide (lM.1.2.2.2.2.2.1=Gp.1.2.2.2.2.2.1)) && true)))))) then bif (decide (Df.1=(2:Int))) then cl (MI).dflt (M41 (Df.2.1,((⟨3,fun i=>List.getD [((⟨2,fun i=>List.getD [((-1:Int),()),((-1:Int),())] i ((-1:Int),())⟩:Sl _),()),((⟨2,fun i=>List.getD [((0:Int),()),((1:Int),())] i ((0:Int),())⟩:Sl _),()),((⟨1,fun i=>List.getD [((0:Int),())] i ((0:Int),())⟩:Sl _),())] i ((⟨2,fun i=>List.getD [((-1:Int),()),((-1:Int),())] i ((-1:Int),())⟩:Sl _),())⟩:Sl _),()))) (fun u28=>bif u28.1 then l (some ((decide (PB.1=(2:Int))),())) else l (some (false,()))) (l none) else l (some (false,())) else l (some (false,()))) (l none)) (l none)) (l none)) (l none) else l (some (false,()))) (l none)) (l none)) (l none)) (l none)) (l none)) (l none)) (l none)) (l none)) (l none)) (l none)) (l none)) (l none)) (l none)) (l none)) (l none)) (l none)) (l none)) (l none)) (l none)) (l none)) (l none)) (l none)) (l none)) (l none)
def ayy (m18:(Tq).den->Option (MF).den) (m19:(Tu).den->Option (OK).den) (m20:(a20).den->Option (Pz).den) (m23:(Tv).den->Option (IN).den) (m28:(a28).den->Option (OB).den) (m36:(TD).den->Option (PE).den) (m39:(a39).den->Option (Re).den) (m40:(a40).den->Option (Rb).den) (m41:(a41).den->Option (MI).den) (m43:(TR).den->Option (Rc).den) (m44:(a44).den->Option (Es).den) (Ug:(PA).den->Option (oM).den) (ON:(Uh).den->Option (vN).den) {α:Type} (l:Option (nQ).den->α) (an:α->α->α) (x:(a17).den):α:=cl (vN).dflt (ON ()) (fun u0=>cl (MF).dflt (m18 (u0.1,((1:Int),()))) (fun u1=>cl (vN).dflt (ON ()) (fun u2=>cl (OK).dflt (m19 (u0.1,())) (fun u3=>cl (vN).dflt (ON ()) (fun u4=>cl (Pz).dflt (m20 (u0.1,())) (fun u5=>cl (vN).dflt (ON ()) (fun u6=>cl (Re).dflt (m39 (u0.1,((0:Int),((0:Int),())))) (fun u7=>cl (vN).dflt (ON ()) (fun u8=>cl (PE).dflt (m36 (u0.1,((1:Int),((0:Int),())))) (fun u9=>cl (vN).dflt (ON ()) (fun vD=>cl (Rc).dflt (m43 (u0.1,((0:Int),((3:Int),())))) (fun lM=>cl (vN).dflt (ON ()) (fun MA=>cl (Rb).dflt (m40 (u0.1,())) (fun Df=>cl (vN).dflt (ON ()) (fun PX=>cl (OB).dflt (m28 (u0.1,())) (fun PB=>bif (!(decide (u1.2.1=(0:Int)))) then l (some (false,())) else bif (!(decide (u3.2.1=(0:Int)))) then l (some (false,())) else bif (!(decide (u5.2.1=(0:Int)))) then l (some (false,())) else bif (!(decide (u7.2.1=(0:Int)))) then l (some (false,())) else bif (!(decide (u9.2.1=(0:Int)))) then l (some (false,())) else bif (!(decide (lM.2.1=(0:Int)))) then l (some (false,())) else bif (!(decide (Df.2.2.1=(0:Int)))) then l (some (false,())) else bif (!(decide (PB.2.1=(0:Int)))) then l (some (false,())) else cl (IN).dflt (m23 (u1.1,((⟨2,fun i=>List.getD [((⟨2,fun i=>List.getD [((3:Int),()),((1:Int),())] i ((3:Int),())⟩:Sl _),()),((⟨2,fun i=>List.getD [((1:Int),()),((3:Int),())] i ((1:Int),())⟩:Sl _),())] i ((⟨2,fun i=>List.getD [((3:Int),()),((1:Int),())] i ((3:Int),())⟩:Sl _),())⟩:Sl _),()))) (fun u16=>bif (!u16.1) then l (some (false,())) else cl (IN).dflt (m23 (u3.1,((⟨2,fun i=>List.getD [((⟨2,fun i=>List.getD [((1:Int),()),((1:Int),())] i ((1:Int),())⟩:Sl _),()),((⟨1,fun i=>List.getD [((1:Int),())] i ((1:Int),())⟩:Sl _),())] i ((⟨2,fun i=>List.getD [((1:Int),()),((1:Int),())] i ((1:Int),())⟩:Sl _),())⟩:Sl _),()))) (fun Wf=>bif (!Wf.1) then l (some (false,())) else cl (IN).dflt (m23 (u5.1,((⟨2,fun i=>List.getD [((⟨2,fun i=>List.getD [((1:Int),()),((1:Int),())] i ((1:Int),())⟩:Sl _),()),((⟨2,fun i=>List.getD [((2:Int),()),((2:Int),())] i ((2:Int),())⟩:Sl _),())] i ((⟨2,fun i=>List.getD [((1:Int),()),((1:Int),())] i ((1:Int),())⟩:Sl _),())⟩:Sl _),()))) (fun VP=>bif (!VP.1) then l (some (false,())) else cl (MI).dflt (m41 (u7.1,((⟨2,fun i=>List.getD [((⟨2,fun i=>List.getD [((0:Int),()),((0:Int),())] i ((0:Int),())⟩:Sl _),()),((⟨3,fun i=>List.getD [((0:Int),()),((0:Int),()),((0:Int),())] i ((0:Int),())⟩:Sl _),())] i ((⟨2,fun i=>List.getD [((0:Int),()),((0:Int),())] i ((0:Int),())⟩:Sl _),())⟩:Sl _),()))) (fun UO=>bif (!UO.1) then l (some (false,())) else cl (oM).dflt (Ug ((20:Int),((21:Int),()))) (fun u20=>cl (oM).dflt (Ug ((50:Int),((52:Int),()))) (fun u21=>cl (oM).dflt (Ug ((74100:Int),((74300:Int),()))) (fun u22=>cl (Es).dflt (m44 (u20.1,(u21.1,(u22.1,())))) (fun Dh=>bif ((decide (u9.1.1=Dh.1.1)) && ((decide (u9.1.2.1=Dh.1.2.1)) && ((decide (u9.1.2.2.1=Dh.1.2.2.1)) && ((decide (u9.1.2.2.2.1=Dh.1.2.2.2.1)) && ((decide (u9.1.2.2.2.2.1=Dh.1.2.2.2.2.1)) && ((decide (u9.1.2.2.2.2.2.1=Dh.1.2.2.2.2.2.1)) && true)))))) then cl (oM).dflt (Ug ((25:Int),((39:Int),()))) (fun Xd=>cl (oM).dflt (Ug ((46:Int),((59:Int),()))) (fun WL=>cl (oM).dflt (Ug ((74050:Int),((75050:Int),()))) (fun Xo=>cl (Es).dflt (m44 (Xd.1,(WL.1,(Xo.1,())))) (fun Gp=>bif ((decide (lM.1.1=Gp.1.1)) && ((decide (lM.1.2.1=Gp.1.2.1)) && ((decide (lM.1.2.2.1=Gp.1.2.2.1)) && ((decide (lM.1.2.2.2.1=Gp.1.2.2.2.1)) && ((decide (lM.1.2.2.2.2.1=Gp.1.2.2.2.2.1)) && ((decide (lM.1.2.2.2.2.2.1=Gp.1.2.2.2.2.2.1)) && true)))))) then bif (decide (Df.1=(2:Int))) then cl (MI).dflt (m41 (Df.2.1,((⟨3,fun i=>List.getD [((⟨2,fun i=>List.getD [((-1:Int),()),((-1:Int),())] i ((-1:Int),())⟩:Sl _),()),((⟨2,fun i=>List.getD [((0:Int),()),((1:Int),())] i ((0:Int),())⟩:Sl _),()),((⟨1,fun i=>List.getD [((0:Int),())] i ((0:Int),())⟩:Sl _),())] i ((⟨2,fun i=>List.getD [((-1:Int),()),((-1:Int),())] i ((-1:Int),())⟩:Sl _),())⟩:Sl _),()))) (fun u28=>bif u28.1 then l (some ((decide (PB.1=(2:Int))),())) else l (some (false,()))) (l none) else l (some (false,())) else l (some (false,()))) (l none)) (l none)) (l none)) (l none) else l (some (false,()))) (l none)) (l none)) (l none)) (l none)) (l none)) (l none)) (l none)) (l none)) (l none)) (l none)) (l none)) (l none)) (l none)) (l none)) (l none)) (l none)) (l none)) (l none)) (l none)) (l none)) (l none)) (l none)) (l none)) (l none)
theorem ayz (m18:(Tq).den->Option (MF).den) (m19:(Tu).den->Option (OK).den) (m20:(a20).den->Option (Pz).den) (m23:(Tv).den->Option (IN).den) (m28:(a28).den->Option (OB).den) (m36:(TD).den->Option (PE).den) (m39:(a39).den->Option (Re).den) (m40:(a40).den->Option (Rb).den) (m41:(a41).den->Option (MI).den) (m43:(TR).den->Option (Rc).den) (m44:(a44).den->Option (Es).den) (Ug:(PA).den->Option (oM).den) (ON:(Uh).den->Option (vN).den) (x:(a17).den):aI Try.prog E0 (Ctx.of [(18,.pure (gU (τa:=Tq) (τr:=MF) m18)),(19,.pure (gU (τa:=Tu) (τr:=OK) m19)),(20,.pure (gU (τa:=a20) (τr:=Pz) m20)),(23,.pure (gU (τa:=Tv) (τr:=IN) m23)),(28,.pure (gU (τa:=a28) (τr:=OB) m28)),(36,.pure (gU (τa:=TD) (τr:=PE) m36)),(39,.pure (gU (τa:=a39) (τr:=Re) m39)),(40,.pure (gU (τa:=a40) (τr:=Rb) m40)),(41,.pure (gU (τa:=a41) (τr:=MI) m41)),(43,.pure (gU (τa:=TR) (τr:=Rc) m43)),(44,.pure (gU (τa:=a44) (τr:=Es) m44)),(48,.pure (gU (τa:=PA) (τr:=oM) Ug)),(62,.pure (gU (τa:=Uh) (τr:=vN) ON))]) Try.f17 l17 a17 nQ x=ayy m18 m19 m20 m23 m28 m36 m39 m40 m41 m43 m44 Ug ON .leaf .any x:=by kernel_rfl
theorem q17 (x:(a17).den):aI Try.prog E0 G17 Try.f17 l17 a17 nQ x=Q17 .leaf .any x:=ayz XV M19 M20 VN VO M36 M39 M40 M41 M43 PU vA OM x
def qf (x:(a17).den):Option (nQ).den:=Q17 (fun r=>r) (fun _ _=>none) x
theorem m17 (x:(a17).den):(aI Try.prog E0 G17 Try.f17 l17 a17 nQ x).sure=qf x:=by rw [q17]; unfold qf Q17; simp only [Tree.sure,iO]
def p17 (x:(a17).den):Bool:=(qf x).isSome
def v17 (x:(a17).den):(nQ).den:=(qf x).getD (nQ).dflt
def k17:ee:=⟨a17,nQ,p17,v17⟩
theorem h17:Holds Try.prog 17 k17:=aC (E:=E0) aA g17 aB au acz.a acz.b (by kernel_rfl) m17 fun G' hlo hF hE=>ai (by rw [ayv]; exact .nil)
noncomputable def c8:=zo Try.f8
theorem cl8:zq 8 Try.f8 c8:=zu
abbrev ayA:Ty:=(.cons tI T6)
abbrev aIo:Ty:=(.cons PV ayA)
abbrev a8:Ty:=aIo
abbrev r8:Ty:=T3
noncomputable def G8:Ctx:=Ctx.of [(16,.pure k16),(17,.pure k17),(18,.pure k18),(19,.pure k19),(21,.pure k21),(31,.pure k31),(35,.pure k35),(36,.pure k36),(44,.pure k44),(45,.pure k45)]
theorem g8:SP G8:=aD (fa ⟨⟨aeP.c,h16⟩,fa ⟨⟨acz.c,h17⟩,fa ⟨⟨alY.c,h18⟩,fa ⟨⟨al3.c,h19⟩,fa ⟨⟨aeR.c,h21⟩,fa ⟨⟨aO9.c,h31⟩,fa ⟨⟨aPa.c,h35⟩,fa ⟨⟨apo.c,h36⟩,fa ⟨⟨aiD.c,h44⟩,fa ⟨⟨aVU.c,h45⟩,f0⟩⟩⟩⟩⟩⟩⟩⟩⟩⟩)
noncomputable def aJ2:Code:=aG ((af (c8))[0]?)
noncomputable def azb:Code:=aG ((af (aJ2))[0]?)
theorem aPl:af (azb)=[]:=by kernel_rfl
abbrev aft:List aL:=[.slot 1 (.pc tI),.slot 2 (.pc tI),.slot 6 (.pc tI),.slot 7 (.pc tI),.slot 8 (.ptr 8),.slot 17 (.ptr 857),.slot 18 (.pc tI),.slot 19 (.ptr 1858440),.box 8 [.pc eX,.pc tI,.pc tI,.pc tI,.pc tI],.box 857 [.own 1858000 44 T15,.pc tI,.pc tI,.pc tI,.pc tI]]
abbrev UN:List aL:=[.slot 20 (.pc tI),.box 1858440 [.pc tI,.own 1859441001 54 T6]]
abbrev ap4:List aL:=aft ++ UN
def aJ3:ZJ aft UN ap4:=ZA _ _
def afu:ZS aft UN ap4:=ZP _ _
abbrev anY:aO:=⟨[(2,[.slot 1 (.pc tI),.slot 2 (.pc tI),.slot 6 (.pc tI),.slot 7 (.pc tI),.slot 8 (.ptr 8),.slot 17 (.ptr 857),.slot 18 (.pc tI),.slot 19 (.ptr 1858440),.box 8 [.pc eX,.pc tI,.pc tI,.pc tI,.pc tI],.box 857 [.own 1858000 44 T15,.pc tI,.pc tI,.pc tI,.pc tI],.box 1858440 [.pc tI,.own 1859441001 54 T6]])],[],[]⟩
abbrev anZ:aO:=⟨[(2,[.box 1858440 [.pc tI,.own 1859441001 54 T6]])],[],[]⟩
def ap5:ZE aft anZ anY:=fun id=>match id with | 2=>fun c y=>(c.1,(c.2.1,(c.2.2.1,(c.2.2.2.1,(c.2.2.2.2.1,(c.2.2.2.2.2.1,(c.2.2.2.2.2.2.1,(c.2.2.2.2.2.2.2.1,(c.2.2.2.2.2.2.2.2.1,(c.2.2.2.2.2.2.2.2.2.1,y)))))))))) | _=>jm
def atB {α:Type} (l:RQ UN anZ->α) (an:α->α->α) (c:ZD aft) (v:ZD UN):α:=bif (decide (((0:Int)<=c.2.2.2.2.2.2.1)/\(c.2.2.2.2.2.2.1 < ((c.2.2.2.2.2.2.2.2.1.1.n:Nat):Int)))) then bif (decide (v.1 < (((c.2.2.2.2.2.2.2.2.1.1.g (Int.toNat c.2.2.2.2.2.2.1)).2.1.n:Nat):Int))) then bif (decide (((0:Int)<=c.2.2.2.2.2.2.1)/\(c.2.2.2.2.2.2.1 < ((c.2.2.2.2.2.2.2.2.1.1.n:Nat):Int)))) then bif (decide (((0:Int)<=v.1)/\(v.1 < (((c.2.2.2.2.2.2.2.2.1.1.g (Int.toNat c.2.2.2.2.2.2.1)).2.1.n:Nat):Int)))) then cl (r45).dflt (M45 ((((c.2.2.2.2.2.2.2.2.1.1.g (Int.toNat c.2.2.2.2.2.2.1)).2.1.g (Int.toNat v.1)).1,(((c.2.2.2.2.2.2.2.2.1.1.g (Int.toNat c.2.2.2.2.2.2.1)).2.1.g (Int.toNat v.1)).2.1,())),(c.1,(c.2.1,())))) (fun u0=>cl (r45).dflt (M45 ((((c.2.2.2.2.2.2.2.2.1.1.g (Int.toNat c.2.2.2.2.2.2.1)).2.1.g (Int.toNat v.1)).2.2.1,(((c.2.2.2.2.2.2.2.2.1.1.g (Int.toNat c.2.2.2.2.2.2.1)).2.1.g (Int.toNat v.1)).2.2.2.1,())),(c.1,(c.2.1,())))) (fun u1=>cl (r45).dflt (M45 (((c.2.2.2.2.2.2.2.2.1.1.g (Int.toNat c.2.2.2.2.2.2.1)).2.1.g (Int.toNat v.1)).2.2.2.2,(c.1,(c.2.1,())))) (fun u2=>cl (Es).dflt (PU (u0.1,(u1.1,(u2.1,())))) (fun u3=>bif (decide (((v.2.1.2.1.n + 1) * 48)<=140737488355328)) then l (.next ((W (v.1 + (1:Int))),((v.2.1.1,((cK v.2.1.2.1 (⟨1,fun i=>List.getD [u3.1] i u3.1⟩:Sl (Ty.den T6))),())),()))) else l .bad) (l .bad)) (l .bad)) (l .bad)) (l .bad) else l .bad else l .bad else l (.out (.exit 2 (v.2.1,()))) else l .bad
theorem aTv:ZO G8 0 420 azb [] aJ3 ap5 ZI ZI atB:=fun _ _=>by kernel_rfl
def atC (c:ZD aft) (v:ZD UN):RQ UN anZ:=atB (fun r=>r) (fun _ _=>.bad) c v
theorem aTw:SO G8 0 420 azb [] aJ3 ap5 ZI ZI atC:=fun c v=>by rw [aTv]; unfold atC atB; simp only [bu,aM,pM]
def atD (c:ZD aft) (v:ZD UN):LQ anZ:=aH (atC c) cz v
theorem aWf:af (aJ2)=[.loop azb]:=by kernel_rfl
abbrev atE:List aL:=[.slot 1 (.pc tI),.slot 2 (.pc tI),.slot 6 (.pc tI),.slot 7 (.pc tI),.slot 8 (.ptr 8),.slot 17 (.ptr 857),.box 8 [.pc eX,.pc tI,.pc tI,.pc tI,.pc tI]]
abbrev ah6:List aL:=[.slot 18 (.pc tI),.box 857 [.own 1858000 44 T15,.pc tI,.pc tI,.pc tI,.pc tI]]
abbrev aQp:List aL:=atE ++ ah6
def aWg:ZJ atE ah6 aQp:=ZA _ _
def aQq:ZS atE ah6 aQp:=ZP _ _
abbrev aWh:aO:=⟨[(0,[.slot 6 (.pc tI),.slot 7 (.pc tI),.slot 8 (.ptr 8),.slot 17 (.ptr 857),.box 8 [.pc eX,.pc tI,.pc tI,.pc tI,.pc tI],.box 857 [.own 1858000 44 T15,.pc tI,.pc tI,.pc tI,.pc tI]])],[],[]⟩
abbrev aAy:aO:=⟨[(0,[.box 857 [.own 1858000 44 T15,.pc tI,.pc tI,.pc tI,.pc tI]])],[],[]⟩
def aJ4:ZE atE aAy aWh:=fun id=>match id with | 0=>fun c y=>(c.2.2.1,(c.2.2.2.1,(c.2.2.2.2.1,(c.2.2.2.2.2.1,(c.2.2.2.2.2.2.1,y))))) | _=>jm
def aJ5 {α:Type} (l:RQ ah6 aAy->α) (an:α->α->α) (c:ZD atE) (v:ZD ah6):α:=bif (decide (v.1 < ((c.2.2.2.2.2.2.1.1.n:Nat):Int))) then bif (decide (((0:Int)<=v.1)/\(v.1 < ((c.2.2.2.2.2.2.1.1.n:Nat):Int)))) then aF (atD (c.1,(c.2.1,(c.2.2.1,(c.2.2.2.1,((),((),(v.1,((),(c.2.2.2.2.2.2.1,(v.2.1,())))))))))) ((0:Int),(((c.2.2.2.2.2.2.1.1.g (Int.toNat v.1)).1,((⟨0,fun i=>((0:Int),((0:Int),((0:Int),((0:Int),((0:Int),((0:Int),()))))))⟩:Sl _),())),()))) 2 (fun u4=>bif (decide (((v.2.1.1.n + 1) * 32)<=140737488355328)) then l (.next ((W (v.1 + (1:Int))),(((cK v.2.1.1 (⟨1,fun i=>List.getD [u4.1] i u4.1⟩:Sl (Ty.den T15))),v.2.1.2),()))) else l .bad) (l .bad) else l .bad else l (.out (.exit 0 (v.2.1,())))
theorem aZ4:ZO G8 0 420 aJ2 [.known (bF 0 [] ap4 fun x=>aJ anY ap5 ZI ZI [] false (afu x).1 (atD (afu x).1 (afu x).2) anY.bw)] aWg aJ4 ZI ZI aJ5:=fun _ _=>by kernel_rfl
def aJ6 (c:ZD atE) (v:ZD ah6):RQ ah6 aAy:=aJ5 (fun r=>r) (fun _ _=>.bad) c v
theorem aZ5:SO G8 0 420 aJ2 [.known (bF 0 [] ap4 fun x=>aJ anY ap5 ZI ZI [] false (afu x).1 (atD (afu x).1 (afu x).2) anY.bw)] aWg aJ4 ZI ZI aJ6:=fun c v=>by rw [aZ4]; unfold aJ6 aJ5; simp only [bu,aM,pM]
def aPm (c:ZD atE) (v:ZD ah6):LQ aAy:=aH (aJ6 c) cz v
noncomputable def aJ7:Code:=aG ((af (c8))[1]?)
noncomputable def azc:Code:=aG ((af (aJ7))[0]?)
theorem aPn:af (azc)=[]:=by kernel_rfl
abbrev afv:List aL:=[.slot 6 (.pc tI),.slot 8 (.ptr 8),.slot 17 (.ptr 857),.slot 22 (.pc ec),.slot 24 (.pc ec),.slot 30 (.pc tI),.box 8 [.pc eX,.pc tI,.pc tI,.pc tI,.pc tI],.box 857 [.own 1858000 44 T15,.pc tI,.pc tI,.pc tI,.pc tI]]
abbrev Qb:List aL:=[.slot 31 (.pc tI)]
abbrev ap6:List aL:=afv ++ Qb
def aJ8:ZJ afv Qb ap6:=ZA _ _
def afw:ZS afv Qb ap6:=ZP _ _
abbrev an0:aO:=⟨[(6,[.slot 6 (.pc tI),.slot 8 (.ptr 8),.slot 17 (.ptr 857),.slot 22 (.pc ec),.slot 24 (.pc ec),.slot 30 (.pc tI),.box 8 [.pc eX,.pc tI,.pc tI,.pc tI,.pc tI],.box 857 [.own 1858000 44 T15,.pc tI,.pc tI,.pc tI,.pc tI]])],[.slot 16 (.pc .bool)],[]⟩
abbrev aiu:aO:=⟨[(6,[])],[.slot 16 (.pc .bool)],[]⟩
def ap7:ZE afv aiu an0:=fun id=>match id with | 6=>fun c y=>(c.1,(c.2.1,(c.2.2.1,(c.2.2.2.1,(c.2.2.2.2.1,(c.2.2.2.2.2.1,(c.2.2.2.2.2.2.1,(c.2.2.2.2.2.2.2.1,y)))))))) | _=>jm
def atF {α:Type} (l:RQ Qb aiu->α) (an:α->α->α) (c:ZD afv) (v:ZD Qb):α:=bif (decide (((0:Int)<=c.2.2.2.2.2.1)/\(c.2.2.2.2.2.1 < ((c.2.2.2.1.n:Nat):Int)))) then bif (decide (v.1 < (((c.2.2.2.1.g (Int.toNat c.2.2.2.2.2.1)).1.n:Nat):Int))) then bif (decide (((0:Int)<=c.2.2.2.2.2.1)/\(c.2.2.2.2.2.1 < ((c.2.2.2.1.n:Nat):Int)))) then bif (decide (((0:Int)<=v.1)/\(v.1 < (((c.2.2.2.1.g (Int.toNat c.2.2.2.2.2.1)).1.n:Nat):Int)))) then bif (!(decide (((c.2.2.2.1.g (Int.toNat c.2.2.2.2.2.1)).1.g (Int.toNat v.1)).1=(2:Int)))) then bif (decide (((0:Int)<=c.2.2.2.2.2.1)/\(c.2.2.2.2.2.1 < ((c.2.2.2.2.1.n:Nat):Int)))) then bif (decide (((0:Int)<=v.1)/\(v.1 < (((c.2.2.2.2.1.g (Int.toNat c.2.2.2.2.2.1)).1.n:Nat):Int)))) then bif (decide (((0:Int)<=c.2.2.2.2.2.1)/\(c.2.2.2.2.2.1 < ((c.2.2.2.1.n:Nat):Int)))) then bif (decide (((0:Int)<=v.1)/\(v.1 < (((c.2.2.2.1.g (Int.toNat c.2.2.2.2.2.1)).1.n:Nat):Int)))) then bif (!(decide (((c.2.2.2.2.1.g (Int.toNat c.2.2.2.2.2.1)).1.g (Int.toNat v.1)).1=((c.2.2.2.1.g (Int.toNat c.2.2.2.2.2.1)).1.g (Int.toNat v.1)).1))) then l (.out (.ret (false,()))) else l (.next ((W (v.1 + (1:Int))),())) else l .bad else l .bad else l .bad else l .bad else l (.next ((W (v.1 + (1:Int))),())) else l .bad else l .bad else l (.out (.exit 6 ())) else l .bad
theorem aTx:ZO G8 0 420 azc [] aJ8 ap7 ZI ZI atF:=fun _ _=>by kernel_rfl
def atG (c:ZD afv) (v:ZD Qb):RQ Qb aiu:=atF (fun r=>r) (fun _ _=>.bad) c v
theorem aTy:SO G8 0 420 azc [] aJ8 ap7 ZI ZI atG:=fun c v=>by rw [aTx]; unfold atG atF; simp only [bu,aM,pM]
def aoP (c:ZD afv) (v:ZD Qb):LQ aiu:=aH (atG c) cz v
theorem aWi:af (aJ7)=[.loop azc]:=by kernel_rfl
abbrev atH:List aL:=[.slot 6 (.pc tI),.slot 8 (.ptr 8),.slot 17 (.ptr 857),.slot 22 (.pc ec),.slot 24 (.pc ec),.box 8 [.pc eX,.pc tI,.pc tI,.pc tI,.pc tI],.box 857 [.own 1858000 44 T15,.pc tI,.pc tI,.pc tI,.pc tI]]
abbrev ah7:List aL:=[.slot 30 (.pc tI)]
abbrev aQr:List aL:=atH ++ ah7
def aWj:ZJ atH ah7 aQr:=ZA _ _
def aQs:ZS atH ah7 aQr:=ZP _ _
abbrev aWk:aO:=⟨[(4,[.slot 6 (.pc tI),.slot 8 (.ptr 8),.slot 17 (.ptr 857),.box 8 [.pc eX,.pc tI,.pc tI,.pc tI,.pc tI],.box 857 [.own 1858000 44 T15,.pc tI,.pc tI,.pc tI,.pc tI]])],[.slot 16 (.pc .bool)],[]⟩
abbrev aAz:aO:=⟨[(4,[])],[.slot 16 (.pc .bool)],[]⟩
def aJ9:ZE atH aAz aWk:=fun id=>match id with | 4=>fun c y=>(c.1,(c.2.1,(c.2.2.1,(c.2.2.2.2.2.1,(c.2.2.2.2.2.2.1,y))))) | _=>jm
def aKa {α:Type} (l:RQ ah7 aAz->α) (an:α->α->α) (c:ZD atH) (v:ZD ah7):α:=bif (decide (v.1 < ((c.2.2.2.1.n:Nat):Int))) then bif (decide (((0:Int)<=v.1)/\(v.1 < ((c.2.2.2.1.n:Nat):Int)))) then bif (decide (((0:Int)<=v.1)/\(v.1 < ((c.2.2.2.2.1.n:Nat):Int)))) then bif (!(decide ((((c.2.2.2.1.g (Int.toNat v.1)).1.n:Nat):Int)=(((c.2.2.2.2.1.g (Int.toNat v.1)).1.n:Nat):Int)))) then l (.out (.ret (false,()))) else aF (aoP (c.1,((),((),(c.2.2.2.1,(c.2.2.2.2.1,(v.1,(c.2.2.2.2.2.1,(c.2.2.2.2.2.2.1,())))))))) ((0:Int),())) 6 (fun u5=>l (.next ((W (v.1 + (1:Int))),()))) (bS (aoP (c.1,((),((),(c.2.2.2.1,(c.2.2.2.2.1,(v.1,(c.2.2.2.2.2.1,(c.2.2.2.2.2.2.1,())))))))) ((0:Int),())) (fun u6=>l (.out (.ret u6))) (l .bad)) else l .bad else l .bad else l (.out (.exit 4 ()))
theorem aZ6:ZO G8 0 420 aJ7 [.known (bF 0 [] ap6 fun x=>aJ an0 ap7 ZI ZI [] true (afw x).1 (aoP (afw x).1 (afw x).2) an0.bw)] aWj aJ9 ZI ZI aKa:=fun _ _=>by kernel_rfl
def aKb (c:ZD atH) (v:ZD ah7):RQ ah7 aAz:=aKa (fun r=>r) (fun _ _=>.bad) c v
theorem aZ7:SO G8 0 420 aJ7 [.known (bF 0 [] ap6 fun x=>aJ an0 ap7 ZI ZI [] true (afw x).1 (aoP (afw x).1 (afw x).2) an0.bw)] aWj aJ9 ZI ZI aKb:=fun c v=>by rw [aZ6]; unfold aKb aKa; simp only [bu,aM,pM]
def aD8 (c:ZD atH) (v:ZD ah7):LQ aAz:=aH (aKb c) cz v
noncomputable def aKc:Code:=aG ((af (c8))[2]?)
noncomputable def azd:Code:=aG ((af (aKc))[0]?)
theorem aPo:af (azd)=[]:=by kernel_rfl
abbrev afx:List aL:=[.slot 32 (.pc ec),.slot 34 (.pc ec),.slot 36 (.pc tI),.slot 37 (.pc tI),.slot 38 (.pc tI)]
abbrev Qc:List aL:=[.slot 39 (.pc tI)]
abbrev ap8:List aL:=afx ++ Qc
def aKd:ZJ afx Qc ap8:=ZA _ _
def afy:ZS afx Qc ap8:=ZP _ _
abbrev an1:aO:=⟨[(10,[.slot 32 (.pc ec),.slot 34 (.pc ec),.slot 36 (.pc tI),.slot 37 (.pc tI),.slot 38 (.pc tI)])],[.slot 16 (.pc .bool)],[]⟩
abbrev aiv:aO:=⟨[(10,[])],[.slot 16 (.pc .bool)],[]⟩
def ap9:ZE afx aiv an1:=fun id=>match id with | 10=>fun c y=>(c.1,(c.2.1,(c.2.2.1,(c.2.2.2.1,(c.2.2.2.2.1,y))))) | _=>jm
def atI {α:Type} (l:RQ Qc aiv->α) (an:α->α->α) (c:ZD afx) (v:ZD Qc):α:=bif (decide (v.1 < c.2.2.2.1)) then bif (decide (((0:Int)<=c.2.2.2.2.1)/\(c.2.2.2.2.1 < ((c.1.n:Nat):Int)))) then bif (decide (((0:Int)<=v.1)/\(v.1 < (((c.1.g (Int.toNat c.2.2.2.2.1)).1.n:Nat):Int)))) then bif (!(decide (((c.1.g (Int.toNat c.2.2.2.2.1)).1.g (Int.toNat v.1)).1=(2:Int)))) then bif (decide (((0:Int)<=c.2.2.2.2.1)/\(c.2.2.2.2.1 < ((c.2.1.n:Nat):Int)))) then bif (decide (((0:Int)<=v.1)/\(v.1 < (((c.2.1.g (Int.toNat c.2.2.2.2.1)).1.n:Nat):Int)))) then bif (decide (((0:Int)<=c.2.2.2.2.1)/\(c.2.2.2.2.1 < ((c.1.n:Nat):Int)))) then bif (decide (((0:Int)<=v.1)/\(v.1 < (((c.1.g (Int.toNat c.2.2.2.2.1)).1.n:Nat):Int)))) then bif (!(decide (((c.2.1.g (Int.toNat c.2.2.2.2.1)).1.g (Int.toNat v.1)).1=((c.1.g (Int.toNat c.2.2.2.2.1)).1.g (Int.toNat v.1)).1))) then l (.out (.ret (false,()))) else l (.next ((W (v.1 + (1:Int))),())) else l .bad else l .bad else l .bad else l .bad else l (.next ((W (v.1 + (1:Int))),())) else l .bad else l .bad else l (.out (.exit 10 ()))
theorem aTz:ZO G8 0 420 azd [] aKd ap9 ZI ZI atI:=fun _ _=>by kernel_rfl
def atJ (c:ZD afx) (v:ZD Qc):RQ Qc aiv:=atI (fun r=>r) (fun _ _=>.bad) c v
theorem aTA:SO G8 0 420 azd [] aKd ap9 ZI ZI atJ:=fun c v=>by rw [aTz]; unfold atJ atI; simp only [bu,aM,pM]
def aoQ (c:ZD afx) (v:ZD Qc):LQ aiv:=aH (atJ c) cz v
theorem aWl:af (aKc)=[.loop azd]:=by kernel_rfl
abbrev atK:List aL:=[.slot 32 (.pc ec),.slot 34 (.pc ec),.slot 36 (.pc tI),.slot 37 (.pc tI)]
abbrev ah8:List aL:=[.slot 38 (.pc tI)]
abbrev aQt:List aL:=atK ++ ah8
def aWm:ZJ atK ah8 aQt:=ZA _ _
def aQu:ZS atK ah8 aQt:=ZP _ _
abbrev aWn:aO:=⟨[(8,[])],[.slot 16 (.pc .bool)],[]⟩
abbrev aAA:aO:=⟨[(8,[])],[.slot 16 (.pc .bool)],[]⟩
def aKe:ZE atK aAA aWn:=fun id=>match id with | 8=>fun c y=>y | _=>jm
def aKf {α:Type} (l:RQ ah8 aAA->α) (an:α->α->α) (c:ZD atK) (v:ZD ah8):α:=bif (decide (v.1 < c.2.2.1)) then aF (aoQ (c.1,(c.2.1,(c.2.2.1,(c.2.2.2.1,v)))) ((0:Int),())) 10 (fun u7=>l (.next ((W (v.1 + (1:Int))),()))) (bS (aoQ (c.1,(c.2.1,(c.2.2.1,(c.2.2.2.1,v)))) ((0:Int),())) (fun u8=>l (.out (.ret u8))) (l .bad)) else l (.out (.exit 8 ()))
theorem aZ8:ZO G8 0 420 aKc [.known (bF 0 [] ap8 fun x=>aJ an1 ap9 ZI ZI [] true (afy x).1 (aoQ (afy x).1 (afy x).2) an1.bw)] aWm aKe ZI ZI aKf:=fun _ _=>by kernel_rfl
def aKg (c:ZD atK) (v:ZD ah8):RQ ah8 aAA:=aKf (fun r=>r) (fun _ _=>.bad) c v
theorem aZ9:SO G8 0 420 aKc [.known (bF 0 [] ap8 fun x=>aJ an1 ap9 ZI ZI [] true (afy x).1 (aoQ (afy x).1 (afy x).2) an1.bw)] aWm aKe ZI ZI aKg:=fun c v=>by rw [aZ8]; unfold aKg aKf; simp only [bu,aM,pM]
def aD9 (c:ZD atK) (v:ZD ah8):LQ aAA:=aH (aKg c) cz v
theorem lo8:af (c8)=[.loop aJ2,.loop aJ7,.loop aKc]:=by kernel_rfl
noncomputable def l8:List Loop:=[lk 0 aJ4 ZI ZI false aQq aPm,lk 0 aJ9 ZI ZI true aQs aD8,lk 0 aKe ZI ZI true aQu aD9]
def Q8 {α:Type} (l:Option (r8).den->α) (an:α->α->α) (x:(a8).den):α:=cl (WZ).dflt (Yz (x.1,())) (fun u9=>bif (!u9.1) then cl (nQ).dflt (qf ()) (fun vD=>l (some vD)) (l none) else cl (Rf).dflt (Sj (x.1,())) (fun lM=>bif (!lM.1) then cl (nQ).dflt (qf ()) (fun MA=>l (some MA)) (l none) else bif (decide (x.2.1 < (0:Int))) then cl (nQ).dflt (qf ()) (fun Df=>l (some Df)) (l none) else bif (decide (x.2.2.1 < x.2.1)) then cl (nQ).dflt (qf ()) (fun PX=>l (some PX)) (l none) else bif (decide ((100:Int) < x.2.2.1)) then cl (nQ).dflt (qf ()) (fun PB=>l (some PB)) (l none) else bif (decide (x.2.2.2.1 < (0:Int))) then cl (nQ).dflt (qf ()) (fun u16=>l (some u16)) (l none) else bif (decide (x.1.2.1 < x.2.2.2.1)) then cl (nQ).dflt (qf ()) (fun Wf=>l (some Wf)) (l none) else bif (decide (x.2.2.2.2.1 < (0:Int))) then cl (nQ).dflt (qf ()) (fun VP=>l (some VP)) (l none) else bif (decide (x.1.2.2.2.1 < x.2.2.2.2.1)) then cl (nQ).dflt (qf ()) (fun UO=>l (some UO)) (l none) else bif (decide (x.2.2.2.2.2.1 < (0:Int))) then cl (nQ).dflt (qf ()) (fun u20=>l (some u20)) (l none) else bif (decide (x.1.2.2.2.2.1 < x.2.2.2.2.2.1)) then cl (nQ).dflt (qf ()) (fun u21=>l (some u21)) (l none) else cl (r35).dflt (M35 (x.1,x.2.2.2.2.2.2)) (fun u22=>bif (!u22.1) then cl (nQ).dflt (qf ()) (fun Dh=>l (some Dh)) (l none) else aF (aPm (x.2.1,(x.2.2.1,(x.2.2.2.2.2.2.1,(x.2.2.2.2.2.2.2.1,((),((),(x.1,()))))))) ((0:Int),(((⟨0,fun i=>((0:Int),((⟨0,fun i=>((0:Int),((0:Int),((0:Int),((0:Int),((0:Int),((0:Int),()))))))⟩:Sl _),()))⟩:Sl _),(x.2.2.2.1,(x.1.2.2.1,(x.2.2.2.2.1,(x.2.2.2.2.2.1,()))))),()))) 0 (fun Xd=>cl (OK).dflt (M19 (x.1,())) (fun WL=>cl (OK).dflt (M19 (Xd.1,())) (fun Xo=>cl (PE).dflt (M36 (x.1,x.2.2.2.2.2.2)) (fun Gp=>cl (PE).dflt (M36 (Xd.1,x.2.2.2.2.2.2)) (fun u28=>bif (decide (Xo.2.1=(0:Int))) then bif (!(decide (WL.2.1=(0:Int)))) then l (some (false,())) else bif (!(decide (Gp.2.1=WL.2.1))) then l (some (false,())) else bif (!(decide (u28.2.1=Xo.2.1))) then l (some (false,())) else bif (!(decide (Xo.2.1=(0:Int)))) then bif (decide (Xo.2.1=(7:Int))) then cl (nQ).dflt (qf ()) (fun u29=>l (some u29)) (l none) else l (some (false,())) else bif (!(decide (((WL.1.n:Nat):Int)=(W (((x.1.1.n:Nat):Int) - (1:Int)))))) then l (some (false,())) else bif (!(decide (((Xo.1.n:Nat):Int)=((WL.1.n:Nat):Int)))) then l (some (false,())) else bif (decide (u28.1.1 < Gp.1.1)) then l (some (false,())) else bif (decide (Gp.1.2.1 < u28.1.2.1)) then l (some (false,())) else bif (decide (u28.1.2.2.1 < Gp.1.2.2.1)) then l (some (false,())) else bif (decide (Gp.1.2.2.2.1 < u28.1.2.2.2.1)) then l (some (false,())) else bif (decide (u28.1.2.2.2.2.1 < Gp.1.2.2.2.2.1)) then l (some (false,())) else bif (decide (Gp.1.2.2.2.2.2.1 < u28.1.2.2.2.2.2.1)) then l (some (false,())) else aF (aD8 (x.2.2.2.2.2.2.1,((),((),(WL.1,(Xo.1,(x.1,(Xd.1,()))))))) ((0:Int),())) 4 (fun u30=>bif (decide (x.2.2.2.2.2.2.1=(0:Int))) then cl (nQ).dflt (qf ()) (fun u31=>l (some u31)) (l none) else cl (MF).dflt (XV (x.1,(x.2.2.2.2.2.2.1,()))) (fun u32=>cl (MF).dflt (XV (Xd.1,(x.2.2.2.2.2.2.1,()))) (fun u33=>bif (decide (((0:Int)<=x.2.2.2.2.2.2.1)/\(x.2.2.2.2.2.2.1 < ((x.1.1.n:Nat):Int)))) then bif (decide (((0:Int)<=(W (x.2.2.2.2.2.2.1 - (1:Int))))/\((W (x.2.2.2.2.2.2.1 - (1:Int))) < ((x.1.1.n:Nat):Int)))) then bif (!(decide (u32.2.1=(0:Int)))) then l (some (false,())) else bif (!(decide (u33.2.1=(0:Int)))) then l (some (false,())) else cl (r31).dflt (M31 (u32.1,((((x.1.1.g (Int.toNat x.2.2.2.2.2.2.1)).2.1.n:Nat):Int),((((x.1.1.g (Int.toNat (W (x.2.2.2.2.2.2.1 - (1:Int))))).2.1.n:Nat):Int),())))) (fun u34=>bif (!u34.1) then l (some (false,())) else cl (r31).dflt (M31 (u33.1,((((x.1.1.g (Int.toNat x.2.2.2.2.2.2.1)).2.1.n:Nat):Int),((((x.1.1.g (Int.toNat (W (x.2.2.2.2.2.2.1 - (1:Int))))).2.1.n:Nat):Int),())))) (fun u35=>bif (!u35.1) then l (some (false,())) else aF (aD9 (u32.1,(u33.1,((((x.1.1.g (Int.toNat x.2.2.2.2.2.2.1)).2.1.n:Nat):Int),((((x.1.1.g (Int.toNat (W (x.2.2.2.2.2.2.1 - (1:Int))))).2.1.n:Nat):Int),())))) ((0:Int),())) 8 (fun u36=>cl (nQ).dflt (qf ()) (fun u37=>l (some u37)) (l none)) (bS (aD9 (u32.1,(u33.1,((((x.1.1.g (Int.toNat x.2.2.2.2.2.2.1)).2.1.n:Nat):Int),((((x.1.1.g (Int.toNat (W (x.2.2.2.2.2.2.1 - (1:Int))))).2.1.n:Nat):Int),())))) ((0:Int),())) (fun u38=>l (some u38)) (l none))) (l none)) (l none) else l none else l none) (l none)) (l none)) (bS (aD8 (x.2.2.2.2.2.2.1,((),((),(WL.1,(Xo.1,(x.1,(Xd.1,()))))))) ((0:Int),())) (fun u39=>l (some u39)) (l none)) else bif (!(decide (Gp.2.1=WL.2.1))) then l (some (false,())) else bif (!(decide (u28.2.1=Xo.2.1))) then l (some (false,())) else bif (!(decide (Xo.2.1=(0:Int)))) then bif (decide (Xo.2.1=(7:Int))) then cl (nQ).dflt (qf ()) (fun u40=>l (some u40)) (l none) else l (some (false,())) else bif (!(decide (((WL.1.n:Nat):Int)=(W (((x.1.1.n:Nat):Int) - (1:Int)))))) then l (some (false,())) else bif (!(decide (((Xo.1.n:Nat):Int)=((WL.1.n:Nat):Int)))) then l (some (false,())) else bif (decide (u28.1.1 < Gp.1.1)) then l (some (false,())) else bif (decide (Gp.1.2.1 < u28.1.2.1)) then l (some (false,())) else bif (decide (u28.1.2.2.1 < Gp.1.2.2.1)) then l (some (false,())) else bif (decide (Gp.1.2.2.2.1 < u28.1.2.2.2.1)) then l (some (false,())) else bif (decide (u28.1.2.2.2.2.1 < Gp.1.2.2.2.2.1)) then l (some (false,())) else bif (decide (Gp.1.2.2.2.2.2.1 < u28.1.2.2.2.2.2.1)) then l (some (false,())) else aF (aD8 (x.2.2.2.2.2.2.1,((),((),(WL.1,(Xo.1,(x.1,(Xd.1,()))))))) ((0:Int),())) 4 (fun u41=>bif (decide (x.2.2.2.2.2.2.1=(0:Int))) then cl (nQ).dflt (qf ()) (fun u42=>l (some u42)) (l none) else cl (MF).dflt (XV (x.1,(x.2.2.2.2.2.2.1,()))) (fun u43=>cl (MF).dflt (XV (Xd.1,(x.2.2.2.2.2.2.1,()))) (fun u44=>bif (decide (((0:Int)<=x.2.2.2.2.2.2.1)/\(x.2.2.2.2.2.2.1 < ((x.1.1.n:Nat):Int)))) then bif (decide (((0:Int)<=(W (x.2.2.2.2.2.2.1 - (1:Int))))/\((W (x.2.2.2.2.2.2.1 - (1:Int))) < ((x.1.1.n:Nat):Int)))) then bif (!(decide (u43.2.1=(0:Int)))) then l (some (false,())) else bif (!(decide (u44.2.1=(0:Int)))) then l (some (false,())) else cl (r31).dflt (M31 (u43.1,((((x.1.1.g (Int.toNat x.2.2.2.2.2.2.1)).2.1.n:Nat):Int),((((x.1.1.g (Int.toNat (W (x.2.2.2.2.2.2.1 - (1:Int))))).2.1.n:Nat):Int),())))) (fun u45=>bif (!u45.1) then l (some (false,())) else cl (r31).dflt (M31 (u44.1,((((x.1.1.g (Int.toNat x.2.2.2.2.2.2.1)).2.1.n:Nat):Int),((((x.1.1.g (Int.toNat (W (x.2.2.2.2.2.2.1 - (1:Int))))).2.1.n:Nat):Int),())))) (fun u46=>bif (!u46.1) then l (some (false,())) else aF (aD9 (u43.1,(u44.1,((((x.1.1.g (Int.toNat x.2.2.2.2.2.2.1)).2.1.n:Nat):Int),((((x.1.1.g (Int.toNat (W (x.2.2.2.2.2.2.1 - (1:Int))))).2.1.n:Nat):Int),())))) ((0:Int),())) 8 (fun u47=>cl (nQ).dflt (qf ()) (fun u48=>l (some u48)) (l none)) (bS (aD9 (u43.1,(u44.1,((((x.1.1.g (Int.toNat x.2.2.2.2.2.2.1)).2.1.n:Nat):Int),((((x.1.1.g (Int.toNat (W (x.2.2.2.2.2.2.1 - (1:Int))))).2.1.n:Nat):Int),())))) ((0:Int),())) (fun u49=>l (some u49)) (l none))) (l none)) (l none) else l none else l none) (l none)) (l none)) (bS (aD8 (x.2.2.2.2.2.2.1,((),((),(WL.1,(Xo.1,(x.1,(Xd.1,()))))))) ((0:Int),())) (fun u50=>l (some u50)) (l none))) (l none)) (l none)) (l none)) (l none)) (l none)) (l none)) (l none)) (l none)
theorem q8:QO G8 Try.f8 l8 a8 r8 Q8:=fun _=>by kernel_rfl
def M8 (x:(a8).den):Option (r8).den:=Q8 (fun r=>r) (fun _ _=>none) x
theorem m8:MO G8 Try.f8 l8 M8:=fun x=>by rw [q8]; unfold M8 Q8; simp only [Tree.sure,iO]
def p8:=pO M8
def v8:=vO (τ:=r8) M8
def k8:ee:=⟨a8,r8,p8,v8⟩
theorem h8:Holds Try.prog 8 k8:=hO cl8 g8 m8 fun G' hlo hF hE=>ai (by rw [lo8]; exact .cons (lv hE hF hlo (ai (by rw [aWf]; exact .cons (lv hE hF hlo (ln aPl) afu aTw) (.nil))) aQq aZ5) (.cons (lv hE hF hlo (ai (by rw [aWi]; exact .cons (lv hE hF hlo (ln aPn) afw aTy) (.nil))) aQs aZ7) (.cons (lv hE hF hlo (ai (by rw [aWl]; exact .cons (lv hE hF hlo (ln aPo) afy aTA) (.nil))) aQu aZ9) (.nil))))
abbrev ayB:Ty:=(.cons anf T5)
abbrev aIp:Ty:=(.cons PV ayB)
end Go.Dm

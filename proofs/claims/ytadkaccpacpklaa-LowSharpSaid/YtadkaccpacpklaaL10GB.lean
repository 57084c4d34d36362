/-
 Each function of the program as a Lean function,and that its calls come to what that says.
-/
import Derived.Test.YtadkaccpacpklaaL10GA
set_option linter.unusedVariables false
set_option linter.unusedSimpArgs false
namespace Go.Dm
open Go.RowKit Go.Proofs
set_option maxRecDepth 100000
noncomputable def c69:=zo Try.f69
theorem auj:zq 69 Try.f69 c69:=zu
abbrev a69:Ty:=T13
abbrev WK:Ty:=T3
noncomputable def G69:Ctx:=Ctx.of []
theorem g69:SP G69:=aD f0
def Q69 {α:Type} (l:Option (WK).den->α) (an:α->α->α) (x:(a69).den):α:=bif (decide ((0:Int)<=x.1.1)) then bif (decide (x.1.1<=x.1.2.1)) then l (some ((decide (x.1.2.1<=x.2.1)),())) else l (some (false,())) else l (some (false,()))
theorem q69:QO G69 Try.f69 [] a69 WK Q69:=fun _=>by kernel_rfl
def M69 (x:(a69).den):Option (WK).den:=Q69 (fun r=>r) (fun _ _=>none) x
theorem m69:MO G69 Try.f69 [] M69:=fun x=>by rw [q69]; unfold M69 Q69; simp only [Tree.sure,iO]
def p69:=pO M69
def v69:=vO (τ:=WK) M69
def k69:ee:=⟨a69,WK,p69,v69⟩
theorem h69:Holds Try.prog 69 k69:=hO auj g69 m69 l0
noncomputable def c21:=zo Try.f21
theorem aeR:zq 21 Try.f21 c21:=zu
abbrev a21:Ty:=Jd
abbrev Rf:Ty:=T3
noncomputable def G21:Ctx:=Ctx.of [(68,.pure k68),(69,.pure k69)]
theorem g21:SP G21:=aD (fa ⟨⟨aiE.c,h68⟩,fa ⟨⟨auj.c,h69⟩,f0⟩⟩)
noncomputable def HQ:Code:=aG ((af (c21))[0]?)
noncomputable def xR:Code:=aG ((af (HQ))[0]?)
theorem Ui:af (xR)=[]:=by kernel_rfl
abbrev iM:List aL:=[.slot 1 (.ptr 1),.slot 3 (.pc tI),.slot 4 (.ptr 103),.box 1 [.pc eX,.pc tI,.pc tI,.pc tI,.pc tI],.box 103 [.pc tI,.pc (.sl T6)]]
abbrev eG:List aL:=[.slot 5 (.pc tI)]
abbrev nC:List aL:=iM ++ eG
def zM:ZJ iM eG nC:=ZA _ _
def kr:ZS iM eG nC:=ZP _ _
abbrev kS:aO:=⟨[(2,[.slot 1 (.ptr 1),.slot 3 (.pc tI),.box 1 [.pc eX,.pc tI,.pc tI,.pc tI,.pc tI]])],[.slot 2 (.pc .bool)],[]⟩
abbrev gL:aO:=⟨[(2,[])],[.slot 2 (.pc .bool)],[]⟩
def tP:ZE iM gL kS:=fun id=>match id with | 2=>fun c y=>(c.1,(c.2.1,(c.2.2.2.1,y))) | _=>jm
def tQ {α:Type} (l:RQ eG gL->α) (an:α->α->α) (c:ZD iM) (v:ZD eG):α:=bif (decide (v.1 < ((c.2.2.2.2.1.2.1.n:Nat):Int))) then bif (decide (((0:Int)<=v.1)/\(v.1 < ((c.2.2.2.2.1.2.1.n:Nat):Int)))) then cl (WK).dflt (M69 (((c.2.2.2.2.1.2.1.g (Int.toNat v.1)).1,((c.2.2.2.2.1.2.1.g (Int.toNat v.1)).2.1,())),((100:Int),()))) (fun u0=>bif (!u0.1) then l (.out (.ret (false,()))) else cl (WK).dflt (M69 (((c.2.2.2.2.1.2.1.g (Int.toNat v.1)).2.2.1,((c.2.2.2.2.1.2.1.g (Int.toNat v.1)).2.2.2.1,())),((100:Int),()))) (fun u1=>bif (!u1.1) then l (.out (.ret (false,()))) else cl (WK).dflt (M69 ((c.2.2.2.2.1.2.1.g (Int.toNat v.1)).2.2.2.2,((99999:Int),()))) (fun u2=>bif (!u2.1) then l (.out (.ret (false,()))) else l (.next ((W (v.1 + (1:Int))),()))) (l .bad)) (l .bad)) (l .bad) else l .bad else l (.out (.exit 2 ()))
theorem Yh:ZO G21 0 97 xR [] zM tP ZI ZI tQ:=fun _ _=>by kernel_rfl
def tR (c:ZD iM) (v:ZD eG):RQ eG gL:=tQ (fun r=>r) (fun _ _=>.bad) c v
theorem Yi:SO G21 0 97 xR [] zM tP ZI ZI tR:=fun c v=>by rw [Yh]; unfold tR tQ; simp only [bu,aM,pM]
def jf (c:ZD iM) (v:ZD eG):LQ gL:=aH (tR c) cz v
theorem aeT:af (HQ)=[.loop xR]:=by kernel_rfl
abbrev oC:List aL:=[.slot 1 (.ptr 1),.box 1 [.pc eX,.pc tI,.pc tI,.pc tI,.pc tI]]
abbrev fS:List aL:=[.slot 3 (.pc tI)]
abbrev BK:List aL:=oC ++ fS
def Pn:ZJ oC fS BK:=ZA _ _
def GR:ZS oC fS BK:=ZP _ _
abbrev CQ:aO:=⟨[(0,[.slot 1 (.ptr 1),.box 1 [.pc eX,.pc tI,.pc tI,.pc tI,.pc tI]])],[.slot 2 (.pc .bool)],[]⟩
abbrev jb:aO:=⟨[(0,[])],[.slot 2 (.pc .bool)],[]⟩
def LB:ZE oC jb CQ:=fun id=>match id with | 0=>fun c y=>(c.1,(c.2.1,y)) | _=>jm
def HR {α:Type} (l:RQ fS jb->α) (an:α->α->α) (c:ZD oC) (v:ZD fS):α:=bif (decide (v.1 < ((c.2.1.1.n:Nat):Int))) then bif (decide (((0:Int)<=v.1)/\(v.1 < ((c.2.1.1.n:Nat):Int)))) then cl (Kj).dflt (MC ((c.2.1.1.g (Int.toNat v.1)).1,((0:Int),((200:Int),())))) (fun u3=>bif (!u3.1) then l (.out (.ret (false,()))) else bif (decide ((0:Int) < v.1)) then bif (decide (((0:Int)<=(W (v.1 - (1:Int))))/\((W (v.1 - (1:Int))) < ((c.2.1.1.n:Nat):Int)))) then bif (decide ((c.2.1.1.g (Int.toNat v.1)).1<=(c.2.1.1.g (Int.toNat (W (v.1 - (1:Int))))).1)) then l (.out (.ret (false,()))) else bif (decide ((3:Int) < (((c.2.1.1.g (Int.toNat v.1)).2.1.n:Nat):Int))) then l (.out (.ret (false,()))) else aF (jf ((),(v.1,((),(c.2.1,((c.2.1.1.g (Int.toNat v.1)),()))))) ((0:Int),())) 2 (fun u4=>l (.next ((W (v.1 + (1:Int))),()))) (bS (jf ((),(v.1,((),(c.2.1,((c.2.1.1.g (Int.toNat v.1)),()))))) ((0:Int),())) (fun u5=>l (.out (.ret u5))) (l .bad)) else l .bad else bif (decide ((3:Int) < (((c.2.1.1.g (Int.toNat v.1)).2.1.n:Nat):Int))) then l (.out (.ret (false,()))) else aF (jf ((),(v.1,((),(c.2.1,((c.2.1.1.g (Int.toNat v.1)),()))))) ((0:Int),())) 2 (fun u6=>l (.next ((W (v.1 + (1:Int))),()))) (bS (jf ((),(v.1,((),(c.2.1,((c.2.1.1.g (Int.toNat v.1)),()))))) ((0:Int),())) (fun u7=>l (.out (.ret u7))) (l .bad))) (l .bad) else l .bad else l (.out (.exit 0 ()))
theorem am0:ZO G21 0 97 HQ [.known (bF 0 [] nC fun x=>aJ kS tP ZI ZI [] true (kr x).1 (jf (kr x).1 (kr x).2) kS.bw)] Pn LB ZI ZI HR:=fun _ _=>by kernel_rfl
def HS (c:ZD oC) (v:ZD fS):RQ fS jb:=HR (fun r=>r) (fun _ _=>.bad) c v
theorem am1:SO G21 0 97 HQ [.known (bF 0 [] nC fun x=>aJ kS tP ZI ZI [] true (kr x).1 (jf (kr x).1 (kr x).2) kS.bw)] Pn LB ZI ZI HS:=fun c v=>by rw [am0]; unfold HS HR; simp only [bu,aM,pM]
def HT (c:ZD oC) (v:ZD fS):LQ jb:=aH (HS c) cz v
theorem ayk:af (c21)=[.loop HQ]:=by kernel_rfl
noncomputable def l21:List Loop:=[lk 0 LB ZI ZI true GR HT]
def Q21 {α:Type} (l:Option (Rf).den->α) (an:α->α->α) (x:(a21).den):α:=aF (HT ((),(x.1,())) ((0:Int),())) 0 (fun u8=>cl (Kj).dflt (MC (((x.1.1.n:Nat):Int),((1:Int),((4:Int),())))) (fun u9=>bif u9.1 then cl (Kj).dflt (MC (x.1.2.1,((0:Int),((50:Int),())))) (fun vD=>bif vD.1 then cl (Kj).dflt (MC (x.1.2.2.1,((0:Int),((1000:Int),())))) (fun lM=>bif lM.1 then cl (Kj).dflt (MC (x.1.2.2.2.1,((0:Int),((12:Int),())))) (fun MA=>bif MA.1 then cl (Kj).dflt (MC (x.1.2.2.2.2.1,((0:Int),((12:Int),())))) (fun Df=>l (some Df)) (l none) else l (some (false,()))) (l none) else l (some (false,()))) (l none) else l (some (false,()))) (l none) else l (some (false,()))) (l none)) (bS (HT ((),(x.1,())) ((0:Int),())) (fun PX=>l (some PX)) (l none))
theorem q21:QO G21 Try.f21 l21 a21 Rf Q21:=fun _=>by kernel_rfl
def Sj (x:(a21).den):Option (Rf).den:=Q21 (fun r=>r) (fun _ _=>none) x
theorem m21:MO G21 Try.f21 l21 Sj:=fun x=>by rw [q21]; unfold Sj Q21; simp only [Tree.sure,iO]
def p21:=pO Sj
def v21:=vO (τ:=Rf) Sj
def k21:ee:=⟨a21,Rf,p21,v21⟩
theorem h21:Holds Try.prog 21 k21:=hO aeR g21 m21 fun G' hlo hF hE=>ai (by rw [ayk]; exact .cons (lv hE hF hlo (ai (by rw [aeT]; exact .cons (lv hE hF hlo (ln Ui) kr Yi) (.nil))) GR am1) (.nil))
abbrev T94:Ty:=(.cons T12 T13)
abbrev T95:Ty:=(.cons PV T4)
abbrev T96:Ty:=(.cons PV OG)
abbrev T97:Ty:=(.sl OG)
abbrev T98:Ty:=(.cons T97 .nil)
abbrev T99:Ty:=(.cons PV T98)
abbrev Ic:Ty:=(.cons T97 T0)
abbrev aps:Ty:=(.cons PV Ic)
abbrev aGf:Ty:=(.cons ec T1)
noncomputable def c35:=zo Try.f35
theorem aPa:zq 35 Try.f35 c35:=zu
abbrev a35:Ty:=T88
abbrev r35:Ty:=T3
noncomputable def G35:Ctx:=Ctx.of [(68,.pure k68)]
theorem g35:SP G35:=aD (fa ⟨⟨aiE.c,h68⟩,f0⟩)
def Q35 {α:Type} (l:Option (r35).den->α) (an:α->α->α) (x:(a35).den):α:=cl (Kj).dflt (MC (x.2.1,((0:Int),((W (((x.1.1.n:Nat):Int) - (1:Int))),())))) (fun u0=>bif u0.1 then bif (decide (((0:Int)<=x.2.1)/\(x.2.1 < ((x.1.1.n:Nat):Int)))) then cl (Kj).dflt (MC (x.2.2.1,((0:Int),((W ((((x.1.1.g (Int.toNat x.2.1)).2.1.n:Nat):Int) - (1:Int))),())))) (fun u1=>l (some u1)) (l none) else l none else l (some (false,()))) (l none)
theorem q35:QO G35 Try.f35 [] a35 r35 Q35:=fun _=>by kernel_rfl
def M35 (x:(a35).den):Option (r35).den:=Q35 (fun r=>r) (fun _ _=>none) x
theorem m35:MO G35 Try.f35 [] M35:=fun x=>by rw [q35]; unfold M35 Q35; simp only [Tree.sure,iO]
def p35:=pO M35
def v35:=vO (τ:=r35) M35
def k35:ee:=⟨a35,r35,p35,v35⟩
theorem h35:Holds Try.prog 35 k35:=hO aPa g35 m35 l0
abbrev ayo:Ty:=(.cons T12 T1)
noncomputable def c89:=zo Try.f89
theorem aGh:zq 89 Try.f89 c89:=zu
abbrev a89:Ty:=T87
abbrev r89:Ty:=T80
noncomputable def G89:Ctx:=Ctx.of [(77,.pure k77)]
theorem g89:SP G89:=aD (fa ⟨⟨ad9.c,h77⟩,f0⟩)
def Q89 {α:Type} (l:Option (r89).den->α) (an:α->α->α) (x:(a89).den):α:=bif (decide (((0:Int)<=(0:Int))/\(((0:Int)<=(W (x.1 + (1:Int))))/\((W (x.1 + (1:Int)))<=((x.2.1.1.n:Nat):Int))))) then cl (Xi).dflt (Yx (((⟨(Int.toNat ((W (x.1 + (1:Int))) - (0:Int))),fun i=>(x.2.1.1.g (i + 0))⟩:Sl _),x.2.1.2),())) (fun u0=>l (some (true,((!u0.1),())))) (l none) else l none
theorem q89:QO G89 Try.f89 [] a89 r89 Q89:=fun _=>by kernel_rfl
def M89 (x:(a89).den):Option (r89).den:=Q89 (fun r=>r) (fun _ _=>none) x
theorem m89:MO G89 Try.f89 [] M89:=fun x=>by rw [q89]; unfold M89 Q89; simp only [Tree.sure,iO]
def p89:=pO M89
def v89:=vO (τ:=r89) M89
def k89:ee:=⟨a89,r89,p89,v89⟩
theorem h89:Holds Try.prog 89 k89:=hO aGh g89 m89 l0
noncomputable def c46:=zo Try.f46
theorem azX:zq 46 Try.f46 c46:=zu
abbrev a46:Ty:=Jd
abbrev r46:Ty:=T1
noncomputable def G46:Ctx:=Ctx.of [(74,.pure k74),(75,.pure k75),(89,.pure k89)]
theorem g46:SP G46:=aD (fa ⟨⟨aa7.c,h74⟩,fa ⟨⟨aoB.c,h75⟩,fa ⟨⟨aGh.c,h89⟩,f0⟩⟩⟩)
def Q46 {α:Type} (l:Option (r46).den->α) (an:α->α->α) (x:(a46).den):α:=cl (Wa).dflt (WW (x.1,())) (fun u0=>bif (!u0.1) then l (some ((0:Int),((2:Int),()))) else cl (r75).dflt (Xl ((0:Int),((W (((x.1.1.n:Nat):Int) - (1:Int))),((fun y1=>((p89 (y1.1,(x.1,()))),(v89 (y1.1,(x.1,()))))),())))) (fun u1=>bif (!u1.2.2.1) then l (some ((0:Int),((5:Int),()))) else l (some (u1.2.1,((0:Int),())))) (l none)) (l none)
theorem q46:QO G46 Try.f46 [] a46 r46 Q46:=fun _=>by kernel_rfl
def Yl (x:(a46).den):Option (r46).den:=Q46 (fun r=>r) (fun _ _=>none) x
theorem m46:MO G46 Try.f46 [] Yl:=fun x=>by rw [q46]; unfold Yl Q46; simp only [Tree.sure,iO]
def p46:=pO Yl
def v46:=vO (τ:=r46) Yl
def k46:ee:=⟨a46,r46,p46,v46⟩
theorem h46:Holds Try.prog 46 k46:=hO azX g46 m46 l0
abbrev aId:Ty:=(.cons ec T79)
abbrev aGg:Ty:=(.cons ec aId)
abbrev aIi:Ty:=(.agg aGg)
abbrev ayp:Ty:=(.cons aIi .nil)
abbrev ag6:Ty:=(.cons PV ayp)
abbrev anf:Ty:=(.agg T15)
abbrev asG:Ty:=(.cons anf .nil)
abbrev aoF:Ty:=(.cons (.sl T0) asG)
abbrev ayq:Ty:=(.fn aoF T3)
abbrev ayr:Ty:=(.cons ayq .nil)
abbrev asH:Ty:=(.cons eX ayr)
abbrev asI:Ty:=(.cons ec asH)
abbrev ays:Ty:=(.cons .bool T0)
abbrev ayt:Ty:=(.cons tI T20)
noncomputable def c17:=zo Try.f17
theorem acz:zq 17 Try.f17 c17:=zu
abbrev a17:Ty:=.nil
abbrev nQ:Ty:=T3
noncomputable def G17:Ctx:=Ctx.of [(18,.pure k18),(19,.pure k19),(20,.pure k20),(23,.pure k23),(28,.pure k28),(36,.pure k36),(39,.pure k39),(40,.pure k40),(41,.pure k41),(43,.pure k43),(44,.pure k44),(48,.pure k48),(62,.pure k62)]
theorem g17:SP G17:=aD (fa ⟨⟨alY.c,h18⟩,fa ⟨⟨al3.c,h19⟩,fa ⟨⟨aoA.c,h20⟩,fa ⟨⟨apm.c,h23⟩,fa ⟨⟨ajW.c,h28⟩,fa ⟨⟨apo.c,h36⟩,fa ⟨⟨apr.c,h39⟩,fa ⟨⟨apq.c,h40⟩,fa ⟨⟨aue.c,h41⟩,fa ⟨⟨ar6.c,h43⟩,fa ⟨⟨aiD.c,h44⟩,fa ⟨⟨agY.c,h48⟩,fa ⟨⟨aui.c,h62⟩,f0⟩⟩⟩⟩⟩⟩⟩⟩⟩⟩⟩⟩⟩)
theorem ayv:af (c17)=[]:=by kernel_rfl
noncomputable def l17:List Loop:=[]
def Q17 {α:Type} (l:Option (nQ).den->α) (an:α->α->α) (x:(a17).den):α:=cl (vN).dflt (OM ()) (fun u0=>cl (MF).dflt (XV (u0.1,((1:Int),()))) (fun u1=>cl (vN).dflt (OM ()) (fun u2=>cl (OK).dflt (M19 (u0.1,())) (fun u3=>cl (vN).dflt (OM ()) (fun u4=>cl (Pz).dflt (M20 (u0.1,())) (fun u5=>cl (vN).dflt (OM ()) (fun u6=>cl (Re).dflt (M39 (u0.1,((0:Int),((0:Int),())))) (fun u7=>cl (vN).dflt (OM ()) (fun u8=>cl (PE).dflt (M36 (u0.1,((1:Int),((0:Int),())))) (fun u9=>cl (vN).dflt (OM ()) (fun vD=>cl (Rc).dflt (M43 (u0.1,((0:Int),((3:Int),())))) (fun lM=>cl (vN).dflt (OM ()) (fun MA=>cl (Rb).dflt (M40 (u0.1,())) (fun Df=>cl (vN).dflt (OM ()) (fun PX=>cl (OB).dflt (VO (u0.1,())) (fun PB=>bif (!(decide (u1.2.1=(0:Int)))) then l (some (false,())) else bif (!(decide (u3.2.1=(0:Int)))) then l (some (false,())) else bif (!(decide (u5.2.1=(0:Int)))) then l (some (false,())) else bif (!(decide (u7.2.1=(0:Int)))) then l (some (false,())) else bif (!(decide (u9.2.1=(0:Int)))) then l (some (false,())) else bif (!(decide (lM.2.1=(0:Int)))) then l (some (false,())) else bif (!(decide (Df.2.2.1=(0:Int)))) then l (some (false,())) else bif (!(decide (PB.2.1=(0:Int)))) then l (some (false,())) else cl (IN).dflt (VN (u1.1,((⟨2,fun i=>List.getD [((⟨2,fun i=>List.getD [((3:Int),()),((1:Int),())] i ((3:Int),())⟩:Sl _),()),((⟨2,fun i=>List.getD [((1:Int),()),((3:Int),())] i ((1:Int),())⟩:Sl _),())] i ((⟨2,fun i=>List.getD [((3:Int),()),((1:Int),())] i ((3:Int),())⟩:Sl _),())⟩:Sl _),()))) (fun u16=>bif (!u16.1) then l (some (false,())) else cl (IN).dflt (VN (u3.1,((⟨2,fun i=>List.getD [((⟨2,fun i=>List.getD [((1:Int),()),((1:Int),())] i ((1:Int),())⟩:Sl _),()),((⟨1,fun i=>List.getD [((1:Int),())] i ((1:Int),())⟩:Sl _),())] i ((⟨2,fun i=>List.getD [((1:Int),()),((1:Int),())] i ((1:Int),())⟩:Sl _),())⟩:Sl _),()))) (fun Wf=>bif (!Wf.1) then l (some (false,())) else cl (IN).dflt (VN (u5.1,((⟨2,fun i=>List.getD [((⟨2,fun i=>List.getD [((1:Int),()),((1:Int),())] i ((1:Int),())⟩:Sl _),()),((⟨2,fun i=>List.getD [((2:Int),()),((2:Int),())] i ((2:Int),())⟩:Sl _),())] i ((⟨2,fun i=>List.getD [((1:Int),()),((1:Int),())] i ((1:Int),())⟩:Sl _),())⟩:Sl _),()))) (fun VP=>bif (!VP.1) then l (some (false,())) else cl (MI).dflt (M41 (u7.1,((⟨2,fun i=>List.getD [((⟨2,fun i=>List.getD [((0:Int),()),((0:Int),())] i ((0:Int),())⟩:Sl _),()),((⟨3,fun i=>List.getD [((0:Int),()),((0:Int),()),((0:Int),())] i ((0:Int),())⟩:Sl _),())] i ((⟨2,fun i=>List.getD [((0:Int),()),((0:Int),())] i ((0:Int),())⟩:Sl _),())⟩:Sl _),()))) (fun UO=>bif (!UO.1) then l (some (false,())) else cl (oM).dflt (vA ((20:Int),((21:Int),()))) (fun u20=>cl (oM).dflt (vA ((50:Int),((52:Int),()))) (fun u21=>cl (oM).dflt (vA ((74100:Int),((74300:Int),()))) (fun u22=>cl (Es).dflt (PU (u20.1,(u21.1,(u22.1,())))) (fun Dh=>bif ((decide (u9.1.1=Dh.1.1)) && ((decide (u9.1.2.1=Dh.1.2.1)) && ((decide (u9.1.2.2.1=Dh.1.2.2.1)) && ((decide (u9.1.2.2.2.1=Dh.1.2.2.2.1)) && ((decide (u9.1.2.2.2.2.1=Dh.1.2.2.2.2.1)) && ((decide (u9.1.2.2.2.2.2.1=Dh.1.2.2.2.2.2.1)) && true)))))) then cl (oM).dflt (vA ((25:Int),((39:Int),()))) (fun Xd=>cl (oM).dflt (vA ((46:Int),((59:Int),()))) (fun WL=>cl (oM).dflt (vA ((74050:Int),((75050:Int),()))) (fun Xo=>cl (Es).dflt (PU (Xd.1,(WL.1,(Xo.1,())))) (fun Gp=>bif ((decide (lM.1.1=Gp.1.1)) && ((decide (lM.1.2.1=Gp.1.2.1)) && ((decide (lM.1.2.2.1=Gp.1.2.2.1)) && ((decide (lM.1.2.2.2.1=Gp.1.2.2.2.1)) && ((decide (lM.1.2.2.2.2.1=Gp.1.2.2.2.2.1)) && ((decide (lM.1.2.2.2.2.2.1=Gp.1.2.2.2.2.2.1)) && true)))))) then bif (decide (Df.1=(2:Int))) then cl (MI).dflt (M41 (Df.2.1,((⟨3,fun i=>List.getD [((⟨2,fun i=>List.getD [((-1:Int),()),((-1:Int),())] i ((-1:Int),())⟩:Sl _),()),((⟨2,fun i=>List.getD [((0:Int),()),((1:Int),())] i ((0:Int),())⟩:Sl _),()),((⟨1,fun i=>List.getD [((0:Int),())] i ((0:Int),())⟩:Sl _),())] i ((⟨2,fun i=>List.getD [((-1:Int),()),((-1:Int),())] i ((-1:Int),())⟩:Sl _),())⟩:Sl _),()))) (fun u28=>bif u28.1 then l (some ((decide (PB.1=(2:Int))),())) else l (some (false,()))) (l none) else l (some (false,())) else l (some (false,()))) (l none)) (l none)) (l none)) (l none) else l (some (false,()))) (l none)) (l none)) (l none)) (l none)) (l none)) (l none)) (l none)) (l none)) (l none)) (l none)) (l none)) (l none)) (l none)) (l none)) (l none)) (l none)) (l none)) (l none)) (l none)) (l none)) (l none)) (l none)) (l none)) (l none)
def ayy (m18:(Tq).den->Option (MF).den) (m19:(Tu).den->Option (OK).den) (m20:(a20).den->Option (Pz).den) (m23:(Tv).den->Option (IN).den) (m28:(a28).den->Option (OB).den) (m36:(TD).den->Option (PE).den) (m39:(a39).den->Option (Re).den) (m40:(a40).den->Option (Rb).den) (m41:(a41).den->Option (MI).den) (m43:(TR).den->Option (Rc).den) (m44:(a44).den->Option (Es).den) (Ug:(PA).den->Option (oM).den) (ON:(Uh).den->Option (vN).den) {α:Type} (l:Option (nQ).den->α) (an:α->α->α) (x:(a17).den):α:=cl (vN).dflt (ON ()) (fun u0=>cl (MF).dflt (m18 (u0.1,((1:Int),()))) (fun u1=>cl (vN).dflt (ON ()) (fun u2=>cl (OK).dflt (m19 (u0.1,())) (fun u3=>cl (vN).dflt (ON ()) (fun u4=>cl (Pz).dflt (m20 (u0.1,())) (fun u5=>cl (vN).dflt (ON ()) (fun u6=>cl (Re).dflt (m39 (u0.1,((0:Int),((0:Int),())))) (fun u7=>cl (vN).dflt (ON ()) (fun u8=>cl (PE).dflt (m36 (u0.1,((1:Int),((0:Int),())))) (fun u9=>cl (vN).dflt (ON ()) (fun vD=>cl (Rc).dflt (m43 (u0.1,((0:Int),((3:Int),())))) (fun lM=>cl (vN).dflt (ON ()) (fun MA=>cl (Rb).dflt (m40 (u0.1,())) (fun Df=>cl (vN).dflt (ON ()) (fun PX=>cl (OB).dflt (m28 (u0.1,())) (fun PB=>bif (!(decide (u1.2.1=(0:Int)))) then l (some (false,())) else bif (!(decide (u3.2.1=(0:Int)))) then l (some (false,())) else bif (!(decide (u5.2.1=(0:Int)))) then l (some (false,())) else bif (!(decide (u7.2.1=(0:Int)))) then l (some (false,())) else bif (!(decide (u9.2.1=(0:Int)))) then l (some (false,())) else bif (!(decide (lM.2.1=(0:Int)))) then l (some (false,())) else bif (!(decide (Df.2.2.1=(0:Int)))) then l (some (false,())) else bif (!(decide (PB.2.1=(0:Int)))) then l (some (false,())) else cl (IN).dflt (m23 (u1.1,((⟨2,fun i=>List.getD [((⟨2,fun i=>List.getD [((3:Int),()),((1:Int),())] i ((3:Int),())⟩:Sl _),()),((⟨2,fun i=>List.getD [((1:Int),()),((3:Int),())] i ((1:Int),())⟩:Sl _),())] i ((⟨2,fun i=>List.getD [((3:Int),()),((1:Int),())] i ((3:Int),())⟩:Sl _),())⟩:Sl _),()))) (fun u16=>bif (!u16.1) then l (some (false,())) else cl (IN).dflt (m23 (u3.1,((⟨2,fun i=>List.getD [((⟨2,fun i=>List.getD [((1:Int),()),((1:Int),())] i ((1:Int),())⟩:Sl _),()),((⟨1,fun i=>List.getD [((1:Int),())] i ((1:Int),())⟩:Sl _),())] i ((⟨2,fun i=>List.getD [((1:Int),()),((1:Int),())] i ((1:Int),())⟩:Sl _),())⟩:Sl _),()))) (fun Wf=>bif (!Wf.1) then l (some (false,())) else cl (IN).dflt (m23 (u5.1,((⟨2,fun i=>List.getD [((⟨2,fun i=>List.getD [((1:Int),()),((1:Int),())] i ((1:Int),())⟩:Sl _),()),((⟨2,fun i=>List.getD [((2:Int),()),((2:Int),())] i ((2:Int),())⟩:Sl _),())] i ((⟨2,fun i=>List.getD [((1:Int),()),((1:Int),())] i ((1:Int),())⟩:Sl _),())⟩:Sl _),()))) (fun VP=>bif (!VP.1) then l (some (false,())) else cl (MI).dflt (m41 (u7.1,((⟨2,fun i=>List.getD [((⟨2,fun i=>List.getD [((0:Int),()),((0:Int),())] i ((0:Int),())⟩:Sl _),()),((⟨3,fun i=>List.getD [((0:Int),()),((0:Int),()),((0:Int),())] i ((0:Int),())⟩:Sl _),())] i ((⟨2,fun i=>List.getD [((0:Int),()),((0:Int),())] i ((0:Int),())⟩:Sl _),())⟩:Sl _),()))) (fun UO=>bif (!UO.1) then l (some (false,())) else cl (oM).dflt (Ug ((20:Int),((21:Int),()))) (fun u20=>cl (oM).dflt (Ug ((50:Int),((52:Int),()))) (fun u21=>cl (oM).dflt (Ug ((74100:Int),((74300:Int),()))) (fun u22=>cl (Es).dflt (m44 (u20.1,(u21.1,(u22.1,())))) (fun Dh=>bif ((decide (u9.1.1=Dh.1.1)) && ((decide (u9.1.2.1=Dh.1.2.1)) && ((decide (u9.1.2.2.1=Dh.1.2.2.1)) && ((decide (u9.1.2.2.2.1=Dh.1.2.2.2.1)) && ((decide (u9.1.2.2.2.2.1=Dh.1.2.2.2.2.1)) && ((decide (u9.1.2.2.2.2.2.1=Dh.1.2.2.2.2.2.1)) && true)))))) then cl (oM).dflt (Ug ((25:Int),((39:Int),()))) (fun Xd=>cl (oM).dflt (Ug ((46:Int),((59:Int),()))) (fun WL=>cl (oM).dflt (Ug ((74050:Int),((75050:Int),()))) (fun Xo=>cl (Es).dflt (m44 (Xd.1,(WL.1,(Xo.1,())))) (fun Gp=>bif ((decide (lM.1.1=Gp.1.1)) && ((decide (lM.1.2.1=Gp.1.2.1)) && ((decide (lM.1.2.2.1=Gp.1.2.2.1)) && ((decide (lM.1.2.2.2.1=Gp.1.2.2.2.1)) && ((decide (lM.1.2.2.2.2.1=Gp.1.2.2.2.2.1)) && ((decide (lM.1.2.2.2.2.2.1=Gp.1.2.2.2.2.2.1)) && true)))))) then bif (decide (Df.1=(2:Int))) then cl (MI).dflt (m41 (Df.2.1,((⟨3,fun i=>List.getD [((⟨2,fun i=>List.getD [((-1:Int),()),((-1:Int),())] i ((-1:Int),())⟩:Sl _),()),((⟨2,fun i=>List.getD [((0:Int),()),((1:Int),())] i ((0:Int),())⟩:Sl _),()),((⟨1,fun i=>List.getD [((0:Int),())] i ((0:Int),())⟩:Sl _),())] i ((⟨2,fun i=>List.getD [((-1:Int),()),((-1:Int),())] i ((-1:Int),())⟩:Sl _),())⟩:Sl _),()))) (fun u28=>bif u28.1 then l (some ((decide (PB.1=(2:Int))),())) else l (some (false,()))) (l none) else l (some (false,())) else l (some (false,()))) (l none)) (l none)) (l none)) (l none) else l (some (false,()))) (l none)) (l none)) (l none)) (l none)) (l none)) (l none)) (l none)) (l none)) (l none)) (l none)) (l none)) (l none)) (l none)) (l none)) (l none)) (l none)) (l none)) (l none)) (l none)) (l none)) (l none)) (l none)) (l none)) (l none)
theorem ayz (m18:(Tq).den->Option (MF).den) (m19:(Tu).den->Option (OK).den) (m20:(a20).den->Option (Pz).den) (m23:(Tv).den->Option (IN).den) (m28:(a28).den->Option (OB).den) (m36:(TD).den->Option (PE).den) (m39:(a39).den->Option (Re).den) (m40:(a40).den->Option (Rb).den) (m41:(a41).den->Option (MI).den) (m43:(TR).den->Option (Rc).den) (m44:(a44).den->Option (Es).den) (Ug:(PA).den->Option (oM).den) (ON:(Uh).den->Option (vN).den) (x:(a17).den):aI Try.prog E0 (Ctx.of [(18,.pure (gU (τa:=Tq) (τr:=MF) m18)),(19,.pure (gU (τa:=Tu) (τr:=OK) m19)),(20,.pure (gU (τa:=a20) (τr:=Pz) m20)),(23,.pure (gU (τa:=Tv) (τr:=IN) m23)),(28,.pure (gU (τa:=a28) (τr:=OB) m28)),(36,.pure (gU (τa:=TD) (τr:=PE) m36)),(39,.pure (gU (τa:=a39) (τr:=Re) m39)),(40,.pure (gU (τa:=a40) (τr:=Rb) m40)),(41,.pure (gU (τa:=a41) (τr:=MI) m41)),(43,.pure (gU (τa:=TR) (τr:=Rc) m43)),(44,.pure (gU (τa:=a44) (τr:=Es) m44)),(48,.pure (gU (τa:=PA) (τr:=oM) Ug)),(62,.pure (gU (τa:=Uh) (τr:=vN) ON))]) Try.f17 l17 a17 nQ x=ayy m18 m19 m20 m23 m28 m36 m39 m40 m41 m43 m44 Ug ON .leaf .any x:=by kernel_rfl
theorem q17 (x:(a17).den):aI Try.prog E0 G17 Try.f17 l17 a17 nQ x=Q17 .leaf .any x:=ayz XV M19 M20 VN VO M36 M39 M40 M41 M43 PU vA OM x
def qf (x:(a17).den):Option (nQ).den:=Q17 (fun r=>r) (fun _ _=>none) x
theorem m17 (x:(a17).den):(aI Try.prog E0 G17 Try.f17 l17 a17 nQ x).sure=qf x:=by rw [q17]; unfold qf Q17; simp only [Tree.sure,iO]
def p17 (x:(a17).den):Bool:=(qf x).isSome
def v17 (x:(a17).den):(nQ).den:=(qf x).getD (nQ).dflt
def k17:ee:=⟨a17,nQ,p17,v17⟩
theorem h17:Holds Try.prog 17 k17:=aC (E:=E0) aA g17 aB au acz.a acz.b (by kernel_rfl) m17 fun G' hlo hF hE=>ai (by rw [ayv]; exact .nil)
abbrev aGi:Ty:=(.cons tI T6)
abbrev aGj:Ty:=(.cons PV aGi)
abbrev aIn:Ty:=(.cons aIi T5)
abbrev ayA:Ty:=(.cons PV aIn)
abbrev aIo:Ty:=(.cons aIi T1)
abbrev ayB:Ty:=(.cons PV aIo)
noncomputable def c49:=zo Try.f49
theorem aXS:zq 49 Try.f49 c49:=zu
open Go.Sort Go.Proofs Go.Shelf Go.Lib in
theorem aHy (w:World) (o0 o1 o2 o3:Obj):((((w.alloc o0).alloc o1).alloc o2).alloc o3).heap[w.heap.size]? = some o0/\((((w.alloc o0).alloc o1).alloc o2).alloc o3).heap[w.heap.size + 1]? = some o1 /\
  ((((w.alloc o0).alloc o1).alloc o2).alloc o3).heap[w.heap.size + 1 + 1]? = some o2/\((((w.alloc o0).alloc o1).alloc o2).alloc o3).heap[w.heap.size + 1 + 1 + 1]? = some o3:=by
 have s:∀ (W:World) (o:Obj),(W.alloc o).heap.size=W.heap.size + 1:=fun W o=>by simp
 have n:∀ (W:World) (o:Obj),(W.alloc o).heap[W.heap.size]? = some o:=heap_alloc_new
 refine ⟨?_,?_,?_,?_⟩
 ·rw [Below.heap_alloc _ _ _ (by simp only [s]; omega),Below.heap_alloc _ _ _ (by simp only [s]; omega),Below.heap_alloc _ _ _ (by simp only [s]; omega)]; exact n _ _
 ·rw [Below.heap_alloc _ _ _ (by simp only [s]; omega),Below.heap_alloc _ _ _ (by simp only [s]; omega)]; rw [<- s w o0]; exact n _ _
 ·rw [Below.heap_alloc _ _ _ (by simp only [s]; omega)]; rw [<- s w o0,<- s (w.alloc o0) o1]; exact n _ _
 ·rw [<- s w o0,<- s (w.alloc o0) o1,<- s _ o2]; exact n _ _
open Go.Sort Go.Proofs Go.Shelf Go.Lib in
theorem amu {W:World} {b o:Nat} {arr:Array Value} {T:TypeId} {fr:Nat×Nat} (h:W.heap[b]? = some (.cells arr T fr)) (v:Value):(W.setCell ⟨b,o,none⟩ v).heap[b]? = some (.cells (arr.setIfInBounds o v) T fr):=by
 simp only [World.setCell,Array.getElem?_modify,if_pos]
 rw [h]; rfl
open Go.Sort Go.Proofs Go.Shelf Go.Lib in
theorem aof (W:World) (a:Addr) (v:Value):(W.setCell a v).heap.size=W.heap.size:=by simp [World.setCell]
open Go.Sort Go.Proofs Go.Shelf Go.Lib in
theorem cell_of {W:World} {b o:Nat} {arr:Array Value} {T:TypeId} {fr:Nat×Nat} (h:W.heap[b]? = some (.cells arr T fr)) {v:Value} (hv:arr[o]? = some v):W.cell? ⟨b,o,none⟩=some v:=by
 simp [World.cell?,h,hv]
open Go.Sort Go.Proofs Go.Shelf Go.Lib in
theorem amT {W:World} {b o:Nat} {arr:Array Value} {T:TypeId} (h:W.heap[b]? = some (.cells arr T (0,0))):W.frozen? ⟨b,o,none⟩=false:=by simp [World.frozen?,h]
open Go.Sort Go.Proofs Go.Shelf Go.Lib in
theorem aEi {P:Program} (w:World) (t ty:TypeId) (base:Nat) (e:TypeId) (i:TypeInfo) (z:Value) (size bytes:Nat) (ht:P.underlying t=some (.slice e)) (hi:P.info? e=some i) (hz:i.zero=some z)
  (hsize:i.size=size) (hby:i.bytes=bytes) (hzs:z.cells.size=size) (hsz:0 < size) (hb0:0 < bytes)
  (ad:Addr) (m c:Nat) (news:List Value) (hl:news.length=m * size) (hnews:∀ j u,news[j]? = some u->w.cell? (ad.add j)=some u) (h1:∀ u∈news,u.oneCell'=true)
  (hm:0 < m) (h63:0 + m<=maxLen) (hbytes:(0 + m) * bytes<=140737488355328) (hbase:base<=w.heap.size) (H:Nat) (hH:w.heap.size=H) :
  ∃ g cap w',(Builtin.append_ #[t,t] ty #[.slice none 0 0,.slice (some ad) m c]).run P w = .ok (.slice (some ⟨g,0,none⟩) (0 + m) cap) w' /\
   w'.ownsRow base e size (.slice (some ⟨g,0,none⟩) (0 + m) cap) (0 + m) ([] ++ news)/\w.grownBy w' none/\g=H/\g < w'.heap.size/\w.drawn<=w'.drawn:=by
 obtain ⟨g,cap,w',hr,h2,h3,h4,h5⟩:=run_append_lies (P:=P) w t ty base e i z size bytes ht hi hz hsize hby hzs hsz (.slice none 0 0) 0 [] (World.ownsRow_nil _ _ _ _) ad m c news hl hnews h1 hm h63 hbytes hbase H hH
 obtain ⟨v',w'',nb,hr2,hc⟩:=Qx (P:=P) (w:=w) (t:=t) (ty:=ty) (k:=size) (n:=0) (m:=m) ht hi hz hsize (by omega) (by omega) (by rw [hzs,hsize]) (v:=.slice none 0 0) (xs:=[]) (news:=news) (ad:=some ad) (c:=c) (by rw [hby]; exact hbytes) (by simp) hl h1
  (.inr ⟨ad,rfl,hnews⟩) true (.inl ⟨rfl,⟨none,rfl⟩,rfl⟩)
 rw [hr] at hr2
 cases hr2
 refine ⟨g,cap,w',hr,h2,h3,?_,h5,?_⟩
 ·rcases h4 with q | q
  ·cases q
  ·exact q
 ·rcases hc with ⟨_,_,q,_⟩ | ⟨b,cp,cur,_,_,_,_,_,_,_,_,q,_⟩
  ·cases q
  ·exact q.drawn
open Go.Sort Go.Proofs Go.Shelf Go.Lib in
theorem azt {P:Program} (w:World) {o:Oper} {a:Act} {K:Act->World->Prop} {Q:Exit->Act->World->Prop} (s x:Operand) (t:TypeId)
  (ho:o.op = .call { callee:=.builtin .append,args:=#[s,x],argTypes:=#[t,t] })
  (base:Nat) (e:TypeId) (i:TypeInfo) (z:Value) (size bytes:Nat) (ht:P.underlying t=some (.slice e)) (hi:P.info? e=some i) (hz:i.zero=some z)
  (hsize:i.size=size) (hby:i.bytes=bytes) (hzs:z.cells.size=size) (hsz:0 < size) (hb0:0 < bytes) (hs:a.eval s = .slice none 0 0)
  (ad:Addr) (m c:Nat) (news:List Value) (hx:a.eval x = .slice (some ad) m c) (hl:news.length=m * size) (hnews:∀ j u,news[j]? = some u->w.cell? (ad.add j)=some u) (h1:∀ u∈news,u.oneCell'=true)
  (hm:0 < m) (h63:0 + m<=maxLen) (hbytes:(0 + m) * bytes<=140737488355328) (hbase:base<=w.heap.size) (H:Nat) (hH:w.heap.size=H)
  (h:∀ g cap w',w'.ownsRow base e size (.slice (some ⟨g,0,none⟩) (0 + m) cap) (0 + m) ([] ++ news)->w.grownBy w' none->g=H->g < w'.heap.size->w.drawn<=w'.drawn->K (a.put o.dst (.slice (some ⟨g,0,none⟩) (0 + m) cap)) w'):o.wp P a w K Q:=by
 obtain ⟨g,cap,w',hr,h2,h3,h4,h5,h6⟩:=aEi (P:=P) w t o.type base e i z size bytes ht hi hz hsize hby hzs hsz hb0 ad m c news hl hnews h1 hm h63 hbytes hbase H hH
 unfold Oper.wp execOp
 simp only [ho,resolve,invoke,builtin,Sem.run_bind,Sem.run_pure,Result.andThen_ok,List.map_toArray,List.map_cons,List.map_nil,hs,hx,hr]
 exact h g cap w' h2 h3 h4 h5 h6
open Go.Sort Go.Proofs Go.Shelf Go.Lib in
theorem av2 {P:Program} (w:World) {ops:Array Oper} {rest:List Oper} {o:Oper} {a:Act} {Q:Exit->Act->World->Prop} (hgd:o.guard=none) (s x:Operand) (t:TypeId)
  (ho:o.op = .call { callee:=.builtin .append,args:=#[s,x],argTypes:=#[t,t] })
  (base:Nat) (e:TypeId) (i:TypeInfo) (z:Value) (size bytes:Nat) (ht:P.underlying t=some (.slice e)) (hi:P.info? e=some i) (hz:i.zero=some z)
  (hsize:i.size=size) (hby:i.bytes=bytes) (hzs:z.cells.size=size) (hsz:0 < size) (hb0:0 < bytes) (hs:a.eval s = .slice none 0 0)
  (ad:Addr) (m c:Nat) (news:List Value) (hx:a.eval x = .slice (some ad) m c) (hl:news.length=m * size) (hnews:∀ j u,news[j]? = some u->w.cell? (ad.add j)=some u) (h1:∀ u∈news,u.oneCell'=true)
  (hm:0 < m) (h63:0 + m<=maxLen) (hbytes:(0 + m) * bytes<=140737488355328) (hbase:base<=w.heap.size) (H:Nat) (hH:w.heap.size=H)
  (h:∀ g cap w',w'.ownsRow base e size (.slice (some ⟨g,0,none⟩) (0 + m) cap) (0 + m) ([] ++ news)->w.grownBy w' none->g=H->g < w'.heap.size->w.drawn<=w'.drawn->wpList P ops Q rest (a.put o.dst (.slice (some ⟨g,0,none⟩) (0 + m) cap)) w'):wpList P ops Q (o :: rest) a w:=
 wpList_plain hgd fun _ hK=>azt w s x t ho base e i z size bytes ht hi hz hsize hby hzs hsz hb0 hs ad m c news hx hl hnews h1 hm h63 hbytes hbase H hH fun g cap w' h2 h3 h4 h5 h6=>hK _ _ (h g cap w' h2 h3 h4 h5 h6)
open Go.Sort Go.Proofs Go.Shelf Go.Lib in
theorem azu {P:Program} (w:World) {ops:Array Oper} {o:Oper} {a:Act} {K:Act->World->Prop} {Q:Exit->Act->World->Prop} {E:Prop} (hgd:o.guard=none) (s x:Operand) (t:TypeId)
  (ho:o.op = .call { callee:=.builtin .append,args:=#[s,x],argTypes:=#[t,t] })
  (base:Nat) (e:TypeId) (i:TypeInfo) (z:Value) (size bytes:Nat) (ht:P.underlying t=some (.slice e)) (hi:P.info? e=some i) (hz:i.zero=some z)
  (hsize:i.size=size) (hby:i.bytes=bytes) (hzs:z.cells.size=size) (hsz:0 < size) (hb0:0 < bytes) (hs:a.eval s = .slice none 0 0)
  (ad:Addr) (m c:Nat) (news:List Value) (hx:a.eval x = .slice (some ad) m c) (hl:news.length=m * size) (hnews:∀ j u,news[j]? = some u->w.cell? (ad.add j)=some u) (h1:∀ u∈news,u.oneCell'=true)
  (hm:0 < m) (h63:0 + m<=maxLen) (hbytes:(0 + m) * bytes<=140737488355328) (hbase:base<=w.heap.size) (H:Nat) (hH:w.heap.size=H)
  (h:∀ g cap w',w'.ownsRow base e size (.slice (some ⟨g,0,none⟩) (0 + m) cap) (0 + m) ([] ++ news)->w.grownBy w' none->g=H->g < w'.heap.size->w.drawn<=w'.drawn->K (a.put o.dst (.slice (some ⟨g,0,none⟩) (0 + m) cap)) w') :
  if Region.wanted o (yielded ops a.tmps)=true then Oper.wp P o a w K Q else E:=by
 have hw:Region.wanted o (yielded ops a.tmps)=true:=by simp [Region.wanted,hgd]
 rw [if_pos hw]
 exact azt w s x t ho base e i z size bytes ht hi hz hsize hby hzs hsz hb0 hs ad m c news hx hl hnews h1 hm h63 hbytes hbase H hH h
open Go.Sort Go.Proofs Go.Shelf Go.Lib in
set_option maxHeartbeats 4000000 in
set_option maxRecDepth 1000000 in
theorem aHz {w : World} {bm acF n c : Nat} {x1 x2 x3 x4 x5 x6 : Int} {msp mdp mbn mgn : Int} {at' one : Nat} {news : List Value}
    (hn : 0 < n) (WM : n ≤ 4) (WQ : at' < n) (hone : one ≤ 3) (hbm : bm < w.heap.size) {bs os k cs : Nat} {aog : List Value} (hsp : Aside (news[at' * 2 + 1]? = some (.slice (some ⟨bs, os, none⟩) k cs))) (hk : one < k) (hk3 : k ≤ 3) (hbs : bs < w.heap.size) (hl2 : aog.length = k * 6) (h12 : Aside (∀ u ∈ aog, u.oneCell' = true))
    (hc2 : Aside (∀ W : World, Below w.heap.size w W → ∀ j u, aog[j]? = some u → W.cell? ((⟨bs, os, none⟩ : Addr).add j) = some u)) (hl : news.length = n * 2) (h1 : Aside (∀ u ∈ news, u.oneCell' = true))
    (hc : Aside (∀ W : World, Below w.heap.size w W → ∀ j u, news[j]? = some u → W.cell? ((⟨bm, acF, none⟩ : Addr).add j) = some u)) :
    Calls Try.prog 49 #[.agg #[.slice (some ⟨bm, acF, none⟩) n c, .int .i64 msp, .int .i64 mdp, .int .i64 mbn, .int .i64 mgn], .int .i64 at', .int .i64 one, .agg #[.int .i64 x1, .int .i64 x2, .int .i64 x3, .int .i64 x4, .int .i64 x5, .int .i64 x6]] w fun en w' => ∃ (cap wL G : Nat) (cur UZ : Array Value), en = .returned (.agg #[.slice (some ⟨w.heap.size + 4, 0, none⟩) n cap, .int .i64 msp, .int .i64 mdp, .int .i64 mbn, .int .i64 mgn]) ∧ Below w.heap.size w w' ∧ w.drawn ≤ w'.drawn ∧ w.heap.size + 4 < G ∧ G < w'.heap.size ∧
      w'.heap[w.heap.size + 4]? = some (.cells (cur.setIfInBounds (at' * 2 + 1) (.slice (some ⟨G, 0, none⟩) k wL)) 44 (0, 0)) ∧ n ≤ cap ∧ cap ≤ maxLen ∧ cur.size = cap * 2 ∧ cur.toList.take (n * 2) = news ∧
      w'.heap[G]? = some (.cells ((((((UZ.setIfInBounds (one * 6) (.int .i64 x1)).setIfInBounds (one * 6 + 1) (.int .i64 x2)).setIfInBounds (one * 6 + 2) (.int .i64 x3)).setIfInBounds (one * 6 + 3) (.int .i64 x4)).setIfInBounds (one * 6 + 4) (.int .i64 x5)).setIfInBounds (one * 6 + 5) (.int .i64 x6)) 54 (0, 0)) ∧
      k ≤ wL ∧ wL ≤ maxLen ∧ UZ.size = wL * 6 ∧ UZ.toList.take (k * 6) = aog := by
  have mixed : Try.prog.follows .mixedOrders = true := by kernel_rfl
  obtain ⟨i44, hi, hz0, Qq, hz2⟩ := info_parts (P := Try.prog) (e := 44) (z := .agg #[.int .i64 0, .slice none 0 0]) (size := 2) (bytes := 32) (by kernel_rfl)
  obtain ⟨i54, hi5, aXX, aXY, aX0⟩ := info_parts (P := Try.prog) (e := 54) (z := .agg #[.int .i64 0, .int .i64 0, .int .i64 0, .int .i64 0, .int .i64 0, .int .i64 0]) (size := 6) (bytes := 48) (by kernel_rfl)
  have t22 := Try.underlying22; have a22 := Try.isAgg22; have z22 := Try.sizeOf22; have v22 := Try.zeroValue22
  have t24 := Try.underlying24; have a24 := Try.isAgg24; have z24 := Try.sizeOf24; have v24 := Try.zeroValue24
  have t42 := Try.underlying42; have a42 := Try.isAgg42; have z42 := Try.sizeOf42; have v42 := Try.zeroValue42
  have t44 := Try.underlying44; have a44 := Try.isAgg44; have z44 := Try.sizeOf44; have v44 := Try.zeroValue44
  have t54 := Try.underlying54; have a54 := Try.isAgg54; have z54 := Try.sizeOf54; have v54 := Try.zeroValue54
  have t3 := Try.underlying3; have a3 := Try.isAgg3; have z3 := Try.sizeOf3; have v3 := Try.zeroValue3
  go_enter Try.func49, Try.ntmps49
  go_wp2_with (first
    | (at_builtin; refine av2 _ rfl _ _ 22 rfl (w.heap.size) 44 i44 (.agg #[.int .i64 0, .slice none 0 0]) 2 32 Try.underlying22 hi hz0 Qq hz2 rfl (by decide) (by decide) rfl ⟨bm, acF, none⟩ n c news rfl hl ?hnews h1.out hn ?h63 ?hby ?hba (w.heap.size + 4) ?hH ?_)
    | go_in)
  case hnews => exact hc.out _ (((((Below.refl w.heap.size w).alloc (Nat.le_refl _) _).alloc (by simp) _).alloc (by simp; omega) _).alloc (by simp; omega) _)
  case h63 => unfold maxLen; omega
  case hby => omega
  case hba => simp; omega
  case hH => simp
  intro g cap w1 hown hgrow hg hlt hd1
  have HD1 : w.drawn ≤ w1.drawn := hd1
  have hg' : g = w.heap.size + 4 := hg
  subst hg'
  obtain ⟨r0, r1, r2, r3⟩ := aHy w (.cells #[.slice (some ⟨bm, acF, none⟩) n c, .int .i64 msp, .int .i64 mdp, .int .i64 mbn, .int .i64 mgn] 24) (.cells #[.int .i64 x1, .int .i64 x2, .int .i64 x3, .int .i64 x4, .int .i64 x5, .int .i64 x6] 54) (.cells #[.slice none 0 0, .int .i64 0, .int .i64 0, .int .i64 0, .int .i64 0] 24) (.cells #[.slice (some ⟨bm, acF, none⟩) n c, .int .i64 msp, .int .i64 mdp, .int .i64 mbn, .int .i64 mgn] 24)
  have q0 := (hgrow.block w.heap.size (by simp; omega) (by simp [Value.ownBlock])).trans r0
  have q1 := (hgrow.block (w.heap.size + 1) (by simp) (by simp [Value.ownBlock])).trans r1
  have q2 := (hgrow.block (w.heap.size + 1 + 1) (by simp) (by simp [Value.ownBlock])).trans r2
  have q3 := (hgrow.block (w.heap.size + 1 + 1 + 1) (by simp) (by simp [Value.ownBlock])).trans r3
  clear r0 r1 r2 r3
  have c3 : w1.cell? ⟨w.heap.size + 1 + 1 + 1, 0, none⟩ = some (.slice (some ⟨bm, acF, none⟩) n c) := by simp [World.cell?, q3]
  have f3 : w1.frozen? ⟨w.heap.size + 1 + 1 + 1, 0, none⟩ = false := by simp [World.frozen?, q3]
  have ajh : Aside (Below w.heap.size w w1) := ((((((Below.refl w.heap.size w).alloc (Nat.le_refl _) _).alloc (by simp) _).alloc (by simp; omega) _).alloc (by simp; omega) _).grown hgrow (by simp; omega) (fun k hk => by cases hk))
  clear hgrow hg
  go_wp2_with fail
  have u0 := (Below.heap_setCell w1 ⟨w.heap.size + 1 + 1 + 1, 0, none⟩ (.slice (some ⟨w.heap.size + 4, 0, none⟩) n cap) w.heap.size (by show _ ≠ w.heap.size + 1 + 1 + 1; omega)).trans q0
  have u1 := (Below.heap_setCell w1 ⟨w.heap.size + 1 + 1 + 1, 0, none⟩ (.slice (some ⟨w.heap.size + 4, 0, none⟩) n cap) (w.heap.size + 1) (by show _ ≠ w.heap.size + 1 + 1 + 1; omega)).trans q1
  have u2 := (Below.heap_setCell w1 ⟨w.heap.size + 1 + 1 + 1, 0, none⟩ (.slice (some ⟨w.heap.size + 4, 0, none⟩) n cap) (w.heap.size + 1 + 1) (by show _ ≠ w.heap.size + 1 + 1 + 1; omega)).trans q2
  have u3 := amu q3 (o := 0) (.slice (some ⟨w.heap.size + 4, 0, none⟩) n cap)
  have hz : w1.heap.size = (w1.setCell ⟨w.heap.size + 1 + 1 + 1, 0, none⟩ (.slice (some ⟨w.heap.size + 4, 0, none⟩) n cap)).heap.size := (aof _ _ _).symm
  have HB2 : Aside (Below w.heap.size w (w1.setCell ⟨w.heap.size + 1 + 1 + 1, 0, none⟩ (.slice (some ⟨w.heap.size + 4, 0, none⟩) n cap))) := ajh.out.setCell (by show w.heap.size ≤ w.heap.size + 1 + 1 + 1; omega) _
  obtain ⟨cur, Qw, Qp, hcz, hct⟩ : ∃ cur, w1.heap[w.heap.size + 4]? = some (.cells cur 44 (0, 0)) ∧ (n ≤ cap ∧ cap ≤ maxLen) ∧ cur.size = cap * 2 ∧ cur.toList.take (n * 2) = news := by
    rcases hown.2 with ⟨q, _⟩ | ⟨g, cp, cur, q, _, p1, p2, p5, p3, p4⟩
    · cases q
    · cases q; exact ⟨cur, p1, ⟨by omega, p5⟩, p3, by simpa using p4⟩
  have u4 := (Below.heap_setCell w1 ⟨w.heap.size + 1 + 1 + 1, 0, none⟩ (.slice (some ⟨w.heap.size + 4, 0, none⟩) n cap) (w.heap.size + 4) (by show _ ≠ w.heap.size + 1 + 1 + 1; omega)).trans Qw
  have lt4 : w.heap.size + 4 < (w1.setCell ⟨w.heap.size + 1 + 1 + 1, 0, none⟩ (.slice (some ⟨w.heap.size + 4, 0, none⟩) n cap)).heap.size := by rw [← hz]; exact hlt
  have HD2 : w.drawn ≤ (w1.setCell ⟨w.heap.size + 1 + 1 + 1, 0, none⟩ (.slice (some ⟨w.heap.size + 4, 0, none⟩) n cap)).drawn := HD1
  generalize w1.setCell ⟨w.heap.size + 1 + 1 + 1, 0, none⟩ (.slice (some ⟨w.heap.size + 4, 0, none⟩) n cap) = w2 at u0 u1 u2 u3 u4 lt4 HB2 HD2 ⊢
  clear hz Qw q0 q1 q2 q3 c3 f3 ajh hown hlt
  have s0 : w2.cell? ⟨w.heap.size, 0, none⟩ = some (.slice (some ⟨bm, acF, none⟩) n c) := cell_of u0 rfl
  have s3 : w2.cell? ⟨w.heap.size + 1 + 1 + 1, 0, none⟩ = some (.slice (some ⟨w.heap.size + 4, 0, none⟩) n cap) := cell_of u3 rfl
  have sm : w2.cell? ⟨bm, acF + at' * 2 + 1, none⟩ = some (.slice (some ⟨bs, os, none⟩) k cs) := by
    have := hc.out _ HB2.out _ _ hsp.out
    have e : (⟨bm, acF, none⟩ : Addr).add (at' * 2 + 1) = ⟨bm, acF + at' * 2 + 1, none⟩ := by simp [Addr.add, Nat.add_assoc]
    rwa [e] at this
  have hcu : cur[at' * 2 + 1]? = some (.slice (some ⟨bs, os, none⟩) k cs) := by
    have h5 := hsp.out
    rw [← hct, List.getElem?_take, if_pos (by omega)] at h5
    rw [← h5]; simp
  have aie : w2.cell? ⟨w.heap.size + 4, at' * 2 + 1, none⟩ = some (.slice (some ⟨bs, os, none⟩) k cs) := cell_of u4 hcu
  have sg' : (w2.cell? ⟨w.heap.size + 4, at' * 2 + 1, none⟩).isSome = true := by rw [aie]; rfl
  have fg : w2.frozen? ⟨w.heap.size + 4, at' * 2 + 1, none⟩ = false := amT u4
  have KX := HB2.out.size
  have i0 : (0 : Int) ≤ (at' : Int) := Int.natCast_nonneg _
  have i1 : (at' : Int) < (n : Int) := by omega
  go_region_held_law? (fun w' => w'.cell? ⟨w.heap.size + 1 + 1 + 1, 0, none⟩ = some (.slice (some ⟨w.heap.size + 4, 0, none⟩) n cap) ∧ w'.cell? ⟨w.heap.size, 0, none⟩ = some (.slice (some ⟨bm, acF, none⟩) n c) ∧ w'.cell? ⟨bm, acF + at' * 2 + 1, none⟩ = some (.slice (some ⟨bs, os, none⟩) k cs))
    (first
      | (try go_split_ands
         refine ⟨?_, ?_, ?_⟩
         · exact (World.cell?_of_block (Below.heap_setCell w3 ⟨w.heap.size + 4, at' * 2 + 1, none⟩ _ _ (by first | (show w.heap.size + 1 + 1 + 1 ≠ w.heap.size + 4; omega) | (show w.heap.size ≠ w.heap.size + 4; omega) | (show bm ≠ w.heap.size + 4; omega)))).trans (by assumption)
         · exact (World.cell?_of_block (Below.heap_setCell w3 ⟨w.heap.size + 4, at' * 2 + 1, none⟩ _ _ (by first | (show w.heap.size + 1 + 1 + 1 ≠ w.heap.size + 4; omega) | (show w.heap.size ≠ w.heap.size + 4; omega) | (show bm ≠ w.heap.size + 4; omega)))).trans (by assumption)
         · exact (World.cell?_of_block (Below.heap_setCell w3 ⟨w.heap.size + 4, at' * 2 + 1, none⟩ _ _ (by first | (show w.heap.size + 1 + 1 + 1 ≠ w.heap.size + 4; omega) | (show w.heap.size ≠ w.heap.size + 4; omega) | (show bm ≠ w.heap.size + 4; omega)))).trans (by assumption))
      | (try go_split_ands
         refine ⟨?_, ?_, ?_⟩
         · (rw [aoc.cell_far _ (by simp; omega) (by simp [Value.ownBlock])]; assumption)
         · (rw [aoc.cell_far _ (by simp; omega) (by simp [Value.ownBlock])]; assumption)
         · (rw [aoc.cell_far _ (by simp; omega) (by simp [Value.ownBlock])]; assumption))
      | go_keep)
    ((refine azu _ (by rfl) _ _ _ (by rfl) w.heap.size 54 i54 _ 6 48 Try.underlying42 hi5 aXX aXY aX0 rfl (by decide) (by decide) (by rfl)
        ⟨bs, os, none⟩ k cs aog (by rfl) hl2 (hc2.out _ HB2.out.drew) h12.out (by omega) (by unfold maxLen; omega) (by omega) (by simp; omega) w2.heap.size (by simp) ?_; intro g2 wL w3 aEX aoc aX3 aRN hd2
      have sg3 : w3.cell? ⟨w.heap.size + 4, at' * 2 + 1, none⟩ = some (.slice (some ⟨bs, os, none⟩) k cs) := (aoc.cell_far _ (by simp; omega) (by simp [Value.ownBlock])).trans aie
      have fg3 : w3.frozen? ⟨w.heap.size + 4, at' * 2 + 1, none⟩ = false := (aoc.frozen_far _ (by simp; omega) (by simp [Value.ownBlock])).trans fg))
  have hg2 : g2 = w2.heap.size := aX3
  have HD3 : w.drawn ≤ w3.drawn := by
    have q : w2.drawn + 1 ≤ w3.drawn := hd2
    omega
  subst hg2
  have l4 : w.heap.size + 4 < w2.drew.heap.size := by simpa using lt4
  have HB3 : Aside (Below w.heap.size w w3) := HB2.out.drew.grown aoc (by simp; omega) (fun k hk => by cases hk)
  have p0 := (aoc.block w.heap.size (by omega) (by simp [Value.ownBlock])).trans u0
  have p1 := (aoc.block (w.heap.size + 1) (by omega) (by simp [Value.ownBlock])).trans u1
  have p2 := (aoc.block (w.heap.size + 1 + 1) (by omega) (by simp [Value.ownBlock])).trans u2
  have p3 := (aoc.block (w.heap.size + 1 + 1 + 1) (by omega) (by simp [Value.ownBlock])).trans u3
  have p4 := (aoc.block (w.heap.size + 4) (by omega) (by simp [Value.ownBlock])).trans u4
  obtain ⟨UZ, aEY, aM6, aHB, aHC⟩ : ∃ UZ, w3.heap[w2.heap.size]? = some (.cells UZ 54 (0, 0)) ∧ (k ≤ wL ∧ wL ≤ maxLen) ∧ UZ.size = wL * 6 ∧ UZ.toList.take (k * 6) = aog := by
    rcases aEX.2 with ⟨q, _⟩ | ⟨g, cp, cur, q, _, p1, p2, p5, p3, p4⟩
    · cases q
    · cases q; exact ⟨cur, p1, ⟨by omega, p5⟩, p3, by simpa using p4⟩
  go_wp2_with fail
  have v0 := (Below.heap_setCell w3 ⟨w.heap.size + 4, at' * 2 + 1, none⟩ (.slice (some ⟨w2.heap.size, 0, none⟩) k wL) (w.heap.size + 1) (by show _ ≠ w.heap.size + 4; omega)).trans p1
  have v2 := (Below.heap_setCell w3 ⟨w.heap.size + 4, at' * 2 + 1, none⟩ (.slice (some ⟨w2.heap.size, 0, none⟩) k wL) (w.heap.size + 1 + 1) (by show _ ≠ w.heap.size + 4; omega)).trans p2
  have v3 := (Below.heap_setCell w3 ⟨w.heap.size + 4, at' * 2 + 1, none⟩ (.slice (some ⟨w2.heap.size, 0, none⟩) k wL) (w.heap.size + 1 + 1 + 1) (by show _ ≠ w.heap.size + 4; omega)).trans p3
  have v4 := amu p4 (o := at' * 2 + 1) (.slice (some ⟨w2.heap.size, 0, none⟩) k wL)
  have v5 := (Below.heap_setCell w3 ⟨w.heap.size + 4, at' * 2 + 1, none⟩ (.slice (some ⟨w2.heap.size, 0, none⟩) k wL) w2.heap.size (by show _ ≠ w.heap.size + 4; omega)).trans aEY
  have HB4 : Aside (Below w.heap.size w (w3.setCell ⟨w.heap.size + 4, at' * 2 + 1, none⟩ (.slice (some ⟨w2.heap.size, 0, none⟩) k wL))) := HB3.out.setCell (by show w.heap.size ≤ w.heap.size + 4; omega) _
  have ajk : w2.heap.size < (w3.setCell ⟨w.heap.size + 4, at' * 2 + 1, none⟩ (.slice (some ⟨w2.heap.size, 0, none⟩) k wL)).heap.size := by rw [aof]; exact aRN
  have HD4 : w.drawn ≤ (w3.setCell ⟨w.heap.size + 4, at' * 2 + 1, none⟩ (.slice (some ⟨w2.heap.size, 0, none⟩) k wL)).drawn := HD3
  generalize w3.setCell ⟨w.heap.size + 4, at' * 2 + 1, none⟩ (.slice (some ⟨w2.heap.size, 0, none⟩) k wL) = w4 at v0 v2 v3 v4 v5 HB4 HD4 ajk ⊢
  clear aEY p0 p1 p2 p3 p4 HB3 aEX aRN aoc sg3 fg3 aie fg s0 s3 sm u0 u1 u2 u3 u4 HB2
  have l5 : w.heap.size + 4 < w2.heap.size := lt4
  generalize w2.heap.size = G at *
  have k3 : w4.cell? ⟨w.heap.size + 1 + 1 + 1, 0, none⟩ = some (.slice (some ⟨w.heap.size + 4, 0, none⟩) n cap) := cell_of v3 rfl
  have q4 : at' * 2 + 1 < cur.size := by omega
  have k4 : w4.cell? ⟨w.heap.size + 4, at' * 2 + 1, none⟩ = some (.slice (some ⟨G, 0, none⟩) k wL) := cell_of v4 (by simp [Array.getElem?_setIfInBounds, q4])
  have j0 : w4.cell? ⟨w.heap.size + 1, 0, none⟩ = some (.int .i64 x1) := cell_of v0 rfl
  have j1 : w4.cell? ⟨w.heap.size + 1, 1, none⟩ = some (.int .i64 x2) := cell_of v0 rfl
  have j2 : w4.cell? ⟨w.heap.size + 1, 2, none⟩ = some (.int .i64 x3) := cell_of v0 rfl
  have j3 : w4.cell? ⟨w.heap.size + 1, 3, none⟩ = some (.int .i64 x4) := cell_of v0 rfl
  have j4 : w4.cell? ⟨w.heap.size + 1, 4, none⟩ = some (.int .i64 x5) := cell_of v0 rfl
  have j5 : w4.cell? ⟨w.heap.size + 1, 5, none⟩ = some (.int .i64 x6) := cell_of v0 rfl
  have o0 : (0 : Int) ≤ (one : Int) := Int.natCast_nonneg _
  have o1 : (one : Int) < (k : Int) := by omega
  obtain ⟨y0, hy0⟩ : ∃ y, UZ[one * 6]? = some y := ⟨_, Array.getElem?_eq_getElem (by omega)⟩
  have zc0 : w4.cell? ⟨G, one * 6, none⟩ = some y0 := cell_of v5 hy0
  have fz0 : w4.frozen? ⟨G, one * 6, none⟩ = false := amT v5
  obtain ⟨y1, hy1⟩ : ∃ y, UZ[one * 6 + 1]? = some y := ⟨_, Array.getElem?_eq_getElem (by omega)⟩
  have zc1 : w4.cell? ⟨G, one * 6 + 1, none⟩ = some y1 := cell_of v5 hy1
  have fz1 : w4.frozen? ⟨G, one * 6 + 1, none⟩ = false := amT v5
  obtain ⟨y2, hy2⟩ : ∃ y, UZ[one * 6 + 2]? = some y := ⟨_, Array.getElem?_eq_getElem (by omega)⟩
  have zc2 : w4.cell? ⟨G, one * 6 + 2, none⟩ = some y2 := cell_of v5 hy2
  have fz2 : w4.frozen? ⟨G, one * 6 + 2, none⟩ = false := amT v5
  obtain ⟨y3, hy3⟩ : ∃ y, UZ[one * 6 + 3]? = some y := ⟨_, Array.getElem?_eq_getElem (by omega)⟩
  have zc3 : w4.cell? ⟨G, one * 6 + 3, none⟩ = some y3 := cell_of v5 hy3
  have fz3 : w4.frozen? ⟨G, one * 6 + 3, none⟩ = false := amT v5
  obtain ⟨y4, hy4⟩ : ∃ y, UZ[one * 6 + 4]? = some y := ⟨_, Array.getElem?_eq_getElem (by omega)⟩
  have zc4 : w4.cell? ⟨G, one * 6 + 4, none⟩ = some y4 := cell_of v5 hy4
  have fz4 : w4.frozen? ⟨G, one * 6 + 4, none⟩ = false := amT v5
  obtain ⟨y5, hy5⟩ : ∃ y, UZ[one * 6 + 5]? = some y := ⟨_, Array.getElem?_eq_getElem (by omega)⟩
  have zc5 : w4.cell? ⟨G, one * 6 + 5, none⟩ = some y5 := cell_of v5 hy5
  have fz5 : w4.frozen? ⟨G, one * 6 + 5, none⟩ = false := amT v5
  go_region_o
  have hne : ∀ b, b ≠ G → ((((((w4.setCell ⟨G, one * 6, none⟩ (.int .i64 x1)).setCell ⟨G, one * 6 + 1, none⟩ (.int .i64 x2)).setCell ⟨G, one * 6 + 2, none⟩ (.int .i64 x3)).setCell ⟨G, one * 6 + 3, none⟩ (.int .i64 x4)).setCell ⟨G, one * 6 + 4, none⟩ (.int .i64 x5)).setCell ⟨G, one * 6 + 5, none⟩ (.int .i64 x6)).heap[b]? = w4.heap[b]? := fun b hb => by
    rw [Below.heap_setCell _ _ _ _ hb, Below.heap_setCell _ _ _ _ hb, Below.heap_setCell _ _ _ _ hb, Below.heap_setCell _ _ _ _ hb, Below.heap_setCell _ _ _ _ hb, Below.heap_setCell _ _ _ _ hb]
  have n2 := (hne (w.heap.size + 1 + 1) (by omega)).trans v2
  have n3 := (hne (w.heap.size + 1 + 1 + 1) (by omega)).trans v3
  have n4 := (hne (w.heap.size + 4) (by omega)).trans v4
  have n5 := amu (amu (amu (amu (amu (amu v5 (o := one * 6) (.int .i64 x1)) (o := one * 6 + 1) (.int .i64 x2)) (o := one * 6 + 2) (.int .i64 x3)) (o := one * 6 + 3) (.int .i64 x4)) (o := one * 6 + 4) (.int .i64 x5)) (o := one * 6 + 5) (.int .i64 x6)
  have hG : w.heap.size ≤ G := by omega
  have HB5 : Aside (Below w.heap.size w ((((((w4.setCell ⟨G, one * 6, none⟩ (.int .i64 x1)).setCell ⟨G, one * 6 + 1, none⟩ (.int .i64 x2)).setCell ⟨G, one * 6 + 2, none⟩ (.int .i64 x3)).setCell ⟨G, one * 6 + 3, none⟩ (.int .i64 x4)).setCell ⟨G, one * 6 + 4, none⟩ (.int .i64 x5)).setCell ⟨G, one * 6 + 5, none⟩ (.int .i64 x6))) := ((((((HB4.out.setCell (by exact hG) _).setCell (by exact hG) _).setCell (by exact hG) _).setCell (by exact hG) _).setCell (by exact hG) _).setCell (by exact hG) _)
  have gl5 : G < ((((((w4.setCell ⟨G, one * 6, none⟩ (.int .i64 x1)).setCell ⟨G, one * 6 + 1, none⟩ (.int .i64 x2)).setCell ⟨G, one * 6 + 2, none⟩ (.int .i64 x3)).setCell ⟨G, one * 6 + 3, none⟩ (.int .i64 x4)).setCell ⟨G, one * 6 + 4, none⟩ (.int .i64 x5)).setCell ⟨G, one * 6 + 5, none⟩ (.int .i64 x6)).heap.size := by simp only [aof]; exact ajk
  have HD5 : w.drawn ≤ ((((((w4.setCell ⟨G, one * 6, none⟩ (.int .i64 x1)).setCell ⟨G, one * 6 + 1, none⟩ (.int .i64 x2)).setCell ⟨G, one * 6 + 2, none⟩ (.int .i64 x3)).setCell ⟨G, one * 6 + 3, none⟩ (.int .i64 x4)).setCell ⟨G, one * 6 + 4, none⟩ (.int .i64 x5)).setCell ⟨G, one * 6 + 5, none⟩ (.int .i64 x6)).drawn := HD4
  generalize ((((((w4.setCell ⟨G, one * 6, none⟩ (.int .i64 x1)).setCell ⟨G, one * 6 + 1, none⟩ (.int .i64 x2)).setCell ⟨G, one * 6 + 2, none⟩ (.int .i64 x3)).setCell ⟨G, one * 6 + 3, none⟩ (.int .i64 x4)).setCell ⟨G, one * 6 + 4, none⟩ (.int .i64 x5)).setCell ⟨G, one * 6 + 5, none⟩ (.int .i64 x6)) = w5 at n2 n3 n4 n5 HB5 HD5 gl5 ⊢
  clear hne v0 v2 v3 v4 v5 HB4 ajk k3 k4 j0 j1 j2 j3 j4 j5 zc0 zc1 zc2 zc3 zc4 zc5 fz0 fz1 fz2 fz3 fz4 fz5
  have e0 : w5.cell? ⟨w.heap.size + 1 + 1 + 1, 0, none⟩ = some (.slice (some ⟨w.heap.size + 4, 0, none⟩) n cap) := cell_of n3 rfl
  have e1 : w5.cell? ⟨w.heap.size + 1 + 1 + 1, 1, none⟩ = some (.int .i64 msp) := cell_of n3 rfl
  have e2 : w5.cell? ⟨w.heap.size + 1 + 1 + 1, 2, none⟩ = some (.int .i64 mdp) := cell_of n3 rfl
  have e3 : w5.cell? ⟨w.heap.size + 1 + 1 + 1, 3, none⟩ = some (.int .i64 mbn) := cell_of n3 rfl
  have e4 : w5.cell? ⟨w.heap.size + 1 + 1 + 1, 4, none⟩ = some (.int .i64 mgn) := cell_of n3 rfl
  have d0 : w5.cell? ⟨w.heap.size + 1 + 1, 0, none⟩ = some (.slice none 0 0) := cell_of n2 rfl
  have d1 : w5.cell? ⟨w.heap.size + 1 + 1, 1, none⟩ = some (.int .i64 0) := cell_of n2 rfl
  have d2 : w5.cell? ⟨w.heap.size + 1 + 1, 2, none⟩ = some (.int .i64 0) := cell_of n2 rfl
  have d3 : w5.cell? ⟨w.heap.size + 1 + 1, 3, none⟩ = some (.int .i64 0) := cell_of n2 rfl
  have d4 : w5.cell? ⟨w.heap.size + 1 + 1, 4, none⟩ = some (.int .i64 0) := cell_of n2 rfl
  have f0 : w5.frozen? ⟨w.heap.size + 1 + 1, 0, none⟩ = false := amT n2
  have f1 : w5.frozen? ⟨w.heap.size + 1 + 1, 1, none⟩ = false := amT n2
  have f2 : w5.frozen? ⟨w.heap.size + 1 + 1, 2, none⟩ = false := amT n2
  have f3 : w5.frozen? ⟨w.heap.size + 1 + 1, 3, none⟩ = false := amT n2
  have f4 : w5.frozen? ⟨w.heap.size + 1 + 1, 4, none⟩ = false := amT n2
  go_wp2_with fail
  have m2 := amu (amu (amu (amu (amu n2 (o := 0) (.slice (some ⟨w.heap.size + 4, 0, none⟩) n cap)) (o := 1) (.int .i64 msp)) (o := 2) (.int .i64 mdp)) (o := 3) (.int .i64 mbn)) (o := 4) (.int .i64 mgn)
  have hne : ∀ b, b ≠ w.heap.size + 1 + 1 → (((((w5.setCell ⟨w.heap.size + 1 + 1, 0, none⟩ (.slice (some ⟨w.heap.size + 4, 0, none⟩) n cap)).setCell ⟨w.heap.size + 1 + 1, 1, none⟩ (.int .i64 msp)).setCell ⟨w.heap.size + 1 + 1, 2, none⟩ (.int .i64 mdp)).setCell ⟨w.heap.size + 1 + 1, 3, none⟩ (.int .i64 mbn)).setCell ⟨w.heap.size + 1 + 1, 4, none⟩ (.int .i64 mgn)).heap[b]? = w5.heap[b]? := fun b hb => by
    rw [Below.heap_setCell _ _ _ _ hb, Below.heap_setCell _ _ _ _ hb, Below.heap_setCell _ _ _ _ hb, Below.heap_setCell _ _ _ _ hb, Below.heap_setCell _ _ _ _ hb]
  have hB2 : w.heap.size ≤ w.heap.size + 1 + 1 := by omega
  have HB6 : Below w.heap.size w (((((w5.setCell ⟨w.heap.size + 1 + 1, 0, none⟩ (.slice (some ⟨w.heap.size + 4, 0, none⟩) n cap)).setCell ⟨w.heap.size + 1 + 1, 1, none⟩ (.int .i64 msp)).setCell ⟨w.heap.size + 1 + 1, 2, none⟩ (.int .i64 mdp)).setCell ⟨w.heap.size + 1 + 1, 3, none⟩ (.int .i64 mbn)).setCell ⟨w.heap.size + 1 + 1, 4, none⟩ (.int .i64 mgn)) := (((((HB5.out.setCell (by exact hB2) _).setCell (by exact hB2) _).setCell (by exact hB2) _).setCell (by exact hB2) _).setCell (by exact hB2) _)
  have gl6 : G < (((((w5.setCell ⟨w.heap.size + 1 + 1, 0, none⟩ (.slice (some ⟨w.heap.size + 4, 0, none⟩) n cap)).setCell ⟨w.heap.size + 1 + 1, 1, none⟩ (.int .i64 msp)).setCell ⟨w.heap.size + 1 + 1, 2, none⟩ (.int .i64 mdp)).setCell ⟨w.heap.size + 1 + 1, 3, none⟩ (.int .i64 mbn)).setCell ⟨w.heap.size + 1 + 1, 4, none⟩ (.int .i64 mgn)).heap.size := by simp only [aof]; exact gl5
  have n4' := (hne (w.heap.size + 4) (by omega)).trans n4
  have n5' := (hne G (by omega)).trans n5
  have HD6 : w.drawn ≤ (((((w5.setCell ⟨w.heap.size + 1 + 1, 0, none⟩ (.slice (some ⟨w.heap.size + 4, 0, none⟩) n cap)).setCell ⟨w.heap.size + 1 + 1, 1, none⟩ (.int .i64 msp)).setCell ⟨w.heap.size + 1 + 1, 2, none⟩ (.int .i64 mdp)).setCell ⟨w.heap.size + 1 + 1, 3, none⟩ (.int .i64 mbn)).setCell ⟨w.heap.size + 1 + 1, 4, none⟩ (.int .i64 mgn)).drawn := HD5
  generalize (((((w5.setCell ⟨w.heap.size + 1 + 1, 0, none⟩ (.slice (some ⟨w.heap.size + 4, 0, none⟩) n cap)).setCell ⟨w.heap.size + 1 + 1, 1, none⟩ (.int .i64 msp)).setCell ⟨w.heap.size + 1 + 1, 2, none⟩ (.int .i64 mdp)).setCell ⟨w.heap.size + 1 + 1, 3, none⟩ (.int .i64 mbn)).setCell ⟨w.heap.size + 1 + 1, 4, none⟩ (.int .i64 mgn)) = w6 at m2 n4' n5' HB6 HD6 gl6 ⊢
  refine bodyPost_ret (results_cell_row rfl _ _ (w.heap.size + 1 + 1) 24 #[.slice (some ⟨w.heap.size + 4, 0, none⟩) n cap, .int .i64 msp, .int .i64 mdp, .int .i64 mbn, .int .i64 mgn] (0, 0) _ rfl m2 t24 rfl (by kernel_rfl)) rfl ?_
  exact ⟨cap, wL, G, cur, UZ, rfl, HB6.drew, Nat.le_succ_of_le HD6, l5, gl6, n4', Qp.1, Qp.2, hcz, hct, n5', aM6.1, aM6.2, aHB, aHC⟩
abbrev a49:Ty:=.cons (.agg tS) (.cons tI (.cons tI (.cons (.agg Py) .nil)))
abbrev r49:Ty:=.cons (.agg tS) .nil
def azv (x:(a49).den):Bool:=decide ((0:Int)<=x.2.1/\x.2.1 < ((x.1.1.n:Nat):Int)) && (decide (x.1.1.n<=4) && (decide ((0:Int)<=x.2.2.1/\x.2.2.1 < (((x.1.1.g (Int.toNat x.2.1)).2.1.n:Nat):Int)) && decide ((x.1.1.g (Int.toNat x.2.1)).2.1.n<=3)))
def aHD (x:(a49).den):(r49).den:=((⟨x.1.1.n,fun i=>bif Nat.beq i (Int.toNat x.2.1) then ((x.1.1.g i).1,(⟨(x.1.1.g i).2.1.n,fun j=>bif Nat.beq j (Int.toNat x.2.2.1) then x.2.2.2.1 else (x.1.1.g i).2.1.g j⟩,())) else x.1.1.g i⟩,x.1.2),())
def M49 (x:(a49).den):Option (r49).den:=bif azv x then some (aHD x) else none
def p49:=pO M49
def v49:=vO (τ:=r49) M49
def k49:ee:=⟨a49,r49,p49,v49⟩
theorem apz {k i:Nat} {xs ys:List Value} (hl:ys.length=k) (h:∀ j,j < k->xs[i * k + j]? = ys[j]?):chunk k i xs=ys:=by
 apply List.ext_getElem?
 intro j
 unfold chunk
 rw [List.getElem?_take,List.getElem?_drop]
 split
 ·rename_i hj; exact h j hj
 ·rw [List.getElem?_eq_none (by omega)]
theorem auA {k i:Nat} {xs ys:List Value} (h:chunk k i xs=ys) {j:Nat} (hj:j < k):xs[i * k + j]? = ys[j]? := by
 rw [<- h]; unfold chunk
 rw [List.getElem?_take,if_pos hj,List.getElem?_drop]
theorem aX7:Holds Try.prog 49 ⟨a49,r49,azv,aHD⟩:=by
 intro S w hbd x vs hpre hr
 obtain ⟨⟨maps,s1,s2,s3,s4,z0⟩,at',one,⟨x1,x2,x3,x4,x5,x6,z1⟩,z2⟩:=x
 obtain ⟨n,aeO⟩:=maps
 have hpre:(decide ((0:Int)<=at'/\at' < (n:Int)) && (decide (n<=4) && (decide ((0:Int)<=one/\one < (((aeO (Int.toNat at')).2.1.n:Nat):Int)) && decide ((aeO (Int.toNat at')).2.1.n<=3))))=true:=hpre
 simp only [Bool.and_eq_true,decide_eq_true_eq] at hpre
 obtain ⟨⟨pa0,pa1⟩,pn4,⟨po0,po1⟩,pk3⟩:=hpre
 obtain ⟨at',rfl⟩:=Int.eq_ofNat_of_zero_le pa0
 obtain ⟨one,rfl⟩:=Int.eq_ofNat_of_zero_le po0
 have pa1:(at':Int) < (n:Int):=pa1
 have WQ:at' < n:=by omega
 have po1:(one:Int) < (((aeO at').2.1.n:Nat):Int):=po1
 have pk3:(aeO at').2.1.n<=3:=pk3
 generalize hlw:(aeO at').2.1=aX8 at po1 pk3
 obtain ⟨k,aeB⟩:=aX8
 have po1:(one:Int) < (k:Int):=po1
 have pk3:k<=3:=pk3
 obtain ⟨u0,ws0,rfl,hs,hr⟩:=hr
 obtain ⟨u1,ws1,rfl,ha,hr⟩:=hr
 obtain ⟨u2,ws2,rfl,ho,hr⟩:=hr
 obtain ⟨u3,ws3,rfl,hb,hr⟩:=hr
 obtain rfl:ws3=[]:=hr
 obtain rfl:u1 = .int .i64 at':=(List.cons.inj ha).1
 obtain rfl:u2 = .int .i64 one:=(List.cons.inj ho).1
 obtain ⟨us,e,hs,_⟩:=hs
 obtain rfl:=(List.cons.inj e).1
 obtain ⟨us2,e,hb,_⟩:=hb
 obtain rfl:=(List.cons.inj e).1
 obtain ⟨b1,t1,rfl,c1,hb⟩:=hb
 obtain ⟨b2,t2,rfl,c2,hb⟩:=hb
 obtain ⟨b3,t3,rfl,c3,hb⟩:=hb
 obtain ⟨b4,t4,rfl,c4,hb⟩:=hb
 obtain ⟨b5,t5,rfl,c5,hb⟩:=hb
 obtain ⟨b6,t6,rfl,c6,hb⟩:=hb
 obtain rfl:t6=[]:=hb
 obtain rfl:b1 = .int .i64 x1:=(List.cons.inj c1).1
 obtain rfl:b2 = .int .i64 x2:=(List.cons.inj c2).1
 obtain rfl:b3 = .int .i64 x3:=(List.cons.inj c3).1
 obtain rfl:b4 = .int .i64 x4:=(List.cons.inj c4).1
 obtain rfl:b5 = .int .i64 x5:=(List.cons.inj c5).1
 obtain rfl:b6 = .int .i64 x6:=(List.cons.inj c6).1
 obtain ⟨m0,t0,rfl,hm,hs⟩:=hs
 obtain ⟨d1,t1,rfl,c1,hs⟩:=hs
 obtain ⟨d2,t2,rfl,c2,hs⟩:=hs
 obtain ⟨d3,t3,rfl,c3,hs⟩:=hs
 obtain ⟨d4,t4,rfl,c4,hs⟩:=hs
 obtain rfl:t4=[]:=hs
 obtain rfl:d1 = .int .i64 s1:=(List.cons.inj c1).1
 obtain rfl:d2 = .int .i64 s2:=(List.cons.inj c2).1
 obtain rfl:d3 = .int .i64 s3:=(List.cons.inj c3).1
 obtain rfl:d4 = .int .i64 s4:=(List.cons.inj c4).1
 clear c1 c2 c3 c4 c5 c6 ha ho
 rcases hm with ⟨q,_⟩ | ⟨bm,acF,c,e,hnc,Qp,h4⟩
 ·have q:n=0:=q
  omega
 obtain rfl:=(List.cons.inj e).1
 have hnc:n<=c:=hnc
 obtain ⟨news,l1,l2,l3⟩:=yp (e:=Tc) n h4
 have l1:news.length=n * 2:=l1
 have l3:∀ i,i < n->R Try.prog Tc S w (aeO i) (chunk 2 i news):=l3
 obtain ⟨y0,y1,e1,hy0,hy1⟩:=l3 at' WQ
 obtain ⟨y1,y2,rfl,hy1,hy2⟩:=hy1
 obtain rfl:y2=[]:=hy2
 have hsp:news[at' * 2 + 1]? = some y1:=auA e1 (j:=1) (by omega)
 have hst:news[at' * 2]? = some y0:=auA e1 (j:=0) (by omega)
 have hbm:bm < w.heap.size:=hbd bm _ (l2 0 _ (List.getElem?_eq_getElem (by omega))).1
 have hy1:R Try.prog (.sl Py) S w ⟨k,aeB⟩ [y1]:=by rw [<- hlw]; exact hy1
 rcases hy1 with ⟨q,_⟩ | ⟨bs,os,cs,e,hkc,hkm,h5⟩
 ·have q:k=0:=q
  omega
 obtain rfl:=(List.cons.inj e).1
 obtain ⟨aog,r1,r2,r3⟩:=yp (e:=Py) k h5
 have r1:aog.length=k * 6:=r1
 have r3:∀ i,i < k->R Try.prog Py S w (aeB i) (chunk 6 i aog):=r3
 have hbs:bs < w.heap.size:=hbd bs _ (r2 0 _ (List.getElem?_eq_getElem (by omega))).1
 have aX9:∀ v∈news,v.oneCell'=true:=fun v hv=>by
  obtain ⟨j,hj,rfl⟩:=List.getElem_of_mem hv
  refine R.flat (τ:=Tc) rfl (l3 (j / 2) (by omega)) _ ?_
  unfold chunk
  refine List.mem_of_getElem? (i:=j % 2) ?_
  rw [List.getElem?_take,if_pos (by omega),List.getElem?_drop,show j / 2 * 2 + j % 2=j by omega,List.getElem?_eq_getElem hj]
 have aYb:∀ v∈aog,v.oneCell'=true:=fun v hv=>by
  obtain ⟨j,hj,rfl⟩:=List.getElem_of_mem hv
  refine R.flat (τ:=Py) rfl (r3 (j / 6) (by omega)) _ ?_
  unfold chunk
  refine List.mem_of_getElem? (i:=j % 6) ?_
  rw [List.getElem?_take,if_pos (by omega),List.getElem?_drop,show j / 6 * 6 + j % 6=j by omega,List.getElem?_eq_getElem hj]
 have hw:=aHz (w:=w) (bm:=bm) (acF:=acF) (n:=n) (c:=c) (x1:=x1) (x2:=x2) (x3:=x3) (x4:=x4) (x5:=x5) (x6:=x6) (msp:=s1) (mdp:=s2) (mbn:=s3) (mgn:=s4) (at':=at') (one:=one) (news:=news) (by omega) pn4 WQ (by omega) hbm
  (bs:=bs) (os:=os) (k:=k) (cs:=cs) (aog:=aog) hsp (by omega) pk3 hbs r1 aYb
  (fun W hW j u hu=>by rw [Addr.add_lit]; exact (World.cell?_of_block (a:=⟨bs,os + j,none⟩) (hW.block bs hbs)).trans (r2 j u hu).2) l1 aX9
  (fun W hW j u hu=>by rw [Addr.add_lit]; exact (World.cell?_of_block (a:=⟨bm,acF + j,none⟩) (hW.block bm hbm)).trans (l2 j u hu).2)
 refine hw.mono fun en w' hpost=>?_
 obtain ⟨cap,wL,G,cur,UZ,rfl,ajh,ajf,hG1,hG2,hA,aM8,aYd,hcz,hct,hB,aM9,aYe,aHB,aHC⟩:=hpost
 have hn0:0 < n:=by omega
 have ext:Ext S w (fun b o=>S b o\/(w.heap.size<=b/\b < w'.heap.size)) w':=
  ⟨⟨ajh.size,fun b o h=>.inl h,fun b o h=>World.cell?_of_block (a:=⟨b,o,none⟩) (ajh.block b (hbd b o h)),fun b o es c h hm=>(ajh.block b (hbd b o h)).trans hm,fun b o h=>h.elim (fun h=>Nat.lt_of_lt_of_le (hbd b o h) ajh.size) (fun h=>h.2),.below ajh ajf⟩,
   fun b o h=>h.elim .inl fun h=>.inr h.1⟩
 have aYf:∀ j,j < n * 2->cur[j]? = news[j]? := fun j hj=>by
  rw [<- hct,List.getElem?_take,if_pos hj]; simp
 have aNa:∀ j,j < k * 6->UZ[j]? = aog[j]? := fun j hj=>by
  rw [<- aHC,List.getElem?_take,if_pos hj]; simp
 generalize hA2:cur.setIfInBounds (at' * 2 + 1) (.slice (some ⟨G,0,none⟩) k wL)=A at hA
 generalize hB2:(((((UZ.setIfInBounds (one * 6) (.int .i64 x1)).setIfInBounds (one * 6 + 1) (.int .i64 x2)).setIfInBounds (one * 6 + 2) (.int .i64 x3)).setIfInBounds (one * 6 + 3) (.int .i64 x4)).setIfInBounds (one * 6 + 4) (.int .i64 x5)).setIfInBounds (one * 6 + 5) (.int .i64 x6)=B at hB
 have Asz:A.size=cap * 2:=by rw [<- hA2]; simp [hcz]
 have Bsz:B.size=wL * 6:=by rw [<- hB2]; simp [aHB]
 have Ane:∀ j,j < n * 2->j≠at' * 2 + 1->A[j]? = news[j]? := fun j hj hne=>by
  rw [<- hA2,Array.getElem?_setIfInBounds_ne (by omega)]; exact aYf j hj
 have Aeq:A[at' * 2 + 1]? = some (.slice (some ⟨G,0,none⟩) k wL):=by
  rw [<- hA2,Array.getElem?_setIfInBounds_self_of_lt (by omega)]
 have Bne:∀ j,j < k * 6->(j < one * 6\/one * 6 + 5 < j)->B[j]? = aog[j]? := fun j hj hne=>by
  rw [<- hB2,Array.getElem?_setIfInBounds_ne (by omega),Array.getElem?_setIfInBounds_ne (by omega),Array.getElem?_setIfInBounds_ne (by omega),Array.getElem?_setIfInBounds_ne (by omega),Array.getElem?_setIfInBounds_ne (by omega),Array.getElem?_setIfInBounds_ne (by omega)]
  exact aNa j hj
 have k6:one * 6 + 5 < wL * 6:=by omega
 have B0:B[one * 6]? = some (.int .i64 x1):=by
  rw [<- hB2,Array.getElem?_setIfInBounds_ne (by omega),Array.getElem?_setIfInBounds_ne (by omega),Array.getElem?_setIfInBounds_ne (by omega),Array.getElem?_setIfInBounds_ne (by omega),Array.getElem?_setIfInBounds_ne (by omega),Array.getElem?_setIfInBounds_self_of_lt (by first | omega | (simp only [Array.size_setIfInBounds]; omega))]
 have B1:B[one * 6 + 1]? = some (.int .i64 x2):=by
  rw [<- hB2,Array.getElem?_setIfInBounds_ne (by omega),Array.getElem?_setIfInBounds_ne (by omega),Array.getElem?_setIfInBounds_ne (by omega),Array.getElem?_setIfInBounds_ne (by omega),Array.getElem?_setIfInBounds_self_of_lt (by first | omega | (simp only [Array.size_setIfInBounds]; omega))]
 have B2:B[one * 6 + 2]? = some (.int .i64 x3):=by
  rw [<- hB2,Array.getElem?_setIfInBounds_ne (by omega),Array.getElem?_setIfInBounds_ne (by omega),Array.getElem?_setIfInBounds_ne (by omega),Array.getElem?_setIfInBounds_self_of_lt (by first | omega | (simp only [Array.size_setIfInBounds]; omega))]
 have B3:B[one * 6 + 3]? = some (.int .i64 x4):=by
  rw [<- hB2,Array.getElem?_setIfInBounds_ne (by omega),Array.getElem?_setIfInBounds_ne (by omega),Array.getElem?_setIfInBounds_self_of_lt (by first | omega | (simp only [Array.size_setIfInBounds]; omega))]
 have B4:B[one * 6 + 4]? = some (.int .i64 x5):=by
  rw [<- hB2,Array.getElem?_setIfInBounds_ne (by omega),Array.getElem?_setIfInBounds_self_of_lt (by first | omega | (simp only [Array.size_setIfInBounds]; omega))]
 have B5:B[one * 6 + 5]? = some (.int .i64 x6):=by
  rw [<- hB2,Array.getElem?_setIfInBounds_self_of_lt (by first | omega | (simp only [Array.size_setIfInBounds]; omega))]
 clear hA2 hB2
 have mem:∀ (b:Nat) (arr:Array Value) (T:TypeId) (m:Nat),w.heap.size<=b->b < w'.heap.size->w'.heap[b]? = some (.cells arr T (0,0))->vQ (fun b o=>S b o\/(w.heap.size<=b/\b < w'.heap.size)) w' b 0 (arr.toList.take m):=fun b arr T m h1 h2 h3 j v hv=>by
  rw [List.getElem?_take] at hv
  split at hv
  ·rw [Nat.zero_add]
   exact ⟨.inr ⟨h1,h2⟩,cell_of h3 (by simpa using hv)⟩
  ·cases hv
 have l6:∀ (m k c:Nat) {X:Array Value},X.size=c * m->k<=c->(X.toList.take (k * m)).length=k * m:=fun m k c X hX hk=>by
  rw [List.length_take,Array.length_toList,hX]
  exact Nat.min_eq_left (Nat.mul_le_mul_right _ hk)
 refine ⟨_,[_],rfl,⟨_,[],rfl,⟨[_,_,_,_,_],rfl,⟨_,_,rfl,.inr ⟨w.heap.size + 4,0,cap,rfl,aM8,aYd,yq (e:=Tc) (xs:=A.toList.take (n * 2)) (l6 _ _ _ Asz aM8) (mem _ _ _ _ (by omega) (by omega) hA) fun i hi=>?_⟩,⟨_,_,rfl,rfl,_,_,rfl,rfl,_,_,rfl,rfl,_,_,rfl,rfl,rfl⟩⟩,rfl⟩,rfl⟩,ext,ajh⟩
 have hi:i < n:=hi
 show R Try.prog Tc _ w' (bif Nat.beq i at' then ((aeO i).1,((⟨(aeO i).2.1.n,fun j=>bif Nat.beq j one then (x1,(x2,(x3,(x4,(x5,(x6,z1)))))) else (aeO i).2.1.g j⟩:Sl Py.den),())) else aeO i) (chunk 2 i (A.toList.take (n * 2)))
 by_cases hia:i=at'
 ·subst hia
  rw [Nat.beq_refl,cond_true,hlw,apz (k:=2) (ys:=[y0,.slice (some ⟨G,0,none⟩) k wL]) rfl fun j hj=>?_]
  ·refine ⟨y0,_,rfl,hy0,_,[],rfl,.inr ⟨G,0,wL,rfl,aM9,aYe,yq (e:=Py) (xs:=B.toList.take (k * 6)) (l6 _ _ _ Bsz aM9) (mem _ _ _ _ (by omega) hG2 hB) fun j hj=>?_⟩,rfl⟩
   have hj:j < k:=hj
   show R Try.prog Py _ w' (bif Nat.beq j one then (x1,(x2,(x3,(x4,(x5,(x6,z1)))))) else aeB j) (chunk 6 j (B.toList.take (k * 6)))
   by_cases hjo:j=one
   ·subst hjo
    rw [Nat.beq_refl,cond_true,apz (k:=6) (ys:=[.int .i64 x1,.int .i64 x2,.int .i64 x3,.int .i64 x4,.int .i64 x5,.int .i64 x6]) rfl fun t ht=>?_]
    ·exact ⟨_,_,rfl,rfl,_,_,rfl,rfl,_,_,rfl,rfl,_,_,rfl,rfl,_,_,rfl,rfl,_,_,rfl,rfl,rfl⟩
    ·rw [List.getElem?_take,if_pos (by omega),Array.getElem?_toList]
     match t,ht with
     | 0,_=>exact B0
     | 1,_=>exact B1
     | 2,_=>exact B2
     | 3,_=>exact B3
     | 4,_=>exact B4
     | 5,_=>exact B5
   ·rw [bC hjo,cond_false,apz (k:=6) (ys:=chunk 6 j aog) (R.len (r3 j hj)) fun t ht=>?_]
    ·exact (r3 j hj).mono ext.toExt0
    ·rw [List.getElem?_take,if_pos (by omega),Array.getElem?_toList,Bne _ (by omega) (by omega)]
     unfold chunk
     rw [List.getElem?_take,if_pos ht,List.getElem?_drop]
  ·rw [List.getElem?_take,if_pos (by omega),Array.getElem?_toList]
   match j,hj with
   | 0,_=>exact (Ane _ (by omega) (by omega)).trans hst
   | 1,_=>exact Aeq
 ·rw [bC hia,cond_false,apz (k:=2) (ys:=chunk 2 i news) (R.len (l3 i hi)) fun t ht=>?_]
  ·exact (l3 i hi).mono ext.toExt0
  ·rw [List.getElem?_take,if_pos (by omega),Array.getElem?_toList,Ane _ (by omega) (by omega)]
   unfold chunk
   rw [List.getElem?_take,if_pos ht,List.getElem?_drop]
theorem h49:Holds Try.prog 49 k49:=fun S w hbd x vs hp hr=>by
 have Yw:azv x=true:=by
  cases h:azv x with
  | true=>rfl
  | false =>
   have hp:(bif azv x then some (aHD x) else none:Option (r49).den).isSome=true:=hp
   rw [h] at hp
   cases hp
 have e:v49 x=aHD x:=by
  show (bif azv x then some (aHD x) else none:Option (r49).den).getD (r49).dflt=aHD x
  rw [Yw]; rfl
 have hh:=aX7 S w hbd x vs Yw hr
 show Calls Try.prog 49 vs.toArray w (fun e w'=>∃ S' rs,e = .returned (pack rs)/\R Try.prog r49 S' w' (v49 x) rs/\Ext S w S' w'/\Below w.heap.size w w')
 rw [e]
 exact hh
abbrev aIp:Ty:=(.cons PV T38)
noncomputable def c10:=zo Try.f10
theorem aYj:zq 10 Try.f10 c10:=zu
abbrev a10:Ty:=T78
abbrev r10:Ty:=T3
noncomputable def G10:Ctx:=Ctx.of [(16,.pure k16),(17,.pure k17),(21,.pure k21),(35,.pure k35),(36,.pure k36),(46,.pure k46),(48,.pure k48),(49,.pure k49)]
theorem g10:SP G10:=aD (fa ⟨⟨aeP.c,h16⟩,fa ⟨⟨acz.c,h17⟩,fa ⟨⟨aeR.c,h21⟩,fa ⟨⟨aPa.c,h35⟩,fa ⟨⟨apo.c,h36⟩,fa ⟨⟨azX.c,h46⟩,fa ⟨⟨agY.c,h48⟩,fa ⟨⟨aXS.c,h49⟩,f0⟩⟩⟩⟩⟩⟩⟩⟩)
noncomputable def axm:Code:=aG ((af (c10))[0]?)
theorem aHE:af (axm)=[]:=by kernel_rfl
abbrev aon:List aL:=[.slot 1 (.pc tI),.slot 2 (.pc tI),.slot 3 (.pc tI),.slot 4 (.ptr 4),.slot 11 (.ptr 731),.slot 14 (.ptr 1454),.box 4 [.pc (.sl T15),.pc tI,.pc tI,.pc tI,.pc tI],.box 731 [.pc tI,.pc tI,.pc tI,.pc tI,.pc tI,.pc tI],.box 1454 [.pc tI,.pc tI,.pc tI,.pc tI,.pc tI,.pc tI,.pc tI,.pc tI]]
abbrev ajB:List aL:=[.slot 15 (.pc tI)]
abbrev azw:List aL:=aon ++ ajB
def aEZ:ZJ aon ajB azw:=ZA _ _
def azx:ZS aon ajB azw:=ZP _ _
abbrev aHG:aO:=⟨[(0,[])],[.slot 8 (.pc .bool)],[]⟩
abbrev amO:aO:=⟨[(0,[])],[.slot 8 (.pc .bool)],[]⟩
def awf:ZE aon amO aHG:=fun id=>match id with | 0=>fun c y=>y | _=>jm
def aoe {α:Type} (l:RQ ajB amO->α) (an:α->α->α) (c:ZD aon) (v:ZD ajB):α:=bif (decide (v.1 < (4:Int))) then bif (decide (((0:Int)<=v.1)/\(v.1 < (4:Int)))) then bif (decide (((0 + ((Int.toNat v.1) * 2)) + 0) < 8)) then bif (decide (((0:Int)<=v.1)/\(v.1 < (4:Int)))) then bif (decide ((((0 + ((Int.toNat v.1) * 2)) + 0) + 1) < 8)) then bif (decide ((List.getD [c.2.2.2.2.2.2.2.2.1.2.1,c.2.2.2.2.2.2.2.2.1.2.2.1,c.2.2.2.2.2.2.2.2.1.2.2.2.1,c.2.2.2.2.2.2.2.2.1.2.2.2.2.1,c.2.2.2.2.2.2.2.2.1.2.2.2.2.2.1,c.2.2.2.2.2.2.2.2.1.2.2.2.2.2.2.1,c.2.2.2.2.2.2.2.2.1.2.2.2.2.2.2.2.1] ((0 + ((Int.toNat v.1) * 2)) + 0) c.2.2.2.2.2.2.2.2.1.1) < (List.getD [c.2.2.2.2.2.2.2.2.1.1,c.2.2.2.2.2.2.2.2.1.2.1,c.2.2.2.2.2.2.2.2.1.2.2.1,c.2.2.2.2.2.2.2.2.1.2.2.2.1,c.2.2.2.2.2.2.2.2.1.2.2.2.2.1,c.2.2.2.2.2.2.2.2.1.2.2.2.2.2.1,c.2.2.2.2.2.2.2.2.1.2.2.2.2.2.2.1,c.2.2.2.2.2.2.2.2.1.2.2.2.2.2.2.2.1] ((0 + ((Int.toNat v.1) * 2)) + 0) c.2.2.2.2.2.2.2.2.1.1))) then l (.next ((W (v.1 + (1:Int))),())) else bif (decide (c.2.2.1=(0:Int))) then bif (decide (((0:Int)<=v.1)/\(v.1 < (4:Int)))) then bif (decide (((0 + ((Int.toNat v.1) * 2)) + 2)<=8)) then cl (r49).dflt (M49 (c.2.2.2.2.2.2.1,(c.1,(c.2.1,(((List.getD [c.2.2.2.2.2.2.2.2.1.1,c.2.2.2.2.2.2.2.2.1.2.1,c.2.2.2.2.2.2.2.2.1.2.2.1,c.2.2.2.2.2.2.2.2.1.2.2.2.1,c.2.2.2.2.2.2.2.2.1.2.2.2.2.1,c.2.2.2.2.2.2.2.2.1.2.2.2.2.2.1,c.2.2.2.2.2.2.2.2.1.2.2.2.2.2.2.1,c.2.2.2.2.2.2.2.2.1.2.2.2.2.2.2.2.1] (0 + ((Int.toNat v.1) * 2)) c.2.2.2.2.2.2.2.2.1.1),((List.getD [c.2.2.2.2.2.2.2.2.1.2.1,c.2.2.2.2.2.2.2.2.1.2.2.1,c.2.2.2.2.2.2.2.2.1.2.2.2.1,c.2.2.2.2.2.2.2.2.1.2.2.2.2.1,c.2.2.2.2.2.2.2.2.1.2.2.2.2.2.1,c.2.2.2.2.2.2.2.2.1.2.2.2.2.2.2.1,c.2.2.2.2.2.2.2.2.1.2.2.2.2.2.2.2.1] (0 + ((Int.toNat v.1) * 2)) c.2.2.2.2.2.2.2.2.1.1),c.2.2.2.2.2.2.2.1.2.2)),()))))) (fun u0=>cl (r46).dflt (Yl (u0.1,())) (fun u1=>bif (decide (v.1 < (2:Int))) then bif (!(decide (u1.2.1=(5:Int)))) then l (.out (.ret (false,()))) else bif (decide ((2:Int)<=v.1)) then bif (!(decide (u1.2.1=(0:Int)))) then l (.out (.ret (false,()))) else l (.next ((W (v.1 + (1:Int))),())) else l (.next ((W (v.1 + (1:Int))),())) else bif (decide ((2:Int)<=v.1)) then bif (!(decide (u1.2.1=(0:Int)))) then l (.out (.ret (false,()))) else l (.next ((W (v.1 + (1:Int))),())) else l (.next ((W (v.1 + (1:Int))),()))) (l .bad)) (l .bad) else l .bad else l .bad else bif (decide (c.2.2.1=(1:Int))) then bif (decide (((0:Int)<=v.1)/\(v.1 < (4:Int)))) then bif (decide (((0 + ((Int.toNat v.1) * 2)) + 2)<=8)) then cl (r49).dflt (M49 (c.2.2.2.2.2.2.1,(c.1,(c.2.1,((c.2.2.2.2.2.2.2.1.1,(c.2.2.2.2.2.2.2.1.2.1,((List.getD [c.2.2.2.2.2.2.2.2.1.1,c.2.2.2.2.2.2.2.2.1.2.1,c.2.2.2.2.2.2.2.2.1.2.2.1,c.2.2.2.2.2.2.2.2.1.2.2.2.1,c.2.2.2.2.2.2.2.2.1.2.2.2.2.1,c.2.2.2.2.2.2.2.2.1.2.2.2.2.2.1,c.2.2.2.2.2.2.2.2.1.2.2.2.2.2.2.1,c.2.2.2.2.2.2.2.2.1.2.2.2.2.2.2.2.1] (0 + ((Int.toNat v.1) * 2)) c.2.2.2.2.2.2.2.2.1.1),((List.getD [c.2.2.2.2.2.2.2.2.1.2.1,c.2.2.2.2.2.2.2.2.1.2.2.1,c.2.2.2.2.2.2.2.2.1.2.2.2.1,c.2.2.2.2.2.2.2.2.1.2.2.2.2.1,c.2.2.2.2.2.2.2.2.1.2.2.2.2.2.1,c.2.2.2.2.2.2.2.2.1.2.2.2.2.2.2.1,c.2.2.2.2.2.2.2.2.1.2.2.2.2.2.2.2.1] (0 + ((Int.toNat v.1) * 2)) c.2.2.2.2.2.2.2.2.1.1),c.2.2.2.2.2.2.2.1.2.2.2.2)))),()))))) (fun u2=>cl (r46).dflt (Yl (u2.1,())) (fun u3=>bif (decide (v.1 < (2:Int))) then bif (!(decide (u3.2.1=(5:Int)))) then l (.out (.ret (false,()))) else bif (decide ((2:Int)<=v.1)) then bif (!(decide (u3.2.1=(0:Int)))) then l (.out (.ret (false,()))) else l (.next ((W (v.1 + (1:Int))),())) else l (.next ((W (v.1 + (1:Int))),())) else bif (decide ((2:Int)<=v.1)) then bif (!(decide (u3.2.1=(0:Int)))) then l (.out (.ret (false,()))) else l (.next ((W (v.1 + (1:Int))),())) else l (.next ((W (v.1 + (1:Int))),()))) (l .bad)) (l .bad) else l .bad else l .bad else bif (decide (((0:Int)<=v.1)/\(v.1 < (4:Int)))) then bif (decide (((0 + ((Int.toNat v.1) * 2)) + 2)<=8)) then cl (r49).dflt (M49 (c.2.2.2.2.2.2.1,(c.1,(c.2.1,((c.2.2.2.2.2.2.2.1.1,(c.2.2.2.2.2.2.2.1.2.1,(c.2.2.2.2.2.2.2.1.2.2.1,(c.2.2.2.2.2.2.2.1.2.2.2.1,((List.getD [c.2.2.2.2.2.2.2.2.1.1,c.2.2.2.2.2.2.2.2.1.2.1,c.2.2.2.2.2.2.2.2.1.2.2.1,c.2.2.2.2.2.2.2.2.1.2.2.2.1,c.2.2.2.2.2.2.2.2.1.2.2.2.2.1,c.2.2.2.2.2.2.2.2.1.2.2.2.2.2.1,c.2.2.2.2.2.2.2.2.1.2.2.2.2.2.2.1,c.2.2.2.2.2.2.2.2.1.2.2.2.2.2.2.2.1] (0 + ((Int.toNat v.1) * 2)) c.2.2.2.2.2.2.2.2.1.1),((List.getD [c.2.2.2.2.2.2.2.2.1.2.1,c.2.2.2.2.2.2.2.2.1.2.2.1,c.2.2.2.2.2.2.2.2.1.2.2.2.1,c.2.2.2.2.2.2.2.2.1.2.2.2.2.1,c.2.2.2.2.2.2.2.2.1.2.2.2.2.2.1,c.2.2.2.2.2.2.2.2.1.2.2.2.2.2.2.1,c.2.2.2.2.2.2.2.2.1.2.2.2.2.2.2.2.1] (0 + ((Int.toNat v.1) * 2)) c.2.2.2.2.2.2.2.2.1.1),())))))),()))))) (fun u4=>cl (r46).dflt (Yl (u4.1,())) (fun u5=>bif (decide (v.1 < (2:Int))) then bif (!(decide (u5.2.1=(5:Int)))) then l (.out (.ret (false,()))) else bif (decide ((2:Int)<=v.1)) then bif (!(decide (u5.2.1=(0:Int)))) then l (.out (.ret (false,()))) else l (.next ((W (v.1 + (1:Int))),())) else l (.next ((W (v.1 + (1:Int))),())) else bif (decide ((2:Int)<=v.1)) then bif (!(decide (u5.2.1=(0:Int)))) then l (.out (.ret (false,()))) else l (.next ((W (v.1 + (1:Int))),())) else l (.next ((W (v.1 + (1:Int))),()))) (l .bad)) (l .bad) else l .bad else l .bad else l .bad else l .bad else l .bad else l .bad else l (.out (.exit 0 ()))
theorem aNe:ZO G10 0 180 axm [] aEZ awf ZI ZI aoe:=fun _ _=>by kernel_rfl
def an5 (c:ZD aon) (v:ZD ajB):RQ ajB amO:=aoe (fun r=>r) (fun _ _=>.bad) c v
theorem aNf:SO G10 0 180 axm [] aEZ awf ZI ZI an5:=fun c v=>by rw [aNe]; unfold an5 aoe; simp only [bu,aM,pM]
def auB (c:ZD aon) (v:ZD ajB):LQ amO:=aH (an5 c) cz v
theorem aYk:af (c10)=[.loop axm]:=by kernel_rfl
noncomputable def l10:List Loop:=[lk 0 awf ZI ZI true azx auB]
def Q10 {α:Type} (l:Option (r10).den->α) (an:α->α->α) (x:(a10).den):α:=cl (WZ).dflt (Yz (x.1,())) (fun u6=>bif (!u6.1) then cl (nQ).dflt (qf ()) (fun u7=>l (some u7)) (l none) else cl (Rf).dflt (Sj (x.1,())) (fun u8=>bif (!u8.1) then cl (nQ).dflt (qf ()) (fun u9=>l (some u9)) (l none) else cl (r35).dflt (M35 (x.1,(x.2.1,(x.2.2.1,())))) (fun vD=>bif (!vD.1) then cl (nQ).dflt (qf ()) (fun lM=>l (some lM)) (l none) else bif (decide (x.2.2.2.1 < (0:Int))) then cl (nQ).dflt (qf ()) (fun MA=>l (some MA)) (l none) else bif (decide ((2:Int) < x.2.2.2.1)) then cl (nQ).dflt (qf ()) (fun Df=>l (some Df)) (l none) else cl (PE).dflt (M36 (x.1,(x.2.1,(x.2.2.1,())))) (fun PX=>bif (!(decide (PX.2.1=(0:Int)))) then bif (decide (PX.2.1=(7:Int))) then cl (nQ).dflt (qf ()) (fun PB=>l (some PB)) (l none) else l (some (false,())) else bif (decide (((0:Int)<=x.2.1)/\(x.2.1 < ((x.1.1.n:Nat):Int)))) then bif (decide (((0:Int)<=x.2.2.1)/\(x.2.2.1 < (((x.1.1.g (Int.toNat x.2.1)).2.1.n:Nat):Int)))) then bif (decide ((x.2.2.2.1 < (3:Int))/\((0:Int)<=x.2.2.2.1))) then bif (decide ((((Int.toNat x.2.2.2.1) * 2) + 2)<=6)) then bif (decide ((x.2.2.2.1 < (3:Int))/\((0:Int)<=x.2.2.2.1))) then bif (decide ((((Int.toNat x.2.2.2.1) * 2) + 2)<=6)) then bif (decide ((List.getD [PX.1.1,PX.1.2.1,PX.1.2.2.1,PX.1.2.2.2.1,PX.1.2.2.2.2.1,PX.1.2.2.2.2.2.1] ((Int.toNat x.2.2.2.1) * 2) PX.1.1) < (List.getD [((x.1.1.g (Int.toNat x.2.1)).2.1.g (Int.toNat x.2.2.1)).1,((x.1.1.g (Int.toNat x.2.1)).2.1.g (Int.toNat x.2.2.1)).2.1,((x.1.1.g (Int.toNat x.2.1)).2.1.g (Int.toNat x.2.2.1)).2.2.1,((x.1.1.g (Int.toNat x.2.1)).2.1.g (Int.toNat x.2.2.1)).2.2.2.1,((x.1.1.g (Int.toNat x.2.1)).2.1.g (Int.toNat x.2.2.1)).2.2.2.2.1,((x.1.1.g (Int.toNat x.2.1)).2.1.g (Int.toNat x.2.2.1)).2.2.2.2.2.1] ((Int.toNat x.2.2.2.1) * 2) ((x.1.1.g (Int.toNat x.2.1)).2.1.g (Int.toNat x.2.2.1)).1))) then l (some (false,())) else bif (decide ((List.getD [PX.1.2.1,PX.1.2.2.1,PX.1.2.2.2.1,PX.1.2.2.2.2.1,PX.1.2.2.2.2.2.1] ((Int.toNat x.2.2.2.1) * 2) PX.1.1) < (List.getD [PX.1.1,PX.1.2.1,PX.1.2.2.1,PX.1.2.2.2.1,PX.1.2.2.2.2.1,PX.1.2.2.2.2.2.1] ((Int.toNat x.2.2.2.1) * 2) PX.1.1))) then l (some (false,())) else bif (decide ((List.getD [((x.1.1.g (Int.toNat x.2.1)).2.1.g (Int.toNat x.2.2.1)).2.1,((x.1.1.g (Int.toNat x.2.1)).2.1.g (Int.toNat x.2.2.1)).2.2.1,((x.1.1.g (Int.toNat x.2.1)).2.1.g (Int.toNat x.2.2.1)).2.2.2.1,((x.1.1.g (Int.toNat x.2.1)).2.1.g (Int.toNat x.2.2.1)).2.2.2.2.1,((x.1.1.g (Int.toNat x.2.1)).2.1.g (Int.toNat x.2.2.1)).2.2.2.2.2.1] ((Int.toNat x.2.2.2.1) * 2) ((x.1.1.g (Int.toNat x.2.1)).2.1.g (Int.toNat x.2.2.1)).1) < (List.getD [PX.1.2.1,PX.1.2.2.1,PX.1.2.2.2.1,PX.1.2.2.2.2.1,PX.1.2.2.2.2.2.1] ((Int.toNat x.2.2.2.1) * 2) PX.1.1))) then l (some (false,())) else cl (oM).dflt (vA ((List.getD [PX.1.1,PX.1.2.1,PX.1.2.2.1,PX.1.2.2.2.1,PX.1.2.2.2.2.1,PX.1.2.2.2.2.2.1] ((Int.toNat x.2.2.2.1) * 2) PX.1.1),((List.getD [PX.1.1,PX.1.2.1,PX.1.2.2.1,PX.1.2.2.2.1,PX.1.2.2.2.2.1,PX.1.2.2.2.2.2.1] ((Int.toNat x.2.2.2.1) * 2) PX.1.1),()))) (fun u16=>cl (oM).dflt (vA ((List.getD [PX.1.2.1,PX.1.2.2.1,PX.1.2.2.2.1,PX.1.2.2.2.2.1,PX.1.2.2.2.2.2.1] ((Int.toNat x.2.2.2.1) * 2) PX.1.1),((List.getD [PX.1.2.1,PX.1.2.2.1,PX.1.2.2.2.1,PX.1.2.2.2.2.1,PX.1.2.2.2.2.2.1] ((Int.toNat x.2.2.2.1) * 2) PX.1.1),()))) (fun Wf=>cl (oM).dflt (vA ((List.getD [((x.1.1.g (Int.toNat x.2.1)).2.1.g (Int.toNat x.2.2.1)).1,((x.1.1.g (Int.toNat x.2.1)).2.1.g (Int.toNat x.2.2.1)).2.1,((x.1.1.g (Int.toNat x.2.1)).2.1.g (Int.toNat x.2.2.1)).2.2.1,((x.1.1.g (Int.toNat x.2.1)).2.1.g (Int.toNat x.2.2.1)).2.2.2.1,((x.1.1.g (Int.toNat x.2.1)).2.1.g (Int.toNat x.2.2.1)).2.2.2.2.1,((x.1.1.g (Int.toNat x.2.1)).2.1.g (Int.toNat x.2.2.1)).2.2.2.2.2.1] ((Int.toNat x.2.2.2.1) * 2) ((x.1.1.g (Int.toNat x.2.1)).2.1.g (Int.toNat x.2.2.1)).1),((W ((List.getD [PX.1.1,PX.1.2.1,PX.1.2.2.1,PX.1.2.2.2.1,PX.1.2.2.2.2.1,PX.1.2.2.2.2.2.1] ((Int.toNat x.2.2.2.1) * 2) PX.1.1) - (1:Int))),()))) (fun VP=>cl (oM).dflt (vA ((W ((List.getD [PX.1.2.1,PX.1.2.2.1,PX.1.2.2.2.1,PX.1.2.2.2.2.1,PX.1.2.2.2.2.2.1] ((Int.toNat x.2.2.2.1) * 2) PX.1.1) + (1:Int))),((List.getD [((x.1.1.g (Int.toNat x.2.1)).2.1.g (Int.toNat x.2.2.1)).2.1,((x.1.1.g (Int.toNat x.2.1)).2.1.g (Int.toNat x.2.2.1)).2.2.1,((x.1.1.g (Int.toNat x.2.1)).2.1.g (Int.toNat x.2.2.1)).2.2.2.1,((x.1.1.g (Int.toNat x.2.1)).2.1.g (Int.toNat x.2.2.1)).2.2.2.2.1,((x.1.1.g (Int.toNat x.2.1)).2.1.g (Int.toNat x.2.2.1)).2.2.2.2.2.1] ((Int.toNat x.2.2.2.1) * 2) ((x.1.1.g (Int.toNat x.2.1)).2.1.g (Int.toNat x.2.2.1)).1),()))) (fun UO=>aF (auB (x.2.1,(x.2.2.1,(x.2.2.2.1,((),((),((),(x.1,(((x.1.1.g (Int.toNat x.2.1)).2.1.g (Int.toNat x.2.2.1)),((u16.1.1,(u16.1.2.1,(Wf.1.1,(Wf.1.2.1,(VP.1.1,(VP.1.2.1,UO.1)))))),()))))))))) ((0:Int),())) 0 (fun u20=>cl (nQ).dflt (qf ()) (fun u21=>l (some u21)) (l none)) (bS (auB (x.2.1,(x.2.2.1,(x.2.2.2.1,((),((),((),(x.1,(((x.1.1.g (Int.toNat x.2.1)).2.1.g (Int.toNat x.2.2.1)),((u16.1.1,(u16.1.2.1,(Wf.1.1,(Wf.1.2.1,(VP.1.1,(VP.1.2.1,UO.1)))))),()))))))))) ((0:Int),())) (fun u22=>l (some u22)) (l none))) (l none)) (l none)) (l none)) (l none) else l none else l none else l none else l none else l none else l none) (l none)) (l none)) (l none)) (l none)
theorem q10:QO G10 Try.f10 l10 a10 r10 Q10:=fun _=>by kernel_rfl
def M10 (x:(a10).den):Option (r10).den:=Q10 (fun r=>r) (fun _ _=>none) x
theorem m10:MO G10 Try.f10 l10 M10:=fun x=>by rw [q10]; unfold M10 Q10; simp only [Tree.sure,iO]
def p10:=pO M10
def v10:=vO (τ:=r10) M10
def k10:ee:=⟨a10,r10,p10,v10⟩
theorem h10:Holds Try.prog 10 k10:=hO aYj g10 m10 fun G' hlo hF hE=>ai (by rw [aYk]; exact .cons (lv hE hF hlo (ln aHE) azx aNf) (.nil))
end Go.Dm

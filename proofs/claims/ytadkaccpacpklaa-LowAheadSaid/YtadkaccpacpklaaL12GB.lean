/-
 Each function of the program as a Lean function,and that its calls come to what that says.
-/
import Derived.Test.YtadkaccpacpklaaL12GA
set_option linter.unusedVariables false
set_option linter.unusedSimpArgs false
namespace Go.Dm
open Go.RowKit Go.Proofs
set_option maxRecDepth 100000
noncomputable def c21:=zo Try.f21
theorem aeR:zq 21 Try.f21 c21:=zu
abbrev a21:Ty:=Jd
abbrev Rf:Ty:=T3
noncomputable def G21:Ctx:=Ctx.of [(68,.pure k68),(69,.pure k69)]
theorem g21:SP G21:=aD (fa ⟨⟨aiE.c,h68⟩,fa ⟨⟨auj.c,h69⟩,f0⟩⟩)
noncomputable def HQ:Code:=aG ((af (c21))[0]?)
noncomputable def xR:Code:=aG ((af (HQ))[0]?)
theorem Ui:af (xR)=[]:=by kernel_rfl
abbrev iM:List aL:=[.slot 1 (.ptr 1),.slot 3 (.pc tI),.slot 4 (.ptr 103),.box 1 [.pc eX,.pc tI,.pc tI,.pc tI,.pc tI],.box 103 [.pc tI,.pc (.sl T6)]]
abbrev eG:List aL:=[.slot 5 (.pc tI)]
abbrev nC:List aL:=iM ++ eG
def zM:ZJ iM eG nC:=ZA _ _
def kr:ZS iM eG nC:=ZP _ _
abbrev kS:aO:=⟨[(2,[.slot 1 (.ptr 1),.slot 3 (.pc tI),.box 1 [.pc eX,.pc tI,.pc tI,.pc tI,.pc tI]])],[.slot 2 (.pc .bool)],[]⟩
abbrev gL:aO:=⟨[(2,[])],[.slot 2 (.pc .bool)],[]⟩
def tP:ZE iM gL kS:=fun id=>match id with | 2=>fun c y=>(c.1,(c.2.1,(c.2.2.2.1,y))) | _=>jm
def tQ {α:Type} (l:RQ eG gL->α) (an:α->α->α) (c:ZD iM) (v:ZD eG):α:=bif (decide (v.1 < ((c.2.2.2.2.1.2.1.n:Nat):Int))) then bif (decide (((0:Int)<=v.1)/\(v.1 < ((c.2.2.2.2.1.2.1.n:Nat):Int)))) then cl (WK).dflt (M69 (((c.2.2.2.2.1.2.1.g (Int.toNat v.1)).1,((c.2.2.2.2.1.2.1.g (Int.toNat v.1)).2.1,())),((100:Int),()))) (fun u0=>bif (!u0.1) then l (.out (.ret (false,()))) else cl (WK).dflt (M69 (((c.2.2.2.2.1.2.1.g (Int.toNat v.1)).2.2.1,((c.2.2.2.2.1.2.1.g (Int.toNat v.1)).2.2.2.1,())),((100:Int),()))) (fun u1=>bif (!u1.1) then l (.out (.ret (false,()))) else cl (WK).dflt (M69 ((c.2.2.2.2.1.2.1.g (Int.toNat v.1)).2.2.2.2,((99999:Int),()))) (fun u2=>bif (!u2.1) then l (.out (.ret (false,()))) else l (.next ((W (v.1 + (1:Int))),()))) (l .bad)) (l .bad)) (l .bad) else l .bad else l (.out (.exit 2 ()))
theorem Yh:ZO G21 0 97 xR [] zM tP ZI ZI tQ:=fun _ _=>by kernel_rfl
def tR (c:ZD iM) (v:ZD eG):RQ eG gL:=tQ (fun r=>r) (fun _ _=>.bad) c v
theorem Yi:SO G21 0 97 xR [] zM tP ZI ZI tR:=fun c v=>by rw [Yh]; unfold tR tQ; simp only [bu,aM,pM]
def jf (c:ZD iM) (v:ZD eG):LQ gL:=aH (tR c) cz v
theorem aeT:af (HQ)=[.loop xR]:=by kernel_rfl
abbrev oC:List aL:=[.slot 1 (.ptr 1),.box 1 [.pc eX,.pc tI,.pc tI,.pc tI,.pc tI]]
abbrev fS:List aL:=[.slot 3 (.pc tI)]
abbrev BK:List aL:=oC ++ fS
def Pn:ZJ oC fS BK:=ZA _ _
def GR:ZS oC fS BK:=ZP _ _
abbrev CQ:aO:=⟨[(0,[.slot 1 (.ptr 1),.box 1 [.pc eX,.pc tI,.pc tI,.pc tI,.pc tI]])],[.slot 2 (.pc .bool)],[]⟩
abbrev jb:aO:=⟨[(0,[])],[.slot 2 (.pc .bool)],[]⟩
def LB:ZE oC jb CQ:=fun id=>match id with | 0=>fun c y=>(c.1,(c.2.1,y)) | _=>jm
def HR {α:Type} (l:RQ fS jb->α) (an:α->α->α) (c:ZD oC) (v:ZD fS):α:=bif (decide (v.1 < ((c.2.1.1.n:Nat):Int))) then bif (decide (((0:Int)<=v.1)/\(v.1 < ((c.2.1.1.n:Nat):Int)))) then cl (Kj).dflt (MC ((c.2.1.1.g (Int.toNat v.1)).1,((0:Int),((200:Int),())))) (fun u3=>bif (!u3.1) then l (.out (.ret (false,()))) else bif (decide ((0:Int) < v.1)) then bif (decide (((0:Int)<=(W (v.1 - (1:Int))))/\((W (v.1 - (1:Int))) < ((c.2.1.1.n:Nat):Int)))) then bif (decide ((c.2.1.1.g (Int.toNat v.1)).1<=(c.2.1.1.g (Int.toNat (W (v.1 - (1:Int))))).1)) then l (.out (.ret (false,()))) else bif (decide ((3:Int) < (((c.2.1.1.g (Int.toNat v.1)).2.1.n:Nat):Int))) then l (.out (.ret (false,()))) else aF (jf ((),(v.1,((),(c.2.1,((c.2.1.1.g (Int.toNat v.1)),()))))) ((0:Int),())) 2 (fun u4=>l (.next ((W (v.1 + (1:Int))),()))) (bS (jf ((),(v.1,((),(c.2.1,((c.2.1.1.g (Int.toNat v.1)),()))))) ((0:Int),())) (fun u5=>l (.out (.ret u5))) (l .bad)) else l .bad else bif (decide ((3:Int) < (((c.2.1.1.g (Int.toNat v.1)).2.1.n:Nat):Int))) then l (.out (.ret (false,()))) else aF (jf ((),(v.1,((),(c.2.1,((c.2.1.1.g (Int.toNat v.1)),()))))) ((0:Int),())) 2 (fun u6=>l (.next ((W (v.1 + (1:Int))),()))) (bS (jf ((),(v.1,((),(c.2.1,((c.2.1.1.g (Int.toNat v.1)),()))))) ((0:Int),())) (fun u7=>l (.out (.ret u7))) (l .bad))) (l .bad) else l .bad else l (.out (.exit 0 ()))
theorem am0:ZO G21 0 97 HQ [.known (bF 0 [] nC fun x=>aJ kS tP ZI ZI [] true (kr x).1 (jf (kr x).1 (kr x).2) kS.bw)] Pn LB ZI ZI HR:=fun _ _=>by kernel_rfl
def HS (c:ZD oC) (v:ZD fS):RQ fS jb:=HR (fun r=>r) (fun _ _=>.bad) c v
theorem am1:SO G21 0 97 HQ [.known (bF 0 [] nC fun x=>aJ kS tP ZI ZI [] true (kr x).1 (jf (kr x).1 (kr x).2) kS.bw)] Pn LB ZI ZI HS:=fun c v=>by rw [am0]; unfold HS HR; simp only [bu,aM,pM]
def HT (c:ZD oC) (v:ZD fS):LQ jb:=aH (HS c) cz v
theorem ayk:af (c21)=[.loop HQ]:=by kernel_rfl
noncomputable def l21:List Loop:=[lk 0 LB ZI ZI true GR HT]
def Q21 {α:Type} (l:Option (Rf).den->α) (an:α->α->α) (x:(a21).den):α:=aF (HT ((),(x.1,())) ((0:Int),())) 0 (fun u8=>cl (Kj).dflt (MC (((x.1.1.n:Nat):Int),((1:Int),((4:Int),())))) (fun u9=>bif u9.1 then cl (Kj).dflt (MC (x.1.2.1,((0:Int),((50:Int),())))) (fun vD=>bif vD.1 then cl (Kj).dflt (MC (x.1.2.2.1,((0:Int),((1000:Int),())))) (fun lM=>bif lM.1 then cl (Kj).dflt (MC (x.1.2.2.2.1,((0:Int),((12:Int),())))) (fun MA=>bif MA.1 then cl (Kj).dflt (MC (x.1.2.2.2.2.1,((0:Int),((12:Int),())))) (fun Df=>l (some Df)) (l none) else l (some (false,()))) (l none) else l (some (false,()))) (l none) else l (some (false,()))) (l none) else l (some (false,()))) (l none)) (bS (HT ((),(x.1,())) ((0:Int),())) (fun PX=>l (some PX)) (l none))
theorem q21:QO G21 Try.f21 l21 a21 Rf Q21:=fun _=>by kernel_rfl
def Sj (x:(a21).den):Option (Rf).den:=Q21 (fun r=>r) (fun _ _=>none) x
theorem m21:MO G21 Try.f21 l21 Sj:=fun x=>by rw [q21]; unfold Sj Q21; simp only [Tree.sure,iO]
def p21:=pO Sj
def v21:=vO (τ:=Rf) Sj
def k21:ee:=⟨a21,Rf,p21,v21⟩
theorem h21:Holds Try.prog 21 k21:=hO aeR g21 m21 fun G' hlo hF hE=>ai (by rw [ayk]; exact .cons (lv hE hF hlo (ai (by rw [aeT]; exact .cons (lv hE hF hlo (ln Ui) kr Yi) (.nil))) GR am1) (.nil))
abbrev T97:Ty:=(.cons T12 T13)
abbrev T98:Ty:=(.cons PV T4)
abbrev T99:Ty:=(.cons PV OG)
abbrev Ic:Ty:=(.sl OG)
abbrev aps:Ty:=(.cons Ic .nil)
abbrev aGf:Ty:=(.cons PV aps)
abbrev ayo:Ty:=(.cons Ic T0)
abbrev aId:Ty:=(.cons PV ayo)
abbrev aGg:Ty:=(.cons ec T1)
noncomputable def c35:=zo Try.f35
theorem aPa:zq 35 Try.f35 c35:=zu
abbrev a35:Ty:=T88
abbrev r35:Ty:=T3
noncomputable def G35:Ctx:=Ctx.of [(68,.pure k68)]
theorem g35:SP G35:=aD (fa ⟨⟨aiE.c,h68⟩,f0⟩)
def Q35 {α:Type} (l:Option (r35).den->α) (an:α->α->α) (x:(a35).den):α:=cl (Kj).dflt (MC (x.2.1,((0:Int),((W (((x.1.1.n:Nat):Int) - (1:Int))),())))) (fun u0=>bif u0.1 then bif (decide (((0:Int)<=x.2.1)/\(x.2.1 < ((x.1.1.n:Nat):Int)))) then cl (Kj).dflt (MC (x.2.2.1,((0:Int),((W ((((x.1.1.g (Int.toNat x.2.1)).2.1.n:Nat):Int) - (1:Int))),())))) (fun u1=>l (some u1)) (l none) else l none else l (some (false,()))) (l none)
theorem q35:QO G35 Try.f35 [] a35 r35 Q35:=fun _=>by kernel_rfl
def M35 (x:(a35).den):Option (r35).den:=Q35 (fun r=>r) (fun _ _=>none) x
theorem m35:MO G35 Try.f35 [] M35:=fun x=>by rw [q35]; unfold M35 Q35; simp only [Tree.sure,iO]
def p35:=pO M35
def v35:=vO (τ:=r35) M35
def k35:ee:=⟨a35,r35,p35,v35⟩
theorem h35:Holds Try.prog 35 k35:=hO aPa g35 m35 l0
noncomputable def c37:=zo Try.f37
theorem aVN:zq 37 Try.f37 c37:=zu
abbrev a37:Ty:=T0
abbrev r37:Ty:=T3
noncomputable def G37:Ctx:=Ctx.of [(68,.pure k68)]
theorem g37:SP G37:=aD (fa ⟨⟨aiE.c,h68⟩,f0⟩)
def Q37 {α:Type} (l:Option (r37).den->α) (an:α->α->α) (x:(a37).den):α:=cl (Kj).dflt (MC (x.1,((0:Int),((200:Int),())))) (fun u0=>l (some u0)) (l none)
theorem q37:QO G37 Try.f37 [] a37 r37 Q37:=fun _=>by kernel_rfl
def M37 (x:(a37).den):Option (r37).den:=Q37 (fun r=>r) (fun _ _=>none) x
theorem m37:MO G37 Try.f37 [] M37:=fun x=>by rw [q37]; unfold M37 Q37; simp only [Tree.sure,iO]
def p37:=pO M37
def v37:=vO (τ:=r37) M37
def k37:ee:=⟨a37,r37,p37,v37⟩
theorem h37:Holds Try.prog 37 k37:=hO aVN g37 m37 l0
abbrev aIi:Ty:=(.cons T12 T1)
noncomputable def c91:=zo Try.f91
theorem aOx:zq 91 Try.f91 c91:=zu
abbrev a91:Ty:=OG
abbrev r91:Ty:=T3
noncomputable def G91:Ctx:=Ctx.of []
theorem g91:SP G91:=aD f0
noncomputable def anl:Code:=aG ((af (c91))[0]?)
theorem aDo:af (anl)=[]:=by kernel_rfl
abbrev Oc:List aL:=[.slot 0 (.pc ec)]
abbrev CT:List aL:=[.slot 3 (.pc tI)]
abbrev ahd:List aL:=Oc ++ CT
def asV:ZJ Oc CT ahd:=ZA _ _
def akl:ZS Oc CT ahd:=ZP _ _
abbrev akm:aO:=⟨[(0,[.slot 0 (.pc ec)])],[.slot 2 (.pc .bool)],[]⟩
abbrev Rk:aO:=⟨[(0,[])],[.slot 2 (.pc .bool)],[]⟩
def akn:ZE Oc Rk akm:=fun id=>match id with | 0=>fun c y=>(c.1,y) | _=>jm
def ahe {α:Type} (l:RQ CT Rk->α) (an:α->α->α) (c:ZD Oc) (v:ZD CT):α:=bif (decide (v.1 < ((c.1.n:Nat):Int))) then bif (decide (v.1 < (7:Int))) then bif (decide (((0:Int)<=v.1)/\(v.1 < ((c.1.n:Nat):Int)))) then bif (decide ((5:Int) < (((c.1.g (Int.toNat v.1)).1.n:Nat):Int))) then l (.out (.ret (false,()))) else l (.next ((W (v.1 + (1:Int))),())) else l .bad else l (.out (.exit 0 ())) else l (.out (.exit 0 ()))
theorem aIA:ZO G91 0 23 anl [] asV akn ZI ZI ahe:=fun _ _=>by kernel_rfl
def ahf (c:ZD Oc) (v:ZD CT):RQ CT Rk:=ahe (fun r=>r) (fun _ _=>.bad) c v
theorem aIB:SO G91 0 23 anl [] asV akn ZI ZI ahf:=fun c v=>by rw [aIA]; unfold ahf ahe; simp only [bu,aM,pM]
def ahg (c:ZD Oc) (v:ZD CT):LQ Rk:=aH (ahf c) cz v
theorem aSc:af (c91)=[.loop anl]:=by kernel_rfl
noncomputable def l91:List Loop:=[lk 0 akn ZI ZI true akl ahg]
def Q91 {α:Type} (l:Option (r91).den->α) (an:α->α->α) (x:(a91).den):α:=aF (ahg x ((0:Int),())) 0 (fun u0=>l (some ((decide (((x.1.n:Nat):Int)<=(6:Int))),()))) (bS (ahg x ((0:Int),())) (fun u1=>l (some u1)) (l none))
theorem q91:QO G91 Try.f91 l91 a91 r91 Q91:=fun _=>by kernel_rfl
def M91 (x:(a91).den):Option (r91).den:=Q91 (fun r=>r) (fun _ _=>none) x
theorem m91:MO G91 Try.f91 l91 M91:=fun x=>by rw [q91]; unfold M91 Q91; simp only [Tree.sure,iO]
def p91:=pO M91
def v91:=vO (τ:=r91) M91
def k91:ee:=⟨a91,r91,p91,v91⟩
theorem h91:Holds Try.prog 91 k91:=hO aOx g91 m91 fun G' hlo hF hE=>ai (by rw [aSc]; exact .cons (lv hE hF hlo (ln aDo) akl aIB) (.nil))
noncomputable def c50:=zo Try.f50
theorem aGm:zq 50 Try.f50 c50:=zu
abbrev ayp:Ty:=(.cons ec T79)
abbrev ag6:Ty:=(.cons ec ayp)
abbrev anf:Ty:=(.agg ag6)
abbrev asG:Ty:=(.cons anf .nil)
abbrev a50:Ty:=asG
abbrev r50:Ty:=T3
noncomputable def G50:Ctx:=Ctx.of [(91,.pure k91)]
theorem g50:SP G50:=aD (fa ⟨⟨aOx.c,h91⟩,f0⟩)
def Q50 {α:Type} (l:Option (r50).den->α) (an:α->α->α) (x:(a50).den):α:=cl (r91).dflt (M91 (x.1.1,())) (fun u0=>bif u0.1 then cl (r91).dflt (M91 (x.1.2.1,())) (fun u1=>bif u1.1 then cl (r91).dflt (M91 (x.1.2.2.1,())) (fun u2=>bif u2.1 then cl (r91).dflt (M91 x.1.2.2.2) (fun u3=>l (some u3)) (l none) else l (some (false,()))) (l none) else l (some (false,()))) (l none) else l (some (false,()))) (l none)
theorem q50:QO G50 Try.f50 [] a50 r50 Q50:=fun _=>by kernel_rfl
def M50 (x:(a50).den):Option (r50).den:=Q50 (fun r=>r) (fun _ _=>none) x
theorem m50:MO G50 Try.f50 [] M50:=fun x=>by rw [q50]; unfold M50 Q50; simp only [Tree.sure,iO]
def p50:=pO M50
def v50:=vO (τ:=r50) M50
def k50:ee:=⟨a50,r50,p50,v50⟩
theorem h50:Holds Try.prog 50 k50:=hO aGm g50 m50 l0
noncomputable def c92:=zo Try.f92
theorem aGn:zq 92 Try.f92 c92:=zu
abbrev a92:Ty:=T99
abbrev r92:Ty:=T3
noncomputable def G92:Ctx:=Ctx.of []
theorem g92:SP G92:=aD f0
noncomputable def anm:Code:=aG ((af (c92))[0]?)
theorem aDp:af (anm)=[]:=by kernel_rfl
abbrev Od:List aL:=[.slot 1 (.pc ec),.slot 2 (.ptr 2),.box 2 [.pc eX,.pc tI,.pc tI,.pc tI,.pc tI]]
abbrev CU:List aL:=[.slot 5 (.pc tI)]
abbrev ahh:List aL:=Od ++ CU
def asW:ZJ Od CU ahh:=ZA _ _
def ako:ZS Od CU ahh:=ZP _ _
abbrev akp:aO:=⟨[(0,[])],[.slot 4 (.pc .bool)],[]⟩
abbrev Rl:aO:=⟨[(0,[])],[.slot 4 (.pc .bool)],[]⟩
def akq:ZE Od Rl akp:=fun id=>match id with | 0=>fun c y=>y | _=>jm
def ahi {α:Type} (l:RQ CU Rl->α) (an:α->α->α) (c:ZD Od) (v:ZD CU):α:=bif (decide (v.1 < ((c.1.n:Nat):Int))) then bif (decide (((0:Int)<=v.1)/\(v.1 < ((c.1.n:Nat):Int)))) then bif (decide (((0:Int)<=v.1)/\(v.1 < ((c.2.2.1.1.n:Nat):Int)))) then bif (!(decide ((((c.1.g (Int.toNat v.1)).1.n:Nat):Int)=(((c.2.2.1.1.g (Int.toNat v.1)).2.1.n:Nat):Int)))) then l (.out (.ret (false,()))) else l (.next ((W (v.1 + (1:Int))),())) else l .bad else l .bad else l (.out (.exit 0 ()))
theorem aID:ZO G92 0 31 anm [] asW akq ZI ZI ahi:=fun _ _=>by kernel_rfl
def ahj (c:ZD Od) (v:ZD CU):RQ CU Rl:=ahi (fun r=>r) (fun _ _=>.bad) c v
theorem aIE:SO G92 0 31 anm [] asW akq ZI ZI ahj:=fun c v=>by rw [aID]; unfold ahj ahi; simp only [bu,aM,pM]
def ahk (c:ZD Od) (v:ZD CU):LQ Rl:=aH (ahj c) cz v
theorem aSg:af (c92)=[.loop anm]:=by kernel_rfl
noncomputable def l92:List Loop:=[lk 0 akq ZI ZI true ako ahk]
def Q92 {α:Type} (l:Option (r92).den->α) (an:α->α->α) (x:(a92).den):α:=bif (!(decide (((x.2.1.n:Nat):Int)=((x.1.1.n:Nat):Int)))) then l (some (false,())) else aF (ahk (x.2.1,((),(x.1,()))) ((0:Int),())) 0 (fun u0=>l (some (true,()))) (bS (ahk (x.2.1,((),(x.1,()))) ((0:Int),())) (fun u1=>l (some u1)) (l none))
theorem q92:QO G92 Try.f92 l92 a92 r92 Q92:=fun _=>by kernel_rfl
def M92 (x:(a92).den):Option (r92).den:=Q92 (fun r=>r) (fun _ _=>none) x
theorem m92:MO G92 Try.f92 l92 M92:=fun x=>by rw [q92]; unfold M92 Q92; simp only [Tree.sure,iO]
def p92:=pO M92
def v92:=vO (τ:=r92) M92
def k92:ee:=⟨a92,r92,p92,v92⟩
theorem h92:Holds Try.prog 92 k92:=hO aGn g92 m92 fun G' hlo hF hE=>ai (by rw [aSg]; exact .cons (lv hE hF hlo (ln aDp) ako aIE) (.nil))
noncomputable def c60:=zo Try.f60
theorem aIF:zq 60 Try.f60 c60:=zu
abbrev a60:Ty:=T99
abbrev r60:Ty:=T3
noncomputable def G60:Ctx:=Ctx.of [(68,.pure k68),(92,.pure k92)]
theorem g60:SP G60:=aD (fa ⟨⟨aiE.c,h68⟩,fa ⟨⟨aGn.c,h92⟩,f0⟩⟩)
noncomputable def ahl:Code:=aG ((af (c60))[0]?)
noncomputable def Yp:Code:=aG ((af (ahl))[0]?)
theorem asX:af (Yp)=[]:=by kernel_rfl
abbrev BR:List aL:=[.slot 1 (.pc ec),.slot 2 (.ptr 2),.slot 5 (.pc tI),.box 2 [.pc eX,.pc tI,.pc tI,.pc tI,.pc tI]]
abbrev mg:List aL:=[.slot 6 (.pc tI)]
abbrev Oe:List aL:=BR ++ mg
def ae4:ZJ BR mg Oe:=ZA _ _
def FZ:ZS BR mg Oe:=ZP _ _
abbrev JV:aO:=⟨[(2,[.slot 1 (.pc ec),.slot 2 (.ptr 2),.slot 5 (.pc tI),.box 2 [.pc eX,.pc tI,.pc tI,.pc tI,.pc tI]])],[.slot 4 (.pc .bool)],[]⟩
abbrev pL:aO:=⟨[(2,[])],[.slot 4 (.pc .bool)],[]⟩
def Ut:ZE BR pL JV:=fun id=>match id with | 2=>fun c y=>(c.1,(c.2.1,(c.2.2.1,(c.2.2.2.1,y)))) | _=>jm
def Uu {α:Type} (l:RQ mg pL->α) (an:α->α->α) (c:ZD BR) (v:ZD mg):α:=bif (decide (((0:Int)<=c.2.2.1)/\(c.2.2.1 < ((c.1.n:Nat):Int)))) then bif (decide (v.1 < (((c.1.g (Int.toNat c.2.2.1)).1.n:Nat):Int))) then bif (decide ((0:Int) < c.2.2.1)) then bif (decide (((0:Int)<=(W (c.2.2.1 - (1:Int))))/\((W (c.2.2.1 - (1:Int))) < ((c.2.2.2.1.1.n:Nat):Int)))) then bif (decide (((0:Int)<=c.2.2.1)/\(c.2.2.1 < ((c.1.n:Nat):Int)))) then bif (decide (((0:Int)<=v.1)/\(v.1 < (((c.1.g (Int.toNat c.2.2.1)).1.n:Nat):Int)))) then cl (Kj).dflt (MC (((c.1.g (Int.toNat c.2.2.1)).1.g (Int.toNat v.1)).1,((-1:Int),((W ((((c.2.2.2.1.1.g (Int.toNat (W (c.2.2.1 - (1:Int))))).2.1.n:Nat):Int) - (1:Int))),())))) (fun u0=>bif (!u0.1) then l (.out (.ret (false,()))) else l (.next ((W (v.1 + (1:Int))),()))) (l .bad) else l .bad else l .bad else l .bad else bif (decide (((0:Int)<=c.2.2.1)/\(c.2.2.1 < ((c.1.n:Nat):Int)))) then bif (decide (((0:Int)<=v.1)/\(v.1 < (((c.1.g (Int.toNat c.2.2.1)).1.n:Nat):Int)))) then cl (Kj).dflt (MC (((c.1.g (Int.toNat c.2.2.1)).1.g (Int.toNat v.1)).1,((-1:Int),((-1:Int),())))) (fun u1=>bif (!u1.1) then l (.out (.ret (false,()))) else l (.next ((W (v.1 + (1:Int))),()))) (l .bad) else l .bad else l .bad else l (.out (.exit 2 ())) else l .bad
theorem ayD:ZO G60 0 48 Yp [] ae4 Ut ZI ZI Uu:=fun _ _=>by kernel_rfl
def Uv (c:ZD BR) (v:ZD mg):RQ mg pL:=Uu (fun r=>r) (fun _ _=>.bad) c v
theorem ayE:SO G60 0 48 Yp [] ae4 Ut ZI ZI Uv:=fun c v=>by rw [ayD]; unfold Uv Uu; simp only [bu,aM,pM]
def OP (c:ZD BR) (v:ZD mg):LQ pL:=aH (Uv c) cz v
theorem aDr:af (ahl)=[.loop Yp]:=by kernel_rfl
abbrev Of:List aL:=[.slot 1 (.pc ec),.slot 2 (.ptr 2),.box 2 [.pc eX,.pc tI,.pc tI,.pc tI,.pc tI]]
abbrev CV:List aL:=[.slot 5 (.pc tI)]
abbrev ahm:List aL:=Of ++ CV
def asY:ZJ Of CV ahm:=ZA _ _
def akr:ZS Of CV ahm:=ZP _ _
abbrev aks:aO:=⟨[(0,[])],[.slot 4 (.pc .bool)],[]⟩
abbrev Rm:aO:=⟨[(0,[])],[.slot 4 (.pc .bool)],[]⟩
def akt:ZE Of Rm aks:=fun id=>match id with | 0=>fun c y=>y | _=>jm
def ahn {α:Type} (l:RQ CV Rm->α) (an:α->α->α) (c:ZD Of) (v:ZD CV):α:=bif (decide (v.1 < ((c.1.n:Nat):Int))) then aF (OP (c.1,((),(v.1,(c.2.2.1,())))) ((0:Int),())) 2 (fun u2=>l (.next ((W (v.1 + (1:Int))),()))) (bS (OP (c.1,((),(v.1,(c.2.2.1,())))) ((0:Int),())) (fun u3=>l (.out (.ret u3))) (l .bad)) else l (.out (.exit 0 ()))
theorem aIG:ZO G60 0 48 ahl [.known (bF 0 [] Oe fun x=>aJ JV Ut ZI ZI [] true (FZ x).1 (OP (FZ x).1 (FZ x).2) JV.bw)] asY akt ZI ZI ahn:=fun _ _=>by kernel_rfl
def aho (c:ZD Of) (v:ZD CV):RQ CV Rm:=ahn (fun r=>r) (fun _ _=>.bad) c v
theorem aIH:SO G60 0 48 ahl [.known (bF 0 [] Oe fun x=>aJ JV Ut ZI ZI [] true (FZ x).1 (OP (FZ x).1 (FZ x).2) JV.bw)] asY akt ZI ZI aho:=fun c v=>by rw [aIG]; unfold aho ahn; simp only [bu,aM,pM]
def ahp (c:ZD Of) (v:ZD CV):LQ Rm:=aH (aho c) cz v
theorem aSj:af (c60)=[.loop ahl]:=by kernel_rfl
noncomputable def l60:List Loop:=[lk 0 akt ZI ZI true akr ahp]
def Q60 {α:Type} (l:Option (r60).den->α) (an:α->α->α) (x:(a60).den):α:=cl (r92).dflt (M92 (x.1,x.2)) (fun u4=>bif (!u4.1) then l (some (false,())) else aF (ahp (x.2.1,((),(x.1,()))) ((0:Int),())) 0 (fun u5=>l (some (true,()))) (bS (ahp (x.2.1,((),(x.1,()))) ((0:Int),())) (fun u6=>l (some u6)) (l none))) (l none)
theorem q60:QO G60 Try.f60 l60 a60 r60 Q60:=fun _=>by kernel_rfl
def M60 (x:(a60).den):Option (r60).den:=Q60 (fun r=>r) (fun _ _=>none) x
theorem m60:MO G60 Try.f60 l60 M60:=fun x=>by rw [q60]; unfold M60 Q60; simp only [Tree.sure,iO]
def p60:=pO M60
def v60:=vO (τ:=r60) M60
def k60:ee:=⟨a60,r60,p60,v60⟩
theorem h60:Holds Try.prog 60 k60:=hO aIF g60 m60 fun G' hlo hF hE=>ai (by rw [aSj]; exact .cons (lv hE hF hlo (ai (by rw [aDr]; exact .cons (lv hE hF hlo (ln asX) FZ ayE) (.nil))) akr aIH) (.nil))
noncomputable def c51:=zo Try.f51
theorem aGo:zq 51 Try.f51 c51:=zu
abbrev aoF:Ty:=(.cons PV asG)
abbrev a51:Ty:=aoF
abbrev r51:Ty:=T3
noncomputable def G51:Ctx:=Ctx.of [(60,.pure k60),(92,.pure k92)]
theorem g51:SP G51:=aD (fa ⟨⟨aIF.c,h60⟩,fa ⟨⟨aGn.c,h92⟩,f0⟩⟩)
def Q51 {α:Type} (l:Option (r51).den->α) (an:α->α->α) (x:(a51).den):α:=cl (r60).dflt (M60 (x.1,(x.2.1.1,()))) (fun u0=>bif u0.1 then cl (r92).dflt (M92 (x.1,(x.2.1.2.1,()))) (fun u1=>bif u1.1 then cl (r92).dflt (M92 (x.1,(x.2.1.2.2.1,()))) (fun u2=>bif u2.1 then cl (r92).dflt (M92 (x.1,x.2.1.2.2.2)) (fun u3=>l (some u3)) (l none) else l (some (false,()))) (l none) else l (some (false,()))) (l none) else l (some (false,()))) (l none)
theorem q51:QO G51 Try.f51 [] a51 r51 Q51:=fun _=>by kernel_rfl
def M51 (x:(a51).den):Option (r51).den:=Q51 (fun r=>r) (fun _ _=>none) x
theorem m51:MO G51 Try.f51 [] M51:=fun x=>by rw [q51]; unfold M51 Q51; simp only [Tree.sure,iO]
def p51:=pO M51
def v51:=vO (τ:=r51) M51
def k51:ee:=⟨a51,r51,p51,v51⟩
theorem h51:Holds Try.prog 51 k51:=hO aGo g51 m51 l0
noncomputable def aDs:=zo Try.f115
theorem aE7:zq 115 Try.f115 aDs:=zu
abbrev ayq:Ty:=(.agg T15)
abbrev ayr:Ty:=(.cons ayq .nil)
abbrev asH:Ty:=(.cons (.sl T0) ayr)
abbrev asI:Ty:=(.fn asH T3)
abbrev ays:Ty:=(.cons asI .nil)
abbrev ayt:Ty:=(.cons eX ays)
abbrev aGi:Ty:=(.cons ec ayt)
abbrev ann:Ty:=aGi
abbrev aku:Ty:=T3
noncomputable def as1:Ctx:=Ctx.of []
theorem aSm:SP as1:=aD f0
noncomputable def ae5:Code:=aG ((af (aDs))[0]?)
theorem ayF:af (ae5)=[]:=by kernel_rfl
abbrev Iq:List aL:=[.slot 1 (.pc eX),.slot 2 (.pc asI),.slot 15 (.pc ec),.slot 16 (.pc tI)]
abbrev wC:List aL:=[.slot 17 (.pc tI)]
abbrev abP:List aL:=Iq ++ wC
def akv:ZJ Iq wC abP:=ZA _ _
def ae6:ZS Iq wC abP:=ZP _ _
abbrev ae7:aO:=⟨[(0,[])],[.slot 6 (.pc .bool)],[]⟩
abbrev LN:aO:=⟨[(0,[])],[.slot 6 (.pc .bool)],[]⟩
def ae8:ZE Iq LN ae7:=fun id=>match id with | 0=>fun c y=>y | _=>jm
def aaE {α:Type} (l:RQ wC LN->α) (an:α->α->α) (c:ZD Iq) (v:ZD wC):α:=bif (decide (v.1 < c.2.2.2.1)) then bif (decide (((0:Int)<=v.1)/\(v.1 < ((c.2.2.1.n:Nat):Int)))) then bif (decide (((0:Int)<=v.1)/\(v.1 < ((c.1.n:Nat):Int)))) then bif (c.2.1 ((c.2.2.1.g (Int.toNat v.1)).1,((c.1.g (Int.toNat v.1)),()))).1 then bif (!(c.2.1 ((c.2.2.1.g (Int.toNat v.1)).1,((c.1.g (Int.toNat v.1)),()))).2.1) then l (.out (.ret (false,()))) else l (.next ((W (v.1 + (1:Int))),())) else l .bad else l .bad else l .bad else l (.out (.exit 0 ()))
theorem aDt:ZO as1 0 32 ae5 [] akv ae8 ZI ZI aaE:=fun _ _=>by kernel_rfl
def aaF (c:ZD Iq) (v:ZD wC):RQ wC LN:=aaE (fun r=>r) (fun _ _=>.bad) c v
theorem aDu:SO as1 0 32 ae5 [] akv ae8 ZI ZI aaF:=fun c v=>by rw [aDt]; unfold aaF aaE; simp only [bu,aM,pM]
def aaG (c:ZD Iq) (v:ZD wC):LQ LN:=aH (aaF c) cz v
theorem aII:af (aDs)=[.loop ae5]:=by kernel_rfl
noncomputable def aIJ:List Loop:=[lk 0 ae8 ZI ZI true ae6 aaG]
def ayG {α:Type} (l:Option (aku).den->α) (an:α->α->α) (x:(ann).den):α:=bif (!(decide (((x.1.n:Nat):Int)=((x.2.1.n:Nat):Int)))) then l (some (false,())) else aF (aaG (x.2.1,(x.2.2.1,(x.1,(((x.1.n:Nat):Int),())))) ((0:Int),())) 0 (fun u0=>l (some (true,()))) (bS (aaG (x.2.1,(x.2.2.1,(x.1,(((x.1.n:Nat):Int),())))) ((0:Int),())) (fun u1=>l (some u1)) (l none))
theorem aSn:QO as1 Try.f115 aIJ ann aku ayG:=fun _=>by kernel_rfl
def akw (x:(ann).den):Option (aku).den:=ayG (fun r=>r) (fun _ _=>none) x
theorem aSo:MO as1 Try.f115 aIJ akw:=fun x=>by rw [aSn]; unfold akw ayG; simp only [Tree.sure,iO]
def aSp:=pO akw
def aSq:=vO (τ:=aku) akw
def aIK:ee:=⟨ann,aku,aSp,aSq⟩
theorem aDv:Holds Try.prog 115 aIK:=hO aE7 aSm aSo fun G' hlo hF hE=>ai (by rw [aII]; exact .cons (lv hE hF hlo (ln ayF) ae6 aDu) (.nil))
noncomputable def aOE:=zo Try.f116
theorem aE8:zq 116 Try.f116 aOE:=zu
abbrev a116:Ty:=asH
abbrev aoG:Ty:=T3
noncomputable def aDw:Ctx:=Ctx.of []
theorem aSr:SP aDw:=aD f0
def aDx {α:Type} (l:Option (aoG).den->α) (an:α->α->α) (x:(a116).den):α:=l (some ((decide (((x.1.n:Nat):Int)=((x.2.1.2.1.n:Nat):Int))),()))
theorem aSs:QO aDw Try.f116 [] a116 aoG aDx:=fun _=>by kernel_rfl
def ayH (x:(a116).den):Option (aoG).den:=aDx (fun r=>r) (fun _ _=>none) x
theorem aSt:MO aDw Try.f116 [] ayH:=fun x=>by rw [aSs]; unfold ayH aDx; simp only [Tree.sure,iO]
def ayI:=pO ayH
def ayJ:=vO (τ:=aoG) ayH
def aIL:ee:=⟨a116,aoG,ayI,ayJ⟩
theorem aSu:Holds Try.prog 116 aIL:=hO aE8 aSr aSt l0
noncomputable def c93:=zo Try.f93
theorem aOF:zq 93 Try.f93 c93:=zu
abbrev a93:Ty:=T99
abbrev r93:Ty:=T3
noncomputable def G93:Ctx:=Ctx.of [(115,.pure aIK),(116,.pure aIL)]
theorem g93:SP G93:=aD (fa ⟨⟨aE7.c,aDv⟩,fa ⟨⟨aE8.c,aSu⟩,f0⟩⟩)
def Q93 {α:Type} (l:Option (r93).den->α) (an:α->α->α) (x:(a93).den):α:=cl (aku).dflt (akw (x.2.1,(x.1.1,((fun y1=>((ayI y1),(ayJ y1))),())))) (fun u0=>l (some u0)) (l none)
theorem q93:QO G93 Try.f93 [] a93 r93 Q93:=fun _=>by kernel_rfl
def M93 (x:(a93).den):Option (r93).den:=Q93 (fun r=>r) (fun _ _=>none) x
theorem m93:MO G93 Try.f93 [] M93:=fun x=>by rw [q93]; unfold M93 Q93; simp only [Tree.sure,iO]
def p93:=pO M93
def v93:=vO (τ:=r93) M93
def k93:ee:=⟨a93,r93,p93,v93⟩
theorem h93:Holds Try.prog 93 k93:=hO aOF g93 m93 l0
noncomputable def c52:=zo Try.f52
theorem aGp:zq 52 Try.f52 c52:=zu
abbrev aGj:Ty:=(.cons .bool T0)
abbrev a52:Ty:=aoF
abbrev r52:Ty:=aGj
noncomputable def G52:Ctx:=Ctx.of [(64,.pure k64),(74,.pure k74),(93,.pure k93),(94,.pure k94),(95,.pure k95),(96,.pure k96),(97,.pure k97)]
theorem g52:SP G52:=aD (fa ⟨⟨VM.c,h64⟩,fa ⟨⟨aa7.c,h74⟩,fa ⟨⟨aOF.c,h93⟩,fa ⟨⟨PF.c,h94⟩,fa ⟨⟨apk.c,h95⟩,fa ⟨⟨aa8.c,h96⟩,fa ⟨⟨api.c,h97⟩,f0⟩⟩⟩⟩⟩⟩⟩)
noncomputable def ano:Code:=aG ((af (c52))[0]?)
theorem aDA:af (ano)=[]:=by kernel_rfl
abbrev Og:List aL:=[.slot 2 (.ptr 2),.slot 3 (.ptr 3),.agg 37 ag6,.box 2 [.pc eX,.pc tI,.pc tI,.pc tI,.pc tI],.box 3 [.pc ec,.pc ec,.pc ec,.pc ec]]
abbrev CW:List aL:=[.slot 38 (.pc tI)]
abbrev ahq:List aL:=Og ++ CW
def as2:ZJ Og CW ahq:=ZA _ _
def akx:ZS Og CW ahq:=ZP _ _
abbrev aky:aO:=⟨[(0,[.slot 2 (.ptr 2),.slot 3 (.ptr 3),.box 2 [.pc eX,.pc tI,.pc tI,.pc tI,.pc tI],.box 3 [.pc ec,.pc ec,.pc ec,.pc ec]])],[.slot 4 (.pc .bool),.slot 5 (.pc tI)],[]⟩
abbrev Rn:aO:=⟨[(0,[])],[.slot 4 (.pc .bool),.slot 5 (.pc tI)],[]⟩
def akz:ZE Og Rn aky:=fun id=>match id with | 0=>fun c y=>(c.1,(c.2.1,(c.2.2.2.1,(c.2.2.2.2.1,y)))) | _=>jm
def ahr {α:Type} (l:RQ CW Rn->α) (an:α->α->α) (c:ZD Og) (v:ZD CW):α:=bif (decide (v.1 < (4:Int))) then bif (decide ((v.1 < (4:Int))/\((0:Int)<=v.1))) then bif (decide (((Int.toNat v.1) * 1) < 4)) then cl (r93).dflt (M93 (c.2.2.2.1,((List.getD [c.2.2.1.1,c.2.2.1.2.1,c.2.2.1.2.2.1,c.2.2.1.2.2.2.1] ((Int.toNat v.1) * 1) c.2.2.1.1),()))) (fun u0=>bif (!u0.1) then l (.out (.ret (false,((2:Int),())))) else l (.next ((W (v.1 + (1:Int))),()))) (l .bad) else l .bad else l .bad else l (.out (.exit 0 ()))
theorem aIN:ZO G52 0 242 ano [] as2 akz ZI ZI ahr:=fun _ _=>by kernel_rfl
def ahs (c:ZD Og) (v:ZD CW):RQ CW Rn:=ahr (fun r=>r) (fun _ _=>.bad) c v
theorem aIO:SO G52 0 242 ano [] as2 akz ZI ZI ahs:=fun c v=>by rw [aIN]; unfold ahs ahr; simp only [bu,aM,pM]
def aht (c:ZD Og) (v:ZD CW):LQ Rn:=aH (ahs c) cz v
noncomputable def ahu:Code:=aG ((af (c52))[1]?)
noncomputable def Yq:Code:=aG ((af (ahu))[0]?)
theorem as3:af (Yq)=[]:=by kernel_rfl
abbrev BS:List aL:=[.slot 2 (.ptr 2),.slot 3 (.ptr 3),.slot 10 (.pc tI),.slot 47 (.pc ec),.slot 48 (.pc tI),.slot 49 (.pc tI),.slot 64 (.pc (.sl T0)),.slot 65 (.pc tI),.box 2 [.pc eX,.pc tI,.pc tI,.pc tI,.pc tI],.box 3 [.pc ec,.pc ec,.pc ec,.pc ec]]
abbrev sN:List aL:=[.slot 66 (.pc tI)]
abbrev Oh:List aL:=BS ++ sN
def afa:ZJ BS sN Oh:=ZA _ _
def Ga:ZS BS sN Oh:=ZP _ _
abbrev JW:aO:=⟨[(4,[.slot 2 (.ptr 2),.slot 3 (.ptr 3),.slot 47 (.pc ec),.slot 48 (.pc tI),.slot 49 (.pc tI),.box 2 [.pc eX,.pc tI,.pc tI,.pc tI,.pc tI],.box 3 [.pc ec,.pc ec,.pc ec,.pc ec]])],[.slot 4 (.pc .bool),.slot 5 (.pc tI)],[]⟩
abbrev Gb:aO:=⟨[(4,[])],[.slot 4 (.pc .bool),.slot 5 (.pc tI)],[]⟩
def Uw:ZE BS Gb JW:=fun id=>match id with | 4=>fun c y=>(c.1,(c.2.1,(c.2.2.2.1,(c.2.2.2.2.1,(c.2.2.2.2.2.1,(c.2.2.2.2.2.2.2.2.1,(c.2.2.2.2.2.2.2.2.2.1,y))))))) | _=>jm
def Ux {α:Type} (l:RQ sN Gb->α) (an:α->α->α) (c:ZD BS) (v:ZD sN):α:=bif (decide (v.1 < c.2.2.2.2.2.2.2.1)) then bif (decide (((0:Int)<=v.1)/\(v.1 < ((c.2.2.2.2.2.2.1.n:Nat):Int)))) then cl (r64).dflt (Kk ((c.2.2.2.2.2.2.1.g (Int.toNat v.1)).1,((-1:Int),((W (c.2.2.1 - (1:Int))),())))) (fun u1=>bif (!u1.1) then l (.out (.ret (false,((2:Int),())))) else l (.next ((W (v.1 + (1:Int))),()))) (l .bad) else l .bad else l (.out (.exit 4 ()))
theorem ayK:ZO G52 0 242 Yq [] afa Uw ZI ZI Ux:=fun _ _=>by kernel_rfl
def Uy (c:ZD BS) (v:ZD sN):RQ sN Gb:=Ux (fun r=>r) (fun _ _=>.bad) c v
theorem ayL:SO G52 0 242 Yq [] afa Uw ZI ZI Uy:=fun c v=>by rw [ayK]; unfold Uy Ux; simp only [bu,aM,pM]
def Ir (c:ZD BS) (v:ZD sN):LQ Gb:=aH (Uy c) cz v
theorem aDB:af (ahu)=[.loop Yq]:=by kernel_rfl
abbrev Oi:List aL:=[.slot 2 (.ptr 2),.slot 3 (.ptr 3),.slot 47 (.pc ec),.slot 48 (.pc tI),.box 2 [.pc eX,.pc tI,.pc tI,.pc tI,.pc tI],.box 3 [.pc ec,.pc ec,.pc ec,.pc ec]]
abbrev CX:List aL:=[.slot 49 (.pc tI)]
abbrev ahv:List aL:=Oi ++ CX
def as4:ZJ Oi CX ahv:=ZA _ _
def akA:ZS Oi CX ahv:=ZP _ _
abbrev akB:aO:=⟨[(2,[.slot 2 (.ptr 2),.slot 3 (.ptr 3),.box 2 [.pc eX,.pc tI,.pc tI,.pc tI,.pc tI],.box 3 [.pc ec,.pc ec,.pc ec,.pc ec]])],[.slot 4 (.pc .bool),.slot 5 (.pc tI)],[]⟩
abbrev Ro:aO:=⟨[(2,[])],[.slot 4 (.pc .bool),.slot 5 (.pc tI)],[]⟩
def akC:ZE Oi Ro akB:=fun id=>match id with | 2=>fun c y=>(c.1,(c.2.1,(c.2.2.2.2.1,(c.2.2.2.2.2.1,y)))) | _=>jm
def ahw {α:Type} (l:RQ CX Ro->α) (an:α->α->α) (c:ZD Oi) (v:ZD CX):α:=bif (decide (v.1 < c.2.2.2.1)) then bif (decide (((0:Int)<=v.1)/\(v.1 < ((c.2.2.1.n:Nat):Int)))) then bif (decide ((0:Int) < v.1)) then bif (decide (((0:Int)<=(W (v.1 - (1:Int))))/\((W (v.1 - (1:Int))) < ((c.2.2.2.2.1.1.n:Nat):Int)))) then aF (Ir ((),((),((((c.2.2.2.2.1.1.g (Int.toNat (W (v.1 - (1:Int))))).2.1.n:Nat):Int),(c.2.2.1,(c.2.2.2.1,(v.1,((c.2.2.1.g (Int.toNat v.1)).1,((((c.2.2.1.g (Int.toNat v.1)).1.n:Nat):Int),(c.2.2.2.2.1,(c.2.2.2.2.2.1,())))))))))) ((0:Int),())) 4 (fun u2=>l (.next ((W (v.1 + (1:Int))),()))) (bS (Ir ((),((),((((c.2.2.2.2.1.1.g (Int.toNat (W (v.1 - (1:Int))))).2.1.n:Nat):Int),(c.2.2.1,(c.2.2.2.1,(v.1,((c.2.2.1.g (Int.toNat v.1)).1,((((c.2.2.1.g (Int.toNat v.1)).1.n:Nat):Int),(c.2.2.2.2.1,(c.2.2.2.2.2.1,())))))))))) ((0:Int),())) (fun u3=>l (.out (.ret u3))) (l .bad)) else l .bad else aF (Ir ((),((),((0:Int),(c.2.2.1,(c.2.2.2.1,(v.1,((c.2.2.1.g (Int.toNat v.1)).1,((((c.2.2.1.g (Int.toNat v.1)).1.n:Nat):Int),(c.2.2.2.2.1,(c.2.2.2.2.2.1,())))))))))) ((0:Int),())) 4 (fun u4=>l (.next ((W (v.1 + (1:Int))),()))) (bS (Ir ((),((),((0:Int),(c.2.2.1,(c.2.2.2.1,(v.1,((c.2.2.1.g (Int.toNat v.1)).1,((((c.2.2.1.g (Int.toNat v.1)).1.n:Nat):Int),(c.2.2.2.2.1,(c.2.2.2.2.2.1,())))))))))) ((0:Int),())) (fun u5=>l (.out (.ret u5))) (l .bad)) else l .bad else l (.out (.exit 2 ()))
theorem aIP:ZO G52 0 242 ahu [.known (bF 0 [] Oh fun x=>aJ JW Uw ZI ZI [] true (Ga x).1 (Ir (Ga x).1 (Ga x).2) JW.bw)] as4 akC ZI ZI ahw:=fun _ _=>by kernel_rfl
def ahx (c:ZD Oi) (v:ZD CX):RQ CX Ro:=ahw (fun r=>r) (fun _ _=>.bad) c v
theorem aIQ:SO G52 0 242 ahu [.known (bF 0 [] Oh fun x=>aJ JW Uw ZI ZI [] true (Ga x).1 (Ir (Ga x).1 (Ga x).2) JW.bw)] as4 akC ZI ZI ahx:=fun c v=>by rw [aIP]; unfold ahx ahw; simp only [bu,aM,pM]
def ahy (c:ZD Oi) (v:ZD CX):LQ Ro:=aH (ahx c) cz v
noncomputable def acD:Code:=aG ((af (c52))[2]?)
noncomputable def OQ:Code:=aG ((af (acD))[0]?)
noncomputable def OS:Code:=aG ((af (OQ))[0]?)
theorem akD:af (OS)=[]:=by kernel_rfl
abbrev oL:List aL:=[.slot 2 (.ptr 2),.slot 3 (.ptr 3),.slot 13 (.ptr 17),.slot 14 (.pc tI),.slot 15 (.pc tI),.slot 16 (.pc tI),.slot 17 (.pc tI),.slot 18 (.pc tI),.slot 19 (.ptr 521),.slot 83 (.pc tI),.slot 84 (.pc tI),.slot 91 (.pc (.sl T0)),.slot 92 (.pc tI),.slot 93 (.pc tI),.agg 126 T6,.box 2 [.pc eX,.pc tI,.pc tI,.pc tI,.pc tI],.box 3 [.pc ec,.pc ec,.pc ec,.pc ec],.box 17 [.pc eX,.pc tI,.pc tI,.pc tI,.pc tI,.pc ec],.box 521 [.pc tI,.pc tI,.pc tI]]
abbrev mG:List aL:=[.slot 127 (.pc tI)]
abbrev Gd:List aL:=oL ++ mG
def VV:ZJ oL mG Gd:=ZA _ _
def xu:ZS oL mG Gd:=ZP _ _
abbrev AH:aO:=⟨[(10,[.slot 2 (.ptr 2),.slot 3 (.ptr 3),.slot 13 (.ptr 17),.slot 14 (.pc tI),.slot 15 (.pc tI),.slot 16 (.pc tI),.slot 17 (.pc tI),.slot 18 (.pc tI),.slot 19 (.ptr 521),.slot 83 (.pc tI),.slot 84 (.pc tI),.slot 91 (.pc (.sl T0)),.slot 92 (.pc tI),.slot 93 (.pc tI),.box 2 [.pc eX,.pc tI,.pc tI,.pc tI,.pc tI],.box 3 [.pc ec,.pc ec,.pc ec,.pc ec],.box 17 [.pc eX,.pc tI,.pc tI,.pc tI,.pc tI,.pc ec],.box 521 [.pc tI,.pc tI,.pc tI]])],[.slot 4 (.pc .bool),.slot 5 (.pc tI)],[]⟩
abbrev su:aO:=⟨[(10,[])],[.slot 4 (.pc .bool),.slot 5 (.pc tI)],[]⟩
def LP:ZE oL su AH:=fun id=>match id with | 10=>fun c y=>(c.1,(c.2.1,(c.2.2.1,(c.2.2.2.1,(c.2.2.2.2.1,(c.2.2.2.2.2.1,(c.2.2.2.2.2.2.1,(c.2.2.2.2.2.2.2.1,(c.2.2.2.2.2.2.2.2.1,(c.2.2.2.2.2.2.2.2.2.1,(c.2.2.2.2.2.2.2.2.2.2.1,(c.2.2.2.2.2.2.2.2.2.2.2.1,(c.2.2.2.2.2.2.2.2.2.2.2.2.1,(c.2.2.2.2.2.2.2.2.2.2.2.2.2.1,(c.2.2.2.2.2.2.2.2.2.2.2.2.2.2.2.1,(c.2.2.2.2.2.2.2.2.2.2.2.2.2.2.2.2.1,(c.2.2.2.2.2.2.2.2.2.2.2.2.2.2.2.2.2.1,(c.2.2.2.2.2.2.2.2.2.2.2.2.2.2.2.2.2.2.1,y)))))))))))))))))) | _=>jm
def JX {α:Type} (l:RQ mG su->α) (an:α->α->α) (c:ZD oL) (v:ZD mG):α:=bif (decide (v.1 < (3:Int))) then bif (decide ((v.1 < (3:Int))/\((0:Int)<=v.1))) then bif (decide ((((Int.toNat v.1) * 2) + 2)<=6)) then bif (decide (((0:Int)<=v.1)/\(v.1 < (3:Int)))) then bif (decide ((0 + ((Int.toNat v.1) * 1)) < 3)) then cl (r64).dflt (Kk ((List.getD [c.2.2.2.2.2.2.2.2.2.2.2.2.2.2.2.2.2.2.1.1,c.2.2.2.2.2.2.2.2.2.2.2.2.2.2.2.2.2.2.1.2.1,c.2.2.2.2.2.2.2.2.2.2.2.2.2.2.2.2.2.2.1.2.2.1] (0 + ((Int.toNat v.1) * 1)) c.2.2.2.2.2.2.2.2.2.2.2.2.2.2.2.2.2.2.1.1),((List.getD [c.2.2.2.2.2.2.2.2.2.2.2.2.2.2.1.1,c.2.2.2.2.2.2.2.2.2.2.2.2.2.2.1.2.1,c.2.2.2.2.2.2.2.2.2.2.2.2.2.2.1.2.2.1,c.2.2.2.2.2.2.2.2.2.2.2.2.2.2.1.2.2.2.1,c.2.2.2.2.2.2.2.2.2.2.2.2.2.2.1.2.2.2.2.1,c.2.2.2.2.2.2.2.2.2.2.2.2.2.2.1.2.2.2.2.2.1] ((Int.toNat v.1) * 2) c.2.2.2.2.2.2.2.2.2.2.2.2.2.2.1.1),((List.getD [c.2.2.2.2.2.2.2.2.2.2.2.2.2.2.1.2.1,c.2.2.2.2.2.2.2.2.2.2.2.2.2.2.1.2.2.1,c.2.2.2.2.2.2.2.2.2.2.2.2.2.2.1.2.2.2.1,c.2.2.2.2.2.2.2.2.2.2.2.2.2.2.1.2.2.2.2.1,c.2.2.2.2.2.2.2.2.2.2.2.2.2.2.1.2.2.2.2.2.1] ((Int.toNat v.1) * 2) c.2.2.2.2.2.2.2.2.2.2.2.2.2.2.1.1),())))) (fun u6=>bif (!u6.1) then l (.out (.ret (false,((0:Int),())))) else l (.next ((W (v.1 + (1:Int))),()))) (l .bad) else l .bad else l .bad else l .bad else l .bad else l (.out (.exit 10 ()))
theorem aoH:ZO G52 0 242 OS [] VV LP ZI ZI JX:=fun _ _=>by kernel_rfl
def JY (c:ZD oL) (v:ZD mG):RQ mG su:=JX (fun r=>r) (fun _ _=>.bad) c v
theorem aoI:SO G52 0 242 OS [] VV LP ZI ZI JY:=fun c v=>by rw [aoH]; unfold JY JX; simp only [bu,aM,pM]
def xG (c:ZD oL) (v:ZD mG):LQ su:=aH (JY c) cz v
noncomputable def OT:Code:=aG ((af (OQ))[1]?)
theorem akE:af (OT)=[]:=by kernel_rfl
abbrev pU:List aL:=[.slot 2 (.ptr 2),.slot 3 (.ptr 3),.slot 13 (.ptr 17),.slot 14 (.pc tI),.slot 15 (.pc tI),.slot 16 (.pc tI),.slot 17 (.pc tI),.slot 18 (.pc tI),.slot 19 (.ptr 521),.slot 22 (.ptr 1028),.slot 83 (.pc tI),.slot 84 (.pc tI),.slot 91 (.pc (.sl T0)),.slot 92 (.pc tI),.slot 93 (.pc tI),.agg 179 T2,.box 2 [.pc eX,.pc tI,.pc tI,.pc tI,.pc tI],.box 3 [.pc ec,.pc ec,.pc ec,.pc ec],.box 17 [.pc eX,.pc tI,.pc tI,.pc tI,.pc tI,.pc ec],.box 521 [.pc tI,.pc tI,.pc tI],.box 1028 [.pc tI,.pc tI,.pc tI]]
abbrev mH:List aL:=[.slot 180 (.pc tI)]
abbrev Ge:List aL:=pU ++ mH
def VW:ZJ pU mH Ge:=ZA _ _
def xw:ZS pU mH Ge:=ZP _ _
abbrev AI:aO:=⟨[(12,[.slot 2 (.ptr 2),.slot 3 (.ptr 3),.slot 13 (.ptr 17),.slot 14 (.pc tI),.slot 15 (.pc tI),.slot 16 (.pc tI),.slot 17 (.pc tI),.slot 18 (.pc tI),.slot 83 (.pc tI),.slot 84 (.pc tI),.slot 91 (.pc (.sl T0)),.slot 92 (.pc tI),.slot 93 (.pc tI),.box 2 [.pc eX,.pc tI,.pc tI,.pc tI,.pc tI],.box 3 [.pc ec,.pc ec,.pc ec,.pc ec],.box 17 [.pc eX,.pc tI,.pc tI,.pc tI,.pc tI,.pc ec]])],[.slot 4 (.pc .bool),.slot 5 (.pc tI)],[]⟩
abbrev sw:aO:=⟨[(12,[])],[.slot 4 (.pc .bool),.slot 5 (.pc tI)],[]⟩
def LR:ZE pU sw AI:=fun id=>match id with | 12=>fun c y=>(c.1,(c.2.1,(c.2.2.1,(c.2.2.2.1,(c.2.2.2.2.1,(c.2.2.2.2.2.1,(c.2.2.2.2.2.2.1,(c.2.2.2.2.2.2.2.1,(c.2.2.2.2.2.2.2.2.2.2.1,(c.2.2.2.2.2.2.2.2.2.2.2.1,(c.2.2.2.2.2.2.2.2.2.2.2.2.1,(c.2.2.2.2.2.2.2.2.2.2.2.2.2.1,(c.2.2.2.2.2.2.2.2.2.2.2.2.2.2.1,(c.2.2.2.2.2.2.2.2.2.2.2.2.2.2.2.2.1,(c.2.2.2.2.2.2.2.2.2.2.2.2.2.2.2.2.2.1,(c.2.2.2.2.2.2.2.2.2.2.2.2.2.2.2.2.2.2.1,y)))))))))))))))) | _=>jm
def JZ {α:Type} (l:RQ mH sw->α) (an:α->α->α) (c:ZD pU) (v:ZD mH):α:=bif (decide (v.1 < (3:Int))) then bif (decide ((v.1 < (3:Int))/\((0:Int)<=v.1))) then bif (decide (((Int.toNat v.1) * 1) < 3)) then bif (decide (((0:Int)<=v.1)/\(v.1 < (3:Int)))) then bif (decide ((0 + ((Int.toNat v.1) * 1)) < 3)) then bif (decide (((0:Int)<=v.1)/\(v.1 < (3:Int)))) then bif (decide ((0 + ((Int.toNat v.1) * 1)) < 3)) then cl (r64).dflt (Kk ((W ((List.getD [c.2.2.2.2.2.2.2.2.2.2.2.2.2.2.2.2.2.2.2.1.1,c.2.2.2.2.2.2.2.2.2.2.2.2.2.2.2.2.2.2.2.1.2.1,c.2.2.2.2.2.2.2.2.2.2.2.2.2.2.2.2.2.2.2.1.2.2.1] (0 + ((Int.toNat v.1) * 1)) c.2.2.2.2.2.2.2.2.2.2.2.2.2.2.2.2.2.2.2.1.1) - (List.getD [c.2.2.2.2.2.2.2.2.2.2.2.2.2.2.2.2.2.2.2.2.1.1,c.2.2.2.2.2.2.2.2.2.2.2.2.2.2.2.2.2.2.2.2.1.2.1,c.2.2.2.2.2.2.2.2.2.2.2.2.2.2.2.2.2.2.2.2.1.2.2.1] (0 + ((Int.toNat v.1) * 1)) c.2.2.2.2.2.2.2.2.2.2.2.2.2.2.2.2.2.2.2.2.1.1))),((W ((0:Int) - (List.getD [c.2.2.2.2.2.2.2.2.2.2.2.2.2.2.2.1.1,c.2.2.2.2.2.2.2.2.2.2.2.2.2.2.2.1.2.1,c.2.2.2.2.2.2.2.2.2.2.2.2.2.2.2.1.2.2.1] ((Int.toNat v.1) * 1) c.2.2.2.2.2.2.2.2.2.2.2.2.2.2.2.1.1))),((List.getD [c.2.2.2.2.2.2.2.2.2.2.2.2.2.2.2.1.1,c.2.2.2.2.2.2.2.2.2.2.2.2.2.2.2.1.2.1,c.2.2.2.2.2.2.2.2.2.2.2.2.2.2.2.1.2.2.1] ((Int.toNat v.1) * 1) c.2.2.2.2.2.2.2.2.2.2.2.2.2.2.2.1.1),())))) (fun u7=>bif (!u7.1) then l (.out (.ret (false,((0:Int),())))) else l (.next ((W (v.1 + (1:Int))),()))) (l .bad) else l .bad else l .bad else l .bad else l .bad else l .bad else l .bad else l (.out (.exit 12 ()))
theorem aoJ:ZO G52 0 242 OT [] VW LR ZI ZI JZ:=fun _ _=>by kernel_rfl
def Ka (c:ZD pU) (v:ZD mH):RQ mH sw:=JZ (fun r=>r) (fun _ _=>.bad) c v
theorem aoK:SO G52 0 242 OT [] VW LR ZI ZI Ka:=fun c v=>by rw [aoJ]; unfold Ka JZ; simp only [bu,aM,pM]
def AJ (c:ZD pU) (v:ZD mH):LQ sw:=aH (Ka c) cz v
theorem as5:af (OQ)=[.loop OS,.loop OT]:=by kernel_rfl
abbrev BT:List aL:=[.slot 2 (.ptr 2),.slot 3 (.ptr 3),.slot 13 (.ptr 17),.slot 15 (.pc tI),.slot 16 (.pc tI),.slot 83 (.pc tI),.slot 84 (.pc tI),.slot 91 (.pc (.sl T0)),.slot 92 (.pc tI),.box 2 [.pc eX,.pc tI,.pc tI,.pc tI,.pc tI],.box 3 [.pc ec,.pc ec,.pc ec,.pc ec],.box 17 [.pc eX,.pc tI,.pc tI,.pc tI,.pc tI,.pc ec]]
abbrev sO:List aL:=[.slot 14 (.pc tI),.slot 93 (.pc tI)]
abbrev Oj:List aL:=BT ++ sO
def afb:ZJ BT sO Oj:=ZA _ _
def Gf:ZS BT sO Oj:=ZP _ _
abbrev Kb:aO:=⟨[(8,[.slot 2 (.ptr 2),.slot 3 (.ptr 3),.slot 13 (.ptr 17),.slot 15 (.pc tI),.slot 16 (.pc tI),.slot 83 (.pc tI),.slot 84 (.pc tI),.box 2 [.pc eX,.pc tI,.pc tI,.pc tI,.pc tI],.box 3 [.pc ec,.pc ec,.pc ec,.pc ec],.box 17 [.pc eX,.pc tI,.pc tI,.pc tI,.pc tI,.pc ec],.slot 14 (.pc tI)])],[.slot 4 (.pc .bool),.slot 5 (.pc tI)],[]⟩
abbrev uV:aO:=⟨[(8,[.slot 14 (.pc tI)])],[.slot 4 (.pc .bool),.slot 5 (.pc tI)],[]⟩
def Uz:ZE BT uV Kb:=fun id=>match id with | 8=>fun c y=>(c.1,(c.2.1,(c.2.2.1,(c.2.2.2.1,(c.2.2.2.2.1,(c.2.2.2.2.2.1,(c.2.2.2.2.2.2.1,(c.2.2.2.2.2.2.2.2.2.1,(c.2.2.2.2.2.2.2.2.2.2.1,(c.2.2.2.2.2.2.2.2.2.2.2.1,y)))))))))) | _=>jm
def UA {α:Type} (l:RQ sO uV->α) (an:α->α->α) (c:ZD BT) (v:ZD sO):α:=bif (decide (v.2.1 < c.2.2.2.2.2.2.2.2.1)) then bif (decide (((0:Int)<=v.2.1)/\(v.2.1 < ((c.2.2.2.2.2.2.2.1.n:Nat):Int)))) then bif (decide (((0:Int)<=c.2.2.2.2.1)/\(c.2.2.2.2.1 < ((c.2.2.2.2.2.2.2.2.2.2.1.2.1.n:Nat):Int)))) then bif (decide (((0:Int)<=v.2.1)/\(v.2.1 < (((c.2.2.2.2.2.2.2.2.2.2.1.2.1.g (Int.toNat c.2.2.2.2.1)).1.n:Nat):Int)))) then bif (decide (((0:Int)<=c.2.2.2.2.1)/\(c.2.2.2.2.1 < ((c.2.2.2.2.2.2.2.2.2.2.1.2.2.1.n:Nat):Int)))) then bif (decide (((0:Int)<=v.2.1)/\(v.2.1 < (((c.2.2.2.2.2.2.2.2.2.2.1.2.2.1.g (Int.toNat c.2.2.2.2.1)).1.n:Nat):Int)))) then bif (decide (((0:Int)<=c.2.2.2.2.1)/\(c.2.2.2.2.1 < ((c.2.2.2.2.2.2.2.2.2.2.1.2.2.2.1.n:Nat):Int)))) then bif (decide (((0:Int)<=v.2.1)/\(v.2.1 < (((c.2.2.2.2.2.2.2.2.2.2.1.2.2.2.1.g (Int.toNat c.2.2.2.2.1)).1.n:Nat):Int)))) then cl (PW).dflt (Sf ((c.2.2.2.2.2.2.2.2.2.2.2.1.1,(c.2.2.2.2.2.2.2.2.2.2.2.1.2.1,(c.2.2.2.2.2.2.2.2.2.2.2.1.2.2.1,(c.2.2.2.2.2.2.2.2.2.2.2.1.2.2.2.1,(c.2.2.2.2.2.2.2.2.2.2.2.1.2.2.2.2.1,((),())))))),(c.2.2.2.2.1,v.2))) (fun u8=>aF (xG ((),((),((),(v.1,(c.2.2.2.1,(c.2.2.2.2.1,(v.2.1,((c.2.2.2.2.2.2.2.1.g (Int.toNat v.2.1)).1,((),(c.2.2.2.2.2.1,(c.2.2.2.2.2.2.1,(c.2.2.2.2.2.2.2.1,(c.2.2.2.2.2.2.2.2.1,(v.2.1,(u8.1,(c.2.2.2.2.2.2.2.2.2.1,(c.2.2.2.2.2.2.2.2.2.2.1,(c.2.2.2.2.2.2.2.2.2.2.2.1,((((c.2.2.2.2.2.2.2.2.2.2.1.2.1.g (Int.toNat c.2.2.2.2.1)).1.g (Int.toNat v.2.1)).1,(((c.2.2.2.2.2.2.2.2.2.2.1.2.2.1.g (Int.toNat c.2.2.2.2.1)).1.g (Int.toNat v.2.1)).1,((c.2.2.2.2.2.2.2.2.2.2.1.2.2.2.1.g (Int.toNat c.2.2.2.2.1)).1.g (Int.toNat v.2.1)))),()))))))))))))))))))) ((0:Int),())) 10 (fun u9=>bif (decide (c.2.2.2.2.1=(0:Int))) then l (.next (v.1,((W (v.2.1 + (1:Int))),()))) else bif (decide ((c.2.2.2.2.2.2.2.1.g (Int.toNat v.2.1)).1 < (0:Int))) then l (.next ((W (v.1 + (1:Int))),((W (v.2.1 + (1:Int))),()))) else bif (decide (((0:Int)<=(W (c.2.2.2.2.1 - (1:Int))))/\((W (c.2.2.2.2.1 - (1:Int))) < ((c.2.2.2.2.2.2.2.2.2.2.1.2.1.n:Nat):Int)))) then bif (decide (((0:Int)<=(c.2.2.2.2.2.2.2.1.g (Int.toNat v.2.1)).1)/\((c.2.2.2.2.2.2.2.1.g (Int.toNat v.2.1)).1 < (((c.2.2.2.2.2.2.2.2.2.2.1.2.1.g (Int.toNat (W (c.2.2.2.2.1 - (1:Int))))).1.n:Nat):Int)))) then bif (decide (((0:Int)<=(W (c.2.2.2.2.1 - (1:Int))))/\((W (c.2.2.2.2.1 - (1:Int))) < ((c.2.2.2.2.2.2.2.2.2.2.1.2.2.1.n:Nat):Int)))) then bif (decide (((0:Int)<=(c.2.2.2.2.2.2.2.1.g (Int.toNat v.2.1)).1)/\((c.2.2.2.2.2.2.2.1.g (Int.toNat v.2.1)).1 < (((c.2.2.2.2.2.2.2.2.2.2.1.2.2.1.g (Int.toNat (W (c.2.2.2.2.1 - (1:Int))))).1.n:Nat):Int)))) then bif (decide (((0:Int)<=(W (c.2.2.2.2.1 - (1:Int))))/\((W (c.2.2.2.2.1 - (1:Int))) < ((c.2.2.2.2.2.2.2.2.2.2.1.2.2.2.1.n:Nat):Int)))) then bif (decide (((0:Int)<=(c.2.2.2.2.2.2.2.1.g (Int.toNat v.2.1)).1)/\((c.2.2.2.2.2.2.2.1.g (Int.toNat v.2.1)).1 < (((c.2.2.2.2.2.2.2.2.2.2.1.2.2.2.1.g (Int.toNat (W (c.2.2.2.2.1 - (1:Int))))).1.n:Nat):Int)))) then cl (Wb).dflt (WG ((c.2.2.2.2.2.2.2.2.2.2.2.1.1,(c.2.2.2.2.2.2.2.2.2.2.2.1.2.1,(c.2.2.2.2.2.2.2.2.2.2.2.1.2.2.1,(c.2.2.2.2.2.2.2.2.2.2.2.1.2.2.2.1,(c.2.2.2.2.2.2.2.2.2.2.2.1.2.2.2.2.1,((),())))))),(c.2.2.2.2.1,()))) (fun vD=>cl (r95).dflt (M95 ((c.2.2.2.2.2.2.2.2.2.2.2.1.1,(c.2.2.2.2.2.2.2.2.2.2.2.1.2.1,(c.2.2.2.2.2.2.2.2.2.2.2.1.2.2.1,(c.2.2.2.2.2.2.2.2.2.2.2.1.2.2.2.1,(c.2.2.2.2.2.2.2.2.2.2.2.1.2.2.2.2.1,((),())))))),vD)) (fun lM=>aF (AJ ((),((),((),(v.1,(c.2.2.2.1,(c.2.2.2.2.1,(v.2.1,((c.2.2.2.2.2.2.2.1.g (Int.toNat v.2.1)).1,((),((),(c.2.2.2.2.2.1,(c.2.2.2.2.2.2.1,(c.2.2.2.2.2.2.2.1,(c.2.2.2.2.2.2.2.2.1,(v.2.1,(lM.1,(c.2.2.2.2.2.2.2.2.2.1,(c.2.2.2.2.2.2.2.2.2.2.1,(c.2.2.2.2.2.2.2.2.2.2.2.1,((((c.2.2.2.2.2.2.2.2.2.2.1.2.1.g (Int.toNat c.2.2.2.2.1)).1.g (Int.toNat v.2.1)).1,(((c.2.2.2.2.2.2.2.2.2.2.1.2.2.1.g (Int.toNat c.2.2.2.2.1)).1.g (Int.toNat v.2.1)).1,((c.2.2.2.2.2.2.2.2.2.2.1.2.2.2.1.g (Int.toNat c.2.2.2.2.1)).1.g (Int.toNat v.2.1)))),((((c.2.2.2.2.2.2.2.2.2.2.1.2.1.g (Int.toNat (W (c.2.2.2.2.1 - (1:Int))))).1.g (Int.toNat (c.2.2.2.2.2.2.2.1.g (Int.toNat v.2.1)).1)).1,(((c.2.2.2.2.2.2.2.2.2.2.1.2.2.1.g (Int.toNat (W (c.2.2.2.2.1 - (1:Int))))).1.g (Int.toNat (c.2.2.2.2.2.2.2.1.g (Int.toNat v.2.1)).1)).1,((c.2.2.2.2.2.2.2.2.2.2.1.2.2.2.1.g (Int.toNat (W (c.2.2.2.2.1 - (1:Int))))).1.g (Int.toNat (c.2.2.2.2.2.2.2.1.g (Int.toNat v.2.1)).1)))),()))))))))))))))))))))) ((0:Int),())) 12 (fun MA=>bif (decide (((0:Int)<=c.2.2.2.2.1)/\(c.2.2.2.2.1 < ((c.2.2.2.2.2.2.2.2.2.2.1.1.n:Nat):Int)))) then bif (decide (((0:Int)<=(0:Int))/\(((0:Int)<=v.2.1)/\(v.2.1<=(((c.2.2.2.2.2.2.2.2.2.2.1.1.g (Int.toNat c.2.2.2.2.1)).1.n:Nat):Int))))) then cl (WX).dflt (XA ((⟨(Int.toNat (v.2.1 - (0:Int))),fun i=>((c.2.2.2.2.2.2.2.2.2.2.1.1.g (Int.toNat c.2.2.2.2.1)).1.g (i + 0))⟩:Sl _),(c.2.2.2.2.2.2.2.1.g (Int.toNat v.2.1)))) (fun Df=>bif Df.1 then l (.out (.ret (false,((0:Int),())))) else l (.next (v.1,((W (v.2.1 + (1:Int))),())))) (l .bad) else l .bad else l .bad) (bS (AJ ((),((),((),(v.1,(c.2.2.2.1,(c.2.2.2.2.1,(v.2.1,((c.2.2.2.2.2.2.2.1.g (Int.toNat v.2.1)).1,((),((),(c.2.2.2.2.2.1,(c.2.2.2.2.2.2.1,(c.2.2.2.2.2.2.2.1,(c.2.2.2.2.2.2.2.2.1,(v.2.1,(lM.1,(c.2.2.2.2.2.2.2.2.2.1,(c.2.2.2.2.2.2.2.2.2.2.1,(c.2.2.2.2.2.2.2.2.2.2.2.1,((((c.2.2.2.2.2.2.2.2.2.2.1.2.1.g (Int.toNat c.2.2.2.2.1)).1.g (Int.toNat v.2.1)).1,(((c.2.2.2.2.2.2.2.2.2.2.1.2.2.1.g (Int.toNat c.2.2.2.2.1)).1.g (Int.toNat v.2.1)).1,((c.2.2.2.2.2.2.2.2.2.2.1.2.2.2.1.g (Int.toNat c.2.2.2.2.1)).1.g (Int.toNat v.2.1)))),((((c.2.2.2.2.2.2.2.2.2.2.1.2.1.g (Int.toNat (W (c.2.2.2.2.1 - (1:Int))))).1.g (Int.toNat (c.2.2.2.2.2.2.2.1.g (Int.toNat v.2.1)).1)).1,(((c.2.2.2.2.2.2.2.2.2.2.1.2.2.1.g (Int.toNat (W (c.2.2.2.2.1 - (1:Int))))).1.g (Int.toNat (c.2.2.2.2.2.2.2.1.g (Int.toNat v.2.1)).1)).1,((c.2.2.2.2.2.2.2.2.2.2.1.2.2.2.1.g (Int.toNat (W (c.2.2.2.2.1 - (1:Int))))).1.g (Int.toNat (c.2.2.2.2.2.2.2.1.g (Int.toNat v.2.1)).1)))),()))))))))))))))))))))) ((0:Int),())) (fun PX=>l (.out (.ret PX))) (l .bad))) (l .bad)) (l .bad) else l .bad else l .bad else l .bad else l .bad else l .bad else l .bad) (bS (xG ((),((),((),(v.1,(c.2.2.2.1,(c.2.2.2.2.1,(v.2.1,((c.2.2.2.2.2.2.2.1.g (Int.toNat v.2.1)).1,((),(c.2.2.2.2.2.1,(c.2.2.2.2.2.2.1,(c.2.2.2.2.2.2.2.1,(c.2.2.2.2.2.2.2.2.1,(v.2.1,(u8.1,(c.2.2.2.2.2.2.2.2.2.1,(c.2.2.2.2.2.2.2.2.2.2.1,(c.2.2.2.2.2.2.2.2.2.2.2.1,((((c.2.2.2.2.2.2.2.2.2.2.1.2.1.g (Int.toNat c.2.2.2.2.1)).1.g (Int.toNat v.2.1)).1,(((c.2.2.2.2.2.2.2.2.2.2.1.2.2.1.g (Int.toNat c.2.2.2.2.1)).1.g (Int.toNat v.2.1)).1,((c.2.2.2.2.2.2.2.2.2.2.1.2.2.2.1.g (Int.toNat c.2.2.2.2.1)).1.g (Int.toNat v.2.1)))),()))))))))))))))))))) ((0:Int),())) (fun PB=>l (.out (.ret PB))) (l .bad))) (l .bad) else l .bad else l .bad else l .bad else l .bad else l .bad else l .bad else l .bad else l (.out (.exit 8 (v.1,())))
theorem ayM:ZO G52 0 242 OQ [.known (bF 0 [] Gd fun x=>aJ AH LP ZI ZI [] true (xu x).1 (xG (xu x).1 (xu x).2) AH.bw),.known (bF 0 [] Ge fun x=>aJ AI LR ZI ZI [] true (xw x).1 (AJ (xw x).1 (xw x).2) AI.bw)] afb Uz ZI ZI UA:=fun _ _=>by kernel_rfl
def OU (c:ZD BT) (v:ZD sO):RQ sO uV:=UA (fun r=>r) (fun _ _=>.bad) c v
theorem ayN:SO G52 0 242 OQ [.known (bF 0 [] Gd fun x=>aJ AH LP ZI ZI [] true (xu x).1 (xG (xu x).1 (xu x).2) AH.bw),.known (bF 0 [] Ge fun x=>aJ AI LR ZI ZI [] true (xw x).1 (AJ (xw x).1 (xw x).2) AI.bw)] afb Uz ZI ZI OU:=fun c v=>by rw [ayM]; unfold OU UA; simp only [bu,aM,pM]
def UB (c:ZD BT) (v:ZD sO):LQ uV:=aH (OU c) cz v
noncomputable def Yr:Code:=aG ((af (acD))[1]?)
theorem as6:af (Yr)=[]:=by kernel_rfl
abbrev BU:List aL:=[.slot 2 (.ptr 2),.slot 3 (.ptr 3),.slot 13 (.ptr 17),.slot 14 (.pc tI),.slot 16 (.pc tI),.slot 83 (.pc tI),.slot 84 (.pc tI),.slot 216 (.pc tI),.box 2 [.pc eX,.pc tI,.pc tI,.pc tI,.pc tI],.box 3 [.pc ec,.pc ec,.pc ec,.pc ec],.box 17 [.pc eX,.pc tI,.pc tI,.pc tI,.pc tI,.pc ec]]
abbrev mN:List aL:=[.slot 15 (.pc tI),.slot 217 (.pc tI)]
abbrev Ol:List aL:=BU ++ mN
def afc:ZJ BU mN Ol:=ZA _ _
def Gg:ZS BU mN Ol:=ZP _ _
abbrev Kc:aO:=⟨[(14,[.slot 2 (.ptr 2),.slot 3 (.ptr 3),.slot 13 (.ptr 17),.slot 14 (.pc tI),.slot 83 (.pc tI),.slot 84 (.pc tI),.box 2 [.pc eX,.pc tI,.pc tI,.pc tI,.pc tI],.box 3 [.pc ec,.pc ec,.pc ec,.pc ec],.box 17 [.pc eX,.pc tI,.pc tI,.pc tI,.pc tI,.pc ec],.slot 15 (.pc tI)])],[],[]⟩
abbrev Gi:aO:=⟨[(14,[.slot 15 (.pc tI)])],[],[]⟩
def UC:ZE BU Gi Kc:=fun id=>match id with | 14=>fun c y=>(c.1,(c.2.1,(c.2.2.1,(c.2.2.2.1,(c.2.2.2.2.2.1,(c.2.2.2.2.2.2.1,(c.2.2.2.2.2.2.2.2.1,(c.2.2.2.2.2.2.2.2.2.1,(c.2.2.2.2.2.2.2.2.2.2.1,y))))))))) | _=>jm
def UD {α:Type} (l:RQ mN Gi->α) (an:α->α->α) (c:ZD BU) (v:ZD mN):α:=bif (decide (v.2.1 < c.2.2.2.2.2.2.2.1)) then bif (decide (((0:Int)<=c.2.2.2.2.1)/\(c.2.2.2.2.1 < ((c.2.2.2.2.2.2.2.2.2.1.1.n:Nat):Int)))) then cl (WX).dflt (XA ((c.2.2.2.2.2.2.2.2.2.1.1.g (Int.toNat c.2.2.2.2.1)).1,v.2)) (fun u16=>bif (!u16.1) then l (.next ((W (v.1 + (1:Int))),((W (v.2.1 + (1:Int))),()))) else l (.next (v.1,((W (v.2.1 + (1:Int))),())))) (l .bad) else l .bad else l (.out (.exit 14 (v.1,())))
theorem ayO:ZO G52 0 242 Yr [] afc UC ZI ZI UD:=fun _ _=>by kernel_rfl
def UE (c:ZD BU) (v:ZD mN):RQ mN Gi:=UD (fun r=>r) (fun _ _=>.bad) c v
theorem ayP:SO G52 0 242 Yr [] afc UC ZI ZI UE:=fun c v=>by rw [ayO]; unfold UE UD; simp only [bu,aM,pM]
def UF (c:ZD BU) (v:ZD mN):LQ Gi:=aH (UE c) cz v
theorem aDC:af (acD)=[.loop OQ,.loop Yr]:=by kernel_rfl
abbrev Om:List aL:=[.slot 2 (.ptr 2),.slot 3 (.ptr 3),.slot 13 (.ptr 17),.slot 83 (.pc tI),.box 2 [.pc eX,.pc tI,.pc tI,.pc tI,.pc tI],.box 3 [.pc ec,.pc ec,.pc ec,.pc ec],.box 17 [.pc eX,.pc tI,.pc tI,.pc tI,.pc tI,.pc ec]]
abbrev zm:List aL:=[.slot 14 (.pc tI),.slot 15 (.pc tI),.slot 84 (.pc tI)]
abbrev ahz:List aL:=Om ++ zm
def as7:ZJ Om zm ahz:=ZA _ _
def akF:ZS Om zm ahz:=ZP _ _
abbrev akG:aO:=⟨[(6,[.slot 2 (.ptr 2),.box 2 [.pc eX,.pc tI,.pc tI,.pc tI,.pc tI],.slot 14 (.pc tI),.slot 15 (.pc tI)])],[.slot 4 (.pc .bool),.slot 5 (.pc tI)],[]⟩
abbrev IS:aO:=⟨[(6,[.slot 14 (.pc tI),.slot 15 (.pc tI)])],[.slot 4 (.pc .bool),.slot 5 (.pc tI)],[]⟩
def akH:ZE Om IS akG:=fun id=>match id with | 6=>fun c y=>(c.1,(c.2.2.2.2.1,y)) | _=>jm
def ahA {α:Type} (l:RQ zm IS->α) (an:α->α->α) (c:ZD Om) (v:ZD zm):α:=bif (decide (v.2.2.1 < c.2.2.2.1)) then bif (decide (((0:Int)<=v.2.2.1)/\(v.2.2.1 < ((c.2.2.2.2.2.1.1.n:Nat):Int)))) then aF (UB ((),((),((),(v.2.1,(v.2.2.1,(c.2.2.2.1,(v.2.2.1,((c.2.2.2.2.2.1.1.g (Int.toNat v.2.2.1)).1,((((c.2.2.2.2.2.1.1.g (Int.toNat v.2.2.1)).1.n:Nat):Int),(c.2.2.2.2.1,(c.2.2.2.2.2.1,(c.2.2.2.2.2.2.1,())))))))))))) (v.1,((0:Int),()))) 8 (fun Wf=>bif (decide (v.2.2.1=(0:Int))) then l (.next (Wf.1,(v.2.1,((W (v.2.2.1 + (1:Int))),())))) else bif (decide (((0:Int)<=(W (v.2.2.1 - (1:Int))))/\((W (v.2.2.1 - (1:Int))) < ((c.2.2.2.2.1.1.n:Nat):Int)))) then aF (UF ((),((),((),(Wf.1,(v.2.2.1,(c.2.2.2.1,(v.2.2.1,((((c.2.2.2.2.1.1.g (Int.toNat (W (v.2.2.1 - (1:Int))))).2.1.n:Nat):Int),(c.2.2.2.2.1,(c.2.2.2.2.2.1,(c.2.2.2.2.2.2.1,()))))))))))) (v.2.1,((0:Int),()))) 14 (fun VP=>l (.next (Wf.1,(VP.1,((W (v.2.2.1 + (1:Int))),()))))) (l .bad) else l .bad) (bS (UB ((),((),((),(v.2.1,(v.2.2.1,(c.2.2.2.1,(v.2.2.1,((c.2.2.2.2.2.1.1.g (Int.toNat v.2.2.1)).1,((((c.2.2.2.2.2.1.1.g (Int.toNat v.2.2.1)).1.n:Nat):Int),(c.2.2.2.2.1,(c.2.2.2.2.2.1,(c.2.2.2.2.2.2.1,())))))))))))) (v.1,((0:Int),()))) (fun UO=>l (.out (.ret UO))) (l .bad)) else l .bad else l (.out (.exit 6 (v.1,(v.2.1,()))))
theorem aIR:ZO G52 0 242 acD [.known (bF 0 [] Oj fun x=>aJ Kb Uz ZI ZI [] true (Gf x).1 (UB (Gf x).1 (Gf x).2) Kb.bw),.known (bF 0 [] Ol fun x=>aJ Kc UC ZI ZI [] false (Gg x).1 (UF (Gg x).1 (Gg x).2) Kc.bw)] as7 akH ZI ZI ahA:=fun _ _=>by kernel_rfl
def acE (c:ZD Om) (v:ZD zm):RQ zm IS:=ahA (fun r=>r) (fun _ _=>.bad) c v
theorem aIS:SO G52 0 242 acD [.known (bF 0 [] Oj fun x=>aJ Kb Uz ZI ZI [] true (Gf x).1 (UB (Gf x).1 (Gf x).2) Kb.bw),.known (bF 0 [] Ol fun x=>aJ Kc UC ZI ZI [] false (Gg x).1 (UF (Gg x).1 (Gg x).2) Kc.bw)] as7 akH ZI ZI acE:=fun c v=>by rw [aIR]; unfold acE ahA; simp only [bu,aM,pM]
def anp (c:ZD Om) (v:ZD zm):LQ IS:=aH (acE c) cz v
theorem aSw:af (c52)=[.loop ano,.loop ahu,.loop acD]:=by kernel_rfl
noncomputable def l52:List Loop:=[lk 0 akz ZI ZI true akx aht,lk 0 akC ZI ZI true akA ahy,lk 0 akH ZI ZI true akF anp]
def Q52 {α:Type} (l:Option (r52).den->α) (an:α->α->α) (x:(a52).den):α:=cl (Wa).dflt (WW (x.1,())) (fun u20=>bif (!u20.1) then l (some (false,((2:Int),()))) else aF (aht ((),((),(x.2.1,(x.1,(x.2.1,()))))) ((0:Int),())) 0 (fun u21=>aF (ahy ((),((),(x.2.1.1,(((x.2.1.1.n:Nat):Int),(x.1,(x.2.1,())))))) ((0:Int),())) 2 (fun u22=>aF (anp ((),((),((),(((x.1.1.n:Nat):Int),(x.1,(x.2.1,((x.1.1,(x.1.2.1,(x.1.2.2.1,(x.1.2.2.2.1,(x.1.2.2.2.2.1,(x.2.1.1,())))))),()))))))) ((0:Int),((0:Int),((0:Int),())))) 6 (fun Dh=>bif (decide (Dh.1<=x.1.2.2.2.1)) then l (some ((decide (Dh.2.1<=x.1.2.2.2.2.1)),((0:Int),()))) else l (some (false,((0:Int),())))) (bS (anp ((),((),((),(((x.1.1.n:Nat):Int),(x.1,(x.2.1,((x.1.1,(x.1.2.1,(x.1.2.2.1,(x.1.2.2.2.1,(x.1.2.2.2.2.1,(x.2.1.1,())))))),()))))))) ((0:Int),((0:Int),((0:Int),())))) (fun Xd=>l (some Xd)) (l none))) (bS (ahy ((),((),(x.2.1.1,(((x.2.1.1.n:Nat):Int),(x.1,(x.2.1,())))))) ((0:Int),())) (fun WL=>l (some WL)) (l none))) (bS (aht ((),((),(x.2.1,(x.1,(x.2.1,()))))) ((0:Int),())) (fun Xo=>l (some Xo)) (l none))) (l none)
theorem q52:QO G52 Try.f52 l52 a52 r52 Q52:=fun _=>by kernel_rfl
def M52 (x:(a52).den):Option (r52).den:=Q52 (fun r=>r) (fun _ _=>none) x
theorem m52:MO G52 Try.f52 l52 M52:=fun x=>by rw [q52]; unfold M52 Q52; simp only [Tree.sure,iO]
def p52:=pO M52
def v52:=vO (τ:=r52) M52
def k52:ee:=⟨a52,r52,p52,v52⟩
theorem h52:Holds Try.prog 52 k52:=hO aGp g52 m52 fun G' hlo hF hE=>ai (by rw [aSw]; exact .cons (lv hE hF hlo (ln aDA) akx aIO) (.cons (lv hE hF hlo (ai (by rw [aDB]; exact .cons (lv hE hF hlo (ln as3) Ga ayL) (.nil))) akA aIQ) (.cons (lv hE hF hlo (ai (by rw [aDC]; exact .cons (lv hE hF hlo (ai (by rw [as5]; exact .cons (lv hE hF hlo (ln akD) xu aoI) (.cons (lv hE hF hlo (ln akE) xw aoK) (.nil)))) Gf ayN) (.cons (lv hE hF hlo (ln as6) Gg ayP) (.nil)))) akF aIS) (.nil))))
noncomputable def c53:=zo Try.f53
theorem aVV:zq 53 Try.f53 c53:=zu
abbrev aIn:Ty:=(.cons tI T20)
abbrev a53:Ty:=aIn
abbrev r53:Ty:=T3
noncomputable def G53:Ctx:=Ctx.of []
theorem g53:SP G53:=aD f0
def Q53 {α:Type} (l:Option (r53).den->α) (an:α->α->α) (x:(a53).den):α:=bif (decide (x.2.1.1<=x.1)) then l (some ((decide (x.1<=x.2.1.2.1)),())) else l (some (false,()))
theorem q53:QO G53 Try.f53 [] a53 r53 Q53:=fun _=>by kernel_rfl
def M53 (x:(a53).den):Option (r53).den:=Q53 (fun r=>r) (fun _ _=>none) x
theorem m53:MO G53 Try.f53 [] M53:=fun x=>by rw [q53]; unfold M53 Q53; simp only [Tree.sure,iO]
def p53:=pO M53
def v53:=vO (τ:=r53) M53
def k53:ee:=⟨a53,r53,p53,v53⟩
theorem h53:Holds Try.prog 53 k53:=hO aVV g53 m53 l0
noncomputable def c17:=zo Try.f17
theorem acz:zq 17 Try.f17 c17:=zu
abbrev a17:Ty:=.nil
abbrev nQ:Ty:=T3
noncomputable def G17:Ctx:=Ctx.of [(18,.pure k18),(19,.pure k19),(20,.pure k20),(23,.pure k23),(28,.pure k28),(36,.pure k36),(39,.pure k39),(40,.pure k40),(41,.pure k41),(43,.pure k43),(44,.pure k44),(48,.pure k48),(62,.pure k62)]
theorem g17:SP G17:=aD (fa ⟨⟨alY.c,h18⟩,fa ⟨⟨al3.c,h19⟩,fa ⟨⟨aoA.c,h20⟩,fa ⟨⟨apm.c,h23⟩,fa ⟨⟨ajW.c,h28⟩,fa ⟨⟨apo.c,h36⟩,fa ⟨⟨apr.c,h39⟩,fa ⟨⟨apq.c,h40⟩,fa ⟨⟨aue.c,h41⟩,fa ⟨⟨ar6.c,h43⟩,fa ⟨⟨aiD.c,h44⟩,fa ⟨⟨agY.c,h48⟩,fa ⟨⟨aui.c,h62⟩,f0⟩⟩⟩⟩⟩⟩⟩⟩⟩⟩⟩⟩⟩)
theorem ayv:af (c17)=[]:=by kernel_rfl
noncomputable def l17:List Loop:=[]
def Q17 {α:Type} (l:Option (nQ).den->α) (an:α->α->α) (x:(a17).den):α:=cl (vN).dflt (OM ()) (fun u0=>cl (MF).dflt (XV (u0.1,((1:Int),()))) (fun u1=>cl (vN).dflt (OM ()) (fun u2=>cl (OK).dflt (M19 (u0.1,())) (fun u3=>cl (vN).dflt (OM ()) (fun u4=>cl (Pz).dflt (M20 (u0.1,())) (fun u5=>cl (vN).dflt (OM ()) (fun u6=>cl (Re).dflt (M39 (u0.1,((0:Int),((0:Int),())))) (fun u7=>cl (vN).dflt (OM ()) (fun u8=>cl (PE).dflt (M36 (u0.1,((1:Int),((0:Int),())))) (fun u9=>cl (vN).dflt (OM ()) (fun vD=>cl (Rc).dflt (M43 (u0.1,((0:Int),((3:Int),())))) (fun lM=>cl (vN).dflt (OM ()) (fun MA=>cl (Rb).dflt (M40 (u0.1,())) (fun Df=>cl (vN).dflt (OM ()) (fun PX=>cl (OB).dflt (VO (u0.1,())) (fun PB=>bif (!(decide (u1.2.1=(0:Int)))) then l (some (false,())) else bif (!(decide (u3.2.1=(0:Int)))) then l (some (false,())) else bif (!(decide (u5.2.1=(0:Int)))) then l (some (false,())) else bif (!(decide (u7.2.1=(0:Int)))) then l (some (false,())) else bif (!(decide (u9.2.1=(0:Int)))) then l (some (false,())) else bif (!(decide (lM.2.1=(0:Int)))) then l (some (false,())) else bif (!(decide (Df.2.2.1=(0:Int)))) then l (some (false,())) else bif (!(decide (PB.2.1=(0:Int)))) then l (some (false,())) else cl (IN).dflt (VN (u1.1,((⟨2,fun i=>List.getD [((⟨2,fun i=>List.getD [((3:Int),()),((1:Int),())] i ((3:Int),())⟩:Sl _),()),((⟨2,fun i=>List.getD [((1:Int),()),((3:Int),())] i ((1:Int),())⟩:Sl _),())] i ((⟨2,fun i=>List.getD [((3:Int),()),((1:Int),())] i ((3:Int),())⟩:Sl _),())⟩:Sl _),()))) (fun u16=>bif (!u16.1) then l (some (false,())) else cl (IN).dflt (VN (u3.1,((⟨2,fun i=>List.getD [((⟨2,fun i=>List.getD [((1:Int),()),((1:Int),())] i ((1:Int),())⟩:Sl _),()),((⟨1,fun i=>List.getD [((1:Int),())] i ((1:Int),())⟩:Sl _),())] i ((⟨2,fun i=>List.getD [((1:Int),()),((1:Int),())] i ((1:Int),())⟩:Sl _),())⟩:Sl _),()))) (fun Wf=>bif (!Wf.1) then l (some (false,())) else cl (IN).dflt (VN (u5.1,((⟨2,fun i=>List.getD [((⟨2,fun i=>List.getD [((1:Int),()),((1:Int),())] i ((1:Int),())⟩:Sl _),()),((⟨2,fun i=>List.getD [((2:Int),()),((2:Int),())] i ((2:Int),())⟩:Sl _),())] i ((⟨2,fun i=>List.getD [((1:Int),()),((1:Int),())] i ((1:Int),())⟩:Sl _),())⟩:Sl _),()))) (fun VP=>bif (!VP.1) then l (some (false,())) else cl (MI).dflt (M41 (u7.1,((⟨2,fun i=>List.getD [((⟨2,fun i=>List.getD [((0:Int),()),((0:Int),())] i ((0:Int),())⟩:Sl _),()),((⟨3,fun i=>List.getD [((0:Int),()),((0:Int),()),((0:Int),())] i ((0:Int),())⟩:Sl _),())] i ((⟨2,fun i=>List.getD [((0:Int),()),((0:Int),())] i ((0:Int),())⟩:Sl _),())⟩:Sl _),()))) (fun UO=>bif (!UO.1) then l (some (false,())) else cl (oM).dflt (vA ((20:Int),((21:Int),()))) (fun u20=>cl (oM).dflt (vA ((50:Int),((52:Int),()))) (fun u21=>cl (oM).dflt (vA ((74100:Int),((74300:Int),()))) (fun u22=>cl (Es).dflt (PU (u20.1,(u21.1,(u22.1,())))) (fun Dh=>bif ((decide (u9.1.1=Dh.1.1)) && ((decide (u9.1.2.1=Dh.1.2.1)) && ((decide (u9.1.2.2.1=Dh.1.2.2.1)) && ((decide (u9.1.2.2.2.1=Dh.1.2.2.2.1)) && ((decide (u9.1.2.2.2.2.1=Dh.1.2.2.2.2.1)) && ((decide (u9.1.2.2.2.2.2.1=Dh.1.2.2.2.2.2.1)) && true)))))) then cl (oM).dflt (vA ((25:Int),((39:Int),()))) (fun Xd=>cl (oM).dflt (vA ((46:Int),((59:Int),()))) (fun WL=>cl (oM).dflt (vA ((74050:Int),((75050:Int),()))) (fun Xo=>cl (Es).dflt (PU (Xd.1,(WL.1,(Xo.1,())))) (fun Gp=>bif ((decide (lM.1.1=Gp.1.1)) && ((decide (lM.1.2.1=Gp.1.2.1)) && ((decide (lM.1.2.2.1=Gp.1.2.2.1)) && ((decide (lM.1.2.2.2.1=Gp.1.2.2.2.1)) && ((decide (lM.1.2.2.2.2.1=Gp.1.2.2.2.2.1)) && ((decide (lM.1.2.2.2.2.2.1=Gp.1.2.2.2.2.2.1)) && true)))))) then bif (decide (Df.1=(2:Int))) then cl (MI).dflt (M41 (Df.2.1,((⟨3,fun i=>List.getD [((⟨2,fun i=>List.getD [((-1:Int),()),((-1:Int),())] i ((-1:Int),())⟩:Sl _),()),((⟨2,fun i=>List.getD [((0:Int),()),((1:Int),())] i ((0:Int),())⟩:Sl _),()),((⟨1,fun i=>List.getD [((0:Int),())] i ((0:Int),())⟩:Sl _),())] i ((⟨2,fun i=>List.getD [((-1:Int),()),((-1:Int),())] i ((-1:Int),())⟩:Sl _),())⟩:Sl _),()))) (fun u28=>bif u28.1 then l (some ((decide (PB.1=(2:Int))),())) else l (some (false,()))) (l none) else l (some (false,())) else l (some (false,()))) (l none)) (l none)) (l none)) (l none) else l (some (false,()))) (l none)) (l none)) (l none)) (l none)) (l none)) (l none)) (l none)) (l none)) (l none)) (l none)) (l none)) (l none)) (l none)) (l none)) (l none)) (l none)) (l none)) (l none)) (l none)) (l none)) (l none)) (l none)) (l none)) (l none)
def ayy (m18:(Tq).den->Option (MF).den) (m19:(Tu).den->Option (OK).den) (m20:(a20).den->Option (Pz).den) (m23:(Tv).den->Option (IN).den) (m28:(a28).den->Option (OB).den) (m36:(TD).den->Option (PE).den) (m39:(a39).den->Option (Re).den) (m40:(a40).den->Option (Rb).den) (m41:(a41).den->Option (MI).den) (m43:(TR).den->Option (Rc).den) (m44:(a44).den->Option (Es).den) (Ug:(PA).den->Option (oM).den) (ON:(Uh).den->Option (vN).den) {α:Type} (l:Option (nQ).den->α) (an:α->α->α) (x:(a17).den):α:=cl (vN).dflt (ON ()) (fun u0=>cl (MF).dflt (m18 (u0.1,((1:Int),()))) (fun u1=>cl (vN).dflt (ON ()) (fun u2=>cl (OK).dflt (m19 (u0.1,())) (fun u3=>cl (vN).dflt (ON ()) (fun u4=>cl (Pz).dflt (m20 (u0.1,())) (fun u5=>cl (vN).dflt (ON ()) (fun u6=>cl (Re).dflt (m39 (u0.1,((0:Int),((0:Int),())))) (fun u7=>cl (vN).dflt (ON ()) (fun u8=>cl (PE).dflt (m36 (u0.1,((1:Int),((0:Int),())))) (fun u9=>cl (vN).dflt (ON ()) (fun vD=>cl (Rc).dflt (m43 (u0.1,((0:Int),((3:Int),())))) (fun lM=>cl (vN).dflt (ON ()) (fun MA=>cl (Rb).dflt (m40 (u0.1,())) (fun Df=>cl (vN).dflt (ON ()) (fun PX=>cl (OB).dflt (m28 (u0.1,())) (fun PB=>bif (!(decide (u1.2.1=(0:Int)))) then l (some (false,())) else bif (!(decide (u3.2.1=(0:Int)))) then l (some (false,())) else bif (!(decide (u5.2.1=(0:Int)))) then l (some (false,())) else bif (!(decide (u7.2.1=(0:Int)))) then l (some (false,())) else bif (!(decide (u9.2.1=(0:Int)))) then l (some (false,())) else bif (!(decide (lM.2.1=(0:Int)))) then l (some (false,())) else bif (!(decide (Df.2.2.1=(0:Int)))) then l (some (false,())) else bif (!(decide (PB.2.1=(0:Int)))) then l (some (false,())) else cl (IN).dflt (m23 (u1.1,((⟨2,fun i=>List.getD [((⟨2,fun i=>List.getD [((3:Int),()),((1:Int),())] i ((3:Int),())⟩:Sl _),()),((⟨2,fun i=>List.getD [((1:Int),()),((3:Int),())] i ((1:Int),())⟩:Sl _),())] i ((⟨2,fun i=>List.getD [((3:Int),()),((1:Int),())] i ((3:Int),())⟩:Sl _),())⟩:Sl _),()))) (fun u16=>bif (!u16.1) then l (some (false,())) else cl (IN).dflt (m23 (u3.1,((⟨2,fun i=>List.getD [((⟨2,fun i=>List.getD [((1:Int),()),((1:Int),())] i ((1:Int),())⟩:Sl _),()),((⟨1,fun i=>List.getD [((1:Int),())] i ((1:Int),())⟩:Sl _),())] i ((⟨2,fun i=>List.getD [((1:Int),()),((1:Int),())] i ((1:Int),())⟩:Sl _),())⟩:Sl _),()))) (fun Wf=>bif (!Wf.1) then l (some (false,())) else cl (IN).dflt (m23 (u5.1,((⟨2,fun i=>List.getD [((⟨2,fun i=>List.getD [((1:Int),()),((1:Int),())] i ((1:Int),())⟩:Sl _),()),((⟨2,fun i=>List.getD [((2:Int),()),((2:Int),())] i ((2:Int),())⟩:Sl _),())] i ((⟨2,fun i=>List.getD [((1:Int),()),((1:Int),())] i ((1:Int),())⟩:Sl _),())⟩:Sl _),()))) (fun VP=>bif (!VP.1) then l (some (false,())) else cl (MI).dflt (m41 (u7.1,((⟨2,fun i=>List.getD [((⟨2,fun i=>List.getD [((0:Int),()),((0:Int),())] i ((0:Int),())⟩:Sl _),()),((⟨3,fun i=>List.getD [((0:Int),()),((0:Int),()),((0:Int),())] i ((0:Int),())⟩:Sl _),())] i ((⟨2,fun i=>List.getD [((0:Int),()),((0:Int),())] i ((0:Int),())⟩:Sl _),())⟩:Sl _),()))) (fun UO=>bif (!UO.1) then l (some (false,())) else cl (oM).dflt (Ug ((20:Int),((21:Int),()))) (fun u20=>cl (oM).dflt (Ug ((50:Int),((52:Int),()))) (fun u21=>cl (oM).dflt (Ug ((74100:Int),((74300:Int),()))) (fun u22=>cl (Es).dflt (m44 (u20.1,(u21.1,(u22.1,())))) (fun Dh=>bif ((decide (u9.1.1=Dh.1.1)) && ((decide (u9.1.2.1=Dh.1.2.1)) && ((decide (u9.1.2.2.1=Dh.1.2.2.1)) && ((decide (u9.1.2.2.2.1=Dh.1.2.2.2.1)) && ((decide (u9.1.2.2.2.2.1=Dh.1.2.2.2.2.1)) && ((decide (u9.1.2.2.2.2.2.1=Dh.1.2.2.2.2.2.1)) && true)))))) then cl (oM).dflt (Ug ((25:Int),((39:Int),()))) (fun Xd=>cl (oM).dflt (Ug ((46:Int),((59:Int),()))) (fun WL=>cl (oM).dflt (Ug ((74050:Int),((75050:Int),()))) (fun Xo=>cl (Es).dflt (m44 (Xd.1,(WL.1,(Xo.1,())))) (fun Gp=>bif ((decide (lM.1.1=Gp.1.1)) && ((decide (lM.1.2.1=Gp.1.2.1)) && ((decide (lM.1.2.2.1=Gp.1.2.2.1)) && ((decide (lM.1.2.2.2.1=Gp.1.2.2.2.1)) && ((decide (lM.1.2.2.2.2.1=Gp.1.2.2.2.2.1)) && ((decide (lM.1.2.2.2.2.2.1=Gp.1.2.2.2.2.2.1)) && true)))))) then bif (decide (Df.1=(2:Int))) then cl (MI).dflt (m41 (Df.2.1,((⟨3,fun i=>List.getD [((⟨2,fun i=>List.getD [((-1:Int),()),((-1:Int),())] i ((-1:Int),())⟩:Sl _),()),((⟨2,fun i=>List.getD [((0:Int),()),((1:Int),())] i ((0:Int),())⟩:Sl _),()),((⟨1,fun i=>List.getD [((0:Int),())] i ((0:Int),())⟩:Sl _),())] i ((⟨2,fun i=>List.getD [((-1:Int),()),((-1:Int),())] i ((-1:Int),())⟩:Sl _),())⟩:Sl _),()))) (fun u28=>bif u28.1 then l (some ((decide (PB.1=(2:Int))),())) else l (some (false,()))) (l none) else l (some (false,())) else l (some (false,()))) (l none)) (l none)) (l none)) (l none) else l (some (false,()))) (l none)) (l none)) (l none)) (l none)) (l none)) (l none)) (l none)) (l none)) (l none)) (l none)) (l none)) (l none)) (l none)) (l none)) (l none)) (l none)) (l none)) (l none)) (l none)) (l none)) (l none)) (l none)) (l none)) (l none)
theorem ayz (m18:(Tq).den->Option (MF).den) (m19:(Tu).den->Option (OK).den) (m20:(a20).den->Option (Pz).den) (m23:(Tv).den->Option (IN).den) (m28:(a28).den->Option (OB).den) (m36:(TD).den->Option (PE).den) (m39:(a39).den->Option (Re).den) (m40:(a40).den->Option (Rb).den) (m41:(a41).den->Option (MI).den) (m43:(TR).den->Option (Rc).den) (m44:(a44).den->Option (Es).den) (Ug:(PA).den->Option (oM).den) (ON:(Uh).den->Option (vN).den) (x:(a17).den):aI Try.prog E0 (Ctx.of [(18,.pure (gU (τa:=Tq) (τr:=MF) m18)),(19,.pure (gU (τa:=Tu) (τr:=OK) m19)),(20,.pure (gU (τa:=a20) (τr:=Pz) m20)),(23,.pure (gU (τa:=Tv) (τr:=IN) m23)),(28,.pure (gU (τa:=a28) (τr:=OB) m28)),(36,.pure (gU (τa:=TD) (τr:=PE) m36)),(39,.pure (gU (τa:=a39) (τr:=Re) m39)),(40,.pure (gU (τa:=a40) (τr:=Rb) m40)),(41,.pure (gU (τa:=a41) (τr:=MI) m41)),(43,.pure (gU (τa:=TR) (τr:=Rc) m43)),(44,.pure (gU (τa:=a44) (τr:=Es) m44)),(48,.pure (gU (τa:=PA) (τr:=oM) Ug)),(62,.pure (gU (τa:=Uh) (τr:=vN) ON))]) Try.f17 l17 a17 nQ x=ayy m18 m19 m20 m23 m28 m36 m39 m40 m41 m43 m44 Ug ON .leaf .any x:=by kernel_rfl
theorem q17 (x:(a17).den):aI Try.prog E0 G17 Try.f17 l17 a17 nQ x=Q17 .leaf .any x:=ayz XV M19 M20 VN VO M36 M39 M40 M41 M43 PU vA OM x
def qf (x:(a17).den):Option (nQ).den:=Q17 (fun r=>r) (fun _ _=>none) x
theorem m17 (x:(a17).den):(aI Try.prog E0 G17 Try.f17 l17 a17 nQ x).sure=qf x:=by rw [q17]; unfold qf Q17; simp only [Tree.sure,iO]
def p17 (x:(a17).den):Bool:=(qf x).isSome
def v17 (x:(a17).den):(nQ).den:=(qf x).getD (nQ).dflt
def k17:ee:=⟨a17,nQ,p17,v17⟩
theorem h17:Holds Try.prog 17 k17:=aC (E:=E0) aA g17 aB au acz.a acz.b (by kernel_rfl) m17 fun G' hlo hF hE=>ai (by rw [ayv]; exact .nil)
abbrev ayA:Ty:=(.cons tI T6)
abbrev aIo:Ty:=(.cons PV ayA)
noncomputable def c12:=zo Try.f12
theorem baa:zq 12 Try.f12 c12:=zu
abbrev ayB:Ty:=(.cons anf T5)
abbrev aIp:Ty:=(.cons PV ayB)
abbrev a12:Ty:=aIp
abbrev r12:Ty:=T3
noncomputable def G12:Ctx:=Ctx.of [(16,.pure k16),(17,.pure k17),(21,.pure k21),(35,.pure k35),(37,.pure k37),(43,.pure k43),(50,.pure k50),(51,.pure k51),(52,.pure k52),(53,.pure k53)]
theorem g12:SP G12:=aD (fa ⟨⟨aeP.c,h16⟩,fa ⟨⟨acz.c,h17⟩,fa ⟨⟨aeR.c,h21⟩,fa ⟨⟨aPa.c,h35⟩,fa ⟨⟨aVN.c,h37⟩,fa ⟨⟨ar6.c,h43⟩,fa ⟨⟨aGm.c,h50⟩,fa ⟨⟨aGo.c,h51⟩,fa ⟨⟨aGp.c,h52⟩,fa ⟨⟨aVV.c,h53⟩,f0⟩⟩⟩⟩⟩⟩⟩⟩⟩⟩)
def Q12 {α:Type} (l:Option (r12).den->α) (an:α->α->α) (x:(a12).den):α:=cl (WZ).dflt (Yz (x.1,())) (fun u0=>bif (!u0.1) then cl (nQ).dflt (qf ()) (fun u1=>l (some u1)) (l none) else cl (r50).dflt (M50 (x.2.1,())) (fun u2=>bif (!u2.1) then cl (nQ).dflt (qf ()) (fun u3=>l (some u3)) (l none) else cl (Rf).dflt (Sj (x.1,())) (fun u4=>bif (!u4.1) then cl (nQ).dflt (qf ()) (fun u5=>l (some u5)) (l none) else cl (r51).dflt (M51 (x.1,(x.2.1,()))) (fun u6=>bif (!u6.1) then cl (nQ).dflt (qf ()) (fun u7=>l (some u7)) (l none) else cl (r35).dflt (M35 (x.1,((W (((x.1.1.n:Nat):Int) - (1:Int))),(x.2.2.1,())))) (fun u8=>bif (!u8.1) then cl (nQ).dflt (qf ()) (fun u9=>l (some u9)) (l none) else cl (r37).dflt (M37 (x.2.2.2.1,())) (fun vD=>bif (!vD.1) then cl (nQ).dflt (qf ()) (fun lM=>l (some lM)) (l none) else cl (r52).dflt (M52 (x.1,(x.2.1,()))) (fun MA=>bif (!(decide (MA.2.1=(0:Int)))) then l (some (false,())) else bif (!MA.1) then cl (nQ).dflt (qf ()) (fun Df=>l (some Df)) (l none) else bif (decide (x.2.2.2.2.1 < (W ((0:Int) - (W (x.1.2.1 * x.2.2.2.1)))))) then cl (nQ).dflt (qf ()) (fun PX=>l (some PX)) (l none) else bif (decide ((W (x.1.2.1 * x.2.2.2.1)) < x.2.2.2.2.1)) then cl (nQ).dflt (qf ()) (fun PB=>l (some PB)) (l none) else bif (decide (x.2.2.2.2.2.1 < (W ((0:Int) - (W (x.1.2.1 * x.2.2.2.1)))))) then cl (nQ).dflt (qf ()) (fun u16=>l (some u16)) (l none) else bif (decide ((W (x.1.2.1 * x.2.2.2.1)) < x.2.2.2.2.2.1)) then cl (nQ).dflt (qf ()) (fun Wf=>l (some Wf)) (l none) else bif (decide (x.2.2.2.2.2.2.1 < (W ((0:Int) - (W (x.1.2.2.1 * x.2.2.2.1)))))) then cl (nQ).dflt (qf ()) (fun VP=>l (some VP)) (l none) else bif (decide ((W (x.1.2.2.1 * x.2.2.2.1)) < x.2.2.2.2.2.2.1)) then cl (nQ).dflt (qf ()) (fun UO=>l (some UO)) (l none) else cl (Rc).dflt (M43 (x.1,(x.2.2.1,(x.2.2.2.1,())))) (fun u20=>bif (!(decide (u20.2.1=(0:Int)))) then l (some (false,())) else bif (decide (((0:Int)<=(W (((x.1.1.n:Nat):Int) - (1:Int))))/\((W (((x.1.1.n:Nat):Int) - (1:Int))) < ((x.2.1.2.1.n:Nat):Int)))) then bif (decide (((0:Int)<=x.2.2.1)/\(x.2.2.1 < (((x.2.1.2.1.g (Int.toNat (W (((x.1.1.n:Nat):Int) - (1:Int))))).1.n:Nat):Int)))) then bif (decide (((0:Int)<=(W (((x.1.1.n:Nat):Int) - (1:Int))))/\((W (((x.1.1.n:Nat):Int) - (1:Int))) < ((x.2.1.2.2.1.n:Nat):Int)))) then bif (decide (((0:Int)<=x.2.2.1)/\(x.2.2.1 < (((x.2.1.2.2.1.g (Int.toNat (W (((x.1.1.n:Nat):Int) - (1:Int))))).1.n:Nat):Int)))) then bif (decide (((0:Int)<=(W (((x.1.1.n:Nat):Int) - (1:Int))))/\((W (((x.1.1.n:Nat):Int) - (1:Int))) < ((x.2.1.2.2.2.1.n:Nat):Int)))) then bif (decide (((0:Int)<=x.2.2.1)/\(x.2.2.1 < (((x.2.1.2.2.2.1.g (Int.toNat (W (((x.1.1.n:Nat):Int) - (1:Int))))).1.n:Nat):Int)))) then bif (decide ((W (((x.2.1.2.1.g (Int.toNat (W (((x.1.1.n:Nat):Int) - (1:Int))))).1.g (Int.toNat x.2.2.1)).1 + x.2.2.2.2.1)) < (0:Int))) then cl (nQ).dflt (qf ()) (fun u21=>l (some u21)) (l none) else bif (decide ((100:Int) < (W (((x.2.1.2.1.g (Int.toNat (W (((x.1.1.n:Nat):Int) - (1:Int))))).1.g (Int.toNat x.2.2.1)).1 + x.2.2.2.2.1)))) then cl (nQ).dflt (qf ()) (fun u22=>l (some u22)) (l none) else bif (decide ((W (((x.2.1.2.2.1.g (Int.toNat (W (((x.1.1.n:Nat):Int) - (1:Int))))).1.g (Int.toNat x.2.2.1)).1 + x.2.2.2.2.2.1)) < (0:Int))) then cl (nQ).dflt (qf ()) (fun Dh=>l (some Dh)) (l none) else bif (decide ((100:Int) < (W (((x.2.1.2.2.1.g (Int.toNat (W (((x.1.1.n:Nat):Int) - (1:Int))))).1.g (Int.toNat x.2.2.1)).1 + x.2.2.2.2.2.1)))) then cl (nQ).dflt (qf ()) (fun Xd=>l (some Xd)) (l none) else bif (decide ((W (((x.2.1.2.2.2.1.g (Int.toNat (W (((x.1.1.n:Nat):Int) - (1:Int))))).1.g (Int.toNat x.2.2.1)).1 + x.2.2.2.2.2.2.1)) < (0:Int))) then cl (nQ).dflt (qf ()) (fun WL=>l (some WL)) (l none) else bif (decide ((99999:Int) < (W (((x.2.1.2.2.2.1.g (Int.toNat (W (((x.1.1.n:Nat):Int) - (1:Int))))).1.g (Int.toNat x.2.2.1)).1 + x.2.2.2.2.2.2.1)))) then cl (nQ).dflt (qf ()) (fun Xo=>l (some Xo)) (l none) else cl (r53).dflt (M53 ((W (((x.2.1.2.1.g (Int.toNat (W (((x.1.1.n:Nat):Int) - (1:Int))))).1.g (Int.toNat x.2.2.1)).1 + x.2.2.2.2.1)),((u20.1.1,(u20.1.2.1,())),()))) (fun Gp=>bif Gp.1 then cl (r53).dflt (M53 ((W (((x.2.1.2.2.1.g (Int.toNat (W (((x.1.1.n:Nat):Int) - (1:Int))))).1.g (Int.toNat x.2.2.1)).1 + x.2.2.2.2.2.1)),((u20.1.2.2.1,(u20.1.2.2.2.1,())),()))) (fun u28=>bif u28.1 then cl (r53).dflt (M53 ((W (((x.2.1.2.2.2.1.g (Int.toNat (W (((x.1.1.n:Nat):Int) - (1:Int))))).1.g (Int.toNat x.2.2.1)).1 + x.2.2.2.2.2.2.1)),(u20.1.2.2.2.2,()))) (fun u29=>bif u29.1 then cl (nQ).dflt (qf ()) (fun u30=>l (some u30)) (l none) else l (some (false,()))) (l none) else l (some (false,()))) (l none) else l (some (false,()))) (l none) else l none else l none else l none else l none else l none else l none) (l none)) (l none)) (l none)) (l none)) (l none)) (l none)) (l none)) (l none)
theorem q12:QO G12 Try.f12 [] a12 r12 Q12:=fun _=>by kernel_rfl
def M12 (x:(a12).den):Option (r12).den:=Q12 (fun r=>r) (fun _ _=>none) x
theorem m12:MO G12 Try.f12 [] M12:=fun x=>by rw [q12]; unfold M12 Q12; simp only [Tree.sure,iO]
def p12:=pO M12
def v12:=vO (τ:=r12) M12
def k12:ee:=⟨a12,r12,p12,v12⟩
theorem h12:Holds Try.prog 12 k12:=hO baa g12 m12 l0
end Go.Dm

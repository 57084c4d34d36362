/-
 Each function of the program as a Lean function,and that its calls come to what that says.
-/
import Derived.Test.YtadkaccpacpklaaL6GA
set_option linter.unusedVariables false
set_option linter.unusedSimpArgs false
namespace Go.Dm
open Go.RowKit Go.Proofs
set_option maxRecDepth 100000
noncomputable def c21:=zo Try.f21
theorem aeR:zq 21 Try.f21 c21:=zu
abbrev a21:Ty:=Jd
abbrev Rf:Ty:=T3
noncomputable def G21:Ctx:=Ctx.of [(68,.pure k68),(69,.pure k69)]
theorem g21:SP G21:=aD (fa ⟨⟨aiE.c,h68⟩,fa ⟨⟨auj.c,h69⟩,f0⟩⟩)
noncomputable def HQ:Code:=aG ((af (c21))[0]?)
noncomputable def xR:Code:=aG ((af (HQ))[0]?)
theorem Ui:af (xR)=[]:=by kernel_rfl
abbrev iM:List aL:=[.slot 1 (.ptr 1),.slot 3 (.pc tI),.slot 4 (.ptr 103),.box 1 [.pc eX,.pc tI,.pc tI,.pc tI,.pc tI],.box 103 [.pc tI,.pc (.sl T6)]]
abbrev eG:List aL:=[.slot 5 (.pc tI)]
abbrev nC:List aL:=iM ++ eG
def zM:ZJ iM eG nC:=ZA _ _
def kr:ZS iM eG nC:=ZP _ _
abbrev kS:aO:=⟨[(2,[.slot 1 (.ptr 1),.slot 3 (.pc tI),.box 1 [.pc eX,.pc tI,.pc tI,.pc tI,.pc tI]])],[.slot 2 (.pc .bool)],[]⟩
abbrev gL:aO:=⟨[(2,[])],[.slot 2 (.pc .bool)],[]⟩
def tP:ZE iM gL kS:=fun id=>match id with | 2=>fun c y=>(c.1,(c.2.1,(c.2.2.2.1,y))) | _=>jm
def tQ {α:Type} (l:RQ eG gL->α) (an:α->α->α) (c:ZD iM) (v:ZD eG):α:=bif (decide (v.1 < ((c.2.2.2.2.1.2.1.n:Nat):Int))) then bif (decide (((0:Int)<=v.1)/\(v.1 < ((c.2.2.2.2.1.2.1.n:Nat):Int)))) then cl (WK).dflt (M69 (((c.2.2.2.2.1.2.1.g (Int.toNat v.1)).1,((c.2.2.2.2.1.2.1.g (Int.toNat v.1)).2.1,())),((100:Int),()))) (fun u0=>bif (!u0.1) then l (.out (.ret (false,()))) else cl (WK).dflt (M69 (((c.2.2.2.2.1.2.1.g (Int.toNat v.1)).2.2.1,((c.2.2.2.2.1.2.1.g (Int.toNat v.1)).2.2.2.1,())),((100:Int),()))) (fun u1=>bif (!u1.1) then l (.out (.ret (false,()))) else cl (WK).dflt (M69 ((c.2.2.2.2.1.2.1.g (Int.toNat v.1)).2.2.2.2,((99999:Int),()))) (fun u2=>bif (!u2.1) then l (.out (.ret (false,()))) else l (.next ((W (v.1 + (1:Int))),()))) (l .bad)) (l .bad)) (l .bad) else l .bad else l (.out (.exit 2 ()))
theorem Yh:ZO G21 0 97 xR [] zM tP ZI ZI tQ:=fun _ _=>by kernel_rfl
def tR (c:ZD iM) (v:ZD eG):RQ eG gL:=tQ (fun r=>r) (fun _ _=>.bad) c v
theorem Yi:SO G21 0 97 xR [] zM tP ZI ZI tR:=fun c v=>by rw [Yh]; unfold tR tQ; simp only [bu,aM,pM]
def jf (c:ZD iM) (v:ZD eG):LQ gL:=aH (tR c) cz v
theorem aeT:af (HQ)=[.loop xR]:=by kernel_rfl
abbrev oC:List aL:=[.slot 1 (.ptr 1),.box 1 [.pc eX,.pc tI,.pc tI,.pc tI,.pc tI]]
abbrev fS:List aL:=[.slot 3 (.pc tI)]
abbrev BK:List aL:=oC ++ fS
def Pn:ZJ oC fS BK:=ZA _ _
def GR:ZS oC fS BK:=ZP _ _
abbrev CQ:aO:=⟨[(0,[.slot 1 (.ptr 1),.box 1 [.pc eX,.pc tI,.pc tI,.pc tI,.pc tI]])],[.slot 2 (.pc .bool)],[]⟩
abbrev jb:aO:=⟨[(0,[])],[.slot 2 (.pc .bool)],[]⟩
def LB:ZE oC jb CQ:=fun id=>match id with | 0=>fun c y=>(c.1,(c.2.1,y)) | _=>jm
def HR {α:Type} (l:RQ fS jb->α) (an:α->α->α) (c:ZD oC) (v:ZD fS):α:=bif (decide (v.1 < ((c.2.1.1.n:Nat):Int))) then bif (decide (((0:Int)<=v.1)/\(v.1 < ((c.2.1.1.n:Nat):Int)))) then cl (Kj).dflt (MC ((c.2.1.1.g (Int.toNat v.1)).1,((0:Int),((200:Int),())))) (fun u3=>bif (!u3.1) then l (.out (.ret (false,()))) else bif (decide ((0:Int) < v.1)) then bif (decide (((0:Int)<=(W (v.1 - (1:Int))))/\((W (v.1 - (1:Int))) < ((c.2.1.1.n:Nat):Int)))) then bif (decide ((c.2.1.1.g (Int.toNat v.1)).1<=(c.2.1.1.g (Int.toNat (W (v.1 - (1:Int))))).1)) then l (.out (.ret (false,()))) else bif (decide ((3:Int) < (((c.2.1.1.g (Int.toNat v.1)).2.1.n:Nat):Int))) then l (.out (.ret (false,()))) else aF (jf ((),(v.1,((),(c.2.1,((c.2.1.1.g (Int.toNat v.1)),()))))) ((0:Int),())) 2 (fun u4=>l (.next ((W (v.1 + (1:Int))),()))) (bS (jf ((),(v.1,((),(c.2.1,((c.2.1.1.g (Int.toNat v.1)),()))))) ((0:Int),())) (fun u5=>l (.out (.ret u5))) (l .bad)) else l .bad else bif (decide ((3:Int) < (((c.2.1.1.g (Int.toNat v.1)).2.1.n:Nat):Int))) then l (.out (.ret (false,()))) else aF (jf ((),(v.1,((),(c.2.1,((c.2.1.1.g (Int.toNat v.1)),()))))) ((0:Int),())) 2 (fun u6=>l (.next ((W (v.1 + (1:Int))),()))) (bS (jf ((),(v.1,((),(c.2.1,((c.2.1.1.g (Int.toNat v.1)),()))))) ((0:Int),())) (fun u7=>l (.out (.ret u7))) (l .bad))) (l .bad) else l .bad else l (.out (.exit 0 ()))
theorem am0:ZO G21 0 97 HQ [.known (bF 0 [] nC fun x=>aJ kS tP ZI ZI [] true (kr x).1 (jf (kr x).1 (kr x).2) kS.bw)] Pn LB ZI ZI HR:=fun _ _=>by kernel_rfl
def HS (c:ZD oC) (v:ZD fS):RQ fS jb:=HR (fun r=>r) (fun _ _=>.bad) c v
theorem am1:SO G21 0 97 HQ [.known (bF 0 [] nC fun x=>aJ kS tP ZI ZI [] true (kr x).1 (jf (kr x).1 (kr x).2) kS.bw)] Pn LB ZI ZI HS:=fun c v=>by rw [am0]; unfold HS HR; simp only [bu,aM,pM]
def HT (c:ZD oC) (v:ZD fS):LQ jb:=aH (HS c) cz v
theorem ayk:af (c21)=[.loop HQ]:=by kernel_rfl
noncomputable def l21:List Loop:=[lk 0 LB ZI ZI true GR HT]
def Q21 {α:Type} (l:Option (Rf).den->α) (an:α->α->α) (x:(a21).den):α:=aF (HT ((),(x.1,())) ((0:Int),())) 0 (fun u8=>cl (Kj).dflt (MC (((x.1.1.n:Nat):Int),((1:Int),((4:Int),())))) (fun u9=>bif u9.1 then cl (Kj).dflt (MC (x.1.2.1,((0:Int),((50:Int),())))) (fun vD=>bif vD.1 then cl (Kj).dflt (MC (x.1.2.2.1,((0:Int),((1000:Int),())))) (fun lM=>bif lM.1 then cl (Kj).dflt (MC (x.1.2.2.2.1,((0:Int),((12:Int),())))) (fun MA=>bif MA.1 then cl (Kj).dflt (MC (x.1.2.2.2.2.1,((0:Int),((12:Int),())))) (fun Df=>l (some Df)) (l none) else l (some (false,()))) (l none) else l (some (false,()))) (l none) else l (some (false,()))) (l none) else l (some (false,()))) (l none)) (bS (HT ((),(x.1,())) ((0:Int),())) (fun PX=>l (some PX)) (l none))
theorem q21:QO G21 Try.f21 l21 a21 Rf Q21:=fun _=>by kernel_rfl
def Sj (x:(a21).den):Option (Rf).den:=Q21 (fun r=>r) (fun _ _=>none) x
theorem m21:MO G21 Try.f21 l21 Sj:=fun x=>by rw [q21]; unfold Sj Q21; simp only [Tree.sure,iO]
def p21:=pO Sj
def v21:=vO (τ:=Rf) Sj
def k21:ee:=⟨a21,Rf,p21,v21⟩
theorem h21:Holds Try.prog 21 k21:=hO aeR g21 m21 fun G' hlo hF hE=>ai (by rw [ayk]; exact .cons (lv hE hF hlo (ai (by rw [aeT]; exact .cons (lv hE hF hlo (ln Ui) kr Yi) (.nil))) GR am1) (.nil))
abbrev T97:Ty:=(.cons T12 T13)
abbrev T98:Ty:=(.cons PV T4)
abbrev T99:Ty:=(.cons PV OG)
abbrev Ic:Ty:=(.sl OG)
abbrev aps:Ty:=(.cons Ic .nil)
abbrev aGf:Ty:=(.cons PV aps)
abbrev ayo:Ty:=(.cons Ic T0)
abbrev aId:Ty:=(.cons PV ayo)
noncomputable def c27:=zo Try.f27
theorem az9:zq 27 Try.f27 c27:=zu
abbrev a27:Ty:=Jd
abbrev r27:Ty:=T3
noncomputable def G27:Ctx:=Ctx.of []
theorem g27:SP G27:=aD f0
noncomputable def abQ:Code:=aG ((af (c27))[0]?)
theorem ato:af (abQ)=[]:=by kernel_rfl
abbrev AK:List aL:=[.slot 1 (.ptr 1),.box 1 [.pc eX,.pc tI,.pc tI,.pc tI,.pc tI]]
abbrev sA:List aL:=[.slot 3 (.pc tI)]
abbrev UM:List aL:=AK ++ sA
def afI:ZJ AK sA UM:=ZA _ _
def Xf:ZS AK sA UM:=ZP _ _
abbrev VZ:aO:=⟨[(0,[])],[.slot 2 (.pc .bool)],[]⟩
abbrev Gn:aO:=⟨[(0,[])],[.slot 2 (.pc .bool)],[]⟩
def aaI:ZE AK Gn VZ:=fun id=>match id with | 0=>fun c y=>y | _=>jm
def Wx {α:Type} (l:RQ sA Gn->α) (an:α->α->α) (c:ZD AK) (v:ZD sA):α:=bif (decide (v.1 < ((c.2.1.1.n:Nat):Int))) then bif (decide (((0:Int)<=v.1)/\(v.1 < ((c.2.1.1.n:Nat):Int)))) then bif (decide ((2:Int) < (((c.2.1.1.g (Int.toNat v.1)).2.1.n:Nat):Int))) then bif (decide ((3:Int) < ((c.2.1.1.n:Nat):Int))) then l (.out (.ret (false,()))) else l (.next ((W (v.1 + (1:Int))),())) else l (.next ((W (v.1 + (1:Int))),())) else l .bad else l (.out (.exit 0 ()))
theorem aAb:ZO G27 0 25 abQ [] afI aaI ZI ZI Wx:=fun _ _=>by kernel_rfl
def Wy (c:ZD AK) (v:ZD sA):RQ sA Gn:=Wx (fun r=>r) (fun _ _=>.bad) c v
theorem aAc:SO G27 0 25 abQ [] afI aaI ZI ZI Wy:=fun c v=>by rw [aAb]; unfold Wy Wx; simp only [bu,aM,pM]
def Wz (c:ZD AK) (v:ZD sA):LQ Gn:=aH (Wy c) cz v
theorem aJd:af (c27)=[.loop abQ]:=by kernel_rfl
noncomputable def l27:List Loop:=[lk 0 aaI ZI ZI true Xf Wz]
def Q27 {α:Type} (l:Option (r27).den->α) (an:α->α->α) (x:(a27).den):α:=aF (Wz ((),(x.1,())) ((0:Int),())) 0 (fun u0=>l (some (true,()))) (bS (Wz ((),(x.1,())) ((0:Int),())) (fun u1=>l (some u1)) (l none))
theorem q27:QO G27 Try.f27 l27 a27 r27 Q27:=fun _=>by kernel_rfl
def M27 (x:(a27).den):Option (r27).den:=Q27 (fun r=>r) (fun _ _=>none) x
theorem m27:MO G27 Try.f27 l27 M27:=fun x=>by rw [q27]; unfold M27 Q27; simp only [Tree.sure,iO]
def p27:=pO M27
def v27:=vO (τ:=r27) M27
def k27:ee:=⟨a27,r27,p27,v27⟩
theorem h27:Holds Try.prog 27 k27:=hO az9 g27 m27 fun G' hlo hF hE=>ai (by rw [aJd]; exact .cons (lv hE hF hlo (ln ato) Xf aAc) (.nil))
noncomputable def c31:=zo Try.f31
theorem aO9:zq 31 Try.f31 c31:=zu
abbrev aGg:Ty:=(.cons ec T1)
abbrev a31:Ty:=aGg
abbrev r31:Ty:=T3
noncomputable def G31:Ctx:=Ctx.of []
theorem g31:SP G31:=aD f0
noncomputable def aFk:Code:=aG ((af (c31))[0]?)
theorem aS7:af (aFk)=[]:=by kernel_rfl
abbrev ak2:List aL:=[.slot 0 (.pc ec),.slot 1 (.pc tI),.slot 2 (.pc tI)]
abbrev aaY:List aL:=[.slot 7 (.pc tI)]
abbrev aJu:List aL:=ak2 ++ aaY
def aP5:ZJ ak2 aaY aJu:=ZA _ _
def aJv:ZS ak2 aaY aJu:=ZP _ _
abbrev aS8:aO:=⟨[(0,[.slot 0 (.pc ec),.slot 1 (.pc tI)])],[.slot 6 (.pc .bool)],[]⟩
abbrev atu:aO:=⟨[(0,[])],[.slot 6 (.pc .bool)],[]⟩
def aDX:ZE ak2 atu aS8:=fun id=>match id with | 0=>fun c y=>(c.1,(c.2.1,y)) | _=>jm
def aAp {α:Type} (l:RQ aaY atu->α) (an:α->α->α) (c:ZD ak2) (v:ZD aaY):α:=bif (decide (v.1 < ((c.1.n:Nat):Int))) then bif (decide (((0:Int)<=v.1)/\(v.1 < ((c.1.n:Nat):Int)))) then bif (!(decide ((((c.1.g (Int.toNat v.1)).1.n:Nat):Int)=c.2.2.1))) then l (.out (.ret (false,()))) else l (.next ((W (v.1 + (1:Int))),())) else l .bad else l (.out (.exit 0 ()))
theorem aVy:ZO G31 0 25 aFk [] aP5 aDX ZI ZI aAp:=fun _ _=>by kernel_rfl
def aAq (c:ZD ak2) (v:ZD aaY):RQ aaY atu:=aAp (fun r=>r) (fun _ _=>.bad) c v
theorem aVz:SO G31 0 25 aFk [] aP5 aDX ZI ZI aAq:=fun c v=>by rw [aVy]; unfold aAq aAp; simp only [bu,aM,pM]
def aAr (c:ZD ak2) (v:ZD aaY):LQ atu:=aH (aAq c) cz v
theorem aZp:af (c31)=[.loop aFk]:=by kernel_rfl
noncomputable def l31:List Loop:=[lk 0 aDX ZI ZI true aJv aAr]
def Q31 {α:Type} (l:Option (r31).den->α) (an:α->α->α) (x:(a31).den):α:=aF (aAr x ((0:Int),())) 0 (fun u0=>l (some ((decide (((x.1.n:Nat):Int)=x.2.1)),()))) (bS (aAr x ((0:Int),())) (fun u1=>l (some u1)) (l none))
theorem q31:QO G31 Try.f31 l31 a31 r31 Q31:=fun _=>by kernel_rfl
def M31 (x:(a31).den):Option (r31).den:=Q31 (fun r=>r) (fun _ _=>none) x
theorem m31:MO G31 Try.f31 l31 M31:=fun x=>by rw [q31]; unfold M31 Q31; simp only [Tree.sure,iO]
def p31:=pO M31
def v31:=vO (τ:=r31) M31
def k31:ee:=⟨a31,r31,p31,v31⟩
theorem h31:Holds Try.prog 31 k31:=hO aO9 g31 m31 fun G' hlo hF hE=>ai (by rw [aZp]; exact .cons (lv hE hF hlo (ln aS7) aJv aVz) (.nil))
noncomputable def c34:=zo Try.f34
theorem aVI:zq 34 Try.f34 c34:=zu
abbrev a34:Ty:=Jd
abbrev r34:Ty:=Jd
noncomputable def G34:Ctx:=Ctx.of []
theorem g34:SP G34:=aD f0
noncomputable def aFp:Code:=aG ((af (c34))[0]?)
theorem aTd:af (aFp)=[]:=by kernel_rfl
abbrev ak7:List aL:=[.slot 1 (.ptr 1),.slot 2 (.ptr 2),.slot 3 (.ptr 44),.box 1 [.pc eX,.pc tI,.pc tI,.pc tI,.pc tI],.box 2 [.own 1003000 44 T15,.pc tI,.pc tI,.pc tI,.pc tI]]
abbrev ah1:List aL:=[.slot 4 (.pc tI),.box 44 [.own 1045000 44 T15,.pc tI,.pc tI,.pc tI,.pc tI]]
abbrev aJA:List aL:=ak7 ++ ah1
def aP8:ZJ ak7 ah1 aJA:=ZA _ _
def aJB:ZS ak7 ah1 aJA:=ZP _ _
abbrev aTe:aO:=⟨[(0,[.slot 2 (.ptr 2),.slot 3 (.ptr 44),.box 2 [.own 1003000 44 T15,.pc tI,.pc tI,.pc tI,.pc tI],.box 44 [.own 1045000 44 T15,.pc tI,.pc tI,.pc tI,.pc tI]])],[],[]⟩
abbrev ayZ:aO:=⟨[(0,[.box 44 [.own 1045000 44 T15,.pc tI,.pc tI,.pc tI,.pc tI]])],[],[]⟩
def aD1:ZE ak7 ayZ aTe:=fun id=>match id with | 0=>fun c y=>(c.2.1,(c.2.2.1,(c.2.2.2.2.1,y))) | _=>jm
def aJC {α:Type} (l:RQ ah1 ayZ->α) (an:α->α->α) (c:ZD ak7) (v:ZD ah1):α:=bif (decide ((0:Int)<=v.1)) then bif (decide (((0:Int)<=v.1)/\(v.1 < ((c.2.2.2.1.1.n:Nat):Int)))) then bif (decide (((0:Int)<=v.1)/\(v.1 < ((c.2.2.2.1.1.n:Nat):Int)))) then bif (decide (((v.2.1.1.n + 1) * 32)<=140737488355328)) then l (.next ((W (v.1 - (1:Int))),(((cK v.2.1.1 (⟨1,fun i=>List.getD [((W ((200:Int) - (c.2.2.2.1.1.g (Int.toNat v.1)).1)),(c.2.2.2.1.1.g (Int.toNat v.1)).2)] i ((W ((200:Int) - (c.2.2.2.1.1.g (Int.toNat v.1)).1)),(c.2.2.2.1.1.g (Int.toNat v.1)).2)⟩:Sl (Ty.den T15))),v.2.1.2),()))) else l .bad else l .bad else l .bad else l (.out (.exit 0 (v.2.1,())))
theorem aVK:ZO G34 0 41 aFp [] aP8 aD1 ZI ZI aJC:=fun _ _=>by kernel_rfl
def aJD (c:ZD ak7) (v:ZD ah1):RQ ah1 ayZ:=aJC (fun r=>r) (fun _ _=>.bad) c v
theorem aVL:SO G34 0 41 aFp [] aP8 aD1 ZI ZI aJD:=fun c v=>by rw [aVK]; unfold aJD aJC; simp only [bu,aM,pM]
def aP9 (c:ZD ak7) (v:ZD ah1):LQ ayZ:=aH (aJD c) cz v
theorem aZx:af (c34)=[.loop aFp]:=by kernel_rfl
noncomputable def l34:List Loop:=[lk 0 aD1 ZI ZI false aJB aP9]
def Q34 {α:Type} (l:Option (r34).den->α) (an:α->α->α) (x:(a34).den):α:=aF (aP9 ((),((),((),(x.1,(((⟨0,fun i=>((0:Int),((⟨0,fun i=>((0:Int),((0:Int),((0:Int),((0:Int),((0:Int),((0:Int),()))))))⟩:Sl _),()))⟩:Sl _),((0:Int),((0:Int),((0:Int),((0:Int),()))))),()))))) ((W (((x.1.1.n:Nat):Int) - (1:Int))),(((⟨0,fun i=>((0:Int),((⟨0,fun i=>((0:Int),((0:Int),((0:Int),((0:Int),((0:Int),((0:Int),()))))))⟩:Sl _),()))⟩:Sl _),(x.1.2.1,(x.1.2.2.1,(x.1.2.2.2.2.1,(x.1.2.2.2.1,()))))),()))) 0 (fun u0=>l (some (u0.1,()))) (l none)
theorem q34:QO G34 Try.f34 l34 a34 r34 Q34:=fun _=>by kernel_rfl
def M34 (x:(a34).den):Option (r34).den:=Q34 (fun r=>r) (fun _ _=>none) x
theorem m34:MO G34 Try.f34 l34 M34:=fun x=>by rw [q34]; unfold M34 Q34; simp only [Tree.sure,iO]
def p34:=pO M34
def v34:=vO (τ:=r34) M34
def k34:ee:=⟨a34,r34,p34,v34⟩
theorem h34:Holds Try.prog 34 k34:=hO aVI g34 m34 fun G' hlo hF hE=>ai (by rw [aZx]; exact .cons (lv hE hF hlo (ln aTd) aJB aVL) (.nil))
noncomputable def c35:=zo Try.f35
theorem aPa:zq 35 Try.f35 c35:=zu
abbrev a35:Ty:=T88
abbrev r35:Ty:=T3
noncomputable def G35:Ctx:=Ctx.of [(68,.pure k68)]
theorem g35:SP G35:=aD (fa ⟨⟨aiE.c,h68⟩,f0⟩)
def Q35 {α:Type} (l:Option (r35).den->α) (an:α->α->α) (x:(a35).den):α:=cl (Kj).dflt (MC (x.2.1,((0:Int),((W (((x.1.1.n:Nat):Int) - (1:Int))),())))) (fun u0=>bif u0.1 then bif (decide (((0:Int)<=x.2.1)/\(x.2.1 < ((x.1.1.n:Nat):Int)))) then cl (Kj).dflt (MC (x.2.2.1,((0:Int),((W ((((x.1.1.g (Int.toNat x.2.1)).2.1.n:Nat):Int) - (1:Int))),())))) (fun u1=>l (some u1)) (l none) else l none else l (some (false,()))) (l none)
theorem q35:QO G35 Try.f35 [] a35 r35 Q35:=fun _=>by kernel_rfl
def M35 (x:(a35).den):Option (r35).den:=Q35 (fun r=>r) (fun _ _=>none) x
theorem m35:MO G35 Try.f35 [] M35:=fun x=>by rw [q35]; unfold M35 Q35; simp only [Tree.sure,iO]
def p35:=pO M35
def v35:=vO (τ:=r35) M35
def k35:ee:=⟨a35,r35,p35,v35⟩
theorem h35:Holds Try.prog 35 k35:=hO aPa g35 m35 l0
abbrev aIi:Ty:=(.cons T12 T1)
abbrev ayp:Ty:=(.cons ec T79)
abbrev ag6:Ty:=(.cons ec ayp)
abbrev anf:Ty:=(.agg ag6)
abbrev asG:Ty:=(.cons anf .nil)
abbrev aoF:Ty:=(.cons PV asG)
abbrev ayq:Ty:=(.agg T15)
abbrev ayr:Ty:=(.cons ayq .nil)
abbrev asH:Ty:=(.cons (.sl T0) ayr)
abbrev asI:Ty:=(.fn asH T3)
abbrev ays:Ty:=(.cons asI .nil)
abbrev ayt:Ty:=(.cons eX ays)
abbrev aGi:Ty:=(.cons ec ayt)
abbrev aGj:Ty:=(.cons .bool T0)
abbrev aIn:Ty:=(.cons tI T20)
noncomputable def c17:=zo Try.f17
theorem acz:zq 17 Try.f17 c17:=zu
abbrev a17:Ty:=.nil
abbrev nQ:Ty:=T3
noncomputable def G17:Ctx:=Ctx.of [(18,.pure k18),(19,.pure k19),(20,.pure k20),(23,.pure k23),(28,.pure k28),(36,.pure k36),(39,.pure k39),(40,.pure k40),(41,.pure k41),(43,.pure k43),(44,.pure k44),(48,.pure k48),(62,.pure k62)]
theorem g17:SP G17:=aD (fa ⟨⟨alY.c,h18⟩,fa ⟨⟨al3.c,h19⟩,fa ⟨⟨aoA.c,h20⟩,fa ⟨⟨apm.c,h23⟩,fa ⟨⟨ajW.c,h28⟩,fa ⟨⟨apo.c,h36⟩,fa ⟨⟨apr.c,h39⟩,fa ⟨⟨apq.c,h40⟩,fa ⟨⟨aue.c,h41⟩,fa ⟨⟨ar6.c,h43⟩,fa ⟨⟨aiD.c,h44⟩,fa ⟨⟨agY.c,h48⟩,fa ⟨⟨aui.c,h62⟩,f0⟩⟩⟩⟩⟩⟩⟩⟩⟩⟩⟩⟩⟩)
theorem ayv:af (c17)=[]:=by kernel_rfl
noncomputable def l17:List Loop:=[]
def Q17 {α:Type} (l:Option (nQ).den->α) (an:α->α->α) (x:(a17).den):α:=cl (vN).dflt (OM ()) (fun u0=>cl (MF).dflt (XV (u0.1,((1:Int),()))) (fun u1=>cl (vN).dflt (OM ()) (fun u2=>cl (OK).dflt (M19 (u0.1,())) (fun u3=>cl (vN).dflt (OM ()) (fun u4=>cl (Pz).dflt (M20 (u0.1,())) (fun u5=>cl (vN).dflt (OM ()) (fun u6=>cl (Re).dflt (M39 (u0.1,((0:Int),((0:Int),())))) (fun u7=>cl (vN).dflt (OM ()) (fun u8=>cl (PE).dflt (M36 (u0.1,((1:Int),((0:Int),())))) (fun u9=>cl (vN).dflt (OM ()) (fun vD=>cl (Rc).dflt (M43 (u0.1,((0:Int),((3:Int),())))) (fun lM=>cl (vN).dflt (OM ()) (fun MA=>cl (Rb).dflt (M40 (u0.1,())) (fun Df=>cl (vN).dflt (OM ()) (fun PX=>cl (OB).dflt (VO (u0.1,())) (fun PB=>bif (!(decide (u1.2.1=(0:Int)))) then l (some (false,())) else bif (!(decide (u3.2.1=(0:Int)))) then l (some (false,())) else bif (!(decide (u5.2.1=(0:Int)))) then l (some (false,())) else bif (!(decide (u7.2.1=(0:Int)))) then l (some (false,())) else bif (!(decide (u9.2.1=(0:Int)))) then l (some (false,())) else bif (!(decide (lM.2.1=(0:Int)))) then l (some (false,())) else bif (!(decide (Df.2.2.1=(0:Int)))) then l (some (false,())) else bif (!(decide (PB.2.1=(0:Int)))) then l (some (false,())) else cl (IN).dflt (VN (u1.1,((⟨2,fun i=>List.getD [((⟨2,fun i=>List.getD [((3:Int),()),((1:Int),())] i ((3:Int),())⟩:Sl _),()),((⟨2,fun i=>List.getD [((1:Int),()),((3:Int),())] i ((1:Int),())⟩:Sl _),())] i ((⟨2,fun i=>List.getD [((3:Int),()),((1:Int),())] i ((3:Int),())⟩:Sl _),())⟩:Sl _),()))) (fun u16=>bif (!u16.1) then l (some (false,())) else cl (IN).dflt (VN (u3.1,((⟨2,fun i=>List.getD [((⟨2,fun i=>List.getD [((1:Int),()),((1:Int),())] i ((1:Int),())⟩:Sl _),()),((⟨1,fun i=>List.getD [((1:Int),())] i ((1:Int),())⟩:Sl _),())] i ((⟨2,fun i=>List.getD [((1:Int),()),((1:Int),())] i ((1:Int),())⟩:Sl _),())⟩:Sl _),()))) (fun Wf=>bif (!Wf.1) then l (some (false,())) else cl (IN).dflt (VN (u5.1,((⟨2,fun i=>List.getD [((⟨2,fun i=>List.getD [((1:Int),()),((1:Int),())] i ((1:Int),())⟩:Sl _),()),((⟨2,fun i=>List.getD [((2:Int),()),((2:Int),())] i ((2:Int),())⟩:Sl _),())] i ((⟨2,fun i=>List.getD [((1:Int),()),((1:Int),())] i ((1:Int),())⟩:Sl _),())⟩:Sl _),()))) (fun VP=>bif (!VP.1) then l (some (false,())) else cl (MI).dflt (M41 (u7.1,((⟨2,fun i=>List.getD [((⟨2,fun i=>List.getD [((0:Int),()),((0:Int),())] i ((0:Int),())⟩:Sl _),()),((⟨3,fun i=>List.getD [((0:Int),()),((0:Int),()),((0:Int),())] i ((0:Int),())⟩:Sl _),())] i ((⟨2,fun i=>List.getD [((0:Int),()),((0:Int),())] i ((0:Int),())⟩:Sl _),())⟩:Sl _),()))) (fun UO=>bif (!UO.1) then l (some (false,())) else cl (oM).dflt (vA ((20:Int),((21:Int),()))) (fun u20=>cl (oM).dflt (vA ((50:Int),((52:Int),()))) (fun u21=>cl (oM).dflt (vA ((74100:Int),((74300:Int),()))) (fun u22=>cl (Es).dflt (PU (u20.1,(u21.1,(u22.1,())))) (fun Dh=>bif ((decide (u9.1.1=Dh.1.1)) && ((decide (u9.1.2.1=Dh.1.2.1)) && ((decide (u9.1.2.2.1=Dh.1.2.2.1)) && ((decide (u9.1.2.2.2.1=Dh.1.2.2.2.1)) && ((decide (u9.1.2.2.2.2.1=Dh.1.2.2.2.2.1)) && ((decide (u9.1.2.2.2.2.2.1=Dh.1.2.2.2.2.2.1)) && true)))))) then cl (oM).dflt (vA ((25:Int),((39:Int),()))) (fun Xd=>cl (oM).dflt (vA ((46:Int),((59:Int),()))) (fun WL=>cl (oM).dflt (vA ((74050:Int),((75050:Int),()))) (fun Xo=>cl (Es).dflt (PU (Xd.1,(WL.1,(Xo.1,())))) (fun Gp=>bif ((decide (lM.1.1=Gp.1.1)) && ((decide (lM.1.2.1=Gp.1.2.1)) && ((decide (lM.1.2.2.1=Gp.1.2.2.1)) && ((decide (lM.1.2.2.2.1=Gp.1.2.2.2.1)) && ((decide (lM.1.2.2.2.2.1=Gp.1.2.2.2.2.1)) && ((decide (lM.1.2.2.2.2.2.1=Gp.1.2.2.2.2.2.1)) && true)))))) then bif (decide (Df.1=(2:Int))) then cl (MI).dflt (M41 (Df.2.1,((⟨3,fun i=>List.getD [((⟨2,fun i=>List.getD [((-1:Int),()),((-1:Int),())] i ((-1:Int),())⟩:Sl _),()),((⟨2,fun i=>List.getD [((0:Int),()),((1:Int),())] i ((0:Int),())⟩:Sl _),()),((⟨1,fun i=>List.getD [((0:Int),())] i ((0:Int),())⟩:Sl _),())] i ((⟨2,fun i=>List.getD [((-1:Int),()),((-1:Int),())] i ((-1:Int),())⟩:Sl _),())⟩:Sl _),()))) (fun u28=>bif u28.1 then l (some ((decide (PB.1=(2:Int))),())) else l (some (false,()))) (l none) else l (some (false,())) else l (some (false,()))) (l none)) (l none)) (l none)) (l none) else l (some (false,()))) (l none)) (l none)) (l none)) (l none)) (l none)) (l none)) (l none)) (l none)) (l none)) (l none)) (l none)) (l none)) (l none)) (l none)) (l none)) (l none)) (l none)) (l none)) (l none)) (l none)) (l none)) (l none)) (l none)) (l none)
def ayy (m18:(Tq).den->Option (MF).den) (m19:(Tu).den->Option (OK).den) (m20:(a20).den->Option (Pz).den) (m23:(Tv).den->Option (IN).den) (m28:(a28).den->Option (OB).den) (m36:(TD).den->Option (PE).den) (m39:(a39).den->Option (Re).den) (m40:(a40).den->Option (Rb).den) (m41:(a41).den->Option (MI).den) (m43:(TR).den->Option (Rc).den) (m44:(a44).den->Option (Es).den) (Ug:(PA).den->Option (oM).den) (ON:(Uh).den->Option (vN).den) {α:Type} (l:Option (nQ).den->α) (an:α->α->α) (x:(a17).den):α:=cl (vN).dflt (ON ()) (fun u0=>cl (MF).dflt (m18 (u0.1,((1:Int),()))) (fun u1=>cl (vN).dflt (ON ()) (fun u2=>cl (OK).dflt (m19 (u0.1,())) (fun u3=>cl (vN).dflt (ON ()) (fun u4=>cl (Pz).dflt (m20 (u0.1,())) (fun u5=>cl (vN).dflt (ON ()) (fun u6=>cl (Re).dflt (m39 (u0.1,((0:Int),((0:Int),())))) (fun u7=>cl (vN).dflt (ON ()) (fun u8=>cl (PE).dflt (m36 (u0.1,((1:Int),((0:Int),())))) (fun u9=>cl (vN).dflt (ON ()) (fun vD=>cl (Rc).dflt (m43 (u0.1,((0:Int),((3:Int),())))) (fun lM=>cl (vN).dflt (ON ()) (fun MA=>cl (Rb).dflt (m40 (u0.1,())) (fun Df=>cl (vN).dflt (ON ()) (fun PX=>cl (OB).dflt (m28 (u0.1,())) (fun PB=>bif (!(decide (u1.2.1=(0:Int)))) then l (some (false,())) else bif (!(decide (u3.2.1=(0:Int)))) then l (some (false,())) else bif (!(decide (u5.2.1=(0:Int)))) then l (some (false,())) else bif (!(decide (u7.2.1=(0:Int)))) then l (some (false,())) else bif (!(decide (u9.2.1=(0:Int)))) then l (some (false,())) else bif (!(decide (lM.2.1=(0:Int)))) then l (some (false,())) else bif (!(decide (Df.2.2.1=(0:Int)))) then l (some (false,())) else bif (!(decide (PB.2.1=(0:Int)))) then l (some (false,())) else cl (IN).dflt (m23 (u1.1,((⟨2,fun i=>List.getD [((⟨2,fun i=>List.getD [((3:Int),()),((1:Int),())] i ((3:Int),())⟩:Sl _),()),((⟨2,fun i=>List.getD [((1:Int),()),((3:Int),())] i ((1:Int),())⟩:Sl _),())] i ((⟨2,fun i=>List.getD [((3:Int),()),((1:Int),())] i ((3:Int),())⟩:Sl _),())⟩:Sl _),()))) (fun u16=>bif (!u16.1) then l (some (false,())) else cl (IN).dflt (m23 (u3.1,((⟨2,fun i=>List.getD [((⟨2,fun i=>List.getD [((1:Int),()),((1:Int),())] i ((1:Int),())⟩:Sl _),()),((⟨1,fun i=>List.getD [((1:Int),())] i ((1:Int),())⟩:Sl _),())] i ((⟨2,fun i=>List.getD [((1:Int),()),((1:Int),())] i ((1:Int),())⟩:Sl _),())⟩:Sl _),()))) (fun Wf=>bif (!Wf.1) then l (some (false,())) else cl (IN).dflt (m23 (u5.1,((⟨2,fun i=>List.getD [((⟨2,fun i=>List.getD [((1:Int),()),((1:Int),())] i ((1:Int),())⟩:Sl _),()),((⟨2,fun i=>List.getD [((2:Int),()),((2:Int),())] i ((2:Int),())⟩:Sl _),())] i ((⟨2,fun i=>List.getD [((1:Int),()),((1:Int),())] i ((1:Int),())⟩:Sl _),())⟩:Sl _),()))) (fun VP=>bif (!VP.1) then l (some (false,())) else cl (MI).dflt (m41 (u7.1,((⟨2,fun i=>List.getD [((⟨2,fun i=>List.getD [((0:Int),()),((0:Int),())] i ((0:Int),())⟩:Sl _),()),((⟨3,fun i=>List.getD [((0:Int),()),((0:Int),()),((0:Int),())] i ((0:Int),())⟩:Sl _),())] i ((⟨2,fun i=>List.getD [((0:Int),()),((0:Int),())] i ((0:Int),())⟩:Sl _),())⟩:Sl _),()))) (fun UO=>bif (!UO.1) then l (some (false,())) else cl (oM).dflt (Ug ((20:Int),((21:Int),()))) (fun u20=>cl (oM).dflt (Ug ((50:Int),((52:Int),()))) (fun u21=>cl (oM).dflt (Ug ((74100:Int),((74300:Int),()))) (fun u22=>cl (Es).dflt (m44 (u20.1,(u21.1,(u22.1,())))) (fun Dh=>bif ((decide (u9.1.1=Dh.1.1)) && ((decide (u9.1.2.1=Dh.1.2.1)) && ((decide (u9.1.2.2.1=Dh.1.2.2.1)) && ((decide (u9.1.2.2.2.1=Dh.1.2.2.2.1)) && ((decide (u9.1.2.2.2.2.1=Dh.1.2.2.2.2.1)) && ((decide (u9.1.2.2.2.2.2.1=Dh.1.2.2.2.2.2.1)) && true)))))) then cl (oM).dflt (Ug ((25:Int),((39:Int),()))) (fun Xd=>cl (oM).dflt (Ug ((46:Int),((59:Int),()))) (fun WL=>cl (oM).dflt (Ug ((74050:Int),((75050:Int),()))) (fun Xo=>cl (Es).dflt (m44 (Xd.1,(WL.1,(Xo.1,())))) (fun Gp=>bif ((decide (lM.1.1=Gp.1.1)) && ((decide (lM.1.2.1=Gp.1.2.1)) && ((decide (lM.1.2.2.1=Gp.1.2.2.1)) && ((decide (lM.1.2.2.2.1=Gp.1.2.2.2.1)) && ((decide (lM.1.2.2.2.2.1=Gp.1.2.2.2.2.1)) && ((decide (lM.1.2.2.2.2.2.1=Gp.1.2.2.2.2.2.1)) && true)))))) then bif (decide (Df.1=(2:Int))) then cl (MI).dflt (m41 (Df.2.1,((⟨3,fun i=>List.getD [((⟨2,fun i=>List.getD [((-1:Int),()),((-1:Int),())] i ((-1:Int),())⟩:Sl _),()),((⟨2,fun i=>List.getD [((0:Int),()),((1:Int),())] i ((0:Int),())⟩:Sl _),()),((⟨1,fun i=>List.getD [((0:Int),())] i ((0:Int),())⟩:Sl _),())] i ((⟨2,fun i=>List.getD [((-1:Int),()),((-1:Int),())] i ((-1:Int),())⟩:Sl _),())⟩:Sl _),()))) (fun u28=>bif u28.1 then l (some ((decide (PB.1=(2:Int))),())) else l (some (false,()))) (l none) else l (some (false,())) else l (some (false,()))) (l none)) (l none)) (l none)) (l none) else l (some (false,()))) (l none)) (l none)) (l none)) (l none)) (l none)) (l none)) (l none)) (l none)) (l none)) (l none)) (l none)) (l none)) (l none)) (l none)) (l none)) (l none)) (l none)) (l none)) (l none)) (l none)) (l none)) (l none)) (l none)) (l none)
theorem ayz (m18:(Tq).den->Option (MF).den) (m19:(Tu).den->Option (OK).den) (m20:(a20).den->Option (Pz).den) (m23:(Tv).den->Option (IN).den) (m28:(a28).den->Option (OB).den) (m36:(TD).den->Option (PE).den) (m39:(a39).den->Option (Re).den) (m40:(a40).den->Option (Rb).den) (m41:(a41).den->Option (MI).den) (m43:(TR).den->Option (Rc).den) (m44:(a44).den->Option (Es).den) (Ug:(PA).den->Option (oM).den) (ON:(Uh).den->Option (vN).den) (x:(a17).den):aI Try.prog E0 (Ctx.of [(18,.pure (gU (τa:=Tq) (τr:=MF) m18)),(19,.pure (gU (τa:=Tu) (τr:=OK) m19)),(20,.pure (gU (τa:=a20) (τr:=Pz) m20)),(23,.pure (gU (τa:=Tv) (τr:=IN) m23)),(28,.pure (gU (τa:=a28) (τr:=OB) m28)),(36,.pure (gU (τa:=TD) (τr:=PE) m36)),(39,.pure (gU (τa:=a39) (τr:=Re) m39)),(40,.pure (gU (τa:=a40) (τr:=Rb) m40)),(41,.pure (gU (τa:=a41) (τr:=MI) m41)),(43,.pure (gU (τa:=TR) (τr:=Rc) m43)),(44,.pure (gU (τa:=a44) (τr:=Es) m44)),(48,.pure (gU (τa:=PA) (τr:=oM) Ug)),(62,.pure (gU (τa:=Uh) (τr:=vN) ON))]) Try.f17 l17 a17 nQ x=ayy m18 m19 m20 m23 m28 m36 m39 m40 m41 m43 m44 Ug ON .leaf .any x:=by kernel_rfl
theorem q17 (x:(a17).den):aI Try.prog E0 G17 Try.f17 l17 a17 nQ x=Q17 .leaf .any x:=ayz XV M19 M20 VN VO M36 M39 M40 M41 M43 PU vA OM x
def qf (x:(a17).den):Option (nQ).den:=Q17 (fun r=>r) (fun _ _=>none) x
theorem m17 (x:(a17).den):(aI Try.prog E0 G17 Try.f17 l17 a17 nQ x).sure=qf x:=by rw [q17]; unfold qf Q17; simp only [Tree.sure,iO]
def p17 (x:(a17).den):Bool:=(qf x).isSome
def v17 (x:(a17).den):(nQ).den:=(qf x).getD (nQ).dflt
def k17:ee:=⟨a17,nQ,p17,v17⟩
theorem h17:Holds Try.prog 17 k17:=aC (E:=E0) aA g17 aB au acz.a acz.b (by kernel_rfl) m17 fun G' hlo hF hE=>ai (by rw [ayv]; exact .nil)
noncomputable def c6:=zo Try.f6
theorem cl6:zq 6 Try.f6 c6:=zu
abbrev a6:Ty:=T88
abbrev r6:Ty:=T3
noncomputable def G6:Ctx:=Ctx.of [(16,.pure k16),(17,.pure k17),(18,.pure k18),(19,.pure k19),(20,.pure k20),(21,.pure k21),(23,.pure k23),(27,.pure k27),(28,.pure k28),(31,.pure k31),(34,.pure k34),(35,.pure k35),(36,.pure k36)]
theorem g6:SP G6:=aD (fa ⟨⟨aeP.c,h16⟩,fa ⟨⟨acz.c,h17⟩,fa ⟨⟨alY.c,h18⟩,fa ⟨⟨al3.c,h19⟩,fa ⟨⟨aoA.c,h20⟩,fa ⟨⟨aeR.c,h21⟩,fa ⟨⟨apm.c,h23⟩,fa ⟨⟨az9.c,h27⟩,fa ⟨⟨ajW.c,h28⟩,fa ⟨⟨aO9.c,h31⟩,fa ⟨⟨aVI.c,h34⟩,fa ⟨⟨aPa.c,h35⟩,fa ⟨⟨apo.c,h36⟩,f0⟩⟩⟩⟩⟩⟩⟩⟩⟩⟩⟩⟩⟩)
noncomputable def aPj:Code:=aG ((af (c6))[0]?)
theorem aV6:af (aPj)=[]:=by kernel_rfl
abbrev atz:List aL:=[.slot 1 (.pc tI),.slot 2 (.pc tI),.slot 3 (.ptr 3),.slot 7 (.ptr 589),.slot 8 (.pc ec),.slot 9 (.pc tI),.slot 10 (.pc ec),.slot 12 (.pc ec),.slot 14 (.pc ec),.slot 20 (.pc tI),.box 3 [.pc eX,.pc tI,.pc tI,.pc tI,.pc tI],.box 589 [.pc eX,.pc tI,.pc tI,.pc tI,.pc tI]]
abbrev apd:List aL:=[.slot 21 (.pc tI)]
abbrev aQl:List aL:=atz ++ apd
def aV7:ZJ atz apd aQl:=ZA _ _
def aQm:ZS atz apd aQl:=ZP _ _
abbrev aV8:aO:=⟨[(0,[.slot 1 (.pc tI),.slot 2 (.pc tI),.slot 3 (.ptr 3),.slot 7 (.ptr 589),.slot 9 (.pc tI),.slot 20 (.pc tI),.box 3 [.pc eX,.pc tI,.pc tI,.pc tI,.pc tI],.box 589 [.pc eX,.pc tI,.pc tI,.pc tI,.pc tI]])],[.slot 6 (.pc .bool)],[]⟩
abbrev aFs:aO:=⟨[(0,[])],[.slot 6 (.pc .bool)],[]⟩
def aJW:ZE atz aFs aV8:=fun id=>match id with | 0=>fun c y=>(c.1,(c.2.1,(c.2.2.1,(c.2.2.2.1,(c.2.2.2.2.2.1,(c.2.2.2.2.2.2.2.2.2.1,(c.2.2.2.2.2.2.2.2.2.2.1,(c.2.2.2.2.2.2.2.2.2.2.2.1,y)))))))) | _=>jm
def aTo {α:Type} (l:RQ apd aFs->α) (an:α->α->α) (c:ZD atz) (v:ZD apd):α:=bif (decide (v.1 < ((c.2.2.2.2.1.n:Nat):Int))) then bif (decide (((0:Int)<=v.1)/\(v.1 < ((c.2.2.2.2.1.n:Nat):Int)))) then bif (decide (((0:Int)<=v.1)/\(v.1 < ((c.2.2.2.2.2.2.2.1.n:Nat):Int)))) then bif (decide (((0:Int)<=(W ((W (((c.2.2.2.2.1.n:Nat):Int) - (1:Int))) - v.1)))/\((W ((W (((c.2.2.2.2.1.n:Nat):Int) - (1:Int))) - v.1)) < ((c.2.2.2.2.2.2.1.n:Nat):Int)))) then bif (decide (((0:Int)<=(W ((W (((c.2.2.2.2.1.n:Nat):Int) - (1:Int))) - v.1)))/\((W ((W (((c.2.2.2.2.1.n:Nat):Int) - (1:Int))) - v.1)) < ((c.2.2.2.2.2.2.2.2.1.n:Nat):Int)))) then cl (IN).dflt (VN ((⟨2,fun i=>List.getD [(c.2.2.2.2.1.g (Int.toNat v.1)),(c.2.2.2.2.2.2.2.1.g (Int.toNat v.1))] i (c.2.2.2.2.1.g (Int.toNat v.1))⟩:Sl _),((⟨2,fun i=>List.getD [(c.2.2.2.2.2.2.1.g (Int.toNat (W ((W (((c.2.2.2.2.1.n:Nat):Int) - (1:Int))) - v.1)))),(c.2.2.2.2.2.2.2.2.1.g (Int.toNat (W ((W (((c.2.2.2.2.1.n:Nat):Int) - (1:Int))) - v.1))))] i (c.2.2.2.2.2.2.1.g (Int.toNat (W ((W (((c.2.2.2.2.1.n:Nat):Int) - (1:Int))) - v.1))))⟩:Sl _),()))) (fun u0=>bif (!u0.1) then l (.out (.ret (false,()))) else l (.next ((W (v.1 + (1:Int))),()))) (l .bad) else l .bad else l .bad else l .bad else l .bad else l (.out (.exit 0 ()))
theorem aZX:ZO G6 0 291 aPj [] aV7 aJW ZI ZI aTo:=fun _ _=>by kernel_rfl
def aTp (c:ZD atz) (v:ZD apd):RQ apd aFs:=aTo (fun r=>r) (fun _ _=>.bad) c v
theorem aZY:SO G6 0 291 aPj [] aV7 aJW ZI ZI aTp:=fun c v=>by rw [aZX]; unfold aTp aTo; simp only [bu,aM,pM]
def aTq (c:ZD atz) (v:ZD apd):LQ aFs:=aH (aTp c) cz v
noncomputable def aJX:Code:=aG ((af (c6))[1]?)
noncomputable def ay9:Code:=aG ((af (aJX))[0]?)
theorem aPk:af (ay9)=[]:=by kernel_rfl
abbrev afr:List aL:=[.slot 26 (.pc ec),.slot 28 (.pc ec),.slot 30 (.pc tI)]
abbrev abR:List aL:=[.slot 31 (.pc tI)]
abbrev ap1:List aL:=afr ++ abR
def aJY:ZJ afr abR ap1:=ZA _ _
def afs:ZS afr abR ap1:=ZP _ _
abbrev anX:aO:=⟨[(4,[.slot 26 (.pc ec),.slot 28 (.pc ec),.slot 30 (.pc tI)])],[.slot 6 (.pc .bool)],[]⟩
abbrev ap2:aO:=⟨[(4,[])],[.slot 6 (.pc .bool)],[]⟩
def ap3:ZE afr ap2 anX:=fun id=>match id with | 4=>fun c y=>(c.1,(c.2.1,(c.2.2.1,y))) | _=>jm
def aD6 {α:Type} (l:RQ abR ap2->α) (an:α->α->α) (c:ZD afr) (v:ZD abR):α:=bif (decide (((0:Int)<=c.2.2.1)/\(c.2.2.1 < ((c.1.n:Nat):Int)))) then bif (decide (v.1 < (((c.1.g (Int.toNat c.2.2.1)).1.n:Nat):Int))) then bif (decide (((0:Int)<=c.2.2.1)/\(c.2.2.1 < ((c.1.n:Nat):Int)))) then bif (decide (((0:Int)<=v.1)/\(v.1 < (((c.1.g (Int.toNat c.2.2.1)).1.n:Nat):Int)))) then bif (decide (((0:Int)<=v.1)/\(v.1 < ((c.2.1.n:Nat):Int)))) then bif (decide (((0:Int)<=c.2.2.1)/\(c.2.2.1 < (((c.2.1.g (Int.toNat v.1)).1.n:Nat):Int)))) then bif (!(decide (((c.1.g (Int.toNat c.2.2.1)).1.g (Int.toNat v.1)).1=((c.2.1.g (Int.toNat v.1)).1.g (Int.toNat c.2.2.1)).1))) then l (.out (.ret (false,()))) else l (.next ((W (v.1 + (1:Int))),())) else l .bad else l .bad else l .bad else l .bad else l (.out (.exit 4 ())) else l .bad
theorem aTr:ZO G6 0 291 ay9 [] aJY ap3 ZI ZI aD6:=fun _ _=>by kernel_rfl
def aD7 (c:ZD afr) (v:ZD abR):RQ abR ap2:=aD6 (fun r=>r) (fun _ _=>.bad) c v
theorem aTs:SO G6 0 291 ay9 [] aJY ap3 ZI ZI aD7:=fun c v=>by rw [aTr]; unfold aD7 aD6; simp only [bu,aM,pM]
def aza (c:ZD afr) (v:ZD abR):LQ ap2:=aH (aD7 c) cz v
theorem aV9:af (aJX)=[.loop ay9]:=by kernel_rfl
abbrev atA:List aL:=[.slot 26 (.pc ec),.slot 28 (.pc ec)]
abbrev ape:List aL:=[.slot 30 (.pc tI)]
abbrev aQn:List aL:=atA ++ ape
def aWa:ZJ atA ape aQn:=ZA _ _
def aQo:ZS atA ape aQn:=ZP _ _
abbrev aWb:aO:=⟨[(2,[])],[.slot 6 (.pc .bool)],[]⟩
abbrev aFt:aO:=⟨[(2,[])],[.slot 6 (.pc .bool)],[]⟩
def aJZ:ZE atA aFt aWb:=fun id=>match id with | 2=>fun c y=>y | _=>jm
def aTt {α:Type} (l:RQ ape aFt->α) (an:α->α->α) (c:ZD atA) (v:ZD ape):α:=bif (decide (v.1 < ((c.1.n:Nat):Int))) then aF (aza (c.1,(c.2.1,v)) ((0:Int),())) 4 (fun u1=>l (.next ((W (v.1 + (1:Int))),()))) (bS (aza (c.1,(c.2.1,v)) ((0:Int),())) (fun u2=>l (.out (.ret u2))) (l .bad)) else l (.out (.exit 2 ()))
theorem aZZ:ZO G6 0 291 aJX [.known (bF 0 [] ap1 fun x=>aJ anX ap3 ZI ZI [] true (afs x).1 (aza (afs x).1 (afs x).2) anX.bw)] aWa aJZ ZI ZI aTt:=fun _ _=>by kernel_rfl
def aTu (c:ZD atA) (v:ZD ape):RQ ape aFt:=aTt (fun r=>r) (fun _ _=>.bad) c v
theorem aZ0:SO G6 0 291 aJX [.known (bF 0 [] ap1 fun x=>aJ anX ap3 ZI ZI [] true (afs x).1 (aza (afs x).1 (afs x).2) anX.bw)] aWa aJZ ZI ZI aTu:=fun c v=>by rw [aZZ]; unfold aTu aTt; simp only [bu,aM,pM]
def aJ0 (c:ZD atA) (v:ZD ape):LQ aFt:=aH (aTu c) cz v
theorem lo6:af (c6)=[.loop aPj,.loop aJX]:=by kernel_rfl
noncomputable def l6:List Loop:=[lk 0 aJW ZI ZI true aQm aTq,lk 0 aJZ ZI ZI true aQo aJ0]
def Q6 {α:Type} (l:Option (r6).den->α) (an:α->α->α) (x:(a6).den):α:=cl (WZ).dflt (Yz (x.1,())) (fun u3=>bif (!u3.1) then cl (nQ).dflt (qf ()) (fun u4=>l (some u4)) (l none) else cl (Rf).dflt (Sj (x.1,())) (fun u5=>bif (!u5.1) then cl (nQ).dflt (qf ()) (fun u6=>l (some u6)) (l none) else cl (r27).dflt (M27 (x.1,())) (fun u7=>bif (!u7.1) then cl (nQ).dflt (qf ()) (fun u8=>l (some u8)) (l none) else cl (r34).dflt (M34 (x.1,())) (fun u9=>cl (OK).dflt (M19 (x.1,())) (fun vD=>cl (Pz).dflt (M20 (u9.1,())) (fun lM=>cl (Pz).dflt (M20 (x.1,())) (fun MA=>cl (OK).dflt (M19 (u9.1,())) (fun Df=>cl (OB).dflt (VO (x.1,())) (fun PX=>cl (OB).dflt (VO (u9.1,())) (fun PB=>bif (!(decide (vD.2.1=lM.2.1))) then l (some (false,())) else bif (!(decide (MA.2.1=Df.2.1))) then l (some (false,())) else bif (!(decide (vD.2.1=MA.2.1))) then l (some (false,())) else bif (!(decide (PX.2.1=PB.2.1))) then l (some (false,())) else bif (!(decide (PX.1=PB.1))) then l (some (false,())) else bif (!(decide (((vD.1.n:Nat):Int)=((lM.1.n:Nat):Int)))) then l (some (false,())) else bif (!(decide (((MA.1.n:Nat):Int)=((Df.1.n:Nat):Int)))) then l (some (false,())) else bif (!(decide (((vD.1.n:Nat):Int)=((MA.1.n:Nat):Int)))) then l (some (false,())) else aF (aTq (x.2.1,(x.2.2.1,((),((),(vD.1,(vD.2.1,(lM.1,(MA.1,(Df.1,((W (((x.1.1.n:Nat):Int) - (1:Int))),(x.1,(u9.1,())))))))))))) ((0:Int),())) 0 (fun u16=>cl (r35).dflt (M35 (x.1,x.2)) (fun Wf=>bif Wf.1 then cl (PE).dflt (M36 (x.1,x.2)) (fun VP=>cl (PE).dflt (M36 (u9.1,((W ((W (((x.1.1.n:Nat):Int) - (1:Int))) - x.2.1)),x.2.2))) (fun UO=>bif (!((decide (VP.1.1=UO.1.1)) && ((decide (VP.1.2.1=UO.1.2.1)) && ((decide (VP.1.2.2.1=UO.1.2.2.1)) && ((decide (VP.1.2.2.2.1=UO.1.2.2.2.1)) && ((decide (VP.1.2.2.2.2.1=UO.1.2.2.2.2.1)) && ((decide (VP.1.2.2.2.2.2.1=UO.1.2.2.2.2.2.1)) && true))))))) then l (some (false,())) else bif (!(decide (VP.2.1=UO.2.1))) then l (some (false,())) else bif (decide (x.2.1 < (1:Int))) then cl (nQ).dflt (qf ()) (fun u20=>l (some u20)) (l none) else bif (decide ((W (((x.1.1.n:Nat):Int) - (1:Int))) < x.2.1)) then cl (nQ).dflt (qf ()) (fun u21=>l (some u21)) (l none) else cl (MF).dflt (XV (x.1,(x.2.1,()))) (fun u22=>cl (MF).dflt (XV (u9.1,((W ((W ((W (((x.1.1.n:Nat):Int) - (1:Int))) - x.2.1)) + (1:Int))),()))) (fun Dh=>bif (!(decide (u22.2.1=Dh.2.1))) then l (some (false,())) else bif (!(decide (u22.2.1=vD.2.1))) then l (some (false,())) else bif (!(decide (u22.2.1=(0:Int)))) then cl (nQ).dflt (qf ()) (fun Xd=>l (some Xd)) (l none) else bif (decide (((0:Int)<=x.2.1)/\(x.2.1 < ((x.1.1.n:Nat):Int)))) then bif (decide (((0:Int)<=(W (x.2.1 - (1:Int))))/\((W (x.2.1 - (1:Int))) < ((x.1.1.n:Nat):Int)))) then cl (r31).dflt (M31 (u22.1,((((x.1.1.g (Int.toNat x.2.1)).2.1.n:Nat):Int),((((x.1.1.g (Int.toNat (W (x.2.1 - (1:Int))))).2.1.n:Nat):Int),())))) (fun WL=>bif (!WL.1) then l (some (false,())) else bif (decide (((0:Int)<=(W (x.2.1 - (1:Int))))/\((W (x.2.1 - (1:Int))) < ((x.1.1.n:Nat):Int)))) then bif (decide (((0:Int)<=x.2.1)/\(x.2.1 < ((x.1.1.n:Nat):Int)))) then cl (r31).dflt (M31 (Dh.1,((((x.1.1.g (Int.toNat (W (x.2.1 - (1:Int))))).2.1.n:Nat):Int),((((x.1.1.g (Int.toNat x.2.1)).2.1.n:Nat):Int),())))) (fun Xo=>bif (!Xo.1) then l (some (false,())) else aF (aJ0 (u22.1,(Dh.1,())) ((0:Int),())) 2 (fun Gp=>cl (nQ).dflt (qf ()) (fun u28=>l (some u28)) (l none)) (bS (aJ0 (u22.1,(Dh.1,())) ((0:Int),())) (fun u29=>l (some u29)) (l none))) (l none) else l none else l none) (l none) else l none else l none) (l none)) (l none)) (l none)) (l none) else bif (decide (x.2.1 < (1:Int))) then cl (nQ).dflt (qf ()) (fun u30=>l (some u30)) (l none) else bif (decide ((W (((x.1.1.n:Nat):Int) - (1:Int))) < x.2.1)) then cl (nQ).dflt (qf ()) (fun u31=>l (some u31)) (l none) else cl (MF).dflt (XV (x.1,(x.2.1,()))) (fun u32=>cl (MF).dflt (XV (u9.1,((W ((W ((W (((x.1.1.n:Nat):Int) - (1:Int))) - x.2.1)) + (1:Int))),()))) (fun u33=>bif (!(decide (u32.2.1=u33.2.1))) then l (some (false,())) else bif (!(decide (u32.2.1=vD.2.1))) then l (some (false,())) else bif (!(decide (u32.2.1=(0:Int)))) then cl (nQ).dflt (qf ()) (fun u34=>l (some u34)) (l none) else bif (decide (((0:Int)<=x.2.1)/\(x.2.1 < ((x.1.1.n:Nat):Int)))) then bif (decide (((0:Int)<=(W (x.2.1 - (1:Int))))/\((W (x.2.1 - (1:Int))) < ((x.1.1.n:Nat):Int)))) then cl (r31).dflt (M31 (u32.1,((((x.1.1.g (Int.toNat x.2.1)).2.1.n:Nat):Int),((((x.1.1.g (Int.toNat (W (x.2.1 - (1:Int))))).2.1.n:Nat):Int),())))) (fun u35=>bif (!u35.1) then l (some (false,())) else bif (decide (((0:Int)<=(W (x.2.1 - (1:Int))))/\((W (x.2.1 - (1:Int))) < ((x.1.1.n:Nat):Int)))) then bif (decide (((0:Int)<=x.2.1)/\(x.2.1 < ((x.1.1.n:Nat):Int)))) then cl (r31).dflt (M31 (u33.1,((((x.1.1.g (Int.toNat (W (x.2.1 - (1:Int))))).2.1.n:Nat):Int),((((x.1.1.g (Int.toNat x.2.1)).2.1.n:Nat):Int),())))) (fun u36=>bif (!u36.1) then l (some (false,())) else aF (aJ0 (u32.1,(u33.1,())) ((0:Int),())) 2 (fun u37=>cl (nQ).dflt (qf ()) (fun u38=>l (some u38)) (l none)) (bS (aJ0 (u32.1,(u33.1,())) ((0:Int),())) (fun u39=>l (some u39)) (l none))) (l none) else l none else l none) (l none) else l none else l none) (l none)) (l none)) (l none)) (bS (aTq (x.2.1,(x.2.2.1,((),((),(vD.1,(vD.2.1,(lM.1,(MA.1,(Df.1,((W (((x.1.1.n:Nat):Int) - (1:Int))),(x.1,(u9.1,())))))))))))) ((0:Int),())) (fun u40=>l (some u40)) (l none))) (l none)) (l none)) (l none)) (l none)) (l none)) (l none)) (l none)) (l none)) (l none)) (l none)
theorem q6:QO G6 Try.f6 l6 a6 r6 Q6:=fun _=>by kernel_rfl
def M6 (x:(a6).den):Option (r6).den:=Q6 (fun r=>r) (fun _ _=>none) x
theorem m6:MO G6 Try.f6 l6 M6:=fun x=>by rw [q6]; unfold M6 Q6; simp only [Tree.sure,iO]
def p6:=pO M6
def v6:=vO (τ:=r6) M6
def k6:ee:=⟨a6,r6,p6,v6⟩
theorem h6:Holds Try.prog 6 k6:=hO cl6 g6 m6 fun G' hlo hF hE=>ai (by rw [lo6]; exact .cons (lv hE hF hlo (ln aV6) aQm aZY) (.cons (lv hE hF hlo (ai (by rw [aV9]; exact .cons (lv hE hF hlo (ln aPk) afs aTs) (.nil))) aQo aZ0) (.nil)))
abbrev ayA:Ty:=(.cons tI T6)
abbrev aIo:Ty:=(.cons PV ayA)
abbrev ayB:Ty:=(.cons anf T5)
abbrev aIp:Ty:=(.cons PV ayB)
end Go.Dm

/-
 Each function of the program as a Lean function,and that its calls come to what that says.
-/
import Derived.Test.YtadkaccpacpklaaGreatL3GA
set_option linter.unusedVariables false
set_option linter.unusedSimpArgs false
namespace Go.Dm
open Go.RowKit Go.Proofs
set_option maxRecDepth 100000
noncomputable def c38:=zo Tryz.f38
theorem aZG:zq 38 Tryz.f38 c38:=zu
abbrev a38:Ty:=Jd
abbrev r38:Ty:=T3
noncomputable def G38:Ctx:=Ctx.of [(40,.pure k40),(74,.pure k74)]
theorem g38:SP G38:=aD (fa ⟨⟨apq.c,h40⟩,fa ⟨⟨aa7.c,h74⟩,f0⟩⟩)
noncomputable def aAw:Code:=aG ((af (c38))[0]?)
noncomputable def apX:Code:=aG ((af (aAw))[0]?)
theorem aJE:af (apX)=[]:=by kernel_rfl
abbrev aaZ:List aL:=[.slot 1 (.ptr 1),.slot 3 (.pc tI),.slot 4 (.ptr 103),.box 1 [.pc eX,.pc tI,.pc tI,.pc tI,.pc tI],.box 103 [.pc tI,.pc (.sl T6)]]
abbrev WD:List aL:=[.slot 5 (.pc tI)]
abbrev anQ:List aL:=aaZ ++ WD
def aFq:ZJ aaZ WD anQ:=ZA _ _
def aa0:ZS aaZ WD anQ:=ZP _ _
abbrev ah2:aO:=⟨[(2,[.slot 1 (.ptr 1),.slot 3 (.pc tI),.box 1 [.pc eX,.pc tI,.pc tI,.pc tI,.pc tI]])],[.slot 2 (.pc .bool)],[]⟩
abbrev anR:aO:=⟨[(2,[])],[.slot 2 (.pc .bool)],[]⟩
def anS:ZE aaZ anR ah2:=fun id=>match id with | 2=>fun c y=>(c.1,(c.2.1,(c.2.2.2.1,y))) | _=>jm
def ay0 {α:Type} (l:RQ WD anR->α) (an:α->α->α) (c:ZD aaZ) (v:ZD WD):α:=bif (decide (v.1 < ((c.2.2.2.2.1.2.1.n:Nat):Int))) then bif (decide (((0:Int)<=v.1)/\(v.1 < ((c.2.2.2.2.1.2.1.n:Nat):Int)))) then cl (Wa).dflt (WW (((c.2.2.2.2.1.2.1.g (Int.toNat v.1)).1,((c.2.2.2.2.1.2.1.g (Int.toNat v.1)).2.1,())),((100:Int),()))) (fun u0=>bif (!u0.1) then l (.out (.ret (false,()))) else cl (Wa).dflt (WW (((c.2.2.2.2.1.2.1.g (Int.toNat v.1)).2.2.1,((c.2.2.2.2.1.2.1.g (Int.toNat v.1)).2.2.2.1,())),((100:Int),()))) (fun u1=>bif (!u1.1) then l (.out (.ret (false,()))) else cl (Wa).dflt (WW ((c.2.2.2.2.1.2.1.g (Int.toNat v.1)).2.2.2.2,((99999:Int),()))) (fun u2=>bif (!u2.1) then l (.out (.ret (false,()))) else l (.next ((W (v.1 + (1:Int))),()))) (l .bad)) (l .bad)) (l .bad) else l .bad else l (.out (.exit 2 ()))
theorem aPc:ZO G38 0 97 apX [] aFq anS ZI ZI ay0:=fun _ _=>by kernel_rfl
def ay1 (c:ZD aaZ) (v:ZD WD):RQ WD anR:=ay0 (fun r=>r) (fun _ _=>.bad) c v
theorem aPd:SO G38 0 97 apX [] aFq anS ZI ZI ay1:=fun c v=>by rw [aPc]; unfold ay1 ay0; simp only [bu,aM,pM]
def ay2 (c:ZD aaZ) (v:ZD WD):LQ anR:=aH (ay1 c) cz v
theorem aTg:af (aAw)=[.loop apX]:=by kernel_rfl
abbrev ak8:List aL:=[.slot 1 (.ptr 1),.box 1 [.pc eX,.pc tI,.pc tI,.pc tI,.pc tI]]
abbrev ah3:List aL:=[.slot 3 (.pc tI)]
abbrev aJF:List aL:=ak8 ++ ah3
def aQb:ZJ ak8 ah3 aJF:=ZA _ _
def aJG:ZS ak8 ah3 aJF:=ZP _ _
abbrev aTh:aO:=⟨[(0,[.slot 1 (.ptr 1),.box 1 [.pc eX,.pc tI,.pc tI,.pc tI,.pc tI]])],[.slot 2 (.pc .bool)],[]⟩
abbrev ay3:aO:=⟨[(0,[])],[.slot 2 (.pc .bool)],[]⟩
def aD2:ZE ak8 ay3 aTh:=fun id=>match id with | 0=>fun c y=>(c.1,(c.2.1,y)) | _=>jm
def aJH {α:Type} (l:RQ ah3 ay3->α) (an:α->α->α) (c:ZD ak8) (v:ZD ah3):α:=bif (decide (v.1 < ((c.2.1.1.n:Nat):Int))) then bif (decide (((0:Int)<=v.1)/\(v.1 < ((c.2.1.1.n:Nat):Int)))) then cl (Rb).dflt (M40 ((c.2.1.1.g (Int.toNat v.1)).1,((0:Int),((200:Int),())))) (fun u3=>bif (!u3.1) then l (.out (.ret (false,()))) else bif (decide ((0:Int) < v.1)) then bif (decide (((0:Int)<=(W (v.1 - (1:Int))))/\((W (v.1 - (1:Int))) < ((c.2.1.1.n:Nat):Int)))) then bif (decide ((c.2.1.1.g (Int.toNat v.1)).1<=(c.2.1.1.g (Int.toNat (W (v.1 - (1:Int))))).1)) then l (.out (.ret (false,()))) else bif (decide ((3:Int) < (((c.2.1.1.g (Int.toNat v.1)).2.1.n:Nat):Int))) then l (.out (.ret (false,()))) else aF (ay2 ((),(v.1,((),(c.2.1,((c.2.1.1.g (Int.toNat v.1)),()))))) ((0:Int),())) 2 (fun u4=>l (.next ((W (v.1 + (1:Int))),()))) (bS (ay2 ((),(v.1,((),(c.2.1,((c.2.1.1.g (Int.toNat v.1)),()))))) ((0:Int),())) (fun u5=>l (.out (.ret u5))) (l .bad)) else l .bad else bif (decide ((3:Int) < (((c.2.1.1.g (Int.toNat v.1)).2.1.n:Nat):Int))) then l (.out (.ret (false,()))) else aF (ay2 ((),(v.1,((),(c.2.1,((c.2.1.1.g (Int.toNat v.1)),()))))) ((0:Int),())) 2 (fun u6=>l (.next ((W (v.1 + (1:Int))),()))) (bS (ay2 ((),(v.1,((),(c.2.1,((c.2.1.1.g (Int.toNat v.1)),()))))) ((0:Int),())) (fun u7=>l (.out (.ret u7))) (l .bad))) (l .bad) else l .bad else l (.out (.exit 0 ()))
theorem aVS:ZO G38 0 97 aAw [.known (bF 0 [] anQ fun x=>aJ ah2 anS ZI ZI [] true (aa0 x).1 (ay2 (aa0 x).1 (aa0 x).2) ah2.bw)] aQb aD2 ZI ZI aJH:=fun _ _=>by kernel_rfl
def aJI (c:ZD ak8) (v:ZD ah3):RQ ah3 ay3:=aJH (fun r=>r) (fun _ _=>.bad) c v
theorem aVT:SO G38 0 97 aAw [.known (bF 0 [] anQ fun x=>aJ ah2 anS ZI ZI [] true (aa0 x).1 (ay2 (aa0 x).1 (aa0 x).2) ah2.bw)] aQb aD2 ZI ZI aJI:=fun c v=>by rw [aVS]; unfold aJI aJH; simp only [bu,aM,pM]
def aQc (c:ZD ak8) (v:ZD ah3):LQ ay3:=aH (aJI c) cz v
theorem aZH:af (c38)=[.loop aAw]:=by kernel_rfl
noncomputable def l38:List Loop:=[lk 0 aD2 ZI ZI true aJG aQc]
def Q38 {α:Type} (l:Option (r38).den->α) (an:α->α->α) (x:(a38).den):α:=aF (aQc ((),(x.1,())) ((0:Int),())) 0 (fun u8=>cl (Rb).dflt (M40 (((x.1.1.n:Nat):Int),((1:Int),((4:Int),())))) (fun u9=>bif u9.1 then cl (Rb).dflt (M40 (x.1.2.1,((0:Int),((50:Int),())))) (fun vD=>bif vD.1 then cl (Rb).dflt (M40 (x.1.2.2.1,((0:Int),((1000:Int),())))) (fun lM=>bif lM.1 then cl (Rb).dflt (M40 (x.1.2.2.2.1,((0:Int),((12:Int),())))) (fun MA=>bif MA.1 then cl (Rb).dflt (M40 (x.1.2.2.2.2.1,((0:Int),((12:Int),())))) (fun Df=>l (some Df)) (l none) else l (some (false,()))) (l none) else l (some (false,()))) (l none) else l (some (false,()))) (l none) else l (some (false,()))) (l none)) (bS (aQc ((),(x.1,())) ((0:Int),())) (fun PX=>l (some PX)) (l none))
theorem q38:QO G38 Tryz.f38 l38 a38 r38 Q38:=fun _=>by kernel_rfl
def M38 (x:(a38).den):Option (r38).den:=Q38 (fun r=>r) (fun _ _=>none) x
theorem m38:MO G38 Tryz.f38 l38 M38:=fun x=>by rw [q38]; unfold M38 Q38; simp only [Tree.sure,iO]
def p38:=pO M38
def v38:=vO (τ:=r38) M38
def k38:ee:=⟨a38,r38,p38,v38⟩
theorem h38:Holds Tryz.prog 38 k38:=hO aZG g38 m38 fun G' hlo hF hE=>ai (by rw [aZH]; exact .cons (lv hE hF hlo (ai (by rw [aTg]; exact .cons (lv hE hF hlo (ln aJE) aa0 aPd) (.nil))) aJG aVT) (.nil))
noncomputable def c42:=zo Tryz.f42
theorem aVP:zq 42 Tryz.f42 c42:=zu
abbrev a42:Ty:=OG
abbrev r42:Ty:=T0
noncomputable def G42:Ctx:=Ctx.of []
theorem g42:SP G42:=aD f0
noncomputable def aGR:Code:=aG ((af (c42))[0]?)
noncomputable def aDH:Code:=aG ((af (aGR))[0]?)
theorem aMM:af (aDH)=[]:=by kernel_rfl
abbrev apT:List aL:=[.slot 0 (.pc ec),.slot 4 (.pc tI)]
abbrev iD:List aL:=[.slot 3 (.pc tI),.slot 5 (.pc tI)]
abbrev aAU:List aL:=apT ++ iD
def aLc:ZJ apT iD aAU:=ZA _ _
def aqd:ZS apT iD aAU:=ZP _ _
abbrev awj:aO:=⟨[(2,[.slot 0 (.pc ec),.slot 4 (.pc tI),.slot 3 (.pc tI)])],[],[]⟩
abbrev aqg:aO:=⟨[(2,[.slot 3 (.pc tI)])],[],[]⟩
def aAV:ZE apT aqg awj:=fun id=>match id with | 2=>fun c y=>(c.1,(c.2.1,y)) | _=>jm
def aAW {α:Type} (l:RQ iD aqg->α) (an:α->α->α) (c:ZD apT) (v:ZD iD):α:=bif (decide (((0:Int)<=c.2.1)/\(c.2.1 < ((c.1.n:Nat):Int)))) then bif (decide (v.2.1 < (((c.1.g (Int.toNat c.2.1)).1.n:Nat):Int))) then bif (decide (((0:Int)<=c.2.1)/\(c.2.1 < ((c.1.n:Nat):Int)))) then bif (decide (((0:Int)<=v.2.1)/\(v.2.1 < (((c.1.g (Int.toNat c.2.1)).1.n:Nat):Int)))) then bif (decide (((c.1.g (Int.toNat c.2.1)).1.g (Int.toNat v.2.1)).1=(-1:Int))) then l (.next ((W (v.1 + (1:Int))),((W (v.2.1 + (1:Int))),()))) else l (.next (v.1,((W (v.2.1 + (1:Int))),()))) else l .bad else l .bad else l (.out (.exit 2 (v.1,()))) else l .bad
theorem aOu:ZO G42 0 32 aDH [] aLc aAV ZI ZI aAW:=fun _ _=>by kernel_rfl
def axG (c:ZD apT) (v:ZD iD):RQ iD aqg:=aAW (fun r=>r) (fun _ _=>.bad) c v
theorem aOv:SO G42 0 32 aDH [] aLc aAV ZI ZI axG:=fun c v=>by rw [aOu]; unfold axG aAW; simp only [bu,aM,pM]
def aAY (c:ZD apT) (v:ZD iD):LQ aqg:=aH (axG c) cz v
theorem aUO:af (aGR)=[.loop aDH]:=by kernel_rfl
abbrev ayw:List aL:=[.slot 0 (.pc ec)]
abbrev auv:List aL:=[.slot 3 (.pc tI),.slot 4 (.pc tI)]
abbrev aMN:List aL:=ayw ++ auv
def aRn:ZJ ayw auv aMN:=ZA _ _
def aMO:ZS ayw auv aMN:=ZP _ _
abbrev aUV:aO:=⟨[(0,[.slot 3 (.pc tI)])],[],[]⟩
abbrev aEA:aO:=⟨[(0,[.slot 3 (.pc tI)])],[],[]⟩
def aH9:ZE ayw aEA aUV:=fun id=>match id with | 0=>fun c y=>y | _=>jm
def aGS {α:Type} (l:RQ auv aEA->α) (an:α->α->α) (c:ZD ayw) (v:ZD auv):α:=bif (decide (v.2.1 < ((c.1.n:Nat):Int))) then aF (aAY (c.1,v.2) (v.1,((0:Int),()))) 2 (fun u0=>l (.next (u0.1,((W (v.2.1 + (1:Int))),())))) (l .bad) else l (.out (.exit 0 (v.1,())))
theorem bab:ZO G42 0 32 aGR [.known (bF 0 [] aAU fun x=>aJ awj aAV ZI ZI [] false (aqd x).1 (aAY (aqd x).1 (aqd x).2) awj.bw)] aRn aH9 ZI ZI aGS:=fun _ _=>by kernel_rfl
def aEW (c:ZD ayw) (v:ZD auv):RQ auv aEA:=aGS (fun r=>r) (fun _ _=>.bad) c v
theorem bac:SO G42 0 32 aGR [.known (bF 0 [] aAU fun x=>aJ awj aAV ZI ZI [] false (aqd x).1 (aAY (aqd x).1 (aqd x).2) awj.bw)] aRn aH9 ZI ZI aEW:=fun c v=>by rw [bab]; unfold aEW aGS; simp only [bu,aM,pM]
def aLd (c:ZD ayw) (v:ZD auv):LQ aEA:=aH (aEW c) cz v
theorem bfR:af (c42)=[.loop aGR]:=by kernel_rfl
noncomputable def l42:List Loop:=[lk 0 aH9 ZI ZI false aMO aLd]
def Q42 {α:Type} (l:Option (r42).den->α) (an:α->α->α) (x:(a42).den):α:=aF (aLd x ((0:Int),((1:Int),()))) 0 (fun u1=>l (some u1)) (l none)
theorem q42:QO G42 Tryz.f42 l42 a42 r42 Q42:=fun _=>by kernel_rfl
def M42 (x:(a42).den):Option (r42).den:=Q42 (fun r=>r) (fun _ _=>none) x
theorem m42:MO G42 Tryz.f42 l42 M42:=fun x=>by rw [q42]; unfold M42 Q42; simp only [Tree.sure,iO]
def p42:=pO M42
def v42:=vO (τ:=r42) M42
def k42:ee:=⟨a42,r42,p42,v42⟩
theorem h42:Holds Tryz.prog 42 k42:=hO aVP g42 m42 fun G' hlo hF hE=>ai (by rw [bfR]; exact .cons (lv hE hF hlo (ai (by rw [aUO]; exact .cons (lv hE hF hlo (ln aMM) aqd aOv) (.nil))) aMO bac) (.nil))
noncomputable def c76:=zo Tryz.f76
theorem at8:zq 76 Tryz.f76 c76:=zu
abbrev a76:Ty:=T29
abbrev r76:Ty:=T3
noncomputable def G76:Ctx:=Ctx.of []
theorem g76:SP G76:=aD f0
noncomputable def aLe:Code:=aG ((af (c76))[0]?)
theorem aUX:af (aLe)=[]:=by kernel_rfl
abbrev ayx:List aL:=[.slot 0 (.pc (.sl T0)),.slot 1 (.pc tI)]
abbrev aqh:List aL:=[.slot 5 (.pc tI)]
abbrev aMP:List aL:=ayx ++ aqh
def aRo:ZJ ayx aqh aMP:=ZA _ _
def aMQ:ZS ayx aqh aMP:=ZP _ _
abbrev aUZ:aO:=⟨[(0,[])],[.slot 4 (.pc .bool)],[]⟩
abbrev au2:aO:=⟨[(0,[])],[.slot 4 (.pc .bool)],[]⟩
def aIa:ZE ayx au2 aUZ:=fun id=>match id with | 0=>fun c y=>y | _=>jm
def aGT {α:Type} (l:RQ aqh au2->α) (an:α->α->α) (c:ZD ayx) (v:ZD aqh):α:=bif (decide (v.1 < ((c.1.n:Nat):Int))) then bif (decide (((0:Int)<=v.1)/\(v.1 < ((c.1.n:Nat):Int)))) then bif (decide ((c.1.g (Int.toNat v.1)).1=c.2.1)) then l (.out (.ret (true,()))) else l (.next ((W (v.1 + (1:Int))),())) else l .bad else l (.out (.exit 0 ()))
theorem bag:ZO G76 0 18 aLe [] aRo aIa ZI ZI aGT:=fun _ _=>by kernel_rfl
def aGU (c:ZD ayx) (v:ZD aqh):RQ aqh au2:=aGT (fun r=>r) (fun _ _=>.bad) c v
theorem baj:SO G76 0 18 aLe [] aRo aIa ZI ZI aGU:=fun c v=>by rw [bag]; unfold aGU aGT; simp only [bu,aM,pM]
def aGV (c:ZD ayx) (v:ZD aqh):LQ au2:=aH (aGU c) cz v
theorem aCt:af (c76)=[.loop aLe]:=by kernel_rfl
noncomputable def l76:List Loop:=[lk 0 aIa ZI ZI true aMQ aGV]
def Q76 {α:Type} (l:Option (r76).den->α) (an:α->α->α) (x:(a76).den):α:=aF (aGV x ((0:Int),())) 0 (fun u0=>l (some (false,()))) (bS (aGV x ((0:Int),())) (fun u1=>l (some u1)) (l none))
theorem q76:QO G76 Tryz.f76 l76 a76 r76 Q76:=fun _=>by kernel_rfl
def M76 (x:(a76).den):Option (r76).den:=Q76 (fun r=>r) (fun _ _=>none) x
theorem m76:MO G76 Tryz.f76 l76 M76:=fun x=>by rw [q76]; unfold M76 Q76; simp only [Tree.sure,iO]
def p76:=pO M76
def v76:=vO (τ:=r76) M76
def k76:ee:=⟨a76,r76,p76,v76⟩
theorem h76:Holds Tryz.prog 76 k76:=hO at8 g76 m76 fun G' hlo hF hE=>ai (by rw [aCt]; exact .cons (lv hE hF hlo (ln aUX) aMQ baj) (.nil))
noncomputable def c43:=zo Tryz.f43
theorem ar6:zq 43 Tryz.f43 c43:=zu
abbrev TR:Ty:=OG
abbrev Rc:Ty:=T0
noncomputable def G43:Ctx:=Ctx.of [(76,.pure k76)]
theorem g43:SP G43:=aD (fa ⟨⟨at8.c,h76⟩,f0⟩)
noncomputable def abE:Code:=aG ((af (c43))[0]?)
noncomputable def aDM:Code:=aG ((af (abE))[0]?)
theorem aMR:af (aDM)=[]:=by kernel_rfl
abbrev aql:List aL:=[.slot 0 (.pc ec),.slot 4 (.pc tI)]
abbrev iX:List aL:=[.slot 3 (.pc tI),.slot 5 (.pc tI)]
abbrev aAZ:List aL:=aql ++ iX
def aLf:ZJ aql iX aAZ:=ZA _ _
def aqn:ZS aql iX aAZ:=ZP _ _
abbrev awl:aO:=⟨[(2,[.slot 0 (.pc ec),.slot 4 (.pc tI),.slot 3 (.pc tI)])],[],[]⟩
abbrev aqs:aO:=⟨[(2,[.slot 3 (.pc tI)])],[],[]⟩
def aA0:ZE aql aqs awl:=fun id=>match id with | 2=>fun c y=>(c.1,(c.2.1,y)) | _=>jm
def aA1 {α:Type} (l:RQ iX aqs->α) (an:α->α->α) (c:ZD aql) (v:ZD iX):α:=bif (decide (((0:Int)<=(W (c.2.1 - (1:Int))))/\((W (c.2.1 - (1:Int))) < ((c.1.n:Nat):Int)))) then bif (decide (v.2.1 < (((c.1.g (Int.toNat (W (c.2.1 - (1:Int))))).1.n:Nat):Int))) then bif (decide (((0:Int)<=c.2.1)/\(c.2.1 < ((c.1.n:Nat):Int)))) then cl (r76).dflt (M76 ((c.1.g (Int.toNat c.2.1)).1,v.2)) (fun u0=>bif (!u0.1) then l (.next ((W (v.1 + (1:Int))),((W (v.2.1 + (1:Int))),()))) else l (.next (v.1,((W (v.2.1 + (1:Int))),())))) (l .bad) else l .bad else l (.out (.exit 2 (v.1,()))) else l .bad
theorem aOy:ZO G43 0 32 aDM [] aLf aA0 ZI ZI aA1:=fun _ _=>by kernel_rfl
def aA3 (c:ZD aql) (v:ZD iX):RQ iX aqs:=aA1 (fun r=>r) (fun _ _=>.bad) c v
theorem aOz:SO G43 0 32 aDM [] aLf aA0 ZI ZI aA3:=fun c v=>by rw [aOy]; unfold aA3 aA1; simp only [bu,aM,pM]
def aA4 (c:ZD aql) (v:ZD iX):LQ aqs:=aH (aA3 c) cz v
theorem aeC:af (abE)=[.loop aDM]:=by kernel_rfl
abbrev ayQ:List aL:=[.slot 0 (.pc ec)]
abbrev auw:List aL:=[.slot 3 (.pc tI),.slot 4 (.pc tI)]
abbrev aMS:List aL:=ayQ ++ auw
def aRp:ZJ ayQ auw aMS:=ZA _ _
def aMT:ZS ayQ auw aMS:=ZP _ _
abbrev aU3:aO:=⟨[(0,[.slot 3 (.pc tI)])],[],[]⟩
abbrev aEB:aO:=⟨[(0,[.slot 3 (.pc tI)])],[],[]⟩
def aIr:ZE ayQ aEB aU3:=fun id=>match id with | 0=>fun c y=>y | _=>jm
def aGW {α:Type} (l:RQ auw aEB->α) (an:α->α->α) (c:ZD ayQ) (v:ZD auw):α:=bif (decide (v.2.1 < ((c.1.n:Nat):Int))) then aF (aA4 (c.1,v.2) (v.1,((0:Int),()))) 2 (fun u1=>l (.next (u1.1,((W (v.2.1 + (1:Int))),())))) (l .bad) else l (.out (.exit 0 (v.1,())))
theorem bak:ZO G43 0 32 abE [.known (bF 0 [] aAZ fun x=>aJ awl aA0 ZI ZI [] false (aqn x).1 (aA4 (aqn x).1 (aqn x).2) awl.bw)] aRp aIr ZI ZI aGW:=fun _ _=>by kernel_rfl
def aEX (c:ZD ayQ) (v:ZD auw):RQ auw aEB:=aGW (fun r=>r) (fun _ _=>.bad) c v
theorem bal:SO G43 0 32 abE [.known (bF 0 [] aAZ fun x=>aJ awl aA0 ZI ZI [] false (aqn x).1 (aA4 (aqn x).1 (aqn x).2) awl.bw)] aRp aIr ZI ZI aEX:=fun c v=>by rw [bak]; unfold aEX aGW; simp only [bu,aM,pM]
def aLg (c:ZD ayQ) (v:ZD auw):LQ aEB:=aH (aEX c) cz v
theorem axF:af (c43)=[.loop abE]:=by kernel_rfl
noncomputable def l43:List Loop:=[lk 0 aIr ZI ZI false aMT aLg]
def Q43 {α:Type} (l:Option (Rc).den->α) (an:α->α->α) (x:(TR).den):α:=aF (aLg x ((0:Int),((1:Int),()))) 0 (fun u2=>l (some u2)) (l none)
theorem q43:QO G43 Tryz.f43 l43 TR Rc Q43:=fun _=>by kernel_rfl
def M43 (x:(TR).den):Option (Rc).den:=Q43 (fun r=>r) (fun _ _=>none) x
theorem m43:MO G43 Tryz.f43 l43 M43:=fun x=>by rw [q43]; unfold M43 Q43; simp only [Tree.sure,iO]
def p43:=pO M43
def v43:=vO (τ:=Rc) M43
def k43:ee:=⟨TR,Rc,p43,v43⟩
theorem h43:Holds Tryz.prog 43 k43:=hO ar6 g43 m43 fun G' hlo hF hE=>ai (by rw [axF]; exact .cons (lv hE hF hlo (ai (by rw [aeC]; exact .cons (lv hE hF hlo (ln aMR) aqn aOz) (.nil))) aMT bal) (.nil))
noncomputable def c41:=zo Tryz.f41
theorem aue:zq 41 Tryz.f41 c41:=zu
abbrev a41:Ty:=T1
abbrev MI:Ty:=OG
noncomputable def G41:Ctx:=Ctx.of [(76,.pure k76)]
theorem g41:SP G41:=aD (fa ⟨⟨at8.c,h76⟩,f0⟩)
noncomputable def Mw:Code:=aG ((af (c41))[0]?)
noncomputable def aA5:Code:=aG ((af (Mw))[0]?)
noncomputable def axT:Code:=aG ((af (aA5))[0]?)
theorem aIt:af (axT)=[]:=by kernel_rfl
abbrev aeB:List aL:=[.slot 0 (.pc tI),.slot 1 (.pc tI),.slot 5 (.pc ec),.slot 6 (.pc tI),.slot 8 (.pc tI)]
abbrev ia:List aL:=[.slot 7 (.own 1000007 63 nK),.slot 9 (.pc tI)]
abbrev au3:List aL:=aeB ++ ia
def aEY:ZJ aeB ia au3:=ZA _ _
def aeO:ZS aeB ia au3:=ZP _ _
abbrev aqt:aO:=⟨[(4,[.slot 0 (.pc tI),.slot 1 (.pc tI),.slot 5 (.pc ec),.slot 6 (.pc tI),.slot 8 (.pc tI),.slot 7 (.own 1000007 63 nK)])],[],[]⟩
abbrev agV:aO:=⟨[(4,[.slot 7 (.own 1000007 63 nK)])],[],[]⟩
def au4:ZE aeB agV aqt:=fun id=>match id with | 4=>fun c y=>(c.1,(c.2.1,(c.2.2.1,(c.2.2.2.1,(c.2.2.2.2.1,y))))) | _=>jm
def amU {α:Type} (l:RQ ia agV->α) (an:α->α->α) (c:ZD aeB) (v:ZD ia):α:=bif (decide (v.2.1 < c.2.1)) then bif (decide (v.2.1 < (0:Int))) then bif (decide (((0:Int)<=c.2.2.2.2.1)/\(c.2.2.2.2.1 < ((c.2.2.1.n:Nat):Int)))) then bif (decide (((c.2.2.1.g (Int.toNat c.2.2.2.2.1)).1.n * 8)<=140737488355328)) then bif (decide ((((c.2.2.1.g (Int.toNat c.2.2.2.2.1)).1.n + 1) * 8)<=140737488355328)) then bif (decide (((v.1.n + 1) * 24)<=140737488355328)) then l (.next ((cK v.1 (⟨1,fun i=>List.getD [((cK (c.2.2.1.g (Int.toNat c.2.2.2.2.1)).1 (⟨1,fun i=>List.getD [v.2] i v.2⟩:Sl (Ty.den T0))),())] i ((cK (c.2.2.1.g (Int.toNat c.2.2.2.2.1)).1 (⟨1,fun i=>List.getD [v.2] i v.2⟩:Sl (Ty.den T0))),())⟩:Sl (Ty.den nK))),((W (v.2.1 + (1:Int))),()))) else l .bad else l .bad else l .bad else l .bad else bif (decide (((0:Int)<=c.2.2.2.2.1)/\(c.2.2.2.2.1 < ((c.2.2.1.n:Nat):Int)))) then cl (r76).dflt (M76 ((c.2.2.1.g (Int.toNat c.2.2.2.2.1)).1,v.2)) (fun u0=>bif (!u0.1) then bif (decide (((0:Int)<=c.2.2.2.2.1)/\(c.2.2.2.2.1 < ((c.2.2.1.n:Nat):Int)))) then bif (decide (((c.2.2.1.g (Int.toNat c.2.2.2.2.1)).1.n * 8)<=140737488355328)) then bif (decide ((((c.2.2.1.g (Int.toNat c.2.2.2.2.1)).1.n + 1) * 8)<=140737488355328)) then bif (decide (((v.1.n + 1) * 24)<=140737488355328)) then l (.next ((cK v.1 (⟨1,fun i=>List.getD [((cK (c.2.2.1.g (Int.toNat c.2.2.2.2.1)).1 (⟨1,fun i=>List.getD [v.2] i v.2⟩:Sl (Ty.den T0))),())] i ((cK (c.2.2.1.g (Int.toNat c.2.2.2.2.1)).1 (⟨1,fun i=>List.getD [v.2] i v.2⟩:Sl (Ty.den T0))),())⟩:Sl (Ty.den nK))),((W (v.2.1 + (1:Int))),()))) else l .bad else l .bad else l .bad else l .bad else l (.next (v.1,((W (v.2.1 + (1:Int))),())))) (l .bad) else l .bad else l (.out (.exit 4 (v.1,())))
theorem aLU:ZO G41 0 51 axT [] aEY au4 ZI ZI amU:=fun _ _=>by kernel_rfl
def ajk (c:ZD aeB) (v:ZD ia):RQ ia agV:=amU (fun r=>r) (fun _ _=>.bad) c v
theorem aLV:SO G41 0 51 axT [] aEY au4 ZI ZI ajk:=fun c v=>by rw [aLU]; unfold ajk amU; simp only [bu,aM,pM]
def auC (c:ZD aeB) (v:ZD ia):LQ agV:=aH (ajk c) cz v
theorem aMU:af (aA5)=[.loop axT]:=by kernel_rfl
abbrev aqu:List aL:=[.slot 0 (.pc tI),.slot 1 (.pc tI),.slot 5 (.pc ec),.slot 6 (.pc tI)]
abbrev LG:List aL:=[.slot 7 (.own 1000007 63 nK),.slot 8 (.pc tI)]
abbrev aA6:List aL:=aqu ++ LG
def aLh:ZJ aqu LG aA6:=ZA _ _
def aqv:ZS aqu LG aA6:=ZP _ _
abbrev awy:aO:=⟨[(2,[.slot 0 (.pc tI),.slot 1 (.pc tI),.slot 6 (.pc tI),.slot 7 (.pc (.sl nK))])],[],[]⟩
abbrev aw6:aO:=⟨[(2,[.slot 7 (.pc (.sl nK))])],[],[]⟩
def aA7:ZE aqu aw6 awy:=fun id=>match id with | 2=>fun c y=>(c.1,(c.2.1,(c.2.2.2.1,y))) | _=>jm
def aBb {α:Type} (l:RQ LG aw6->α) (an:α->α->α) (c:ZD aqu) (v:ZD LG):α:=bif (decide (v.2.1 < ((c.2.2.1.n:Nat):Int))) then aF (auC (c.1,(c.2.1,(c.2.2.1,(c.2.2.2.1,v.2)))) (v.1,((-1:Int),()))) 4 (fun u1=>l (.next (u1.1,((W (v.2.1 + (1:Int))),())))) (l .bad) else l (.out (.exit 2 (v.1,())))
theorem aOB:ZO G41 0 51 aA5 [.known (bF 0 [] au3 fun x=>aJ aqt au4 ZI ZI [] false (aeO x).1 (auC (aeO x).1 (aeO x).2) aqt.bw)] aLh aA7 ZI ZI aBb:=fun _ _=>by kernel_rfl
def axV (c:ZD aqu) (v:ZD LG):RQ LG aw6:=aBb (fun r=>r) (fun _ _=>.bad) c v
theorem aOC:SO G41 0 51 aA5 [.known (bF 0 [] au3 fun x=>aJ aqt au4 ZI ZI [] false (aeO x).1 (auC (aeO x).1 (aeO x).2) aqt.bw)] aLh aA7 ZI ZI axV:=fun c v=>by rw [aOB]; unfold axV aBb; simp only [bu,aM,pM]
def aBc (c:ZD aqu) (v:ZD LG):LQ aw6:=aH (axV c) cz v
theorem aez:af (Mw)=[.loop aA5]:=by kernel_rfl
abbrev ox:List aL:=[.slot 0 (.pc tI),.slot 1 (.pc tI)]
abbrev mq:List aL:=[.slot 5 (.pc (.sl nK)),.slot 6 (.pc tI)]
abbrev BF:List aL:=ox ++ mq
def Pg:ZJ ox mq BF:=ZA _ _
def GL:ZS ox mq BF:=ZP _ _
abbrev CL:aO:=⟨[(0,[.slot 5 (.pc ec)])],[],[]⟩
abbrev Ee:aO:=⟨[(0,[.slot 5 (.pc ec)])],[],[]⟩
def Lv:ZE ox Ee CL:=fun id=>match id with | 0=>fun c y=>y | _=>jm
def TO {α:Type} (l:RQ mq Ee->α) (an:α->α->α) (c:ZD ox) (v:ZD mq):α:=bif (decide (v.2.1 < c.1)) then aF (aBc (c.1,(c.2.1,v)) ((⟨0,fun i=>((⟨0,fun i=>((0:Int),())⟩:Sl _),())⟩:Sl _),((0:Int),()))) 2 (fun u2=>l (.next (u2.1,((W (v.2.1 + (1:Int))),())))) (l .bad) else l (.out (.exit 0 (v.1,())))
theorem amG:ZO G41 0 51 Mw [.known (bF 0 [] aA6 fun x=>aJ awy aA7 ZI ZI [] false (aqv x).1 (aBc (aqv x).1 (aqv x).2) awy.bw)] Pg Lv ZI ZI TO:=fun _ _=>by kernel_rfl
def TP (c:ZD ox) (v:ZD mq):RQ mq Ee:=TO (fun r=>r) (fun _ _=>.bad) c v
theorem amH:SO G41 0 51 Mw [.known (bF 0 [] aA6 fun x=>aJ awy aA7 ZI ZI [] false (aqv x).1 (aBc (aqv x).1 (aqv x).2) awy.bw)] Pg Lv ZI ZI TP:=fun c v=>by rw [amG]; unfold TP TO; simp only [bu,aM,pM]
def TQ (c:ZD ox) (v:ZD mq):LQ Ee:=aH (TP c) cz v
theorem axA:af (c41)=[.loop Mw]:=by kernel_rfl
noncomputable def l41:List Loop:=[lk 0 Lv ZI ZI false GL TQ]
def Q41 {α:Type} (l:Option (MI).den->α) (an:α->α->α) (x:(a41).den):α:=aF (TQ x ((⟨1,fun i=>List.getD [((⟨0,fun i=>((0:Int),())⟩:Sl _),())] i ((⟨0,fun i=>((0:Int),())⟩:Sl _),())⟩:Sl _),((0:Int),()))) 0 (fun u3=>l (some u3)) (l none)
theorem q41:QO G41 Tryz.f41 l41 a41 MI Q41:=fun _=>by kernel_rfl
def M41 (x:(a41).den):Option (MI).den:=Q41 (fun r=>r) (fun _ _=>none) x
theorem m41:MO G41 Tryz.f41 l41 M41:=fun x=>by rw [q41]; unfold M41 Q41; simp only [Tree.sure,iO]
def p41:=pO M41
def v41:=vO (τ:=MI) M41
def k41:ee:=⟨a41,MI,p41,v41⟩
theorem h41:Holds Tryz.prog 41 k41:=hO aue g41 m41 fun G' hlo hF hE=>ai (by rw [axA]; exact .cons (lv hE hF hlo (ai (by rw [aez]; exact .cons (lv hE hF hlo (ai (by rw [aMU]; exact .cons (lv hE hF hlo (ln aIt) aeO aLV) (.nil))) aqv aOC) (.nil))) GL amH) (.nil))
noncomputable def c98:=zo Tryz.f98
theorem aOK:zq 98 Tryz.f98 c98:=zu
abbrev T94:Ty:=(.cons T12 T13)
abbrev a98:Ty:=T94
abbrev r98:Ty:=T3
noncomputable def G98:Ctx:=Ctx.of []
theorem g98:SP G98:=aD f0
def Q98 {α:Type} (l:Option (r98).den->α) (an:α->α->α) (x:(a98).den):α:=bif (decide (x.2.2.1 < (W (x.1.1 - x.2.1.2.1)))) then l (some (true,())) else l (some ((decide (x.2.2.1 < (W (x.2.1.1 - x.1.2.1)))),()))
theorem q98:QO G98 Tryz.f98 [] a98 r98 Q98:=fun _=>by kernel_rfl
def M98 (x:(a98).den):Option (r98).den:=Q98 (fun r=>r) (fun _ _=>none) x
theorem m98:MO G98 Tryz.f98 [] M98:=fun x=>by rw [q98]; unfold M98 Q98; simp only [Tree.sure,iO]
def p98:=pO M98
def v98:=vO (τ:=r98) M98
def k98:ee:=⟨a98,r98,p98,v98⟩
theorem h98:Holds Tryz.prog 98 k98:=hO aOK g98 m98 l0
noncomputable def c77:=zo Tryz.f77
theorem ad9:zq 77 Tryz.f77 c77:=zu
abbrev T95:Ty:=(.cons PV T4)
abbrev a77:Ty:=T95
abbrev Xi:Ty:=T3
noncomputable def G77:Ctx:=Ctx.of [(98,.pure k98)]
theorem g77:SP G77:=aD (fa ⟨⟨aOK.c,h98⟩,f0⟩)
def Q77 {α:Type} (l:Option (Xi).den->α) (an:α->α->α) (x:(a77).den):α:=bif (decide (((0:Int)<=x.2.1)/\(x.2.1 < ((x.1.1.n:Nat):Int)))) then bif (decide (((0:Int)<=x.2.2.1)/\(x.2.2.1 < (((x.1.1.g (Int.toNat x.2.1)).2.1.n:Nat):Int)))) then bif (decide (((0:Int)<=x.2.2.2.1)/\(x.2.2.2.1 < ((x.1.1.n:Nat):Int)))) then bif (decide (((0:Int)<=x.2.2.2.2.1)/\(x.2.2.2.2.1 < (((x.1.1.g (Int.toNat x.2.2.2.1)).2.1.n:Nat):Int)))) then bif (decide (((0:Int)<=x.2.1)/\(x.2.1 < ((x.1.1.n:Nat):Int)))) then bif (decide (((0:Int)<=x.2.2.2.1)/\(x.2.2.2.1 < ((x.1.1.n:Nat):Int)))) then bif (decide (((0:Int)<=x.2.2.2.1)/\(x.2.2.2.1 < ((x.1.1.n:Nat):Int)))) then bif (decide (((0:Int)<=x.2.1)/\(x.2.1 < ((x.1.1.n:Nat):Int)))) then cl (r98).dflt (M98 ((((x.1.1.g (Int.toNat x.2.1)).2.1.g (Int.toNat x.2.2.1)).1,(((x.1.1.g (Int.toNat x.2.1)).2.1.g (Int.toNat x.2.2.1)).2.1,())),((((x.1.1.g (Int.toNat x.2.2.2.1)).2.1.g (Int.toNat x.2.2.2.2.1)).1,(((x.1.1.g (Int.toNat x.2.2.2.1)).2.1.g (Int.toNat x.2.2.2.2.1)).2.1,())),((W (x.1.2.1 * (mx (W ((x.1.1.g (Int.toNat x.2.1)).1 - (x.1.1.g (Int.toNat x.2.2.2.1)).1)) (W ((x.1.1.g (Int.toNat x.2.2.2.1)).1 - (x.1.1.g (Int.toNat x.2.1)).1))))),())))) (fun u0=>bif (!u0.1) then cl (r98).dflt (M98 ((((x.1.1.g (Int.toNat x.2.1)).2.1.g (Int.toNat x.2.2.1)).2.2.1,(((x.1.1.g (Int.toNat x.2.1)).2.1.g (Int.toNat x.2.2.1)).2.2.2.1,())),((((x.1.1.g (Int.toNat x.2.2.2.1)).2.1.g (Int.toNat x.2.2.2.2.1)).2.2.1,(((x.1.1.g (Int.toNat x.2.2.2.1)).2.1.g (Int.toNat x.2.2.2.2.1)).2.2.2.1,())),((W (x.1.2.1 * (mx (W ((x.1.1.g (Int.toNat x.2.1)).1 - (x.1.1.g (Int.toNat x.2.2.2.1)).1)) (W ((x.1.1.g (Int.toNat x.2.2.2.1)).1 - (x.1.1.g (Int.toNat x.2.1)).1))))),())))) (fun u1=>bif (!u1.1) then cl (r98).dflt (M98 (((x.1.1.g (Int.toNat x.2.1)).2.1.g (Int.toNat x.2.2.1)).2.2.2.2,(((x.1.1.g (Int.toNat x.2.2.2.1)).2.1.g (Int.toNat x.2.2.2.2.1)).2.2.2.2,((W (x.1.2.2.1 * (mx (W ((x.1.1.g (Int.toNat x.2.1)).1 - (x.1.1.g (Int.toNat x.2.2.2.1)).1)) (W ((x.1.1.g (Int.toNat x.2.2.2.1)).1 - (x.1.1.g (Int.toNat x.2.1)).1))))),())))) (fun u2=>l (some ((!u2.1),()))) (l none) else l (some (false,()))) (l none) else l (some (false,()))) (l none) else l none else l none else l none else l none else l none else l none else l none else l none
theorem q77:QO G77 Tryz.f77 [] a77 Xi Q77:=fun _=>by kernel_rfl
def Yx (x:(a77).den):Option (Xi).den:=Q77 (fun r=>r) (fun _ _=>none) x
theorem m77:MO G77 Tryz.f77 [] Yx:=fun x=>by rw [q77]; unfold Yx Q77; simp only [Tree.sure,iO]
def p77:=pO Yx
def v77:=vO (τ:=Xi) Yx
def k77:ee:=⟨a77,Xi,p77,v77⟩
theorem h77:Holds Tryz.prog 77 k77:=hO ad9 g77 m77 l0
noncomputable def c44:=zo Tryz.f44
theorem aiD:zq 44 Tryz.f44 c44:=zu
abbrev T96:Ty:=(.cons PV OG)
abbrev a44:Ty:=T96
abbrev Es:Ty:=T3
noncomputable def G44:Ctx:=Ctx.of [(77,.pure k77)]
theorem g44:SP G44:=aD (fa ⟨⟨ad9.c,h77⟩,f0⟩)
noncomputable def aGX:Code:=aG ((af (c44))[0]?)
noncomputable def aDW:Code:=aG ((af (aGX))[0]?)
theorem aMV:af (aDW)=[]:=by kernel_rfl
abbrev aqP:List aL:=[.slot 1 (.pc ec),.slot 2 (.ptr 2),.slot 5 (.pc tI),.slot 6 (.pc tI),.box 2 [.pc eX,.pc tI,.pc tI,.pc tI,.pc tI]]
abbrev amo:List aL:=[.slot 7 (.pc tI),.slot 8 (.pc tI)]
abbrev aBd:List aL:=aqP ++ amo
def aLi:ZJ aqP amo aBd:=ZA _ _
def ass:ZS aqP amo aBd:=ZP _ _
abbrev aw7:aO:=⟨[(2,[.slot 1 (.pc ec),.slot 2 (.ptr 2),.slot 5 (.pc tI),.slot 6 (.pc tI),.box 2 [.pc eX,.pc tI,.pc tI,.pc tI,.pc tI]])],[.slot 4 (.pc .bool)],[]⟩
abbrev aoc:aO:=⟨[(2,[])],[.slot 4 (.pc .bool)],[]⟩
def aBf:ZE aqP aoc aw7:=fun id=>match id with | 2=>fun c y=>(c.1,(c.2.1,(c.2.2.1,(c.2.2.2.1,(c.2.2.2.2.1,y))))) | _=>jm
def axY {α:Type} (l:RQ amo aoc->α) (an:α->α->α) (c:ZD aqP) (v:ZD amo):α:=bif (decide (((0:Int)<=v.1)/\(v.1 < ((c.1.n:Nat):Int)))) then bif (decide (((0:Int)<=v.2.1)/\(v.2.1 < (((c.1.g (Int.toNat v.1)).1.n:Nat):Int)))) then bif (decide ((0:Int)<=((c.1.g (Int.toNat v.1)).1.g (Int.toNat v.2.1)).1)) then bif (decide (((0:Int)<=v.1)/\(v.1 < ((c.1.n:Nat):Int)))) then bif (decide (((0:Int)<=v.2.1)/\(v.2.1 < (((c.1.g (Int.toNat v.1)).1.n:Nat):Int)))) then cl (Xi).dflt (Yx (c.2.2.2.2.1,(c.2.2.1,(c.2.2.2.1,((W (v.1 - (1:Int))),((c.1.g (Int.toNat v.1)).1.g (Int.toNat v.2.1))))))) (fun u0=>bif (!u0.1) then l (.out (.ret (false,()))) else l (.next ((W (v.1 - (1:Int))),((c.1.g (Int.toNat v.1)).1.g (Int.toNat v.2.1))))) (l .bad) else l .bad else l .bad else l (.out (.exit 2 ())) else l .bad else l .bad
theorem aOH:ZO G44 0 47 aDW [] aLi aBf ZI ZI axY:=fun _ _=>by kernel_rfl
def aoa (c:ZD aqP) (v:ZD amo):RQ amo aoc:=axY (fun r=>r) (fun _ _=>.bad) c v
theorem aOJ:SO G44 0 47 aDW [] aLi aBf ZI ZI aoa:=fun c v=>by rw [aOH]; unfold aoa axY; simp only [bu,aM,pM]
def aBi (c:ZD aqP) (v:ZD amo):LQ aoc:=aH (aoa c) cz v
theorem aU7:af (aGX)=[.loop aDW]:=by kernel_rfl
abbrev ayV:List aL:=[.slot 1 (.pc ec),.slot 2 (.ptr 2),.slot 5 (.pc tI),.box 2 [.pc eX,.pc tI,.pc tI,.pc tI,.pc tI]]
abbrev as9:List aL:=[.slot 6 (.pc tI)]
abbrev aMW:List aL:=ayV ++ as9
def aRr:ZJ ayV as9 aMW:=ZA _ _
def aMX:ZS ayV as9 aMW:=ZP _ _
abbrev aVa:aO:=⟨[(0,[])],[.slot 4 (.pc .bool)],[]⟩
abbrev au5:aO:=⟨[(0,[])],[.slot 4 (.pc .bool)],[]⟩
def aIv:ZE ayV au5 aVa:=fun id=>match id with | 0=>fun c y=>y | _=>jm
def aGY {α:Type} (l:RQ as9 au5->α) (an:α->α->α) (c:ZD ayV) (v:ZD as9):α:=bif (decide (((0:Int)<=c.2.2.1)/\(c.2.2.1 < ((c.1.n:Nat):Int)))) then bif (decide (v.1 < (((c.1.g (Int.toNat c.2.2.1)).1.n:Nat):Int))) then aF (aBi (c.1,((),(c.2.2.1,(v.1,(c.2.2.2.1,()))))) (c.2.2.1,v)) 2 (fun u1=>l (.next ((W (v.1 + (1:Int))),()))) (bS (aBi (c.1,((),(c.2.2.1,(v.1,(c.2.2.2.1,()))))) (c.2.2.1,v)) (fun u2=>l (.out (.ret u2))) (l .bad)) else l (.out (.exit 0 ())) else l .bad
theorem bam:ZO G44 0 47 aGX [.known (bF 0 [] aBd fun x=>aJ aw7 aBf ZI ZI [] true (ass x).1 (aBi (ass x).1 (ass x).2) aw7.bw)] aRr aIv ZI ZI aGY:=fun _ _=>by kernel_rfl
def aGZ (c:ZD ayV) (v:ZD as9):RQ as9 au5:=aGY (fun r=>r) (fun _ _=>.bad) c v
theorem bao:SO G44 0 47 aGX [.known (bF 0 [] aBd fun x=>aJ aw7 aBf ZI ZI [] true (ass x).1 (aBi (ass x).1 (ass x).2) aw7.bw)] aRr aIv ZI ZI aGZ:=fun c v=>by rw [bam]; unfold aGZ aGY; simp only [bu,aM,pM]
def aEZ (c:ZD ayV) (v:ZD as9):LQ au5:=aH (aGZ c) cz v
theorem aCR:af (c44)=[.loop aGX]:=by kernel_rfl
noncomputable def l44:List Loop:=[lk 0 aIv ZI ZI true aMX aEZ]
def Q44 {α:Type} (l:Option (Es).den->α) (an:α->α->α) (x:(a44).den):α:=aF (aEZ (x.2.1,((),((W (((x.2.1.n:Nat):Int) - (1:Int))),(x.1,())))) ((0:Int),())) 0 (fun u3=>l (some (true,()))) (bS (aEZ (x.2.1,((),((W (((x.2.1.n:Nat):Int) - (1:Int))),(x.1,())))) ((0:Int),())) (fun u4=>l (some u4)) (l none))
theorem q44:QO G44 Tryz.f44 l44 a44 Es Q44:=fun _=>by kernel_rfl
def PU (x:(a44).den):Option (Es).den:=Q44 (fun r=>r) (fun _ _=>none) x
theorem m44:MO G44 Tryz.f44 l44 PU:=fun x=>by rw [q44]; unfold PU Q44; simp only [Tree.sure,iO]
def p44:=pO PU
def v44:=vO (τ:=Es) PU
def k44:ee:=⟨a44,Es,p44,v44⟩
theorem h44:Holds Tryz.prog 44 k44:=hO aiD g44 m44 fun G' hlo hF hE=>ai (by rw [aCR]; exact .cons (lv hE hF hlo (ai (by rw [aU7]; exact .cons (lv hE hF hlo (ln aMV) ass aOJ) (.nil))) aMX bao) (.nil))
noncomputable def c11:=zo Tryz.f11
theorem aVl:zq 11 Tryz.f11 c11:=zu
abbrev T97:Ty:=(.sl OG)
abbrev T98:Ty:=(.cons T97 .nil)
abbrev a11:Ty:=Jd
abbrev r11:Ty:=T98
noncomputable def G11:Ctx:=Ctx.of [(41,.pure k41),(42,.pure k42),(43,.pure k43),(44,.pure k44)]
theorem g11:SP G11:=aD (fa ⟨⟨aue.c,h41⟩,fa ⟨⟨aVP.c,h42⟩,fa ⟨⟨ar6.c,h43⟩,fa ⟨⟨aiD.c,h44⟩,f0⟩⟩⟩⟩)
noncomputable def aG0:Code:=aG ((af (c11))[0]?)
noncomputable def aBj:Code:=aG ((af (aG0))[0]?)
noncomputable def ax0:Code:=aG ((af (aBj))[0]?)
theorem aIw:af (ax0)=[]:=by kernel_rfl
abbrev aie:List aL:=[.slot 1 (.ptr 1),.slot 4 (.pc T97),.slot 5 (.pc tI),.slot 6 (.pc ec),.slot 8 (.pc tI),.box 1 [.pc eX,.pc tI,.pc tI,.pc tI,.pc tI]]
abbrev iY:List aL:=[.slot 7 (.own 1000007 27 OG),.slot 9 (.pc tI)]
abbrev avd:List aL:=aie ++ iY
def aE0:ZJ aie iY avd:=ZA _ _
def ajf:ZS aie iY avd:=ZP _ _
abbrev ate:aO:=⟨[(4,[.slot 1 (.ptr 1),.slot 4 (.pc T97),.slot 5 (.pc tI),.slot 6 (.pc ec),.slot 8 (.pc tI),.box 1 [.pc eX,.pc tI,.pc tI,.pc tI,.pc tI],.slot 7 (.own 1000007 27 OG)])],[],[]⟩
abbrev at4:aO:=⟨[(4,[.slot 7 (.own 1000007 27 OG)])],[],[]⟩
def ave:ZE aie at4 ate:=fun id=>match id with | 4=>fun c y=>(c.1,(c.2.1,(c.2.2.1,(c.2.2.2.1,(c.2.2.2.2.1,(c.2.2.2.2.2.1,y)))))) | _=>jm
def auD {α:Type} (l:RQ iY at4->α) (an:α->α->α) (c:ZD aie) (v:ZD iY):α:=bif (decide (v.2.1 < ((c.2.2.2.1.n:Nat):Int))) then bif (decide (((0:Int)<=c.2.2.2.2.1)/\(c.2.2.2.2.1 < ((c.2.1.n:Nat):Int)))) then bif (decide (((c.2.1.g (Int.toNat c.2.2.2.2.1)).1.n * 24)<=140737488355328)) then bif (decide (((0:Int)<=v.2.1)/\(v.2.1 < ((c.2.2.2.1.n:Nat):Int)))) then bif (decide ((((c.2.1.g (Int.toNat c.2.2.2.2.1)).1.n + 1) * 24)<=140737488355328)) then cl (r42).dflt (M42 ((cK (c.2.1.g (Int.toNat c.2.2.2.2.1)).1 (⟨1,fun i=>List.getD [(c.2.2.2.1.g (Int.toNat v.2.1))] i (c.2.2.2.1.g (Int.toNat v.2.1))⟩:Sl (Ty.den nK))),())) (fun u0=>bif (decide (u0.1<=c.2.2.2.2.2.1.2.2.2.1)) then cl (Rc).dflt (M43 ((cK (c.2.1.g (Int.toNat c.2.2.2.2.1)).1 (⟨1,fun i=>List.getD [(c.2.2.2.1.g (Int.toNat v.2.1))] i (c.2.2.2.1.g (Int.toNat v.2.1))⟩:Sl (Ty.den nK))),())) (fun u1=>bif (decide (u1.1<=c.2.2.2.2.2.1.2.2.2.2.1)) then cl (Es).dflt (PU (c.2.2.2.2.2.1,((cK (c.2.1.g (Int.toNat c.2.2.2.2.1)).1 (⟨1,fun i=>List.getD [(c.2.2.2.1.g (Int.toNat v.2.1))] i (c.2.2.2.1.g (Int.toNat v.2.1))⟩:Sl (Ty.den nK))),()))) (fun u2=>bif u2.1 then bif (decide (((v.1.n + 1) * 24)<=140737488355328)) then l (.next ((cK v.1 (⟨1,fun i=>List.getD [((cK (c.2.1.g (Int.toNat c.2.2.2.2.1)).1 (⟨1,fun i=>List.getD [(c.2.2.2.1.g (Int.toNat v.2.1))] i (c.2.2.2.1.g (Int.toNat v.2.1))⟩:Sl (Ty.den nK))),())] i ((cK (c.2.1.g (Int.toNat c.2.2.2.2.1)).1 (⟨1,fun i=>List.getD [(c.2.2.2.1.g (Int.toNat v.2.1))] i (c.2.2.2.1.g (Int.toNat v.2.1))⟩:Sl (Ty.den nK))),())⟩:Sl (Ty.den OG))),((W (v.2.1 + (1:Int))),()))) else l .bad else l (.next (v.1,((W (v.2.1 + (1:Int))),())))) (l .bad) else l (.next (v.1,((W (v.2.1 + (1:Int))),())))) (l .bad) else l (.next (v.1,((W (v.2.1 + (1:Int))),())))) (l .bad) else l .bad else l .bad else l .bad else l .bad else l (.out (.exit 4 (v.1,())))
theorem aLW:ZO G11 0 89 ax0 [] aE0 ave ZI ZI auD:=fun _ _=>by kernel_rfl
def an4 (c:ZD aie) (v:ZD iY):RQ iY at4:=auD (fun r=>r) (fun _ _=>.bad) c v
theorem aLX:SO G11 0 89 ax0 [] aE0 ave ZI ZI an4:=fun c v=>by rw [aLW]; unfold an4 auD; simp only [bu,aM,pM]
def auG (c:ZD aie) (v:ZD iY):LQ at4:=aH (an4 c) cz v
theorem aMY:af (aBj)=[.loop ax0]:=by kernel_rfl
abbrev at5:List aL:=[.slot 1 (.ptr 1),.slot 4 (.pc T97),.slot 5 (.pc tI),.slot 6 (.pc ec),.box 1 [.pc eX,.pc tI,.pc tI,.pc tI,.pc tI]]
abbrev acF:List aL:=[.slot 7 (.own 1000007 27 OG),.slot 8 (.pc tI)]
abbrev aBk:List aL:=at5 ++ acF
def aLj:ZJ at5 acF aBk:=ZA _ _
def at7:ZS at5 acF aBk:=ZP _ _
abbrev axl:aO:=⟨[(2,[.slot 1 (.ptr 1),.slot 5 (.pc tI),.box 1 [.pc eX,.pc tI,.pc tI,.pc tI,.pc tI],.slot 7 (.pc (.sl OG))])],[],[]⟩
abbrev axm:aO:=⟨[(2,[.slot 7 (.pc (.sl OG))])],[],[]⟩
def aBm:ZE at5 axm axl:=fun id=>match id with | 2=>fun c y=>(c.1,(c.2.2.1,(c.2.2.2.2.1,y))) | _=>jm
def aBn {α:Type} (l:RQ acF axm->α) (an:α->α->α) (c:ZD at5) (v:ZD acF):α:=bif (decide (v.2.1 < ((c.2.1.n:Nat):Int))) then aF (auG ((),(c.2.1,(c.2.2.1,(c.2.2.2.1,(v.2.1,(c.2.2.2.2.1,())))))) (v.1,((0:Int),()))) 4 (fun u3=>l (.next (u3.1,((W (v.2.1 + (1:Int))),())))) (l .bad) else l (.out (.exit 2 (v.1,())))
theorem aON:ZO G11 0 89 aBj [.known (bF 0 [] avd fun x=>aJ ate ave ZI ZI [] false (ajf x).1 (auG (ajf x).1 (ajf x).2) ate.bw)] aLj aBm ZI ZI aBn:=fun _ _=>by kernel_rfl
def ax1 (c:ZD at5) (v:ZD acF):RQ acF axm:=aBn (fun r=>r) (fun _ _=>.bad) c v
theorem aOP:SO G11 0 89 aBj [.known (bF 0 [] avd fun x=>aJ ate ave ZI ZI [] false (ajf x).1 (auG (ajf x).1 (ajf x).2) ate.bw)] aLj aBm ZI ZI ax1:=fun c v=>by rw [aON]; unfold ax1 aBn; simp only [bu,aM,pM]
def aBo (c:ZD at5) (v:ZD acF):LQ axm:=aH (ax1 c) cz v
theorem aVb:af (aG0)=[.loop aBj]:=by kernel_rfl
abbrev azq:List aL:=[.slot 1 (.ptr 1),.box 1 [.pc eX,.pc tI,.pc tI,.pc tI,.pc tI]]
abbrev auy:List aL:=[.slot 4 (.pc (.sl OG)),.slot 5 (.pc tI)]
abbrev aMZ:List aL:=azq ++ auy
def aRs:ZJ azq auy aMZ:=ZA _ _
def aM0:ZS azq auy aMZ:=ZP _ _
abbrev aVc:aO:=⟨[(0,[.slot 4 (.pc T97)])],[],[]⟩
abbrev aEC:aO:=⟨[(0,[.slot 4 (.pc T97)])],[],[]⟩
def aIy:ZE azq aEC aVc:=fun id=>match id with | 0=>fun c y=>y | _=>jm
def aG1 {α:Type} (l:RQ auy aEC->α) (an:α->α->α) (c:ZD azq) (v:ZD auy):α:=bif (decide (v.2.1 < ((c.2.1.1.n:Nat):Int))) then bif (decide (((0:Int)<=v.2.1)/\(v.2.1 < ((c.2.1.1.n:Nat):Int)))) then bif (decide (((0:Int)<=(W (v.2.1 - (1:Int))))/\((W (v.2.1 - (1:Int))) < ((c.2.1.1.n:Nat):Int)))) then cl (MI).dflt (M41 ((((c.2.1.1.g (Int.toNat v.2.1)).2.1.n:Nat):Int),((((c.2.1.1.g (Int.toNat (W (v.2.1 - (1:Int))))).2.1.n:Nat):Int),()))) (fun u4=>aF (aBo ((),(v.1,(v.2.1,(u4.1,(c.2.1,()))))) ((⟨0,fun i=>((⟨0,fun i=>((⟨0,fun i=>((0:Int),())⟩:Sl _),())⟩:Sl _),())⟩:Sl _),((0:Int),()))) 2 (fun u5=>l (.next (u5.1,((W (v.2.1 + (1:Int))),())))) (l .bad)) (l .bad) else l .bad else l .bad else l (.out (.exit 0 (v.1,())))
theorem bap:ZO G11 0 89 aG0 [.known (bF 0 [] aBk fun x=>aJ axl aBm ZI ZI [] false (at7 x).1 (aBo (at7 x).1 (at7 x).2) axl.bw)] aRs aIy ZI ZI aG1:=fun _ _=>by kernel_rfl
def aE1 (c:ZD azq) (v:ZD auy):RQ auy aEC:=aG1 (fun r=>r) (fun _ _=>.bad) c v
theorem baq:SO G11 0 89 aG0 [.known (bF 0 [] aBk fun x=>aJ axl aBm ZI ZI [] false (at7 x).1 (aBo (at7 x).1 (at7 x).2) axl.bw)] aRs aIy ZI ZI aE1:=fun c v=>by rw [bap]; unfold aE1 aG1; simp only [bu,aM,pM]
def aLk (c:ZD azq) (v:ZD auy):LQ aEC:=aH (aE1 c) cz v
theorem aZb:af (c11)=[.loop aG0]:=by kernel_rfl
noncomputable def l11:List Loop:=[lk 0 aIy ZI ZI false aM0 aLk]
def Q11 {α:Type} (l:Option (r11).den->α) (an:α->α->α) (x:(a11).den):α:=bif (decide (((0:Int)<=(0:Int))/\((0:Int) < ((x.1.1.n:Nat):Int)))) then cl (MI).dflt (M41 ((((x.1.1.g 0).2.1.n:Nat):Int),((0:Int),()))) (fun u6=>aF (aLk ((),(x.1,())) ((⟨1,fun i=>List.getD [u6] i u6⟩:Sl _),((1:Int),()))) 0 (fun u7=>l (some u7)) (l none)) (l none) else l none
theorem q11:QO G11 Tryz.f11 l11 a11 r11 Q11:=fun _=>by kernel_rfl
def M11 (x:(a11).den):Option (r11).den:=Q11 (fun r=>r) (fun _ _=>none) x
theorem m11:MO G11 Tryz.f11 l11 M11:=fun x=>by rw [q11]; unfold M11 Q11; simp only [Tree.sure,iO]
def p11:=pO M11
def v11:=vO (τ:=r11) M11
def k11:ee:=⟨a11,r11,p11,v11⟩
theorem h11:Holds Tryz.prog 11 k11:=hO aVl g11 m11 fun G' hlo hF hE=>ai (by rw [aZb]; exact .cons (lv hE hF hlo (ai (by rw [aVb]; exact .cons (lv hE hF hlo (ai (by rw [aMY]; exact .cons (lv hE hF hlo (ln aIw) ajf aLX) (.nil))) at7 aOP) (.nil))) aM0 baq) (.nil))
noncomputable def c75:=zo Tryz.f75
theorem aoB:zq 75 Tryz.f75 c75:=zu
abbrev a75:Ty:=T76
abbrev r75:Ty:=Jd
noncomputable def G75:Ctx:=Ctx.of []
theorem g75:SP G75:=aD f0
def Q75 {α:Type} (l:Option (r75).den->α) (an:α->α->α) (x:(a75).den):α:=bif (decide (((0:Int)<=(0:Int))/\(((0:Int)<=x.2.1)/\(x.2.1<=((x.1.1.n:Nat):Int))))) then l (some (((⟨(Int.toNat (x.2.1 - (0:Int))),fun i=>(x.1.1.g (i + 0))⟩:Sl _),x.1.2),())) else l none
theorem q75:QO G75 Tryz.f75 [] a75 r75 Q75:=fun _=>by kernel_rfl
def Xl (x:(a75).den):Option (r75).den:=Q75 (fun r=>r) (fun _ _=>none) x
theorem m75:MO G75 Tryz.f75 [] Xl:=fun x=>by rw [q75]; unfold Xl Q75; simp only [Tree.sure,iO]
def p75:=pO Xl
def v75:=vO (τ:=r75) Xl
def k75:ee:=⟨a75,r75,p75,v75⟩
theorem h75:Holds Tryz.prog 75 k75:=hO aoB g75 m75 l0
noncomputable def c39:=zo Tryz.f39
theorem apr:zq 39 Tryz.f39 c39:=zu
abbrev a39:Ty:=Jd
abbrev Re:Ty:=T0
noncomputable def G39:Ctx:=Ctx.of [(11,.pure k11),(75,.pure k75)]
theorem g39:SP G39:=aD (fa ⟨⟨aVl.c,h11⟩,fa ⟨⟨aoB.c,h75⟩,f0⟩⟩)
noncomputable def Mz:Code:=aG ((af (c39))[0]?)
theorem aeN:af (Mz)=[]:=by kernel_rfl
abbrev azr:List aL:=[.slot 1 (.ptr 1),.box 1 [.pc eX,.pc tI,.pc tI,.pc tI,.pc tI]]
abbrev at9:List aL:=[.slot 3 (.pc tI)]
abbrev aM1:List aL:=azr ++ at9
def aRt:ZJ azr at9 aM1:=ZA _ _
def aM2:ZS azr at9 aM1:=ZP _ _
abbrev aVd:aO:=⟨[(0,[])],[.slot 2 (.pc tI)],[]⟩
abbrev avD:aO:=⟨[(0,[])],[.slot 2 (.pc tI)],[]⟩
def aIz:ZE azr avD aVd:=fun id=>match id with | 0=>fun c y=>y | _=>jm
def Ud {α:Type} (l:RQ at9 avD->α) (an:α->α->α) (c:ZD azr) (v:ZD at9):α:=bif (decide (v.1 < ((c.2.1.1.n:Nat):Int))) then cl (r75).dflt (Xl (c.2.1,((W (v.1 + (1:Int))),()))) (fun u0=>cl (r11).dflt (M11 (u0.1,())) (fun u1=>bif (decide (((u1.1.n:Nat):Int)=(0:Int))) then l (.out (.ret v)) else l (.next ((W (v.1 + (1:Int))),()))) (l .bad)) (l .bad) else l (.out (.exit 0 ()))
theorem amV:ZO G39 0 19 Mz [] aRt aIz ZI ZI Ud:=fun _ _=>by kernel_rfl
def Ue (c:ZD azr) (v:ZD at9):RQ at9 avD:=Ud (fun r=>r) (fun _ _=>.bad) c v
theorem amW:SO G39 0 19 Mz [] aRt aIz ZI ZI Ue:=fun c v=>by rw [amV]; unfold Ue Ud; simp only [bu,aM,pM]
def Uf (c:ZD azr) (v:ZD at9):LQ avD:=aH (Ue c) cz v
theorem ax5:af (c39)=[.loop Mz]:=by kernel_rfl
noncomputable def l39:List Loop:=[lk 0 aIz ZI ZI true aM2 Uf]
def Q39 {α:Type} (l:Option (Re).den->α) (an:α->α->α) (x:(a39).den):α:=aF (Uf ((),(x.1,())) ((0:Int),())) 0 (fun u2=>l (some ((-1:Int),()))) (bS (Uf ((),(x.1,())) ((0:Int),())) (fun u3=>l (some u3)) (l none))
theorem q39:QO G39 Tryz.f39 l39 a39 Re Q39:=fun _=>by kernel_rfl
def M39 (x:(a39).den):Option (Re).den:=Q39 (fun r=>r) (fun _ _=>none) x
theorem m39:MO G39 Tryz.f39 l39 M39:=fun x=>by rw [q39]; unfold M39 Q39; simp only [Tree.sure,iO]
def p39:=pO M39
def v39:=vO (τ:=Re) M39
def k39:ee:=⟨a39,Re,p39,v39⟩
theorem h39:Holds Tryz.prog 39 k39:=hO apr g39 m39 fun G' hlo hF hE=>ai (by rw [ax5]; exact .cons (lv hE hF hlo (ln aeN) aM2 amW) (.nil))
noncomputable def c9:=zo Tryz.f9
theorem cl9:zq 9 Tryz.f9 c9:=zu
abbrev a9:Ty:=T71
abbrev r9:Ty:=T0
noncomputable def G9:Ctx:=Ctx.of [(38,.pure k38),(39,.pure k39)]
theorem g9:SP G9:=aD (fa ⟨⟨aZG.c,h38⟩,fa ⟨⟨apr.c,h39⟩,f0⟩⟩)
def Q9 {α:Type} (l:Option (r9).den->α) (an:α->α->α) (x:(a9).den):α:=cl (r38).dflt (M38 (x.1,())) (fun u0=>bif (!u0.1) then l (some ((2:Int),())) else bif (!x.2.1) then l (some ((2:Int),())) else cl (Re).dflt (M39 (x.1,())) (fun u1=>bif (decide ((0:Int)<=u1.1)) then l (some ((7:Int),())) else l (some ((0:Int),()))) (l none)) (l none)
theorem q9:QO G9 Tryz.f9 [] a9 r9 Q9:=fun _=>by kernel_rfl
def M9 (x:(a9).den):Option (r9).den:=Q9 (fun r=>r) (fun _ _=>none) x
theorem m9:MO G9 Tryz.f9 [] M9:=fun x=>by rw [q9]; unfold M9 Q9; simp only [Tree.sure,iO]
def p9:=pO M9
def v9:=vO (τ:=r9) M9
def k9:ee:=⟨a9,r9,p9,v9⟩
theorem h9:Holds Tryz.prog 9 k9:=hO cl9 g9 m9 l0
noncomputable def c10:=zo Tryz.f10
theorem aVi:zq 10 Tryz.f10 c10:=zu
abbrev a10:Ty:=T88
abbrev r10:Ty:=T3
noncomputable def G10:Ctx:=Ctx.of [(40,.pure k40)]
theorem g10:SP G10:=aD (fa ⟨⟨apq.c,h40⟩,f0⟩)
def Q10 {α:Type} (l:Option (r10).den->α) (an:α->α->α) (x:(a10).den):α:=cl (Rb).dflt (M40 (x.2.1,((0:Int),((W (((x.1.1.n:Nat):Int) - (1:Int))),())))) (fun u0=>bif u0.1 then bif (decide (((0:Int)<=x.2.1)/\(x.2.1 < ((x.1.1.n:Nat):Int)))) then cl (Rb).dflt (M40 (x.2.2.1,((0:Int),((W ((((x.1.1.g (Int.toNat x.2.1)).2.1.n:Nat):Int) - (1:Int))),())))) (fun u1=>l (some u1)) (l none) else l none else l (some (false,()))) (l none)
theorem q10:QO G10 Tryz.f10 [] a10 r10 Q10:=fun _=>by kernel_rfl
def M10 (x:(a10).den):Option (r10).den:=Q10 (fun r=>r) (fun _ _=>none) x
theorem m10:MO G10 Tryz.f10 [] M10:=fun x=>by rw [q10]; unfold M10 Q10; simp only [Tree.sure,iO]
def p10:=pO M10
def v10:=vO (τ:=r10) M10
def k10:ee:=⟨a10,r10,p10,v10⟩
theorem h10:Holds Tryz.prog 10 k10:=hO aVi g10 m10 l0
noncomputable def c46:=zo Tryz.f46
theorem azX:zq 46 Tryz.f46 c46:=zu
abbrev T99:Ty:=(.cons ec T1)
abbrev a46:Ty:=T99
abbrev r46:Ty:=nK
noncomputable def G46:Ctx:=Ctx.of [(76,.pure k76)]
theorem g46:SP G46:=aD (fa ⟨⟨at8.c,h76⟩,f0⟩)
noncomputable def aG2:Code:=aG ((af (c46))[0]?)
noncomputable def aEi:Code:=aG ((af (aG2))[0]?)
theorem aM3:af (aEi)=[]:=by kernel_rfl
abbrev aua:List aL:=[.slot 0 (.pc ec),.slot 1 (.pc tI),.slot 7 (.own 70 3 T0)]
abbrev nY:List aL:=[.slot 8 (.pc tI)]
abbrev aBp:List aL:=aua ++ nY
def aLl:ZJ aua nY aBp:=ZA _ _
def auh:ZS aua nY aBp:=ZP _ _
abbrev axn:aO:=⟨[(2,[.slot 0 (.pc ec),.slot 1 (.pc tI),.slot 7 (.own 70 3 T0)])],[],[]⟩
abbrev aum:aO:=⟨[(2,[.slot 7 (.own 70 3 T0)])],[],[]⟩
def aBq:ZE aua aum axn:=fun id=>match id with | 2=>fun c y=>(c.1,(c.2.1,y)) | _=>jm
def aBr {α:Type} (l:RQ nY aum->α) (an:α->α->α) (c:ZD aua) (v:ZD nY):α:=bif (decide (((0:Int)<=c.2.1)/\(c.2.1 < ((c.1.n:Nat):Int)))) then bif (decide (v.1 < (((c.1.g (Int.toNat c.2.1)).1.n:Nat):Int))) then bif (decide (((0:Int)<=c.2.1)/\(c.2.1 < ((c.1.n:Nat):Int)))) then bif (decide (((0:Int)<=v.1)/\(v.1 < (((c.1.g (Int.toNat c.2.1)).1.n:Nat):Int)))) then bif (decide (((0:Int)<=(W (((c.2.2.1.n:Nat):Int) - (1:Int))))/\((W (((c.2.2.1.n:Nat):Int) - (1:Int))) < ((c.2.2.1.n:Nat):Int)))) then bif (decide (((c.1.g (Int.toNat c.2.1)).1.g (Int.toNat v.1)).1=(c.2.2.1.g (Int.toNat (W (((c.2.2.1.n:Nat):Int) - (1:Int))))).1)) then bif (decide (((c.2.2.1.n + 1) * 8)<=140737488355328)) then l (.out (.exit 2 ((cK c.2.2.1 (⟨1,fun i=>List.getD [v] i v⟩:Sl (Ty.den T0))),()))) else l .bad else l (.next ((W (v.1 + (1:Int))),())) else l .bad else l .bad else l .bad else l (.out (.exit 2 c.2.2)) else l .bad
theorem aOS:ZO G46 0 60 aEi [] aLl aBq ZI ZI aBr:=fun _ _=>by kernel_rfl
def ax2 (c:ZD aua) (v:ZD nY):RQ nY aum:=aBr (fun r=>r) (fun _ _=>.bad) c v
theorem aOT:SO G46 0 60 aEi [] aLl aBq ZI ZI ax2:=fun c v=>by rw [aOS]; unfold ax2 aBr; simp only [bu,aM,pM]
def ax4 (c:ZD aua) (v:ZD nY):LQ aum:=aH (ax2 c) cz v
theorem aVX:af (aG2)=[.loop aEi]:=by kernel_rfl
abbrev azs:List aL:=[.slot 0 (.pc ec)]
abbrev auz:List aL:=[.slot 1 (.pc tI),.slot 7 (.own 70 3 T0)]
abbrev aM4:List aL:=azs ++ auz
def aRv:ZJ azs auz aM4:=ZA _ _
def aM5:ZS azs auz aM4:=ZP _ _
abbrev aWc:aO:=⟨[(0,[.slot 7 (.pc (.sl T0))])],[],[]⟩
abbrev aED:aO:=⟨[(0,[.slot 7 (.pc (.sl T0))])],[],[]⟩
def aIC:ZE azs aED aWc:=fun id=>match id with | 0=>fun c y=>y | _=>jm
def aG3 {α:Type} (l:RQ auz aED->α) (an:α->α->α) (c:ZD azs) (v:ZD auz):α:=bif (decide ((W (v.1 + (1:Int))) < ((c.1.n:Nat):Int))) then bif (decide (((0:Int)<=(W (v.1 + (1:Int))))/\((W (v.1 + (1:Int))) < ((c.1.n:Nat):Int)))) then bif (decide (((0:Int)<=(W (((v.2.1.n:Nat):Int) - (1:Int))))/\((W (((v.2.1.n:Nat):Int) - (1:Int))) < ((v.2.1.n:Nat):Int)))) then cl (r76).dflt (M76 ((c.1.g (Int.toNat (W (v.1 + (1:Int))))).1,(v.2.1.g (Int.toNat (W (((v.2.1.n:Nat):Int) - (1:Int))))))) (fun u0=>bif u0.1 then aF (ax4 (c.1,((W (v.1 + (1:Int))),v.2)) ((0:Int),())) 2 (fun u1=>l (.next ((W (v.1 + (1:Int))),u1))) (l .bad) else l (.out (.exit 0 v.2))) (l .bad) else l .bad else l .bad else l (.out (.exit 0 v.2))
theorem bas:ZO G46 0 60 aG2 [.known (bF 0 [] aBp fun x=>aJ axn aBq ZI ZI [] false (auh x).1 (ax4 (auh x).1 (auh x).2) axn.bw)] aRv aIC ZI ZI aG3:=fun _ _=>by kernel_rfl
def aDn (c:ZD azs) (v:ZD auz):RQ auz aED:=aG3 (fun r=>r) (fun _ _=>.bad) c v
theorem bat:SO G46 0 60 aG2 [.known (bF 0 [] aBp fun x=>aJ axn aBq ZI ZI [] false (auh x).1 (ax4 (auh x).1 (auh x).2) axn.bw)] aRv aIC ZI ZI aDn:=fun c v=>by rw [bas]; unfold aDn aG3; simp only [bu,aM,pM]
def aRw (c:ZD azs) (v:ZD auz):LQ aED:=aH (aDn c) cz v
theorem aR3:af (c46)=[.loop aG2]:=by kernel_rfl
noncomputable def l46:List Loop:=[lk 0 aIC ZI ZI false aM5 aRw]
def Q46 {α:Type} (l:Option (r46).den->α) (an:α->α->α) (x:(a46).den):α:=aF (aRw (x.1,()) (x.2.1,((⟨1,fun i=>List.getD [x.2.2] i x.2.2⟩:Sl _),()))) 0 (fun u2=>l (some u2)) (l none)
theorem q46:QO G46 Tryz.f46 l46 a46 r46 Q46:=fun _=>by kernel_rfl
def Yl (x:(a46).den):Option (r46).den:=Q46 (fun r=>r) (fun _ _=>none) x
theorem m46:MO G46 Tryz.f46 l46 Yl:=fun x=>by rw [q46]; unfold Yl Q46; simp only [Tree.sure,iO]
def p46:=pO Yl
def v46:=vO (τ:=r46) Yl
def k46:ee:=⟨a46,r46,p46,v46⟩
theorem h46:Holds Tryz.prog 46 k46:=hO azX g46 m46 fun G' hlo hF hE=>ai (by rw [aR3]; exact .cons (lv hE hF hlo (ai (by rw [aVX]; exact .cons (lv hE hF hlo (ln aM3) auh aOT) (.nil))) aM5 bat) (.nil))
noncomputable def c47:=zo Tryz.f47
theorem aIe:zq 47 Tryz.f47 c47:=zu
abbrev a47:Ty:=T91
abbrev r47:Ty:=T3
noncomputable def G47:Ctx:=Ctx.of []
theorem g47:SP G47:=aD f0
noncomputable def ane:Code:=aG ((af (c47))[0]?)
theorem aDe:af (ane)=[]:=by kernel_rfl
abbrev NX:List aL:=[.slot 0 (.pc (.sl T0)),.slot 1 (.pc (.sl T0))]
abbrev CR:List aL:=[.slot 5 (.pc tI)]
abbrev ag2:List aL:=NX ++ CR
def asF:ZJ NX CR ag2:=ZA _ _
def aj9:ZS NX CR ag2:=ZP _ _
abbrev aka:aO:=⟨[(0,[.slot 0 (.pc (.sl T0)),.slot 1 (.pc (.sl T0))])],[.slot 4 (.pc .bool)],[]⟩
abbrev LH:aO:=⟨[(0,[])],[.slot 4 (.pc .bool)],[]⟩
def akb:ZE NX LH aka:=fun id=>match id with | 0=>fun c y=>(c.1,(c.2.1,y)) | _=>jm
def ag3 {α:Type} (l:RQ CR LH->α) (an:α->α->α) (c:ZD NX) (v:ZD CR):α:=bif (decide (v.1 < ((c.1.n:Nat):Int))) then bif (decide (v.1 < ((c.2.1.n:Nat):Int))) then bif (decide (((0:Int)<=v.1)/\(v.1 < ((c.1.n:Nat):Int)))) then bif (decide (((0:Int)<=v.1)/\(v.1 < ((c.2.1.n:Nat):Int)))) then bif (!(decide ((c.1.g (Int.toNat v.1)).1=(c.2.1.g (Int.toNat v.1)).1))) then bif (decide (((0:Int)<=v.1)/\(v.1 < ((c.1.n:Nat):Int)))) then bif (decide (((0:Int)<=v.1)/\(v.1 < ((c.2.1.n:Nat):Int)))) then l (.out (.ret ((decide ((c.1.g (Int.toNat v.1)).1 < (c.2.1.g (Int.toNat v.1)).1)),()))) else l .bad else l .bad else l (.next ((W (v.1 + (1:Int))),())) else l .bad else l .bad else l (.out (.exit 0 ())) else l (.out (.exit 0 ()))
theorem aIg:ZO G47 0 41 ane [] asF akb ZI ZI ag3:=fun _ _=>by kernel_rfl
def ag4 (c:ZD NX) (v:ZD CR):RQ CR LH:=ag3 (fun r=>r) (fun _ _=>.bad) c v
theorem aIh:SO G47 0 41 ane [] asF akb ZI ZI ag4:=fun c v=>by rw [aIg]; unfold ag4 ag3; simp only [bu,aM,pM]
def ag5 (c:ZD NX) (v:ZD CR):LQ LH:=aH (ag4 c) cz v
theorem aRX:af (c47)=[.loop ane]:=by kernel_rfl
noncomputable def l47:List Loop:=[lk 0 akb ZI ZI true aj9 ag5]
def Q47 {α:Type} (l:Option (r47).den->α) (an:α->α->α) (x:(a47).den):α:=aF (ag5 x ((0:Int),())) 0 (fun u0=>l (some ((decide (((x.1.n:Nat):Int) < ((x.2.1.n:Nat):Int))),()))) (bS (ag5 x ((0:Int),())) (fun u1=>l (some u1)) (l none))
theorem q47:QO G47 Tryz.f47 l47 a47 r47 Q47:=fun _=>by kernel_rfl
def M47 (x:(a47).den):Option (r47).den:=Q47 (fun r=>r) (fun _ _=>none) x
theorem m47:MO G47 Tryz.f47 l47 M47:=fun x=>by rw [q47]; unfold M47 Q47; simp only [Tree.sure,iO]
def p47:=pO M47
def v47:=vO (τ:=r47) M47
def k47:ee:=⟨a47,r47,p47,v47⟩
theorem h47:Holds Tryz.prog 47 k47:=hO aIe g47 m47 fun G' hlo hF hE=>ai (by rw [aRX]; exact .cons (lv hE hF hlo (ln aDe) aj9 aIh) (.nil))
noncomputable def c13:=zo Tryz.f13
theorem aU9:zq 13 Tryz.f13 c13:=zu
abbrev Ic:Ty:=(.cons T97 T1)
abbrev a13:Ty:=Ic
abbrev r13:Ty:=OG
noncomputable def G13:Ctx:=Ctx.of [(45,.pure k45),(46,.pure k46),(47,.pure k47)]
theorem g13:SP G13:=aD (fa ⟨⟨aVU.c,h45⟩,fa ⟨⟨azX.c,h46⟩,fa ⟨⟨aIe.c,h47⟩,f0⟩⟩⟩)
noncomputable def aG4:Code:=aG ((af (c13))[0]?)
noncomputable def aEj:Code:=aG ((af (aG4))[0]?)
theorem aM6:af (aEj)=[]:=by kernel_rfl
abbrev aun:List aL:=[.slot 0 (.pc T97),.slot 1 (.pc tI),.slot 2 (.pc tI),.slot 7 (.pc ec),.slot 8 (.pc tI),.slot 9 (.pc (.sl T0))]
abbrev vl:List aL:=[.slot 10 (.pc tI)]
abbrev aBs:List aL:=aun ++ vl
def aLm:ZJ aun vl aBs:=ZA _ _
def auo:ZS aun vl aBs:=ZP _ _
abbrev axp:aO:=⟨[(2,[.slot 0 (.pc T97),.slot 1 (.pc tI),.slot 2 (.pc tI),.slot 7 (.pc ec),.slot 8 (.pc tI),.slot 9 (.pc (.sl T0)),.slot 10 (.pc tI)])],[],[]⟩
abbrev axq:aO:=⟨[(2,[.slot 10 (.pc tI)])],[],[]⟩
def aBt:ZE aun axq axp:=fun id=>match id with | 2=>fun c y=>(c.1,(c.2.1,(c.2.2.1,(c.2.2.2.1,(c.2.2.2.2.1,(c.2.2.2.2.2.1,y)))))) | _=>jm
def aBM {α:Type} (l:RQ vl axq->α) (an:α->α->α) (c:ZD aun) (v:ZD vl):α:=bif (decide (v.1 < ((c.2.2.2.1.n:Nat):Int))) then bif (decide (((0:Int)<=v.1)/\(v.1 < ((c.2.2.2.1.n:Nat):Int)))) then cl (r47).dflt (M47 ((c.2.2.2.1.g (Int.toNat v.1)).1,c.2.2.2.2.2)) (fun u0=>bif u0.1 then l (.next ((W (v.1 + (1:Int))),())) else l (.out (.exit 2 v))) (l .bad) else l .bad else l (.out (.exit 2 v))
theorem aO0:ZO G13 0 62 aEj [] aLm aBt ZI ZI aBM:=fun _ _=>by kernel_rfl
def aBN (c:ZD aun) (v:ZD vl):RQ vl axq:=aBM (fun r=>r) (fun _ _=>.bad) c v
theorem aO3:SO G13 0 62 aEj [] aLm aBt ZI ZI aBN:=fun c v=>by rw [aO0]; unfold aBN aBM; simp only [bu,aM,pM]
def aBO (c:ZD aun) (v:ZD vl):LQ axq:=aH (aBN c) cz v
theorem aWo:af (aG4)=[.loop aEj]:=by kernel_rfl
abbrev azt:List aL:=[.slot 0 (.pc T97),.slot 1 (.pc tI),.slot 2 (.pc tI)]
abbrev wk:List aL:=[.slot 7 (.pc (.sl nK)),.slot 8 (.pc tI)]
abbrev aM7:List aL:=azt ++ wk
def aRx:ZJ azt wk aM7:=ZA _ _
def aM8:ZS azt wk aM7:=ZP _ _
abbrev aWp:aO:=⟨[(0,[.slot 7 (.pc ec)])],[],[]⟩
abbrev axt:aO:=⟨[(0,[.slot 7 (.pc ec)])],[],[]⟩
def aIM:ZE azt axt aWp:=fun id=>match id with | 0=>fun c y=>y | _=>jm
def aEF {α:Type} (l:RQ wk axt->α) (an:α->α->α) (c:ZD azt) (v:ZD wk):α:=bif (decide (v.2.1 < ((c.1.n:Nat):Int))) then bif (decide (((0:Int)<=v.2.1)/\(v.2.1 < ((c.1.n:Nat):Int)))) then cl (r46).dflt (Yl ((c.1.g (Int.toNat v.2.1)).1,c.2)) (fun u1=>aF (aBO (c.1,(c.2.1,(c.2.2.1,(v.1,(v.2.1,u1))))) ((0:Int),())) 2 (fun u2=>bif (decide (u2.1 < ((v.1.n:Nat):Int))) then bif (decide (((0:Int)<=u2.1)/\(u2.1 < ((v.1.n:Nat):Int)))) then cl (r45).dflt (M45 ((v.1.g (Int.toNat u2.1)).1,u1)) (fun u3=>bif u3.1 then l (.next (v.1,((W (v.2.1 + (1:Int))),()))) else bif (decide (((0:Int)<=(0:Int))/\(((0:Int)<=u2.1)/\(u2.1<=((v.1.n:Nat):Int))))) then bif (decide (((Int.toNat (u2.1 - (0:Int))) * 24)<=140737488355328)) then bif (decide ((((Int.toNat (u2.1 - (0:Int))) + 1) * 24)<=140737488355328)) then bif (decide (((0:Int)<=u2.1)/\((u2.1<=((v.1.n:Nat):Int))/\(((v.1.n:Nat):Int)<=((v.1.n:Nat):Int))))) then bif (decide ((((cK (⟨(Int.toNat (u2.1 - (0:Int))),fun i=>(v.1.g (i + 0))⟩:Sl (Ty.den nK)) (⟨1,fun i=>List.getD [u1] i u1⟩:Sl (Ty.den nK))).n + (Int.toNat (((v.1.n:Nat):Int) - u2.1))) * 24)<=140737488355328)) then l (.next ((cK (cK (⟨(Int.toNat (u2.1 - (0:Int))),fun i=>(v.1.g (i + 0))⟩:Sl (Ty.den nK)) (⟨1,fun i=>List.getD [u1] i u1⟩:Sl (Ty.den nK))) (⟨(Int.toNat (((v.1.n:Nat):Int) - u2.1)),fun i=>(v.1.g (i + (Int.toNat u2.1)))⟩:Sl (Ty.den nK))),((W (v.2.1 + (1:Int))),()))) else l .bad else l .bad else l .bad else l .bad else l .bad) (l .bad) else l .bad else bif (decide (((0:Int)<=(0:Int))/\(((0:Int)<=u2.1)/\(u2.1<=((v.1.n:Nat):Int))))) then bif (decide (((Int.toNat (u2.1 - (0:Int))) * 24)<=140737488355328)) then bif (decide ((((Int.toNat (u2.1 - (0:Int))) + 1) * 24)<=140737488355328)) then bif (decide (((0:Int)<=u2.1)/\((u2.1<=((v.1.n:Nat):Int))/\(((v.1.n:Nat):Int)<=((v.1.n:Nat):Int))))) then bif (decide ((((cK (⟨(Int.toNat (u2.1 - (0:Int))),fun i=>(v.1.g (i + 0))⟩:Sl (Ty.den nK)) (⟨1,fun i=>List.getD [u1] i u1⟩:Sl (Ty.den nK))).n + (Int.toNat (((v.1.n:Nat):Int) - u2.1))) * 24)<=140737488355328)) then l (.next ((cK (cK (⟨(Int.toNat (u2.1 - (0:Int))),fun i=>(v.1.g (i + 0))⟩:Sl (Ty.den nK)) (⟨1,fun i=>List.getD [u1] i u1⟩:Sl (Ty.den nK))) (⟨(Int.toNat (((v.1.n:Nat):Int) - u2.1)),fun i=>(v.1.g (i + (Int.toNat u2.1)))⟩:Sl (Ty.den nK))),((W (v.2.1 + (1:Int))),()))) else l .bad else l .bad else l .bad else l .bad else l .bad) (l .bad)) (l .bad) else l .bad else l (.out (.exit 0 (v.1,())))
theorem bav:ZO G13 0 62 aG4 [.known (bF 0 [] aBs fun x=>aJ axp aBt ZI ZI [] false (auo x).1 (aBO (auo x).1 (auo x).2) axp.bw)] aRx aIM ZI ZI aEF:=fun _ _=>by kernel_rfl
def axv (c:ZD azt) (v:ZD wk):RQ wk axt:=aEF (fun r=>r) (fun _ _=>.bad) c v
theorem baw:SO G13 0 62 aG4 [.known (bF 0 [] aBs fun x=>aJ axp aBt ZI ZI [] false (auo x).1 (aBO (auo x).1 (auo x).2) axp.bw)] aRx aIM ZI ZI axv:=fun c v=>by rw [bav]; unfold axv aEF; simp only [bu,aM,pM]
def aRy (c:ZD azt) (v:ZD wk):LQ axt:=aH (axv c) cz v
theorem aYU:af (c13)=[.loop aG4]:=by kernel_rfl
noncomputable def l13:List Loop:=[lk 0 aIM ZI ZI false aM8 aRy]
def Q13 {α:Type} (l:Option (r13).den->α) (an:α->α->α) (x:(a13).den):α:=aF (aRy x ((⟨0,fun i=>((⟨0,fun i=>((0:Int),())⟩:Sl _),())⟩:Sl _),((0:Int),()))) 0 (fun u4=>l (some u4)) (l none)
theorem q13:QO G13 Tryz.f13 l13 a13 r13 Q13:=fun _=>by kernel_rfl
def M13 (x:(a13).den):Option (r13).den:=Q13 (fun r=>r) (fun _ _=>none) x
theorem m13:MO G13 Tryz.f13 l13 M13:=fun x=>by rw [q13]; unfold M13 Q13; simp only [Tree.sure,iO]
def p13:=pO M13
def v13:=vO (τ:=r13) M13
def k13:ee:=⟨a13,r13,p13,v13⟩
theorem h13:Holds Tryz.prog 13 k13:=hO aU9 g13 m13 fun G' hlo hF hE=>ai (by rw [aYU]; exact .cons (lv hE hF hlo (ai (by rw [aWo]; exact .cons (lv hE hF hlo (ln aM6) auo aO3) (.nil))) aM8 baw) (.nil))
noncomputable def c49:=zo Tryz.f49
theorem bay:zq 49 Tryz.f49 c49:=zu
abbrev a49:Ty:=T92
abbrev r49:Ty:=T20
noncomputable def G49:Ctx:=Ctx.of []
theorem g49:SP G49:=aD f0
def Q49 {α:Type} (l:Option (r49).den->α) (an:α->α->α) (x:(a49).den):α:=l (some (((mn x.1.1 x.2.1.1),((mx x.1.2.1 x.2.1.2.1),())),()))
theorem q49:QO G49 Tryz.f49 [] a49 r49 Q49:=fun _=>by kernel_rfl
def M49 (x:(a49).den):Option (r49).den:=Q49 (fun r=>r) (fun _ _=>none) x
theorem m49:MO G49 Tryz.f49 [] M49:=fun x=>by rw [q49]; unfold M49 Q49; simp only [Tree.sure,iO]
def p49:=pO M49
def v49:=vO (τ:=r49) M49
def k49:ee:=⟨a49,r49,p49,v49⟩
theorem h49:Holds Tryz.prog 49 k49:=hO bay g49 m49 l0
noncomputable def c53:=zo Tryz.f53
theorem aVV:zq 53 Tryz.f53 c53:=zu
abbrev a53:Ty:=T94
abbrev r53:Ty:=T20
noncomputable def G53:Ctx:=Ctx.of []
theorem g53:SP G53:=aD f0
def Q53 {α:Type} (l:Option (r53).den->α) (an:α->α->α) (x:(a53).den):α:=l (some (((mx x.1.1 (W (x.2.1.1 - x.2.2.1))),((mn x.1.2.1 (W (x.2.1.2.1 + x.2.2.1))),())),()))
theorem q53:QO G53 Tryz.f53 [] a53 r53 Q53:=fun _=>by kernel_rfl
def M53 (x:(a53).den):Option (r53).den:=Q53 (fun r=>r) (fun _ _=>none) x
theorem m53:MO G53 Tryz.f53 [] M53:=fun x=>by rw [q53]; unfold M53 Q53; simp only [Tree.sure,iO]
def p53:=pO M53
def v53:=vO (τ:=r53) M53
def k53:ee:=⟨a53,r53,p53,v53⟩
theorem h53:Holds Tryz.prog 53 k53:=hO aVV g53 m53 l0
noncomputable def c78:=zo Tryz.f78
theorem acp:zq 78 Tryz.f78 c78:=zu
abbrev aps:Ty:=(.cons T7 T2)
abbrev aGf:Ty:=(.cons PV aps)
abbrev a78:Ty:=aGf
abbrev WH:Ty:=T8
noncomputable def G78:Ctx:=Ctx.of [(53,.pure k53)]
theorem g78:SP G78:=aD (fa ⟨⟨aVV.c,h53⟩,f0⟩)
def Q78 {α:Type} (l:Option (WH).den->α) (an:α->α->α) (x:(a78).den):α:=bif (decide (((0:Int)<=x.2.2.2.1)/\(x.2.2.2.1 < ((x.1.1.n:Nat):Int)))) then bif (decide (((0:Int)<=x.2.2.2.2.1)/\(x.2.2.2.2.1 < (((x.1.1.g (Int.toNat x.2.2.2.1)).2.1.n:Nat):Int)))) then bif (decide (((0:Int)<=x.2.2.1)/\(x.2.2.1 < ((x.1.1.n:Nat):Int)))) then bif (decide (((0:Int)<=x.2.2.2.1)/\(x.2.2.2.1 < ((x.1.1.n:Nat):Int)))) then bif (decide (((0:Int)<=x.2.2.2.1)/\(x.2.2.2.1 < ((x.1.1.n:Nat):Int)))) then bif (decide (((0:Int)<=x.2.2.1)/\(x.2.2.1 < ((x.1.1.n:Nat):Int)))) then cl (r53).dflt (M53 ((x.2.1.1,(x.2.1.2.1,())),((((x.1.1.g (Int.toNat x.2.2.2.1)).2.1.g (Int.toNat x.2.2.2.2.1)).1,(((x.1.1.g (Int.toNat x.2.2.2.1)).2.1.g (Int.toNat x.2.2.2.2.1)).2.1,())),((W (x.1.2.1 * (mx (W ((x.1.1.g (Int.toNat x.2.2.1)).1 - (x.1.1.g (Int.toNat x.2.2.2.1)).1)) (W ((x.1.1.g (Int.toNat x.2.2.2.1)).1 - (x.1.1.g (Int.toNat x.2.2.1)).1))))),())))) (fun u0=>cl (r53).dflt (M53 ((x.2.1.2.2.1,(x.2.1.2.2.2.1,())),((((x.1.1.g (Int.toNat x.2.2.2.1)).2.1.g (Int.toNat x.2.2.2.2.1)).2.2.1,(((x.1.1.g (Int.toNat x.2.2.2.1)).2.1.g (Int.toNat x.2.2.2.2.1)).2.2.2.1,())),((W (x.1.2.1 * (mx (W ((x.1.1.g (Int.toNat x.2.2.1)).1 - (x.1.1.g (Int.toNat x.2.2.2.1)).1)) (W ((x.1.1.g (Int.toNat x.2.2.2.1)).1 - (x.1.1.g (Int.toNat x.2.2.1)).1))))),())))) (fun u1=>cl (r53).dflt (M53 (x.2.1.2.2.2.2,(((x.1.1.g (Int.toNat x.2.2.2.1)).2.1.g (Int.toNat x.2.2.2.2.1)).2.2.2.2,((W (x.1.2.2.1 * (mx (W ((x.1.1.g (Int.toNat x.2.2.1)).1 - (x.1.1.g (Int.toNat x.2.2.2.1)).1)) (W ((x.1.1.g (Int.toNat x.2.2.2.1)).1 - (x.1.1.g (Int.toNat x.2.2.1)).1))))),())))) (fun u2=>l (some ((u0.1.1,(u0.1.2.1,(u1.1.1,(u1.1.2.1,u2.1)))),()))) (l none)) (l none)) (l none) else l none else l none else l none else l none else l none else l none
theorem q78:QO G78 Tryz.f78 [] a78 WH Q78:=fun _=>by kernel_rfl
def M78 (x:(a78).den):Option (WH).den:=Q78 (fun r=>r) (fun _ _=>none) x
theorem m78:MO G78 Tryz.f78 [] M78:=fun x=>by rw [q78]; unfold M78 Q78; simp only [Tree.sure,iO]
def p78:=pO M78
def v78:=vO (τ:=WH) M78
def k78:ee:=⟨a78,WH,p78,v78⟩
theorem h78:Holds Tryz.prog 78 k78:=hO acp g78 m78 l0
noncomputable def c48:=zo Tryz.f48
theorem agY:zq 48 Tryz.f48 c48:=zu
abbrev ayo:Ty:=(.cons PV T99)
abbrev PA:Ty:=ayo
abbrev oM:Ty:=T8
noncomputable def G48:Ctx:=Ctx.of [(46,.pure k46),(78,.pure k78)]
theorem g48:SP G48:=aD (fa ⟨⟨azX.c,h46⟩,fa ⟨⟨acp.c,h78⟩,f0⟩⟩)
noncomputable def aLo:Code:=aG ((af (c48))[0]?)
theorem aWE:af (aLo)=[]:=by kernel_rfl
abbrev azu:List aL:=[.slot 1 (.pc ec),.slot 2 (.pc tI),.slot 3 (.pc tI),.slot 4 (.ptr 4),.slot 8 (.ptr 8),.slot 9 (.ptr 79),.box 4 [.pc eX,.pc tI,.pc tI,.pc tI,.pc tI],.box 8 [.pc tI,.pc tI,.pc tI,.pc tI,.pc tI,.pc tI]]
abbrev an5:List aL:=[.slot 10 (.pc tI),.slot 11 (.pc tI),.box 79 [.pc tI,.pc tI,.pc tI,.pc tI,.pc tI,.pc tI]]
abbrev aNb:List aL:=azu ++ an5
def aRB:ZJ azu an5 aNb:=ZA _ _
def aNc:ZS azu an5 aNb:=ZP _ _
abbrev aWF:aO:=⟨[(0,[.slot 1 (.pc ec),.slot 2 (.pc tI),.slot 3 (.pc tI),.slot 4 (.ptr 4),.slot 8 (.ptr 8),.slot 9 (.ptr 79),.box 4 [.pc eX,.pc tI,.pc tI,.pc tI,.pc tI],.box 8 [.pc tI,.pc tI,.pc tI,.pc tI,.pc tI,.pc tI],.box 79 [.pc tI,.pc tI,.pc tI,.pc tI,.pc tI,.pc tI]])],[],[]⟩
abbrev aC8:aO:=⟨[(0,[.box 79 [.pc tI,.pc tI,.pc tI,.pc tI,.pc tI,.pc tI]])],[],[]⟩
def aIT:ZE azu aC8 aWF:=fun id=>match id with | 0=>fun c y=>(c.1,(c.2.1,(c.2.2.1,(c.2.2.2.1,(c.2.2.2.2.1,(c.2.2.2.2.2.1,(c.2.2.2.2.2.2.1,(c.2.2.2.2.2.2.2.1,y)))))))) | _=>jm
def aE2 {α:Type} (l:RQ an5 aC8->α) (an:α->α->α) (c:ZD azu) (v:ZD an5):α:=bif (decide (((0:Int)<=v.1)/\(v.1 < ((c.1.n:Nat):Int)))) then bif (decide (((0:Int)<=v.2.1)/\(v.2.1 < (((c.1.g (Int.toNat v.1)).1.n:Nat):Int)))) then bif (decide ((0:Int)<=((c.1.g (Int.toNat v.1)).1.g (Int.toNat v.2.1)).1)) then bif (decide (((0:Int)<=v.1)/\(v.1 < ((c.1.n:Nat):Int)))) then bif (decide (((0:Int)<=v.2.1)/\(v.2.1 < (((c.1.g (Int.toNat v.1)).1.n:Nat):Int)))) then cl (WH).dflt (M78 (c.2.2.2.2.2.2.1,(v.2.2.1,(c.2.1,((W (v.1 - (1:Int))),((c.1.g (Int.toNat v.1)).1.g (Int.toNat v.2.1))))))) (fun u0=>l (.next ((W (v.1 - (1:Int))),(((c.1.g (Int.toNat v.1)).1.g (Int.toNat v.2.1)).1,(u0.1,()))))) (l .bad) else l .bad else l .bad else l (.out (.exit 0 (v.2.2.1,()))) else l .bad else l .bad
theorem baz:ZO G48 0 70 aLo [] aRB aIT ZI ZI aE2:=fun _ _=>by kernel_rfl
def ax8 (c:ZD azu) (v:ZD an5):RQ an5 aC8:=aE2 (fun r=>r) (fun _ _=>.bad) c v
theorem baA:SO G48 0 70 aLo [] aRB aIT ZI ZI ax8:=fun c v=>by rw [baz]; unfold ax8 aE2; simp only [bu,aM,pM]
def aRD (c:ZD azu) (v:ZD an5):LQ aC8:=aH (ax8 c) cz v
noncomputable def aLp:Code:=aG ((af (c48))[1]?)
theorem aWG:af (aLp)=[]:=by kernel_rfl
abbrev azv:List aL:=[.slot 2 (.pc tI),.slot 4 (.ptr 4),.slot 8 (.ptr 8),.slot 9 (.ptr 79),.slot 12 (.pc (.sl T0)),.box 4 [.pc eX,.pc tI,.pc tI,.pc tI,.pc tI],.box 8 [.pc tI,.pc tI,.pc tI,.pc tI,.pc tI,.pc tI]]
abbrev ajh:List aL:=[.slot 13 (.pc tI),.box 79 [.pc tI,.pc tI,.pc tI,.pc tI,.pc tI,.pc tI]]
abbrev aNd:List aL:=azv ++ ajh
def aRE:ZJ azv ajh aNd:=ZA _ _
def aNe:ZS azv ajh aNd:=ZP _ _
abbrev aWH:aO:=⟨[(2,[.slot 8 (.ptr 8),.slot 9 (.ptr 79),.box 8 [.pc tI,.pc tI,.pc tI,.pc tI,.pc tI,.pc tI],.box 79 [.pc tI,.pc tI,.pc tI,.pc tI,.pc tI,.pc tI]])],[],[]⟩
abbrev azw:aO:=⟨[(2,[.box 79 [.pc tI,.pc tI,.pc tI,.pc tI,.pc tI,.pc tI]])],[],[]⟩
def aJb:ZE azv azw aWH:=fun id=>match id with | 2=>fun c y=>(c.2.2.1,(c.2.2.2.1,(c.2.2.2.2.2.2.1,y))) | _=>jm
def aG5 {α:Type} (l:RQ ajh azw->α) (an:α->α->α) (c:ZD azv) (v:ZD ajh):α:=bif (decide (v.1 < ((c.2.2.2.2.1.n:Nat):Int))) then bif (decide (((0:Int)<=v.1)/\(v.1 < ((c.2.2.2.2.1.n:Nat):Int)))) then cl (WH).dflt (M78 (c.2.2.2.2.2.1,(v.2.1,(c.1,((W (c.1 + v.1)),(c.2.2.2.2.1.g (Int.toNat v.1))))))) (fun u1=>l (.next ((W (v.1 + (1:Int))),(u1.1,())))) (l .bad) else l .bad else l (.out (.exit 2 (v.2.1,())))
theorem baB:ZO G48 0 70 aLp [] aRE aJb ZI ZI aG5:=fun _ _=>by kernel_rfl
def aG6 (c:ZD azv) (v:ZD ajh):RQ ajh azw:=aG5 (fun r=>r) (fun _ _=>.bad) c v
theorem baC:SO G48 0 70 aLp [] aRE aJb ZI ZI aG6:=fun c v=>by rw [baB]; unfold aG6 aG5; simp only [bu,aM,pM]
def aLq (c:ZD azv) (v:ZD ajh):LQ azw:=aH (aG6 c) cz v
theorem aCU:af (c48)=[.loop aLo,.loop aLp]:=by kernel_rfl
noncomputable def l48:List Loop:=[lk 0 aIT ZI ZI false aNc aRD,lk 0 aJb ZI ZI false aNe aLq]
def Q48 {α:Type} (l:Option (oM).den->α) (an:α->α->α) (x:(PA).den):α:=bif (decide (((0:Int)<=x.2.2.1)/\(x.2.2.1 < ((x.1.1.n:Nat):Int)))) then bif (decide (((0:Int)<=x.2.2.2.1)/\(x.2.2.2.1 < (((x.1.1.g (Int.toNat x.2.2.1)).2.1.n:Nat):Int)))) then aF (aRD (x.2.1,(x.2.2.1,(x.2.2.2.1,((),((),((),(x.1,(((0:Int),((0:Int),((0:Int),((0:Int),((0:Int),((0:Int),())))))),())))))))) (x.2.2.1,(x.2.2.2.1,(((x.1.1.g (Int.toNat x.2.2.1)).2.1.g (Int.toNat x.2.2.2.1)),())))) 0 (fun u2=>cl (r46).dflt (Yl x.2) (fun u3=>aF (aLq (x.2.2.1,((),((),((),(u3.1,(x.1,(((0:Int),((0:Int),((0:Int),((0:Int),((0:Int),((0:Int),())))))),()))))))) ((1:Int),(u2.1,()))) 2 (fun u4=>l (some (u4.1,()))) (l none)) (l none)) (l none) else l none else l none
theorem q48:QO G48 Tryz.f48 l48 PA oM Q48:=fun _=>by kernel_rfl
def vA (x:(PA).den):Option (oM).den:=Q48 (fun r=>r) (fun _ _=>none) x
theorem Ug:MO G48 Tryz.f48 l48 vA:=fun x=>by rw [q48]; unfold vA Q48; simp only [Tree.sure,iO]
def p48:=pO vA
def v48:=vO (τ:=oM) vA
def k48:ee:=⟨PA,oM,p48,v48⟩
theorem h48:Holds Tryz.prog 48 k48:=hO agY g48 Ug fun G' hlo hF hE=>ai (by rw [aCU]; exact .cons (lv hE hF hlo (ln aWE) aNc baA) (.cons (lv hE hF hlo (ln aWG) aNe baC) (.nil)))
noncomputable def c14:=zo Tryz.f14
theorem aUF:zq 14 Tryz.f14 c14:=zu
abbrev aId:Ty:=(.cons PV Ic)
abbrev a14:Ty:=aId
abbrev r14:Ty:=T8
noncomputable def G14:Ctx:=Ctx.of [(48,.pure k48),(49,.pure k49)]
theorem g14:SP G14:=aD (fa ⟨⟨agY.c,h48⟩,fa ⟨⟨bay.c,h49⟩,f0⟩⟩)
noncomputable def ao2:Code:=aG ((af (c14))[0]?)
theorem aFO:af (ao2)=[]:=by kernel_rfl
abbrev ajl:List aL:=[.slot 1 (.pc T97),.slot 2 (.pc tI),.slot 3 (.pc tI),.slot 4 (.ptr 4),.slot 8 (.ptr 8),.slot 9 (.ptr 59),.box 4 [.pc eX,.pc tI,.pc tI,.pc tI,.pc tI],.box 8 [.pc tI,.pc tI,.pc tI,.pc tI,.pc tI,.pc tI]]
abbrev aeS:List aL:=[.slot 10 (.pc tI),.box 59 [.pc tI,.pc tI,.pc tI,.pc tI,.pc tI,.pc tI]]
abbrev awM:List aL:=ajl ++ aeS
def aBQ:ZJ ajl aeS awM:=ZA _ _
def awN:ZS ajl aeS awM:=ZP _ _
abbrev aFP:aO:=⟨[(0,[.slot 8 (.ptr 8),.slot 9 (.ptr 59),.box 8 [.pc tI,.pc tI,.pc tI,.pc tI,.pc tI,.pc tI],.box 59 [.pc tI,.pc tI,.pc tI,.pc tI,.pc tI,.pc tI]])],[],[]⟩
abbrev amx:aO:=⟨[(0,[.box 59 [.pc tI,.pc tI,.pc tI,.pc tI,.pc tI,.pc tI]])],[],[]⟩
def aqD:ZE ajl amx aFP:=fun id=>match id with | 0=>fun c y=>(c.2.2.2.2.1,(c.2.2.2.2.2.1,(c.2.2.2.2.2.2.2.1,y))) | _=>jm
def apJ {α:Type} (l:RQ aeS amx->α) (an:α->α->α) (c:ZD ajl) (v:ZD aeS):α:=bif (decide (v.1 < ((c.1.n:Nat):Int))) then bif (decide (((0:Int)<=v.1)/\(v.1 < ((c.1.n:Nat):Int)))) then cl (oM).dflt (vA (c.2.2.2.2.2.2.1,((c.1.g (Int.toNat v.1)).1,(c.2.1,(c.2.2.1,()))))) (fun u0=>cl (r49).dflt (M49 ((v.2.1.1,(v.2.1.2.1,())),((u0.1.1,(u0.1.2.1,())),()))) (fun u1=>cl (r49).dflt (M49 ((v.2.1.2.2.1,(v.2.1.2.2.2.1,())),((u0.1.2.2.1,(u0.1.2.2.2.1,())),()))) (fun u2=>cl (r49).dflt (M49 (v.2.1.2.2.2.2,(u0.1.2.2.2.2,()))) (fun u3=>l (.next ((W (v.1 + (1:Int))),((u1.1.1,(u1.1.2.1,(u2.1.1,(u2.1.2.1,u3.1)))),())))) (l .bad)) (l .bad)) (l .bad)) (l .bad) else l .bad else l (.out (.exit 0 (v.2.1,())))
theorem aLD:ZO G14 0 50 ao2 [] aBQ aqD ZI ZI apJ:=fun _ _=>by kernel_rfl
def apK (c:ZD ajl) (v:ZD aeS):RQ aeS amx:=apJ (fun r=>r) (fun _ _=>.bad) c v
theorem aLE:SO G14 0 50 ao2 [] aBQ aqD ZI ZI apK:=fun c v=>by rw [aLD]; unfold apK apJ; simp only [bu,aM,pM]
def apL (c:ZD ajl) (v:ZD aeS):LQ amx:=aH (apK c) cz v
theorem aUH:af (c14)=[.loop ao2]:=by kernel_rfl
noncomputable def l14:List Loop:=[lk 0 aqD ZI ZI false awN apL]
def Q14 {α:Type} (l:Option (r14).den->α) (an:α->α->α) (x:(a14).den):α:=bif (decide (((0:Int)<=(0:Int))/\((0:Int) < ((x.2.1.n:Nat):Int)))) then cl (oM).dflt (vA (x.1,((x.2.1.g 0).1,x.2.2))) (fun u4=>aF (apL (x.2.1,(x.2.2.1,(x.2.2.2.1,((),((),((),(x.1,(((0:Int),((0:Int),((0:Int),((0:Int),((0:Int),((0:Int),())))))),())))))))) ((1:Int),(u4.1,()))) 0 (fun u5=>l (some (u5.1,()))) (l none)) (l none) else l none
theorem q14:QO G14 Tryz.f14 l14 a14 r14 Q14:=fun _=>by kernel_rfl
def M14 (x:(a14).den):Option (r14).den:=Q14 (fun r=>r) (fun _ _=>none) x
theorem m14:MO G14 Tryz.f14 l14 M14:=fun x=>by rw [q14]; unfold M14 Q14; simp only [Tree.sure,iO]
def p14:=pO M14
def v14:=vO (τ:=r14) M14
def k14:ee:=⟨a14,r14,p14,v14⟩
theorem h14:Holds Tryz.prog 14 k14:=hO aUF g14 m14 fun G' hlo hF hE=>ai (by rw [aUH]; exact .cons (lv hE hF hlo (ln aFO) awN aLE) (.nil))
abbrev aGg:Ty:=(.cons PV T34)
abbrev aIi:Ty:=(.cons PV T98)
noncomputable def c6:=zo Tryz.f6
theorem cl6:zq 6 Tryz.f6 c6:=zu
abbrev a6:Ty:=.nil
abbrev r6:Ty:=T3
noncomputable def G6:Ctx:=Ctx.of [(7,.pure k7),(8,.pure k8),(12,.pure k12),(15,.pure k15),(16,.pure k16),(20,.pure k20),(21,.pure k21),(22,.pure k22),(23,.pure k23),(24,.pure k24),(25,.pure k25),(26,.pure k26),(27,.pure k27)]
theorem g6:SP G6:=aD (fa ⟨⟨cl7.c,h7⟩,fa ⟨⟨cl8.c,h8⟩,fa ⟨⟨baa.c,h12⟩,fa ⟨⟨bae.c,h15⟩,fa ⟨⟨aeP.c,h16⟩,fa ⟨⟨aoA.c,h20⟩,fa ⟨⟨aeR.c,h21⟩,fa ⟨⟨azU.c,h22⟩,fa ⟨⟨apm.c,h23⟩,fa ⟨⟨aVn.c,h24⟩,fa ⟨⟨aVq.c,h25⟩,fa ⟨⟨aVt.c,h26⟩,fa ⟨⟨az9.c,h27⟩,f0⟩⟩⟩⟩⟩⟩⟩⟩⟩⟩⟩⟩⟩)
theorem lo6:af (c6)=[]:=by kernel_rfl
noncomputable def l6:List Loop:=[]
def Q6 {α:Type} (l:Option (r6).den->α) (an:α->α->α) (x:(a6).den):α:=cl (Rf).dflt (Sj ()) (fun u0=>cl (Pz).dflt (M20 (u0.1,((1:Int),()))) (fun u1=>cl (Rf).dflt (Sj ()) (fun u2=>cl (r22).dflt (M22 (u0.1,())) (fun u3=>cl (Rf).dflt (Sj ()) (fun u4=>cl (IN).dflt (VN (u0.1,())) (fun u5=>cl (Rf).dflt (Sj ()) (fun u6=>cl (r7).dflt (M7 (u0.1,((0:Int),((0:Int),())))) (fun u7=>cl (Rf).dflt (Sj ()) (fun u8=>cl (r8).dflt (M8 (u0.1,((1:Int),((0:Int),())))) (fun u9=>cl (Rf).dflt (Sj ()) (fun vD=>cl (r15).dflt (M15 (u0.1,((0:Int),((3:Int),())))) (fun lM=>cl (Rf).dflt (Sj ()) (fun MA=>cl (WZ).dflt (Yz (u0.1,())) (fun Df=>cl (Rf).dflt (Sj ()) (fun PX=>cl (r24).dflt (M24 (u0.1,())) (fun PB=>bif (!(decide (u1.2.1=(0:Int)))) then l (some (false,())) else bif (!(decide (u3.2.1=(0:Int)))) then l (some (false,())) else bif (!(decide (u5.2.1=(0:Int)))) then l (some (false,())) else bif (!(decide (u7.2.1=(0:Int)))) then l (some (false,())) else bif (!(decide (u9.2.1=(0:Int)))) then l (some (false,())) else bif (!(decide (lM.2.1=(0:Int)))) then l (some (false,())) else bif (!(decide (Df.2.2.1=(0:Int)))) then l (some (false,())) else bif (!(decide (PB.2.1=(0:Int)))) then l (some (false,())) else cl (r25).dflt (M25 (u1.1,((⟨2,fun i=>List.getD [((⟨2,fun i=>List.getD [((3:Int),()),((1:Int),())] i ((3:Int),())⟩:Sl _),()),((⟨2,fun i=>List.getD [((1:Int),()),((3:Int),())] i ((1:Int),())⟩:Sl _),())] i ((⟨2,fun i=>List.getD [((3:Int),()),((1:Int),())] i ((3:Int),())⟩:Sl _),())⟩:Sl _),()))) (fun u16=>bif (!u16.1) then l (some (false,())) else cl (r25).dflt (M25 (u3.1,((⟨2,fun i=>List.getD [((⟨2,fun i=>List.getD [((1:Int),()),((1:Int),())] i ((1:Int),())⟩:Sl _),()),((⟨1,fun i=>List.getD [((1:Int),())] i ((1:Int),())⟩:Sl _),())] i ((⟨2,fun i=>List.getD [((1:Int),()),((1:Int),())] i ((1:Int),())⟩:Sl _),())⟩:Sl _),()))) (fun Wf=>bif (!Wf.1) then l (some (false,())) else cl (r25).dflt (M25 (u5.1,((⟨2,fun i=>List.getD [((⟨2,fun i=>List.getD [((1:Int),()),((1:Int),())] i ((1:Int),())⟩:Sl _),()),((⟨2,fun i=>List.getD [((2:Int),()),((2:Int),())] i ((2:Int),())⟩:Sl _),())] i ((⟨2,fun i=>List.getD [((1:Int),()),((1:Int),())] i ((1:Int),())⟩:Sl _),())⟩:Sl _),()))) (fun VP=>bif (!VP.1) then l (some (false,())) else cl (r12).dflt (M12 (u7.1,((⟨2,fun i=>List.getD [((⟨2,fun i=>List.getD [((0:Int),()),((0:Int),())] i ((0:Int),())⟩:Sl _),()),((⟨3,fun i=>List.getD [((0:Int),()),((0:Int),()),((0:Int),())] i ((0:Int),())⟩:Sl _),())] i ((⟨2,fun i=>List.getD [((0:Int),()),((0:Int),())] i ((0:Int),())⟩:Sl _),())⟩:Sl _),()))) (fun UO=>bif (!UO.1) then l (some (false,())) else cl (r27).dflt (M27 ((20:Int),((21:Int),()))) (fun u20=>cl (r27).dflt (M27 ((50:Int),((52:Int),()))) (fun u21=>cl (r27).dflt (M27 ((74100:Int),((74300:Int),()))) (fun u22=>cl (r26).dflt (M26 (u20.1,(u21.1,(u22.1,())))) (fun Dh=>bif ((decide (u9.1.1=Dh.1.1)) && ((decide (u9.1.2.1=Dh.1.2.1)) && ((decide (u9.1.2.2.1=Dh.1.2.2.1)) && ((decide (u9.1.2.2.2.1=Dh.1.2.2.2.1)) && ((decide (u9.1.2.2.2.2.1=Dh.1.2.2.2.2.1)) && ((decide (u9.1.2.2.2.2.2.1=Dh.1.2.2.2.2.2.1)) && true)))))) then cl (r27).dflt (M27 ((25:Int),((39:Int),()))) (fun Xd=>cl (r27).dflt (M27 ((46:Int),((59:Int),()))) (fun WL=>cl (r27).dflt (M27 ((74050:Int),((75050:Int),()))) (fun Xo=>cl (r26).dflt (M26 (Xd.1,(WL.1,(Xo.1,())))) (fun Gp=>bif ((decide (lM.1.1=Gp.1.1)) && ((decide (lM.1.2.1=Gp.1.2.1)) && ((decide (lM.1.2.2.1=Gp.1.2.2.1)) && ((decide (lM.1.2.2.2.1=Gp.1.2.2.2.1)) && ((decide (lM.1.2.2.2.2.1=Gp.1.2.2.2.2.1)) && ((decide (lM.1.2.2.2.2.2.1=Gp.1.2.2.2.2.2.1)) && true)))))) then bif (decide (Df.1=(2:Int))) then cl (r12).dflt (M12 (Df.2.1,((⟨3,fun i=>List.getD [((⟨2,fun i=>List.getD [((-1:Int),()),((-1:Int),())] i ((-1:Int),())⟩:Sl _),()),((⟨2,fun i=>List.getD [((0:Int),()),((1:Int),())] i ((0:Int),())⟩:Sl _),()),((⟨1,fun i=>List.getD [((0:Int),())] i ((0:Int),())⟩:Sl _),())] i ((⟨2,fun i=>List.getD [((-1:Int),()),((-1:Int),())] i ((-1:Int),())⟩:Sl _),())⟩:Sl _),()))) (fun u28=>bif u28.1 then l (some ((decide (PB.1=(2:Int))),())) else l (some (false,()))) (l none) else l (some (false,())) else l (some (false,()))) (l none)) (l none)) (l none)) (l none) else l (some (false,()))) (l none)) (l none)) (l none)) (l none)) (l none)) (l none)) (l none)) (l none)) (l none)) (l none)) (l none)) (l none)) (l none)) (l none)) (l none)) (l none)) (l none)) (l none)) (l none)) (l none)) (l none)) (l none)) (l none)) (l none)
def Q6g (m7:(a7).den->Option (r7).den) (m8:(a8).den->Option (r8).den) (m12:(a12).den->Option (r12).den) (m15:(a15).den->Option (r15).den) (m16:(a16).den->Option (WZ).den) (m20:(a20).den->Option (Pz).den) (m21:(a21).den->Option (Rf).den) (m22:(a22).den->Option (r22).den) (m23:(Tv).den->Option (IN).den) (m24:(a24).den->Option (r24).den) (m25:(a25).den->Option (r25).den) (m26:(a26).den->Option (r26).den) (m27:(a27).den->Option (r27).den) {α:Type} (l:Option (r6).den->α) (an:α->α->α) (x:(a6).den):α:=cl (Rf).dflt (m21 ()) (fun u0=>cl (Pz).dflt (m20 (u0.1,((1:Int),()))) (fun u1=>cl (Rf).dflt (m21 ()) (fun u2=>cl (r22).dflt (m22 (u0.1,())) (fun u3=>cl (Rf).dflt (m21 ()) (fun u4=>cl (IN).dflt (m23 (u0.1,())) (fun u5=>cl (Rf).dflt (m21 ()) (fun u6=>cl (r7).dflt (m7 (u0.1,((0:Int),((0:Int),())))) (fun u7=>cl (Rf).dflt (m21 ()) (fun u8=>cl (r8).dflt (m8 (u0.1,((1:Int),((0:Int),())))) (fun u9=>cl (Rf).dflt (m21 ()) (fun vD=>cl (r15).dflt (m15 (u0.1,((0:Int),((3:Int),())))) (fun lM=>cl (Rf).dflt (m21 ()) (fun MA=>cl (WZ).dflt (m16 (u0.1,())) (fun Df=>cl (Rf).dflt (m21 ()) (fun PX=>cl (r24).dflt (m24 (u0.1,())) (fun PB=>bif (!(decide (u1.2.1=(0:Int)))) then l (some (false,())) else bif (!(decide (u3.2.1=(0:Int)))) then l (some (false,())) else bif (!(decide (u5.2.1=(0:Int)))) then l (some (false,())) else bif (!(decide (u7.2.1=(0:Int)))) then l (some (false,())) else bif (!(decide (u9.2.1=(0:Int)))) then l (some (false,())) else bif (!(decide (lM.2.1=(0:Int)))) then l (some (false,())) else bif (!(decide (Df.2.2.1=(0:Int)))) then l (some (false,())) else bif (!(decide (PB.2.1=(0:Int)))) then l (some (false,())) else cl (r25).dflt (m25 (u1.1,((⟨2,fun i=>List.getD [((⟨2,fun i=>List.getD [((3:Int),()),((1:Int),())] i ((3:Int),())⟩:Sl _),()),((⟨2,fun i=>List.getD [((1:Int),()),((3:Int),())] i ((1:Int),())⟩:Sl _),())] i ((⟨2,fun i=>List.getD [((3:Int),()),((1:Int),())] i ((3:Int),())⟩:Sl _),())⟩:Sl _),()))) (fun u16=>bif (!u16.1) then l (some (false,())) else cl (r25).dflt (m25 (u3.1,((⟨2,fun i=>List.getD [((⟨2,fun i=>List.getD [((1:Int),()),((1:Int),())] i ((1:Int),())⟩:Sl _),()),((⟨1,fun i=>List.getD [((1:Int),())] i ((1:Int),())⟩:Sl _),())] i ((⟨2,fun i=>List.getD [((1:Int),()),((1:Int),())] i ((1:Int),())⟩:Sl _),())⟩:Sl _),()))) (fun Wf=>bif (!Wf.1) then l (some (false,())) else cl (r25).dflt (m25 (u5.1,((⟨2,fun i=>List.getD [((⟨2,fun i=>List.getD [((1:Int),()),((1:Int),())] i ((1:Int),())⟩:Sl _),()),((⟨2,fun i=>List.getD [((2:Int),()),((2:Int),())] i ((2:Int),())⟩:Sl _),())] i ((⟨2,fun i=>List.getD [((1:Int),()),((1:Int),())] i ((1:Int),())⟩:Sl _),())⟩:Sl _),()))) (fun VP=>bif (!VP.1) then l (some (false,())) else cl (r12).dflt (m12 (u7.1,((⟨2,fun i=>List.getD [((⟨2,fun i=>List.getD [((0:Int),()),((0:Int),())] i ((0:Int),())⟩:Sl _),()),((⟨3,fun i=>List.getD [((0:Int),()),((0:Int),()),((0:Int),())] i ((0:Int),())⟩:Sl _),())] i ((⟨2,fun i=>List.getD [((0:Int),()),((0:Int),())] i ((0:Int),())⟩:Sl _),())⟩:Sl _),()))) (fun UO=>bif (!UO.1) then l (some (false,())) else cl (r27).dflt (m27 ((20:Int),((21:Int),()))) (fun u20=>cl (r27).dflt (m27 ((50:Int),((52:Int),()))) (fun u21=>cl (r27).dflt (m27 ((74100:Int),((74300:Int),()))) (fun u22=>cl (r26).dflt (m26 (u20.1,(u21.1,(u22.1,())))) (fun Dh=>bif ((decide (u9.1.1=Dh.1.1)) && ((decide (u9.1.2.1=Dh.1.2.1)) && ((decide (u9.1.2.2.1=Dh.1.2.2.1)) && ((decide (u9.1.2.2.2.1=Dh.1.2.2.2.1)) && ((decide (u9.1.2.2.2.2.1=Dh.1.2.2.2.2.1)) && ((decide (u9.1.2.2.2.2.2.1=Dh.1.2.2.2.2.2.1)) && true)))))) then cl (r27).dflt (m27 ((25:Int),((39:Int),()))) (fun Xd=>cl (r27).dflt (m27 ((46:Int),((59:Int),()))) (fun WL=>cl (r27).dflt (m27 ((74050:Int),((75050:Int),()))) (fun Xo=>cl (r26).dflt (m26 (Xd.1,(WL.1,(Xo.1,())))) (fun Gp=>bif ((decide (lM.1.1=Gp.1.1)) && ((decide (lM.1.2.1=Gp.1.2.1)) && ((decide (lM.1.2.2.1=Gp.1.2.2.1)) && ((decide (lM.1.2.2.2.1=Gp.1.2.2.2.1)) && ((decide (lM.1.2.2.2.2.1=Gp.1.2.2.2.2.1)) && ((decide (lM.1.2.2.2.2.2.1=Gp.1.2.2.2.2.2.1)) && true)))))) then bif (decide (Df.1=(2:Int))) then cl (r12).dflt (m12 (Df.2.1,((⟨3,fun i=>List.getD [((⟨2,fun i=>List.getD [((-1:Int),()),((-1:Int),())] i ((-1:Int),())⟩:Sl _),()),((⟨2,fun i=>List.getD [((0:Int),()),((1:Int),())] i ((0:Int),())⟩:Sl _),()),((⟨1,fun i=>List.getD [((0:Int),())] i ((0:Int),())⟩:Sl _),())] i ((⟨2,fun i=>List.getD [((-1:Int),()),((-1:Int),())] i ((-1:Int),())⟩:Sl _),())⟩:Sl _),()))) (fun u28=>bif u28.1 then l (some ((decide (PB.1=(2:Int))),())) else l (some (false,()))) (l none) else l (some (false,())) else l (some (false,()))) (l none)) (l none)) (l none)) (l none) else l (some (false,()))) (l none)) (l none)) (l none)) (l none)) (l none)) (l none)) (l none)) (l none)) (l none)) (l none)) (l none)) (l none)) (l none)) (l none)) (l none)) (l none)) (l none)) (l none)) (l none)) (l none)) (l none)) (l none)) (l none)) (l none)
theorem q6g (m7:(a7).den->Option (r7).den) (m8:(a8).den->Option (r8).den) (m12:(a12).den->Option (r12).den) (m15:(a15).den->Option (r15).den) (m16:(a16).den->Option (WZ).den) (m20:(a20).den->Option (Pz).den) (m21:(a21).den->Option (Rf).den) (m22:(a22).den->Option (r22).den) (m23:(Tv).den->Option (IN).den) (m24:(a24).den->Option (r24).den) (m25:(a25).den->Option (r25).den) (m26:(a26).den->Option (r26).den) (m27:(a27).den->Option (r27).den) (x:(a6).den):aI Tryz.prog E0 (Ctx.of [(7,.pure (gU (τa:=a7) (τr:=r7) m7)),(8,.pure (gU (τa:=a8) (τr:=r8) m8)),(12,.pure (gU (τa:=a12) (τr:=r12) m12)),(15,.pure (gU (τa:=a15) (τr:=r15) m15)),(16,.pure (gU (τa:=a16) (τr:=WZ) m16)),(20,.pure (gU (τa:=a20) (τr:=Pz) m20)),(21,.pure (gU (τa:=a21) (τr:=Rf) m21)),(22,.pure (gU (τa:=a22) (τr:=r22) m22)),(23,.pure (gU (τa:=Tv) (τr:=IN) m23)),(24,.pure (gU (τa:=a24) (τr:=r24) m24)),(25,.pure (gU (τa:=a25) (τr:=r25) m25)),(26,.pure (gU (τa:=a26) (τr:=r26) m26)),(27,.pure (gU (τa:=a27) (τr:=r27) m27))]) Tryz.f6 l6 a6 r6 x=Q6g m7 m8 m12 m15 m16 m20 m21 m22 m23 m24 m25 m26 m27 .leaf .any x:=by kernel_rfl
theorem q6 (x:(a6).den):aI Tryz.prog E0 G6 Tryz.f6 l6 a6 r6 x=Q6 .leaf .any x:=q6g M7 M8 M12 M15 Yz M20 Sj M22 VN M24 M25 M26 M27 x
def M6 (x:(a6).den):Option (r6).den:=Q6 (fun r=>r) (fun _ _=>none) x
theorem m6 (x:(a6).den):(aI Tryz.prog E0 G6 Tryz.f6 l6 a6 r6 x).sure=M6 x:=by rw [q6]; unfold M6 Q6; simp only [Tree.sure,iO]
def p6 (x:(a6).den):Bool:=(M6 x).isSome
def v6 (x:(a6).den):(r6).den:=(M6 x).getD (r6).dflt
def k6:ee:=⟨a6,r6,p6,v6⟩
theorem h6:Holds Tryz.prog 6 k6:=aC (E:=E0) aA g6 aB au cl6.a cl6.b (by kernel_rfl) m6 fun G' hlo hF hE=>ai (by rw [lo6]; exact .nil)
noncomputable def c3:=zo Tryz.f3
theorem cl3:zq 3 Tryz.f3 c3:=zu
abbrev a3:Ty:=T88
abbrev r3:Ty:=T3
noncomputable def G3:Ctx:=Ctx.of [(5,.pure k5),(6,.pure k6),(7,.pure k7),(8,.pure k8),(9,.pure k9),(10,.pure k10),(11,.pure k11),(12,.pure k12),(13,.pure k13),(14,.pure k14)]
theorem g3:SP G3:=aD (fa ⟨⟨cl5.c,h5⟩,fa ⟨⟨cl6.c,h6⟩,fa ⟨⟨cl7.c,h7⟩,fa ⟨⟨cl8.c,h8⟩,fa ⟨⟨cl9.c,h9⟩,fa ⟨⟨aVi.c,h10⟩,fa ⟨⟨aVl.c,h11⟩,fa ⟨⟨baa.c,h12⟩,fa ⟨⟨aU9.c,h13⟩,fa ⟨⟨aUF.c,h14⟩,f0⟩⟩⟩⟩⟩⟩⟩⟩⟩⟩)
def Q3 {α:Type} (l:Option (r3).den->α) (an:α->α->α) (x:(a3).den):α:=cl (r5).dflt (M5 (x.1,())) (fun u0=>bif (!u0.1) then cl (r6).dflt (M6 ()) (fun u1=>l (some u1)) (l none) else cl (r7).dflt (M7 (x.1,x.2)) (fun u2=>cl (r8).dflt (M8 (x.1,x.2)) (fun u3=>cl (r10).dflt (M10 (x.1,x.2)) (fun u4=>cl (r9).dflt (M9 (x.1,u4)) (fun u5=>bif (!(decide (u5.1=(0:Int)))) then bif (decide (u2.2.1=u5.1)) then bif (decide (u3.2.1=u5.1)) then bif (decide (((u2.1.n:Nat):Int)=(0:Int))) then bif ((decide (u3.1.1=(0:Int))) && ((decide (u3.1.2.1=(0:Int))) && ((decide (u3.1.2.2.1=(0:Int))) && ((decide (u3.1.2.2.2.1=(0:Int))) && ((decide (u3.1.2.2.2.2.1=(0:Int))) && ((decide (u3.1.2.2.2.2.2.1=(0:Int))) && true)))))) then cl (r6).dflt (M6 ()) (fun u6=>l (some u6)) (l none) else l (some (false,())) else l (some (false,())) else l (some (false,())) else l (some (false,())) else cl (r11).dflt (M11 (x.1,())) (fun u7=>bif (decide (u2.2.1=(0:Int))) then bif (decide (u3.2.1=(0:Int))) then cl (r13).dflt (M13 (u7.1,x.2)) (fun u8=>cl (r12).dflt (M12 (u2.1,u8)) (fun u9=>bif u9.1 then cl (r14).dflt (M14 (x.1,(u7.1,x.2))) (fun vD=>bif ((decide (u3.1.1=vD.1.1)) && ((decide (u3.1.2.1=vD.1.2.1)) && ((decide (u3.1.2.2.1=vD.1.2.2.1)) && ((decide (u3.1.2.2.2.1=vD.1.2.2.2.1)) && ((decide (u3.1.2.2.2.2.1=vD.1.2.2.2.2.1)) && ((decide (u3.1.2.2.2.2.2.1=vD.1.2.2.2.2.2.1)) && true)))))) then cl (r6).dflt (M6 ()) (fun lM=>l (some lM)) (l none) else l (some (false,()))) (l none) else l (some (false,()))) (l none)) (l none) else l (some (false,())) else l (some (false,()))) (l none)) (l none)) (l none)) (l none)) (l none)) (l none)
theorem q3:QO G3 Tryz.f3 [] a3 r3 Q3:=fun _=>by kernel_rfl
def M3 (x:(a3).den):Option (r3).den:=Q3 (fun r=>r) (fun _ _=>none) x
theorem m3:MO G3 Tryz.f3 [] M3:=fun x=>by rw [q3]; unfold M3 Q3; simp only [Tree.sure,iO]
def p3:=pO M3
def v3:=vO (τ:=r3) M3
def k3:ee:=⟨a3,r3,p3,v3⟩
theorem h3:Holds Tryz.prog 3 k3:=hO cl3 g3 m3 l0
end Go.Dm

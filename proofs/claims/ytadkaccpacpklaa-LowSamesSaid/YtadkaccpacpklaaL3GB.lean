/-
 Each function of the program as a Lean function,and that its calls come to what that says.
-/
import Derived.Test.YtadkaccpacpklaaL3GA
set_option linter.unusedVariables false
set_option linter.unusedSimpArgs false
namespace Go.Dm
open Go.RowKit Go.Proofs
set_option maxRecDepth 100000
noncomputable def c21:=zo Try.f21
theorem aeR:zq 21 Try.f21 c21:=zu
abbrev a21:Ty:=Jd
abbrev Rf:Ty:=T3
noncomputable def G21:Ctx:=Ctx.of [(68,.pure k68),(69,.pure k69)]
theorem g21:SP G21:=aD (fa ⟨⟨aiE.c,h68⟩,fa ⟨⟨auj.c,h69⟩,f0⟩⟩)
noncomputable def HQ:Code:=aG ((af (c21))[0]?)
noncomputable def xR:Code:=aG ((af (HQ))[0]?)
theorem Ui:af (xR)=[]:=by kernel_rfl
abbrev iM:List aL:=[.slot 1 (.ptr 1),.slot 3 (.pc tI),.slot 4 (.ptr 103),.box 1 [.pc eX,.pc tI,.pc tI,.pc tI,.pc tI],.box 103 [.pc tI,.pc (.sl T6)]]
abbrev eG:List aL:=[.slot 5 (.pc tI)]
abbrev nC:List aL:=iM ++ eG
def zM:ZJ iM eG nC:=ZA _ _
def kr:ZS iM eG nC:=ZP _ _
abbrev kS:aO:=⟨[(2,[.slot 1 (.ptr 1),.slot 3 (.pc tI),.box 1 [.pc eX,.pc tI,.pc tI,.pc tI,.pc tI]])],[.slot 2 (.pc .bool)],[]⟩
abbrev gL:aO:=⟨[(2,[])],[.slot 2 (.pc .bool)],[]⟩
def tP:ZE iM gL kS:=fun id=>match id with | 2=>fun c y=>(c.1,(c.2.1,(c.2.2.2.1,y))) | _=>jm
def tQ {α:Type} (l:RQ eG gL->α) (an:α->α->α) (c:ZD iM) (v:ZD eG):α:=bif (decide (v.1 < ((c.2.2.2.2.1.2.1.n:Nat):Int))) then bif (decide (((0:Int)<=v.1)/\(v.1 < ((c.2.2.2.2.1.2.1.n:Nat):Int)))) then cl (WK).dflt (M69 (((c.2.2.2.2.1.2.1.g (Int.toNat v.1)).1,((c.2.2.2.2.1.2.1.g (Int.toNat v.1)).2.1,())),((100:Int),()))) (fun u0=>bif (!u0.1) then l (.out (.ret (false,()))) else cl (WK).dflt (M69 (((c.2.2.2.2.1.2.1.g (Int.toNat v.1)).2.2.1,((c.2.2.2.2.1.2.1.g (Int.toNat v.1)).2.2.2.1,())),((100:Int),()))) (fun u1=>bif (!u1.1) then l (.out (.ret (false,()))) else cl (WK).dflt (M69 ((c.2.2.2.2.1.2.1.g (Int.toNat v.1)).2.2.2.2,((99999:Int),()))) (fun u2=>bif (!u2.1) then l (.out (.ret (false,()))) else l (.next ((W (v.1 + (1:Int))),()))) (l .bad)) (l .bad)) (l .bad) else l .bad else l (.out (.exit 2 ()))
theorem Yh:ZO G21 0 97 xR [] zM tP ZI ZI tQ:=fun _ _=>by kernel_rfl
def tR (c:ZD iM) (v:ZD eG):RQ eG gL:=tQ (fun r=>r) (fun _ _=>.bad) c v
theorem Yi:SO G21 0 97 xR [] zM tP ZI ZI tR:=fun c v=>by rw [Yh]; unfold tR tQ; simp only [bu,aM,pM]
def jf (c:ZD iM) (v:ZD eG):LQ gL:=aH (tR c) cz v
theorem aeT:af (HQ)=[.loop xR]:=by kernel_rfl
abbrev oC:List aL:=[.slot 1 (.ptr 1),.box 1 [.pc eX,.pc tI,.pc tI,.pc tI,.pc tI]]
abbrev fS:List aL:=[.slot 3 (.pc tI)]
abbrev BK:List aL:=oC ++ fS
def Pn:ZJ oC fS BK:=ZA _ _
def GR:ZS oC fS BK:=ZP _ _
abbrev CQ:aO:=⟨[(0,[.slot 1 (.ptr 1),.box 1 [.pc eX,.pc tI,.pc tI,.pc tI,.pc tI]])],[.slot 2 (.pc .bool)],[]⟩
abbrev jb:aO:=⟨[(0,[])],[.slot 2 (.pc .bool)],[]⟩
def LB:ZE oC jb CQ:=fun id=>match id with | 0=>fun c y=>(c.1,(c.2.1,y)) | _=>jm
def HR {α:Type} (l:RQ fS jb->α) (an:α->α->α) (c:ZD oC) (v:ZD fS):α:=bif (decide (v.1 < ((c.2.1.1.n:Nat):Int))) then bif (decide (((0:Int)<=v.1)/\(v.1 < ((c.2.1.1.n:Nat):Int)))) then cl (Kj).dflt (MC ((c.2.1.1.g (Int.toNat v.1)).1,((0:Int),((200:Int),())))) (fun u3=>bif (!u3.1) then l (.out (.ret (false,()))) else bif (decide ((0:Int) < v.1)) then bif (decide (((0:Int)<=(W (v.1 - (1:Int))))/\((W (v.1 - (1:Int))) < ((c.2.1.1.n:Nat):Int)))) then bif (decide ((c.2.1.1.g (Int.toNat v.1)).1<=(c.2.1.1.g (Int.toNat (W (v.1 - (1:Int))))).1)) then l (.out (.ret (false,()))) else bif (decide ((3:Int) < (((c.2.1.1.g (Int.toNat v.1)).2.1.n:Nat):Int))) then l (.out (.ret (false,()))) else aF (jf ((),(v.1,((),(c.2.1,((c.2.1.1.g (Int.toNat v.1)),()))))) ((0:Int),())) 2 (fun u4=>l (.next ((W (v.1 + (1:Int))),()))) (bS (jf ((),(v.1,((),(c.2.1,((c.2.1.1.g (Int.toNat v.1)),()))))) ((0:Int),())) (fun u5=>l (.out (.ret u5))) (l .bad)) else l .bad else bif (decide ((3:Int) < (((c.2.1.1.g (Int.toNat v.1)).2.1.n:Nat):Int))) then l (.out (.ret (false,()))) else aF (jf ((),(v.1,((),(c.2.1,((c.2.1.1.g (Int.toNat v.1)),()))))) ((0:Int),())) 2 (fun u6=>l (.next ((W (v.1 + (1:Int))),()))) (bS (jf ((),(v.1,((),(c.2.1,((c.2.1.1.g (Int.toNat v.1)),()))))) ((0:Int),())) (fun u7=>l (.out (.ret u7))) (l .bad))) (l .bad) else l .bad else l (.out (.exit 0 ()))
theorem am0:ZO G21 0 97 HQ [.known (bF 0 [] nC fun x=>aJ kS tP ZI ZI [] true (kr x).1 (jf (kr x).1 (kr x).2) kS.bw)] Pn LB ZI ZI HR:=fun _ _=>by kernel_rfl
def HS (c:ZD oC) (v:ZD fS):RQ fS jb:=HR (fun r=>r) (fun _ _=>.bad) c v
theorem am1:SO G21 0 97 HQ [.known (bF 0 [] nC fun x=>aJ kS tP ZI ZI [] true (kr x).1 (jf (kr x).1 (kr x).2) kS.bw)] Pn LB ZI ZI HS:=fun c v=>by rw [am0]; unfold HS HR; simp only [bu,aM,pM]
def HT (c:ZD oC) (v:ZD fS):LQ jb:=aH (HS c) cz v
theorem ayk:af (c21)=[.loop HQ]:=by kernel_rfl
noncomputable def l21:List Loop:=[lk 0 LB ZI ZI true GR HT]
def Q21 {α:Type} (l:Option (Rf).den->α) (an:α->α->α) (x:(a21).den):α:=aF (HT ((),(x.1,())) ((0:Int),())) 0 (fun u8=>cl (Kj).dflt (MC (((x.1.1.n:Nat):Int),((1:Int),((4:Int),())))) (fun u9=>bif u9.1 then cl (Kj).dflt (MC (x.1.2.1,((0:Int),((50:Int),())))) (fun vD=>bif vD.1 then cl (Kj).dflt (MC (x.1.2.2.1,((0:Int),((1000:Int),())))) (fun lM=>bif lM.1 then cl (Kj).dflt (MC (x.1.2.2.2.1,((0:Int),((12:Int),())))) (fun MA=>bif MA.1 then cl (Kj).dflt (MC (x.1.2.2.2.2.1,((0:Int),((12:Int),())))) (fun Df=>l (some Df)) (l none) else l (some (false,()))) (l none) else l (some (false,()))) (l none) else l (some (false,()))) (l none) else l (some (false,()))) (l none)) (bS (HT ((),(x.1,())) ((0:Int),())) (fun PX=>l (some PX)) (l none))
theorem q21:QO G21 Try.f21 l21 a21 Rf Q21:=fun _=>by kernel_rfl
def Sj (x:(a21).den):Option (Rf).den:=Q21 (fun r=>r) (fun _ _=>none) x
theorem m21:MO G21 Try.f21 l21 Sj:=fun x=>by rw [q21]; unfold Sj Q21; simp only [Tree.sure,iO]
def p21:=pO Sj
def v21:=vO (τ:=Rf) Sj
def k21:ee:=⟨a21,Rf,p21,v21⟩
theorem h21:Holds Try.prog 21 k21:=hO aeR g21 m21 fun G' hlo hF hE=>ai (by rw [ayk]; exact .cons (lv hE hF hlo (ai (by rw [aeT]; exact .cons (lv hE hF hlo (ln Ui) kr Yi) (.nil))) GR am1) (.nil))
noncomputable def c56:=zo Try.f56
theorem auk:zq 56 Try.f56 c56:=zu
abbrev a56:Ty:=OG
abbrev r56:Ty:=T0
noncomputable def G56:Ctx:=Ctx.of []
theorem g56:SP G56:=aD f0
noncomputable def NL:Code:=aG ((af (c56))[0]?)
noncomputable def Em:Code:=aG ((af (NL))[0]?)
theorem aak:af (Em)=[]:=by kernel_rfl
abbrev kT:List aL:=[.slot 0 (.pc ec),.slot 4 (.pc tI)]
abbrev eB:List aL:=[.slot 3 (.pc tI),.slot 5 (.pc tI)]
abbrev sK:List aL:=kT ++ eB
def HU:ZJ kT eB sK:=ZA _ _
def oD:ZS kT eB sK:=ZP _ _
abbrev pJ:aO:=⟨[(2,[.slot 0 (.pc ec),.slot 4 (.pc tI),.slot 3 (.pc tI)])],[],[]⟩
abbrev oE:aO:=⟨[(2,[.slot 3 (.pc tI)])],[],[]⟩
def yW:ZE kT oE pJ:=fun id=>match id with | 2=>fun c y=>(c.1,(c.2.1,y)) | _=>jm
def yX {α:Type} (l:RQ eB oE->α) (an:α->α->α) (c:ZD kT) (v:ZD eB):α:=bif (decide (((0:Int)<=c.2.1)/\(c.2.1 < ((c.1.n:Nat):Int)))) then bif (decide (v.2.1 < (((c.1.g (Int.toNat c.2.1)).1.n:Nat):Int))) then bif (decide (((0:Int)<=c.2.1)/\(c.2.1 < ((c.1.n:Nat):Int)))) then bif (decide (((0:Int)<=v.2.1)/\(v.2.1 < (((c.1.g (Int.toNat c.2.1)).1.n:Nat):Int)))) then bif (decide (((c.1.g (Int.toNat c.2.1)).1.g (Int.toNat v.2.1)).1=(-1:Int))) then l (.next ((W (v.1 + (1:Int))),((W (v.2.1 + (1:Int))),()))) else l (.next (v.1,((W (v.2.1 + (1:Int))),()))) else l .bad else l .bad else l (.out (.exit 2 (v.1,()))) else l .bad
theorem aeU:ZO G56 0 32 Em [] HU yW ZI ZI yX:=fun _ _=>by kernel_rfl
def vv (c:ZD kT) (v:ZD eB):RQ eB oE:=yX (fun r=>r) (fun _ _=>.bad) c v
theorem aeV:SO G56 0 32 Em [] HU yW ZI ZI vv:=fun c v=>by rw [aeU]; unfold vv yX; simp only [bu,aM,pM]
def yY (c:ZD kT) (v:ZD eB):LQ oE:=aH (vv c) cz v
theorem aj4:af (NL)=[.loop Em]:=by kernel_rfl
abbrev sZ:List aL:=[.slot 0 (.pc ec)]
abbrev nq:List aL:=[.slot 3 (.pc tI),.slot 4 (.pc tI)]
abbrev JE:List aL:=sZ ++ nq
def Wg:ZJ sZ nq JE:=ZA _ _
def NM:ZS sZ nq JE:=ZP _ _
abbrev LC:aO:=⟨[(0,[.slot 3 (.pc tI)])],[],[]⟩
abbrev FT:aO:=⟨[(0,[.slot 3 (.pc tI)])],[],[]⟩
def Rg:ZE sZ FT LC:=fun id=>match id with | 0=>fun c y=>y | _=>jm
def NN {α:Type} (l:RQ nq FT->α) (an:α->α->α) (c:ZD sZ) (v:ZD nq):α:=bif (decide (v.2.1 < ((c.1.n:Nat):Int))) then aF (yY (c.1,v.2) (v.1,((0:Int),()))) 2 (fun u0=>l (.next (u0.1,((W (v.2.1 + (1:Int))),())))) (l .bad) else l (.out (.exit 0 (v.1,())))
theorem asq:ZO G56 0 32 NL [.known (bF 0 [] sK fun x=>aJ pJ yW ZI ZI [] false (oD x).1 (yY (oD x).1 (oD x).2) pJ.bw)] Wg Rg ZI ZI NN:=fun _ _=>by kernel_rfl
def JF (c:ZD sZ) (v:ZD nq):RQ nq FT:=NN (fun r=>r) (fun _ _=>.bad) c v
theorem asr:SO G56 0 32 NL [.known (bF 0 [] sK fun x=>aJ pJ yW ZI ZI [] false (oD x).1 (yY (oD x).1 (oD x).2) pJ.bw)] Wg Rg ZI ZI JF:=fun c v=>by rw [asq]; unfold JF NN; simp only [bu,aM,pM]
def Uj (c:ZD sZ) (v:ZD nq):LQ FT:=aH (JF c) cz v
theorem aC5:af (c56)=[.loop NL]:=by kernel_rfl
noncomputable def l56:List Loop:=[lk 0 Rg ZI ZI false NM Uj]
def Q56 {α:Type} (l:Option (r56).den->α) (an:α->α->α) (x:(a56).den):α:=aF (Uj x ((0:Int),((1:Int),()))) 0 (fun u1=>l (some u1)) (l none)
theorem q56:QO G56 Try.f56 l56 a56 r56 Q56:=fun _=>by kernel_rfl
def M56 (x:(a56).den):Option (r56).den:=Q56 (fun r=>r) (fun _ _=>none) x
theorem m56:MO G56 Try.f56 l56 M56:=fun x=>by rw [q56]; unfold M56 Q56; simp only [Tree.sure,iO]
def p56:=pO M56
def v56:=vO (τ:=r56) M56
def k56:ee:=⟨a56,r56,p56,v56⟩
theorem h56:Holds Try.prog 56 k56:=hO auk g56 m56 fun G' hlo hF hE=>ai (by rw [aC5]; exact .cons (lv hE hF hlo (ai (by rw [aj4]; exact .cons (lv hE hF hlo (ln aak) oD aeV) (.nil))) NM asr) (.nil))
noncomputable def c73:=zo Try.f73
theorem aj5:zq 73 Try.f73 c73:=zu
abbrev a73:Ty:=T29
abbrev r73:Ty:=T3
noncomputable def G73:Ctx:=Ctx.of []
theorem g73:SP G73:=aD f0
noncomputable def Uk:Code:=aG ((af (c73))[0]?)
theorem aj6:af (Uk)=[]:=by kernel_rfl
abbrev tc:List aL:=[.slot 0 (.pc (.sl T0)),.slot 1 (.pc tI)]
abbrev mc:List aL:=[.slot 5 (.pc tI)]
abbrev JG:List aL:=tc ++ mc
def Wh:ZJ tc mc JG:=ZA _ _
def NO:ZS tc mc JG:=ZP _ _
abbrev LD:aO:=⟨[(0,[])],[.slot 4 (.pc .bool)],[]⟩
abbrev sg:aO:=⟨[(0,[])],[.slot 4 (.pc .bool)],[]⟩
def Rh:ZE tc sg LD:=fun id=>match id with | 0=>fun c y=>y | _=>jm
def NP {α:Type} (l:RQ mc sg->α) (an:α->α->α) (c:ZD tc) (v:ZD mc):α:=bif (decide (v.1 < ((c.1.n:Nat):Int))) then bif (decide (((0:Int)<=v.1)/\(v.1 < ((c.1.n:Nat):Int)))) then bif (decide ((c.1.g (Int.toNat v.1)).1=c.2.1)) then l (.out (.ret (true,()))) else l (.next ((W (v.1 + (1:Int))),())) else l .bad else l (.out (.exit 0 ()))
theorem ast:ZO G73 0 18 Uk [] Wh Rh ZI ZI NP:=fun _ _=>by kernel_rfl
def NQ (c:ZD tc) (v:ZD mc):RQ mc sg:=NP (fun r=>r) (fun _ _=>.bad) c v
theorem asu:SO G73 0 18 Uk [] Wh Rh ZI ZI NQ:=fun c v=>by rw [ast]; unfold NQ NP; simp only [bu,aM,pM]
def NR (c:ZD tc) (v:ZD mc):LQ sg:=aH (NQ c) cz v
theorem aC7:af (c73)=[.loop Uk]:=by kernel_rfl
noncomputable def l73:List Loop:=[lk 0 Rh ZI ZI true NO NR]
def Q73 {α:Type} (l:Option (r73).den->α) (an:α->α->α) (x:(a73).den):α:=aF (NR x ((0:Int),())) 0 (fun u0=>l (some (false,()))) (bS (NR x ((0:Int),())) (fun u1=>l (some u1)) (l none))
theorem q73:QO G73 Try.f73 l73 a73 r73 Q73:=fun _=>by kernel_rfl
def M73 (x:(a73).den):Option (r73).den:=Q73 (fun r=>r) (fun _ _=>none) x
theorem m73:MO G73 Try.f73 l73 M73:=fun x=>by rw [q73]; unfold M73 Q73; simp only [Tree.sure,iO]
def p73:=pO M73
def v73:=vO (τ:=r73) M73
def k73:ee:=⟨a73,r73,p73,v73⟩
theorem h73:Holds Try.prog 73 k73:=hO aj5 g73 m73 fun G' hlo hF hE=>ai (by rw [aC7]; exact .cons (lv hE hF hlo (ln aj6) NO asu) (.nil))
noncomputable def c61:=zo Try.f61
theorem aul:zq 61 Try.f61 c61:=zu
abbrev a61:Ty:=OG
abbrev r61:Ty:=T0
noncomputable def G61:Ctx:=Ctx.of [(73,.pure k73)]
theorem g61:SP G61:=aD (fa ⟨⟨aj5.c,h73⟩,f0⟩)
noncomputable def NS:Code:=aG ((af (c61))[0]?)
noncomputable def En:Code:=aG ((af (NS))[0]?)
theorem aal:af (En)=[]:=by kernel_rfl
abbrev kU:List aL:=[.slot 0 (.pc ec),.slot 4 (.pc tI)]
abbrev eC:List aL:=[.slot 3 (.pc tI),.slot 5 (.pc tI)]
abbrev sM:List aL:=kU ++ eC
def HV:ZJ kU eC sM:=ZA _ _
def oF:ZS kU eC sM:=ZP _ _
abbrev pK:aO:=⟨[(2,[.slot 0 (.pc ec),.slot 4 (.pc tI),.slot 3 (.pc tI)])],[],[]⟩
abbrev oG:aO:=⟨[(2,[.slot 3 (.pc tI)])],[],[]⟩
def yZ:ZE kU oG pK:=fun id=>match id with | 2=>fun c y=>(c.1,(c.2.1,y)) | _=>jm
def zb {α:Type} (l:RQ eC oG->α) (an:α->α->α) (c:ZD kU) (v:ZD eC):α:=bif (decide (((0:Int)<=(W (c.2.1 - (1:Int))))/\((W (c.2.1 - (1:Int))) < ((c.1.n:Nat):Int)))) then bif (decide (v.2.1 < (((c.1.g (Int.toNat (W (c.2.1 - (1:Int))))).1.n:Nat):Int))) then bif (decide (((0:Int)<=c.2.1)/\(c.2.1 < ((c.1.n:Nat):Int)))) then cl (r73).dflt (M73 ((c.1.g (Int.toNat c.2.1)).1,v.2)) (fun u0=>bif (!u0.1) then l (.next ((W (v.1 + (1:Int))),((W (v.2.1 + (1:Int))),()))) else l (.next (v.1,((W (v.2.1 + (1:Int))),())))) (l .bad) else l .bad else l (.out (.exit 2 (v.1,()))) else l .bad
theorem aeX:ZO G61 0 32 En [] HV yZ ZI ZI zb:=fun _ _=>by kernel_rfl
def zc (c:ZD kU) (v:ZD eC):RQ eC oG:=zb (fun r=>r) (fun _ _=>.bad) c v
theorem aeY:SO G61 0 32 En [] HV yZ ZI ZI zc:=fun c v=>by rw [aeX]; unfold zc zb; simp only [bu,aM,pM]
def ze (c:ZD kU) (v:ZD eC):LQ oG:=aH (zc c) cz v
theorem aj8:af (NS)=[.loop En]:=by kernel_rfl
abbrev td:List aL:=[.slot 0 (.pc ec)]
abbrev nr:List aL:=[.slot 3 (.pc tI),.slot 4 (.pc tI)]
abbrev JH:List aL:=td ++ nr
def Wi:ZJ td nr JH:=ZA _ _
def NT:ZS td nr JH:=ZP _ _
abbrev LF:aO:=⟨[(0,[.slot 3 (.pc tI)])],[],[]⟩
abbrev FU:aO:=⟨[(0,[.slot 3 (.pc tI)])],[],[]⟩
def Ri:ZE td FU LF:=fun id=>match id with | 0=>fun c y=>y | _=>jm
def NU {α:Type} (l:RQ nr FU->α) (an:α->α->α) (c:ZD td) (v:ZD nr):α:=bif (decide (v.2.1 < ((c.1.n:Nat):Int))) then aF (ze (c.1,v.2) (v.1,((0:Int),()))) 2 (fun u1=>l (.next (u1.1,((W (v.2.1 + (1:Int))),())))) (l .bad) else l (.out (.exit 0 (v.1,())))
theorem asv:ZO G61 0 32 NS [.known (bF 0 [] sM fun x=>aJ pK yZ ZI ZI [] false (oF x).1 (ze (oF x).1 (oF x).2) pK.bw)] Wi Ri ZI ZI NU:=fun _ _=>by kernel_rfl
def JI (c:ZD td) (v:ZD nr):RQ nr FU:=NU (fun r=>r) (fun _ _=>.bad) c v
theorem asw:SO G61 0 32 NS [.known (bF 0 [] sM fun x=>aJ pK yZ ZI ZI [] false (oF x).1 (ze (oF x).1 (oF x).2) pK.bw)] Wi Ri ZI ZI JI:=fun c v=>by rw [asv]; unfold JI NU; simp only [bu,aM,pM]
def Ul (c:ZD td) (v:ZD nr):LQ FU:=aH (JI c) cz v
theorem aC9:af (c61)=[.loop NS]:=by kernel_rfl
noncomputable def l61:List Loop:=[lk 0 Ri ZI ZI false NT Ul]
def Q61 {α:Type} (l:Option (r61).den->α) (an:α->α->α) (x:(a61).den):α:=aF (Ul x ((0:Int),((1:Int),()))) 0 (fun u2=>l (some u2)) (l none)
theorem q61:QO G61 Try.f61 l61 a61 r61 Q61:=fun _=>by kernel_rfl
def M61 (x:(a61).den):Option (r61).den:=Q61 (fun r=>r) (fun _ _=>none) x
theorem m61:MO G61 Try.f61 l61 M61:=fun x=>by rw [q61]; unfold M61 Q61; simp only [Tree.sure,iO]
def p61:=pO M61
def v61:=vO (τ:=r61) M61
def k61:ee:=⟨a61,r61,p61,v61⟩
theorem h61:Holds Try.prog 61 k61:=hO aul g61 m61 fun G' hlo hF hE=>ai (by rw [aC9]; exact .cons (lv hE hF hlo (ai (by rw [aj8]; exact .cons (lv hE hF hlo (ln aal) oF aeY) (.nil))) NT asw) (.nil))
noncomputable def c70:=zo Try.f70
theorem aGc:zq 70 Try.f70 c70:=zu
abbrev a70:Ty:=T1
abbrev r70:Ty:=OG
noncomputable def G70:Ctx:=Ctx.of [(73,.pure k73)]
theorem g70:SP G70:=aD (fa ⟨⟨aj5.c,h73⟩,f0⟩)
noncomputable def Wj:Code:=aG ((af (c70))[0]?)
noncomputable def HW:Code:=aG ((af (Wj))[0]?)
noncomputable def Cd:Code:=aG ((af (HW))[0]?)
theorem aam:af (Cd)=[]:=by kernel_rfl
abbrev lB:List aL:=[.slot 0 (.pc tI),.slot 1 (.pc tI),.slot 5 (.pc ec),.slot 6 (.pc tI),.slot 8 (.pc tI)]
abbrev eU:List aL:=[.slot 7 (.own 1000007 79 nK),.slot 9 (.pc tI)]
abbrev tf:List aL:=lB ++ eU
def GW:ZJ lB eU tf:=ZA _ _
def oH:ZS lB eU tf:=ZP _ _
abbrev pS:aO:=⟨[(4,[.slot 0 (.pc tI),.slot 1 (.pc tI),.slot 5 (.pc ec),.slot 6 (.pc tI),.slot 8 (.pc tI),.slot 7 (.own 1000007 79 nK)])],[],[]⟩
abbrev oI:aO:=⟨[(4,[.slot 7 (.own 1000007 79 nK)])],[],[]⟩
def zf:ZE lB oI pS:=fun id=>match id with | 4=>fun c y=>(c.1,(c.2.1,(c.2.2.1,(c.2.2.2.1,(c.2.2.2.2.1,y))))) | _=>jm
def qI {α:Type} (l:RQ eU oI->α) (an:α->α->α) (c:ZD lB) (v:ZD eU):α:=bif (decide (v.2.1 < c.2.1)) then bif (decide (v.2.1 < (0:Int))) then bif (decide (((0:Int)<=c.2.2.2.2.1)/\(c.2.2.2.2.1 < ((c.2.2.1.n:Nat):Int)))) then bif (decide (((c.2.2.1.g (Int.toNat c.2.2.2.2.1)).1.n * 8)<=140737488355328)) then bif (decide ((((c.2.2.1.g (Int.toNat c.2.2.2.2.1)).1.n + 1) * 8)<=140737488355328)) then bif (decide (((v.1.n + 1) * 24)<=140737488355328)) then l (.next ((cK v.1 (⟨1,fun i=>List.getD [((cK (c.2.2.1.g (Int.toNat c.2.2.2.2.1)).1 (⟨1,fun i=>List.getD [v.2] i v.2⟩:Sl (Ty.den T0))),())] i ((cK (c.2.2.1.g (Int.toNat c.2.2.2.2.1)).1 (⟨1,fun i=>List.getD [v.2] i v.2⟩:Sl (Ty.den T0))),())⟩:Sl (Ty.den nK))),((W (v.2.1 + (1:Int))),()))) else l .bad else l .bad else l .bad else l .bad else bif (decide (((0:Int)<=c.2.2.2.2.1)/\(c.2.2.2.2.1 < ((c.2.2.1.n:Nat):Int)))) then cl (r73).dflt (M73 ((c.2.2.1.g (Int.toNat c.2.2.2.2.1)).1,v.2)) (fun u0=>bif (!u0.1) then bif (decide (((0:Int)<=c.2.2.2.2.1)/\(c.2.2.2.2.1 < ((c.2.2.1.n:Nat):Int)))) then bif (decide (((c.2.2.1.g (Int.toNat c.2.2.2.2.1)).1.n * 8)<=140737488355328)) then bif (decide ((((c.2.2.1.g (Int.toNat c.2.2.2.2.1)).1.n + 1) * 8)<=140737488355328)) then bif (decide (((v.1.n + 1) * 24)<=140737488355328)) then l (.next ((cK v.1 (⟨1,fun i=>List.getD [((cK (c.2.2.1.g (Int.toNat c.2.2.2.2.1)).1 (⟨1,fun i=>List.getD [v.2] i v.2⟩:Sl (Ty.den T0))),())] i ((cK (c.2.2.1.g (Int.toNat c.2.2.2.2.1)).1 (⟨1,fun i=>List.getD [v.2] i v.2⟩:Sl (Ty.den T0))),())⟩:Sl (Ty.den nK))),((W (v.2.1 + (1:Int))),()))) else l .bad else l .bad else l .bad else l .bad else l (.next (v.1,((W (v.2.1 + (1:Int))),())))) (l .bad) else l .bad else l (.out (.exit 4 (v.1,())))
theorem acu:ZO G70 0 51 Cd [] GW zf ZI ZI qI:=fun _ _=>by kernel_rfl
def oO (c:ZD lB) (v:ZD eU):RQ eU oI:=qI (fun r=>r) (fun _ _=>.bad) c v
theorem acv:SO G70 0 51 Cd [] GW zf ZI ZI oO:=fun c v=>by rw [acu]; unfold oO qI; simp only [bu,aM,pM]
def xC (c:ZD lB) (v:ZD eU):LQ oI:=aH (oO c) cz v
theorem agZ:af (HW)=[.loop Cd]:=by kernel_rfl
abbrev qJ:List aL:=[.slot 0 (.pc tI),.slot 1 (.pc tI),.slot 5 (.pc ec),.slot 6 (.pc tI)]
abbrev lF:List aL:=[.slot 7 (.own 1000007 79 nK),.slot 8 (.pc tI)]
abbrev zO:List aL:=qJ ++ lF
def PY:ZJ qJ lF zO:=ZA _ _
def uN:ZS qJ lF zO:=ZP _ _
abbrev wg:aO:=⟨[(2,[.slot 0 (.pc tI),.slot 1 (.pc tI),.slot 6 (.pc tI),.slot 7 (.pc (.sl nK))])],[],[]⟩
abbrev BL:aO:=⟨[(2,[.slot 7 (.pc (.sl nK))])],[],[]⟩
def HX:ZE qJ BL wg:=fun id=>match id with | 2=>fun c y=>(c.1,(c.2.1,(c.2.2.2.1,y))) | _=>jm
def HY {α:Type} (l:RQ lF BL->α) (an:α->α->α) (c:ZD qJ) (v:ZD lF):α:=bif (decide (v.2.1 < ((c.2.2.1.n:Nat):Int))) then aF (xC (c.1,(c.2.1,(c.2.2.1,(c.2.2.2.1,v.2)))) (v.1,((-1:Int),()))) 4 (fun u1=>l (.next (u1.1,((W (v.2.1 + (1:Int))),())))) (l .bad) else l (.out (.exit 2 (v.1,())))
theorem am3:ZO G70 0 51 HW [.known (bF 0 [] tf fun x=>aJ pS zf ZI ZI [] false (oH x).1 (xC (oH x).1 (oH x).2) pS.bw)] PY HX ZI ZI HY:=fun _ _=>by kernel_rfl
def Ce (c:ZD qJ) (v:ZD lF):RQ lF BL:=HY (fun r=>r) (fun _ _=>.bad) c v
theorem am4:SO G70 0 51 HW [.known (bF 0 [] tf fun x=>aJ pS zf ZI ZI [] false (oH x).1 (xC (oH x).1 (oH x).2) pS.bw)] PY HX ZI ZI Ce:=fun c v=>by rw [am3]; unfold Ce HY; simp only [bu,aM,pM]
def HZ (c:ZD qJ) (v:ZD lF):LQ BL:=aH (Ce c) cz v
theorem asx:af (Wj)=[.loop HW]:=by kernel_rfl
abbrev AA:List aL:=[.slot 0 (.pc tI),.slot 1 (.pc tI)]
abbrev tU:List aL:=[.slot 5 (.pc (.sl nK)),.slot 6 (.pc tI)]
abbrev Um:List aL:=AA ++ tU
def afD:ZJ AA tU Um:=ZA _ _
def Xa:ZS AA tU Um:=ZP _ _
abbrev VQ:aO:=⟨[(0,[.slot 5 (.pc ec)])],[],[]⟩
abbrev NV:aO:=⟨[(0,[.slot 5 (.pc ec)])],[],[]⟩
def aan:ZE AA NV VQ:=fun id=>match id with | 0=>fun c y=>y | _=>jm
def Wk {α:Type} (l:RQ tU NV->α) (an:α->α->α) (c:ZD AA) (v:ZD tU):α:=bif (decide (v.2.1 < c.1)) then aF (HZ (c.1,(c.2.1,v)) ((⟨0,fun i=>((⟨0,fun i=>((0:Int),())⟩:Sl _),())⟩:Sl _),((0:Int),()))) 2 (fun u2=>l (.next (u2.1,((W (v.2.1 + (1:Int))),())))) (l .bad) else l (.out (.exit 0 (v.1,())))
theorem azM:ZO G70 0 51 Wj [.known (bF 0 [] zO fun x=>aJ wg HX ZI ZI [] false (uN x).1 (HZ (uN x).1 (uN x).2) wg.bw)] afD aan ZI ZI Wk:=fun _ _=>by kernel_rfl
def RX (c:ZD AA) (v:ZD tU):RQ tU NV:=Wk (fun r=>r) (fun _ _=>.bad) c v
theorem azN:SO G70 0 51 Wj [.known (bF 0 [] zO fun x=>aJ wg HX ZI ZI [] false (uN x).1 (HZ (uN x).1 (uN x).2) wg.bw)] afD aan ZI ZI RX:=fun c v=>by rw [azM]; unfold RX Wk; simp only [bu,aM,pM]
def abM (c:ZD AA) (v:ZD tU):LQ NV:=aH (RX c) cz v
theorem aHN:af (c70)=[.loop Wj]:=by kernel_rfl
noncomputable def l70:List Loop:=[lk 0 aan ZI ZI false Xa abM]
def Q70 {α:Type} (l:Option (r70).den->α) (an:α->α->α) (x:(a70).den):α:=aF (abM x ((⟨1,fun i=>List.getD [((⟨0,fun i=>((0:Int),())⟩:Sl _),())] i ((⟨0,fun i=>((0:Int),())⟩:Sl _),())⟩:Sl _),((0:Int),()))) 0 (fun u3=>l (some u3)) (l none)
theorem q70:QO G70 Try.f70 l70 a70 r70 Q70:=fun _=>by kernel_rfl
def M70 (x:(a70).den):Option (r70).den:=Q70 (fun r=>r) (fun _ _=>none) x
theorem m70:MO G70 Try.f70 l70 M70:=fun x=>by rw [q70]; unfold M70 Q70; simp only [Tree.sure,iO]
def p70:=pO M70
def v70:=vO (τ:=r70) M70
def k70:ee:=⟨a70,r70,p70,v70⟩
theorem h70:Holds Try.prog 70 k70:=hO aGc g70 m70 fun G' hlo hF hE=>ai (by rw [aHN]; exact .cons (lv hE hF hlo (ai (by rw [asx]; exact .cons (lv hE hF hlo (ai (by rw [agZ]; exact .cons (lv hE hF hlo (ln aam) oH acv) (.nil))) uN am4) (.nil))) Xa azN) (.nil))
noncomputable def aDa:=zo Try.f119
theorem auE:zq 119 Try.f119 aDa:=zu
abbrev T97:Ty:=(.cons T12 T13)
abbrev a119:Ty:=T97
abbrev Si:Ty:=T3
noncomputable def asy:Ctx:=Ctx.of []
theorem aHP:SP asy:=aD f0
def asz {α:Type} (l:Option (Si).den->α) (an:α->α->α) (x:(a119).den):α:=bif (decide (x.2.2.1 < (W (x.1.1 - x.2.1.2.1)))) then l (some (true,())) else l (some ((decide (x.2.2.1 < (W (x.2.1.1 - x.1.2.1)))),()))
theorem aHS:QO asy Try.f119 [] a119 Si asz:=fun _=>by kernel_rfl
def Un (x:(a119).den):Option (Si).den:=asz (fun r=>r) (fun _ _=>none) x
theorem aHT:MO asy Try.f119 [] Un:=fun x=>by rw [aHS]; unfold Un asz; simp only [Tree.sure,iO]
def aHU:=pO Un
def aHV:=vO (τ:=Si) Un
def azP:ee:=⟨a119,Si,aHU,aHV⟩
theorem aHW:Holds Try.prog 119 azP:=hO auE aHP aHT l0
noncomputable def aDb:=zo Try.f101
theorem auF:zq 101 Try.f101 aDb:=zu
abbrev T98:Ty:=(.cons PV T4)
abbrev Yj:Ty:=T98
abbrev Yk:Ty:=T3
noncomputable def asA:Ctx:=Ctx.of [(119,.pure azP)]
theorem aHY:SP asA:=aD (fa ⟨⟨auE.c,aHW⟩,f0⟩)
def am6 {α:Type} (l:Option (Yk).den->α) (an:α->α->α) (x:(Yj).den):α:=bif (decide (((0:Int)<=x.2.1)/\(x.2.1 < ((x.1.1.n:Nat):Int)))) then bif (decide (((0:Int)<=x.2.2.1)/\(x.2.2.1 < (((x.1.1.g (Int.toNat x.2.1)).2.1.n:Nat):Int)))) then bif (decide (((0:Int)<=x.2.2.2.1)/\(x.2.2.2.1 < ((x.1.1.n:Nat):Int)))) then bif (decide (((0:Int)<=x.2.2.2.2.1)/\(x.2.2.2.2.1 < (((x.1.1.g (Int.toNat x.2.2.2.1)).2.1.n:Nat):Int)))) then bif (decide (((0:Int)<=x.2.1)/\(x.2.1 < ((x.1.1.n:Nat):Int)))) then bif (decide (((0:Int)<=x.2.2.2.1)/\(x.2.2.2.1 < ((x.1.1.n:Nat):Int)))) then bif (decide (((0:Int)<=x.2.2.2.1)/\(x.2.2.2.1 < ((x.1.1.n:Nat):Int)))) then bif (decide (((0:Int)<=x.2.1)/\(x.2.1 < ((x.1.1.n:Nat):Int)))) then cl (Si).dflt (Un ((((x.1.1.g (Int.toNat x.2.1)).2.1.g (Int.toNat x.2.2.1)).1,(((x.1.1.g (Int.toNat x.2.1)).2.1.g (Int.toNat x.2.2.1)).2.1,())),((((x.1.1.g (Int.toNat x.2.2.2.1)).2.1.g (Int.toNat x.2.2.2.2.1)).1,(((x.1.1.g (Int.toNat x.2.2.2.1)).2.1.g (Int.toNat x.2.2.2.2.1)).2.1,())),((W (x.1.2.1 * (mx (W ((x.1.1.g (Int.toNat x.2.1)).1 - (x.1.1.g (Int.toNat x.2.2.2.1)).1)) (W ((x.1.1.g (Int.toNat x.2.2.2.1)).1 - (x.1.1.g (Int.toNat x.2.1)).1))))),())))) (fun u0=>bif (!u0.1) then cl (Si).dflt (Un ((((x.1.1.g (Int.toNat x.2.1)).2.1.g (Int.toNat x.2.2.1)).2.2.1,(((x.1.1.g (Int.toNat x.2.1)).2.1.g (Int.toNat x.2.2.1)).2.2.2.1,())),((((x.1.1.g (Int.toNat x.2.2.2.1)).2.1.g (Int.toNat x.2.2.2.2.1)).2.2.1,(((x.1.1.g (Int.toNat x.2.2.2.1)).2.1.g (Int.toNat x.2.2.2.2.1)).2.2.2.1,())),((W (x.1.2.1 * (mx (W ((x.1.1.g (Int.toNat x.2.1)).1 - (x.1.1.g (Int.toNat x.2.2.2.1)).1)) (W ((x.1.1.g (Int.toNat x.2.2.2.1)).1 - (x.1.1.g (Int.toNat x.2.1)).1))))),())))) (fun u1=>bif (!u1.1) then cl (Si).dflt (Un (((x.1.1.g (Int.toNat x.2.1)).2.1.g (Int.toNat x.2.2.1)).2.2.2.2,(((x.1.1.g (Int.toNat x.2.2.2.1)).2.1.g (Int.toNat x.2.2.2.2.1)).2.2.2.2,((W (x.1.2.2.1 * (mx (W ((x.1.1.g (Int.toNat x.2.1)).1 - (x.1.1.g (Int.toNat x.2.2.2.1)).1)) (W ((x.1.1.g (Int.toNat x.2.2.2.1)).1 - (x.1.1.g (Int.toNat x.2.1)).1))))),())))) (fun u2=>l (some ((!u2.1),()))) (l none) else l (some (false,()))) (l none) else l (some (false,()))) (l none) else l none else l none else l none else l none else l none else l none else l none else l none
theorem aH1:QO asA Try.f101 [] Yj Yk am6:=fun _=>by kernel_rfl
def Wl (x:(Yj).den):Option (Yk).den:=am6 (fun r=>r) (fun _ _=>none) x
theorem aH2:MO asA Try.f101 [] Wl:=fun x=>by rw [aH1]; unfold Wl am6; simp only [Tree.sure,iO]
def aH3:=pO Wl
def aH4:=vO (τ:=Yk) Wl
def azR:ee:=⟨Yj,Yk,aH3,aH4⟩
theorem aH5:Holds Try.prog 101 azR:=hO auF aHY aH2 l0
noncomputable def c71:=zo Try.f71
theorem aGd:zq 71 Try.f71 c71:=zu
abbrev T99:Ty:=(.cons PV OG)
abbrev a71:Ty:=T99
abbrev r71:Ty:=T3
noncomputable def G71:Ctx:=Ctx.of [(101,.pure azR)]
theorem g71:SP G71:=aD (fa ⟨⟨auF.c,aH5⟩,f0⟩)
noncomputable def Wm:Code:=aG ((af (c71))[0]?)
noncomputable def MD:Code:=aG ((af (Wm))[0]?)
theorem ag0:af (MD)=[]:=by kernel_rfl
abbrev qK:List aL:=[.slot 1 (.pc ec),.slot 2 (.ptr 2),.slot 5 (.pc tI),.slot 6 (.pc tI),.box 2 [.pc eX,.pc tI,.pc tI,.pc tI,.pc tI]]
abbrev mM:List aL:=[.slot 7 (.pc tI),.slot 8 (.pc tI)]
abbrev zP:List aL:=qK ++ mM
def PZ:ZJ qK mM zP:=ZA _ _
def uO:ZS qK mM zP:=ZP _ _
abbrev wj:aO:=⟨[(2,[.slot 1 (.pc ec),.slot 2 (.ptr 2),.slot 5 (.pc tI),.slot 6 (.pc tI),.box 2 [.pc eX,.pc tI,.pc tI,.pc tI,.pc tI]])],[.slot 4 (.pc .bool)],[]⟩
abbrev qX:aO:=⟨[(2,[])],[.slot 4 (.pc .bool)],[]⟩
def Ia:ZE qK qX wj:=fun id=>match id with | 2=>fun c y=>(c.1,(c.2.1,(c.2.2.1,(c.2.2.2.1,(c.2.2.2.2.1,y))))) | _=>jm
def Cf {α:Type} (l:RQ mM qX->α) (an:α->α->α) (c:ZD qK) (v:ZD mM):α:=bif (decide (((0:Int)<=v.1)/\(v.1 < ((c.1.n:Nat):Int)))) then bif (decide (((0:Int)<=v.2.1)/\(v.2.1 < (((c.1.g (Int.toNat v.1)).1.n:Nat):Int)))) then bif (decide ((0:Int)<=((c.1.g (Int.toNat v.1)).1.g (Int.toNat v.2.1)).1)) then bif (decide (((0:Int)<=v.1)/\(v.1 < ((c.1.n:Nat):Int)))) then bif (decide (((0:Int)<=v.2.1)/\(v.2.1 < (((c.1.g (Int.toNat v.1)).1.n:Nat):Int)))) then cl (Yk).dflt (Wl (c.2.2.2.2.1,(c.2.2.1,(c.2.2.2.1,((W (v.1 - (1:Int))),((c.1.g (Int.toNat v.1)).1.g (Int.toNat v.2.1))))))) (fun u0=>bif (!u0.1) then l (.out (.ret (false,()))) else l (.next ((W (v.1 - (1:Int))),((c.1.g (Int.toNat v.1)).1.g (Int.toNat v.2.1))))) (l .bad) else l .bad else l .bad else l (.out (.exit 2 ())) else l .bad else l .bad
theorem am7:ZO G71 0 47 MD [] PZ Ia ZI ZI Cf:=fun _ _=>by kernel_rfl
def qT (c:ZD qK) (v:ZD mM):RQ mM qX:=Cf (fun r=>r) (fun _ _=>.bad) c v
theorem am8:SO G71 0 47 MD [] PZ Ia ZI ZI qT:=fun c v=>by rw [am7]; unfold qT Cf; simp only [bu,aM,pM]
def Ib (c:ZD qK) (v:ZD mM):LQ qX:=aH (qT c) cz v
theorem asC:af (Wm)=[.loop MD]:=by kernel_rfl
abbrev AB:List aL:=[.slot 1 (.pc ec),.slot 2 (.ptr 2),.slot 5 (.pc tI),.box 2 [.pc eX,.pc tI,.pc tI,.pc tI,.pc tI]]
abbrev sj:List aL:=[.slot 6 (.pc tI)]
abbrev Uo:List aL:=AB ++ sj
def afE:ZJ AB sj Uo:=ZA _ _
def Xb:ZS AB sj Uo:=ZP _ _
abbrev VR:aO:=⟨[(0,[])],[.slot 4 (.pc .bool)],[]⟩
abbrev zg:aO:=⟨[(0,[])],[.slot 4 (.pc .bool)],[]⟩
def aao:ZE AB zg VR:=fun id=>match id with | 0=>fun c y=>y | _=>jm
def Wn {α:Type} (l:RQ sj zg->α) (an:α->α->α) (c:ZD AB) (v:ZD sj):α:=bif (decide (((0:Int)<=c.2.2.1)/\(c.2.2.1 < ((c.1.n:Nat):Int)))) then bif (decide (v.1 < (((c.1.g (Int.toNat c.2.2.1)).1.n:Nat):Int))) then aF (Ib (c.1,((),(c.2.2.1,(v.1,(c.2.2.2.1,()))))) (c.2.2.1,v)) 2 (fun u1=>l (.next ((W (v.1 + (1:Int))),()))) (bS (Ib (c.1,((),(c.2.2.1,(v.1,(c.2.2.2.1,()))))) (c.2.2.1,v)) (fun u2=>l (.out (.ret u2))) (l .bad)) else l (.out (.exit 0 ())) else l .bad
theorem azS:ZO G71 0 47 Wm [.known (bF 0 [] zP fun x=>aJ wj Ia ZI ZI [] true (uO x).1 (Ib (uO x).1 (uO x).2) wj.bw)] afE aao ZI ZI Wn:=fun _ _=>by kernel_rfl
def Wo (c:ZD AB) (v:ZD sj):RQ sj zg:=Wn (fun r=>r) (fun _ _=>.bad) c v
theorem azT:SO G71 0 47 Wm [.known (bF 0 [] zP fun x=>aJ wj Ia ZI ZI [] true (uO x).1 (Ib (uO x).1 (uO x).2) wj.bw)] afE aao ZI ZI Wo:=fun c v=>by rw [azS]; unfold Wo Wn; simp only [bu,aM,pM]
def RY (c:ZD AB) (v:ZD sj):LQ zg:=aH (Wo c) cz v
theorem aH8:af (c71)=[.loop Wm]:=by kernel_rfl
noncomputable def l71:List Loop:=[lk 0 aao ZI ZI true Xb RY]
def Q71 {α:Type} (l:Option (r71).den->α) (an:α->α->α) (x:(a71).den):α:=aF (RY (x.2.1,((),((W (((x.2.1.n:Nat):Int) - (1:Int))),(x.1,())))) ((0:Int),())) 0 (fun u3=>l (some (true,()))) (bS (RY (x.2.1,((),((W (((x.2.1.n:Nat):Int) - (1:Int))),(x.1,())))) ((0:Int),())) (fun u4=>l (some u4)) (l none))
theorem q71:QO G71 Try.f71 l71 a71 r71 Q71:=fun _=>by kernel_rfl
def M71 (x:(a71).den):Option (r71).den:=Q71 (fun r=>r) (fun _ _=>none) x
theorem m71:MO G71 Try.f71 l71 M71:=fun x=>by rw [q71]; unfold M71 Q71; simp only [Tree.sure,iO]
def p71:=pO M71
def v71:=vO (τ:=r71) M71
def k71:ee:=⟨a71,r71,p71,v71⟩
theorem h71:Holds Try.prog 71 k71:=hO aGd g71 m71 fun G' hlo hF hE=>ai (by rw [aH8]; exact .cons (lv hE hF hlo (ai (by rw [asC]; exact .cons (lv hE hF hlo (ln ag0) uO am8) (.nil))) Xb azT) (.nil))
noncomputable def c22:=zo Try.f22
theorem azU:zq 22 Try.f22 c22:=zu
abbrev Ic:Ty:=(.sl OG)
abbrev aps:Ty:=(.cons Ic .nil)
abbrev a22:Ty:=Jd
abbrev r22:Ty:=aps
noncomputable def G22:Ctx:=Ctx.of [(56,.pure k56),(61,.pure k61),(70,.pure k70),(71,.pure k71)]
theorem g22:SP G22:=aD (fa ⟨⟨auk.c,h56⟩,fa ⟨⟨aul.c,h61⟩,fa ⟨⟨aGc.c,h70⟩,fa ⟨⟨aGd.c,h71⟩,f0⟩⟩⟩⟩)
noncomputable def Wp:Code:=aG ((af (c22))[0]?)
noncomputable def Ie:Code:=aG ((af (Wp))[0]?)
noncomputable def Cg:Code:=aG ((af (Ie))[0]?)
theorem aap:af (Cg)=[]:=by kernel_rfl
abbrev lC:List aL:=[.slot 1 (.ptr 1),.slot 4 (.pc Ic),.slot 5 (.pc tI),.slot 6 (.pc ec),.slot 8 (.pc tI),.box 1 [.pc eX,.pc tI,.pc tI,.pc tI,.pc tI]]
abbrev gP:List aL:=[.slot 7 (.own 1000007 58 OG),.slot 9 (.pc tI)]
abbrev tg:List aL:=lC ++ gP
def GX:ZJ lC gP tg:=ZA _ _
def oJ:ZS lC gP tg:=ZP _ _
abbrev pT:aO:=⟨[(4,[.slot 1 (.ptr 1),.slot 4 (.pc Ic),.slot 5 (.pc tI),.slot 6 (.pc ec),.slot 8 (.pc tI),.box 1 [.pc eX,.pc tI,.pc tI,.pc tI,.pc tI],.slot 7 (.own 1000007 58 OG)])],[],[]⟩
abbrev uP:aO:=⟨[(4,[.slot 7 (.own 1000007 58 OG)])],[],[]⟩
def zh:ZE lC uP pT:=fun id=>match id with | 4=>fun c y=>(c.1,(c.2.1,(c.2.2.1,(c.2.2.2.1,(c.2.2.2.2.1,(c.2.2.2.2.2.1,y)))))) | _=>jm
def xD {α:Type} (l:RQ gP uP->α) (an:α->α->α) (c:ZD lC) (v:ZD gP):α:=bif (decide (v.2.1 < ((c.2.2.2.1.n:Nat):Int))) then bif (decide (((0:Int)<=c.2.2.2.2.1)/\(c.2.2.2.2.1 < ((c.2.1.n:Nat):Int)))) then bif (decide (((c.2.1.g (Int.toNat c.2.2.2.2.1)).1.n * 24)<=140737488355328)) then bif (decide (((0:Int)<=v.2.1)/\(v.2.1 < ((c.2.2.2.1.n:Nat):Int)))) then bif (decide ((((c.2.1.g (Int.toNat c.2.2.2.2.1)).1.n + 1) * 24)<=140737488355328)) then cl (r56).dflt (M56 ((cK (c.2.1.g (Int.toNat c.2.2.2.2.1)).1 (⟨1,fun i=>List.getD [(c.2.2.2.1.g (Int.toNat v.2.1))] i (c.2.2.2.1.g (Int.toNat v.2.1))⟩:Sl (Ty.den nK))),())) (fun u0=>bif (decide (u0.1<=c.2.2.2.2.2.1.2.2.2.1)) then cl (r61).dflt (M61 ((cK (c.2.1.g (Int.toNat c.2.2.2.2.1)).1 (⟨1,fun i=>List.getD [(c.2.2.2.1.g (Int.toNat v.2.1))] i (c.2.2.2.1.g (Int.toNat v.2.1))⟩:Sl (Ty.den nK))),())) (fun u1=>bif (decide (u1.1<=c.2.2.2.2.2.1.2.2.2.2.1)) then cl (r71).dflt (M71 (c.2.2.2.2.2.1,((cK (c.2.1.g (Int.toNat c.2.2.2.2.1)).1 (⟨1,fun i=>List.getD [(c.2.2.2.1.g (Int.toNat v.2.1))] i (c.2.2.2.1.g (Int.toNat v.2.1))⟩:Sl (Ty.den nK))),()))) (fun u2=>bif u2.1 then bif (decide (((v.1.n + 1) * 24)<=140737488355328)) then l (.next ((cK v.1 (⟨1,fun i=>List.getD [((cK (c.2.1.g (Int.toNat c.2.2.2.2.1)).1 (⟨1,fun i=>List.getD [(c.2.2.2.1.g (Int.toNat v.2.1))] i (c.2.2.2.1.g (Int.toNat v.2.1))⟩:Sl (Ty.den nK))),())] i ((cK (c.2.1.g (Int.toNat c.2.2.2.2.1)).1 (⟨1,fun i=>List.getD [(c.2.2.2.1.g (Int.toNat v.2.1))] i (c.2.2.2.1.g (Int.toNat v.2.1))⟩:Sl (Ty.den nK))),())⟩:Sl (Ty.den OG))),((W (v.2.1 + (1:Int))),()))) else l .bad else l (.next (v.1,((W (v.2.1 + (1:Int))),())))) (l .bad) else l (.next (v.1,((W (v.2.1 + (1:Int))),())))) (l .bad) else l (.next (v.1,((W (v.2.1 + (1:Int))),())))) (l .bad) else l .bad else l .bad else l .bad else l .bad else l (.out (.exit 4 (v.1,())))
theorem acw:ZO G22 0 89 Cg [] GX zh ZI ZI xD:=fun _ _=>by kernel_rfl
def qL (c:ZD lC) (v:ZD gP):RQ gP uP:=xD (fun r=>r) (fun _ _=>.bad) c v
theorem acy:SO G22 0 89 Cg [] GX zh ZI ZI qL:=fun c v=>by rw [acw]; unfold qL xD; simp only [bu,aM,pM]
def xE (c:ZD lC) (v:ZD gP):LQ uP:=aH (qL c) cz v
theorem ag1:af (Ie)=[.loop Cg]:=by kernel_rfl
abbrev qM:List aL:=[.slot 1 (.ptr 1),.slot 4 (.pc Ic),.slot 5 (.pc tI),.slot 6 (.pc ec),.box 1 [.pc eX,.pc tI,.pc tI,.pc tI,.pc tI]]
abbrev lG:List aL:=[.slot 7 (.own 1000007 58 OG),.slot 8 (.pc tI)]
abbrev zQ:List aL:=qM ++ lG
def Qa:ZJ qM lG zQ:=ZA _ _
def uQ:ZS qM lG zQ:=ZP _ _
abbrev wm:aO:=⟨[(2,[.slot 1 (.ptr 1),.slot 5 (.pc tI),.box 1 [.pc eX,.pc tI,.pc tI,.pc tI,.pc tI],.slot 7 (.pc (.sl OG))])],[],[]⟩
abbrev BM:aO:=⟨[(2,[.slot 7 (.pc (.sl OG))])],[],[]⟩
def Ig:ZE qM BM wm:=fun id=>match id with | 2=>fun c y=>(c.1,(c.2.2.1,(c.2.2.2.2.1,y))) | _=>jm
def Ih {α:Type} (l:RQ lG BM->α) (an:α->α->α) (c:ZD qM) (v:ZD lG):α:=bif (decide (v.2.1 < ((c.2.1.n:Nat):Int))) then aF (xE ((),(c.2.1,(c.2.2.1,(c.2.2.2.1,(v.2.1,(c.2.2.2.2.1,())))))) (v.1,((0:Int),()))) 4 (fun u3=>l (.next (u3.1,((W (v.2.1 + (1:Int))),())))) (l .bad) else l (.out (.exit 2 (v.1,())))
theorem ana:ZO G22 0 89 Ie [.known (bF 0 [] tg fun x=>aJ pT zh ZI ZI [] false (oJ x).1 (xE (oJ x).1 (oJ x).2) pT.bw)] Qa Ig ZI ZI Ih:=fun _ _=>by kernel_rfl
def Ch (c:ZD qM) (v:ZD lG):RQ lG BM:=Ih (fun r=>r) (fun _ _=>.bad) c v
theorem anb:SO G22 0 89 Ie [.known (bF 0 [] tg fun x=>aJ pT zh ZI ZI [] false (oJ x).1 (xE (oJ x).1 (oJ x).2) pT.bw)] Qa Ig ZI ZI Ch:=fun c v=>by rw [ana]; unfold Ch Ih; simp only [bu,aM,pM]
def Ii (c:ZD qM) (v:ZD lG):LQ BM:=aH (Ch c) cz v
theorem asE:af (Wp)=[.loop Ie]:=by kernel_rfl
abbrev AD:List aL:=[.slot 1 (.ptr 1),.box 1 [.pc eX,.pc tI,.pc tI,.pc tI,.pc tI]]
abbrev tV:List aL:=[.slot 4 (.pc (.sl OG)),.slot 5 (.pc tI)]
abbrev Up:List aL:=AD ++ tV
def afF:ZJ AD tV Up:=ZA _ _
def Xc:ZS AD tV Up:=ZP _ _
abbrev VS:aO:=⟨[(0,[.slot 4 (.pc Ic)])],[],[]⟩
abbrev NW:aO:=⟨[(0,[.slot 4 (.pc Ic)])],[],[]⟩
def aaq:ZE AD NW VS:=fun id=>match id with | 0=>fun c y=>y | _=>jm
def Wq {α:Type} (l:RQ tV NW->α) (an:α->α->α) (c:ZD AD) (v:ZD tV):α:=bif (decide (v.2.1 < ((c.2.1.1.n:Nat):Int))) then bif (decide (((0:Int)<=v.2.1)/\(v.2.1 < ((c.2.1.1.n:Nat):Int)))) then bif (decide (((0:Int)<=(W (v.2.1 - (1:Int))))/\((W (v.2.1 - (1:Int))) < ((c.2.1.1.n:Nat):Int)))) then cl (r70).dflt (M70 ((((c.2.1.1.g (Int.toNat v.2.1)).2.1.n:Nat):Int),((((c.2.1.1.g (Int.toNat (W (v.2.1 - (1:Int))))).2.1.n:Nat):Int),()))) (fun u4=>aF (Ii ((),(v.1,(v.2.1,(u4.1,(c.2.1,()))))) ((⟨0,fun i=>((⟨0,fun i=>((⟨0,fun i=>((0:Int),())⟩:Sl _),())⟩:Sl _),())⟩:Sl _),((0:Int),()))) 2 (fun u5=>l (.next (u5.1,((W (v.2.1 + (1:Int))),())))) (l .bad)) (l .bad) else l .bad else l .bad else l (.out (.exit 0 (v.1,())))
theorem azV:ZO G22 0 89 Wp [.known (bF 0 [] zQ fun x=>aJ wm Ig ZI ZI [] false (uQ x).1 (Ii (uQ x).1 (uQ x).2) wm.bw)] afF aaq ZI ZI Wq:=fun _ _=>by kernel_rfl
def RZ (c:ZD AD) (v:ZD tV):RQ tV NW:=Wq (fun r=>r) (fun _ _=>.bad) c v
theorem azW:SO G22 0 89 Wp [.known (bF 0 [] zQ fun x=>aJ wm Ig ZI ZI [] false (uQ x).1 (Ii (uQ x).1 (uQ x).2) wm.bw)] afF aaq ZI ZI RZ:=fun c v=>by rw [azV]; unfold RZ Wq; simp only [bu,aM,pM]
def abN (c:ZD AD) (v:ZD tV):LQ NW:=aH (RZ c) cz v
theorem aIc:af (c22)=[.loop Wp]:=by kernel_rfl
noncomputable def l22:List Loop:=[lk 0 aaq ZI ZI false Xc abN]
def Q22 {α:Type} (l:Option (r22).den->α) (an:α->α->α) (x:(a22).den):α:=bif (decide (((0:Int)<=(0:Int))/\((0:Int) < ((x.1.1.n:Nat):Int)))) then cl (r70).dflt (M70 ((((x.1.1.g 0).2.1.n:Nat):Int),((0:Int),()))) (fun u6=>aF (abN ((),(x.1,())) ((⟨1,fun i=>List.getD [u6] i u6⟩:Sl _),((1:Int),()))) 0 (fun u7=>l (some u7)) (l none)) (l none) else l none
theorem q22:QO G22 Try.f22 l22 a22 r22 Q22:=fun _=>by kernel_rfl
def M22 (x:(a22).den):Option (r22).den:=Q22 (fun r=>r) (fun _ _=>none) x
theorem m22:MO G22 Try.f22 l22 M22:=fun x=>by rw [q22]; unfold M22 Q22; simp only [Tree.sure,iO]
def p22:=pO M22
def v22:=vO (τ:=r22) M22
def k22:ee:=⟨a22,r22,p22,v22⟩
theorem h22:Holds Try.prog 22 k22:=hO azU g22 m22 fun G' hlo hF hE=>ai (by rw [aIc]; exact .cons (lv hE hF hlo (ai (by rw [asE]; exact .cons (lv hE hF hlo (ai (by rw [ag1]; exact .cons (lv hE hF hlo (ln aap) oJ acy) (.nil))) uQ anb) (.nil))) Xc azW) (.nil))
noncomputable def c72:=zo Try.f72
theorem aOZ:zq 72 Try.f72 c72:=zu
abbrev a72:Ty:=T1
abbrev r72:Ty:=T0
noncomputable def G72:Ctx:=Ctx.of []
theorem g72:SP G72:=aD f0
def Q72 {α:Type} (l:Option (r72).den->α) (an:α->α->α) (x:(a72).den):α:=bif (decide (x.1=(0:Int))) then l (some ((1:Int),())) else bif (decide (x.1 < x.2.1)) then l (some ((2:Int),())) else l (some ((3:Int),()))
theorem q72:QO G72 Try.f72 [] a72 r72 Q72:=fun _=>by kernel_rfl
def M72 (x:(a72).den):Option (r72).den:=Q72 (fun r=>r) (fun _ _=>none) x
theorem m72:MO G72 Try.f72 [] M72:=fun x=>by rw [q72]; unfold M72 Q72; simp only [Tree.sure,iO]
def p72:=pO M72
def v72:=vO (τ:=r72) M72
def k72:ee:=⟨a72,r72,p72,v72⟩
theorem h72:Holds Try.prog 72 k72:=hO aOZ g72 m72 l0
noncomputable def c24:=zo Try.f24
theorem aVn:zq 24 Try.f24 c24:=zu
abbrev aGf:Ty:=(.cons PV aps)
abbrev a24:Ty:=aGf
abbrev r24:Ty:=OG
noncomputable def G24:Ctx:=Ctx.of [(72,.pure k72)]
theorem g24:SP G24:=aD (fa ⟨⟨aOZ.c,h72⟩,f0⟩)
noncomputable def aAg:Code:=aG ((af (c24))[0]?)
noncomputable def anw:Code:=aG ((af (aAg))[0]?)
noncomputable def aiq:Code:=aG ((af (anw))[0]?)
theorem aDQ:af (aiq)=[]:=by kernel_rfl
abbrev Rv:List aL:=[.slot 1 (.pc Ic),.slot 2 (.ptr 2),.slot 5 (.own 1000005 46 nK),.slot 6 (.pc tI),.slot 7 (.own 1000007 47 T0),.slot 8 (.pc tI),.box 2 [.pc eX,.pc tI,.pc tI,.pc tI,.pc tI]]
abbrev xx:List aL:=[.slot 9 (.pc tI),.slot 10 (.pc tI)]
abbrev afj:List aL:=Rv ++ xx
def auK:ZJ Rv xx afj:=ZA _ _
def Rw:ZS Rv xx afj:=ZP _ _
abbrev aaM:aO:=⟨[(4,[.slot 1 (.pc Ic),.slot 2 (.ptr 2),.slot 5 (.own 1000005 46 nK),.slot 6 (.pc tI),.slot 7 (.own 1000007 47 T0),.slot 8 (.pc tI),.box 2 [.pc eX,.pc tI,.pc tI,.pc tI,.pc tI],.slot 9 (.pc tI)])],[],[]⟩
abbrev Rx:aO:=⟨[(4,[.slot 9 (.pc tI)])],[],[]⟩
def afk:ZE Rv Rx aaM:=fun id=>match id with | 4=>fun c y=>(c.1,(c.2.1,(c.2.2.1,(c.2.2.2.1,(c.2.2.2.2.1,(c.2.2.2.2.2.1,(c.2.2.2.2.2.2.1,y))))))) | _=>jm
def acJ {α:Type} (l:RQ xx Rx->α) (an:α->α->α) (c:ZD Rv) (v:ZD xx):α:=bif (decide (v.2.1 < ((c.1.n:Nat):Int))) then bif (decide (((0:Int)<=v.2.1)/\(v.2.1 < ((c.1.n:Nat):Int)))) then bif (decide (((0:Int)<=c.2.2.2.1)/\(c.2.2.2.1 < (((c.1.g (Int.toNat v.2.1)).1.n:Nat):Int)))) then bif (decide (((0:Int)<=c.2.2.2.2.2.1)/\(c.2.2.2.2.2.1 < ((((c.1.g (Int.toNat v.2.1)).1.g (Int.toNat c.2.2.2.1)).1.n:Nat):Int)))) then bif (decide ((((c.1.g (Int.toNat v.2.1)).1.g (Int.toNat c.2.2.2.1)).1.g (Int.toNat c.2.2.2.2.2.1)).1=(-1:Int))) then l (.next ((W (v.1 + (1:Int))),((W (v.2.1 + (1:Int))),()))) else l (.next (v.1,((W (v.2.1 + (1:Int))),()))) else l .bad else l .bad else l .bad else l (.out (.exit 4 (v.1,())))
theorem aGv:ZO G24 0 60 aiq [] auK afk ZI ZI acJ:=fun _ _=>by kernel_rfl
def acK (c:ZD Rv) (v:ZD xx):RQ xx Rx:=acJ (fun r=>r) (fun _ _=>.bad) c v
theorem aGw:SO G24 0 60 aiq [] auK afk ZI ZI acK:=fun c v=>by rw [aGv]; unfold acK acJ; simp only [bu,aM,pM]
def acL (c:ZD Rv) (v:ZD xx):LQ Rx:=aH (acK c) cz v
theorem aJl:af (anw)=[.loop aiq]:=by kernel_rfl
abbrev aaN:List aL:=[.slot 1 (.pc Ic),.slot 2 (.ptr 2),.slot 5 (.own 1000005 46 nK),.slot 6 (.pc tI),.box 2 [.pc eX,.pc tI,.pc tI,.pc tI,.pc tI]]
abbrev Ox:List aL:=[.slot 7 (.own 1000007 47 T0),.slot 8 (.pc tI)]
abbrev anx:List aL:=aaN ++ Ox
def aFe:ZJ aaN Ox anx:=ZA _ _
def aaO:ZS aaN Ox anx:=ZP _ _
abbrev ahV:aO:=⟨[(2,[.slot 1 (.pc Ic),.slot 2 (.ptr 2),.slot 5 (.own 1000005 46 nK),.slot 6 (.pc tI),.box 2 [.pc eX,.pc tI,.pc tI,.pc tI,.pc tI],.slot 7 (.pc (.sl T0))])],[],[]⟩
abbrev ahW:aO:=⟨[(2,[.slot 7 (.pc (.sl T0))])],[],[]⟩
def anz:ZE aaN ahW ahV:=fun id=>match id with | 2=>fun c y=>(c.1,(c.2.1,(c.2.2.1,(c.2.2.2.1,(c.2.2.2.2.1,y))))) | _=>jm
def anA {α:Type} (l:RQ Ox ahW->α) (an:α->α->α) (c:ZD aaN) (v:ZD Ox):α:=bif (decide (((0:Int)<=c.2.2.2.1)/\(c.2.2.2.1 < ((c.2.2.2.2.1.1.n:Nat):Int)))) then bif (decide (v.2.1 < (((c.2.2.2.2.1.1.g (Int.toNat c.2.2.2.1)).2.1.n:Nat):Int))) then aF (acL (c.1,((),(c.2.2.1,(c.2.2.2.1,(v.1,(v.2.1,(c.2.2.2.2.1,()))))))) ((0:Int),((0:Int),()))) 4 (fun u0=>cl (r72).dflt (M72 (u0.1,(((c.1.n:Nat):Int),()))) (fun u1=>bif (decide (((v.1.n + 1) * 8)<=140737488355328)) then l (.next ((cK v.1 (⟨1,fun i=>List.getD [u1] i u1⟩:Sl (Ty.den T0))),((W (v.2.1 + (1:Int))),()))) else l .bad) (l .bad)) (l .bad) else l (.out (.exit 2 (v.1,()))) else l .bad
theorem aO1:ZO G24 0 60 anw [.known (bF 0 [] afj fun x=>aJ aaM afk ZI ZI [] false (Rw x).1 (acL (Rw x).1 (Rw x).2) aaM.bw)] aFe anz ZI ZI anA:=fun _ _=>by kernel_rfl
def anB (c:ZD aaN) (v:ZD Ox):RQ Ox ahW:=anA (fun r=>r) (fun _ _=>.bad) c v
theorem aO2:SO G24 0 60 anw [.known (bF 0 [] afj fun x=>aJ aaM afk ZI ZI [] false (Rw x).1 (acL (Rw x).1 (Rw x).2) aaM.bw)] aFe anz ZI ZI anB:=fun c v=>by rw [aO1]; unfold anB anA; simp only [bu,aM,pM]
def anD (c:ZD aaN) (v:ZD Ox):LQ ahW:=aH (anB c) cz v
theorem aSX:af (aAg)=[.loop anw]:=by kernel_rfl
abbrev akZ:List aL:=[.slot 1 (.pc Ic),.slot 2 (.ptr 2),.box 2 [.pc eX,.pc tI,.pc tI,.pc tI,.pc tI]]
abbrev aaP:List aL:=[.slot 5 (.own 1000005 46 nK),.slot 6 (.pc tI)]
abbrev aJm:List aL:=akZ ++ aaP
def aP0:ZJ akZ aaP aJm:=ZA _ _
def aJn:ZS akZ aaP aJm:=ZP _ _
abbrev aSY:aO:=⟨[(0,[.slot 5 (.pc (.sl nK))])],[],[]⟩
abbrev atq:aO:=⟨[(0,[.slot 5 (.pc (.sl nK))])],[],[]⟩
def aDR:ZE akZ atq aSY:=fun id=>match id with | 0=>fun c y=>y | _=>jm
def aAh {α:Type} (l:RQ aaP atq->α) (an:α->α->α) (c:ZD akZ) (v:ZD aaP):α:=bif (decide (v.2.1 < ((c.2.2.1.1.n:Nat):Int))) then aF (anD (c.1,((),(v.1,(v.2.1,(c.2.2.1,()))))) ((⟨0,fun i=>((0:Int),())⟩:Sl _),((0:Int),()))) 2 (fun u2=>bif (decide (((v.1.n + 1) * 24)<=140737488355328)) then l (.next ((cK v.1 (⟨1,fun i=>List.getD [u2] i u2⟩:Sl (Ty.den nK))),((W (v.2.1 + (1:Int))),()))) else l .bad) (l .bad) else l (.out (.exit 0 (v.1,())))
theorem aVo:ZO G24 0 60 aAg [.known (bF 0 [] anx fun x=>aJ ahV anz ZI ZI [] false (aaO x).1 (anD (aaO x).1 (aaO x).2) ahV.bw)] aP0 aDR ZI ZI aAh:=fun _ _=>by kernel_rfl
def aAi (c:ZD akZ) (v:ZD aaP):RQ aaP atq:=aAh (fun r=>r) (fun _ _=>.bad) c v
theorem aVp:SO G24 0 60 aAg [.known (bF 0 [] anx fun x=>aJ ahV anz ZI ZI [] false (aaO x).1 (anD (aaO x).1 (aaO x).2) ahV.bw)] aP0 aDR ZI ZI aAi:=fun c v=>by rw [aVo]; unfold aAi aAh; simp only [bu,aM,pM]
def aFf (c:ZD akZ) (v:ZD aaP):LQ atq:=aH (aAi c) cz v
theorem aZi:af (c24)=[.loop aAg]:=by kernel_rfl
noncomputable def l24:List Loop:=[lk 0 aDR ZI ZI false aJn aFf]
def Q24 {α:Type} (l:Option (r24).den->α) (an:α->α->α) (x:(a24).den):α:=aF (aFf (x.2.1,((),(x.1,()))) ((⟨0,fun i=>((⟨0,fun i=>((0:Int),())⟩:Sl _),())⟩:Sl _),((1:Int),()))) 0 (fun u3=>l (some u3)) (l none)
theorem q24:QO G24 Try.f24 l24 a24 r24 Q24:=fun _=>by kernel_rfl
def M24 (x:(a24).den):Option (r24).den:=Q24 (fun r=>r) (fun _ _=>none) x
theorem m24:MO G24 Try.f24 l24 M24:=fun x=>by rw [q24]; unfold M24 Q24; simp only [Tree.sure,iO]
def p24:=pO M24
def v24:=vO (τ:=r24) M24
def k24:ee:=⟨a24,r24,p24,v24⟩
theorem h24:Holds Try.prog 24 k24:=hO aVn g24 m24 fun G' hlo hF hE=>ai (by rw [aZi]; exact .cons (lv hE hF hlo (ai (by rw [aSX]; exact .cons (lv hE hF hlo (ai (by rw [aJl]; exact .cons (lv hE hF hlo (ln aDQ) Rw aGw) (.nil))) aaO aO2) (.nil))) aJn aVp) (.nil))
noncomputable def c25:=zo Try.f25
theorem aVq:zq 25 Try.f25 c25:=zu
abbrev a25:Ty:=aGf
abbrev r25:Ty:=OG
noncomputable def G25:Ctx:=Ctx.of [(72,.pure k72),(73,.pure k73)]
theorem g25:SP G25:=aD (fa ⟨⟨aOZ.c,h72⟩,fa ⟨⟨aj5.c,h73⟩,f0⟩⟩)
noncomputable def aAj:Code:=aG ((af (c25))[0]?)
noncomputable def anE:Code:=aG ((af (aAj))[0]?)
noncomputable def air:Code:=aG ((af (anE))[0]?)
theorem aDS:af (air)=[]:=by kernel_rfl
abbrev Ry:List aL:=[.slot 1 (.pc Ic),.slot 2 (.ptr 2),.slot 5 (.own 1000005 46 nK),.slot 6 (.pc tI),.slot 7 (.own 1000007 47 T0),.slot 8 (.pc tI),.box 2 [.pc eX,.pc tI,.pc tI,.pc tI,.pc tI]]
abbrev xy:List aL:=[.slot 9 (.pc tI),.slot 10 (.pc tI)]
abbrev afl:List aL:=Ry ++ xy
def auL:ZJ Ry xy afl:=ZA _ _
def Rz:ZS Ry xy afl:=ZP _ _
abbrev aaQ:aO:=⟨[(4,[.slot 1 (.pc Ic),.slot 2 (.ptr 2),.slot 5 (.own 1000005 46 nK),.slot 6 (.pc tI),.slot 7 (.own 1000007 47 T0),.slot 8 (.pc tI),.box 2 [.pc eX,.pc tI,.pc tI,.pc tI,.pc tI],.slot 9 (.pc tI)])],[],[]⟩
abbrev RA:aO:=⟨[(4,[.slot 9 (.pc tI)])],[],[]⟩
def afm:ZE Ry RA aaQ:=fun id=>match id with | 4=>fun c y=>(c.1,(c.2.1,(c.2.2.1,(c.2.2.2.1,(c.2.2.2.2.1,(c.2.2.2.2.2.1,(c.2.2.2.2.2.2.1,y))))))) | _=>jm
def acM {α:Type} (l:RQ xy RA->α) (an:α->α->α) (c:ZD Ry) (v:ZD xy):α:=bif (decide (v.2.1 < ((c.1.n:Nat):Int))) then bif (decide (((0:Int)<=v.2.1)/\(v.2.1 < ((c.1.n:Nat):Int)))) then bif (decide (((0:Int)<=(W (c.2.2.2.1 + (1:Int))))/\((W (c.2.2.2.1 + (1:Int))) < (((c.1.g (Int.toNat v.2.1)).1.n:Nat):Int)))) then cl (r73).dflt (M73 (((c.1.g (Int.toNat v.2.1)).1.g (Int.toNat (W (c.2.2.2.1 + (1:Int))))).1,(c.2.2.2.2.2.1,()))) (fun u0=>bif (!u0.1) then l (.next ((W (v.1 + (1:Int))),((W (v.2.1 + (1:Int))),()))) else l (.next (v.1,((W (v.2.1 + (1:Int))),())))) (l .bad) else l .bad else l .bad else l (.out (.exit 4 (v.1,())))
theorem aGx:ZO G25 0 61 air [] auL afm ZI ZI acM:=fun _ _=>by kernel_rfl
def acN (c:ZD Ry) (v:ZD xy):RQ xy RA:=acM (fun r=>r) (fun _ _=>.bad) c v
theorem aGy:SO G25 0 61 air [] auL afm ZI ZI acN:=fun c v=>by rw [aGx]; unfold acN acM; simp only [bu,aM,pM]
def acO (c:ZD Ry) (v:ZD xy):LQ RA:=aH (acN c) cz v
theorem aJo:af (anE)=[.loop air]:=by kernel_rfl
abbrev aaR:List aL:=[.slot 1 (.pc Ic),.slot 2 (.ptr 2),.slot 5 (.own 1000005 46 nK),.slot 6 (.pc tI),.box 2 [.pc eX,.pc tI,.pc tI,.pc tI,.pc tI]]
abbrev Oy:List aL:=[.slot 7 (.own 1000007 47 T0),.slot 8 (.pc tI)]
abbrev anF:List aL:=aaR ++ Oy
def aFg:ZJ aaR Oy anF:=ZA _ _
def aaS:ZS aaR Oy anF:=ZP _ _
abbrev ahX:aO:=⟨[(2,[.slot 1 (.pc Ic),.slot 2 (.ptr 2),.slot 5 (.own 1000005 46 nK),.slot 6 (.pc tI),.box 2 [.pc eX,.pc tI,.pc tI,.pc tI,.pc tI],.slot 7 (.pc (.sl T0))])],[],[]⟩
abbrev ahY:aO:=⟨[(2,[.slot 7 (.pc (.sl T0))])],[],[]⟩
def anG:ZE aaR ahY ahX:=fun id=>match id with | 2=>fun c y=>(c.1,(c.2.1,(c.2.2.1,(c.2.2.2.1,(c.2.2.2.2.1,y))))) | _=>jm
def anH {α:Type} (l:RQ Oy ahY->α) (an:α->α->α) (c:ZD aaR) (v:ZD Oy):α:=bif (decide (((0:Int)<=c.2.2.2.1)/\(c.2.2.2.1 < ((c.2.2.2.2.1.1.n:Nat):Int)))) then bif (decide (v.2.1 < (((c.2.2.2.2.1.1.g (Int.toNat c.2.2.2.1)).2.1.n:Nat):Int))) then aF (acO (c.1,((),(c.2.2.1,(c.2.2.2.1,(v.1,(v.2.1,(c.2.2.2.2.1,()))))))) ((0:Int),((0:Int),()))) 4 (fun u1=>cl (r72).dflt (M72 (u1.1,(((c.1.n:Nat):Int),()))) (fun u2=>bif (decide (((v.1.n + 1) * 8)<=140737488355328)) then l (.next ((cK v.1 (⟨1,fun i=>List.getD [u2] i u2⟩:Sl (Ty.den T0))),((W (v.2.1 + (1:Int))),()))) else l .bad) (l .bad)) (l .bad) else l (.out (.exit 2 (v.1,()))) else l .bad
theorem aO4:ZO G25 0 61 anE [.known (bF 0 [] afl fun x=>aJ aaQ afm ZI ZI [] false (Rz x).1 (acO (Rz x).1 (Rz x).2) aaQ.bw)] aFg anG ZI ZI anH:=fun _ _=>by kernel_rfl
def anI (c:ZD aaR) (v:ZD Oy):RQ Oy ahY:=anH (fun r=>r) (fun _ _=>.bad) c v
theorem aO5:SO G25 0 61 anE [.known (bF 0 [] afl fun x=>aJ aaQ afm ZI ZI [] false (Rz x).1 (acO (Rz x).1 (Rz x).2) aaQ.bw)] aFg anG ZI ZI anI:=fun c v=>by rw [aO4]; unfold anI anH; simp only [bu,aM,pM]
def anJ (c:ZD aaR) (v:ZD Oy):LQ ahY:=aH (anI c) cz v
theorem aS0:af (aAj)=[.loop anE]:=by kernel_rfl
abbrev ak0:List aL:=[.slot 1 (.pc Ic),.slot 2 (.ptr 2),.box 2 [.pc eX,.pc tI,.pc tI,.pc tI,.pc tI]]
abbrev aaT:List aL:=[.slot 5 (.own 1000005 46 nK),.slot 6 (.pc tI)]
abbrev aJp:List aL:=ak0 ++ aaT
def aP1:ZJ ak0 aaT aJp:=ZA _ _
def aJq:ZS ak0 aaT aJp:=ZP _ _
abbrev aS1:aO:=⟨[(0,[.slot 5 (.pc (.sl nK))])],[],[]⟩
abbrev atr:aO:=⟨[(0,[.slot 5 (.pc (.sl nK))])],[],[]⟩
def aDT:ZE ak0 atr aS1:=fun id=>match id with | 0=>fun c y=>y | _=>jm
def aAk {α:Type} (l:RQ aaT atr->α) (an:α->α->α) (c:ZD ak0) (v:ZD aaT):α:=bif (decide (v.2.1 < (W (((c.2.2.1.1.n:Nat):Int) - (1:Int))))) then aF (anJ (c.1,((),(v.1,(v.2.1,(c.2.2.1,()))))) ((⟨0,fun i=>((0:Int),())⟩:Sl _),((0:Int),()))) 2 (fun u3=>bif (decide (((v.1.n + 1) * 24)<=140737488355328)) then l (.next ((cK v.1 (⟨1,fun i=>List.getD [u3] i u3⟩:Sl (Ty.den nK))),((W (v.2.1 + (1:Int))),()))) else l .bad) (l .bad) else l (.out (.exit 0 (v.1,())))
theorem aVr:ZO G25 0 61 aAj [.known (bF 0 [] anF fun x=>aJ ahX anG ZI ZI [] false (aaS x).1 (anJ (aaS x).1 (aaS x).2) ahX.bw)] aP1 aDT ZI ZI aAk:=fun _ _=>by kernel_rfl
def aAl (c:ZD ak0) (v:ZD aaT):RQ aaT atr:=aAk (fun r=>r) (fun _ _=>.bad) c v
theorem aVs:SO G25 0 61 aAj [.known (bF 0 [] anF fun x=>aJ ahX anG ZI ZI [] false (aaS x).1 (anJ (aaS x).1 (aaS x).2) ahX.bw)] aP1 aDT ZI ZI aAl:=fun c v=>by rw [aVr]; unfold aAl aAk; simp only [bu,aM,pM]
def aFh (c:ZD ak0) (v:ZD aaT):LQ atr:=aH (aAl c) cz v
theorem aZk:af (c25)=[.loop aAj]:=by kernel_rfl
noncomputable def l25:List Loop:=[lk 0 aDT ZI ZI false aJq aFh]
def Q25 {α:Type} (l:Option (r25).den->α) (an:α->α->α) (x:(a25).den):α:=aF (aFh (x.2.1,((),(x.1,()))) ((⟨0,fun i=>((⟨0,fun i=>((0:Int),())⟩:Sl _),())⟩:Sl _),((0:Int),()))) 0 (fun u4=>l (some u4)) (l none)
theorem q25:QO G25 Try.f25 l25 a25 r25 Q25:=fun _=>by kernel_rfl
def M25 (x:(a25).den):Option (r25).den:=Q25 (fun r=>r) (fun _ _=>none) x
theorem m25:MO G25 Try.f25 l25 M25:=fun x=>by rw [q25]; unfold M25 Q25; simp only [Tree.sure,iO]
def p25:=pO M25
def v25:=vO (τ:=r25) M25
def k25:ee:=⟨a25,r25,p25,v25⟩
theorem h25:Holds Try.prog 25 k25:=hO aVq g25 m25 fun G' hlo hF hE=>ai (by rw [aZk]; exact .cons (lv hE hF hlo (ai (by rw [aS0]; exact .cons (lv hE hF hlo (ai (by rw [aJo]; exact .cons (lv hE hF hlo (ln aDS) Rz aGy) (.nil))) aaS aO5) (.nil))) aJq aVs) (.nil))
noncomputable def c26:=zo Try.f26
theorem aVt:zq 26 Try.f26 c26:=zu
abbrev ayo:Ty:=(.cons Ic T0)
abbrev aId:Ty:=(.cons PV ayo)
abbrev a26:Ty:=aId
abbrev r26:Ty:=OG
noncomputable def G26:Ctx:=Ctx.of [(72,.pure k72)]
theorem g26:SP G26:=aD (fa ⟨⟨aOZ.c,h72⟩,f0⟩)
noncomputable def aAm:Code:=aG ((af (c26))[0]?)
noncomputable def anK:Code:=aG ((af (aAm))[0]?)
noncomputable def ais:Code:=aG ((af (anK))[0]?)
theorem aDU:af (ais)=[]:=by kernel_rfl
abbrev RB:List aL:=[.slot 1 (.pc Ic),.slot 2 (.pc tI),.slot 3 (.ptr 3),.slot 7 (.own 1000007 46 nK),.slot 8 (.pc tI),.slot 9 (.own 1000009 47 T0),.slot 10 (.pc tI),.box 3 [.pc eX,.pc tI,.pc tI,.pc tI,.pc tI]]
abbrev xz:List aL:=[.slot 11 (.pc tI),.slot 12 (.pc tI)]
abbrev afn:List aL:=RB ++ xz
def auM:ZJ RB xz afn:=ZA _ _
def RD:ZS RB xz afn:=ZP _ _
abbrev aaU:aO:=⟨[(4,[.slot 1 (.pc Ic),.slot 2 (.pc tI),.slot 3 (.ptr 3),.slot 7 (.own 1000007 46 nK),.slot 8 (.pc tI),.slot 9 (.own 1000009 47 T0),.slot 10 (.pc tI),.box 3 [.pc eX,.pc tI,.pc tI,.pc tI,.pc tI],.slot 11 (.pc tI)])],[],[]⟩
abbrev RE:aO:=⟨[(4,[.slot 11 (.pc tI)])],[],[]⟩
def afo:ZE RB RE aaU:=fun id=>match id with | 4=>fun c y=>(c.1,(c.2.1,(c.2.2.1,(c.2.2.2.1,(c.2.2.2.2.1,(c.2.2.2.2.2.1,(c.2.2.2.2.2.2.1,(c.2.2.2.2.2.2.2.1,y)))))))) | _=>jm
def acP {α:Type} (l:RQ xz RE->α) (an:α->α->α) (c:ZD RB) (v:ZD xz):α:=bif (decide (v.2.1 < ((c.1.n:Nat):Int))) then bif (decide (((0:Int)<=v.2.1)/\(v.2.1 < ((c.1.n:Nat):Int)))) then bif (decide (((0:Int)<=c.2.1)/\(c.2.1 < (((c.1.g (Int.toNat v.2.1)).1.n:Nat):Int)))) then bif (decide (((0:Int)<=c.2.2.2.2.1)/\(c.2.2.2.2.1 < ((((c.1.g (Int.toNat v.2.1)).1.g (Int.toNat c.2.1)).1.n:Nat):Int)))) then bif (decide ((((c.1.g (Int.toNat v.2.1)).1.g (Int.toNat c.2.1)).1.g (Int.toNat c.2.2.2.2.1)).1=c.2.2.2.2.2.2.1)) then l (.next ((W (v.1 + (1:Int))),((W (v.2.1 + (1:Int))),()))) else l (.next (v.1,((W (v.2.1 + (1:Int))),()))) else l .bad else l .bad else l .bad else l (.out (.exit 4 (v.1,())))
theorem aGz:ZO G26 0 68 ais [] auM afo ZI ZI acP:=fun _ _=>by kernel_rfl
def acQ (c:ZD RB) (v:ZD xz):RQ xz RE:=acP (fun r=>r) (fun _ _=>.bad) c v
theorem aGA:SO G26 0 68 ais [] auM afo ZI ZI acQ:=fun c v=>by rw [aGz]; unfold acQ acP; simp only [bu,aM,pM]
def acR (c:ZD RB) (v:ZD xz):LQ RE:=aH (acQ c) cz v
theorem aJr:af (anK)=[.loop ais]:=by kernel_rfl
abbrev aaV:List aL:=[.slot 1 (.pc Ic),.slot 2 (.pc tI),.slot 3 (.ptr 3),.slot 7 (.own 1000007 46 nK),.slot 8 (.pc tI),.box 3 [.pc eX,.pc tI,.pc tI,.pc tI,.pc tI]]
abbrev Oz:List aL:=[.slot 9 (.own 1000009 47 T0),.slot 10 (.pc tI)]
abbrev anL:List aL:=aaV ++ Oz
def aFi:ZJ aaV Oz anL:=ZA _ _
def aaW:ZS aaV Oz anL:=ZP _ _
abbrev ahZ:aO:=⟨[(2,[.slot 1 (.pc Ic),.slot 2 (.pc tI),.slot 3 (.ptr 3),.slot 7 (.own 1000007 46 nK),.slot 8 (.pc tI),.box 3 [.pc eX,.pc tI,.pc tI,.pc tI,.pc tI],.slot 9 (.pc (.sl T0))])],[],[]⟩
abbrev ah0:aO:=⟨[(2,[.slot 9 (.pc (.sl T0))])],[],[]⟩
def anM:ZE aaV ah0 ahZ:=fun id=>match id with | 2=>fun c y=>(c.1,(c.2.1,(c.2.2.1,(c.2.2.2.1,(c.2.2.2.2.1,(c.2.2.2.2.2.1,y)))))) | _=>jm
def anN {α:Type} (l:RQ Oz ah0->α) (an:α->α->α) (c:ZD aaV) (v:ZD Oz):α:=bif (decide (((0:Int)<=(W (c.2.1 - (1:Int))))/\((W (c.2.1 - (1:Int))) < ((c.2.2.2.2.2.1.1.n:Nat):Int)))) then bif (decide (v.2.1 < (((c.2.2.2.2.2.1.1.g (Int.toNat (W (c.2.1 - (1:Int))))).2.1.n:Nat):Int))) then aF (acR (c.1,(c.2.1,((),(c.2.2.2.1,(c.2.2.2.2.1,(v.1,(v.2.1,(c.2.2.2.2.2.1,())))))))) ((0:Int),((0:Int),()))) 4 (fun u0=>cl (r72).dflt (M72 (u0.1,(((c.1.n:Nat):Int),()))) (fun u1=>bif (decide (((v.1.n + 1) * 8)<=140737488355328)) then l (.next ((cK v.1 (⟨1,fun i=>List.getD [u1] i u1⟩:Sl (Ty.den T0))),((W (v.2.1 + (1:Int))),()))) else l .bad) (l .bad)) (l .bad) else l (.out (.exit 2 (v.1,()))) else l .bad
theorem aO7:ZO G26 0 68 anK [.known (bF 0 [] afn fun x=>aJ aaU afo ZI ZI [] false (RD x).1 (acR (RD x).1 (RD x).2) aaU.bw)] aFi anM ZI ZI anN:=fun _ _=>by kernel_rfl
def anO (c:ZD aaV) (v:ZD Oz):RQ Oz ah0:=anN (fun r=>r) (fun _ _=>.bad) c v
theorem aO8:SO G26 0 68 anK [.known (bF 0 [] afn fun x=>aJ aaU afo ZI ZI [] false (RD x).1 (acR (RD x).1 (RD x).2) aaU.bw)] aFi anM ZI ZI anO:=fun c v=>by rw [aO7]; unfold anO anN; simp only [bu,aM,pM]
def anP (c:ZD aaV) (v:ZD Oz):LQ ah0:=aH (anO c) cz v
theorem aS4:af (aAm)=[.loop anK]:=by kernel_rfl
abbrev ak1:List aL:=[.slot 1 (.pc Ic),.slot 2 (.pc tI),.slot 3 (.ptr 3),.box 3 [.pc eX,.pc tI,.pc tI,.pc tI,.pc tI]]
abbrev aaX:List aL:=[.slot 7 (.own 1000007 46 nK),.slot 8 (.pc tI)]
abbrev aJs:List aL:=ak1 ++ aaX
def aP2:ZJ ak1 aaX aJs:=ZA _ _
def aJt:ZS ak1 aaX aJs:=ZP _ _
abbrev aS5:aO:=⟨[(0,[.slot 7 (.pc (.sl nK))])],[],[]⟩
abbrev att:aO:=⟨[(0,[.slot 7 (.pc (.sl nK))])],[],[]⟩
def aDV:ZE ak1 att aS5:=fun id=>match id with | 0=>fun c y=>y | _=>jm
def aAn {α:Type} (l:RQ aaX att->α) (an:α->α->α) (c:ZD ak1) (v:ZD aaX):α:=bif (decide (((0:Int)<=c.2.1)/\(c.2.1 < ((c.2.2.2.1.1.n:Nat):Int)))) then bif (decide (v.2.1 < (((c.2.2.2.1.1.g (Int.toNat c.2.1)).2.1.n:Nat):Int))) then aF (anP (c.1,(c.2.1,((),(v.1,(v.2.1,(c.2.2.2.1,())))))) ((⟨0,fun i=>((0:Int),())⟩:Sl _),((0:Int),()))) 2 (fun u2=>bif (decide (((v.1.n + 1) * 24)<=140737488355328)) then l (.next ((cK v.1 (⟨1,fun i=>List.getD [u2] i u2⟩:Sl (Ty.den nK))),((W (v.2.1 + (1:Int))),()))) else l .bad) (l .bad) else l (.out (.exit 0 (v.1,()))) else l .bad
theorem aVu:ZO G26 0 68 aAm [.known (bF 0 [] anL fun x=>aJ ahZ anM ZI ZI [] false (aaW x).1 (anP (aaW x).1 (aaW x).2) ahZ.bw)] aP2 aDV ZI ZI aAn:=fun _ _=>by kernel_rfl
def aAo (c:ZD ak1) (v:ZD aaX):RQ aaX att:=aAn (fun r=>r) (fun _ _=>.bad) c v
theorem aVv:SO G26 0 68 aAm [.known (bF 0 [] anL fun x=>aJ ahZ anM ZI ZI [] false (aaW x).1 (anP (aaW x).1 (aaW x).2) ahZ.bw)] aP2 aDV ZI ZI aAo:=fun c v=>by rw [aVu]; unfold aAo aAn; simp only [bu,aM,pM]
def aFj (c:ZD ak1) (v:ZD aaX):LQ att:=aH (aAo c) cz v
theorem aZm:af (c26)=[.loop aAm]:=by kernel_rfl
noncomputable def l26:List Loop:=[lk 0 aDV ZI ZI false aJt aFj]
def Q26 {α:Type} (l:Option (r26).den->α) (an:α->α->α) (x:(a26).den):α:=aF (aFj (x.2.1,(x.2.2.1,((),(x.1,())))) ((⟨0,fun i=>((⟨0,fun i=>((0:Int),())⟩:Sl _),())⟩:Sl _),((0:Int),()))) 0 (fun u3=>l (some u3)) (l none)
theorem q26:QO G26 Try.f26 l26 a26 r26 Q26:=fun _=>by kernel_rfl
def M26 (x:(a26).den):Option (r26).den:=Q26 (fun r=>r) (fun _ _=>none) x
theorem m26:MO G26 Try.f26 l26 M26:=fun x=>by rw [q26]; unfold M26 Q26; simp only [Tree.sure,iO]
def p26:=pO M26
def v26:=vO (τ:=r26) M26
def k26:ee:=⟨a26,r26,p26,v26⟩
theorem h26:Holds Try.prog 26 k26:=hO aVt g26 m26 fun G' hlo hF hE=>ai (by rw [aZm]; exact .cons (lv hE hF hlo (ai (by rw [aS4]; exact .cons (lv hE hF hlo (ai (by rw [aJr]; exact .cons (lv hE hF hlo (ln aDU) RD aGA) (.nil))) aaW aO8) (.nil))) aJt aVv) (.nil))
abbrev aGg:Ty:=(.cons ec T1)
abbrev aIi:Ty:=(.cons T12 T1)
abbrev ayp:Ty:=(.cons ec T79)
abbrev ag6:Ty:=(.cons ec ayp)
abbrev anf:Ty:=(.agg ag6)
abbrev asG:Ty:=(.cons anf .nil)
abbrev aoF:Ty:=(.cons PV asG)
abbrev ayq:Ty:=(.agg T15)
abbrev ayr:Ty:=(.cons ayq .nil)
abbrev asH:Ty:=(.cons (.sl T0) ayr)
abbrev asI:Ty:=(.fn asH T3)
abbrev ays:Ty:=(.cons asI .nil)
abbrev ayt:Ty:=(.cons eX ays)
abbrev aGi:Ty:=(.cons ec ayt)
abbrev aGj:Ty:=(.cons .bool T0)
abbrev aIn:Ty:=(.cons tI T20)
noncomputable def c17:=zo Try.f17
theorem acz:zq 17 Try.f17 c17:=zu
abbrev a17:Ty:=.nil
abbrev nQ:Ty:=T3
noncomputable def G17:Ctx:=Ctx.of [(18,.pure k18),(19,.pure k19),(20,.pure k20),(23,.pure k23),(28,.pure k28),(36,.pure k36),(39,.pure k39),(40,.pure k40),(41,.pure k41),(43,.pure k43),(44,.pure k44),(48,.pure k48),(62,.pure k62)]
theorem g17:SP G17:=aD (fa ⟨⟨alY.c,h18⟩,fa ⟨⟨al3.c,h19⟩,fa ⟨⟨aoA.c,h20⟩,fa ⟨⟨apm.c,h23⟩,fa ⟨⟨ajW.c,h28⟩,fa ⟨⟨apo.c,h36⟩,fa ⟨⟨apr.c,h39⟩,fa ⟨⟨apq.c,h40⟩,fa ⟨⟨aue.c,h41⟩,fa ⟨⟨ar6.c,h43⟩,fa ⟨⟨aiD.c,h44⟩,fa ⟨⟨agY.c,h48⟩,fa ⟨⟨aui.c,h62⟩,f0⟩⟩⟩⟩⟩⟩⟩⟩⟩⟩⟩⟩⟩)
theorem ayv:af (c17)=[]:=by kernel_rfl
noncomputable def l17:List Loop:=[]
def Q17 {α:Type} (l:Option (nQ).den->α) (an:α->α->α) (x:(a17).den):α:=cl (vN).dflt (OM ()) (fun u0=>cl (MF).dflt (XV (u0.1,((1:Int),()))) (fun u1=>cl (vN).dflt (OM ()) (fun u2=>cl (OK).dflt (M19 (u0.1,())) (fun u3=>cl (vN).dflt (OM ()) (fun u4=>cl (Pz).dflt (M20 (u0.1,())) (fun u5=>cl (vN).dflt (OM ()) (fun u6=>cl (Re).dflt (M39 (u0.1,((0:Int),((0:Int),())))) (fun u7=>cl (vN).dflt (OM ()) (fun u8=>cl (PE).dflt (M36 (u0.1,((1:Int),((0:Int),())))) (fun u9=>cl (vN).dflt (OM ()) (fun vD=>cl (Rc).dflt (M43 (u0.1,((0:Int),((3:Int),())))) (fun lM=>cl (vN).dflt (OM ()) (fun MA=>cl (Rb).dflt (M40 (u0.1,())) (fun Df=>cl (vN).dflt (OM ()) (fun PX=>cl (OB).dflt (VO (u0.1,())) (fun PB=>bif (!(decide (u1.2.1=(0:Int)))) then l (some (false,())) else bif (!(decide (u3.2.1=(0:Int)))) then l (some (false,())) else bif (!(decide (u5.2.1=(0:Int)))) then l (some (false,())) else bif (!(decide (u7.2.1=(0:Int)))) then l (some (false,())) else bif (!(decide (u9.2.1=(0:Int)))) then l (some (false,())) else bif (!(decide (lM.2.1=(0:Int)))) then l (some (false,())) else bif (!(decide (Df.2.2.1=(0:Int)))) then l (some (false,())) else bif (!(decide (PB.2.1=(0:Int)))) then l (some (false,())) else cl (IN).dflt (VN (u1.1,((⟨2,fun i=>List.getD [((⟨2,fun i=>List.getD [((3:Int),()),((1:Int),())] i ((3:Int),())⟩:Sl _),()),((⟨2,fun i=>List.getD [((1:Int),()),((3:Int),())] i ((1:Int),())⟩:Sl _),())] i ((⟨2,fun i=>List.getD [((3:Int),()),((1:Int),())] i ((3:Int),())⟩:Sl _),())⟩:Sl _),()))) (fun u16=>bif (!u16.1) then l (some (false,())) else cl (IN).dflt (VN (u3.1,((⟨2,fun i=>List.getD [((⟨2,fun i=>List.getD [((1:Int),()),((1:Int),())] i ((1:Int),())⟩:Sl _),()),((⟨1,fun i=>List.getD [((1:Int),())] i ((1:Int),())⟩:Sl _),())] i ((⟨2,fun i=>List.getD [((1:Int),()),((1:Int),())] i ((1:Int),())⟩:Sl _),())⟩:Sl _),()))) (fun Wf=>bif (!Wf.1) then l (some (false,())) else cl (IN).dflt (VN (u5.1,((⟨2,fun i=>List.getD [((⟨2,fun i=>List.getD [((1:Int),()),((1:Int),())] i ((1:Int),())⟩:Sl _),()),((⟨2,fun i=>List.getD [((2:Int),()),((2:Int),())] i ((2:Int),())⟩:Sl _),())] i ((⟨2,fun i=>List.getD [((1:Int),()),((1:Int),())] i ((1:Int),())⟩:Sl _),())⟩:Sl _),()))) (fun VP=>bif (!VP.1) then l (some (false,())) else cl (MI).dflt (M41 (u7.1,((⟨2,fun i=>List.getD [((⟨2,fun i=>List.getD [((0:Int),()),((0:Int),())] i ((0:Int),())⟩:Sl _),()),((⟨3,fun i=>List.getD [((0:Int),()),((0:Int),()),((0:Int),())] i ((0:Int),())⟩:Sl _),())] i ((⟨2,fun i=>List.getD [((0:Int),()),((0:Int),())] i ((0:Int),())⟩:Sl _),())⟩:Sl _),()))) (fun UO=>bif (!UO.1) then l (some (false,())) else cl (oM).dflt (vA ((20:Int),((21:Int),()))) (fun u20=>cl (oM).dflt (vA ((50:Int),((52:Int),()))) (fun u21=>cl (oM).dflt (vA ((74100:Int),((74300:Int),()))) (fun u22=>cl (Es).dflt (PU (u20.1,(u21.1,(u22.1,())))) (fun Dh=>bif ((decide (u9.1.1=Dh.1.1)) && ((decide (u9.1.2.1=Dh.1.2.1)) && ((decide (u9.1.2.2.1=Dh.1.2.2.1)) && ((decide (u9.1.2.2.2.1=Dh.1.2.2.2.1)) && ((decide (u9.1.2.2.2.2.1=Dh.1.2.2.2.2.1)) && ((decide (u9.1.2.2.2.2.2.1=Dh.1.2.2.2.2.2.1)) && true)))))) then cl (oM).dflt (vA ((25:Int),((39:Int),()))) (fun Xd=>cl (oM).dflt (vA ((46:Int),((59:Int),()))) (fun WL=>cl (oM).dflt (vA ((74050:Int),((75050:Int),()))) (fun Xo=>cl (Es).dflt (PU (Xd.1,(WL.1,(Xo.1,())))) (fun Gp=>bif ((decide (lM.1.1=Gp.1.1)) && ((decide (lM.1.2.1=Gp.1.2.1)) && ((decide (lM.1.2.2.1=Gp.1.2.2.1)) && ((decide (lM.1.2.2.2.1=Gp.1.2.2.2.1)) && ((decide (lM.1.2.2.2.2.1=Gp.1.2.2.2.2.1)) && ((decide (lM.1.2.2.2.2.2.1=Gp.1.2.2.2.2.2.1)) && true)))))) then bif (decide (Df.1=(2:Int))) then cl (MI).dflt (M41 (Df.2.1,((⟨3,fun i=>List.getD [((⟨2,fun i=>List.getD [((-1:Int),()),((-1:Int),())] i ((-1:Int),())⟩:Sl _),()),((⟨2,fun i=>List.getD [((0:Int),()),((1:Int),())] i ((0:Int),())⟩:Sl _),()),((⟨1,fun i=>List.getD [((0:Int),())] i ((0:Int),())⟩:Sl _),())] i ((⟨2,fun i=>List.getD [((-1:Int),()),((-1:Int),())] i ((-1:Int),())⟩:Sl _),())⟩:Sl _),()))) (fun u28=>bif u28.1 then l (some ((decide (PB.1=(2:Int))),())) else l (some (false,()))) (l none) else l (some (false,())) else l (some (false,()))) (l none)) (l none)) (l none)) (l none) else l (some (false,()))) (l none)) (l none)) (l none)) (l none)) (l none)) (l none)) (l none)) (l none)) (l none)) (l none)) (l none)) (l none)) (l none)) (l none)) (l none)) (l none)) (l none)) (l none)) (l none)) (l none)) (l none)) (l none)) (l none)) (l none)
def ayy (m18:(Tq).den->Option (MF).den) (m19:(Tu).den->Option (OK).den) (m20:(a20).den->Option (Pz).den) (m23:(Tv).den->Option (IN).den) (m28:(a28).den->Option (OB).den) (m36:(TD).den->Option (PE).den) (m39:(a39).den->Option (Re).den) (m40:(a40).den->Option (Rb).den) (m41:(a41).den->Option (MI).den) (m43:(TR).den->Option (Rc).den) (m44:(a44).den->Option (Es).den) (Ug:(PA).den->Option (oM).den) (ON:(Uh).den->Option (vN).den) {α:Type} (l:Option (nQ).den->α) (an:α->α->α) (x:(a17).den):α:=cl (vN).dflt (ON ()) (fun u0=>cl (MF).dflt (m18 (u0.1,((1:Int),()))) (fun u1=>cl (vN).dflt (ON ()) (fun u2=>cl (OK).dflt (m19 (u0.1,())) (fun u3=>cl (vN).dflt (ON ()) (fun u4=>cl (Pz).dflt (m20 (u0.1,())) (fun u5=>cl (vN).dflt (ON ()) (fun u6=>cl (Re).dflt (m39 (u0.1,((0:Int),((0:Int),())))) (fun u7=>cl (vN).dflt (ON ()) (fun u8=>cl (PE).dflt (m36 (u0.1,((1:Int),((0:Int),())))) (fun u9=>cl (vN).dflt (ON ()) (fun vD=>cl (Rc).dflt (m43 (u0.1,((0:Int),((3:Int),())))) (fun lM=>cl (vN).dflt (ON ()) (fun MA=>cl (Rb).dflt (m40 (u0.1,())) (fun Df=>cl (vN).dflt (ON ()) (fun PX=>cl (OB).dflt (m28 (u0.1,())) (fun PB=>bif (!(decide (u1.2.1=(0:Int)))) then l (some (false,())) else bif (!(decide (u3.2.1=(0:Int)))) then l (some (false,())) else bif (!(decide (u5.2.1=(0:Int)))) then l (some (false,())) else bif (!(decide (u7.2.1=(0:Int)))) then l (some (false,())) else bif (!(decide (u9.2.1=(0:Int)))) then l (some (false,())) else bif (!(decide (lM.2.1=(0:Int)))) then l (some (false,())) else bif (!(decide (Df.2.2.1=(0:Int)))) then l (some (false,())) else bif (!(decide (PB.2.1=(0:Int)))) then l (some (false,())) else cl (IN).dflt (m23 (u1.1,((⟨2,fun i=>List.getD [((⟨2,fun i=>List.getD [((3:Int),()),((1:Int),())] i ((3:Int),())⟩:Sl _),()),((⟨2,fun i=>List.getD [((1:Int),()),((3:Int),())] i ((1:Int),())⟩:Sl _),())] i ((⟨2,fun i=>List.getD [((3:Int),()),((1:Int),())] i ((3:Int),())⟩:Sl _),())⟩:Sl _),()))) (fun u16=>bif (!u16.1) then l (some (false,())) else cl (IN).dflt (m23 (u3.1,((⟨2,fun i=>List.getD [((⟨2,fun i=>List.getD [((1:Int),()),((1:Int),())] i ((1:Int),())⟩:Sl _),()),((⟨1,fun i=>List.getD [((1:Int),())] i ((1:Int),())⟩:Sl _),())] i ((⟨2,fun i=>List.getD [((1:Int),()),((1:Int),())] i ((1:Int),())⟩:Sl _),())⟩:Sl _),()))) (fun Wf=>bif (!Wf.1) then l (some (false,())) else cl (IN).dflt (m23 (u5.1,((⟨2,fun i=>List.getD [((⟨2,fun i=>List.getD [((1:Int),()),((1:Int),())] i ((1:Int),())⟩:Sl _),()),((⟨2,fun i=>List.getD [((2:Int),()),((2:Int),())] i ((2:Int),())⟩:Sl _),())] i ((⟨2,fun i=>List.getD [((1:Int),()),((1:Int),())] i ((1:Int),())⟩:Sl _),())⟩:Sl _),()))) (fun VP=>bif (!VP.1) then l (some (false,())) else cl (MI).dflt (m41 (u7.1,((⟨2,fun i=>List.getD [((⟨2,fun i=>List.getD [((0:Int),()),((0:Int),())] i ((0:Int),())⟩:Sl _),()),((⟨3,fun i=>List.getD [((0:Int),()),((0:Int),()),((0:Int),())] i ((0:Int),())⟩:Sl _),())] i ((⟨2,fun i=>List.getD [((0:Int),()),((0:Int),())] i ((0:Int),())⟩:Sl _),())⟩:Sl _),()))) (fun UO=>bif (!UO.1) then l (some (false,())) else cl (oM).dflt (Ug ((20:Int),((21:Int),()))) (fun u20=>cl (oM).dflt (Ug ((50:Int),((52:Int),()))) (fun u21=>cl (oM).dflt (Ug ((74100:Int),((74300:Int),()))) (fun u22=>cl (Es).dflt (m44 (u20.1,(u21.1,(u22.1,())))) (fun Dh=>bif ((decide (u9.1.1=Dh.1.1)) && ((decide (u9.1.2.1=Dh.1.2.1)) && ((decide (u9.1.2.2.1=Dh.1.2.2.1)) && ((decide (u9.1.2.2.2.1=Dh.1.2.2.2.1)) && ((decide (u9.1.2.2.2.2.1=Dh.1.2.2.2.2.1)) && ((decide (u9.1.2.2.2.2.2.1=Dh.1.2.2.2.2.2.1)) && true)))))) then cl (oM).dflt (Ug ((25:Int),((39:Int),()))) (fun Xd=>cl (oM).dflt (Ug ((46:Int),((59:Int),()))) (fun WL=>cl (oM).dflt (Ug ((74050:Int),((75050:Int),()))) (fun Xo=>cl (Es).dflt (m44 (Xd.1,(WL.1,(Xo.1,())))) (fun Gp=>bif ((decide (lM.1.1=Gp.1.1)) && ((decide (lM.1.2.1=Gp.1.2.1)) && ((decide (lM.1.2.2.1=Gp.1.2.2.1)) && ((decide (lM.1.2.2.2.1=Gp.1.2.2.2.1)) && ((decide (lM.1.2.2.2.2.1=Gp.1.2.2.2.2.1)) && ((decide (lM.1.2.2.2.2.2.1=Gp.1.2.2.2.2.2.1)) && true)))))) then bif (decide (Df.1=(2:Int))) then cl (MI).dflt (m41 (Df.2.1,((⟨3,fun i=>List.getD [((⟨2,fun i=>List.getD [((-1:Int),()),((-1:Int),())] i ((-1:Int),())⟩:Sl _),()),((⟨2,fun i=>List.getD [((0:Int),()),((1:Int),())] i ((0:Int),())⟩:Sl _),()),((⟨1,fun i=>List.getD [((0:Int),())] i ((0:Int),())⟩:Sl _),())] i ((⟨2,fun i=>List.getD [((-1:Int),()),((-1:Int),())] i ((-1:Int),())⟩:Sl _),())⟩:Sl _),()))) (fun u28=>bif u28.1 then l (some ((decide (PB.1=(2:Int))),())) else l (some (false,()))) (l none) else l (some (false,())) else l (some (false,()))) (l none)) (l none)) (l none)) (l none) else l (some (false,()))) (l none)) (l none)) (l none)) (l none)) (l none)) (l none)) (l none)) (l none)) (l none)) (l none)) (l none)) (l none)) (l none)) (l none)) (l none)) (l none)) (l none)) (l none)) (l none)) (l none)) (l none)) (l none)) (l none)) (l none)
theorem ayz (m18:(Tq).den->Option (MF).den) (m19:(Tu).den->Option (OK).den) (m20:(a20).den->Option (Pz).den) (m23:(Tv).den->Option (IN).den) (m28:(a28).den->Option (OB).den) (m36:(TD).den->Option (PE).den) (m39:(a39).den->Option (Re).den) (m40:(a40).den->Option (Rb).den) (m41:(a41).den->Option (MI).den) (m43:(TR).den->Option (Rc).den) (m44:(a44).den->Option (Es).den) (Ug:(PA).den->Option (oM).den) (ON:(Uh).den->Option (vN).den) (x:(a17).den):aI Try.prog E0 (Ctx.of [(18,.pure (gU (τa:=Tq) (τr:=MF) m18)),(19,.pure (gU (τa:=Tu) (τr:=OK) m19)),(20,.pure (gU (τa:=a20) (τr:=Pz) m20)),(23,.pure (gU (τa:=Tv) (τr:=IN) m23)),(28,.pure (gU (τa:=a28) (τr:=OB) m28)),(36,.pure (gU (τa:=TD) (τr:=PE) m36)),(39,.pure (gU (τa:=a39) (τr:=Re) m39)),(40,.pure (gU (τa:=a40) (τr:=Rb) m40)),(41,.pure (gU (τa:=a41) (τr:=MI) m41)),(43,.pure (gU (τa:=TR) (τr:=Rc) m43)),(44,.pure (gU (τa:=a44) (τr:=Es) m44)),(48,.pure (gU (τa:=PA) (τr:=oM) Ug)),(62,.pure (gU (τa:=Uh) (τr:=vN) ON))]) Try.f17 l17 a17 nQ x=ayy m18 m19 m20 m23 m28 m36 m39 m40 m41 m43 m44 Ug ON .leaf .any x:=by kernel_rfl
theorem q17 (x:(a17).den):aI Try.prog E0 G17 Try.f17 l17 a17 nQ x=Q17 .leaf .any x:=ayz XV M19 M20 VN VO M36 M39 M40 M41 M43 PU vA OM x
def qf (x:(a17).den):Option (nQ).den:=Q17 (fun r=>r) (fun _ _=>none) x
theorem m17 (x:(a17).den):(aI Try.prog E0 G17 Try.f17 l17 a17 nQ x).sure=qf x:=by rw [q17]; unfold qf Q17; simp only [Tree.sure,iO]
def p17 (x:(a17).den):Bool:=(qf x).isSome
def v17 (x:(a17).den):(nQ).den:=(qf x).getD (nQ).dflt
def k17:ee:=⟨a17,nQ,p17,v17⟩
theorem h17:Holds Try.prog 17 k17:=aC (E:=E0) aA g17 aB au acz.a acz.b (by kernel_rfl) m17 fun G' hlo hF hE=>ai (by rw [ayv]; exact .nil)
noncomputable def c3:=zo Try.f3
theorem cl3:zq 3 Try.f3 c3:=zu
abbrev a3:Ty:=T76
abbrev r3:Ty:=T3
noncomputable def G3:Ctx:=Ctx.of [(16,.pure k16),(17,.pure k17),(18,.pure k18),(19,.pure k19),(20,.pure k20),(21,.pure k21),(22,.pure k22),(23,.pure k23),(24,.pure k24),(25,.pure k25),(26,.pure k26)]
theorem g3:SP G3:=aD (fa ⟨⟨aeP.c,h16⟩,fa ⟨⟨acz.c,h17⟩,fa ⟨⟨alY.c,h18⟩,fa ⟨⟨al3.c,h19⟩,fa ⟨⟨aoA.c,h20⟩,fa ⟨⟨aeR.c,h21⟩,fa ⟨⟨azU.c,h22⟩,fa ⟨⟨apm.c,h23⟩,fa ⟨⟨aVn.c,h24⟩,fa ⟨⟨aVq.c,h25⟩,fa ⟨⟨aVt.c,h26⟩,f0⟩⟩⟩⟩⟩⟩⟩⟩⟩⟩⟩)
def Q3 {α:Type} (l:Option (r3).den->α) (an:α->α->α) (x:(a3).den):α:=cl (WZ).dflt (Yz (x.1,())) (fun u0=>bif (!u0.1) then cl (nQ).dflt (qf ()) (fun u1=>l (some u1)) (l none) else cl (MF).dflt (XV (x.1,x.2)) (fun u2=>cl (OK).dflt (M19 (x.1,())) (fun u3=>cl (Pz).dflt (M20 (x.1,())) (fun u4=>cl (Rf).dflt (Sj (x.1,())) (fun u5=>bif (!u5.1) then bif (decide (u2.2.1=(2:Int))) then bif (decide (u3.2.1=(2:Int))) then bif (decide (u4.2.1=(2:Int))) then bif (decide ((W ((W (((u2.1.n:Nat):Int) + ((u3.1.n:Nat):Int))) + ((u4.1.n:Nat):Int)))=(0:Int))) then cl (nQ).dflt (qf ()) (fun u6=>l (some u6)) (l none) else l (some (false,())) else l (some (false,())) else l (some (false,())) else l (some (false,())) else cl (r22).dflt (M22 (x.1,())) (fun u7=>bif (decide (((u7.1.n:Nat):Int)=(0:Int))) then bif (!(decide (u3.2.1=(7:Int)))) then l (some (false,())) else bif (!(decide (u4.2.1=(7:Int)))) then l (some (false,())) else bif (decide ((0:Int) < (W (((u3.1.n:Nat):Int) + ((u4.1.n:Nat):Int))))) then l (some (false,())) else bif (decide (x.2.1 < (1:Int))) then bif (decide (u2.2.1=(2:Int))) then bif (decide (((u2.1.n:Nat):Int)=(0:Int))) then cl (nQ).dflt (qf ()) (fun u8=>l (some u8)) (l none) else l (some (false,())) else l (some (false,())) else bif (decide (((x.1.1.n:Nat):Int)<=x.2.1)) then bif (decide (u2.2.1=(2:Int))) then bif (decide (((u2.1.n:Nat):Int)=(0:Int))) then cl (nQ).dflt (qf ()) (fun u9=>l (some u9)) (l none) else l (some (false,())) else l (some (false,())) else bif (decide (((u7.1.n:Nat):Int)=(0:Int))) then bif (decide (u2.2.1=(7:Int))) then bif (decide (((u2.1.n:Nat):Int)=(0:Int))) then cl (nQ).dflt (qf ()) (fun vD=>l (some vD)) (l none) else l (some (false,())) else l (some (false,())) else bif (decide (u2.2.1=(0:Int))) then cl (r26).dflt (M26 (x.1,(u7.1,x.2))) (fun lM=>cl (IN).dflt (VN (u2.1,lM)) (fun MA=>bif MA.1 then cl (nQ).dflt (qf ()) (fun Df=>l (some Df)) (l none) else l (some (false,()))) (l none)) (l none) else l (some (false,())) else bif (!(decide (u3.2.1=(0:Int)))) then l (some (false,())) else bif (!(decide (u4.2.1=(0:Int)))) then l (some (false,())) else cl (r24).dflt (M24 (x.1,u7)) (fun PX=>cl (IN).dflt (VN (u3.1,PX)) (fun PB=>bif (!PB.1) then l (some (false,())) else cl (r25).dflt (M25 (x.1,u7)) (fun u16=>cl (IN).dflt (VN (u4.1,u16)) (fun Wf=>bif (!Wf.1) then l (some (false,())) else bif (decide (x.2.1 < (1:Int))) then bif (decide (u2.2.1=(2:Int))) then bif (decide (((u2.1.n:Nat):Int)=(0:Int))) then cl (nQ).dflt (qf ()) (fun VP=>l (some VP)) (l none) else l (some (false,())) else l (some (false,())) else bif (decide (((x.1.1.n:Nat):Int)<=x.2.1)) then bif (decide (u2.2.1=(2:Int))) then bif (decide (((u2.1.n:Nat):Int)=(0:Int))) then cl (nQ).dflt (qf ()) (fun UO=>l (some UO)) (l none) else l (some (false,())) else l (some (false,())) else bif (decide (((u7.1.n:Nat):Int)=(0:Int))) then bif (decide (u2.2.1=(7:Int))) then bif (decide (((u2.1.n:Nat):Int)=(0:Int))) then cl (nQ).dflt (qf ()) (fun u20=>l (some u20)) (l none) else l (some (false,())) else l (some (false,())) else bif (decide (u2.2.1=(0:Int))) then cl (r26).dflt (M26 (x.1,(u7.1,x.2))) (fun u21=>cl (IN).dflt (VN (u2.1,u21)) (fun u22=>bif u22.1 then cl (nQ).dflt (qf ()) (fun Dh=>l (some Dh)) (l none) else l (some (false,()))) (l none)) (l none) else l (some (false,()))) (l none)) (l none)) (l none)) (l none)) (l none)) (l none)) (l none)) (l none)) (l none)) (l none)
theorem q3:QO G3 Try.f3 [] a3 r3 Q3:=fun _=>by kernel_rfl
def M3 (x:(a3).den):Option (r3).den:=Q3 (fun r=>r) (fun _ _=>none) x
theorem m3:MO G3 Try.f3 [] M3:=fun x=>by rw [q3]; unfold M3 Q3; simp only [Tree.sure,iO]
def p3:=pO M3
def v3:=vO (τ:=r3) M3
def k3:ee:=⟨a3,r3,p3,v3⟩
theorem h3:Holds Try.prog 3 k3:=hO cl3 g3 m3 l0
abbrev ayA:Ty:=(.cons tI T6)
abbrev aIo:Ty:=(.cons PV ayA)
abbrev ayB:Ty:=(.cons anf T5)
abbrev aIp:Ty:=(.cons PV ayB)
end Go.Dm

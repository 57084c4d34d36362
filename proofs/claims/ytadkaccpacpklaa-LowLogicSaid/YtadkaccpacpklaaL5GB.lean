/-
 Each function of the program as a Lean function,and that its calls come to what that says.
-/
import Derived.Test.YtadkaccpacpklaaL5GA
set_option linter.unusedVariables false
set_option linter.unusedSimpArgs false
namespace Go.Dm
open Go.RowKit Go.Proofs
set_option maxRecDepth 100000
noncomputable def c21:=zo Try.f21
theorem aeR:zq 21 Try.f21 c21:=zu
abbrev a21:Ty:=Jd
abbrev Rf:Ty:=T3
noncomputable def G21:Ctx:=Ctx.of [(68,.pure k68),(69,.pure k69)]
theorem g21:SP G21:=aD (fa ⟨⟨aiE.c,h68⟩,fa ⟨⟨auj.c,h69⟩,f0⟩⟩)
noncomputable def HQ:Code:=aG ((af (c21))[0]?)
noncomputable def xR:Code:=aG ((af (HQ))[0]?)
theorem Ui:af (xR)=[]:=by kernel_rfl
abbrev iM:List aL:=[.slot 1 (.ptr 1),.slot 3 (.pc tI),.slot 4 (.ptr 103),.box 1 [.pc eX,.pc tI,.pc tI,.pc tI,.pc tI],.box 103 [.pc tI,.pc (.sl T6)]]
abbrev eG:List aL:=[.slot 5 (.pc tI)]
abbrev nC:List aL:=iM ++ eG
def zM:ZJ iM eG nC:=ZA _ _
def kr:ZS iM eG nC:=ZP _ _
abbrev kS:aO:=⟨[(2,[.slot 1 (.ptr 1),.slot 3 (.pc tI),.box 1 [.pc eX,.pc tI,.pc tI,.pc tI,.pc tI]])],[.slot 2 (.pc .bool)],[]⟩
abbrev gL:aO:=⟨[(2,[])],[.slot 2 (.pc .bool)],[]⟩
def tP:ZE iM gL kS:=fun id=>match id with | 2=>fun c y=>(c.1,(c.2.1,(c.2.2.2.1,y))) | _=>jm
def tQ {α:Type} (l:RQ eG gL->α) (an:α->α->α) (c:ZD iM) (v:ZD eG):α:=bif (decide (v.1 < ((c.2.2.2.2.1.2.1.n:Nat):Int))) then bif (decide (((0:Int)<=v.1)/\(v.1 < ((c.2.2.2.2.1.2.1.n:Nat):Int)))) then cl (WK).dflt (M69 (((c.2.2.2.2.1.2.1.g (Int.toNat v.1)).1,((c.2.2.2.2.1.2.1.g (Int.toNat v.1)).2.1,())),((100:Int),()))) (fun u0=>bif (!u0.1) then l (.out (.ret (false,()))) else cl (WK).dflt (M69 (((c.2.2.2.2.1.2.1.g (Int.toNat v.1)).2.2.1,((c.2.2.2.2.1.2.1.g (Int.toNat v.1)).2.2.2.1,())),((100:Int),()))) (fun u1=>bif (!u1.1) then l (.out (.ret (false,()))) else cl (WK).dflt (M69 ((c.2.2.2.2.1.2.1.g (Int.toNat v.1)).2.2.2.2,((99999:Int),()))) (fun u2=>bif (!u2.1) then l (.out (.ret (false,()))) else l (.next ((W (v.1 + (1:Int))),()))) (l .bad)) (l .bad)) (l .bad) else l .bad else l (.out (.exit 2 ()))
theorem Yh:ZO G21 0 97 xR [] zM tP ZI ZI tQ:=fun _ _=>by kernel_rfl
def tR (c:ZD iM) (v:ZD eG):RQ eG gL:=tQ (fun r=>r) (fun _ _=>.bad) c v
theorem Yi:SO G21 0 97 xR [] zM tP ZI ZI tR:=fun c v=>by rw [Yh]; unfold tR tQ; simp only [bu,aM,pM]
def jf (c:ZD iM) (v:ZD eG):LQ gL:=aH (tR c) cz v
theorem aeT:af (HQ)=[.loop xR]:=by kernel_rfl
abbrev oC:List aL:=[.slot 1 (.ptr 1),.box 1 [.pc eX,.pc tI,.pc tI,.pc tI,.pc tI]]
abbrev fS:List aL:=[.slot 3 (.pc tI)]
abbrev BK:List aL:=oC ++ fS
def Pn:ZJ oC fS BK:=ZA _ _
def GR:ZS oC fS BK:=ZP _ _
abbrev CQ:aO:=⟨[(0,[.slot 1 (.ptr 1),.box 1 [.pc eX,.pc tI,.pc tI,.pc tI,.pc tI]])],[.slot 2 (.pc .bool)],[]⟩
abbrev jb:aO:=⟨[(0,[])],[.slot 2 (.pc .bool)],[]⟩
def LB:ZE oC jb CQ:=fun id=>match id with | 0=>fun c y=>(c.1,(c.2.1,y)) | _=>jm
def HR {α:Type} (l:RQ fS jb->α) (an:α->α->α) (c:ZD oC) (v:ZD fS):α:=bif (decide (v.1 < ((c.2.1.1.n:Nat):Int))) then bif (decide (((0:Int)<=v.1)/\(v.1 < ((c.2.1.1.n:Nat):Int)))) then cl (Kj).dflt (MC ((c.2.1.1.g (Int.toNat v.1)).1,((0:Int),((200:Int),())))) (fun u3=>bif (!u3.1) then l (.out (.ret (false,()))) else bif (decide ((0:Int) < v.1)) then bif (decide (((0:Int)<=(W (v.1 - (1:Int))))/\((W (v.1 - (1:Int))) < ((c.2.1.1.n:Nat):Int)))) then bif (decide ((c.2.1.1.g (Int.toNat v.1)).1<=(c.2.1.1.g (Int.toNat (W (v.1 - (1:Int))))).1)) then l (.out (.ret (false,()))) else bif (decide ((3:Int) < (((c.2.1.1.g (Int.toNat v.1)).2.1.n:Nat):Int))) then l (.out (.ret (false,()))) else aF (jf ((),(v.1,((),(c.2.1,((c.2.1.1.g (Int.toNat v.1)),()))))) ((0:Int),())) 2 (fun u4=>l (.next ((W (v.1 + (1:Int))),()))) (bS (jf ((),(v.1,((),(c.2.1,((c.2.1.1.g (Int.toNat v.1)),()))))) ((0:Int),())) (fun u5=>l (.out (.ret u5))) (l .bad)) else l .bad else bif (decide ((3:Int) < (((c.2.1.1.g (Int.toNat v.1)).2.1.n:Nat):Int))) then l (.out (.ret (false,()))) else aF (jf ((),(v.1,((),(c.2.1,((c.2.1.1.g (Int.toNat v.1)),()))))) ((0:Int),())) 2 (fun u6=>l (.next ((W (v.1 + (1:Int))),()))) (bS (jf ((),(v.1,((),(c.2.1,((c.2.1.1.g (Int.toNat v.1)),()))))) ((0:Int),())) (fun u7=>l (.out (.ret u7))) (l .bad))) (l .bad) else l .bad else l (.out (.exit 0 ()))
theorem am0:ZO G21 0 97 HQ [.known (bF 0 [] nC fun x=>aJ kS tP ZI ZI [] true (kr x).1 (jf (kr x).1 (kr x).2) kS.bw)] Pn LB ZI ZI HR:=fun _ _=>by kernel_rfl
def HS (c:ZD oC) (v:ZD fS):RQ fS jb:=HR (fun r=>r) (fun _ _=>.bad) c v
theorem am1:SO G21 0 97 HQ [.known (bF 0 [] nC fun x=>aJ kS tP ZI ZI [] true (kr x).1 (jf (kr x).1 (kr x).2) kS.bw)] Pn LB ZI ZI HS:=fun c v=>by rw [am0]; unfold HS HR; simp only [bu,aM,pM]
def HT (c:ZD oC) (v:ZD fS):LQ jb:=aH (HS c) cz v
theorem ayk:af (c21)=[.loop HQ]:=by kernel_rfl
noncomputable def l21:List Loop:=[lk 0 LB ZI ZI true GR HT]
def Q21 {α:Type} (l:Option (Rf).den->α) (an:α->α->α) (x:(a21).den):α:=aF (HT ((),(x.1,())) ((0:Int),())) 0 (fun u8=>cl (Kj).dflt (MC (((x.1.1.n:Nat):Int),((1:Int),((4:Int),())))) (fun u9=>bif u9.1 then cl (Kj).dflt (MC (x.1.2.1,((0:Int),((50:Int),())))) (fun vD=>bif vD.1 then cl (Kj).dflt (MC (x.1.2.2.1,((0:Int),((1000:Int),())))) (fun lM=>bif lM.1 then cl (Kj).dflt (MC (x.1.2.2.2.1,((0:Int),((12:Int),())))) (fun MA=>bif MA.1 then cl (Kj).dflt (MC (x.1.2.2.2.2.1,((0:Int),((12:Int),())))) (fun Df=>l (some Df)) (l none) else l (some (false,()))) (l none) else l (some (false,()))) (l none) else l (some (false,()))) (l none) else l (some (false,()))) (l none)) (bS (HT ((),(x.1,())) ((0:Int),())) (fun PX=>l (some PX)) (l none))
theorem q21:QO G21 Try.f21 l21 a21 Rf Q21:=fun _=>by kernel_rfl
def Sj (x:(a21).den):Option (Rf).den:=Q21 (fun r=>r) (fun _ _=>none) x
theorem m21:MO G21 Try.f21 l21 Sj:=fun x=>by rw [q21]; unfold Sj Q21; simp only [Tree.sure,iO]
def p21:=pO Sj
def v21:=vO (τ:=Rf) Sj
def k21:ee:=⟨a21,Rf,p21,v21⟩
theorem h21:Holds Try.prog 21 k21:=hO aeR g21 m21 fun G' hlo hF hE=>ai (by rw [ayk]; exact .cons (lv hE hF hlo (ai (by rw [aeT]; exact .cons (lv hE hF hlo (ln Ui) kr Yi) (.nil))) GR am1) (.nil))
noncomputable def c56:=zo Try.f56
theorem auk:zq 56 Try.f56 c56:=zu
abbrev a56:Ty:=OG
abbrev r56:Ty:=T0
noncomputable def G56:Ctx:=Ctx.of []
theorem g56:SP G56:=aD f0
noncomputable def NL:Code:=aG ((af (c56))[0]?)
noncomputable def Em:Code:=aG ((af (NL))[0]?)
theorem aak:af (Em)=[]:=by kernel_rfl
abbrev kT:List aL:=[.slot 0 (.pc ec),.slot 4 (.pc tI)]
abbrev eB:List aL:=[.slot 3 (.pc tI),.slot 5 (.pc tI)]
abbrev sK:List aL:=kT ++ eB
def HU:ZJ kT eB sK:=ZA _ _
def oD:ZS kT eB sK:=ZP _ _
abbrev pJ:aO:=⟨[(2,[.slot 0 (.pc ec),.slot 4 (.pc tI),.slot 3 (.pc tI)])],[],[]⟩
abbrev oE:aO:=⟨[(2,[.slot 3 (.pc tI)])],[],[]⟩
def yW:ZE kT oE pJ:=fun id=>match id with | 2=>fun c y=>(c.1,(c.2.1,y)) | _=>jm
def yX {α:Type} (l:RQ eB oE->α) (an:α->α->α) (c:ZD kT) (v:ZD eB):α:=bif (decide (((0:Int)<=c.2.1)/\(c.2.1 < ((c.1.n:Nat):Int)))) then bif (decide (v.2.1 < (((c.1.g (Int.toNat c.2.1)).1.n:Nat):Int))) then bif (decide (((0:Int)<=c.2.1)/\(c.2.1 < ((c.1.n:Nat):Int)))) then bif (decide (((0:Int)<=v.2.1)/\(v.2.1 < (((c.1.g (Int.toNat c.2.1)).1.n:Nat):Int)))) then bif (decide (((c.1.g (Int.toNat c.2.1)).1.g (Int.toNat v.2.1)).1=(-1:Int))) then l (.next ((W (v.1 + (1:Int))),((W (v.2.1 + (1:Int))),()))) else l (.next (v.1,((W (v.2.1 + (1:Int))),()))) else l .bad else l .bad else l (.out (.exit 2 (v.1,()))) else l .bad
theorem aeU:ZO G56 0 32 Em [] HU yW ZI ZI yX:=fun _ _=>by kernel_rfl
def vv (c:ZD kT) (v:ZD eB):RQ eB oE:=yX (fun r=>r) (fun _ _=>.bad) c v
theorem aeV:SO G56 0 32 Em [] HU yW ZI ZI vv:=fun c v=>by rw [aeU]; unfold vv yX; simp only [bu,aM,pM]
def yY (c:ZD kT) (v:ZD eB):LQ oE:=aH (vv c) cz v
theorem aj4:af (NL)=[.loop Em]:=by kernel_rfl
abbrev sZ:List aL:=[.slot 0 (.pc ec)]
abbrev nq:List aL:=[.slot 3 (.pc tI),.slot 4 (.pc tI)]
abbrev JE:List aL:=sZ ++ nq
def Wg:ZJ sZ nq JE:=ZA _ _
def NM:ZS sZ nq JE:=ZP _ _
abbrev LC:aO:=⟨[(0,[.slot 3 (.pc tI)])],[],[]⟩
abbrev FT:aO:=⟨[(0,[.slot 3 (.pc tI)])],[],[]⟩
def Rg:ZE sZ FT LC:=fun id=>match id with | 0=>fun c y=>y | _=>jm
def NN {α:Type} (l:RQ nq FT->α) (an:α->α->α) (c:ZD sZ) (v:ZD nq):α:=bif (decide (v.2.1 < ((c.1.n:Nat):Int))) then aF (yY (c.1,v.2) (v.1,((0:Int),()))) 2 (fun u0=>l (.next (u0.1,((W (v.2.1 + (1:Int))),())))) (l .bad) else l (.out (.exit 0 (v.1,())))
theorem asq:ZO G56 0 32 NL [.known (bF 0 [] sK fun x=>aJ pJ yW ZI ZI [] false (oD x).1 (yY (oD x).1 (oD x).2) pJ.bw)] Wg Rg ZI ZI NN:=fun _ _=>by kernel_rfl
def JF (c:ZD sZ) (v:ZD nq):RQ nq FT:=NN (fun r=>r) (fun _ _=>.bad) c v
theorem asr:SO G56 0 32 NL [.known (bF 0 [] sK fun x=>aJ pJ yW ZI ZI [] false (oD x).1 (yY (oD x).1 (oD x).2) pJ.bw)] Wg Rg ZI ZI JF:=fun c v=>by rw [asq]; unfold JF NN; simp only [bu,aM,pM]
def Uj (c:ZD sZ) (v:ZD nq):LQ FT:=aH (JF c) cz v
theorem aC5:af (c56)=[.loop NL]:=by kernel_rfl
noncomputable def l56:List Loop:=[lk 0 Rg ZI ZI false NM Uj]
def Q56 {α:Type} (l:Option (r56).den->α) (an:α->α->α) (x:(a56).den):α:=aF (Uj x ((0:Int),((1:Int),()))) 0 (fun u1=>l (some u1)) (l none)
theorem q56:QO G56 Try.f56 l56 a56 r56 Q56:=fun _=>by kernel_rfl
def M56 (x:(a56).den):Option (r56).den:=Q56 (fun r=>r) (fun _ _=>none) x
theorem m56:MO G56 Try.f56 l56 M56:=fun x=>by rw [q56]; unfold M56 Q56; simp only [Tree.sure,iO]
def p56:=pO M56
def v56:=vO (τ:=r56) M56
def k56:ee:=⟨a56,r56,p56,v56⟩
theorem h56:Holds Try.prog 56 k56:=hO auk g56 m56 fun G' hlo hF hE=>ai (by rw [aC5]; exact .cons (lv hE hF hlo (ai (by rw [aj4]; exact .cons (lv hE hF hlo (ln aak) oD aeV) (.nil))) NM asr) (.nil))
noncomputable def c73:=zo Try.f73
theorem aj5:zq 73 Try.f73 c73:=zu
abbrev a73:Ty:=T29
abbrev r73:Ty:=T3
noncomputable def G73:Ctx:=Ctx.of []
theorem g73:SP G73:=aD f0
noncomputable def Uk:Code:=aG ((af (c73))[0]?)
theorem aj6:af (Uk)=[]:=by kernel_rfl
abbrev tc:List aL:=[.slot 0 (.pc (.sl T0)),.slot 1 (.pc tI)]
abbrev mc:List aL:=[.slot 5 (.pc tI)]
abbrev JG:List aL:=tc ++ mc
def Wh:ZJ tc mc JG:=ZA _ _
def NO:ZS tc mc JG:=ZP _ _
abbrev LD:aO:=⟨[(0,[])],[.slot 4 (.pc .bool)],[]⟩
abbrev sg:aO:=⟨[(0,[])],[.slot 4 (.pc .bool)],[]⟩
def Rh:ZE tc sg LD:=fun id=>match id with | 0=>fun c y=>y | _=>jm
def NP {α:Type} (l:RQ mc sg->α) (an:α->α->α) (c:ZD tc) (v:ZD mc):α:=bif (decide (v.1 < ((c.1.n:Nat):Int))) then bif (decide (((0:Int)<=v.1)/\(v.1 < ((c.1.n:Nat):Int)))) then bif (decide ((c.1.g (Int.toNat v.1)).1=c.2.1)) then l (.out (.ret (true,()))) else l (.next ((W (v.1 + (1:Int))),())) else l .bad else l (.out (.exit 0 ()))
theorem ast:ZO G73 0 18 Uk [] Wh Rh ZI ZI NP:=fun _ _=>by kernel_rfl
def NQ (c:ZD tc) (v:ZD mc):RQ mc sg:=NP (fun r=>r) (fun _ _=>.bad) c v
theorem asu:SO G73 0 18 Uk [] Wh Rh ZI ZI NQ:=fun c v=>by rw [ast]; unfold NQ NP; simp only [bu,aM,pM]
def NR (c:ZD tc) (v:ZD mc):LQ sg:=aH (NQ c) cz v
theorem aC7:af (c73)=[.loop Uk]:=by kernel_rfl
noncomputable def l73:List Loop:=[lk 0 Rh ZI ZI true NO NR]
def Q73 {α:Type} (l:Option (r73).den->α) (an:α->α->α) (x:(a73).den):α:=aF (NR x ((0:Int),())) 0 (fun u0=>l (some (false,()))) (bS (NR x ((0:Int),())) (fun u1=>l (some u1)) (l none))
theorem q73:QO G73 Try.f73 l73 a73 r73 Q73:=fun _=>by kernel_rfl
def M73 (x:(a73).den):Option (r73).den:=Q73 (fun r=>r) (fun _ _=>none) x
theorem m73:MO G73 Try.f73 l73 M73:=fun x=>by rw [q73]; unfold M73 Q73; simp only [Tree.sure,iO]
def p73:=pO M73
def v73:=vO (τ:=r73) M73
def k73:ee:=⟨a73,r73,p73,v73⟩
theorem h73:Holds Try.prog 73 k73:=hO aj5 g73 m73 fun G' hlo hF hE=>ai (by rw [aC7]; exact .cons (lv hE hF hlo (ln aj6) NO asu) (.nil))
noncomputable def c61:=zo Try.f61
theorem aul:zq 61 Try.f61 c61:=zu
abbrev a61:Ty:=OG
abbrev r61:Ty:=T0
noncomputable def G61:Ctx:=Ctx.of [(73,.pure k73)]
theorem g61:SP G61:=aD (fa ⟨⟨aj5.c,h73⟩,f0⟩)
noncomputable def NS:Code:=aG ((af (c61))[0]?)
noncomputable def En:Code:=aG ((af (NS))[0]?)
theorem aal:af (En)=[]:=by kernel_rfl
abbrev kU:List aL:=[.slot 0 (.pc ec),.slot 4 (.pc tI)]
abbrev eC:List aL:=[.slot 3 (.pc tI),.slot 5 (.pc tI)]
abbrev sM:List aL:=kU ++ eC
def HV:ZJ kU eC sM:=ZA _ _
def oF:ZS kU eC sM:=ZP _ _
abbrev pK:aO:=⟨[(2,[.slot 0 (.pc ec),.slot 4 (.pc tI),.slot 3 (.pc tI)])],[],[]⟩
abbrev oG:aO:=⟨[(2,[.slot 3 (.pc tI)])],[],[]⟩
def yZ:ZE kU oG pK:=fun id=>match id with | 2=>fun c y=>(c.1,(c.2.1,y)) | _=>jm
def zb {α:Type} (l:RQ eC oG->α) (an:α->α->α) (c:ZD kU) (v:ZD eC):α:=bif (decide (((0:Int)<=(W (c.2.1 - (1:Int))))/\((W (c.2.1 - (1:Int))) < ((c.1.n:Nat):Int)))) then bif (decide (v.2.1 < (((c.1.g (Int.toNat (W (c.2.1 - (1:Int))))).1.n:Nat):Int))) then bif (decide (((0:Int)<=c.2.1)/\(c.2.1 < ((c.1.n:Nat):Int)))) then cl (r73).dflt (M73 ((c.1.g (Int.toNat c.2.1)).1,v.2)) (fun u0=>bif (!u0.1) then l (.next ((W (v.1 + (1:Int))),((W (v.2.1 + (1:Int))),()))) else l (.next (v.1,((W (v.2.1 + (1:Int))),())))) (l .bad) else l .bad else l (.out (.exit 2 (v.1,()))) else l .bad
theorem aeX:ZO G61 0 32 En [] HV yZ ZI ZI zb:=fun _ _=>by kernel_rfl
def zc (c:ZD kU) (v:ZD eC):RQ eC oG:=zb (fun r=>r) (fun _ _=>.bad) c v
theorem aeY:SO G61 0 32 En [] HV yZ ZI ZI zc:=fun c v=>by rw [aeX]; unfold zc zb; simp only [bu,aM,pM]
def ze (c:ZD kU) (v:ZD eC):LQ oG:=aH (zc c) cz v
theorem aj8:af (NS)=[.loop En]:=by kernel_rfl
abbrev td:List aL:=[.slot 0 (.pc ec)]
abbrev nr:List aL:=[.slot 3 (.pc tI),.slot 4 (.pc tI)]
abbrev JH:List aL:=td ++ nr
def Wi:ZJ td nr JH:=ZA _ _
def NT:ZS td nr JH:=ZP _ _
abbrev LF:aO:=⟨[(0,[.slot 3 (.pc tI)])],[],[]⟩
abbrev FU:aO:=⟨[(0,[.slot 3 (.pc tI)])],[],[]⟩
def Ri:ZE td FU LF:=fun id=>match id with | 0=>fun c y=>y | _=>jm
def NU {α:Type} (l:RQ nr FU->α) (an:α->α->α) (c:ZD td) (v:ZD nr):α:=bif (decide (v.2.1 < ((c.1.n:Nat):Int))) then aF (ze (c.1,v.2) (v.1,((0:Int),()))) 2 (fun u1=>l (.next (u1.1,((W (v.2.1 + (1:Int))),())))) (l .bad) else l (.out (.exit 0 (v.1,())))
theorem asv:ZO G61 0 32 NS [.known (bF 0 [] sM fun x=>aJ pK yZ ZI ZI [] false (oF x).1 (ze (oF x).1 (oF x).2) pK.bw)] Wi Ri ZI ZI NU:=fun _ _=>by kernel_rfl
def JI (c:ZD td) (v:ZD nr):RQ nr FU:=NU (fun r=>r) (fun _ _=>.bad) c v
theorem asw:SO G61 0 32 NS [.known (bF 0 [] sM fun x=>aJ pK yZ ZI ZI [] false (oF x).1 (ze (oF x).1 (oF x).2) pK.bw)] Wi Ri ZI ZI JI:=fun c v=>by rw [asv]; unfold JI NU; simp only [bu,aM,pM]
def Ul (c:ZD td) (v:ZD nr):LQ FU:=aH (JI c) cz v
theorem aC9:af (c61)=[.loop NS]:=by kernel_rfl
noncomputable def l61:List Loop:=[lk 0 Ri ZI ZI false NT Ul]
def Q61 {α:Type} (l:Option (r61).den->α) (an:α->α->α) (x:(a61).den):α:=aF (Ul x ((0:Int),((1:Int),()))) 0 (fun u2=>l (some u2)) (l none)
theorem q61:QO G61 Try.f61 l61 a61 r61 Q61:=fun _=>by kernel_rfl
def M61 (x:(a61).den):Option (r61).den:=Q61 (fun r=>r) (fun _ _=>none) x
theorem m61:MO G61 Try.f61 l61 M61:=fun x=>by rw [q61]; unfold M61 Q61; simp only [Tree.sure,iO]
def p61:=pO M61
def v61:=vO (τ:=r61) M61
def k61:ee:=⟨a61,r61,p61,v61⟩
theorem h61:Holds Try.prog 61 k61:=hO aul g61 m61 fun G' hlo hF hE=>ai (by rw [aC9]; exact .cons (lv hE hF hlo (ai (by rw [aj8]; exact .cons (lv hE hF hlo (ln aal) oF aeY) (.nil))) NT asw) (.nil))
noncomputable def c70:=zo Try.f70
theorem aGc:zq 70 Try.f70 c70:=zu
abbrev a70:Ty:=T1
abbrev r70:Ty:=OG
noncomputable def G70:Ctx:=Ctx.of [(73,.pure k73)]
theorem g70:SP G70:=aD (fa ⟨⟨aj5.c,h73⟩,f0⟩)
noncomputable def Wj:Code:=aG ((af (c70))[0]?)
noncomputable def HW:Code:=aG ((af (Wj))[0]?)
noncomputable def Cd:Code:=aG ((af (HW))[0]?)
theorem aam:af (Cd)=[]:=by kernel_rfl
abbrev lB:List aL:=[.slot 0 (.pc tI),.slot 1 (.pc tI),.slot 5 (.pc ec),.slot 6 (.pc tI),.slot 8 (.pc tI)]
abbrev eU:List aL:=[.slot 7 (.own 1000007 79 nK),.slot 9 (.pc tI)]
abbrev tf:List aL:=lB ++ eU
def GW:ZJ lB eU tf:=ZA _ _
def oH:ZS lB eU tf:=ZP _ _
abbrev pS:aO:=⟨[(4,[.slot 0 (.pc tI),.slot 1 (.pc tI),.slot 5 (.pc ec),.slot 6 (.pc tI),.slot 8 (.pc tI),.slot 7 (.own 1000007 79 nK)])],[],[]⟩
abbrev oI:aO:=⟨[(4,[.slot 7 (.own 1000007 79 nK)])],[],[]⟩
def zf:ZE lB oI pS:=fun id=>match id with | 4=>fun c y=>(c.1,(c.2.1,(c.2.2.1,(c.2.2.2.1,(c.2.2.2.2.1,y))))) | _=>jm
def qI {α:Type} (l:RQ eU oI->α) (an:α->α->α) (c:ZD lB) (v:ZD eU):α:=bif (decide (v.2.1 < c.2.1)) then bif (decide (v.2.1 < (0:Int))) then bif (decide (((0:Int)<=c.2.2.2.2.1)/\(c.2.2.2.2.1 < ((c.2.2.1.n:Nat):Int)))) then bif (decide (((c.2.2.1.g (Int.toNat c.2.2.2.2.1)).1.n * 8)<=140737488355328)) then bif (decide ((((c.2.2.1.g (Int.toNat c.2.2.2.2.1)).1.n + 1) * 8)<=140737488355328)) then bif (decide (((v.1.n + 1) * 24)<=140737488355328)) then l (.next ((cK v.1 (⟨1,fun i=>List.getD [((cK (c.2.2.1.g (Int.toNat c.2.2.2.2.1)).1 (⟨1,fun i=>List.getD [v.2] i v.2⟩:Sl (Ty.den T0))),())] i ((cK (c.2.2.1.g (Int.toNat c.2.2.2.2.1)).1 (⟨1,fun i=>List.getD [v.2] i v.2⟩:Sl (Ty.den T0))),())⟩:Sl (Ty.den nK))),((W (v.2.1 + (1:Int))),()))) else l .bad else l .bad else l .bad else l .bad else bif (decide (((0:Int)<=c.2.2.2.2.1)/\(c.2.2.2.2.1 < ((c.2.2.1.n:Nat):Int)))) then cl (r73).dflt (M73 ((c.2.2.1.g (Int.toNat c.2.2.2.2.1)).1,v.2)) (fun u0=>bif (!u0.1) then bif (decide (((0:Int)<=c.2.2.2.2.1)/\(c.2.2.2.2.1 < ((c.2.2.1.n:Nat):Int)))) then bif (decide (((c.2.2.1.g (Int.toNat c.2.2.2.2.1)).1.n * 8)<=140737488355328)) then bif (decide ((((c.2.2.1.g (Int.toNat c.2.2.2.2.1)).1.n + 1) * 8)<=140737488355328)) then bif (decide (((v.1.n + 1) * 24)<=140737488355328)) then l (.next ((cK v.1 (⟨1,fun i=>List.getD [((cK (c.2.2.1.g (Int.toNat c.2.2.2.2.1)).1 (⟨1,fun i=>List.getD [v.2] i v.2⟩:Sl (Ty.den T0))),())] i ((cK (c.2.2.1.g (Int.toNat c.2.2.2.2.1)).1 (⟨1,fun i=>List.getD [v.2] i v.2⟩:Sl (Ty.den T0))),())⟩:Sl (Ty.den nK))),((W (v.2.1 + (1:Int))),()))) else l .bad else l .bad else l .bad else l .bad else l (.next (v.1,((W (v.2.1 + (1:Int))),())))) (l .bad) else l .bad else l (.out (.exit 4 (v.1,())))
theorem acu:ZO G70 0 51 Cd [] GW zf ZI ZI qI:=fun _ _=>by kernel_rfl
def oO (c:ZD lB) (v:ZD eU):RQ eU oI:=qI (fun r=>r) (fun _ _=>.bad) c v
theorem acv:SO G70 0 51 Cd [] GW zf ZI ZI oO:=fun c v=>by rw [acu]; unfold oO qI; simp only [bu,aM,pM]
def xC (c:ZD lB) (v:ZD eU):LQ oI:=aH (oO c) cz v
theorem agZ:af (HW)=[.loop Cd]:=by kernel_rfl
abbrev qJ:List aL:=[.slot 0 (.pc tI),.slot 1 (.pc tI),.slot 5 (.pc ec),.slot 6 (.pc tI)]
abbrev lF:List aL:=[.slot 7 (.own 1000007 79 nK),.slot 8 (.pc tI)]
abbrev zO:List aL:=qJ ++ lF
def PY:ZJ qJ lF zO:=ZA _ _
def uN:ZS qJ lF zO:=ZP _ _
abbrev wg:aO:=⟨[(2,[.slot 0 (.pc tI),.slot 1 (.pc tI),.slot 6 (.pc tI),.slot 7 (.pc (.sl nK))])],[],[]⟩
abbrev BL:aO:=⟨[(2,[.slot 7 (.pc (.sl nK))])],[],[]⟩
def HX:ZE qJ BL wg:=fun id=>match id with | 2=>fun c y=>(c.1,(c.2.1,(c.2.2.2.1,y))) | _=>jm
def HY {α:Type} (l:RQ lF BL->α) (an:α->α->α) (c:ZD qJ) (v:ZD lF):α:=bif (decide (v.2.1 < ((c.2.2.1.n:Nat):Int))) then aF (xC (c.1,(c.2.1,(c.2.2.1,(c.2.2.2.1,v.2)))) (v.1,((-1:Int),()))) 4 (fun u1=>l (.next (u1.1,((W (v.2.1 + (1:Int))),())))) (l .bad) else l (.out (.exit 2 (v.1,())))
theorem am3:ZO G70 0 51 HW [.known (bF 0 [] tf fun x=>aJ pS zf ZI ZI [] false (oH x).1 (xC (oH x).1 (oH x).2) pS.bw)] PY HX ZI ZI HY:=fun _ _=>by kernel_rfl
def Ce (c:ZD qJ) (v:ZD lF):RQ lF BL:=HY (fun r=>r) (fun _ _=>.bad) c v
theorem am4:SO G70 0 51 HW [.known (bF 0 [] tf fun x=>aJ pS zf ZI ZI [] false (oH x).1 (xC (oH x).1 (oH x).2) pS.bw)] PY HX ZI ZI Ce:=fun c v=>by rw [am3]; unfold Ce HY; simp only [bu,aM,pM]
def HZ (c:ZD qJ) (v:ZD lF):LQ BL:=aH (Ce c) cz v
theorem asx:af (Wj)=[.loop HW]:=by kernel_rfl
abbrev AA:List aL:=[.slot 0 (.pc tI),.slot 1 (.pc tI)]
abbrev tU:List aL:=[.slot 5 (.pc (.sl nK)),.slot 6 (.pc tI)]
abbrev Um:List aL:=AA ++ tU
def afD:ZJ AA tU Um:=ZA _ _
def Xa:ZS AA tU Um:=ZP _ _
abbrev VQ:aO:=⟨[(0,[.slot 5 (.pc ec)])],[],[]⟩
abbrev NV:aO:=⟨[(0,[.slot 5 (.pc ec)])],[],[]⟩
def aan:ZE AA NV VQ:=fun id=>match id with | 0=>fun c y=>y | _=>jm
def Wk {α:Type} (l:RQ tU NV->α) (an:α->α->α) (c:ZD AA) (v:ZD tU):α:=bif (decide (v.2.1 < c.1)) then aF (HZ (c.1,(c.2.1,v)) ((⟨0,fun i=>((⟨0,fun i=>((0:Int),())⟩:Sl _),())⟩:Sl _),((0:Int),()))) 2 (fun u2=>l (.next (u2.1,((W (v.2.1 + (1:Int))),())))) (l .bad) else l (.out (.exit 0 (v.1,())))
theorem azM:ZO G70 0 51 Wj [.known (bF 0 [] zO fun x=>aJ wg HX ZI ZI [] false (uN x).1 (HZ (uN x).1 (uN x).2) wg.bw)] afD aan ZI ZI Wk:=fun _ _=>by kernel_rfl
def RX (c:ZD AA) (v:ZD tU):RQ tU NV:=Wk (fun r=>r) (fun _ _=>.bad) c v
theorem azN:SO G70 0 51 Wj [.known (bF 0 [] zO fun x=>aJ wg HX ZI ZI [] false (uN x).1 (HZ (uN x).1 (uN x).2) wg.bw)] afD aan ZI ZI RX:=fun c v=>by rw [azM]; unfold RX Wk; simp only [bu,aM,pM]
def abM (c:ZD AA) (v:ZD tU):LQ NV:=aH (RX c) cz v
theorem aHN:af (c70)=[.loop Wj]:=by kernel_rfl
noncomputable def l70:List Loop:=[lk 0 aan ZI ZI false Xa abM]
def Q70 {α:Type} (l:Option (r70).den->α) (an:α->α->α) (x:(a70).den):α:=aF (abM x ((⟨1,fun i=>List.getD [((⟨0,fun i=>((0:Int),())⟩:Sl _),())] i ((⟨0,fun i=>((0:Int),())⟩:Sl _),())⟩:Sl _),((0:Int),()))) 0 (fun u3=>l (some u3)) (l none)
theorem q70:QO G70 Try.f70 l70 a70 r70 Q70:=fun _=>by kernel_rfl
def M70 (x:(a70).den):Option (r70).den:=Q70 (fun r=>r) (fun _ _=>none) x
theorem m70:MO G70 Try.f70 l70 M70:=fun x=>by rw [q70]; unfold M70 Q70; simp only [Tree.sure,iO]
def p70:=pO M70
def v70:=vO (τ:=r70) M70
def k70:ee:=⟨a70,r70,p70,v70⟩
theorem h70:Holds Try.prog 70 k70:=hO aGc g70 m70 fun G' hlo hF hE=>ai (by rw [aHN]; exact .cons (lv hE hF hlo (ai (by rw [asx]; exact .cons (lv hE hF hlo (ai (by rw [agZ]; exact .cons (lv hE hF hlo (ln aam) oH acv) (.nil))) uN am4) (.nil))) Xa azN) (.nil))
noncomputable def aDa:=zo Try.f119
theorem auE:zq 119 Try.f119 aDa:=zu
abbrev T97:Ty:=(.cons T12 T13)
abbrev a119:Ty:=T97
abbrev Si:Ty:=T3
noncomputable def asy:Ctx:=Ctx.of []
theorem aHP:SP asy:=aD f0
def asz {α:Type} (l:Option (Si).den->α) (an:α->α->α) (x:(a119).den):α:=bif (decide (x.2.2.1 < (W (x.1.1 - x.2.1.2.1)))) then l (some (true,())) else l (some ((decide (x.2.2.1 < (W (x.2.1.1 - x.1.2.1)))),()))
theorem aHS:QO asy Try.f119 [] a119 Si asz:=fun _=>by kernel_rfl
def Un (x:(a119).den):Option (Si).den:=asz (fun r=>r) (fun _ _=>none) x
theorem aHT:MO asy Try.f119 [] Un:=fun x=>by rw [aHS]; unfold Un asz; simp only [Tree.sure,iO]
def aHU:=pO Un
def aHV:=vO (τ:=Si) Un
def azP:ee:=⟨a119,Si,aHU,aHV⟩
theorem aHW:Holds Try.prog 119 azP:=hO auE aHP aHT l0
noncomputable def aDb:=zo Try.f101
theorem auF:zq 101 Try.f101 aDb:=zu
abbrev T98:Ty:=(.cons PV T4)
abbrev Yj:Ty:=T98
abbrev Yk:Ty:=T3
noncomputable def asA:Ctx:=Ctx.of [(119,.pure azP)]
theorem aHY:SP asA:=aD (fa ⟨⟨auE.c,aHW⟩,f0⟩)
def am6 {α:Type} (l:Option (Yk).den->α) (an:α->α->α) (x:(Yj).den):α:=bif (decide (((0:Int)<=x.2.1)/\(x.2.1 < ((x.1.1.n:Nat):Int)))) then bif (decide (((0:Int)<=x.2.2.1)/\(x.2.2.1 < (((x.1.1.g (Int.toNat x.2.1)).2.1.n:Nat):Int)))) then bif (decide (((0:Int)<=x.2.2.2.1)/\(x.2.2.2.1 < ((x.1.1.n:Nat):Int)))) then bif (decide (((0:Int)<=x.2.2.2.2.1)/\(x.2.2.2.2.1 < (((x.1.1.g (Int.toNat x.2.2.2.1)).2.1.n:Nat):Int)))) then bif (decide (((0:Int)<=x.2.1)/\(x.2.1 < ((x.1.1.n:Nat):Int)))) then bif (decide (((0:Int)<=x.2.2.2.1)/\(x.2.2.2.1 < ((x.1.1.n:Nat):Int)))) then bif (decide (((0:Int)<=x.2.2.2.1)/\(x.2.2.2.1 < ((x.1.1.n:Nat):Int)))) then bif (decide (((0:Int)<=x.2.1)/\(x.2.1 < ((x.1.1.n:Nat):Int)))) then cl (Si).dflt (Un ((((x.1.1.g (Int.toNat x.2.1)).2.1.g (Int.toNat x.2.2.1)).1,(((x.1.1.g (Int.toNat x.2.1)).2.1.g (Int.toNat x.2.2.1)).2.1,())),((((x.1.1.g (Int.toNat x.2.2.2.1)).2.1.g (Int.toNat x.2.2.2.2.1)).1,(((x.1.1.g (Int.toNat x.2.2.2.1)).2.1.g (Int.toNat x.2.2.2.2.1)).2.1,())),((W (x.1.2.1 * (mx (W ((x.1.1.g (Int.toNat x.2.1)).1 - (x.1.1.g (Int.toNat x.2.2.2.1)).1)) (W ((x.1.1.g (Int.toNat x.2.2.2.1)).1 - (x.1.1.g (Int.toNat x.2.1)).1))))),())))) (fun u0=>bif (!u0.1) then cl (Si).dflt (Un ((((x.1.1.g (Int.toNat x.2.1)).2.1.g (Int.toNat x.2.2.1)).2.2.1,(((x.1.1.g (Int.toNat x.2.1)).2.1.g (Int.toNat x.2.2.1)).2.2.2.1,())),((((x.1.1.g (Int.toNat x.2.2.2.1)).2.1.g (Int.toNat x.2.2.2.2.1)).2.2.1,(((x.1.1.g (Int.toNat x.2.2.2.1)).2.1.g (Int.toNat x.2.2.2.2.1)).2.2.2.1,())),((W (x.1.2.1 * (mx (W ((x.1.1.g (Int.toNat x.2.1)).1 - (x.1.1.g (Int.toNat x.2.2.2.1)).1)) (W ((x.1.1.g (Int.toNat x.2.2.2.1)).1 - (x.1.1.g (Int.toNat x.2.1)).1))))),())))) (fun u1=>bif (!u1.1) then cl (Si).dflt (Un (((x.1.1.g (Int.toNat x.2.1)).2.1.g (Int.toNat x.2.2.1)).2.2.2.2,(((x.1.1.g (Int.toNat x.2.2.2.1)).2.1.g (Int.toNat x.2.2.2.2.1)).2.2.2.2,((W (x.1.2.2.1 * (mx (W ((x.1.1.g (Int.toNat x.2.1)).1 - (x.1.1.g (Int.toNat x.2.2.2.1)).1)) (W ((x.1.1.g (Int.toNat x.2.2.2.1)).1 - (x.1.1.g (Int.toNat x.2.1)).1))))),())))) (fun u2=>l (some ((!u2.1),()))) (l none) else l (some (false,()))) (l none) else l (some (false,()))) (l none) else l none else l none else l none else l none else l none else l none else l none else l none
theorem aH1:QO asA Try.f101 [] Yj Yk am6:=fun _=>by kernel_rfl
def Wl (x:(Yj).den):Option (Yk).den:=am6 (fun r=>r) (fun _ _=>none) x
theorem aH2:MO asA Try.f101 [] Wl:=fun x=>by rw [aH1]; unfold Wl am6; simp only [Tree.sure,iO]
def aH3:=pO Wl
def aH4:=vO (τ:=Yk) Wl
def azR:ee:=⟨Yj,Yk,aH3,aH4⟩
theorem aH5:Holds Try.prog 101 azR:=hO auF aHY aH2 l0
noncomputable def c71:=zo Try.f71
theorem aGd:zq 71 Try.f71 c71:=zu
abbrev T99:Ty:=(.cons PV OG)
abbrev a71:Ty:=T99
abbrev r71:Ty:=T3
noncomputable def G71:Ctx:=Ctx.of [(101,.pure azR)]
theorem g71:SP G71:=aD (fa ⟨⟨auF.c,aH5⟩,f0⟩)
noncomputable def Wm:Code:=aG ((af (c71))[0]?)
noncomputable def MD:Code:=aG ((af (Wm))[0]?)
theorem ag0:af (MD)=[]:=by kernel_rfl
abbrev qK:List aL:=[.slot 1 (.pc ec),.slot 2 (.ptr 2),.slot 5 (.pc tI),.slot 6 (.pc tI),.box 2 [.pc eX,.pc tI,.pc tI,.pc tI,.pc tI]]
abbrev mM:List aL:=[.slot 7 (.pc tI),.slot 8 (.pc tI)]
abbrev zP:List aL:=qK ++ mM
def PZ:ZJ qK mM zP:=ZA _ _
def uO:ZS qK mM zP:=ZP _ _
abbrev wj:aO:=⟨[(2,[.slot 1 (.pc ec),.slot 2 (.ptr 2),.slot 5 (.pc tI),.slot 6 (.pc tI),.box 2 [.pc eX,.pc tI,.pc tI,.pc tI,.pc tI]])],[.slot 4 (.pc .bool)],[]⟩
abbrev qX:aO:=⟨[(2,[])],[.slot 4 (.pc .bool)],[]⟩
def Ia:ZE qK qX wj:=fun id=>match id with | 2=>fun c y=>(c.1,(c.2.1,(c.2.2.1,(c.2.2.2.1,(c.2.2.2.2.1,y))))) | _=>jm
def Cf {α:Type} (l:RQ mM qX->α) (an:α->α->α) (c:ZD qK) (v:ZD mM):α:=bif (decide (((0:Int)<=v.1)/\(v.1 < ((c.1.n:Nat):Int)))) then bif (decide (((0:Int)<=v.2.1)/\(v.2.1 < (((c.1.g (Int.toNat v.1)).1.n:Nat):Int)))) then bif (decide ((0:Int)<=((c.1.g (Int.toNat v.1)).1.g (Int.toNat v.2.1)).1)) then bif (decide (((0:Int)<=v.1)/\(v.1 < ((c.1.n:Nat):Int)))) then bif (decide (((0:Int)<=v.2.1)/\(v.2.1 < (((c.1.g (Int.toNat v.1)).1.n:Nat):Int)))) then cl (Yk).dflt (Wl (c.2.2.2.2.1,(c.2.2.1,(c.2.2.2.1,((W (v.1 - (1:Int))),((c.1.g (Int.toNat v.1)).1.g (Int.toNat v.2.1))))))) (fun u0=>bif (!u0.1) then l (.out (.ret (false,()))) else l (.next ((W (v.1 - (1:Int))),((c.1.g (Int.toNat v.1)).1.g (Int.toNat v.2.1))))) (l .bad) else l .bad else l .bad else l (.out (.exit 2 ())) else l .bad else l .bad
theorem am7:ZO G71 0 47 MD [] PZ Ia ZI ZI Cf:=fun _ _=>by kernel_rfl
def qT (c:ZD qK) (v:ZD mM):RQ mM qX:=Cf (fun r=>r) (fun _ _=>.bad) c v
theorem am8:SO G71 0 47 MD [] PZ Ia ZI ZI qT:=fun c v=>by rw [am7]; unfold qT Cf; simp only [bu,aM,pM]
def Ib (c:ZD qK) (v:ZD mM):LQ qX:=aH (qT c) cz v
theorem asC:af (Wm)=[.loop MD]:=by kernel_rfl
abbrev AB:List aL:=[.slot 1 (.pc ec),.slot 2 (.ptr 2),.slot 5 (.pc tI),.box 2 [.pc eX,.pc tI,.pc tI,.pc tI,.pc tI]]
abbrev sj:List aL:=[.slot 6 (.pc tI)]
abbrev Uo:List aL:=AB ++ sj
def afE:ZJ AB sj Uo:=ZA _ _
def Xb:ZS AB sj Uo:=ZP _ _
abbrev VR:aO:=⟨[(0,[])],[.slot 4 (.pc .bool)],[]⟩
abbrev zg:aO:=⟨[(0,[])],[.slot 4 (.pc .bool)],[]⟩
def aao:ZE AB zg VR:=fun id=>match id with | 0=>fun c y=>y | _=>jm
def Wn {α:Type} (l:RQ sj zg->α) (an:α->α->α) (c:ZD AB) (v:ZD sj):α:=bif (decide (((0:Int)<=c.2.2.1)/\(c.2.2.1 < ((c.1.n:Nat):Int)))) then bif (decide (v.1 < (((c.1.g (Int.toNat c.2.2.1)).1.n:Nat):Int))) then aF (Ib (c.1,((),(c.2.2.1,(v.1,(c.2.2.2.1,()))))) (c.2.2.1,v)) 2 (fun u1=>l (.next ((W (v.1 + (1:Int))),()))) (bS (Ib (c.1,((),(c.2.2.1,(v.1,(c.2.2.2.1,()))))) (c.2.2.1,v)) (fun u2=>l (.out (.ret u2))) (l .bad)) else l (.out (.exit 0 ())) else l .bad
theorem azS:ZO G71 0 47 Wm [.known (bF 0 [] zP fun x=>aJ wj Ia ZI ZI [] true (uO x).1 (Ib (uO x).1 (uO x).2) wj.bw)] afE aao ZI ZI Wn:=fun _ _=>by kernel_rfl
def Wo (c:ZD AB) (v:ZD sj):RQ sj zg:=Wn (fun r=>r) (fun _ _=>.bad) c v
theorem azT:SO G71 0 47 Wm [.known (bF 0 [] zP fun x=>aJ wj Ia ZI ZI [] true (uO x).1 (Ib (uO x).1 (uO x).2) wj.bw)] afE aao ZI ZI Wo:=fun c v=>by rw [azS]; unfold Wo Wn; simp only [bu,aM,pM]
def RY (c:ZD AB) (v:ZD sj):LQ zg:=aH (Wo c) cz v
theorem aH8:af (c71)=[.loop Wm]:=by kernel_rfl
noncomputable def l71:List Loop:=[lk 0 aao ZI ZI true Xb RY]
def Q71 {α:Type} (l:Option (r71).den->α) (an:α->α->α) (x:(a71).den):α:=aF (RY (x.2.1,((),((W (((x.2.1.n:Nat):Int) - (1:Int))),(x.1,())))) ((0:Int),())) 0 (fun u3=>l (some (true,()))) (bS (RY (x.2.1,((),((W (((x.2.1.n:Nat):Int) - (1:Int))),(x.1,())))) ((0:Int),())) (fun u4=>l (some u4)) (l none))
theorem q71:QO G71 Try.f71 l71 a71 r71 Q71:=fun _=>by kernel_rfl
def M71 (x:(a71).den):Option (r71).den:=Q71 (fun r=>r) (fun _ _=>none) x
theorem m71:MO G71 Try.f71 l71 M71:=fun x=>by rw [q71]; unfold M71 Q71; simp only [Tree.sure,iO]
def p71:=pO M71
def v71:=vO (τ:=r71) M71
def k71:ee:=⟨a71,r71,p71,v71⟩
theorem h71:Holds Try.prog 71 k71:=hO aGd g71 m71 fun G' hlo hF hE=>ai (by rw [aH8]; exact .cons (lv hE hF hlo (ai (by rw [asC]; exact .cons (lv hE hF hlo (ln ag0) uO am8) (.nil))) Xb azT) (.nil))
noncomputable def c22:=zo Try.f22
theorem azU:zq 22 Try.f22 c22:=zu
abbrev Ic:Ty:=(.sl OG)
abbrev aps:Ty:=(.cons Ic .nil)
abbrev a22:Ty:=Jd
abbrev r22:Ty:=aps
noncomputable def G22:Ctx:=Ctx.of [(56,.pure k56),(61,.pure k61),(70,.pure k70),(71,.pure k71)]
theorem g22:SP G22:=aD (fa ⟨⟨auk.c,h56⟩,fa ⟨⟨aul.c,h61⟩,fa ⟨⟨aGc.c,h70⟩,fa ⟨⟨aGd.c,h71⟩,f0⟩⟩⟩⟩)
noncomputable def Wp:Code:=aG ((af (c22))[0]?)
noncomputable def Ie:Code:=aG ((af (Wp))[0]?)
noncomputable def Cg:Code:=aG ((af (Ie))[0]?)
theorem aap:af (Cg)=[]:=by kernel_rfl
abbrev lC:List aL:=[.slot 1 (.ptr 1),.slot 4 (.pc Ic),.slot 5 (.pc tI),.slot 6 (.pc ec),.slot 8 (.pc tI),.box 1 [.pc eX,.pc tI,.pc tI,.pc tI,.pc tI]]
abbrev gP:List aL:=[.slot 7 (.own 1000007 58 OG),.slot 9 (.pc tI)]
abbrev tg:List aL:=lC ++ gP
def GX:ZJ lC gP tg:=ZA _ _
def oJ:ZS lC gP tg:=ZP _ _
abbrev pT:aO:=⟨[(4,[.slot 1 (.ptr 1),.slot 4 (.pc Ic),.slot 5 (.pc tI),.slot 6 (.pc ec),.slot 8 (.pc tI),.box 1 [.pc eX,.pc tI,.pc tI,.pc tI,.pc tI],.slot 7 (.own 1000007 58 OG)])],[],[]⟩
abbrev uP:aO:=⟨[(4,[.slot 7 (.own 1000007 58 OG)])],[],[]⟩
def zh:ZE lC uP pT:=fun id=>match id with | 4=>fun c y=>(c.1,(c.2.1,(c.2.2.1,(c.2.2.2.1,(c.2.2.2.2.1,(c.2.2.2.2.2.1,y)))))) | _=>jm
def xD {α:Type} (l:RQ gP uP->α) (an:α->α->α) (c:ZD lC) (v:ZD gP):α:=bif (decide (v.2.1 < ((c.2.2.2.1.n:Nat):Int))) then bif (decide (((0:Int)<=c.2.2.2.2.1)/\(c.2.2.2.2.1 < ((c.2.1.n:Nat):Int)))) then bif (decide (((c.2.1.g (Int.toNat c.2.2.2.2.1)).1.n * 24)<=140737488355328)) then bif (decide (((0:Int)<=v.2.1)/\(v.2.1 < ((c.2.2.2.1.n:Nat):Int)))) then bif (decide ((((c.2.1.g (Int.toNat c.2.2.2.2.1)).1.n + 1) * 24)<=140737488355328)) then cl (r56).dflt (M56 ((cK (c.2.1.g (Int.toNat c.2.2.2.2.1)).1 (⟨1,fun i=>List.getD [(c.2.2.2.1.g (Int.toNat v.2.1))] i (c.2.2.2.1.g (Int.toNat v.2.1))⟩:Sl (Ty.den nK))),())) (fun u0=>bif (decide (u0.1<=c.2.2.2.2.2.1.2.2.2.1)) then cl (r61).dflt (M61 ((cK (c.2.1.g (Int.toNat c.2.2.2.2.1)).1 (⟨1,fun i=>List.getD [(c.2.2.2.1.g (Int.toNat v.2.1))] i (c.2.2.2.1.g (Int.toNat v.2.1))⟩:Sl (Ty.den nK))),())) (fun u1=>bif (decide (u1.1<=c.2.2.2.2.2.1.2.2.2.2.1)) then cl (r71).dflt (M71 (c.2.2.2.2.2.1,((cK (c.2.1.g (Int.toNat c.2.2.2.2.1)).1 (⟨1,fun i=>List.getD [(c.2.2.2.1.g (Int.toNat v.2.1))] i (c.2.2.2.1.g (Int.toNat v.2.1))⟩:Sl (Ty.den nK))),()))) (fun u2=>bif u2.1 then bif (decide (((v.1.n + 1) * 24)<=140737488355328)) then l (.next ((cK v.1 (⟨1,fun i=>List.getD [((cK (c.2.1.g (Int.toNat c.2.2.2.2.1)).1 (⟨1,fun i=>List.getD [(c.2.2.2.1.g (Int.toNat v.2.1))] i (c.2.2.2.1.g (Int.toNat v.2.1))⟩:Sl (Ty.den nK))),())] i ((cK (c.2.1.g (Int.toNat c.2.2.2.2.1)).1 (⟨1,fun i=>List.getD [(c.2.2.2.1.g (Int.toNat v.2.1))] i (c.2.2.2.1.g (Int.toNat v.2.1))⟩:Sl (Ty.den nK))),())⟩:Sl (Ty.den OG))),((W (v.2.1 + (1:Int))),()))) else l .bad else l (.next (v.1,((W (v.2.1 + (1:Int))),())))) (l .bad) else l (.next (v.1,((W (v.2.1 + (1:Int))),())))) (l .bad) else l (.next (v.1,((W (v.2.1 + (1:Int))),())))) (l .bad) else l .bad else l .bad else l .bad else l .bad else l (.out (.exit 4 (v.1,())))
theorem acw:ZO G22 0 89 Cg [] GX zh ZI ZI xD:=fun _ _=>by kernel_rfl
def qL (c:ZD lC) (v:ZD gP):RQ gP uP:=xD (fun r=>r) (fun _ _=>.bad) c v
theorem acy:SO G22 0 89 Cg [] GX zh ZI ZI qL:=fun c v=>by rw [acw]; unfold qL xD; simp only [bu,aM,pM]
def xE (c:ZD lC) (v:ZD gP):LQ uP:=aH (qL c) cz v
theorem ag1:af (Ie)=[.loop Cg]:=by kernel_rfl
abbrev qM:List aL:=[.slot 1 (.ptr 1),.slot 4 (.pc Ic),.slot 5 (.pc tI),.slot 6 (.pc ec),.box 1 [.pc eX,.pc tI,.pc tI,.pc tI,.pc tI]]
abbrev lG:List aL:=[.slot 7 (.own 1000007 58 OG),.slot 8 (.pc tI)]
abbrev zQ:List aL:=qM ++ lG
def Qa:ZJ qM lG zQ:=ZA _ _
def uQ:ZS qM lG zQ:=ZP _ _
abbrev wm:aO:=⟨[(2,[.slot 1 (.ptr 1),.slot 5 (.pc tI),.box 1 [.pc eX,.pc tI,.pc tI,.pc tI,.pc tI],.slot 7 (.pc (.sl OG))])],[],[]⟩
abbrev BM:aO:=⟨[(2,[.slot 7 (.pc (.sl OG))])],[],[]⟩
def Ig:ZE qM BM wm:=fun id=>match id with | 2=>fun c y=>(c.1,(c.2.2.1,(c.2.2.2.2.1,y))) | _=>jm
def Ih {α:Type} (l:RQ lG BM->α) (an:α->α->α) (c:ZD qM) (v:ZD lG):α:=bif (decide (v.2.1 < ((c.2.1.n:Nat):Int))) then aF (xE ((),(c.2.1,(c.2.2.1,(c.2.2.2.1,(v.2.1,(c.2.2.2.2.1,())))))) (v.1,((0:Int),()))) 4 (fun u3=>l (.next (u3.1,((W (v.2.1 + (1:Int))),())))) (l .bad) else l (.out (.exit 2 (v.1,())))
theorem ana:ZO G22 0 89 Ie [.known (bF 0 [] tg fun x=>aJ pT zh ZI ZI [] false (oJ x).1 (xE (oJ x).1 (oJ x).2) pT.bw)] Qa Ig ZI ZI Ih:=fun _ _=>by kernel_rfl
def Ch (c:ZD qM) (v:ZD lG):RQ lG BM:=Ih (fun r=>r) (fun _ _=>.bad) c v
theorem anb:SO G22 0 89 Ie [.known (bF 0 [] tg fun x=>aJ pT zh ZI ZI [] false (oJ x).1 (xE (oJ x).1 (oJ x).2) pT.bw)] Qa Ig ZI ZI Ch:=fun c v=>by rw [ana]; unfold Ch Ih; simp only [bu,aM,pM]
def Ii (c:ZD qM) (v:ZD lG):LQ BM:=aH (Ch c) cz v
theorem asE:af (Wp)=[.loop Ie]:=by kernel_rfl
abbrev AD:List aL:=[.slot 1 (.ptr 1),.box 1 [.pc eX,.pc tI,.pc tI,.pc tI,.pc tI]]
abbrev tV:List aL:=[.slot 4 (.pc (.sl OG)),.slot 5 (.pc tI)]
abbrev Up:List aL:=AD ++ tV
def afF:ZJ AD tV Up:=ZA _ _
def Xc:ZS AD tV Up:=ZP _ _
abbrev VS:aO:=⟨[(0,[.slot 4 (.pc Ic)])],[],[]⟩
abbrev NW:aO:=⟨[(0,[.slot 4 (.pc Ic)])],[],[]⟩
def aaq:ZE AD NW VS:=fun id=>match id with | 0=>fun c y=>y | _=>jm
def Wq {α:Type} (l:RQ tV NW->α) (an:α->α->α) (c:ZD AD) (v:ZD tV):α:=bif (decide (v.2.1 < ((c.2.1.1.n:Nat):Int))) then bif (decide (((0:Int)<=v.2.1)/\(v.2.1 < ((c.2.1.1.n:Nat):Int)))) then bif (decide (((0:Int)<=(W (v.2.1 - (1:Int))))/\((W (v.2.1 - (1:Int))) < ((c.2.1.1.n:Nat):Int)))) then cl (r70).dflt (M70 ((((c.2.1.1.g (Int.toNat v.2.1)).2.1.n:Nat):Int),((((c.2.1.1.g (Int.toNat (W (v.2.1 - (1:Int))))).2.1.n:Nat):Int),()))) (fun u4=>aF (Ii ((),(v.1,(v.2.1,(u4.1,(c.2.1,()))))) ((⟨0,fun i=>((⟨0,fun i=>((⟨0,fun i=>((0:Int),())⟩:Sl _),())⟩:Sl _),())⟩:Sl _),((0:Int),()))) 2 (fun u5=>l (.next (u5.1,((W (v.2.1 + (1:Int))),())))) (l .bad)) (l .bad) else l .bad else l .bad else l (.out (.exit 0 (v.1,())))
theorem azV:ZO G22 0 89 Wp [.known (bF 0 [] zQ fun x=>aJ wm Ig ZI ZI [] false (uQ x).1 (Ii (uQ x).1 (uQ x).2) wm.bw)] afF aaq ZI ZI Wq:=fun _ _=>by kernel_rfl
def RZ (c:ZD AD) (v:ZD tV):RQ tV NW:=Wq (fun r=>r) (fun _ _=>.bad) c v
theorem azW:SO G22 0 89 Wp [.known (bF 0 [] zQ fun x=>aJ wm Ig ZI ZI [] false (uQ x).1 (Ii (uQ x).1 (uQ x).2) wm.bw)] afF aaq ZI ZI RZ:=fun c v=>by rw [azV]; unfold RZ Wq; simp only [bu,aM,pM]
def abN (c:ZD AD) (v:ZD tV):LQ NW:=aH (RZ c) cz v
theorem aIc:af (c22)=[.loop Wp]:=by kernel_rfl
noncomputable def l22:List Loop:=[lk 0 aaq ZI ZI false Xc abN]
def Q22 {α:Type} (l:Option (r22).den->α) (an:α->α->α) (x:(a22).den):α:=bif (decide (((0:Int)<=(0:Int))/\((0:Int) < ((x.1.1.n:Nat):Int)))) then cl (r70).dflt (M70 ((((x.1.1.g 0).2.1.n:Nat):Int),((0:Int),()))) (fun u6=>aF (abN ((),(x.1,())) ((⟨1,fun i=>List.getD [u6] i u6⟩:Sl _),((1:Int),()))) 0 (fun u7=>l (some u7)) (l none)) (l none) else l none
theorem q22:QO G22 Try.f22 l22 a22 r22 Q22:=fun _=>by kernel_rfl
def M22 (x:(a22).den):Option (r22).den:=Q22 (fun r=>r) (fun _ _=>none) x
theorem m22:MO G22 Try.f22 l22 M22:=fun x=>by rw [q22]; unfold M22 Q22; simp only [Tree.sure,iO]
def p22:=pO M22
def v22:=vO (τ:=r22) M22
def k22:ee:=⟨a22,r22,p22,v22⟩
theorem h22:Holds Try.prog 22 k22:=hO azU g22 m22 fun G' hlo hF hE=>ai (by rw [aIc]; exact .cons (lv hE hF hlo (ai (by rw [asE]; exact .cons (lv hE hF hlo (ai (by rw [ag1]; exact .cons (lv hE hF hlo (ln aap) oJ acy) (.nil))) uQ anb) (.nil))) Xc azW) (.nil))
abbrev aGf:Ty:=(.cons PV aps)
abbrev ayo:Ty:=(.cons Ic T0)
abbrev aId:Ty:=(.cons PV ayo)
noncomputable def c90:=zo Try.f90
theorem aOs:zq 90 Try.f90 c90:=zu
abbrev a90:Ty:=T76
abbrev r90:Ty:=Jd
noncomputable def G90:Ctx:=Ctx.of []
theorem g90:SP G90:=aD f0
def Q90 {α:Type} (l:Option (r90).den->α) (an:α->α->α) (x:(a90).den):α:=bif (decide (((0:Int)<=(0:Int))/\(((0:Int)<=x.2.1)/\(x.2.1<=((x.1.1.n:Nat):Int))))) then l (some (((⟨(Int.toNat (x.2.1 - (0:Int))),fun i=>(x.1.1.g (i + 0))⟩:Sl _),x.1.2),())) else l none
theorem q90:QO G90 Try.f90 [] a90 r90 Q90:=fun _=>by kernel_rfl
def M90 (x:(a90).den):Option (r90).den:=Q90 (fun r=>r) (fun _ _=>none) x
theorem m90:MO G90 Try.f90 [] M90:=fun x=>by rw [q90]; unfold M90 Q90; simp only [Tree.sure,iO]
def p90:=pO M90
def v90:=vO (τ:=r90) M90
def k90:ee:=⟨a90,r90,p90,v90⟩
theorem h90:Holds Try.prog 90 k90:=hO aOs g90 m90 l0
noncomputable def c47:=zo Try.f47
theorem aIe:zq 47 Try.f47 c47:=zu
abbrev a47:Ty:=Jd
abbrev r47:Ty:=T0
noncomputable def G47:Ctx:=Ctx.of [(22,.pure k22),(90,.pure k90)]
theorem g47:SP G47:=aD (fa ⟨⟨azU.c,h22⟩,fa ⟨⟨aOs.c,h90⟩,f0⟩⟩)
noncomputable def ane:Code:=aG ((af (c47))[0]?)
theorem aDe:af (ane)=[]:=by kernel_rfl
abbrev NX:List aL:=[.slot 1 (.ptr 1),.box 1 [.pc eX,.pc tI,.pc tI,.pc tI,.pc tI]]
abbrev CR:List aL:=[.slot 3 (.pc tI)]
abbrev ag2:List aL:=NX ++ CR
def asF:ZJ NX CR ag2:=ZA _ _
def aj9:ZS NX CR ag2:=ZP _ _
abbrev aka:aO:=⟨[(0,[])],[.slot 2 (.pc tI)],[]⟩
abbrev LH:aO:=⟨[(0,[])],[.slot 2 (.pc tI)],[]⟩
def akb:ZE NX LH aka:=fun id=>match id with | 0=>fun c y=>y | _=>jm
def ag3 {α:Type} (l:RQ CR LH->α) (an:α->α->α) (c:ZD NX) (v:ZD CR):α:=bif (decide (v.1 < ((c.2.1.1.n:Nat):Int))) then cl (r90).dflt (M90 (c.2.1,((W (v.1 + (1:Int))),()))) (fun u0=>cl (r22).dflt (M22 (u0.1,())) (fun u1=>bif (decide (((u1.1.n:Nat):Int)=(0:Int))) then l (.out (.ret v)) else l (.next ((W (v.1 + (1:Int))),()))) (l .bad)) (l .bad) else l (.out (.exit 0 ()))
theorem aIg:ZO G47 0 19 ane [] asF akb ZI ZI ag3:=fun _ _=>by kernel_rfl
def ag4 (c:ZD NX) (v:ZD CR):RQ CR LH:=ag3 (fun r=>r) (fun _ _=>.bad) c v
theorem aIh:SO G47 0 19 ane [] asF akb ZI ZI ag4:=fun c v=>by rw [aIg]; unfold ag4 ag3; simp only [bu,aM,pM]
def ag5 (c:ZD NX) (v:ZD CR):LQ LH:=aH (ag4 c) cz v
theorem aRX:af (c47)=[.loop ane]:=by kernel_rfl
noncomputable def l47:List Loop:=[lk 0 akb ZI ZI true aj9 ag5]
def Q47 {α:Type} (l:Option (r47).den->α) (an:α->α->α) (x:(a47).den):α:=aF (ag5 ((),(x.1,())) ((0:Int),())) 0 (fun u2=>l (some ((-1:Int),()))) (bS (ag5 ((),(x.1,())) ((0:Int),())) (fun u3=>l (some u3)) (l none))
theorem q47:QO G47 Try.f47 l47 a47 r47 Q47:=fun _=>by kernel_rfl
def M47 (x:(a47).den):Option (r47).den:=Q47 (fun r=>r) (fun _ _=>none) x
theorem m47:MO G47 Try.f47 l47 M47:=fun x=>by rw [q47]; unfold M47 Q47; simp only [Tree.sure,iO]
def p47:=pO M47
def v47:=vO (τ:=r47) M47
def k47:ee:=⟨a47,r47,p47,v47⟩
theorem h47:Holds Try.prog 47 k47:=hO aIe g47 m47 fun G' hlo hF hE=>ai (by rw [aRX]; exact .cons (lv hE hF hlo (ln aDe) aj9 aIh) (.nil))
noncomputable def c30:=zo Try.f30
theorem aVw:zq 30 Try.f30 c30:=zu
abbrev a30:Ty:=T71
abbrev r30:Ty:=T0
noncomputable def G30:Ctx:=Ctx.of [(21,.pure k21),(47,.pure k47)]
theorem g30:SP G30:=aD (fa ⟨⟨aeR.c,h21⟩,fa ⟨⟨aIe.c,h47⟩,f0⟩⟩)
def Q30 {α:Type} (l:Option (r30).den->α) (an:α->α->α) (x:(a30).den):α:=cl (Rf).dflt (Sj (x.1,())) (fun u0=>bif (!u0.1) then l (some ((2:Int),())) else bif (!x.2.1) then l (some ((2:Int),())) else cl (r47).dflt (M47 (x.1,())) (fun u1=>bif (decide ((0:Int)<=u1.1)) then l (some ((7:Int),())) else l (some ((0:Int),()))) (l none)) (l none)
theorem q30:QO G30 Try.f30 [] a30 r30 Q30:=fun _=>by kernel_rfl
def M30 (x:(a30).den):Option (r30).den:=Q30 (fun r=>r) (fun _ _=>none) x
theorem m30:MO G30 Try.f30 [] M30:=fun x=>by rw [q30]; unfold M30 Q30; simp only [Tree.sure,iO]
def p30:=pO M30
def v30:=vO (τ:=r30) M30
def k30:ee:=⟨a30,r30,p30,v30⟩
theorem h30:Holds Try.prog 30 k30:=hO aVw g30 m30 l0
noncomputable def c31:=zo Try.f31
theorem aO9:zq 31 Try.f31 c31:=zu
abbrev aGg:Ty:=(.cons ec T1)
abbrev a31:Ty:=aGg
abbrev r31:Ty:=T3
noncomputable def G31:Ctx:=Ctx.of []
theorem g31:SP G31:=aD f0
noncomputable def aFk:Code:=aG ((af (c31))[0]?)
theorem aS7:af (aFk)=[]:=by kernel_rfl
abbrev ak2:List aL:=[.slot 0 (.pc ec),.slot 1 (.pc tI),.slot 2 (.pc tI)]
abbrev aaY:List aL:=[.slot 7 (.pc tI)]
abbrev aJu:List aL:=ak2 ++ aaY
def aP5:ZJ ak2 aaY aJu:=ZA _ _
def aJv:ZS ak2 aaY aJu:=ZP _ _
abbrev aS8:aO:=⟨[(0,[.slot 0 (.pc ec),.slot 1 (.pc tI)])],[.slot 6 (.pc .bool)],[]⟩
abbrev atu:aO:=⟨[(0,[])],[.slot 6 (.pc .bool)],[]⟩
def aDX:ZE ak2 atu aS8:=fun id=>match id with | 0=>fun c y=>(c.1,(c.2.1,y)) | _=>jm
def aAp {α:Type} (l:RQ aaY atu->α) (an:α->α->α) (c:ZD ak2) (v:ZD aaY):α:=bif (decide (v.1 < ((c.1.n:Nat):Int))) then bif (decide (((0:Int)<=v.1)/\(v.1 < ((c.1.n:Nat):Int)))) then bif (!(decide ((((c.1.g (Int.toNat v.1)).1.n:Nat):Int)=c.2.2.1))) then l (.out (.ret (false,()))) else l (.next ((W (v.1 + (1:Int))),())) else l .bad else l (.out (.exit 0 ()))
theorem aVy:ZO G31 0 25 aFk [] aP5 aDX ZI ZI aAp:=fun _ _=>by kernel_rfl
def aAq (c:ZD ak2) (v:ZD aaY):RQ aaY atu:=aAp (fun r=>r) (fun _ _=>.bad) c v
theorem aVz:SO G31 0 25 aFk [] aP5 aDX ZI ZI aAq:=fun c v=>by rw [aVy]; unfold aAq aAp; simp only [bu,aM,pM]
def aAr (c:ZD ak2) (v:ZD aaY):LQ atu:=aH (aAq c) cz v
theorem aZp:af (c31)=[.loop aFk]:=by kernel_rfl
noncomputable def l31:List Loop:=[lk 0 aDX ZI ZI true aJv aAr]
def Q31 {α:Type} (l:Option (r31).den->α) (an:α->α->α) (x:(a31).den):α:=aF (aAr x ((0:Int),())) 0 (fun u0=>l (some ((decide (((x.1.n:Nat):Int)=x.2.1)),()))) (bS (aAr x ((0:Int),())) (fun u1=>l (some u1)) (l none))
theorem q31:QO G31 Try.f31 l31 a31 r31 Q31:=fun _=>by kernel_rfl
def M31 (x:(a31).den):Option (r31).den:=Q31 (fun r=>r) (fun _ _=>none) x
theorem m31:MO G31 Try.f31 l31 M31:=fun x=>by rw [q31]; unfold M31 Q31; simp only [Tree.sure,iO]
def p31:=pO M31
def v31:=vO (τ:=r31) M31
def k31:ee:=⟨a31,r31,p31,v31⟩
theorem h31:Holds Try.prog 31 k31:=hO aO9 g31 m31 fun G' hlo hF hE=>ai (by rw [aZp]; exact .cons (lv hE hF hlo (ln aS7) aJv aVz) (.nil))
noncomputable def c32:=zo Try.f32
theorem aVA:zq 32 Try.f32 c32:=zu
abbrev a32:Ty:=nK
abbrev r32:Ty:=T0
noncomputable def G32:Ctx:=Ctx.of []
theorem g32:SP G32:=aD f0
noncomputable def aFl:Code:=aG ((af (c32))[0]?)
theorem aS9:af (aFl)=[]:=by kernel_rfl
abbrev ak3:List aL:=[.slot 0 (.pc (.sl T0))]
abbrev RF:List aL:=[.slot 3 (.pc tI),.slot 4 (.pc tI)]
abbrev aJw:List aL:=ak3 ++ RF
def aP6:ZJ ak3 RF aJw:=ZA _ _
def aJx:ZS ak3 RF aJw:=ZP _ _
abbrev aTa:aO:=⟨[(0,[.slot 3 (.pc tI)])],[],[]⟩
abbrev ak4:aO:=⟨[(0,[.slot 3 (.pc tI)])],[],[]⟩
def aDY:ZE ak3 ak4 aTa:=fun id=>match id with | 0=>fun c y=>y | _=>jm
def aAs {α:Type} (l:RQ RF ak4->α) (an:α->α->α) (c:ZD ak3) (v:ZD RF):α:=bif (decide (v.2.1 < ((c.1.n:Nat):Int))) then bif (decide (((0:Int)<=v.2.1)/\(v.2.1 < ((c.1.n:Nat):Int)))) then bif (decide ((c.1.g (Int.toNat v.2.1)).1=(3:Int))) then l (.next ((W (v.1 + (1:Int))),((W (v.2.1 + (1:Int))),()))) else l (.next (v.1,((W (v.2.1 + (1:Int))),()))) else l .bad else l (.out (.exit 0 (v.1,())))
theorem aVC:ZO G32 0 19 aFl [] aP6 aDY ZI ZI aAs:=fun _ _=>by kernel_rfl
def aAt (c:ZD ak3) (v:ZD RF):RQ RF ak4:=aAs (fun r=>r) (fun _ _=>.bad) c v
theorem aVD:SO G32 0 19 aFl [] aP6 aDY ZI ZI aAt:=fun c v=>by rw [aVC]; unfold aAt aAs; simp only [bu,aM,pM]
def aFm (c:ZD ak3) (v:ZD RF):LQ ak4:=aH (aAt c) cz v
theorem aZs:af (c32)=[.loop aFl]:=by kernel_rfl
noncomputable def l32:List Loop:=[lk 0 aDY ZI ZI false aJx aFm]
def Q32 {α:Type} (l:Option (r32).den->α) (an:α->α->α) (x:(a32).den):α:=aF (aFm x ((0:Int),((0:Int),()))) 0 (fun u0=>l (some u0)) (l none)
theorem q32:QO G32 Try.f32 l32 a32 r32 Q32:=fun _=>by kernel_rfl
def M32 (x:(a32).den):Option (r32).den:=Q32 (fun r=>r) (fun _ _=>none) x
theorem m32:MO G32 Try.f32 l32 M32:=fun x=>by rw [q32]; unfold M32 Q32; simp only [Tree.sure,iO]
def p32:=pO M32
def v32:=vO (τ:=r32) M32
def k32:ee:=⟨a32,r32,p32,v32⟩
theorem h32:Holds Try.prog 32 k32:=hO aVA g32 m32 fun G' hlo hF hE=>ai (by rw [aZs]; exact .cons (lv hE hF hlo (ln aS9) aJx aVD) (.nil))
noncomputable def c33:=zo Try.f33
theorem aVE:zq 33 Try.f33 c33:=zu
abbrev a33:Ty:=nK
abbrev r33:Ty:=T0
noncomputable def G33:Ctx:=Ctx.of []
theorem g33:SP G33:=aD f0
noncomputable def aFn:Code:=aG ((af (c33))[0]?)
theorem aTb:af (aFn)=[]:=by kernel_rfl
abbrev ak5:List aL:=[.slot 0 (.pc (.sl T0))]
abbrev RG:List aL:=[.slot 3 (.pc tI),.slot 4 (.pc tI)]
abbrev aJy:List aL:=ak5 ++ RG
def aP7:ZJ ak5 RG aJy:=ZA _ _
def aJz:ZS ak5 RG aJy:=ZP _ _
abbrev aTc:aO:=⟨[(0,[.slot 3 (.pc tI)])],[],[]⟩
abbrev ak6:aO:=⟨[(0,[.slot 3 (.pc tI)])],[],[]⟩
def aD0:ZE ak5 ak6 aTc:=fun id=>match id with | 0=>fun c y=>y | _=>jm
def aAu {α:Type} (l:RQ RG ak6->α) (an:α->α->α) (c:ZD ak5) (v:ZD RG):α:=bif (decide (v.2.1 < ((c.1.n:Nat):Int))) then bif (decide (((0:Int)<=v.2.1)/\(v.2.1 < ((c.1.n:Nat):Int)))) then bif (!(decide ((c.1.g (Int.toNat v.2.1)).1=(1:Int)))) then l (.next ((W (v.1 + (1:Int))),((W (v.2.1 + (1:Int))),()))) else l (.next (v.1,((W (v.2.1 + (1:Int))),()))) else l .bad else l (.out (.exit 0 (v.1,())))
theorem aVG:ZO G33 0 19 aFn [] aP7 aD0 ZI ZI aAu:=fun _ _=>by kernel_rfl
def aAv (c:ZD ak5) (v:ZD RG):RQ RG ak6:=aAu (fun r=>r) (fun _ _=>.bad) c v
theorem aVH:SO G33 0 19 aFn [] aP7 aD0 ZI ZI aAv:=fun c v=>by rw [aVG]; unfold aAv aAu; simp only [bu,aM,pM]
def aFo (c:ZD ak5) (v:ZD RG):LQ ak6:=aH (aAv c) cz v
theorem aZv:af (c33)=[.loop aFn]:=by kernel_rfl
noncomputable def l33:List Loop:=[lk 0 aD0 ZI ZI false aJz aFo]
def Q33 {α:Type} (l:Option (r33).den->α) (an:α->α->α) (x:(a33).den):α:=aF (aFo x ((0:Int),((0:Int),()))) 0 (fun u0=>l (some u0)) (l none)
theorem q33:QO G33 Try.f33 l33 a33 r33 Q33:=fun _=>by kernel_rfl
def M33 (x:(a33).den):Option (r33).den:=Q33 (fun r=>r) (fun _ _=>none) x
theorem m33:MO G33 Try.f33 l33 M33:=fun x=>by rw [q33]; unfold M33 Q33; simp only [Tree.sure,iO]
def p33:=pO M33
def v33:=vO (τ:=r33) M33
def k33:ee:=⟨a33,r33,p33,v33⟩
theorem h33:Holds Try.prog 33 k33:=hO aVE g33 m33 fun G' hlo hF hE=>ai (by rw [aZv]; exact .cons (lv hE hF hlo (ln aTb) aJz aVH) (.nil))
abbrev aIi:Ty:=(.cons T12 T1)
abbrev ayp:Ty:=(.cons ec T79)
abbrev ag6:Ty:=(.cons ec ayp)
abbrev anf:Ty:=(.agg ag6)
abbrev asG:Ty:=(.cons anf .nil)
abbrev aoF:Ty:=(.cons PV asG)
abbrev ayq:Ty:=(.agg T15)
abbrev ayr:Ty:=(.cons ayq .nil)
abbrev asH:Ty:=(.cons (.sl T0) ayr)
abbrev asI:Ty:=(.fn asH T3)
abbrev ays:Ty:=(.cons asI .nil)
abbrev ayt:Ty:=(.cons eX ays)
abbrev aGi:Ty:=(.cons ec ayt)
abbrev aGj:Ty:=(.cons .bool T0)
abbrev aIn:Ty:=(.cons tI T20)
noncomputable def c17:=zo Try.f17
theorem acz:zq 17 Try.f17 c17:=zu
abbrev a17:Ty:=.nil
abbrev nQ:Ty:=T3
noncomputable def G17:Ctx:=Ctx.of [(18,.pure k18),(19,.pure k19),(20,.pure k20),(23,.pure k23),(28,.pure k28),(36,.pure k36),(39,.pure k39),(40,.pure k40),(41,.pure k41),(43,.pure k43),(44,.pure k44),(48,.pure k48),(62,.pure k62)]
theorem g17:SP G17:=aD (fa ⟨⟨alY.c,h18⟩,fa ⟨⟨al3.c,h19⟩,fa ⟨⟨aoA.c,h20⟩,fa ⟨⟨apm.c,h23⟩,fa ⟨⟨ajW.c,h28⟩,fa ⟨⟨apo.c,h36⟩,fa ⟨⟨apr.c,h39⟩,fa ⟨⟨apq.c,h40⟩,fa ⟨⟨aue.c,h41⟩,fa ⟨⟨ar6.c,h43⟩,fa ⟨⟨aiD.c,h44⟩,fa ⟨⟨agY.c,h48⟩,fa ⟨⟨aui.c,h62⟩,f0⟩⟩⟩⟩⟩⟩⟩⟩⟩⟩⟩⟩⟩)
theorem ayv:af (c17)=[]:=by kernel_rfl
noncomputable def l17:List Loop:=[]
def Q17 {α:Type} (l:Option (nQ).den->α) (an:α->α->α) (x:(a17).den):α:=cl (vN).dflt (OM ()) (fun u0=>cl (MF).dflt (XV (u0.1,((1:Int),()))) (fun u1=>cl (vN).dflt (OM ()) (fun u2=>cl (OK).dflt (M19 (u0.1,())) (fun u3=>cl (vN).dflt (OM ()) (fun u4=>cl (Pz).dflt (M20 (u0.1,())) (fun u5=>cl (vN).dflt (OM ()) (fun u6=>cl (Re).dflt (M39 (u0.1,((0:Int),((0:Int),())))) (fun u7=>cl (vN).dflt (OM ()) (fun u8=>cl (PE).dflt (M36 (u0.1,((1:Int),((0:Int),())))) (fun u9=>cl (vN).dflt (OM ()) (fun vD=>cl (Rc).dflt (M43 (u0.1,((0:Int),((3:Int),())))) (fun lM=>cl (vN).dflt (OM ()) (fun MA=>cl (Rb).dflt (M40 (u0.1,())) (fun Df=>cl (vN).dflt (OM ()) (fun PX=>cl (OB).dflt (VO (u0.1,())) (fun PB=>bif (!(decide (u1.2.1=(0:Int)))) then l (some (false,())) else bif (!(decide (u3.2.1=(0:Int)))) then l (some (false,())) else bif (!(decide (u5.2.1=(0:Int)))) then l (some (false,())) else bif (!(decide (u7.2.1=(0:Int)))) then l (some (false,())) else bif (!(decide (u9.2.1=(0:Int)))) then l (some (false,())) else bif (!(decide (lM.2.1=(0:Int)))) then l (some (false,())) else bif (!(decide (Df.2.2.1=(0:Int)))) then l (some (false,())) else bif (!(decide (PB.2.1=(0:Int)))) then l (some (false,())) else cl (IN).dflt (VN (u1.1,((⟨2,fun i=>List.getD [((⟨2,fun i=>List.getD [((3:Int),()),((1:Int),())] i ((3:Int),())⟩:Sl _),()),((⟨2,fun i=>List.getD [((1:Int),()),((3:Int),())] i ((1:Int),())⟩:Sl _),())] i ((⟨2,fun i=>List.getD [((3:Int),()),((1:Int),())] i ((3:Int),())⟩:Sl _),())⟩:Sl _),()))) (fun u16=>bif (!u16.1) then l (some (false,())) else cl (IN).dflt (VN (u3.1,((⟨2,fun i=>List.getD [((⟨2,fun i=>List.getD [((1:Int),()),((1:Int),())] i ((1:Int),())⟩:Sl _),()),((⟨1,fun i=>List.getD [((1:Int),())] i ((1:Int),())⟩:Sl _),())] i ((⟨2,fun i=>List.getD [((1:Int),()),((1:Int),())] i ((1:Int),())⟩:Sl _),())⟩:Sl _),()))) (fun Wf=>bif (!Wf.1) then l (some (false,())) else cl (IN).dflt (VN (u5.1,((⟨2,fun i=>List.getD [((⟨2,fun i=>List.getD [((1:Int),()),((1:Int),())] i ((1:Int),())⟩:Sl _),()),((⟨2,fun i=>List.getD [((2:Int),()),((2:Int),())] i ((2:Int),())⟩:Sl _),())] i ((⟨2,fun i=>List.getD [((1:Int),()),((1:Int),())] i ((1:Int),())⟩:Sl _),())⟩:Sl _),()))) (fun VP=>bif (!VP.1) then l (some (false,())) else cl (MI).dflt (M41 (u7.1,((⟨2,fun i=>List.getD [((⟨2,fun i=>List.getD [((0:Int),()),((0:Int),())] i ((0:Int),())⟩:Sl _),()),((⟨3,fun i=>List.getD [((0:Int),()),((0:Int),()),((0:Int),())] i ((0:Int),())⟩:Sl _),())] i ((⟨2,fun i=>List.getD [((0:Int),()),((0:Int),())] i ((0:Int),())⟩:Sl _),())⟩:Sl _),()))) (fun UO=>bif (!UO.1) then l (some (false,())) else cl (oM).dflt (vA ((20:Int),((21:Int),()))) (fun u20=>cl (oM).dflt (vA ((50:Int),((52:Int),()))) (fun u21=>cl (oM).dflt (vA ((74100:Int),((74300:Int),()))) (fun u22=>cl (Es).dflt (PU (u20.1,(u21.1,(u22.1,())))) (fun Dh=>bif ((decide (u9.1.1=Dh.1.1)) && ((decide (u9.1.2.1=Dh.1.2.1)) && ((decide (u9.1.2.2.1=Dh.1.2.2.1)) && ((decide (u9.1.2.2.2.1=Dh.1.2.2.2.1)) && ((decide (u9.1.2.2.2.2.1=Dh.1.2.2.2.2.1)) && ((decide (u9.1.2.2.2.2.2.1=Dh.1.2.2.2.2.2.1)) && true)))))) then cl (oM).dflt (vA ((25:Int),((39:Int),()))) (fun Xd=>cl (oM).dflt (vA ((46:Int),((59:Int),()))) (fun WL=>cl (oM).dflt (vA ((74050:Int),((75050:Int),()))) (fun Xo=>cl (Es).dflt (PU (Xd.1,(WL.1,(Xo.1,())))) (fun Gp=>bif ((decide (lM.1.1=Gp.1.1)) && ((decide (lM.1.2.1=Gp.1.2.1)) && ((decide (lM.1.2.2.1=Gp.1.2.2.1)) && ((decide (lM.1.2.2.2.1=Gp.1.2.2.2.1)) && ((decide (lM.1.2.2.2.2.1=Gp.1.2.2.2.2.1)) && ((decide (lM.1.2.2.2.2.2.1=Gp.1.2.2.2.2.2.1)) && true)))))) then bif (decide (Df.1=(2:Int))) then cl (MI).dflt (M41 (Df.2.1,((⟨3,fun i=>List.getD [((⟨2,fun i=>List.getD [((-1:Int),()),((-1:Int),())] i ((-1:Int),())⟩:Sl _),()),((⟨2,fun i=>List.getD [((0:Int),()),((1:Int),())] i ((0:Int),())⟩:Sl _),()),((⟨1,fun i=>List.getD [((0:Int),())] i ((0:Int),())⟩:Sl _),())] i ((⟨2,fun i=>List.getD [((-1:Int),()),((-1:Int),())] i ((-1:Int),())⟩:Sl _),())⟩:Sl _),()))) (fun u28=>bif u28.1 then l (some ((decide (PB.1=(2:Int))),())) else l (some (false,()))) (l none) else l (some (false,())) else l (some (false,()))) (l none)) (l none)) (l none)) (l none) else l (some (false,()))) (l none)) (l none)) (l none)) (l none)) (l none)) (l none)) (l none)) (l none)) (l none)) (l none)) (l none)) (l none)) (l none)) (l none)) (l none)) (l none)) (l none)) (l none)) (l none)) (l none)) (l none)) (l none)) (l none)) (l none)
def ayy (m18:(Tq).den->Option (MF).den) (m19:(Tu).den->Option (OK).den) (m20:(a20).den->Option (Pz).den) (m23:(Tv).den->Option (IN).den) (m28:(a28).den->Option (OB).den) (m36:(TD).den->Option (PE).den) (m39:(a39).den->Option (Re).den) (m40:(a40).den->Option (Rb).den) (m41:(a41).den->Option (MI).den) (m43:(TR).den->Option (Rc).den) (m44:(a44).den->Option (Es).den) (Ug:(PA).den->Option (oM).den) (ON:(Uh).den->Option (vN).den) {α:Type} (l:Option (nQ).den->α) (an:α->α->α) (x:(a17).den):α:=cl (vN).dflt (ON ()) (fun u0=>cl (MF).dflt (m18 (u0.1,((1:Int),()))) (fun u1=>cl (vN).dflt (ON ()) (fun u2=>cl (OK).dflt (m19 (u0.1,())) (fun u3=>cl (vN).dflt (ON ()) (fun u4=>cl (Pz).dflt (m20 (u0.1,())) (fun u5=>cl (vN).dflt (ON ()) (fun u6=>cl (Re).dflt (m39 (u0.1,((0:Int),((0:Int),())))) (fun u7=>cl (vN).dflt (ON ()) (fun u8=>cl (PE).dflt (m36 (u0.1,((1:Int),((0:Int),())))) (fun u9=>cl (vN).dflt (ON ()) (fun vD=>cl (Rc).dflt (m43 (u0.1,((0:Int),((3:Int),())))) (fun lM=>cl (vN).dflt (ON ()) (fun MA=>cl (Rb).dflt (m40 (u0.1,())) (fun Df=>cl (vN).dflt (ON ()) (fun PX=>cl (OB).dflt (m28 (u0.1,())) (fun PB=>bif (!(decide (u1.2.1=(0:Int)))) then l (some (false,())) else bif (!(decide (u3.2.1=(0:Int)))) then l (some (false,())) else bif (!(decide (u5.2.1=(0:Int)))) then l (some (false,())) else bif (!(decide (u7.2.1=(0:Int)))) then l (some (false,())) else bif (!(decide (u9.2.1=(0:Int)))) then l (some (false,())) else bif (!(decide (lM.2.1=(0:Int)))) then l (some (false,())) else bif (!(decide (Df.2.2.1=(0:Int)))) then l (some (false,())) else bif (!(decide (PB.2.1=(0:Int)))) then l (some (false,())) else cl (IN).dflt (m23 (u1.1,((⟨2,fun i=>List.getD [((⟨2,fun i=>List.getD [((3:Int),()),((1:Int),())] i ((3:Int),())⟩:Sl _),()),((⟨2,fun i=>List.getD [((1:Int),()),((3:Int),())] i ((1:Int),())⟩:Sl _),())] i ((⟨2,fun i=>List.getD [((3:Int),()),((1:Int),())] i ((3:Int),())⟩:Sl _),())⟩:Sl _),()))) (fun u16=>bif (!u16.1) then l (some (false,())) else cl (IN).dflt (m23 (u3.1,((⟨2,fun i=>List.getD [((⟨2,fun i=>List.getD [((1:Int),()),((1:Int),())] i ((1:Int),())⟩:Sl _),()),((⟨1,fun i=>List.getD [((1:Int),())] i ((1:Int),())⟩:Sl _),())] i ((⟨2,fun i=>List.getD [((1:Int),()),((1:Int),())] i ((1:Int),())⟩:Sl _),())⟩:Sl _),()))) (fun Wf=>bif (!Wf.1) then l (some (false,())) else cl (IN).dflt (m23 (u5.1,((⟨2,fun i=>List.getD [((⟨2,fun i=>List.getD [((1:Int),()),((1:Int),())] i ((1:Int),())⟩:Sl _),()),((⟨2,fun i=>List.getD [((2:Int),()),((2:Int),())] i ((2:Int),())⟩:Sl _),())] i ((⟨2,fun i=>List.getD [((1:Int),()),((1:Int),())] i ((1:Int),())⟩:Sl _),())⟩:Sl _),()))) (fun VP=>bif (!VP.1) then l (some (false,())) else cl (MI).dflt (m41 (u7.1,((⟨2,fun i=>List.getD [((⟨2,fun i=>List.getD [((0:Int),()),((0:Int),())] i ((0:Int),())⟩:Sl _),()),((⟨3,fun i=>List.getD [((0:Int),()),((0:Int),()),((0:Int),())] i ((0:Int),())⟩:Sl _),())] i ((⟨2,fun i=>List.getD [((0:Int),()),((0:Int),())] i ((0:Int),())⟩:Sl _),())⟩:Sl _),()))) (fun UO=>bif (!UO.1) then l (some (false,())) else cl (oM).dflt (Ug ((20:Int),((21:Int),()))) (fun u20=>cl (oM).dflt (Ug ((50:Int),((52:Int),()))) (fun u21=>cl (oM).dflt (Ug ((74100:Int),((74300:Int),()))) (fun u22=>cl (Es).dflt (m44 (u20.1,(u21.1,(u22.1,())))) (fun Dh=>bif ((decide (u9.1.1=Dh.1.1)) && ((decide (u9.1.2.1=Dh.1.2.1)) && ((decide (u9.1.2.2.1=Dh.1.2.2.1)) && ((decide (u9.1.2.2.2.1=Dh.1.2.2.2.1)) && ((decide (u9.1.2.2.2.2.1=Dh.1.2.2.2.2.1)) && ((decide (u9.1.2.2.2.2.2.1=Dh.1.2.2.2.2.2.1)) && true)))))) then cl (oM).dflt (Ug ((25:Int),((39:Int),()))) (fun Xd=>cl (oM).dflt (Ug ((46:Int),((59:Int),()))) (fun WL=>cl (oM).dflt (Ug ((74050:Int),((75050:Int),()))) (fun Xo=>cl (Es).dflt (m44 (Xd.1,(WL.1,(Xo.1,())))) (fun Gp=>bif ((decide (lM.1.1=Gp.1.1)) && ((decide (lM.1.2.1=Gp.1.2.1)) && ((decide (lM.1.2.2.1=Gp.1.2.2.1)) && ((decide (lM.1.2.2.2.1=Gp.1.2.2.2.1)) && ((decide (lM.1.2.2.2.2.1=Gp.1.2.2.2.2.1)) && ((decide (lM.1.2.2.2.2.2.1=Gp.1.2.2.2.2.2.1)) && true)))))) then bif (decide (Df.1=(2:Int))) then cl (MI).dflt (m41 (Df.2.1,((⟨3,fun i=>List.getD [((⟨2,fun i=>List.getD [((-1:Int),()),((-1:Int),())] i ((-1:Int),())⟩:Sl _),()),((⟨2,fun i=>List.getD [((0:Int),()),((1:Int),())] i ((0:Int),())⟩:Sl _),()),((⟨1,fun i=>List.getD [((0:Int),())] i ((0:Int),())⟩:Sl _),())] i ((⟨2,fun i=>List.getD [((-1:Int),()),((-1:Int),())] i ((-1:Int),())⟩:Sl _),())⟩:Sl _),()))) (fun u28=>bif u28.1 then l (some ((decide (PB.1=(2:Int))),())) else l (some (false,()))) (l none) else l (some (false,())) else l (some (false,()))) (l none)) (l none)) (l none)) (l none) else l (some (false,()))) (l none)) (l none)) (l none)) (l none)) (l none)) (l none)) (l none)) (l none)) (l none)) (l none)) (l none)) (l none)) (l none)) (l none)) (l none)) (l none)) (l none)) (l none)) (l none)) (l none)) (l none)) (l none)) (l none)) (l none)
theorem ayz (m18:(Tq).den->Option (MF).den) (m19:(Tu).den->Option (OK).den) (m20:(a20).den->Option (Pz).den) (m23:(Tv).den->Option (IN).den) (m28:(a28).den->Option (OB).den) (m36:(TD).den->Option (PE).den) (m39:(a39).den->Option (Re).den) (m40:(a40).den->Option (Rb).den) (m41:(a41).den->Option (MI).den) (m43:(TR).den->Option (Rc).den) (m44:(a44).den->Option (Es).den) (Ug:(PA).den->Option (oM).den) (ON:(Uh).den->Option (vN).den) (x:(a17).den):aI Try.prog E0 (Ctx.of [(18,.pure (gU (τa:=Tq) (τr:=MF) m18)),(19,.pure (gU (τa:=Tu) (τr:=OK) m19)),(20,.pure (gU (τa:=a20) (τr:=Pz) m20)),(23,.pure (gU (τa:=Tv) (τr:=IN) m23)),(28,.pure (gU (τa:=a28) (τr:=OB) m28)),(36,.pure (gU (τa:=TD) (τr:=PE) m36)),(39,.pure (gU (τa:=a39) (τr:=Re) m39)),(40,.pure (gU (τa:=a40) (τr:=Rb) m40)),(41,.pure (gU (τa:=a41) (τr:=MI) m41)),(43,.pure (gU (τa:=TR) (τr:=Rc) m43)),(44,.pure (gU (τa:=a44) (τr:=Es) m44)),(48,.pure (gU (τa:=PA) (τr:=oM) Ug)),(62,.pure (gU (τa:=Uh) (τr:=vN) ON))]) Try.f17 l17 a17 nQ x=ayy m18 m19 m20 m23 m28 m36 m39 m40 m41 m43 m44 Ug ON .leaf .any x:=by kernel_rfl
theorem q17 (x:(a17).den):aI Try.prog E0 G17 Try.f17 l17 a17 nQ x=Q17 .leaf .any x:=ayz XV M19 M20 VN VO M36 M39 M40 M41 M43 PU vA OM x
def qf (x:(a17).den):Option (nQ).den:=Q17 (fun r=>r) (fun _ _=>none) x
theorem m17 (x:(a17).den):(aI Try.prog E0 G17 Try.f17 l17 a17 nQ x).sure=qf x:=by rw [q17]; unfold qf Q17; simp only [Tree.sure,iO]
def p17 (x:(a17).den):Bool:=(qf x).isSome
def v17 (x:(a17).den):(nQ).den:=(qf x).getD (nQ).dflt
def k17:ee:=⟨a17,nQ,p17,v17⟩
theorem h17:Holds Try.prog 17 k17:=aC (E:=E0) aA g17 aB au acz.a acz.b (by kernel_rfl) m17 fun G' hlo hF hE=>ai (by rw [ayv]; exact .nil)
noncomputable def c5:=zo Try.f5
theorem cl5:zq 5 Try.f5 c5:=zu
abbrev a5:Ty:=T76
abbrev r5:Ty:=T3
noncomputable def G5:Ctx:=Ctx.of [(16,.pure k16),(17,.pure k17),(18,.pure k18),(19,.pure k19),(20,.pure k20),(30,.pure k30),(31,.pure k31),(32,.pure k32),(33,.pure k33)]
theorem g5:SP G5:=aD (fa ⟨⟨aeP.c,h16⟩,fa ⟨⟨acz.c,h17⟩,fa ⟨⟨alY.c,h18⟩,fa ⟨⟨al3.c,h19⟩,fa ⟨⟨aoA.c,h20⟩,fa ⟨⟨aVw.c,h30⟩,fa ⟨⟨aO9.c,h31⟩,fa ⟨⟨aVA.c,h32⟩,fa ⟨⟨aVE.c,h33⟩,f0⟩⟩⟩⟩⟩⟩⟩⟩⟩)
noncomputable def aPh:Code:=aG ((af (c5))[0]?)
theorem aV0:af (aPh)=[]:=by kernel_rfl
abbrev atv:List aL:=[.slot 1 (.pc tI),.slot 5 (.pc ec),.slot 7 (.pc ec),.slot 9 (.pc ec),.slot 11 (.pc tI),.slot 12 (.pc tI)]
abbrev afJ:List aL:=[.slot 13 (.pc tI)]
abbrev aQh:List aL:=atv ++ afJ
def aV1:ZJ atv afJ aQh:=ZA _ _
def aQi:ZS atv afJ aQh:=ZP _ _
abbrev aV2:aO:=⟨[(0,[.slot 1 (.pc tI),.slot 5 (.pc ec),.slot 9 (.pc ec),.slot 11 (.pc tI),.slot 12 (.pc tI)])],[.slot 4 (.pc .bool)],[]⟩
abbrev auN:aO:=⟨[(0,[])],[.slot 4 (.pc .bool)],[]⟩
def aJO:ZE atv auN aV2:=fun id=>match id with | 0=>fun c y=>(c.1,(c.2.1,(c.2.2.2.1,(c.2.2.2.2.1,(c.2.2.2.2.2.1,y))))) | _=>jm
def aJP {α:Type} (l:RQ afJ auN->α) (an:α->α->α) (c:ZD atv) (v:ZD afJ):α:=bif (decide (v.1 < c.2.2.2.2.1)) then bif (decide (((0:Int)<=v.1)/\(v.1 < ((c.2.1.n:Nat):Int)))) then bif (decide (((c.2.1.g (Int.toNat v.1)).1.n * 8)<=140737488355328)) then bif (decide (((0:Int)<=(W (c.1 - (1:Int))))/\((W (c.1 - (1:Int))) < ((c.2.2.1.n:Nat):Int)))) then bif (decide (((0:Int)<=v.1)/\(v.1 < (((c.2.2.1.g (Int.toNat (W (c.1 - (1:Int))))).1.n:Nat):Int)))) then bif (decide ((((c.2.1.g (Int.toNat v.1)).1.n + 1) * 8)<=140737488355328)) then cl (r32).dflt (M32 ((cK (c.2.1.g (Int.toNat v.1)).1 (⟨1,fun i=>List.getD [((c.2.2.1.g (Int.toNat (W (c.1 - (1:Int))))).1.g (Int.toNat v.1))] i ((c.2.2.1.g (Int.toNat (W (c.1 - (1:Int))))).1.g (Int.toNat v.1))⟩:Sl (Ty.den T0))),())) (fun u0=>bif (decide ((1:Int) < u0.1)) then l (.out (.ret (false,()))) else cl (r33).dflt (M33 ((cK (c.2.1.g (Int.toNat v.1)).1 (⟨1,fun i=>List.getD [((c.2.2.1.g (Int.toNat (W (c.1 - (1:Int))))).1.g (Int.toNat v.1))] i ((c.2.2.1.g (Int.toNat (W (c.1 - (1:Int))))).1.g (Int.toNat v.1))⟩:Sl (Ty.den T0))),())) (fun u1=>bif (decide (u1.1=(0:Int))) then l (.out (.ret (false,()))) else cl (r33).dflt (M33 ((cK (c.2.1.g (Int.toNat v.1)).1 (⟨1,fun i=>List.getD [((c.2.2.1.g (Int.toNat (W (c.1 - (1:Int))))).1.g (Int.toNat v.1))] i ((c.2.2.1.g (Int.toNat (W (c.1 - (1:Int))))).1.g (Int.toNat v.1))⟩:Sl (Ty.den T0))),())) (fun u2=>bif (!((decide (u0.1=(1:Int))) == (decide (u1.1=(1:Int))))) then l (.out (.ret (false,()))) else l (.next ((W (v.1 + (1:Int))),()))) (l .bad)) (l .bad)) (l .bad) else l .bad else l .bad else l .bad else l .bad else l .bad else l (.out (.exit 0 ()))
theorem aZT:ZO G5 0 206 aPh [] aV1 aJO ZI ZI aJP:=fun _ _=>by kernel_rfl
def aJQ (c:ZD atv) (v:ZD afJ):RQ afJ auN:=aJP (fun r=>r) (fun _ _=>.bad) c v
theorem aZU:SO G5 0 206 aPh [] aV1 aJO ZI ZI aJQ:=fun c v=>by rw [aZT]; unfold aJQ aJP; simp only [bu,aM,pM]
def aD4 (c:ZD atv) (v:ZD afJ):LQ auN:=aH (aJQ c) cz v
noncomputable def aJR:Code:=aG ((af (c5))[1]?)
noncomputable def ay8:Code:=aG ((af (aJR))[0]?)
theorem aPi:af (ay8)=[]:=by kernel_rfl
abbrev afp:List aL:=[.slot 1 (.pc tI),.slot 5 (.pc ec),.slot 9 (.pc ec),.slot 11 (.pc tI),.slot 12 (.pc tI),.slot 16 (.pc tI)]
abbrev OX:List aL:=[.slot 17 (.own 379 47 T0),.slot 18 (.pc tI)]
abbrev apZ:List aL:=afp ++ OX
def aJS:ZJ afp OX apZ:=ZA _ _
def afq:ZS afp OX apZ:=ZP _ _
abbrev anW:aO:=⟨[(4,[.slot 1 (.pc tI),.slot 5 (.pc ec),.slot 9 (.pc ec),.slot 11 (.pc tI),.slot 12 (.pc tI),.slot 16 (.pc tI),.slot 17 (.pc (.sl T0))])],[],[]⟩
abbrev ait:aO:=⟨[(4,[.slot 17 (.pc (.sl T0))])],[],[]⟩
def ap0:ZE afp ait anW:=fun id=>match id with | 4=>fun c y=>(c.1,(c.2.1,(c.2.2.1,(c.2.2.2.1,(c.2.2.2.2.1,(c.2.2.2.2.2.1,y)))))) | _=>jm
def atw {α:Type} (l:RQ OX ait->α) (an:α->α->α) (c:ZD afp) (v:ZD OX):α:=bif (decide (v.2.1 < c.2.2.2.1)) then bif (decide (((0:Int)<=v.2.1)/\(v.2.1 < ((c.2.1.n:Nat):Int)))) then bif (decide (((0:Int)<=c.2.2.2.2.2.1)/\(c.2.2.2.2.2.1 < (((c.2.1.g (Int.toNat v.2.1)).1.n:Nat):Int)))) then bif (decide (((v.1.n + 1) * 8)<=140737488355328)) then l (.next ((cK v.1 (⟨1,fun i=>List.getD [((c.2.1.g (Int.toNat v.2.1)).1.g (Int.toNat c.2.2.2.2.2.1))] i ((c.2.1.g (Int.toNat v.2.1)).1.g (Int.toNat c.2.2.2.2.2.1))⟩:Sl (Ty.den T0))),((W (v.2.1 + (1:Int))),()))) else l .bad else l .bad else l .bad else l (.out (.exit 4 (v.1,())))
theorem aTm:ZO G5 0 206 ay8 [] aJS ap0 ZI ZI atw:=fun _ _=>by kernel_rfl
def atx (c:ZD afp) (v:ZD OX):RQ OX ait:=atw (fun r=>r) (fun _ _=>.bad) c v
theorem aTn:SO G5 0 206 ay8 [] aJS ap0 ZI ZI atx:=fun c v=>by rw [aTm]; unfold atx atw; simp only [bu,aM,pM]
def aoO (c:ZD afp) (v:ZD OX):LQ ait:=aH (atx c) cz v
theorem aV3:af (aJR)=[.loop ay8]:=by kernel_rfl
abbrev aty:List aL:=[.slot 1 (.pc tI),.slot 5 (.pc ec),.slot 9 (.pc ec),.slot 11 (.pc tI),.slot 12 (.pc tI)]
abbrev afK:List aL:=[.slot 16 (.pc tI)]
abbrev aQj:List aL:=aty ++ afK
def aV4:ZJ aty afK aQj:=ZA _ _
def aQk:ZS aty afK aQj:=ZP _ _
abbrev aV5:aO:=⟨[(2,[])],[.slot 4 (.pc .bool)],[]⟩
abbrev auO:aO:=⟨[(2,[])],[.slot 4 (.pc .bool)],[]⟩
def aJT:ZE aty auO aV5:=fun id=>match id with | 2=>fun c y=>y | _=>jm
def aJU {α:Type} (l:RQ afK auO->α) (an:α->α->α) (c:ZD aty) (v:ZD afK):α:=bif (decide (v.1 < c.2.2.2.2.1)) then bif (decide (((0:Int)<=(W (c.1 - (1:Int))))/\((W (c.1 - (1:Int))) < ((c.2.2.1.n:Nat):Int)))) then bif (decide (((0:Int)<=v.1)/\(v.1 < (((c.2.2.1.g (Int.toNat (W (c.1 - (1:Int))))).1.n:Nat):Int)))) then aF (aoO (c.1,(c.2.1,(c.2.2.1,(c.2.2.2.1,(c.2.2.2.2.1,v))))) ((⟨1,fun i=>List.getD [((c.2.2.1.g (Int.toNat (W (c.1 - (1:Int))))).1.g (Int.toNat v.1))] i ((c.2.2.1.g (Int.toNat (W (c.1 - (1:Int))))).1.g (Int.toNat v.1))⟩:Sl _),((0:Int),()))) 4 (fun u3=>cl (r32).dflt (M32 u3) (fun u4=>bif (decide ((1:Int) < u4.1)) then l (.out (.ret (false,()))) else cl (r33).dflt (M33 u3) (fun u5=>bif (decide (u5.1=(0:Int))) then l (.out (.ret (false,()))) else cl (r33).dflt (M33 u3) (fun u6=>bif (!((decide (u4.1=(1:Int))) == (decide (u5.1=(1:Int))))) then l (.out (.ret (false,()))) else l (.next ((W (v.1 + (1:Int))),()))) (l .bad)) (l .bad)) (l .bad)) (l .bad) else l .bad else l .bad else l (.out (.exit 2 ()))
theorem aZV:ZO G5 0 206 aJR [.known (bF 0 [] apZ fun x=>aJ anW ap0 ZI ZI [] false (afq x).1 (aoO (afq x).1 (afq x).2) anW.bw)] aV4 aJT ZI ZI aJU:=fun _ _=>by kernel_rfl
def aJV (c:ZD aty) (v:ZD afK):RQ afK auO:=aJU (fun r=>r) (fun _ _=>.bad) c v
theorem aZW:SO G5 0 206 aJR [.known (bF 0 [] apZ fun x=>aJ anW ap0 ZI ZI [] false (afq x).1 (aoO (afq x).1 (afq x).2) anW.bw)] aV4 aJT ZI ZI aJV:=fun c v=>by rw [aZV]; unfold aJV aJU; simp only [bu,aM,pM]
def aD5 (c:ZD aty) (v:ZD afK):LQ auO:=aH (aJV c) cz v
theorem lo5:af (c5)=[.loop aPh,.loop aJR]:=by kernel_rfl
noncomputable def l5:List Loop:=[lk 0 aJO ZI ZI true aQi aD4,lk 0 aJT ZI ZI true aQk aD5]
def Q5 {α:Type} (l:Option (r5).den->α) (an:α->α->α) (x:(a5).den):α:=cl (WZ).dflt (Yz (x.1,())) (fun u7=>bif (!u7.1) then cl (nQ).dflt (qf ()) (fun u8=>l (some u8)) (l none) else bif (decide ((1:Int)<=x.2.1)) then cl (r30).dflt (M30 (x.1,((decide (x.2.1 < ((x.1.1.n:Nat):Int))),()))) (fun u9=>bif (!(decide (u9.1=(0:Int)))) then cl (nQ).dflt (qf ()) (fun vD=>l (some vD)) (l none) else cl (MF).dflt (XV (x.1,x.2)) (fun lM=>cl (OK).dflt (M19 (x.1,())) (fun MA=>cl (Pz).dflt (M20 (x.1,())) (fun Df=>bif (decide (((0:Int)<=x.2.1)/\(x.2.1 < ((x.1.1.n:Nat):Int)))) then bif (decide (((0:Int)<=(W (x.2.1 - (1:Int))))/\((W (x.2.1 - (1:Int))) < ((x.1.1.n:Nat):Int)))) then bif (!(decide (lM.2.1=(0:Int)))) then l (some (false,())) else bif (!(decide (MA.2.1=(0:Int)))) then l (some (false,())) else bif (!(decide (Df.2.1=(0:Int)))) then l (some (false,())) else cl (r31).dflt (M31 (lM.1,((((x.1.1.g (Int.toNat x.2.1)).2.1.n:Nat):Int),((((x.1.1.g (Int.toNat (W (x.2.1 - (1:Int))))).2.1.n:Nat):Int),())))) (fun PX=>bif (!PX.1) then l (some (false,())) else bif (!(decide (((MA.1.n:Nat):Int)=(W (((x.1.1.n:Nat):Int) - (1:Int)))))) then l (some (false,())) else bif (!(decide (((Df.1.n:Nat):Int)=((MA.1.n:Nat):Int)))) then l (some (false,())) else bif (decide (((0:Int)<=(W (x.2.1 - (1:Int))))/\((W (x.2.1 - (1:Int))) < ((MA.1.n:Nat):Int)))) then bif (!(decide ((((MA.1.g (Int.toNat (W (x.2.1 - (1:Int))))).1.n:Nat):Int)=(((x.1.1.g (Int.toNat x.2.1)).2.1.n:Nat):Int)))) then l (some (false,())) else bif (decide (((0:Int)<=(W (x.2.1 - (1:Int))))/\((W (x.2.1 - (1:Int))) < ((Df.1.n:Nat):Int)))) then bif (!(decide ((((Df.1.g (Int.toNat (W (x.2.1 - (1:Int))))).1.n:Nat):Int)=(((x.1.1.g (Int.toNat (W (x.2.1 - (1:Int))))).2.1.n:Nat):Int)))) then l (some (false,())) else aF (aD4 (x.2.1,(lM.1,(MA.1,(Df.1,((((x.1.1.g (Int.toNat x.2.1)).2.1.n:Nat):Int),((((x.1.1.g (Int.toNat (W (x.2.1 - (1:Int))))).2.1.n:Nat):Int),())))))) ((0:Int),())) 0 (fun PB=>aF (aD5 (x.2.1,(lM.1,(Df.1,((((x.1.1.g (Int.toNat x.2.1)).2.1.n:Nat):Int),((((x.1.1.g (Int.toNat (W (x.2.1 - (1:Int))))).2.1.n:Nat):Int),()))))) ((0:Int),())) 2 (fun u16=>cl (nQ).dflt (qf ()) (fun Wf=>l (some Wf)) (l none)) (bS (aD5 (x.2.1,(lM.1,(Df.1,((((x.1.1.g (Int.toNat x.2.1)).2.1.n:Nat):Int),((((x.1.1.g (Int.toNat (W (x.2.1 - (1:Int))))).2.1.n:Nat):Int),()))))) ((0:Int),())) (fun VP=>l (some VP)) (l none))) (bS (aD4 (x.2.1,(lM.1,(MA.1,(Df.1,((((x.1.1.g (Int.toNat x.2.1)).2.1.n:Nat):Int),((((x.1.1.g (Int.toNat (W (x.2.1 - (1:Int))))).2.1.n:Nat):Int),())))))) ((0:Int),())) (fun UO=>l (some UO)) (l none)) else l none else l none) (l none) else l none else l none) (l none)) (l none)) (l none)) (l none) else cl (r30).dflt (M30 (x.1,(false,()))) (fun u20=>bif (!(decide (u20.1=(0:Int)))) then cl (nQ).dflt (qf ()) (fun u21=>l (some u21)) (l none) else cl (MF).dflt (XV (x.1,x.2)) (fun u22=>cl (OK).dflt (M19 (x.1,())) (fun Dh=>cl (Pz).dflt (M20 (x.1,())) (fun Xd=>bif (decide (((0:Int)<=x.2.1)/\(x.2.1 < ((x.1.1.n:Nat):Int)))) then bif (decide (((0:Int)<=(W (x.2.1 - (1:Int))))/\((W (x.2.1 - (1:Int))) < ((x.1.1.n:Nat):Int)))) then bif (!(decide (u22.2.1=(0:Int)))) then l (some (false,())) else bif (!(decide (Dh.2.1=(0:Int)))) then l (some (false,())) else bif (!(decide (Xd.2.1=(0:Int)))) then l (some (false,())) else cl (r31).dflt (M31 (u22.1,((((x.1.1.g (Int.toNat x.2.1)).2.1.n:Nat):Int),((((x.1.1.g (Int.toNat (W (x.2.1 - (1:Int))))).2.1.n:Nat):Int),())))) (fun WL=>bif (!WL.1) then l (some (false,())) else bif (!(decide (((Dh.1.n:Nat):Int)=(W (((x.1.1.n:Nat):Int) - (1:Int)))))) then l (some (false,())) else bif (!(decide (((Xd.1.n:Nat):Int)=((Dh.1.n:Nat):Int)))) then l (some (false,())) else bif (decide (((0:Int)<=(W (x.2.1 - (1:Int))))/\((W (x.2.1 - (1:Int))) < ((Dh.1.n:Nat):Int)))) then bif (!(decide ((((Dh.1.g (Int.toNat (W (x.2.1 - (1:Int))))).1.n:Nat):Int)=(((x.1.1.g (Int.toNat x.2.1)).2.1.n:Nat):Int)))) then l (some (false,())) else bif (decide (((0:Int)<=(W (x.2.1 - (1:Int))))/\((W (x.2.1 - (1:Int))) < ((Xd.1.n:Nat):Int)))) then bif (!(decide ((((Xd.1.g (Int.toNat (W (x.2.1 - (1:Int))))).1.n:Nat):Int)=(((x.1.1.g (Int.toNat (W (x.2.1 - (1:Int))))).2.1.n:Nat):Int)))) then l (some (false,())) else aF (aD4 (x.2.1,(u22.1,(Dh.1,(Xd.1,((((x.1.1.g (Int.toNat x.2.1)).2.1.n:Nat):Int),((((x.1.1.g (Int.toNat (W (x.2.1 - (1:Int))))).2.1.n:Nat):Int),())))))) ((0:Int),())) 0 (fun Xo=>aF (aD5 (x.2.1,(u22.1,(Xd.1,((((x.1.1.g (Int.toNat x.2.1)).2.1.n:Nat):Int),((((x.1.1.g (Int.toNat (W (x.2.1 - (1:Int))))).2.1.n:Nat):Int),()))))) ((0:Int),())) 2 (fun Gp=>cl (nQ).dflt (qf ()) (fun u28=>l (some u28)) (l none)) (bS (aD5 (x.2.1,(u22.1,(Xd.1,((((x.1.1.g (Int.toNat x.2.1)).2.1.n:Nat):Int),((((x.1.1.g (Int.toNat (W (x.2.1 - (1:Int))))).2.1.n:Nat):Int),()))))) ((0:Int),())) (fun u29=>l (some u29)) (l none))) (bS (aD4 (x.2.1,(u22.1,(Dh.1,(Xd.1,((((x.1.1.g (Int.toNat x.2.1)).2.1.n:Nat):Int),((((x.1.1.g (Int.toNat (W (x.2.1 - (1:Int))))).2.1.n:Nat):Int),())))))) ((0:Int),())) (fun u30=>l (some u30)) (l none)) else l none else l none) (l none) else l none else l none) (l none)) (l none)) (l none)) (l none)) (l none)
theorem q5:QO G5 Try.f5 l5 a5 r5 Q5:=fun _=>by kernel_rfl
def M5 (x:(a5).den):Option (r5).den:=Q5 (fun r=>r) (fun _ _=>none) x
theorem m5:MO G5 Try.f5 l5 M5:=fun x=>by rw [q5]; unfold M5 Q5; simp only [Tree.sure,iO]
def p5:=pO M5
def v5:=vO (τ:=r5) M5
def k5:ee:=⟨a5,r5,p5,v5⟩
theorem h5:Holds Try.prog 5 k5:=hO cl5 g5 m5 fun G' hlo hF hE=>ai (by rw [lo5]; exact .cons (lv hE hF hlo (ln aV0) aQi aZU) (.cons (lv hE hF hlo (ai (by rw [aV3]; exact .cons (lv hE hF hlo (ln aPi) afq aTn) (.nil))) aQk aZW) (.nil)))
abbrev ayA:Ty:=(.cons tI T6)
abbrev aIo:Ty:=(.cons PV ayA)
abbrev ayB:Ty:=(.cons anf T5)
abbrev aIp:Ty:=(.cons PV ayB)
end Go.Dm

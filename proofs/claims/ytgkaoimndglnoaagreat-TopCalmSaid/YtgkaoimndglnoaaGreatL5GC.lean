/-
 Each function of the program as a Lean function,and that its calls come to what that says.
-/
import Derived.Test.YtgkaoimndglnoaaGreatL5GB
set_option linter.unusedVariables false
set_option linter.unusedSimpArgs false
namespace Go.Dm
open Go.RowKit Go.Proofs
set_option maxRecDepth 100000
noncomputable def aTW:=bW Tryz.f101
theorem abP:bV 101 Tryz.f101 aTW:=bX
abbrev ahI:Ty:=T1
abbrev zF:Ty:=lz
noncomputable def asH:Ctx:=Ctx.of []
theorem aTX:SP asH:=aB f0
def asI {α:Type} (l:Option (zF).den->α) (an:α->α->α) (x:(ahI).den):α:=l (some (x,()))
theorem aTY:QO asH Tryz.f101 [] ahI zF asI:=fun _=>by kernel_rfl
def CP (x:(ahI).den):Option (zF).den:=asI (fun r=>r) (fun _ _=>none) x
theorem aTZ:MOz asH Tryz.f101 [] CP:=fun x=>by rw [aTY]; unfold CP asI; simp only [Tree.sure,sus]
def aT0:=pO CP
def aT1:=vO (τ:=zF) CP
def asJ:Con:=⟨ahI,zF,aT0,aT1⟩
theorem aBY:aQ Tryz.prog 101 asJ:=hO abP aTX aTZ l0
noncomputable def c37:=bW Tryz.f37
theorem aBZ:bV 37 Tryz.f37 c37:=bX
abbrev a37:Ty:=.nil
abbrev Vs:Ty:=T18
noncomputable def G37:Ctx:=Ctx.of [(101,.pure asJ)]
theorem g37:SP G37:=aB (fa ⟨⟨abP.c,aBY⟩,f0⟩)
def Q37 {α:Type} (l:Option (Vs).den->α) (an:α->α->α) (x:(a37).den):α:=cl (zF).dflt (CP ((100:Int),((110:Int),()))) (fun u0=>cl (zF).dflt (CP ((-100:Int),((100:Int),()))) (fun u1=>cl (zF).dflt (CP ((20:Int),((30:Int),()))) (fun u2=>cl (zF).dflt (CP ((25:Int),((50:Int),()))) (fun u3=>l (some ((u0.1.1,(u0.1.2.1,(u1.1.1,(u1.1.2.1,((1:Int),((5:Int),((30:Int),((2:Int),((⟨2,fun i=>List.getD [((10:Int),u2.1),((30:Int),u3.1)] i ((10:Int),u2.1)⟩:Sl _),()))))))))),()))) (l none)) (l none)) (l none)) (l none)
theorem q37:QO G37 Tryz.f37 [] a37 Vs Q37:=fun _=>by kernel_rfl
def M37 (x:(a37).den):Option (Vs).den:=Q37 (fun r=>r) (fun _ _=>none) x
theorem m37:MOz G37 Tryz.f37 [] M37:=fun x=>by rw [q37]; unfold M37 Q37; simp only [Tree.sure,sus]
def p37:=pO M37
def v37:=vO (τ:=Vs) M37
def k37:Con:=⟨a37,Vs,p37,v37⟩
theorem h37:aQ Tryz.prog 37 k37:=hO aBZ g37 m37 l0
noncomputable def c38:=bW Tryz.f38
theorem aB0:bV 38 Tryz.f38 c38:=bX
abbrev a38:Ty:=.nil
abbrev r38:Ty:=T70
noncomputable def G38:Ctx:=Ctx.of [(101,.pure asJ)]
theorem g38:SP G38:=aB (fa ⟨⟨abP.c,aBY⟩,f0⟩)
def Q38 {α:Type} (l:Option (r38).den->α) (an:α->α->α) (x:(a38).den):α:=cl (zF).dflt (CP ((200:Int),((210:Int),()))) (fun u0=>cl (zF).dflt (CP ((150:Int),((152:Int),()))) (fun u1=>cl (zF).dflt (CP ((120:Int),((121:Int),()))) (fun u2=>l (some (((20:Int),((480:Int),((2:Int),((75050:Int),(u0.1.1,(u0.1.2.1,(u1.1.1,(u1.1.2.1,u2.1)))))))),()))) (l none)) (l none)) (l none)
theorem q38:QO G38 Tryz.f38 [] a38 r38 Q38:=fun _=>by kernel_rfl
def M38 (x:(a38).den):Option (r38).den:=Q38 (fun r=>r) (fun _ _=>none) x
theorem m38:MOz G38 Tryz.f38 [] M38:=fun x=>by rw [q38]; unfold M38 Q38; simp only [Tree.sure,sus]
def p38:=pO M38
def v38:=vO (τ:=r38) M38
def k38:Con:=⟨a38,r38,p38,v38⟩
theorem h38:aQ Tryz.prog 38 k38:=hO aB0 g38 m38 l0
abbrev aT7:Ty:=(.cons tI T61)
abbrev aT8:Ty:=(.cons (.sl T2) aT7)
abbrev aT9:Ty:=(.cons tI aT8)
abbrev aUa:Ty:=(.cons tI aT9)
abbrev aUb:Ty:=(.cons tI aUa)
abbrev aUc:Ty:=(.cons tI aUb)
abbrev aUd:Ty:=(.cons tI aUc)
abbrev aUe:Ty:=(.cons tI aUd)
abbrev aUf:Ty:=(.cons tI aUe)
abbrev aUg:Ty:=(.cons tI aUf)
abbrev ahJ:Ty:=(.sl aUg)
abbrev aUh:Ty:=(.cons ahJ .nil)
abbrev aUi:Ty:=(.cons T98 aUh)
noncomputable def c7:=bW Tryz.f7
theorem cl7:bV 7 Tryz.f7 c7:=bX
abbrev a7:Ty:=.nil
abbrev r7:Ty:=T3
noncomputable def G7:Ctx:=Ctx.of [(11,.pure k11),(13,.pure k13),(22,.pure k22),(25,.pure k25),(30,.pure k30),(37,.pure k37),(38,.pure k38),(39,.pure k39),(40,.pure k40),(41,.pure k41),(42,.pure k42),(43,.pure k43),(44,.pure k44)]
theorem g7:SP G7:=aB (fa ⟨⟨anb.c,h11⟩,fa ⟨⟨aqu.c,h13⟩,fa ⟨⟨ang.c,h22⟩,fa ⟨⟨aoh.c,h25⟩,fa ⟨⟨ahr.c,h30⟩,fa ⟨⟨aBZ.c,h37⟩,fa ⟨⟨aB0.c,h38⟩,fa ⟨⟨aye.c,h39⟩,fa ⟨⟨aBp.c,h40⟩,fa ⟨⟨ayN.c,h41⟩,fa ⟨⟨azy.c,h42⟩,fa ⟨⟨azC.c,h43⟩,fa ⟨⟨azq.c,h44⟩,f0⟩⟩⟩⟩⟩⟩⟩⟩⟩⟩⟩⟩⟩)
theorem lo7:ay (c7)=[]:=by kernel_rfl
noncomputable def l7:List Loop:=[]
def Q7 {α:Type} (l:Option (r7).den->α) (an:α->α->α) (x:(a7).den):α:=cl (Vs).dflt (M37 ()) (fun u0=>cl (r38).dflt (M38 ()) (fun u1=>cl (Xw).dflt (M22 (u0.1,(u1.1,()))) (fun u2=>cl (Vs).dflt (M37 ()) (fun u3=>cl (Xs).dflt (Xv (u0.1,((0:Int),((30:Int),())))) (fun u4=>cl (r39).dflt (M39 ()) (fun u5=>cl (Ye).dflt (M25 (u5.1,())) (fun u6=>cl (r40).dflt (M40 ()) (fun u7=>cl (r30).dflt (M30 (u7.1,())) (fun u8=>cl (r42).dflt (M42 ()) (fun u9=>cl (r41).dflt (M41 (u9.1,())) (fun FH=>cl (r43).dflt (M43 ()) (fun TJ=>cl (r13).dflt (M13 (TJ.1,())) (fun HN=>bif (!(decide (u2.2.1=(0:Int)))) then l (some (false,())) else bif (!(decide (u4.2.1=(0:Int)))) then l (some (false,())) else bif (!(decide (u6.2.1=(0:Int)))) then l (some (false,())) else bif (!(decide (u8.2.1=(0:Int)))) then l (some (false,())) else bif (!(decide (FH.2.1=(0:Int)))) then l (some (false,())) else bif (!(decide (HN.2.2.1=(0:Int)))) then l (some (false,())) else bif (!(decide (((u6.1.n:Nat):Int)=(12:Int)))) then l (some (false,())) else bif ((decide (u2.1.2.2.1=(75627:Int))) && ((decide (u2.1.2.2.2.1=(75779:Int))) && true)) then bif (decide (u4.1=(33:Int))) then bif (decide (((0:Int)<=(5:Int))/\((5:Int) < ((u6.1.n:Nat):Int)))) then bif ((decide ((u6.1.g 5).1=(75850:Int))) && ((decide ((u6.1.g 5).2.1=(75870:Int))) && true)) then bif (decide (((u8.1.n:Nat):Int)=(2:Int))) then bif (decide (FH.1=(3:Int))) then cl (r44).dflt (M44 (HN.1,((⟨3,fun i=>List.getD [((0:Int),()),((1:Int),()),((2:Int),())] i ((0:Int),())⟩:Sl _),()))) (fun nG=>bif nG.1 then l (some ((decide (HN.2.1=(11:Int))),())) else l (some (false,()))) (l none) else l (some (false,())) else l (some (false,())) else l (some (false,())) else l none else l (some (false,())) else l (some (false,()))) (l none)) (l none)) (l none)) (l none)) (l none)) (l none)) (l none)) (l none)) (l none)) (l none)) (l none)) (l none)) (l none)
def Q7g (m11:(a11).den->Option (Xs).den) (m13:(a13).den->Option (r13).den) (m22:(a22).den->Option (Xw).den) (m25:(a25).den->Option (Ye).den) (m30:(a30).den->Option (r30).den) (m37:(a37).den->Option (Vs).den) (m38:(a38).den->Option (r38).den) (m39:(a39).den->Option (r39).den) (m40:(a40).den->Option (r40).den) (m41:(a41).den->Option (r41).den) (m42:(a42).den->Option (r42).den) (m43:(a43).den->Option (r43).den) (m44:(a44).den->Option (r44).den) {α:Type} (l:Option (r7).den->α) (an:α->α->α) (x:(a7).den):α:=cl (Vs).dflt (m37 ()) (fun u0=>cl (r38).dflt (m38 ()) (fun u1=>cl (Xw).dflt (m22 (u0.1,(u1.1,()))) (fun u2=>cl (Vs).dflt (m37 ()) (fun u3=>cl (Xs).dflt (m11 (u0.1,((0:Int),((30:Int),())))) (fun u4=>cl (r39).dflt (m39 ()) (fun u5=>cl (Ye).dflt (m25 (u5.1,())) (fun u6=>cl (r40).dflt (m40 ()) (fun u7=>cl (r30).dflt (m30 (u7.1,())) (fun u8=>cl (r42).dflt (m42 ()) (fun u9=>cl (r41).dflt (m41 (u9.1,())) (fun FH=>cl (r43).dflt (m43 ()) (fun TJ=>cl (r13).dflt (m13 (TJ.1,())) (fun HN=>bif (!(decide (u2.2.1=(0:Int)))) then l (some (false,())) else bif (!(decide (u4.2.1=(0:Int)))) then l (some (false,())) else bif (!(decide (u6.2.1=(0:Int)))) then l (some (false,())) else bif (!(decide (u8.2.1=(0:Int)))) then l (some (false,())) else bif (!(decide (FH.2.1=(0:Int)))) then l (some (false,())) else bif (!(decide (HN.2.2.1=(0:Int)))) then l (some (false,())) else bif (!(decide (((u6.1.n:Nat):Int)=(12:Int)))) then l (some (false,())) else bif ((decide (u2.1.2.2.1=(75627:Int))) && ((decide (u2.1.2.2.2.1=(75779:Int))) && true)) then bif (decide (u4.1=(33:Int))) then bif (decide (((0:Int)<=(5:Int))/\((5:Int) < ((u6.1.n:Nat):Int)))) then bif ((decide ((u6.1.g 5).1=(75850:Int))) && ((decide ((u6.1.g 5).2.1=(75870:Int))) && true)) then bif (decide (((u8.1.n:Nat):Int)=(2:Int))) then bif (decide (FH.1=(3:Int))) then cl (r44).dflt (m44 (HN.1,((⟨3,fun i=>List.getD [((0:Int),()),((1:Int),()),((2:Int),())] i ((0:Int),())⟩:Sl _),()))) (fun nG=>bif nG.1 then l (some ((decide (HN.2.1=(11:Int))),())) else l (some (false,()))) (l none) else l (some (false,())) else l (some (false,())) else l (some (false,())) else l none else l (some (false,())) else l (some (false,()))) (l none)) (l none)) (l none)) (l none)) (l none)) (l none)) (l none)) (l none)) (l none)) (l none)) (l none)) (l none)) (l none)
theorem q7g (m11:(a11).den->Option (Xs).den) (m13:(a13).den->Option (r13).den) (m22:(a22).den->Option (Xw).den) (m25:(a25).den->Option (Ye).den) (m30:(a30).den->Option (r30).den) (m37:(a37).den->Option (Vs).den) (m38:(a38).den->Option (r38).den) (m39:(a39).den->Option (r39).den) (m40:(a40).den->Option (r40).den) (m41:(a41).den->Option (r41).den) (m42:(a42).den->Option (r42).den) (m43:(a43).den->Option (r43).den) (m44:(a44).den->Option (r44).den) (x:(a7).den):me Tryz.prog E0 (Ctx.of [(11,.pure (qy (τa:=a11) (τr:=Xs) m11)),(13,.pure (qy (τa:=a13) (τr:=r13) m13)),(22,.pure (qy (τa:=a22) (τr:=Xw) m22)),(25,.pure (qy (τa:=a25) (τr:=Ye) m25)),(30,.pure (qy (τa:=a30) (τr:=r30) m30)),(37,.pure (qy (τa:=a37) (τr:=Vs) m37)),(38,.pure (qy (τa:=a38) (τr:=r38) m38)),(39,.pure (qy (τa:=a39) (τr:=r39) m39)),(40,.pure (qy (τa:=a40) (τr:=r40) m40)),(41,.pure (qy (τa:=a41) (τr:=r41) m41)),(42,.pure (qy (τa:=a42) (τr:=r42) m42)),(43,.pure (qy (τa:=a43) (τr:=r43) m43)),(44,.pure (qy (τa:=a44) (τr:=r44) m44))]) Tryz.f7 l7 a7 r7 x=Q7g m11 m13 m22 m25 m30 m37 m38 m39 m40 m41 m42 m43 m44 .leaf .any x:=by kernel_rfl
theorem q7 (x:(a7).den):me Tryz.prog E0 G7 Tryz.f7 l7 a7 r7 x=Q7 .leaf .any x:=q7g Xv M13 M22 M25 M30 M37 M38 M39 M40 M41 M42 M43 M44 x
def M7 (x:(a7).den):Option (r7).den:=Q7 (fun r=>r) (fun _ _=>none) x
theorem m7 (x:(a7).den):(me Tryz.prog E0 G7 Tryz.f7 l7 a7 r7 x).sure=M7 x:=by rw [q7]; unfold M7 Q7; simp only [Tree.sure,sus]
def p7 (x:(a7).den):Bool:=(M7 x).isSome
def v7 (x:(a7).den):(r7).den:=(M7 x).getD (r7).dflt
def k7:Con:=⟨a7,r7,p7,v7⟩
theorem h7:aQ Tryz.prog 7 k7:=mj (E:=E0) bS g7 bN bH cl7.a cl7.b (by kernel_rfl) m7 fun G' hlo hF hE=>aP (by rw [lo7]; exact .nil)
abbrev UZ:Ty:=(.sl T16)
abbrev aUl:Ty:=(.cons (.sl T0) zC)
abbrev aUm:Ty:=(.cons UZ aUl)
abbrev aUn:Ty:=(.cons Zv aUm)
abbrev aUo:Ty:=(.cons ahJ aeY)
abbrev aUp:Ty:=(.cons T98 aUo)
noncomputable def c5:=bW Tryz.f5
abbrev aUM:Ty:=(.cons anQ aqv)
abbrev aUN:Ty:=(.cons T98 aUM)
abbrev aUO:Ty:=(.cons Ob aUN)
theorem cl5:bV 5 Tryz.f5 c5:=bX
abbrev a5:Ty:=aUO
abbrev r5:Ty:=T3
noncomputable def G5:Ctx:=Ctx.of [(7,.pure k7),(19,.pure k19),(20,.pure k20),(24,.pure k24),(27,.pure k27),(28,.pure k28),(29,.pure k29),(30,.pure k30),(31,.pure k31),(32,.pure k32),(33,.pure k33),(34,.pure k34)]
theorem g5:SP G5:=aB (fa ⟨⟨cl7.c,h7⟩,fa ⟨⟨aoB.c,h19⟩,fa ⟨⟨aox.c,h20⟩,fa ⟨⟨afg.c,h24⟩,fa ⟨⟨aBv.c,h27⟩,fa ⟨⟨afj.c,h28⟩,fa ⟨⟨ayc.c,h29⟩,fa ⟨⟨ahr.c,h30⟩,fa ⟨⟨aA1.c,h31⟩,fa ⟨⟨aBD.c,h32⟩,fa ⟨⟨aBE.c,h33⟩,fa ⟨⟨aBk.c,h34⟩,f0⟩⟩⟩⟩⟩⟩⟩⟩⟩⟩⟩⟩)
noncomputable def ahU:Code:=bn ((ay (c5))[0]?)
theorem aCl:ay (ahU)=[]:=by kernel_rfl
abbrev wX:List bg:=[.slot 3 (.pc (.sl T0)),.slot 4 (.pc tI),.slot 5 (.pc tI),.slot 6 (.ptr 6),.slot 7 (.ptr 7),.slot 8 (.ptr 8),.box 6 [.pc tI,.pc fM,.pc (.sl T2),.pc fq,.pc tI,.pc tI,.pc tI,.pc tI,.pc tI],.box 7 [.pc tI,.pc tI,.pc tI,.pc (.sl T2)],.box 8 [.pc tI,.pc (.sl T0)]]
abbrev tB:List bg:=[.slot 13 (.pc tI)]
abbrev RU:List bg:=wX ++ tB
def ahV:ZJ wX tB RU:=ZA _ _
def ak7:ZS wX tB RU:=ZP _ _
abbrev ace:bk:=⟨[(0,[.slot 3 (.pc (.sl T0)),.slot 4 (.pc tI),.slot 5 (.pc tI),.slot 6 (.ptr 6),.slot 7 (.ptr 7),.slot 8 (.ptr 8),.box 6 [.pc tI,.pc fM,.pc (.sl T2),.pc fq,.pc tI,.pc tI,.pc tI,.pc tI,.pc tI],.box 7 [.pc tI,.pc tI,.pc tI,.pc (.sl T2)],.box 8 [.pc tI,.pc (.sl T0)]])],[.slot 12 (.pc .bool)],[]⟩
abbrev RV:bk:=⟨[(0,[])],[.slot 12 (.pc .bool)],[]⟩
def acf:ZE wX RV ace:=fun id=>match id with | 0=>fun c y=>(c.1,(c.2.1,(c.2.2.1,(c.2.2.2.1,(c.2.2.2.2.1,(c.2.2.2.2.2.1,(c.2.2.2.2.2.2.1,(c.2.2.2.2.2.2.2.1,(c.2.2.2.2.2.2.2.2.1,y))))))))) | _=>gC
def asY {α:Type} (l:RQ tB RV->α) (an:α->α->α) (c:ZD wX) (v:ZD tB):α:=bif (decide (v.1 < ((c.1.n:Nat):Int))) then bif (decide (((0:Int)<=v.1)/\(v.1 < ((c.1.n:Nat):Int)))) then cl (r28).dflt (M28 (c.2.2.2.2.2.2.2.1,(c.1.g (Int.toNat v.1)))) (fun u0=>bif (!u0.1) then cl (r7).dflt (M7 ()) (fun u1=>l (.out (.ret u1))) (l .bad) else l (.next ((W (v.1 + (1:Int))),()))) (l .bad) else l .bad else l (.out (.exit 0 ()))
theorem aUP (c:ZD wX) (v:ZD tB):cG Tryz.prog (E0.rw [127] []) G5 0 376 [] RU ace ahU [] (ahV c v)=asY (fun r=>.leaf (r.lift ahV acf ZI ZI c)) .any c v:=by kernel_rfl
def asZ (c:ZD wX) (v:ZD tB):RQ tB RV:=asY (fun r=>r) (fun _ _=>.bad) c v
theorem aUQ (c:ZD wX) (v:ZD tB):bE (cG Tryz.prog (E0.rw [127] []) G5 0 376 [] RU ace ahU [] (ahV c v))=(asZ c v).lift ahV acf ZI ZI c:=by rw [aUP]; unfold asZ asY; simp only [bE,bq,dqs]
def as0 (c:ZD wX) (v:ZD tB):LQ RV:=bB (asZ c) dw v
noncomputable def ahW:Code:=bn ((ay (c5))[1]?)
theorem aCm:ay (ahW)=[]:=by kernel_rfl
abbrev wY:List bg:=[.slot 3 (.pc (.sl T0)),.slot 4 (.pc tI),.slot 5 (.pc tI),.slot 6 (.ptr 6),.slot 7 (.ptr 7),.slot 8 (.ptr 8),.slot 16 (.ptr 1153),.box 6 [.pc tI,.pc fM,.pc (.sl T2),.pc fq,.pc tI,.pc tI,.pc tI,.pc tI,.pc tI],.box 7 [.pc tI,.pc tI,.pc tI,.pc (.sl T2)],.box 8 [.pc tI,.pc (.sl T0)]]
abbrev tD:List bg:=[.slot 17 (.pc tI),.box 1153 [.pc tI,.rw 1640 93 Mo,.pc (.sl T2),.pc fq,.pc tI,.pc tI,.pc tI,.pc tI,.pc tI]]
abbrev RW:List bg:=wY ++ tD
def ahX:ZJ wY tD RW:=ZA _ _
def ak8:ZS wY tD RW:=ZP _ _
abbrev acg:bk:=⟨[(2,[.slot 3 (.pc (.sl T0)),.slot 4 (.pc tI),.slot 5 (.pc tI),.slot 6 (.ptr 6),.slot 7 (.ptr 7),.slot 16 (.ptr 1153),.box 6 [.pc tI,.pc fM,.pc (.sl T2),.pc fq,.pc tI,.pc tI,.pc tI,.pc tI,.pc tI],.box 7 [.pc tI,.pc tI,.pc tI,.pc (.sl T2)],.box 1153 [.pc tI,.rw 1640 93 Mo,.pc (.sl T2),.pc fq,.pc tI,.pc tI,.pc tI,.pc tI,.pc tI]])],[],[]⟩
abbrev RX:bk:=⟨[(2,[.box 1153 [.pc tI,.rw 1640 93 Mo,.pc (.sl T2),.pc fq,.pc tI,.pc tI,.pc tI,.pc tI,.pc tI]])],[],[]⟩
def ach:ZE wY RX acg:=fun id=>match id with | 2=>fun c y=>(c.1,(c.2.1,(c.2.2.1,(c.2.2.2.1,(c.2.2.2.2.1,(c.2.2.2.2.2.2.1,(c.2.2.2.2.2.2.2.1,(c.2.2.2.2.2.2.2.2.1,y)))))))) | _=>gC
def as1 {α:Type} (l:RQ tD RX->α) (an:α->α->α) (c:ZD wY) (v:ZD tD):α:=bif (decide (v.1 < ((v.2.1.2.1.n:Nat):Int))) then bif (decide (((0:Int)<=(0:Int))/\((0:Int) < ((c.2.2.2.2.2.2.2.1.2.1.n:Nat):Int)))) then bif (decide (((0:Int)<=v.1)/\(v.1 < ((c.2.2.2.2.2.2.2.1.2.1.n:Nat):Int)))) then bif (decide (((0:Int)<=(c.2.2.2.2.2.2.2.1.2.1.g (Int.toNat v.1)).1)/\((c.2.2.2.2.2.2.2.1.2.1.g (Int.toNat v.1)).1 < ((c.1.n:Nat):Int)))) then bif (decide (((0:Int)<=(c.1.g (Int.toNat (c.2.2.2.2.2.2.2.1.2.1.g (Int.toNat v.1)).1)).1)/\((c.1.g (Int.toNat (c.2.2.2.2.2.2.2.1.2.1.g (Int.toNat v.1)).1)).1 < ((c.2.2.2.2.2.2.2.2.2.1.2.1.n:Nat):Int)))) then bif (decide (((0:Int)<=v.1)/\(v.1 < ((v.2.1.2.1.n:Nat):Int)))) then bif (decide (((0:Int)<=v.1)/\(v.1 < (((cm v.2.1.2.1 (Int.toNat v.1) ((v.2.1.2.1.g (Int.toNat v.1)).1,((c.2.2.2.2.2.2.2.1.2.1.g 0).2.1,(v.2.1.2.1.g (Int.toNat v.1)).2.2))).n:Nat):Int)))) then l (.next ((W (v.1 + (1:Int))),((v.2.1.1,((cm (cm v.2.1.2.1 (Int.toNat v.1) ((v.2.1.2.1.g (Int.toNat v.1)).1,((c.2.2.2.2.2.2.2.1.2.1.g 0).2.1,(v.2.1.2.1.g (Int.toNat v.1)).2.2))) (Int.toNat v.1) (((cm v.2.1.2.1 (Int.toNat v.1) ((v.2.1.2.1.g (Int.toNat v.1)).1,((c.2.2.2.2.2.2.2.1.2.1.g 0).2.1,(v.2.1.2.1.g (Int.toNat v.1)).2.2))).g (Int.toNat v.1)).1,(((cm v.2.1.2.1 (Int.toNat v.1) ((v.2.1.2.1.g (Int.toNat v.1)).1,((c.2.2.2.2.2.2.2.1.2.1.g 0).2.1,(v.2.1.2.1.g (Int.toNat v.1)).2.2))).g (Int.toNat v.1)).2.1,((c.2.2.2.2.2.2.2.2.2.1.2.1.g (Int.toNat (c.1.g (Int.toNat (c.2.2.2.2.2.2.2.1.2.1.g (Int.toNat v.1)).1)).1)).1,((cm v.2.1.2.1 (Int.toNat v.1) ((v.2.1.2.1.g (Int.toNat v.1)).1,((c.2.2.2.2.2.2.2.1.2.1.g 0).2.1,(v.2.1.2.1.g (Int.toNat v.1)).2.2))).g (Int.toNat v.1)).2.2.2)))),v.2.1.2.2)),()))) else l .bad else l .bad else l .bad else l .bad else l .bad else l .bad else l (.out (.exit 2 (v.2.1,())))
theorem aUR (c:ZD wY) (v:ZD tD):cG Tryz.prog (E0.rw [127] []) G5 0 376 [] RW acg ahW [] (ahX c v)=as1 (fun r=>.leaf (r.lift ahX ach ZI ZI c)) .any c v:=by kernel_rfl
def as2 (c:ZD wY) (v:ZD tD):RQ tD RX:=as1 (fun r=>r) (fun _ _=>.bad) c v
theorem aUS (c:ZD wY) (v:ZD tD):bE (cG Tryz.prog (E0.rw [127] []) G5 0 376 [] RW acg ahW [] (ahX c v))=(as2 c v).lift ahX ach ZI ZI c:=by rw [aUR]; unfold as2 as1; simp only [bE,bq,dqs]
def aCn (c:ZD wY) (v:ZD tD):LQ RX:=bB (as2 c) dw v
noncomputable def ahY:Code:=bn ((ay (c5))[2]?)
theorem aCo:ay (ahY)=[]:=by kernel_rfl
abbrev wZ:List bg:=[.slot 3 (.pc (.sl T0)),.slot 4 (.pc tI),.slot 5 (.pc tI),.slot 6 (.ptr 6),.slot 7 (.ptr 7),.slot 16 (.ptr 1153),.box 6 [.pc tI,.pc fM,.pc (.sl T2),.pc fq,.pc tI,.pc tI,.pc tI,.pc tI,.pc tI],.box 7 [.pc tI,.pc tI,.pc tI,.pc (.sl T2)],.box 1153 [.pc tI,.rw 1640 93 Mo,.pc (.sl T2),.pc fq,.pc tI,.pc tI,.pc tI,.pc tI,.pc tI]]
abbrev tE:List bg:=[.slot 18 (.pc .bool),.slot 19 (.pc tI)]
abbrev RY:List bg:=wZ ++ tE
def ahZ:ZJ wZ tE RY:=ZA _ _
def ak9:ZS wZ tE RY:=ZP _ _
abbrev aci:bk:=⟨[(4,[.slot 3 (.pc (.sl T0)),.slot 4 (.pc tI),.slot 5 (.pc tI),.slot 6 (.ptr 6),.slot 7 (.ptr 7),.slot 16 (.ptr 1153),.box 6 [.pc tI,.pc fM,.pc (.sl T2),.pc fq,.pc tI,.pc tI,.pc tI,.pc tI,.pc tI],.box 7 [.pc tI,.pc tI,.pc tI,.pc (.sl T2)],.box 1153 [.pc tI,.rw 1640 93 Mo,.pc (.sl T2),.pc fq,.pc tI,.pc tI,.pc tI,.pc tI,.pc tI],.slot 18 (.pc .bool)])],[],[]⟩
abbrev RZ:bk:=⟨[(4,[.slot 18 (.pc .bool)])],[],[]⟩
def acj:ZE wZ RZ aci:=fun id=>match id with | 4=>fun c y=>(c.1,(c.2.1,(c.2.2.1,(c.2.2.2.1,(c.2.2.2.2.1,(c.2.2.2.2.2.1,(c.2.2.2.2.2.2.1,(c.2.2.2.2.2.2.2.1,(c.2.2.2.2.2.2.2.2.1,y))))))))) | _=>gC
def as3 {α:Type} (l:RQ tE RZ->α) (an:α->α->α) (c:ZD wZ) (v:ZD tE):α:=bif (decide (v.2.1 < ((c.2.2.2.2.2.2.1.2.2.1.n:Nat):Int))) then bif (decide (((0:Int)<=v.2.1)/\(v.2.1 < ((c.2.2.2.2.2.2.1.2.2.1.n:Nat):Int)))) then bif v.1 then bif (decide (((0:Int)<=(c.2.2.2.2.2.2.1.2.2.1.g (Int.toNat v.2.1)).1)/\((c.2.2.2.2.2.2.1.2.2.1.g (Int.toNat v.2.1)).1 < ((c.1.n:Nat):Int)))) then bif (decide (((0:Int)<=(c.2.2.2.2.2.2.1.2.2.1.g (Int.toNat v.2.1)).2.1)/\((c.2.2.2.2.2.2.1.2.2.1.g (Int.toNat v.2.1)).2.1 < ((c.1.n:Nat):Int)))) then cl (r29).dflt (M29 (c.2.2.2.2.2.2.2.1.1,((c.1.g (Int.toNat (c.2.2.2.2.2.2.1.2.2.1.g (Int.toNat v.2.1)).1)).1,(c.1.g (Int.toNat (c.2.2.2.2.2.2.1.2.2.1.g (Int.toNat v.2.1)).2.1))))) (fun u2=>l (.next ((decide ((W (c.2.2.2.2.2.2.2.1.2.2.1 * u2.1)) < (c.2.2.2.2.2.2.1.2.2.1.g (Int.toNat v.2.1)).2.2.1)),((W (v.2.1 + (1:Int))),())))) (l .bad) else l .bad else l .bad else l (.next (false,((W (v.2.1 + (1:Int))),()))) else l .bad else l (.out (.exit 4 (v.1,())))
theorem aUT (c:ZD wZ) (v:ZD tE):cG Tryz.prog (E0.rw [127] []) G5 0 376 [] RY aci ahY [] (ahZ c v)=as3 (fun r=>.leaf (r.lift ahZ acj ZI ZI c)) .any c v:=by kernel_rfl
def as4 (c:ZD wZ) (v:ZD tE):RQ tE RZ:=as3 (fun r=>r) (fun _ _=>.bad) c v
theorem aUU (c:ZD wZ) (v:ZD tE):bE (cG Tryz.prog (E0.rw [127] []) G5 0 376 [] RY aci ahY [] (ahZ c v))=(as4 c v).lift ahZ acj ZI ZI c:=by rw [aUT]; unfold as4 as3; simp only [bE,bq,dqs]
def aCp (c:ZD wZ) (v:ZD tE):LQ RZ:=bB (as4 c) dw v
noncomputable def ack:Code:=bn ((ay (c5))[3]?)
noncomputable def HR:Code:=bn ((ay (ack))[0]?)
theorem ah0:ay (HR)=[]:=by kernel_rfl
abbrev kE:List bg:=[.slot 3 (.pc (.sl T0)),.slot 4 (.pc tI),.slot 5 (.pc tI),.slot 6 (.ptr 6),.slot 7 (.ptr 7),.slot 16 (.ptr 1153),.slot 18 (.pc .bool),.slot 21 (.pc (.sl T1)),.slot 25 (.pc tI),.slot 26 (.pc tI),.slot 29 (.ptr 2311),.slot 30 (.ptr 2312),.box 6 [.pc tI,.pc fM,.pc (.sl T2),.pc fq,.pc tI,.pc tI,.pc tI,.pc tI,.pc tI],.box 7 [.pc tI,.pc tI,.pc tI,.pc (.sl T2)],.box 1153 [.pc tI,.pc fM,.pc (.sl T2),.pc fq,.pc tI,.pc tI,.pc tI,.pc tI,.pc tI],.box 2311 [.pc tI,.pc tI,.pc tI,.pc tI,.pc tI,.pc tI,.pc tI],.box 2312 [.pc tI,.pc tI,.pc tI,.pc tI,.pc tI,.pc tI,.pc tI]]
abbrev jt:List bg:=[.slot 31 (.pc .bool),.slot 32 (.pc tI)]
abbrev AA:List bg:=kE ++ jt
def HS:ZJ kE jt AA:=ZA _ _
def HT:ZS kE jt AA:=ZP _ _
abbrev HU:bk:=⟨[(8,[.slot 3 (.pc (.sl T0)),.slot 4 (.pc tI),.slot 5 (.pc tI),.slot 6 (.ptr 6),.slot 7 (.ptr 7),.slot 16 (.ptr 1153),.slot 18 (.pc .bool),.slot 21 (.pc (.sl T1)),.slot 25 (.pc tI),.slot 26 (.pc tI),.box 6 [.pc tI,.pc fM,.pc (.sl T2),.pc fq,.pc tI,.pc tI,.pc tI,.pc tI,.pc tI],.box 7 [.pc tI,.pc tI,.pc tI,.pc (.sl T2)],.box 1153 [.pc tI,.pc fM,.pc (.sl T2),.pc fq,.pc tI,.pc tI,.pc tI,.pc tI,.pc tI],.slot 31 (.pc .bool)])],[],[]⟩
abbrev AB:bk:=⟨[(8,[.slot 31 (.pc .bool)])],[],[]⟩
def AD:ZE kE AB HU:=fun id=>match id with | 8=>fun c y=>(c.1,(c.2.1,(c.2.2.1,(c.2.2.2.1,(c.2.2.2.2.1,(c.2.2.2.2.2.1,(c.2.2.2.2.2.2.1,(c.2.2.2.2.2.2.2.1,(c.2.2.2.2.2.2.2.2.1,(c.2.2.2.2.2.2.2.2.2.1,(c.2.2.2.2.2.2.2.2.2.2.2.2.1,(c.2.2.2.2.2.2.2.2.2.2.2.2.2.1,(c.2.2.2.2.2.2.2.2.2.2.2.2.2.2.1,y))))))))))))) | _=>gC
def OV {α:Type} (l:RQ jt AB->α) (an:α->α->α) (c:ZD kE) (v:ZD jt):α:=bif (decide (v.2.1 < ((c.2.2.2.2.2.2.2.2.2.2.2.2.1.2.2.1.n:Nat):Int))) then bif (decide (((0:Int)<=v.2.1)/\(v.2.1 < ((c.2.2.2.2.2.2.2.2.2.2.2.2.1.2.2.1.n:Nat):Int)))) then bif (decide ((c.2.2.2.2.2.2.2.2.2.2.2.2.1.2.2.1.g (Int.toNat v.2.1)).1=c.2.2.2.2.2.2.2.2.2.2.2.2.2.2.2.1.1)) then bif (decide ((c.2.2.2.2.2.2.2.2.2.2.2.2.1.2.2.1.g (Int.toNat v.2.1)).2.1=c.2.2.2.2.2.2.2.2.2.2.2.2.2.2.2.2.1.1)) then bif v.1 then l (.next (true,((W (v.2.1 + (1:Int))),()))) else bif (decide ((c.2.2.2.2.2.2.2.2.2.2.2.2.1.2.2.1.g (Int.toNat v.2.1)).2.2.1<=(mx (W (c.2.2.2.2.2.2.2.2.2.2.2.2.2.2.2.1.2.2.1 - c.2.2.2.2.2.2.2.2.2.2.2.2.2.2.2.2.1.2.2.1)) (W (c.2.2.2.2.2.2.2.2.2.2.2.2.2.2.2.2.1.2.2.1 - c.2.2.2.2.2.2.2.2.2.2.2.2.2.2.2.1.2.2.1))))) then bif (decide (((0:Int)<=(c.2.2.2.2.2.2.2.2.2.2.2.2.1.2.2.1.g (Int.toNat v.2.1)).1)/\((c.2.2.2.2.2.2.2.2.2.2.2.2.1.2.2.1.g (Int.toNat v.2.1)).1 < ((c.1.n:Nat):Int)))) then bif (decide (((0:Int)<=(c.2.2.2.2.2.2.2.2.2.2.2.2.1.2.2.1.g (Int.toNat v.2.1)).2.1)/\((c.2.2.2.2.2.2.2.2.2.2.2.2.1.2.2.1.g (Int.toNat v.2.1)).2.1 < ((c.1.n:Nat):Int)))) then cl (r29).dflt (M29 (c.2.2.2.2.2.2.2.2.2.2.2.2.2.1.1,((c.1.g (Int.toNat (c.2.2.2.2.2.2.2.2.2.2.2.2.1.2.2.1.g (Int.toNat v.2.1)).1)).1,(c.1.g (Int.toNat (c.2.2.2.2.2.2.2.2.2.2.2.2.1.2.2.1.g (Int.toNat v.2.1)).2.1))))) (fun u3=>l (.next ((decide ((c.2.2.2.2.2.2.2.2.2.2.2.2.1.2.2.1.g (Int.toNat v.2.1)).2.2.1<=(W (c.2.2.2.2.2.2.2.2.2.2.2.2.2.1.2.2.1 * u3.1)))),((W (v.2.1 + (1:Int))),())))) (l .bad) else l .bad else l .bad else l (.next (false,((W (v.2.1 + (1:Int))),()))) else bif (decide ((c.2.2.2.2.2.2.2.2.2.2.2.2.1.2.2.1.g (Int.toNat v.2.1)).1=c.2.2.2.2.2.2.2.2.2.2.2.2.2.2.2.2.1.1)) then bif v.1 then l (.next (true,((W (v.2.1 + (1:Int))),()))) else bif (decide ((c.2.2.2.2.2.2.2.2.2.2.2.2.1.2.2.1.g (Int.toNat v.2.1)).2.1=c.2.2.2.2.2.2.2.2.2.2.2.2.2.2.2.1.1)) then bif (decide ((c.2.2.2.2.2.2.2.2.2.2.2.2.1.2.2.1.g (Int.toNat v.2.1)).2.2.1<=(mx (W (c.2.2.2.2.2.2.2.2.2.2.2.2.2.2.2.1.2.2.1 - c.2.2.2.2.2.2.2.2.2.2.2.2.2.2.2.2.1.2.2.1)) (W (c.2.2.2.2.2.2.2.2.2.2.2.2.2.2.2.2.1.2.2.1 - c.2.2.2.2.2.2.2.2.2.2.2.2.2.2.2.1.2.2.1))))) then bif (decide (((0:Int)<=(c.2.2.2.2.2.2.2.2.2.2.2.2.1.2.2.1.g (Int.toNat v.2.1)).1)/\((c.2.2.2.2.2.2.2.2.2.2.2.2.1.2.2.1.g (Int.toNat v.2.1)).1 < ((c.1.n:Nat):Int)))) then bif (decide (((0:Int)<=(c.2.2.2.2.2.2.2.2.2.2.2.2.1.2.2.1.g (Int.toNat v.2.1)).2.1)/\((c.2.2.2.2.2.2.2.2.2.2.2.2.1.2.2.1.g (Int.toNat v.2.1)).2.1 < ((c.1.n:Nat):Int)))) then cl (r29).dflt (M29 (c.2.2.2.2.2.2.2.2.2.2.2.2.2.1.1,((c.1.g (Int.toNat (c.2.2.2.2.2.2.2.2.2.2.2.2.1.2.2.1.g (Int.toNat v.2.1)).1)).1,(c.1.g (Int.toNat (c.2.2.2.2.2.2.2.2.2.2.2.2.1.2.2.1.g (Int.toNat v.2.1)).2.1))))) (fun u4=>l (.next ((decide ((c.2.2.2.2.2.2.2.2.2.2.2.2.1.2.2.1.g (Int.toNat v.2.1)).2.2.1<=(W (c.2.2.2.2.2.2.2.2.2.2.2.2.2.1.2.2.1 * u4.1)))),((W (v.2.1 + (1:Int))),())))) (l .bad) else l .bad else l .bad else l (.next (false,((W (v.2.1 + (1:Int))),()))) else l (.next (false,((W (v.2.1 + (1:Int))),()))) else bif v.1 then l (.next (true,((W (v.2.1 + (1:Int))),()))) else l (.next (false,((W (v.2.1 + (1:Int))),()))) else bif (decide ((c.2.2.2.2.2.2.2.2.2.2.2.2.1.2.2.1.g (Int.toNat v.2.1)).1=c.2.2.2.2.2.2.2.2.2.2.2.2.2.2.2.2.1.1)) then bif v.1 then l (.next (true,((W (v.2.1 + (1:Int))),()))) else bif (decide ((c.2.2.2.2.2.2.2.2.2.2.2.2.1.2.2.1.g (Int.toNat v.2.1)).2.1=c.2.2.2.2.2.2.2.2.2.2.2.2.2.2.2.1.1)) then bif (decide ((c.2.2.2.2.2.2.2.2.2.2.2.2.1.2.2.1.g (Int.toNat v.2.1)).2.2.1<=(mx (W (c.2.2.2.2.2.2.2.2.2.2.2.2.2.2.2.1.2.2.1 - c.2.2.2.2.2.2.2.2.2.2.2.2.2.2.2.2.1.2.2.1)) (W (c.2.2.2.2.2.2.2.2.2.2.2.2.2.2.2.2.1.2.2.1 - c.2.2.2.2.2.2.2.2.2.2.2.2.2.2.2.1.2.2.1))))) then bif (decide (((0:Int)<=(c.2.2.2.2.2.2.2.2.2.2.2.2.1.2.2.1.g (Int.toNat v.2.1)).1)/\((c.2.2.2.2.2.2.2.2.2.2.2.2.1.2.2.1.g (Int.toNat v.2.1)).1 < ((c.1.n:Nat):Int)))) then bif (decide (((0:Int)<=(c.2.2.2.2.2.2.2.2.2.2.2.2.1.2.2.1.g (Int.toNat v.2.1)).2.1)/\((c.2.2.2.2.2.2.2.2.2.2.2.2.1.2.2.1.g (Int.toNat v.2.1)).2.1 < ((c.1.n:Nat):Int)))) then cl (r29).dflt (M29 (c.2.2.2.2.2.2.2.2.2.2.2.2.2.1.1,((c.1.g (Int.toNat (c.2.2.2.2.2.2.2.2.2.2.2.2.1.2.2.1.g (Int.toNat v.2.1)).1)).1,(c.1.g (Int.toNat (c.2.2.2.2.2.2.2.2.2.2.2.2.1.2.2.1.g (Int.toNat v.2.1)).2.1))))) (fun u5=>l (.next ((decide ((c.2.2.2.2.2.2.2.2.2.2.2.2.1.2.2.1.g (Int.toNat v.2.1)).2.2.1<=(W (c.2.2.2.2.2.2.2.2.2.2.2.2.2.1.2.2.1 * u5.1)))),((W (v.2.1 + (1:Int))),())))) (l .bad) else l .bad else l .bad else l (.next (false,((W (v.2.1 + (1:Int))),()))) else l (.next (false,((W (v.2.1 + (1:Int))),()))) else bif v.1 then l (.next (true,((W (v.2.1 + (1:Int))),()))) else l (.next (false,((W (v.2.1 + (1:Int))),()))) else l .bad else l (.out (.exit 8 (v.1,())))
theorem as5 (c:ZD kE) (v:ZD jt):cG Tryz.prog (E0.rw [127] []) G5 0 376 [] AA HU HR [] (HS c v)=OV (fun r=>.leaf (r.lift HS AD ZI ZI c)) .any c v:=by kernel_rfl
def OW (c:ZD kE) (v:ZD jt):RQ jt AB:=OV (fun r=>r) (fun _ _=>.bad) c v
theorem as6 (c:ZD kE) (v:ZD jt):bE (cG Tryz.prog (E0.rw [127] []) G5 0 376 [] AA HU HR [] (HS c v))=(OW c v).lift HS AD ZI ZI c:=by rw [as5]; unfold OW OV; simp only [bE,bq,dqs]
def OX (c:ZD kE) (v:ZD jt):LQ AB:=bB (OW c) dw v
theorem aCq:ay (ack)=[.loop HR]:=by kernel_rfl
abbrev xb:List bg:=[.slot 3 (.pc (.sl T0)),.slot 4 (.pc tI),.slot 5 (.pc tI),.slot 6 (.ptr 6),.slot 7 (.ptr 7),.slot 16 (.ptr 1153),.slot 18 (.pc .bool),.slot 21 (.pc (.sl T1)),.slot 25 (.pc tI),.box 6 [.pc tI,.pc fM,.pc (.sl T2),.pc fq,.pc tI,.pc tI,.pc tI,.pc tI,.pc tI],.box 7 [.pc tI,.pc tI,.pc tI,.pc (.sl T2)],.box 1153 [.pc tI,.pc fM,.pc (.sl T2),.pc fq,.pc tI,.pc tI,.pc tI,.pc tI,.pc tI]]
abbrev tH:List bg:=[.slot 26 (.pc tI)]
abbrev Sa:List bg:=xb ++ tH
def ah1:ZJ xb tH Sa:=ZA _ _
def ala:ZS xb tH Sa:=ZP _ _
abbrev acm:bk:=⟨[(6,[.slot 4 (.pc tI),.slot 5 (.pc tI),.slot 16 (.ptr 1153),.slot 18 (.pc .bool),.slot 21 (.pc (.sl T1)),.slot 25 (.pc tI),.box 1153 [.pc tI,.pc fM,.pc (.sl T2),.pc fq,.pc tI,.pc tI,.pc tI,.pc tI,.pc tI]])],[.slot 12 (.pc .bool)],[]⟩
abbrev Sb:bk:=⟨[(6,[])],[.slot 12 (.pc .bool)],[]⟩
def acn:ZE xb Sb acm:=fun id=>match id with | 6=>fun c y=>(c.2.1,(c.2.2.1,(c.2.2.2.2.2.1,(c.2.2.2.2.2.2.1,(c.2.2.2.2.2.2.2.1,(c.2.2.2.2.2.2.2.2.1,(c.2.2.2.2.2.2.2.2.2.2.2.1,y))))))) | _=>gC
def as7 {α:Type} (l:RQ tH Sb->α) (an:α->α->α) (c:ZD xb) (v:ZD tH):α:=bif (decide (v.1 < ((c.2.2.2.2.2.2.2.1.n:Nat):Int))) then bif (decide (((0:Int)<=v.1)/\(v.1 < ((c.2.2.2.2.2.2.2.1.n:Nat):Int)))) then bif (decide (((0:Int)<=v.1)/\(v.1 < ((c.2.2.2.2.2.2.2.1.n:Nat):Int)))) then bif (decide ((c.2.2.2.2.2.2.2.1.g (Int.toNat v.1)).1 < (0:Int))) then l (.out (.ret (false,()))) else bif (decide ((c.2.2.2.2.2.2.2.1.g (Int.toNat v.1)).2.1<=(c.2.2.2.2.2.2.2.1.g (Int.toNat v.1)).1)) then l (.out (.ret (false,()))) else bif (decide (((c.2.2.2.2.2.2.2.2.2.2.2.1.2.1.n:Nat):Int)<=(c.2.2.2.2.2.2.2.1.g (Int.toNat v.1)).2.1)) then l (.out (.ret (false,()))) else bif (decide (((0:Int)<=(c.2.2.2.2.2.2.2.1.g (Int.toNat v.1)).1)/\((c.2.2.2.2.2.2.2.1.g (Int.toNat v.1)).1 < ((c.2.2.2.2.2.2.2.2.2.2.2.1.2.1.n:Nat):Int)))) then bif (decide (((0:Int)<=(c.2.2.2.2.2.2.2.1.g (Int.toNat v.1)).2.1)/\((c.2.2.2.2.2.2.2.1.g (Int.toNat v.1)).2.1 < ((c.2.2.2.2.2.2.2.2.2.2.2.1.2.1.n:Nat):Int)))) then bp (OX (c.1,(c.2.1,(c.2.2.1,((),((),((),(c.2.2.2.2.2.2.1,(c.2.2.2.2.2.2.2.1,(c.2.2.2.2.2.2.2.2.1,(v.1,((),((),(c.2.2.2.2.2.2.2.2.2.1,(c.2.2.2.2.2.2.2.2.2.2.1,(c.2.2.2.2.2.2.2.2.2.2.2.1,((c.2.2.2.2.2.2.2.2.2.2.2.1.2.1.g (Int.toNat (c.2.2.2.2.2.2.2.1.g (Int.toNat v.1)).1)),((c.2.2.2.2.2.2.2.2.2.2.2.1.2.1.g (Int.toNat (c.2.2.2.2.2.2.2.1.g (Int.toNat v.1)).2.1)),()))))))))))))))))) (false,((0:Int),()))) 8 (fun u6=>bif (!u6.1) then l (.out (.ret (false,()))) else l (.next ((W (v.1 + (1:Int))),()))) (l .bad) else l .bad else l .bad else l .bad else l .bad else l (.out (.exit 6 ()))
theorem aUV (c:ZD xb) (v:ZD tH):cG Tryz.prog (E0.rw [127] []) G5 0 376 [] Sa acm ack [lk 0 AD ZI ZI false HT OX] (ah1 c v)=as7 (fun r=>.leaf (r.lift ah1 acn ZI ZI c)) .any c v:=by kernel_rfl
def as8 (c:ZD xb) (v:ZD tH):RQ tH Sb:=as7 (fun r=>r) (fun _ _=>.bad) c v
theorem aUW (c:ZD xb) (v:ZD tH):bE (cG Tryz.prog (E0.rw [127] []) G5 0 376 [] Sa acm ack [lk 0 AD ZI ZI false HT OX] (ah1 c v))=(as8 c v).lift ah1 acn ZI ZI c:=by rw [aUV]; unfold as8 as7; simp only [bE,bq,dqs]
def aco (c:ZD xb) (v:ZD tH):LQ Sb:=bB (as8 c) dw v
theorem lo5:ay (c5)=[.loop ahU,.loop ahW,.loop ahY,.loop ack]:=by kernel_rfl
noncomputable def l5:List Loop:=[lk 0 acf ZI ZI true ak7 as0,lk 0 ach ZI ZI false ak8 aCn,lk 0 acj ZI ZI false ak9 aCp,lk 0 acn ZI ZI true ala aco]
def Q5 {α:Type} (l:Option (r5).den->α) (an:α->α->α) (x:(a5).den):α:=bif (decide ((12:Int) < ((x.1.2.1.n:Nat):Int))) then cl (r7).dflt (M7 ()) (fun u7=>l (some u7)) (l none) else bif (decide ((12:Int) < ((x.1.2.2.1.n:Nat):Int))) then cl (r7).dflt (M7 ()) (fun u8=>l (some u8)) (l none) else bif (decide ((8:Int) < ((x.1.2.2.2.1.n:Nat):Int))) then cl (r7).dflt (M7 ()) (fun u9=>l (some u9)) (l none) else bif (decide ((16:Int) < ((x.2.1.2.2.2.1.n:Nat):Int))) then cl (r7).dflt (M7 ()) (fun FH=>l (some FH)) (l none) else bif (decide ((40:Int) < ((x.2.2.1.2.1.n:Nat):Int))) then cl (r7).dflt (M7 ()) (fun TJ=>l (some TJ)) (l none) else cl (r19).dflt (M19 (x.2.1,())) (fun HN=>bif (!HN.1) then cl (r7).dflt (M7 ()) (fun nG=>l (some nG)) (l none) else cl (r20).dflt (M20 (x.2.2.1,())) (fun u14=>bif (!u14.1) then cl (r7).dflt (M7 ()) (fun yg=>l (some yg)) (l none) else bif (decide ((12:Int) < ((x.2.2.2.1.n:Nat):Int))) then cl (r7).dflt (M7 ()) (fun u16=>l (some u16)) (l none) else bif (!(decide (x.1.1=((x.2.2.2.1.n:Nat):Int)))) then cl (r7).dflt (M7 ()) (fun qz=>l (some qz)) (l none) else bif (decide (((x.1.2.1.n:Nat):Int)=(0:Int))) then cl (r7).dflt (M7 ()) (fun u18=>l (some u18)) (l none) else cl (r27).dflt (M27 (x.1,())) (fun u19=>bif (!u19.1) then cl (r7).dflt (M7 ()) (fun u20=>l (some u20)) (l none) else bp (as0 (x.2.2.2.1,(x.2.2.2.2.1,(x.2.2.2.2.2.1,((),((),((),(x.1,(x.2.1,(x.2.2.1,()))))))))) ((0:Int),())) 0 (fun u21=>cl (r24).dflt (M24 (x.2.1,(x.2.2.1,()))) (fun u22=>bif (!(decide (u22.2.1=(0:Int)))) then l (some (false,())) else bif (!u22.1) then cl (r7).dflt (M7 ()) (fun u23=>l (some u23)) (l none) else bif (decide ((x.1.2.1.n * 56)<=140737488355328)) then bp (aCn (x.2.2.2.1,(x.2.2.2.2.1,(x.2.2.2.2.2.1,((),((),((),((),(x.1,(x.2.1,(x.2.2.1,())))))))))) ((0:Int),(x.1,()))) 2 (fun Ih=>bp (aCp (x.2.2.2.1,(x.2.2.2.2.1,(x.2.2.2.2.2.1,((),((),((),(x.1,(x.2.1,(Ih.1,()))))))))) (true,((0:Int),()))) 4 (fun OT=>cl (r30).dflt (M30 (Ih.1,())) (fun u26=>cl (r31).dflt (M31 (Ih.1,())) (fun Vt=>bif (!(decide (u26.2.1=(0:Int)))) then l (some (false,())) else bif (!(decide (Vt.2.2.1=(0:Int)))) then bif (!(decide (Vt.2.2.1=(5:Int)))) then l (some (false,())) else bp (aco (x.2.2.2.1,(x.2.2.2.2.1,(x.2.2.2.2.2.1,((),((),((),(OT.1,(u26.1,(Vt.2.2.1,(x.1,(x.2.1,(Ih.1,())))))))))))) ((0:Int),())) 6 (fun u28=>bif (!OT.1) then cl (r7).dflt (M7 ()) (fun u29=>l (some u29)) (l none) else bif (!(decide (((u26.1.n:Nat):Int)=(0:Int)))) then l (some (false,())) else bif (!(decide (Vt.2.2.1=(5:Int)))) then l (some (false,())) else cl (r32).dflt (M32 (Ih.1,(x.2.2.2.2.1,()))) (fun u30=>bif (!u30.1) then cl (r7).dflt (M7 ()) (fun u31=>l (some u31)) (l none) else cl (r33).dflt (M33 x.2.2.2.2.2) (fun u32=>bif (!u32.1) then cl (r7).dflt (M7 ()) (fun u33=>l (some u33)) (l none) else cl (r34).dflt (M34 (Ih.1,x.2.2.2.2)) (fun u34=>bif (decide (u34.2.1=(0:Int))) then bif (decide (u34.1=(1:Int))) then cl (r7).dflt (M7 ()) (fun u35=>l (some u35)) (l none) else l (some (false,())) else l (some (false,()))) (l none)) (l none)) (l none)) (bK (aco (x.2.2.2.1,(x.2.2.2.2.1,(x.2.2.2.2.2.1,((),((),((),(OT.1,(u26.1,(Vt.2.2.1,(x.1,(x.2.1,(Ih.1,())))))))))))) ((0:Int),())) (fun u36=>l (some u36)) (l none)) else bp (aco (x.2.2.2.1,(x.2.2.2.2.1,(x.2.2.2.2.2.1,((),((),((),(OT.1,(u26.1,(Vt.2.2.1,(x.1,(x.2.1,(Ih.1,())))))))))))) ((0:Int),())) 6 (fun u37=>bif (!OT.1) then cl (r7).dflt (M7 ()) (fun u38=>l (some u38)) (l none) else bif (!(decide (((u26.1.n:Nat):Int)=(0:Int)))) then l (some (false,())) else bif (!(decide (Vt.2.2.1=(5:Int)))) then l (some (false,())) else cl (r32).dflt (M32 (Ih.1,(x.2.2.2.2.1,()))) (fun u39=>bif (!u39.1) then cl (r7).dflt (M7 ()) (fun u40=>l (some u40)) (l none) else cl (r33).dflt (M33 x.2.2.2.2.2) (fun u41=>bif (!u41.1) then cl (r7).dflt (M7 ()) (fun u42=>l (some u42)) (l none) else cl (r34).dflt (M34 (Ih.1,x.2.2.2.2)) (fun u43=>bif (decide (u43.2.1=(0:Int))) then bif (decide (u43.1=(1:Int))) then cl (r7).dflt (M7 ()) (fun u44=>l (some u44)) (l none) else l (some (false,())) else l (some (false,()))) (l none)) (l none)) (l none)) (bK (aco (x.2.2.2.1,(x.2.2.2.2.1,(x.2.2.2.2.2.1,((),((),((),(OT.1,(u26.1,(Vt.2.2.1,(x.1,(x.2.1,(Ih.1,())))))))))))) ((0:Int),())) (fun u45=>l (some u45)) (l none))) (l none)) (l none)) (l none)) (l none) else l none) (l none)) (bK (as0 (x.2.2.2.1,(x.2.2.2.2.1,(x.2.2.2.2.2.1,((),((),((),(x.1,(x.2.1,(x.2.2.1,()))))))))) ((0:Int),())) (fun u46=>l (some u46)) (l none))) (l none)) (l none)) (l none)
theorem q5 (x:(a5).den):me Tryz.prog (E0.rw [127] []) G5 Tryz.f5 l5 a5 r5 x=Q5 .leaf .any x:=by kernel_rfl
def M5 (x:(a5).den):Option (r5).den:=Q5 (fun r=>r) (fun _ _=>none) x
theorem m5 (x:(a5).den):(me Tryz.prog (E0.rw [127] []) G5 Tryz.f5 l5 a5 r5 x).sure=M5 x:=by rw [q5]; unfold M5 Q5; simp only [Tree.sure,sus]
def p5:=pO M5
def v5:=vO (τ:=r5) M5
def k5:Con:=⟨a5,r5,p5,v5⟩
theorem h5:aQ Tryz.prog 5 k5:=mj (E:=(E0.rw [127] [])) bS g5 bN bH cl5.a cl5.b (by kernel_rfl) m5 fun G' hlo hF hE=>aP (by rw [lo5]; exact .cons (fK hE hF hlo (aP (by rw [aCl]; exact .nil)) (by kernel_rfl) (by kernel_rfl) ak7 (fun _=>rfl) (fun _ _=>rfl) (aUQ) dw) (.cons (fK hE hF hlo (aP (by rw [aCm]; exact .nil)) (by kernel_rfl) (by kernel_rfl) ak8 (fun _=>rfl) (fun _ _=>rfl) (aUS) dw) (.cons (fK hE hF hlo (aP (by rw [aCo]; exact .nil)) (by kernel_rfl) (by kernel_rfl) ak9 (fun _=>rfl) (fun _ _=>rfl) (aUU) dw) (.cons (fK hE hF hlo (aP (by rw [aCq]; exact .cons (fK hE hF hlo (aP (by rw [ah0]; exact .nil)) (by kernel_rfl) (by kernel_rfl) HT (fun _=>rfl) (fun _ _=>rfl) (as6) dw) (.nil))) (by kernel_rfl) (by kernel_rfl) ala (fun _=>rfl) (fun _ _=>rfl) (aUW) dw) (.nil)))))
end Go.Dm

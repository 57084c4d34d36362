/-
 Each function of the program as a Lean function,and that its calls come to what that says.
-/
import Derived.Test.YtgkaoimndglnoaaGreatL5GA
set_option linter.unusedVariables false
set_option linter.unusedSimpArgs false
namespace Go.Dm
open Go.RowKit Go.Proofs
set_option maxRecDepth 100000
noncomputable def ayH:=bW Tryz.f185
theorem Zk:bV 185 Tryz.f185 ayH:=bX
abbrev Np:Ty:=.nil
abbrev aM0:Ty:=(.ptr ayD)
abbrev aM1:Ty:=(.cons aM0 .nil)
abbrev Nq:Ty:=aM1
abbrev ayI:Ty:=T1
theorem oS:Sound Tryz.prog (fun _=>none):=fun _ _ h=>by cases h
abbrev lC:Ty:=.cons tI .nil
abbrev rK:Ty:=.cons tI (.cons tI (.cons (.sl lC) (.cons (.sl lC) .nil)))
abbrev dB:Ty:=.cons tI (.cons tI .nil)
abbrev oT:List bg:=[.tr dB,.slot 0 .jI,.slot 1 (.pc (.ptr rK)),.slot 6 (.pc (.sl lC)),.slot 7 (.pc tI),.slot 8 (.pc tI)]
abbrev Gr:bk:=⟨[(0,[.tr dB])],[.tr dB],[.tr dB]⟩
noncomputable def JH:Code:=((Tryz.f185.body).bind dZ).getD .skip
def oU (tr:Sl dB.den) (i:dB.den):Sl dB.den:=cj tr ⟨1,fun _=>i⟩
theorem Zl (tr:Sl dB.den) (k:rK.den) (o:Sl lC.den) (n i:Int) :
  iz true Tryz.prog E0 (fun _=>none) 0 35 [] oT Gr JH [] (tr,(),k,o,n,i,()) =
   bif decide (i < n) then bif decide (((0:Int)<=i)/\(i < ((o.n:Nat):Int))) then bif decide ((0:Int)<=(o.g (Int.toNat i)).1) then bif decide (((0:Int)<=i)/\(i < ((k.2.2.2.1.n:Nat):Int))) then bif decide ((0:Int)<=(k.2.2.2.1.g (Int.toNat i)).1) then bif decide (((0:Int)<=i)/\(i < ((k.2.2.2.1.n:Nat):Int))) then
    .any (.leaf (.next (oU tr ((o.g (Int.toNat i)).1,(k.2.2.2.1.g (Int.toNat i))),(),k,o,n,W (i + 1),())))
     (.any (.leaf (.out (.stop dB (oU tr ((o.g (Int.toNat i)).1,(k.2.2.2.1.g (Int.toNat i))))))) (.leaf (.out (.bD dB (oU tr ((o.g (Int.toNat i)).1,(k.2.2.2.1.g (Int.toNat i)))))))) 
    else .leaf (.out .bad) else .leaf (.next (tr,(),k,o,n,W (i + 1),())) else .leaf (.out .bad) else .leaf (.next (tr,(),k,o,n,W (i + 1),())) else .leaf (.out .bad)
   else .leaf (.out (.exit 0 [.tr dB] (tr,()))):=by
 kernel_rfl
def yX (id:Nat) (qs:List bg) (y:ZD qs) (T:Sl dB.den):Tree LO:=.any (.leaf (.exit id qs y)) (.any (.leaf (.stop dB T)) (.leaf (.bD dB T)))
theorem Nr {id:Nat} {qs:List bg} {y:(ZD qs)} {T:Sl dB.den} {o:LO} (h:(yX id qs y T).Has o):o ≠ .bad:=by
 rcases h with h | h | h <;> (rw [show o=_ from h]; simp)
theorem Ns {id:Nat} {qs:List bg} {y:(ZD qs)} {T:Sl dB.den}:∀ o,(yX id qs y T).Has o->xJ (yX id qs y T) o:=fun o h=>⟨o,h,.refl (Nr h)⟩
theorem Nt {id:Nat} {qs:List bg} {y:(ZD qs)} {T T':Sl dB.den} (h:T'.list <+: T.list):xJ (yX id qs y T) (.stop dB T'):=⟨_,.inr (.inl rfl),.stop h⟩
theorem Dy {id:Nat} {qs:List bg} {y:(ZD qs)} {T T':Sl dB.den} (h:T'.list <+: T.list):xJ (yX id qs y T) (.bD dB T'):=⟨_,.inr (.inr rfl),.bD h⟩
theorem Cj {b:Bool} {l r:Tree LO} (hb:b=true):(∀ o,(Tree.br b l r).Has o->l.Has o)/\∀ o,xJ l o->xJ (Tree.br b l r) o:=by
 subst hb
 exact ⟨fun o h=>h,fun o ⟨o',h1,h2⟩=>⟨o',h1,h2⟩⟩
theorem Nu {b:Bool} {l:Tree LO} (h:zx (Tree.br b l (.leaf .bad))):b=true:=by
 cases b with
 | true=>rfl
 | false=>exact absurd rfl (h .bad rfl)
theorem Gs (tr:Sl dB.den) (i:dB.den):(oU tr i).list=tr.list ++ [i]:=fy tr i
def wA (k:rK.den) (o:Sl lC.den) (i:Int):Bool:=decide ((0:Int)<=(o.g (Int.toNat i)).1) && decide ((0:Int)<=(k.2.2.2.1.g (Int.toNat i)).1)
def mE (k:rK.den) (o:Sl lC.den) (i:Int) (tr:Sl dB.den):Sl dB.den:=bif wA k o i then oU tr ((o.g (Int.toNat i)).1,(k.2.2.2.1.g (Int.toNat i))) else tr
def jO (k:rK.den) (o:Sl lC.den):Nat->Int->Sl dB.den->Sl dB.den
 | 0,_,tr=>tr
 | m + 1,i,tr=>jO k o m (i + 1) (mE k o i tr)
theorem JI (k:rK.den) (o:Sl lC.den) (i:Int) (tr:Sl dB.den):tr.list <+: (mE k o i tr).list:=by
 unfold mE
 cases wA k o i with
 | true=>rw [cond_true,Gs]; exact List.prefix_append _ _
 | false=>exact List.prefix_refl _
theorem Ck (k:rK.den) (o:Sl lC.den):∀ (m:Nat) (i:Int) (tr:Sl dB.den),tr.list <+: (jO k o m i tr).list
 | 0,_,tr=>List.prefix_refl _
 | m + 1,i,tr=>(JI k o i tr).trans (Ck k o m (i + 1) _)
def Ek (k:rK.den) (o:Sl lC.den) (n i:Int):Bool:=decide (n=(o.n:Int)/\0<=i/\o.n<=k.2.2.2.1.n/\n<=140737488355328)
def JJ:(ZD oT)->Tree LO:=fun (tr,_,k,o,n,i,_) =>
 .br (Ek k o n i) (yX 0 [.tr dB] (jO k o (n - i).toNat i tr,()) (jO k o (n - i).toNat i tr)) (.leaf .bad)
def afL:(ZD oT)->Nat:=fun (_,_,_,_,n,i,_)=>(n - i).toNat
theorem Cl (tr:Sl dB.den) (k:rK.den) (o:Sl lC.den) (n i:Int) (hf:zx (JJ (tr,(),k,o,n,i,()))) :
  (iz true Tryz.prog E0 (fun _=>none) 0 35 [] oT Gr JH [] (tr,(),k,o,n,i,())).gJ (kW afL JJ (tr,(),k,o,n,i,())):=by
 have hok:Ek k o n i=true:=Nu hf
 obtain ⟨_,e0⟩:=Cj (l:=yX 0 [.tr dB] (jO k o (n - i).toNat i tr,()) (jO k o (n - i).toNat i tr)) (r:=.leaf .bad) hok
 obtain ⟨h1,h2,h3,h4⟩:n=(o.n:Int)/\0<=i/\o.n<=k.2.2.2.1.n/\n<=140737488355328:=of_decide_eq_true hok
 rw [Zl]
 by_cases ht:i < n
 ·have hW:W (i + 1)=i + 1:=IntWalk.i64_in _ ⟨by omega,by omega⟩
  have hn:(n - i).toNat=(n - (i + 1)).toNat + 1:=by omega
  have LV:Ek k o n (i + 1)=true:=decide_eq_true ⟨h1,by omega,h3,h4⟩
  have b1:(i < ((o.n:Nat):Int)):=by omega
  have b2:(i < ((k.2.2.2.1.n:Nat):Int)):=by omega
  simp only [ht,h2,b1,b2,and_self,decide_true,cond_true,hW]
  have next:∀ CZ,mE k o i tr=CZ->kW afL JJ (tr,(),k,o,n,i,()) (.next (CZ,(),k,o,n,i + 1,())):=fun CZ PC=>by
   obtain ⟨e1,_⟩:=Cj (l:=yX 0 [.tr dB] (jO k o (n - (i + 1)).toNat (i + 1) CZ,()) (jO k o (n - (i + 1)).toNat (i + 1) CZ)) (r:=.leaf .bad) LV
   refine ⟨?_,fun o' ho=>?_⟩
   ·show (n - (i + 1)).toNat < (n - i).toNat
    omega
   ·have:=e1 o' ho
    rw [show jO k o (n - (i + 1)).toNat (i + 1) CZ=jO k o (n - i).toNat i tr by rw [hn,<- PC]; rfl] at this
    exact e0 o' (Ns o' this)
  cases c1:decide ((0:Int)<=(o.g (Int.toNat i)).1) with
  | false=>exact next tr (by simp [mE,wA,c1])
  | true =>
   cases c2:decide ((0:Int)<=(k.2.2.2.1.g (Int.toNat i)).1) with
   | false=>exact next tr (by simp [mE,wA,c1,c2])
   | true =>
    have hs:mE k o i tr=oU tr ((o.g (Int.toNat i)).1,(k.2.2.2.1.g (Int.toNat i))):=by simp only [mE,wA,c1,c2,Bool.and_self,cond_true]
    have hp:(oU tr ((o.g (Int.toNat i)).1,(k.2.2.2.1.g (Int.toNat i)))).list <+: (jO k o (n - i).toNat i tr).list:=by
     rw [hn,<- hs]; exact Ck k o _ _ _
    exact ⟨next _ hs,e0 _ (Nt hp),e0 _ (Dy hp)⟩
 ·have ht':decide (i < n)=false:=decide_eq_false ht
  rw [ht',cond_false]
  have hn:(n - i).toNat=0:=by omega
  refine e0 _ ⟨_,.inl rfl,?_⟩
  rw [hn]
  exact .refl (by simp)
theorem Dz (x:ZD oT) (hf:zx (JJ x)):(iz true Tryz.prog E0 (fun _=>none) 0 35 [] oT Gr JH [] x).gJ (kW afL JJ x):=by
 obtain ⟨tr,⟨⟩,k,o,n,i,⟨⟩⟩:=x
 exact Cl tr k o n i hf
def wB (k:rK.den):Sl dB.den:=jO k k.2.2.1 (((k.2.2.1.n:Nat):Int) - 0).toNat 0 ⟨0,fun _=>dB.dflt⟩
def ajK (_:(Np).den) (y:(Nq).den):Bool:=Ek y.1 y.1.2.2.1 (y.1.2.2.1.n:Int) 0
def ajL (_:(Np).den) (y:(Nq).den):Sl (ayI).den:=wB y.1
def i185:Dc:=⟨Np,Nq,ayI,ajK,ajL⟩
noncomputable abbrev Zm:List Loop:=[.known (mc 0 [] oT JJ)]
theorem Ug (k:rK.den):Tg Tryz.prog E0 (fun _=>none) Tryz.f185 Zm i185 () (k,()) =
  bif Ek k k.2.2.1 (k.2.2.1.n:Int) 0 then .any (.leaf (.full ⟨dB,true,wB k⟩)) (.any (.leaf (.stop ⟨dB,false,wB k⟩)) (.leaf (.bD ⟨dB,false,wB k⟩)))
  else .leaf .bad:=by
 kernel_rfl
theorem JK (G':Gh) (h0:G'.lo=0) (hok:G'.Ok Tryz.prog):ff Tryz.prog 35 G' 185 Fence.wide 0 ayH Zm:=by
 have hE:Env Tryz.prog E0 (fun _=>none) G' Fence.wide:=⟨bS,oS,bN,bH,hok,.wide,fun _=>rfl⟩
 have l0:dF Tryz.prog 35 G' 185 Fence.wide 0 (.loop JH) (mc 0 [] oT JJ):=by
  have:=vR (fid:=185) (r:=0) (N:=35) (bw:=[]) hE (tr:=true) (.inl rfl) (ps:=oT) (wy:=Gr) (body:=JH) (ls:=[]) cO (by kernel_rfl) (by kernel_rfl) JJ afL (by rw [h0]; exact Dz)
  rw [h0] at this; exact this
 exact gi l0 (by kernel_rfl) (by kernel_rfl)
theorem aM2:xz Tryz.prog 185 i185:=by
 refine jn bS oS bN bH (E:=E0) Zk.a Zk.b (ls:=Zm) i185 rfl rfl (Nat.le_of_ble_eq_true (by kernel_rfl)) (by kernel_rfl) (fun G' h0 hok _=>JK G' h0 hok) ?_
 rintro ⟨⟩ ⟨k,⟨⟩⟩ hp
 rw [Ug]
 have hp:Ek k k.2.2.1 (k.2.2.1.n:Int) 0=true:=hp
 rw [hp,cond_true]
 exact ⟨⟨_,rfl,rfl⟩,⟨_,rfl,List.prefix_refl _⟩,_,rfl,List.prefix_refl _⟩
noncomputable def aM3:=bW Tryz.f158
theorem ajM:bV 158 Tryz.f158 aM3:=bX
abbrev aM4:Ty:=(.seq T1)
abbrev aM5:Ty:=(.cons aM4 .nil)
abbrev afM:Ty:=Zg
abbrev Uh:Ty:=aM5
noncomputable def apj:Ctx:=Ctx.of [(185,.iter i185)]
theorem aM6:SP apj:=aB (fa ⟨⟨Zk.c,aM2⟩,f0⟩)
def apk {α:Type} (l:Option (Uh).den->α) (an:α->α->α) (x:(afM).den):α:=bif (ajK () (x.1,())) then l (some ((ajL () (x.1,())),())) else l none
theorem aM7:QO apj Tryz.f158 [] afM Uh apk:=fun _=>by kernel_rfl
def Zn (x:(afM).den):Option (Uh).den:=apk (fun r=>r) (fun _ _=>none) x
theorem aM8:MOz apj Tryz.f158 [] Zn:=fun x=>by rw [aM7]; unfold Zn apk; simp only [Tree.sure,sus]
def aM9:=pO Zn
def aNa:=vO (τ:=Uh) Zn
def ayJ:Con:=⟨afM,Uh,aM9,aNa⟩
theorem aNb:aQ Tryz.prog 158 ayJ:=hO ajM aM6 aM8 l0
noncomputable def Zo:=bW Tryz.f105
theorem Zp:bV 105 Tryz.f105 Zo:=bX
abbrev aNc:Ty:=(.cons (.sl T0) T2)
abbrev aNd:Ty:=(.cons (.sl T0) aNc)
abbrev aNe:Ty:=(.cons tI aNd)
abbrev aNf:Ty:=(.cons tI aNe)
abbrev aNg:Ty:=(.agg aNf)
abbrev aNh:Ty:=(.cons aNg .nil)
abbrev afN:Ty:=Zg
abbrev Ui:Ty:=aNh
noncomputable def Nv:Ctx:=Ctx.of [(158,.pure ayJ)]
theorem aNi:SP Nv:=aB (fa ⟨⟨ajM.c,aNb⟩,f0⟩)
noncomputable def Gt:Code:=kK ((ay (Zo))[0]?)
noncomputable def Gu:Code:=sH ((ay (Zo))[0]?)
abbrev iE:List bg:=[.slot 1 (.ptr 1),.slot 2 (.ptr 2),.slot 3 (.ptr 47),.slot 4 (.ptr 92),.box 1 [.pc tI,.pc tI,.pc (.sl T0),.pc (.sl T0)],.box 2 [.pc tI,.pc tI,.own 1003002 3 T0,.own 1003003 3 T0,.pc tI,.pc tI,.pc tI],.box 47 [.pc tI,.pc tI,.pc (.sl T0),.pc (.sl T0),.pc tI,.pc tI,.pc tI],.box 92 [.pc tI,.pc tI,.pc tI,.pc tI,.pc tI,.pc tI,.pc tI,.pc tI,.pc tI,.pc tI]]
theorem afO:ay (Gt)=[]:=by kernel_rfl
def Nw {α:Type} (l:RO iE->α) (an:α->α->α) (x:ZD iE) (it:Ty.den T1):α:=bif (decide (it.1=it.2.1)) then bif (decide (((0:Int)<=it.1)/\(it.1 < (10:Int)))) then bif (decide ((0 + ((Int.toNat it.1) * 1)) < 10)) then bif (decide (((0:Int)<=it.1)/\(it.1 < (10:Int)))) then bif (decide ((1=1)/\(((0 + ((Int.toNat it.1) * 1)) + 1)<=10))) then l (.next ((),((),((),((),(x.2.2.2.2.1,(x.2.2.2.2.2.1,((x.2.2.2.2.2.2.1.1,(x.2.2.2.2.2.2.1.2.1,(x.2.2.2.2.2.2.1.2.2.1,(x.2.2.2.2.2.2.1.2.2.2.1,((W (x.2.2.2.2.2.2.1.2.2.2.2.1 + (1:Int))),((W (x.2.2.2.2.2.2.1.2.2.2.2.2.1 + (1:Int))),x.2.2.2.2.2.2.1.2.2.2.2.2.2)))))),(((bif ((Nat.ble (0 + ((Int.toNat it.1) * 1)) 0) && (Nat.blt 0 ((0 + ((Int.toNat it.1) * 1)) + 1))) then (List.getD [(W ((List.getD [x.2.2.2.2.2.2.2.1.1,x.2.2.2.2.2.2.2.1.2.1,x.2.2.2.2.2.2.2.1.2.2.1,x.2.2.2.2.2.2.2.1.2.2.2.1,x.2.2.2.2.2.2.2.1.2.2.2.2.1,x.2.2.2.2.2.2.2.1.2.2.2.2.2.1,x.2.2.2.2.2.2.2.1.2.2.2.2.2.2.1,x.2.2.2.2.2.2.2.1.2.2.2.2.2.2.2.1,x.2.2.2.2.2.2.2.1.2.2.2.2.2.2.2.2.1,x.2.2.2.2.2.2.2.1.2.2.2.2.2.2.2.2.2.1] (0 + ((Int.toNat it.1) * 1)) x.2.2.2.2.2.2.2.1.1) + (1:Int)))] (0 - (0 + ((Int.toNat it.1) * 1))) x.2.2.2.2.2.2.2.1.1) else x.2.2.2.2.2.2.2.1.1),((bif ((Nat.ble (0 + ((Int.toNat it.1) * 1)) 1) && (Nat.blt 1 ((0 + ((Int.toNat it.1) * 1)) + 1))) then (List.getD [(W ((List.getD [x.2.2.2.2.2.2.2.1.1,x.2.2.2.2.2.2.2.1.2.1,x.2.2.2.2.2.2.2.1.2.2.1,x.2.2.2.2.2.2.2.1.2.2.2.1,x.2.2.2.2.2.2.2.1.2.2.2.2.1,x.2.2.2.2.2.2.2.1.2.2.2.2.2.1,x.2.2.2.2.2.2.2.1.2.2.2.2.2.2.1,x.2.2.2.2.2.2.2.1.2.2.2.2.2.2.2.1,x.2.2.2.2.2.2.2.1.2.2.2.2.2.2.2.2.1,x.2.2.2.2.2.2.2.1.2.2.2.2.2.2.2.2.2.1] (0 + ((Int.toNat it.1) * 1)) x.2.2.2.2.2.2.2.1.1) + (1:Int)))] (1 - (0 + ((Int.toNat it.1) * 1))) x.2.2.2.2.2.2.2.1.1) else x.2.2.2.2.2.2.2.1.2.1),((bif ((Nat.ble (0 + ((Int.toNat it.1) * 1)) 2) && (Nat.blt 2 ((0 + ((Int.toNat it.1) * 1)) + 1))) then (List.getD [(W ((List.getD [x.2.2.2.2.2.2.2.1.1,x.2.2.2.2.2.2.2.1.2.1,x.2.2.2.2.2.2.2.1.2.2.1,x.2.2.2.2.2.2.2.1.2.2.2.1,x.2.2.2.2.2.2.2.1.2.2.2.2.1,x.2.2.2.2.2.2.2.1.2.2.2.2.2.1,x.2.2.2.2.2.2.2.1.2.2.2.2.2.2.1,x.2.2.2.2.2.2.2.1.2.2.2.2.2.2.2.1,x.2.2.2.2.2.2.2.1.2.2.2.2.2.2.2.2.1,x.2.2.2.2.2.2.2.1.2.2.2.2.2.2.2.2.2.1] (0 + ((Int.toNat it.1) * 1)) x.2.2.2.2.2.2.2.1.1) + (1:Int)))] (2 - (0 + ((Int.toNat it.1) * 1))) x.2.2.2.2.2.2.2.1.1) else x.2.2.2.2.2.2.2.1.2.2.1),((bif ((Nat.ble (0 + ((Int.toNat it.1) * 1)) 3) && (Nat.blt 3 ((0 + ((Int.toNat it.1) * 1)) + 1))) then (List.getD [(W ((List.getD [x.2.2.2.2.2.2.2.1.1,x.2.2.2.2.2.2.2.1.2.1,x.2.2.2.2.2.2.2.1.2.2.1,x.2.2.2.2.2.2.2.1.2.2.2.1,x.2.2.2.2.2.2.2.1.2.2.2.2.1,x.2.2.2.2.2.2.2.1.2.2.2.2.2.1,x.2.2.2.2.2.2.2.1.2.2.2.2.2.2.1,x.2.2.2.2.2.2.2.1.2.2.2.2.2.2.2.1,x.2.2.2.2.2.2.2.1.2.2.2.2.2.2.2.2.1,x.2.2.2.2.2.2.2.1.2.2.2.2.2.2.2.2.2.1] (0 + ((Int.toNat it.1) * 1)) x.2.2.2.2.2.2.2.1.1) + (1:Int)))] (3 - (0 + ((Int.toNat it.1) * 1))) x.2.2.2.2.2.2.2.1.1) else x.2.2.2.2.2.2.2.1.2.2.2.1),((bif ((Nat.ble (0 + ((Int.toNat it.1) * 1)) 4) && (Nat.blt 4 ((0 + ((Int.toNat it.1) * 1)) + 1))) then (List.getD [(W ((List.getD [x.2.2.2.2.2.2.2.1.1,x.2.2.2.2.2.2.2.1.2.1,x.2.2.2.2.2.2.2.1.2.2.1,x.2.2.2.2.2.2.2.1.2.2.2.1,x.2.2.2.2.2.2.2.1.2.2.2.2.1,x.2.2.2.2.2.2.2.1.2.2.2.2.2.1,x.2.2.2.2.2.2.2.1.2.2.2.2.2.2.1,x.2.2.2.2.2.2.2.1.2.2.2.2.2.2.2.1,x.2.2.2.2.2.2.2.1.2.2.2.2.2.2.2.2.1,x.2.2.2.2.2.2.2.1.2.2.2.2.2.2.2.2.2.1] (0 + ((Int.toNat it.1) * 1)) x.2.2.2.2.2.2.2.1.1) + (1:Int)))] (4 - (0 + ((Int.toNat it.1) * 1))) x.2.2.2.2.2.2.2.1.1) else x.2.2.2.2.2.2.2.1.2.2.2.2.1),((bif ((Nat.ble (0 + ((Int.toNat it.1) * 1)) 5) && (Nat.blt 5 ((0 + ((Int.toNat it.1) * 1)) + 1))) then (List.getD [(W ((List.getD [x.2.2.2.2.2.2.2.1.1,x.2.2.2.2.2.2.2.1.2.1,x.2.2.2.2.2.2.2.1.2.2.1,x.2.2.2.2.2.2.2.1.2.2.2.1,x.2.2.2.2.2.2.2.1.2.2.2.2.1,x.2.2.2.2.2.2.2.1.2.2.2.2.2.1,x.2.2.2.2.2.2.2.1.2.2.2.2.2.2.1,x.2.2.2.2.2.2.2.1.2.2.2.2.2.2.2.1,x.2.2.2.2.2.2.2.1.2.2.2.2.2.2.2.2.1,x.2.2.2.2.2.2.2.1.2.2.2.2.2.2.2.2.2.1] (0 + ((Int.toNat it.1) * 1)) x.2.2.2.2.2.2.2.1.1) + (1:Int)))] (5 - (0 + ((Int.toNat it.1) * 1))) x.2.2.2.2.2.2.2.1.1) else x.2.2.2.2.2.2.2.1.2.2.2.2.2.1),((bif ((Nat.ble (0 + ((Int.toNat it.1) * 1)) 6) && (Nat.blt 6 ((0 + ((Int.toNat it.1) * 1)) + 1))) then (List.getD [(W ((List.getD [x.2.2.2.2.2.2.2.1.1,x.2.2.2.2.2.2.2.1.2.1,x.2.2.2.2.2.2.2.1.2.2.1,x.2.2.2.2.2.2.2.1.2.2.2.1,x.2.2.2.2.2.2.2.1.2.2.2.2.1,x.2.2.2.2.2.2.2.1.2.2.2.2.2.1,x.2.2.2.2.2.2.2.1.2.2.2.2.2.2.1,x.2.2.2.2.2.2.2.1.2.2.2.2.2.2.2.1,x.2.2.2.2.2.2.2.1.2.2.2.2.2.2.2.2.1,x.2.2.2.2.2.2.2.1.2.2.2.2.2.2.2.2.2.1] (0 + ((Int.toNat it.1) * 1)) x.2.2.2.2.2.2.2.1.1) + (1:Int)))] (6 - (0 + ((Int.toNat it.1) * 1))) x.2.2.2.2.2.2.2.1.1) else x.2.2.2.2.2.2.2.1.2.2.2.2.2.2.1),((bif ((Nat.ble (0 + ((Int.toNat it.1) * 1)) 7) && (Nat.blt 7 ((0 + ((Int.toNat it.1) * 1)) + 1))) then (List.getD [(W ((List.getD [x.2.2.2.2.2.2.2.1.1,x.2.2.2.2.2.2.2.1.2.1,x.2.2.2.2.2.2.2.1.2.2.1,x.2.2.2.2.2.2.2.1.2.2.2.1,x.2.2.2.2.2.2.2.1.2.2.2.2.1,x.2.2.2.2.2.2.2.1.2.2.2.2.2.1,x.2.2.2.2.2.2.2.1.2.2.2.2.2.2.1,x.2.2.2.2.2.2.2.1.2.2.2.2.2.2.2.1,x.2.2.2.2.2.2.2.1.2.2.2.2.2.2.2.2.1,x.2.2.2.2.2.2.2.1.2.2.2.2.2.2.2.2.2.1] (0 + ((Int.toNat it.1) * 1)) x.2.2.2.2.2.2.2.1.1) + (1:Int)))] (7 - (0 + ((Int.toNat it.1) * 1))) x.2.2.2.2.2.2.2.1.1) else x.2.2.2.2.2.2.2.1.2.2.2.2.2.2.2.1),((bif ((Nat.ble (0 + ((Int.toNat it.1) * 1)) 8) && (Nat.blt 8 ((0 + ((Int.toNat it.1) * 1)) + 1))) then (List.getD [(W ((List.getD [x.2.2.2.2.2.2.2.1.1,x.2.2.2.2.2.2.2.1.2.1,x.2.2.2.2.2.2.2.1.2.2.1,x.2.2.2.2.2.2.2.1.2.2.2.1,x.2.2.2.2.2.2.2.1.2.2.2.2.1,x.2.2.2.2.2.2.2.1.2.2.2.2.2.1,x.2.2.2.2.2.2.2.1.2.2.2.2.2.2.1,x.2.2.2.2.2.2.2.1.2.2.2.2.2.2.2.1,x.2.2.2.2.2.2.2.1.2.2.2.2.2.2.2.2.1,x.2.2.2.2.2.2.2.1.2.2.2.2.2.2.2.2.2.1] (0 + ((Int.toNat it.1) * 1)) x.2.2.2.2.2.2.2.1.1) + (1:Int)))] (8 - (0 + ((Int.toNat it.1) * 1))) x.2.2.2.2.2.2.2.1.1) else x.2.2.2.2.2.2.2.1.2.2.2.2.2.2.2.2.1),((bif ((Nat.ble (0 + ((Int.toNat it.1) * 1)) 9) && (Nat.blt 9 ((0 + ((Int.toNat it.1) * 1)) + 1))) then (List.getD [(W ((List.getD [x.2.2.2.2.2.2.2.1.1,x.2.2.2.2.2.2.2.1.2.1,x.2.2.2.2.2.2.2.1.2.2.1,x.2.2.2.2.2.2.2.1.2.2.2.1,x.2.2.2.2.2.2.2.1.2.2.2.2.1,x.2.2.2.2.2.2.2.1.2.2.2.2.2.1,x.2.2.2.2.2.2.2.1.2.2.2.2.2.2.1,x.2.2.2.2.2.2.2.1.2.2.2.2.2.2.2.1,x.2.2.2.2.2.2.2.1.2.2.2.2.2.2.2.2.1,x.2.2.2.2.2.2.2.1.2.2.2.2.2.2.2.2.2.1] (0 + ((Int.toNat it.1) * 1)) x.2.2.2.2.2.2.2.1.1) + (1:Int)))] (9 - (0 + ((Int.toNat it.1) * 1))) x.2.2.2.2.2.2.2.1.1) else x.2.2.2.2.2.2.2.1.2.2.2.2.2.2.2.2.2.1),())))))))))),()))))))))) else l .bad else l .bad else l .bad else l .bad else bif (decide (((0:Int)<=it.1)/\(it.1 < (10:Int)))) then bif (decide ((0 + ((Int.toNat it.1) * 1)) < 10)) then bif (decide (((0:Int)<=it.1)/\(it.1 < (10:Int)))) then bif (decide ((1=1)/\(((0 + ((Int.toNat it.1) * 1)) + 1)<=10))) then l (.next ((),((),((),((),(x.2.2.2.2.1,(x.2.2.2.2.2.1,((x.2.2.2.2.2.2.1.1,(x.2.2.2.2.2.2.1.2.1,(x.2.2.2.2.2.2.1.2.2.1,(x.2.2.2.2.2.2.1.2.2.2.1,((W (x.2.2.2.2.2.2.1.2.2.2.2.1 + (1:Int))),x.2.2.2.2.2.2.1.2.2.2.2.2))))),(((bif ((Nat.ble (0 + ((Int.toNat it.1) * 1)) 0) && (Nat.blt 0 ((0 + ((Int.toNat it.1) * 1)) + 1))) then (List.getD [(W ((List.getD [x.2.2.2.2.2.2.2.1.1,x.2.2.2.2.2.2.2.1.2.1,x.2.2.2.2.2.2.2.1.2.2.1,x.2.2.2.2.2.2.2.1.2.2.2.1,x.2.2.2.2.2.2.2.1.2.2.2.2.1,x.2.2.2.2.2.2.2.1.2.2.2.2.2.1,x.2.2.2.2.2.2.2.1.2.2.2.2.2.2.1,x.2.2.2.2.2.2.2.1.2.2.2.2.2.2.2.1,x.2.2.2.2.2.2.2.1.2.2.2.2.2.2.2.2.1,x.2.2.2.2.2.2.2.1.2.2.2.2.2.2.2.2.2.1] (0 + ((Int.toNat it.1) * 1)) x.2.2.2.2.2.2.2.1.1) + (1:Int)))] (0 - (0 + ((Int.toNat it.1) * 1))) x.2.2.2.2.2.2.2.1.1) else x.2.2.2.2.2.2.2.1.1),((bif ((Nat.ble (0 + ((Int.toNat it.1) * 1)) 1) && (Nat.blt 1 ((0 + ((Int.toNat it.1) * 1)) + 1))) then (List.getD [(W ((List.getD [x.2.2.2.2.2.2.2.1.1,x.2.2.2.2.2.2.2.1.2.1,x.2.2.2.2.2.2.2.1.2.2.1,x.2.2.2.2.2.2.2.1.2.2.2.1,x.2.2.2.2.2.2.2.1.2.2.2.2.1,x.2.2.2.2.2.2.2.1.2.2.2.2.2.1,x.2.2.2.2.2.2.2.1.2.2.2.2.2.2.1,x.2.2.2.2.2.2.2.1.2.2.2.2.2.2.2.1,x.2.2.2.2.2.2.2.1.2.2.2.2.2.2.2.2.1,x.2.2.2.2.2.2.2.1.2.2.2.2.2.2.2.2.2.1] (0 + ((Int.toNat it.1) * 1)) x.2.2.2.2.2.2.2.1.1) + (1:Int)))] (1 - (0 + ((Int.toNat it.1) * 1))) x.2.2.2.2.2.2.2.1.1) else x.2.2.2.2.2.2.2.1.2.1),((bif ((Nat.ble (0 + ((Int.toNat it.1) * 1)) 2) && (Nat.blt 2 ((0 + ((Int.toNat it.1) * 1)) + 1))) then (List.getD [(W ((List.getD [x.2.2.2.2.2.2.2.1.1,x.2.2.2.2.2.2.2.1.2.1,x.2.2.2.2.2.2.2.1.2.2.1,x.2.2.2.2.2.2.2.1.2.2.2.1,x.2.2.2.2.2.2.2.1.2.2.2.2.1,x.2.2.2.2.2.2.2.1.2.2.2.2.2.1,x.2.2.2.2.2.2.2.1.2.2.2.2.2.2.1,x.2.2.2.2.2.2.2.1.2.2.2.2.2.2.2.1,x.2.2.2.2.2.2.2.1.2.2.2.2.2.2.2.2.1,x.2.2.2.2.2.2.2.1.2.2.2.2.2.2.2.2.2.1] (0 + ((Int.toNat it.1) * 1)) x.2.2.2.2.2.2.2.1.1) + (1:Int)))] (2 - (0 + ((Int.toNat it.1) * 1))) x.2.2.2.2.2.2.2.1.1) else x.2.2.2.2.2.2.2.1.2.2.1),((bif ((Nat.ble (0 + ((Int.toNat it.1) * 1)) 3) && (Nat.blt 3 ((0 + ((Int.toNat it.1) * 1)) + 1))) then (List.getD [(W ((List.getD [x.2.2.2.2.2.2.2.1.1,x.2.2.2.2.2.2.2.1.2.1,x.2.2.2.2.2.2.2.1.2.2.1,x.2.2.2.2.2.2.2.1.2.2.2.1,x.2.2.2.2.2.2.2.1.2.2.2.2.1,x.2.2.2.2.2.2.2.1.2.2.2.2.2.1,x.2.2.2.2.2.2.2.1.2.2.2.2.2.2.1,x.2.2.2.2.2.2.2.1.2.2.2.2.2.2.2.1,x.2.2.2.2.2.2.2.1.2.2.2.2.2.2.2.2.1,x.2.2.2.2.2.2.2.1.2.2.2.2.2.2.2.2.2.1] (0 + ((Int.toNat it.1) * 1)) x.2.2.2.2.2.2.2.1.1) + (1:Int)))] (3 - (0 + ((Int.toNat it.1) * 1))) x.2.2.2.2.2.2.2.1.1) else x.2.2.2.2.2.2.2.1.2.2.2.1),((bif ((Nat.ble (0 + ((Int.toNat it.1) * 1)) 4) && (Nat.blt 4 ((0 + ((Int.toNat it.1) * 1)) + 1))) then (List.getD [(W ((List.getD [x.2.2.2.2.2.2.2.1.1,x.2.2.2.2.2.2.2.1.2.1,x.2.2.2.2.2.2.2.1.2.2.1,x.2.2.2.2.2.2.2.1.2.2.2.1,x.2.2.2.2.2.2.2.1.2.2.2.2.1,x.2.2.2.2.2.2.2.1.2.2.2.2.2.1,x.2.2.2.2.2.2.2.1.2.2.2.2.2.2.1,x.2.2.2.2.2.2.2.1.2.2.2.2.2.2.2.1,x.2.2.2.2.2.2.2.1.2.2.2.2.2.2.2.2.1,x.2.2.2.2.2.2.2.1.2.2.2.2.2.2.2.2.2.1] (0 + ((Int.toNat it.1) * 1)) x.2.2.2.2.2.2.2.1.1) + (1:Int)))] (4 - (0 + ((Int.toNat it.1) * 1))) x.2.2.2.2.2.2.2.1.1) else x.2.2.2.2.2.2.2.1.2.2.2.2.1),((bif ((Nat.ble (0 + ((Int.toNat it.1) * 1)) 5) && (Nat.blt 5 ((0 + ((Int.toNat it.1) * 1)) + 1))) then (List.getD [(W ((List.getD [x.2.2.2.2.2.2.2.1.1,x.2.2.2.2.2.2.2.1.2.1,x.2.2.2.2.2.2.2.1.2.2.1,x.2.2.2.2.2.2.2.1.2.2.2.1,x.2.2.2.2.2.2.2.1.2.2.2.2.1,x.2.2.2.2.2.2.2.1.2.2.2.2.2.1,x.2.2.2.2.2.2.2.1.2.2.2.2.2.2.1,x.2.2.2.2.2.2.2.1.2.2.2.2.2.2.2.1,x.2.2.2.2.2.2.2.1.2.2.2.2.2.2.2.2.1,x.2.2.2.2.2.2.2.1.2.2.2.2.2.2.2.2.2.1] (0 + ((Int.toNat it.1) * 1)) x.2.2.2.2.2.2.2.1.1) + (1:Int)))] (5 - (0 + ((Int.toNat it.1) * 1))) x.2.2.2.2.2.2.2.1.1) else x.2.2.2.2.2.2.2.1.2.2.2.2.2.1),((bif ((Nat.ble (0 + ((Int.toNat it.1) * 1)) 6) && (Nat.blt 6 ((0 + ((Int.toNat it.1) * 1)) + 1))) then (List.getD [(W ((List.getD [x.2.2.2.2.2.2.2.1.1,x.2.2.2.2.2.2.2.1.2.1,x.2.2.2.2.2.2.2.1.2.2.1,x.2.2.2.2.2.2.2.1.2.2.2.1,x.2.2.2.2.2.2.2.1.2.2.2.2.1,x.2.2.2.2.2.2.2.1.2.2.2.2.2.1,x.2.2.2.2.2.2.2.1.2.2.2.2.2.2.1,x.2.2.2.2.2.2.2.1.2.2.2.2.2.2.2.1,x.2.2.2.2.2.2.2.1.2.2.2.2.2.2.2.2.1,x.2.2.2.2.2.2.2.1.2.2.2.2.2.2.2.2.2.1] (0 + ((Int.toNat it.1) * 1)) x.2.2.2.2.2.2.2.1.1) + (1:Int)))] (6 - (0 + ((Int.toNat it.1) * 1))) x.2.2.2.2.2.2.2.1.1) else x.2.2.2.2.2.2.2.1.2.2.2.2.2.2.1),((bif ((Nat.ble (0 + ((Int.toNat it.1) * 1)) 7) && (Nat.blt 7 ((0 + ((Int.toNat it.1) * 1)) + 1))) then (List.getD [(W ((List.getD [x.2.2.2.2.2.2.2.1.1,x.2.2.2.2.2.2.2.1.2.1,x.2.2.2.2.2.2.2.1.2.2.1,x.2.2.2.2.2.2.2.1.2.2.2.1,x.2.2.2.2.2.2.2.1.2.2.2.2.1,x.2.2.2.2.2.2.2.1.2.2.2.2.2.1,x.2.2.2.2.2.2.2.1.2.2.2.2.2.2.1,x.2.2.2.2.2.2.2.1.2.2.2.2.2.2.2.1,x.2.2.2.2.2.2.2.1.2.2.2.2.2.2.2.2.1,x.2.2.2.2.2.2.2.1.2.2.2.2.2.2.2.2.2.1] (0 + ((Int.toNat it.1) * 1)) x.2.2.2.2.2.2.2.1.1) + (1:Int)))] (7 - (0 + ((Int.toNat it.1) * 1))) x.2.2.2.2.2.2.2.1.1) else x.2.2.2.2.2.2.2.1.2.2.2.2.2.2.2.1),((bif ((Nat.ble (0 + ((Int.toNat it.1) * 1)) 8) && (Nat.blt 8 ((0 + ((Int.toNat it.1) * 1)) + 1))) then (List.getD [(W ((List.getD [x.2.2.2.2.2.2.2.1.1,x.2.2.2.2.2.2.2.1.2.1,x.2.2.2.2.2.2.2.1.2.2.1,x.2.2.2.2.2.2.2.1.2.2.2.1,x.2.2.2.2.2.2.2.1.2.2.2.2.1,x.2.2.2.2.2.2.2.1.2.2.2.2.2.1,x.2.2.2.2.2.2.2.1.2.2.2.2.2.2.1,x.2.2.2.2.2.2.2.1.2.2.2.2.2.2.2.1,x.2.2.2.2.2.2.2.1.2.2.2.2.2.2.2.2.1,x.2.2.2.2.2.2.2.1.2.2.2.2.2.2.2.2.2.1] (0 + ((Int.toNat it.1) * 1)) x.2.2.2.2.2.2.2.1.1) + (1:Int)))] (8 - (0 + ((Int.toNat it.1) * 1))) x.2.2.2.2.2.2.2.1.1) else x.2.2.2.2.2.2.2.1.2.2.2.2.2.2.2.2.1),((bif ((Nat.ble (0 + ((Int.toNat it.1) * 1)) 9) && (Nat.blt 9 ((0 + ((Int.toNat it.1) * 1)) + 1))) then (List.getD [(W ((List.getD [x.2.2.2.2.2.2.2.1.1,x.2.2.2.2.2.2.2.1.2.1,x.2.2.2.2.2.2.2.1.2.2.1,x.2.2.2.2.2.2.2.1.2.2.2.1,x.2.2.2.2.2.2.2.1.2.2.2.2.1,x.2.2.2.2.2.2.2.1.2.2.2.2.2.1,x.2.2.2.2.2.2.2.1.2.2.2.2.2.2.1,x.2.2.2.2.2.2.2.1.2.2.2.2.2.2.2.1,x.2.2.2.2.2.2.2.1.2.2.2.2.2.2.2.2.1,x.2.2.2.2.2.2.2.1.2.2.2.2.2.2.2.2.2.1] (0 + ((Int.toNat it.1) * 1)) x.2.2.2.2.2.2.2.1.1) + (1:Int)))] (9 - (0 + ((Int.toNat it.1) * 1))) x.2.2.2.2.2.2.2.1.1) else x.2.2.2.2.2.2.2.1.2.2.2.2.2.2.2.2.2.1),())))))))))),()))))))))) else l .bad else l .bad else l .bad else l .bad
theorem apl (x:ZD iE) (it:Ty.den T1):gE Tryz.prog E0 Nv 0 500000 44 [12,13] Gu Gt [] [] T1 iE x it=Nw .leaf .any x it:=by kernel_rfl
def Nx (x:ZD iE) (it:Ty.den T1):RO iE:=Nw (fun r=>r) (fun _ _=>.bad) x it
theorem apm (x:ZD iE) (it:Ty.den T1):(gE Tryz.prog E0 Nv 0 500000 44 [12,13] Gu Gt [] [] T1 iE x it).cT .bad=Nx x it:=by rw [apl]; unfold Nx Nw; simp only [ew,Tree.cT,gH,cZ,dK,de,dg,dL,dh,dM,ez,dm]
def Ny (x:ZD iE) (l:List (Ty.den T1)):RO iE:=cJ Nx x l
noncomputable def Gv:Code:=bn ((ay (Zo))[1]?)
theorem afP:ay (Gv)=[]:=by kernel_rfl
abbrev kr:List bg:=[.slot 2 (.ptr 2),.slot 3 (.ptr 47),.slot 4 (.ptr 92),.slot 31 (.pc tI),.box 2 [.pc tI,.pc tI,.own 1003002 3 T0,.own 1003003 3 T0,.pc tI,.pc tI,.pc tI],.box 92 [.pc tI,.pc tI,.pc tI,.pc tI,.pc tI,.pc tI,.pc tI,.pc tI,.pc tI,.pc tI]]
abbrev jq:List bg:=[.slot 32 (.pc tI),.box 47 [.pc tI,.pc tI,.pc (.sl T0),.pc (.sl T0),.pc tI,.pc tI,.pc tI]]
abbrev wC:List bg:=kr ++ jq
def Gw:ZJ kr jq wC:=ZA _ _
def Ah:ZS kr jq wC:=ZP _ _
abbrev wD:bk:=⟨[(2,[.slot 2 (.ptr 2),.slot 3 (.ptr 47),.box 2 [.pc tI,.pc tI,.own 1003002 3 T0,.own 1003003 3 T0,.pc tI,.pc tI,.pc tI],.box 47 [.pc tI,.pc tI,.pc (.sl T0),.pc (.sl T0),.pc tI,.pc tI,.pc tI]])],[],[]⟩
abbrev Ai:bk:=⟨[(2,[.box 47 [.pc tI,.pc tI,.pc (.sl T0),.pc (.sl T0),.pc tI,.pc tI,.pc tI]])],[],[]⟩
def Gx:ZE kr Ai wD:=fun id=>match id with | 2=>fun c y=>(c.1,(c.2.1,(c.2.2.2.2.1,y))) | _=>gC
def Nz {α:Type} (l:RQ jq Ai->α) (an:α->α->α) (c:ZD kr) (v:ZD jq):α:=bif (decide (v.1 < c.2.2.2.1)) then bif (decide (((0:Int)<=v.1)/\(v.1 < (10:Int)))) then bif (decide ((0 + ((Int.toNat v.1) * 1)) < 10)) then l (.next ((W (v.1 + (1:Int))),((v.2.1.1,(v.2.1.2.1,(v.2.1.2.2.1,(v.2.1.2.2.2.1,(v.2.1.2.2.2.2.1,(v.2.1.2.2.2.2.2.1,((mx v.2.1.2.2.2.2.2.2.1 (List.getD [c.2.2.2.2.2.1.1,c.2.2.2.2.2.1.2.1,c.2.2.2.2.2.1.2.2.1,c.2.2.2.2.2.1.2.2.2.1,c.2.2.2.2.2.1.2.2.2.2.1,c.2.2.2.2.2.1.2.2.2.2.2.1,c.2.2.2.2.2.1.2.2.2.2.2.2.1,c.2.2.2.2.2.1.2.2.2.2.2.2.2.1,c.2.2.2.2.2.1.2.2.2.2.2.2.2.2.1,c.2.2.2.2.2.1.2.2.2.2.2.2.2.2.2.1] (0 + ((Int.toNat v.1) * 1)) c.2.2.2.2.2.1.1)),()))))))),()))) else l .bad else l .bad else l (.out (.exit 2 (v.2.1,())))
theorem apn (c:ZD kr) (v:ZD jq):cG Tryz.prog E0 Nv 0 44 [.mark] wC wD Gv [] (Gw c v)=Nz (fun r=>.leaf (r.lift Gw Gx ZI ZI c)) .any c v:=by kernel_rfl
def NA (c:ZD kr) (v:ZD jq):RQ jq Ai:=Nz (fun r=>r) (fun _ _=>.bad) c v
theorem apo (c:ZD kr) (v:ZD jq):bE (cG Tryz.prog E0 Nv 0 44 [.mark] wC wD Gv [] (Gw c v))=(NA c v).lift Gw Gx ZI ZI c:=by rw [apn]; unfold NA Nz; simp only [bE,bq,dqs]
def Zq (c:ZD kr) (v:ZD jq):LQ Ai:=bB (NA c) dw v
theorem ayK:ay (Zo)=[.rangeFunc (.tmp 11) #[12,13] Gu Gt,.loop Gv]:=by kernel_rfl
noncomputable def ayL:List Loop:=[.known (ow 0 [] 11 T1 iE [] [] (fun x l=>Ny x l)),.known (fm 0 [.mark] wC fun x=>cD wD Gx ZI ZI [] false (Ah x).1 (Zq (Ah x).1 (Ah x).2) wD.dY)]
def apq {α:Type} (l:Option (Ui).den->α) (an:α->α->α) (x:(afN).den):α:=cl (Uh).dflt (Zn (x.1,())) (fun u0=>eo (Ny ((),((),((),((),(x.1,(((0:Int),((0:Int),((⟨0,fun i=>((0:Int),())⟩:Sl _),((⟨0,fun i=>((0:Int),())⟩:Sl _),((0:Int),((0:Int),((0:Int),()))))))),((x.1.1,(x.1.2.1,(x.1.2.2.1,(x.1.2.2.2.1,((0:Int),((0:Int),((0:Int),()))))))),(((0:Int),((0:Int),((0:Int),((0:Int),((0:Int),((0:Int),((0:Int),((0:Int),((0:Int),((0:Int),())))))))))),())))))))) (Sl.list u0.1)) (fun u1=>bp (Zq ((),((),((),(u1.2.2.2.2.1.1,(u1.2.2.2.2.2.1,(u1.2.2.2.2.2.2.2.1,())))))) ((0:Int),(u1.2.2.2.2.2.2.1,()))) 2 (fun u2=>l (some (u2.1,()))) (l none)) (eM (Ny ((),((),((),((),(x.1,(((0:Int),((0:Int),((⟨0,fun i=>((0:Int),())⟩:Sl _),((⟨0,fun i=>((0:Int),())⟩:Sl _),((0:Int),((0:Int),((0:Int),()))))))),((x.1.1,(x.1.2.1,(x.1.2.2.1,(x.1.2.2.2.1,((0:Int),((0:Int),((0:Int),()))))))),(((0:Int),((0:Int),((0:Int),((0:Int),((0:Int),((0:Int),((0:Int),((0:Int),((0:Int),((0:Int),())))))))))),())))))))) (Sl.list u0.1)) (fun u3=>l (some (u3.2.2.2.2.2.1,()))) (l none))) (l none)
theorem aNj:QO Nv Tryz.f105 ayL afN Ui apq:=fun _=>by kernel_rfl
def Zr (x:(afN).den):Option (Ui).den:=apq (fun r=>r) (fun _ _=>none) x
theorem aNk:MOz Nv Tryz.f105 ayL Zr:=fun x=>by rw [aNj]; unfold Zr apq; simp only [Tree.sure,sus]
def aNl:=pO Zr
def aNm:=vO (τ:=Ui) Zr
def ayM:Con:=⟨afN,Ui,aNl,aNm⟩
theorem aNn:aQ Tryz.prog 105 ayM:=hO Zp aNi aNk fun G' hlo hF hE=>aP (by rw [ayK]; exact .cons (kI hE hF hlo Zp.a (by kernel_rfl) (by kernel_rfl) (by kernel_rfl) (by kernel_rfl) (by kernel_rfl) (fun G' hlo hF l hE=>cO) (fun G' hlo hF l hE=>aP (by rw [afO]; exact .nil)) apm) (.cons (fK hE hF hlo (ln afP) (by kernel_rfl) (by kernel_rfl) Ah (fun _=>rfl) (fun _ _=>rfl) (apo) dw) (.nil)))
noncomputable def c41:=bW Tryz.f41
theorem ayN:bV 41 Tryz.f41 c41:=bX
abbrev a41:Ty:=Zg
abbrev r41:Ty:=T1
noncomputable def G41:Ctx:=Ctx.of [(104,.pure ayG),(105,.pure ayM),(106,.pure ayB),(107,.pure ayC)]
theorem g41:SP G41:=aB (fa ⟨⟨ajJ.c,aMZ⟩,fa ⟨⟨Zp.c,aNn⟩,fa ⟨⟨ajH.c,aMK⟩,fa ⟨⟨ajI.c,aMR⟩,f0⟩⟩⟩⟩)
noncomputable def ajN:Code:=bn ((ay (c41))[0]?)
theorem aps:ay (ajN)=[]:=by kernel_rfl
theorem aNq:ay (c41)=[.loop ajN]:=by kernel_rfl
noncomputable def l41:List Loop:=[.ia 3 []]
def Q41 {α:Type} (l:Option (r41).den->α) (an:α->α->α) (x:(a41).den):α:=cl (Uf).dflt (Zj (x.1,())) (fun u0=>bif (!u0.1) then l (some ((0:Int),((2:Int),()))) else cl (Ui).dflt (Zr (x.1,())) (fun u1=>cl (Ud).dflt (Zf ((x.1.1,(u1.1.2.2.2.2.1,())),())) (fun u2=>bif (u2.1.1 (u1.1.2.2.2.2.2.1,())).1 then cl (Nl).dflt (Ue ((x.1.1,(u1.1.2.2.2.2.1,())),((u2.1.1 (u1.1.2.2.2.2.2.1,())).2.1,(u1.1.2.1,())))) (fun u3=>bif u3.1 then l (some ((3:Int),((0:Int),()))) else bif (u2.1.2.1 u1.1.2.2.2.2.2.2).1 then cl (Nl).dflt (Ue ((x.1.1,(u1.1.2.2.2.2.1,())),((u2.1.2.1 u1.1.2.2.2.2.2.2).2.1,(u1.1.2.1,())))) (fun u4=>bif u4.1 then l (some ((2:Int),((0:Int),()))) else l (some ((1:Int),((0:Int),())))) (l none) else l none) (l none) else l none) (l none)) (l none)) (l none)
theorem q41:QO G41 Tryz.f41 l41 a41 r41 Q41:=fun _=>by kernel_rfl
def M41 (x:(a41).den):Option (r41).den:=Q41 (fun r=>r) (fun _ _=>none) x
theorem m41:MOz G41 Tryz.f41 l41 M41:=fun x=>by rw [q41]; unfold M41 Q41; simp only [Tree.sure,sus]
def p41:=pO M41
def v41:=vO (τ:=r41) M41
def k41:Con:=⟨a41,r41,p41,v41⟩
theorem h41:aQ Tryz.prog 41 k41:=hO ayN g41 m41 fun G' hlo hF hE=>aP (by rw [aNq]; exact .WH (aP (by rw [aps]; exact .nil)) (.nil))
noncomputable def apt:=bW Tryz.f167
theorem ajO:bV 167 Tryz.f167 apt:=bX
abbrev ayO:Ty:=(.fn lz T3)
abbrev aNs:Ty:=(.cons ayO .nil)
abbrev ayP:Ty:=(.cons (.sl T1) aNs)
abbrev afQ:Ty:=ayP
abbrev Uj:Ty:=T0
noncomputable def Zs:Ctx:=Ctx.of []
theorem aNt:SP Zs:=aB f0
noncomputable def Gy:Code:=bn ((ay (apt))[0]?)
theorem afR:ay (Gy)=[]:=by kernel_rfl
abbrev oV:List bg:=[.slot 0 (.pc (.sl T1)),.slot 1 (.pc ayO),.slot 7 (.pc tI)]
abbrev ku:List bg:=[.slot 8 (.pc tI)]
abbrev QF:List bg:=oV ++ ku
def Zt:ZJ oV ku QF:=ZA _ _
def QG:ZS oV ku QF:=ZP _ _
abbrev afS:bk:=⟨[(0,[])],[.slot 4 (.pc tI)],[]⟩
abbrev Aj:bk:=⟨[(0,[])],[.slot 4 (.pc tI)],[]⟩
def Gz:ZE oV Aj afS:=fun id=>match id with | 0=>fun c y=>y | _=>gC
def Cm {α:Type} (l:RQ ku Aj->α) (an:α->α->α) (c:ZD oV) (v:ZD ku):α:=bif (decide (v.1 < c.2.2.1)) then bif (decide (((0:Int)<=v.1)/\(v.1 < ((c.1.n:Nat):Int)))) then bif (c.2.1 ((c.1.g (Int.toNat v.1)),())).1 then bif (c.2.1 ((c.1.g (Int.toNat v.1)),())).2.1 then l (.out (.ret v)) else l (.next ((W (v.1 + (1:Int))),())) else l .bad else l .bad else l (.out (.exit 0 ()))
theorem apu:ZO Zs 0 19 Gy [] Zt Gz ZI ZI Cm:=fun _ _=>by kernel_rfl
def Cn (c:ZD oV) (v:ZD ku):RQ ku Aj:=Cm (fun r=>r) (fun _ _=>.bad) c v
theorem apv:SO Zs 0 19 Gy [] Zt Gz ZI ZI Cn:=fun c v=>by rw [apu]; unfold Cn Cm; simp only [bE,bq,dqs]
def Co (c:ZD oV) (v:ZD ku):LQ Aj:=bB (Cn c) dw v
theorem ayQ:ay (apt)=[.loop Gy]:=by kernel_rfl
noncomputable def ayR:List Loop:=[lk 0 Gz ZI ZI true QG Co]
def afT {α:Type} (l:Option (Uj).den->α) (an:α->α->α) (x:(afQ).den):α:=bp (Co (x.1,(x.2.1,(((x.1.n:Nat):Int),()))) ((0:Int),())) 0 (fun u0=>l (some ((-1:Int),()))) (bK (Co (x.1,(x.2.1,(((x.1.n:Nat):Int),()))) ((0:Int),())) (fun u1=>l (some u1)) (l none))
theorem aNu:QO Zs Tryz.f167 ayR afQ Uj afT:=fun _=>by kernel_rfl
def NB (x:(afQ).den):Option (Uj).den:=afT (fun r=>r) (fun _ _=>none) x
theorem aNv:MOz Zs Tryz.f167 ayR NB:=fun x=>by rw [aNu]; unfold NB afT; simp only [Tree.sure,sus]
def aNw:=pO NB
def aNx:=vO (τ:=Uj) NB
def ayS:Con:=⟨afQ,Uj,aNw,aNx⟩
theorem aNy:aQ Tryz.prog 167 ayS:=hO ajO aNt aNv fun G' hlo hF hE=>aP (by rw [ayQ]; exact .cons (lv hE hF hlo (ln afR) QG apv) (.nil))
noncomputable def aNz:=bW Tryz.f116
theorem ajP:bV 116 Tryz.f116 aNz:=bX
abbrev afU:Ty:=ayP
abbrev Uk:Ty:=T3
noncomputable def apw:Ctx:=Ctx.of [(167,.pure ayS)]
theorem aNA:SP apw:=aB (fa ⟨⟨ajO.c,aNy⟩,f0⟩)
def afV {α:Type} (l:Option (Uk).den->α) (an:α->α->α) (x:(afU).den):α:=cl (Uj).dflt (NB x) (fun u0=>l (some ((decide ((0:Int)<=u0.1)),()))) (l none)
theorem aNB:QO apw Tryz.f116 [] afU Uk afV:=fun _=>by kernel_rfl
def JL (x:(afU).den):Option (Uk).den:=afV (fun r=>r) (fun _ _=>none) x
theorem aNC:MOz apw Tryz.f116 [] JL:=fun x=>by rw [aNB]; unfold JL afV; simp only [Tree.sure,sus]
def aND:=pO JL
def apx:=vO (τ:=Uk) JL
def ayT:Con:=⟨afU,Uk,aND,apx⟩
theorem aNE:aQ Tryz.prog 116 ayT:=hO ajP aNA aNC l0
noncomputable def aNF:=bW Tryz.f117
theorem ajQ:bV 117 Tryz.f117 aNF:=bX
abbrev afW:Ty:=lz
abbrev Zu:Ty:=T3
noncomputable def apy:Ctx:=Ctx.of []
theorem aNG:SP apy:=aB f0
def afX {α:Type} (l:Option (Zu).den->α) (an:α->α->α) (x:(afW).den):α:=bif (decide (x.1.1 < (0:Int))) then l (some (true,())) else bif (decide (x.1.2.1 < x.1.1)) then l (some (true,())) else l (some ((decide ((60:Int) < x.1.2.1)),()))
theorem aNH:QO apy Tryz.f117 [] afW Zu afX:=fun _=>by kernel_rfl
def Ul (x:(afW).den):Option (Zu).den:=afX (fun r=>r) (fun _ _=>none) x
theorem aNI:MOz apy Tryz.f117 [] Ul:=fun x=>by rw [aNH]; unfold Ul afX; simp only [Tree.sure,sus]
def Um:=pO Ul
def Un:=vO (τ:=Zu) Ul
def ayU:Con:=⟨afW,Zu,Um,Un⟩
theorem aNJ:aQ Tryz.prog 117 ayU:=hO ajQ aNG aNI l0
noncomputable def c50:=bW Tryz.f50
theorem apz:bV 50 Tryz.f50 c50:=bX
abbrev xZ:Ty:=(.cons (.sl T1) .nil)
abbrev nF:Ty:=(.sl xZ)
abbrev aNK:Ty:=(.cons nF .nil)
abbrev aNL:Ty:=(.cons (.sl T1) aNK)
abbrev aNM:Ty:=(.cons tI aNL)
abbrev Zv:Ty:=(.agg aNM)
abbrev afY:Ty:=(.cons Zv .nil)
abbrev a50:Ty:=afY
abbrev r50:Ty:=T3
noncomputable def G50:Ctx:=Ctx.of [(61,.pure k61),(116,.pure ayT),(117,.pure ayU)]
theorem g50:SP G50:=aB (fa ⟨⟨YK.c,h61⟩,fa ⟨⟨ajP.c,aNE⟩,fa ⟨⟨ajQ.c,aNJ⟩,f0⟩⟩⟩)
noncomputable def QH:Code:=bn ((ay (c50))[0]?)
theorem apC:ay (QH)=[]:=by kernel_rfl
abbrev uI:List bg:=[.slot 1 (.ptr 1),.slot 29 (.pc (.sl T1)),.slot 30 (.pc tI),.box 1 [.pc tI,.pc (.sl T1),.pc nF]]
abbrev oW:List bg:=[.slot 31 (.pc tI)]
abbrev Zw:List bg:=uI ++ oW
def ajR:ZJ uI oW Zw:=ZA _ _
def Zx:ZS uI oW Zw:=ZP _ _
abbrev apD:bk:=⟨[(0,[.slot 1 (.ptr 1),.box 1 [.pc tI,.pc (.sl T1),.pc nF]])],[.slot 2 (.pc .bool)],[]⟩
abbrev GA:bk:=⟨[(0,[])],[.slot 2 (.pc .bool)],[]⟩
def NC:ZE uI GA apD:=fun id=>match id with | 0=>fun c y=>(c.1,(c.2.2.2.1,y)) | _=>gC
def JM {α:Type} (l:RQ oW GA->α) (an:α->α->α) (c:ZD uI) (v:ZD oW):α:=bif (decide (v.1 < c.2.2.1)) then bif (decide (((0:Int)<=v.1)/\(v.1 < ((c.2.1.n:Nat):Int)))) then cl (MV).dflt (KV ((c.2.1.g (Int.toNat v.1)).1,((0:Int),((10:Int),())))) (fun u0=>bif (!u0.1) then l (.out (.ret (false,()))) else cl (MV).dflt (KV ((c.2.1.g (Int.toNat v.1)).2.1,((0:Int),((400:Int),())))) (fun u1=>bif (!u1.1) then l (.out (.ret (false,()))) else l (.next ((W (v.1 + (1:Int))),()))) (l .bad)) (l .bad) else l .bad else l (.out (.exit 0 ()))
theorem ayV:ZO G50 0 64 QH [] ajR NC ZI ZI JM:=fun _ _=>by kernel_rfl
def JN (c:ZD uI) (v:ZD oW):RQ oW GA:=JM (fun r=>r) (fun _ _=>.bad) c v
theorem ayW:SO G50 0 64 QH [] ajR NC ZI ZI JN:=fun c v=>by rw [ayV]; unfold JN JM; simp only [bE,bq,dqs]
def JO (c:ZD uI) (v:ZD oW):LQ GA:=bB (JN c) dw v
noncomputable def QI:Code:=bn ((ay (c50))[1]?)
theorem apE:ay (QI)=[]:=by kernel_rfl
abbrev uJ:List bg:=[.slot 1 (.ptr 1),.slot 47 (.pc nF),.slot 48 (.pc tI),.box 1 [.pc tI,.pc (.sl T1),.pc nF]]
abbrev oX:List bg:=[.slot 49 (.pc tI)]
abbrev Zy:List bg:=uJ ++ oX
def ajS:ZJ uJ oX Zy:=ZA _ _
def Zz:ZS uJ oX Zy:=ZP _ _
abbrev apF:bk:=⟨[(2,[])],[.slot 2 (.pc .bool)],[]⟩
abbrev GB:bk:=⟨[(2,[])],[.slot 2 (.pc .bool)],[]⟩
def ND:ZE uJ GB apF:=fun id=>match id with | 2=>fun c y=>y | _=>gC
def JQ {α:Type} (l:RQ oX GB->α) (an:α->α->α) (c:ZD uJ) (v:ZD oX):α:=bif (decide (v.1 < c.2.2.1)) then bif (decide (((0:Int)<=v.1)/\(v.1 < ((c.2.1.n:Nat):Int)))) then bif (!(decide ((((c.2.1.g (Int.toNat v.1)).1.n:Nat):Int)=((c.2.2.2.1.2.2.1.n:Nat):Int)))) then l (.out (.ret (false,()))) else cl (Uk).dflt (JL ((c.2.1.g (Int.toNat v.1)).1,((fun y2=>((Um y2),(Un y2))),()))) (fun u2=>bif (apx ((c.2.1.g (Int.toNat v.1)).1,((fun y3=>((Um y3),(Un y3))),()))).1 then l (.out (.ret (false,()))) else l (.next ((W (v.1 + (1:Int))),()))) (l .bad) else l .bad else l (.out (.exit 2 ()))
theorem ayX:ZO G50 0 64 QI [] ajS ND ZI ZI JQ:=fun _ _=>by kernel_rfl
def JR (c:ZD uJ) (v:ZD oX):RQ oX GB:=JQ (fun r=>r) (fun _ _=>.bad) c v
theorem ayY:SO G50 0 64 QI [] ajS ND ZI ZI JR:=fun c v=>by rw [ayX]; unfold JR JQ; simp only [bE,bq,dqs]
def JT (c:ZD uJ) (v:ZD oX):LQ GB:=bB (JR c) dw v
theorem aNN:ay (c50)=[.loop QH,.loop QI]:=by kernel_rfl
noncomputable def l50:List Loop:=[lk 0 NC ZI ZI true Zx JO,lk 0 ND ZI ZI true Zz JT]
def Q50 {α:Type} (l:Option (r50).den->α) (an:α->α->α) (x:(a50).den):α:=cl (MV).dflt (KV (x.1.1,((0:Int),((400:Int),())))) (fun u3=>bif (!u3.1) then l (some (false,())) else cl (MV).dflt (KV (((x.1.2.1.n:Nat):Int),((1:Int),((6:Int),())))) (fun u4=>bif (!u4.1) then l (some (false,())) else bif (!(decide (((x.1.2.2.1.n:Nat):Int)=(W (((x.1.2.1.n:Nat):Int) + (1:Int)))))) then l (some (false,())) else bp (JO ((),(x.1.2.1,(((x.1.2.1.n:Nat):Int),(x.1,())))) ((0:Int),())) 0 (fun u5=>bp (JT ((),(x.1.2.2.1,(((x.1.2.2.1.n:Nat):Int),(x.1,())))) ((0:Int),())) 2 (fun u6=>l (some (true,()))) (bK (JT ((),(x.1.2.2.1,(((x.1.2.2.1.n:Nat):Int),(x.1,())))) ((0:Int),())) (fun u7=>l (some u7)) (l none))) (bK (JO ((),(x.1.2.1,(((x.1.2.1.n:Nat):Int),(x.1,())))) ((0:Int),())) (fun u8=>l (some u8)) (l none))) (l none)) (l none)
theorem q50:QO G50 Tryz.f50 l50 a50 r50 Q50:=fun _=>by kernel_rfl
def M50 (x:(a50).den):Option (r50).den:=Q50 (fun r=>r) (fun _ _=>none) x
theorem m50:MOz G50 Tryz.f50 l50 M50:=fun x=>by rw [q50]; unfold M50 Q50; simp only [Tree.sure,sus]
def p50:=pO M50
def v50:=vO (τ:=r50) M50
def k50:Con:=⟨a50,r50,p50,v50⟩
theorem h50:aQ Tryz.prog 50 k50:=hO apz g50 m50 fun G' hlo hF hE=>aP (by rw [aNN]; exact .cons (lv hE hF hlo (ln apC) Zx ayW) (.cons (lv hE hF hlo (ln apE) Zz ayY) (.nil)))
noncomputable def afZ:=bW Tryz.f118
theorem ZB:bV 118 Tryz.f118 afZ:=bX
abbrev ajU:List bg:=[.slot 0 (.ptr 4),.slot 1 (.ptr 5),.box 4 [.pc tI],.box 5 [.pc .bool]]
noncomputable def ayZ:Ctx:=Ctx.of []
theorem aNP:SP ayZ:=aB f0
noncomputable def QJ:Code:=match afZ with | .seq _ r=>r | _=>.skip
theorem af0:dP Tryz.prog 118 (fun _ _ _ _=>.leaf .bad):=fun _ _ _ _ _ _ _ _ _ _ _ _ _ _ _ _ hall=>absurd rfl (hall .bad rfl)
noncomputable def d118:LN:=adM Tryz.f118.ntmps ajU (amc Tryz.prog E0 ayZ Tryz.f118.ntmps QJ [] 100 ajU 5)
noncomputable def ajV:Oper:=match afZ with | .seq (.region _ ops _) _=>ops.toList.headD default | _=>default
noncomputable def apG:Nat:=match afZ with | .seq (.region r _ _) _=>r | _=>0
noncomputable def apH:Call:=match ajV.op with | .call c=>c | _=>default
theorem ay0:BI Tryz.prog 118 d118:=tn (E:=E0) (o:=ajV) (rid:=apG) (c:=apH) bS aNP bN bH ZB.a (rest:=QJ) (by kernel_rfl) (by kernel_rfl) (by kernel_rfl) (by kernel_rfl) (by kernel_rfl) (by kernel_rfl) (by kernel_rfl) (by kernel_rfl) (by kernel_rfl) fun G' _ _ _=>cO
noncomputable def c59:=bW Tryz.f59
theorem apI:bV 59 Tryz.f59 c59:=bX
abbrev ZC:Ty:=(.cons Zv Tq)
abbrev a59:Ty:=ZC
abbrev r59:Ty:=xZ
noncomputable def G59:Ctx:=Ctx.of []
theorem g59:SP G59:=aB f0
noncomputable def QK:Code:=bn ((ay (c59))[0]?)
theorem apK:ay (QK)=[]:=by kernel_rfl
abbrev uK:List bg:=[.slot 2 (.ptr 2),.slot 9 (.pc (.sl T0)),.slot 10 (.pc tI),.box 2 [.pc tI,.pc (.sl T1),.pc nF]]
abbrev oY:List bg:=[.slot 5 (.own 1000005 31 T1),.slot 6 (.pc tI),.slot 11 (.pc tI)]
abbrev ZG:List bg:=uK ++ oY
def ajW:ZJ uK oY ZG:=ZA _ _
def ZH:ZS uK oY ZG:=ZP _ _
abbrev apL:bk:=⟨[(0,[.slot 5 (.pc (.sl T1))])],[],[]⟩
abbrev GC:bk:=⟨[(0,[.slot 5 (.pc (.sl T1))])],[],[]⟩
def NF:ZE uK GC apL:=fun id=>match id with | 0=>fun c y=>y | _=>gC
def JU {α:Type} (l:RQ oY GC->α) (an:α->α->α) (c:ZD uK) (v:ZD oY):α:=bif (decide (v.2.2.1 < c.2.2.1)) then bif (decide (((0:Int)<=v.2.2.1)/\(v.2.2.1 < ((c.2.1.n:Nat):Int)))) then bif (decide (((0:Int)<=v.2.1)/\(v.2.1 < ((c.2.2.2.1.2.2.1.n:Nat):Int)))) then bif (decide (((0:Int)<=(W ((c.2.1.g (Int.toNat v.2.2.1)).1 + (1:Int))))/\((W ((c.2.1.g (Int.toNat v.2.2.1)).1 + (1:Int))) < (((c.2.2.2.1.2.2.1.g (Int.toNat v.2.1)).1.n:Nat):Int)))) then bif (decide (((v.1.n + 1) * 16)<=140737488355328)) then l (.next ((cj v.1 (⟨1,fun i=>List.getD [((c.2.2.2.1.2.2.1.g (Int.toNat v.2.1)).1.g (Int.toNat (W ((c.2.1.g (Int.toNat v.2.2.1)).1 + (1:Int)))))] i ((c.2.2.2.1.2.2.1.g (Int.toNat v.2.1)).1.g (Int.toNat (W ((c.2.1.g (Int.toNat v.2.2.1)).1 + (1:Int)))))⟩:Sl (Ty.den T1))),((W ((c.2.1.g (Int.toNat v.2.2.1)).1 + (1:Int))),((W (v.2.2.1 + (1:Int))),())))) else l .bad else l .bad else l .bad else l .bad else l (.out (.exit 0 (v.1,())))
theorem ay2:ZO G59 0 31 QK [] ajW NF ZI ZI JU:=fun _ _=>by kernel_rfl
def JV (c:ZD uK) (v:ZD oY):RQ oY GC:=JU (fun r=>r) (fun _ _=>.bad) c v
theorem ay3:SO G59 0 31 QK [] ajW NF ZI ZI JV:=fun c v=>by rw [ay2]; unfold JV JU; simp only [bE,bq,dqs]
def QL (c:ZD uK) (v:ZD oY):LQ GC:=bB (JV c) dw v
theorem aNR:ay (c59)=[.loop QK]:=by kernel_rfl
noncomputable def l59:List Loop:=[lk 0 NF ZI ZI false ZH QL]
def Q59 {α:Type} (l:Option (r59).den->α) (an:α->α->α) (x:(a59).den):α:=bp (QL ((),(x.2.1,(((x.2.1.n:Nat):Int),(x.1,())))) ((⟨0,fun i=>((0:Int),((0:Int),()))⟩:Sl _),((0:Int),((0:Int),())))) 0 (fun u0=>l (some u0)) (l none)
theorem q59:QO G59 Tryz.f59 l59 a59 r59 Q59:=fun _=>by kernel_rfl
def M59 (x:(a59).den):Option (r59).den:=Q59 (fun r=>r) (fun _ _=>none) x
theorem m59:MOz G59 Tryz.f59 l59 M59:=fun x=>by rw [q59]; unfold M59 Q59; simp only [Tree.sure,sus]
def p59:=pO M59
def v59:=vO (τ:=r59) M59
def k59:Con:=⟨a59,r59,p59,v59⟩
theorem h59:aQ Tryz.prog 59 k59:=hO apI g59 m59 fun G' hlo hF hE=>aP (by rw [aNR]; exact .cons (lv hE hF hlo (ln apK) ZH ay3) (.nil))
noncomputable def apM:=bW Tryz.f168
theorem ajY:bV 168 Tryz.f168 apM:=bX
abbrev af1:Ty:=ZC
abbrev Uo:Ty:=aod
noncomputable def ZK:Ctx:=Ctx.of [(59,.pure k59)]
theorem aNT:SP ZK:=aB (fa ⟨⟨apI.c,h59⟩,f0⟩)
noncomputable def GD:Code:=bn ((ay (apM))[0]?)
theorem af2:ay (GD)=[]:=by kernel_rfl
abbrev oZ:List bg:=[.slot 4 (.ptr 4),.slot 5 (.ptr 37),.slot 10 (.pc (.sl T1)),.slot 11 (.pc tI),.box 4 [.own 1005000 3 T0,.own 1005001 3 T0]]
abbrev kz:List bg:=[.slot 12 (.pc tI),.box 37 [.own 1038000 3 T0,.own 1038001 3 T0]]
abbrev QM:List bg:=oZ ++ kz
def ZL:ZJ oZ kz QM:=ZA _ _
def QN:ZS oZ kz QM:=ZP _ _
abbrev af3:bk:=⟨[(0,[.slot 4 (.ptr 4),.slot 5 (.ptr 37),.box 4 [.own 1005000 3 T0,.own 1005001 3 T0],.box 37 [.own 1038000 3 T0,.own 1038001 3 T0]])],[],[]⟩
abbrev Ak:bk:=⟨[(0,[.box 37 [.own 1038000 3 T0,.own 1038001 3 T0]])],[],[]⟩
def GF:ZE oZ Ak af3:=fun id=>match id with | 0=>fun c y=>(c.1,(c.2.1,(c.2.2.2.2.1,y))) | _=>gC
def Cp {α:Type} (l:RQ kz Ak->α) (an:α->α->α) (c:ZD oZ) (v:ZD kz):α:=bif (decide (v.1 < c.2.2.2.1)) then bif (decide (((0:Int)<=v.1)/\(v.1 < ((c.2.2.1.n:Nat):Int)))) then bif (decide (((v.2.1.1.n + 1) * 8)<=140737488355328)) then bif (decide (((v.2.1.2.1.n + 1) * 8)<=140737488355328)) then l (.next ((W (v.1 + (1:Int))),(((cj v.2.1.1 (⟨1,fun i=>List.getD [((c.2.2.1.g (Int.toNat v.1)).1,())] i ((c.2.2.1.g (Int.toNat v.1)).1,())⟩:Sl (Ty.den T0))),((cj v.2.1.2.1 (⟨1,fun i=>List.getD [(c.2.2.1.g (Int.toNat v.1)).2] i (c.2.2.1.g (Int.toNat v.1)).2⟩:Sl (Ty.den T0))),())),()))) else l .bad else l .bad else l .bad else l (.out (.exit 0 (v.2.1,())))
theorem apN:ZO ZK 0 32 GD [] ZL GF ZI ZI Cp:=fun _ _=>by kernel_rfl
def Cq (c:ZD oZ) (v:ZD kz):RQ kz Ak:=Cp (fun r=>r) (fun _ _=>.bad) c v
theorem apO:SO ZK 0 32 GD [] ZL GF ZI ZI Cq:=fun c v=>by rw [apN]; unfold Cq Cp; simp only [bE,bq,dqs]
def GG (c:ZD oZ) (v:ZD kz):LQ Ak:=bB (Cq c) dw v
theorem ay4:ay (apM)=[.loop GD]:=by kernel_rfl
noncomputable def ay5:List Loop:=[lk 0 GF ZI ZI false QN GG]
def af4 {α:Type} (l:Option (Uo).den->α) (an:α->α->α) (x:(af1).den):α:=cl (r59).dflt (M59 (x.1,x.2)) (fun u0=>bp (GG ((),((),(u0.1,(((u0.1.n:Nat):Int),(((⟨0,fun i=>((0:Int),())⟩:Sl _),((⟨0,fun i=>((0:Int),())⟩:Sl _),())),()))))) ((0:Int),(((⟨0,fun i=>((0:Int),())⟩:Sl _),((⟨0,fun i=>((0:Int),())⟩:Sl _),())),()))) 0 (fun u1=>l (some (u1.1,()))) (l none)) (l none)
theorem aNU:QO ZK Tryz.f168 ay5 af1 Uo af4:=fun _=>by kernel_rfl
def NG (x:(af1).den):Option (Uo).den:=af4 (fun r=>r) (fun _ _=>none) x
theorem aNV:MOz ZK Tryz.f168 ay5 NG:=fun x=>by rw [aNU]; unfold NG af4; simp only [Tree.sure,sus]
def aNW:=pO NG
def aNX:=vO (τ:=Uo) NG
def ay6:Con:=⟨af1,Uo,aNW,aNX⟩
theorem aNY:aQ Tryz.prog 168 ay6:=hO ajY aNT aNV fun G' hlo hF hE=>aP (by rw [ay4]; exact .cons (lv hE hF hlo (ln af2) QN apO) (.nil))
noncomputable def c62:=bW Tryz.f62
theorem apP:bV 62 Tryz.f62 c62:=bX
abbrev ay7:Ty:=(.cons Zv TT)
abbrev zC:Ty:=(.cons (.sl T0) T0)
abbrev a62:Ty:=ay7
abbrev r62:Ty:=zC
noncomputable def G62:Ctx:=Ctx.of []
theorem g62:SP G62:=aB f0
noncomputable def QS:Code:=bn ((ay (c62))[0]?)
theorem apR:ay (QS)=[]:=by kernel_rfl
abbrev uL:List bg:=[.slot 2 (.pc (.sl T0)),.slot 3 (.ptr 3),.slot 14 (.pc (.sl T0)),.slot 15 (.pc tI),.box 3 [.pc tI,.pc (.sl T1),.pc nF]]
abbrev pe:List bg:=[.slot 8 (.own 1000008 3 T0),.slot 9 (.pc tI),.slot 16 (.pc tI)]
abbrev ZM:List bg:=uL ++ pe
def ajZ:ZJ uL pe ZM:=ZA _ _
def ZN:ZS uL pe ZM:=ZP _ _
abbrev apS:bk:=⟨[(0,[.slot 8 (.pc (.sl T0)),.slot 9 (.pc tI)])],[],[]⟩
abbrev GH:bk:=⟨[(0,[.slot 8 (.pc (.sl T0)),.slot 9 (.pc tI)])],[],[]⟩
def NH:ZE uL GH apS:=fun id=>match id with | 0=>fun c y=>y | _=>gC
def JW {α:Type} (l:RQ pe GH->α) (an:α->α->α) (c:ZD uL) (v:ZD pe):α:=bif (decide (v.2.2.1 < c.2.2.2.1)) then bif (decide (((0:Int)<=v.2.2.1)/\(v.2.2.1 < ((c.2.2.1.n:Nat):Int)))) then bif (decide (((0:Int)<=v.2.2.1)/\(v.2.2.1 < ((c.1.n:Nat):Int)))) then bif (decide (((v.1.n + 1) * 8)<=140737488355328)) then bif (decide (((0:Int)<=(c.2.2.1.g (Int.toNat v.2.2.1)).1)/\((c.2.2.1.g (Int.toNat v.2.2.1)).1 < ((c.2.2.2.2.1.2.1.n:Nat):Int)))) then l (.next ((cj v.1 (⟨1,fun i=>List.getD [((W (v.2.1 + (c.1.g (Int.toNat v.2.2.1)).1)),())] i ((W (v.2.1 + (c.1.g (Int.toNat v.2.2.1)).1)),())⟩:Sl (Ty.den T0))),((W ((W (v.2.1 + (c.1.g (Int.toNat v.2.2.1)).1)) + (c.2.2.2.2.1.2.1.g (Int.toNat (c.2.2.1.g (Int.toNat v.2.2.1)).1)).1)),((W (v.2.2.1 + (1:Int))),())))) else l .bad else l .bad else l .bad else l .bad else l (.out (.exit 0 (v.1,(v.2.1,()))))
theorem ay9:ZO G62 0 42 QS [] ajZ NH ZI ZI JW:=fun _ _=>by kernel_rfl
def JX (c:ZD uL) (v:ZD pe):RQ pe GH:=JW (fun r=>r) (fun _ _=>.bad) c v
theorem aza:SO G62 0 42 QS [] ajZ NH ZI ZI JX:=fun c v=>by rw [ay9]; unfold JX JW; simp only [bE,bq,dqs]
def QT (c:ZD uL) (v:ZD pe):LQ GH:=bB (JX c) dw v
theorem aN0:ay (c62)=[.loop QS]:=by kernel_rfl
noncomputable def l62:List Loop:=[lk 0 NH ZI ZI false ZN QT]
def Q62 {α:Type} (l:Option (r62).den->α) (an:α->α->α) (x:(a62).den):α:=bp (QT (x.2.2.1,((),(x.2.1,(((x.2.1.n:Nat):Int),(x.1,()))))) ((⟨0,fun i=>((0:Int),())⟩:Sl _),(x.1.1,((0:Int),())))) 0 (fun u0=>l (some u0)) (l none)
theorem q62:QO G62 Tryz.f62 l62 a62 r62 Q62:=fun _=>by kernel_rfl
def M62 (x:(a62).den):Option (r62).den:=Q62 (fun r=>r) (fun _ _=>none) x
theorem m62:MOz G62 Tryz.f62 l62 M62:=fun x=>by rw [q62]; unfold M62 Q62; simp only [Tree.sure,sus]
def p62:=pO M62
def v62:=vO (τ:=r62) M62
def k62:Con:=⟨a62,r62,p62,v62⟩
theorem h62:aQ Tryz.prog 62 k62:=hO apP g62 m62 fun G' hlo hF hE=>aP (by rw [aN0]; exact .cons (lv hE hF hlo (ln apR) ZN aza) (.nil))
noncomputable def apT:=bW Tryz.f119
theorem ZQ:bV 119 Tryz.f119 apT:=bX
abbrev Up:Ty:=T0
abbrev tq:List bg:=[.agg 0 (.cons tI (.cons (.sl vo) (.cons (.sl (.cons (.sl vo) .nil)) .nil))),.slot 1 (.pc tL)]
abbrev GI:List (Nat×Ty):=[(208,.agg (.cons tI .nil))]
noncomputable def ZR:Ctx:=Ctx.of [(62,.pure k62),(168,.pure ay6)]
theorem aN2:SP ZR:=aB (fa ⟨⟨apP.c,h62⟩,fa ⟨⟨ajY.c,aNY⟩,f0⟩⟩)
noncomputable def GJ:Code:=bn ((ay (apT))[0]?)
theorem af6:ay (GJ)=[]:=by kernel_rfl
abbrev pg:List bg:=[.slot 1 (.pc (.sl T0)),.slot 2 (.ptr 3),.slot 7 (.pc tI),.slot 21 (.pc (.sl T0)),.slot 22 (.pc tI),.box 3 [.pc tI,.pc (.sl T1),.pc nF]]
abbrev kA:List bg:=[.slot 23 (.pc tI)]
abbrev GK:List bg:=pg ++ kA
def ZT:ZJ pg kA GK:=ZA _ _
def Al:ZS pg kA GK:=ZP _ _
abbrev GL:Ty:=(.agg T0)
abbrev GM:bk:=⟨[(0,[.slot 7 (.pc tI)])],[],[]⟩
abbrev Am:bk:=⟨[(0,[])],[],[]⟩
def GN:ZE pg Am GM:=fun id=>match id with | 0=>fun c y=>(c.2.2.1,y) | _=>gC
def Cr {α:Type} (l:RQ kA Am->α) (an:α->α->α) (c:ZD pg) (v:ZD kA):α:=bif (decide (v.1 < c.2.2.2.2.1)) then bif (decide (((0:Int)<=v.1)/\(v.1 < ((c.2.2.2.1.n:Nat):Int)))) then bif (decide (((0:Int)<=v.1)/\(v.1 < ((c.1.n:Nat):Int)))) then bif (decide (((0:Int)<=(c.1.g (Int.toNat v.1)).1)/\((c.1.g (Int.toNat v.1)).1 < ((c.2.2.2.2.2.1.2.1.n:Nat):Int)))) then bif (decide ((c.2.2.2.2.2.1.2.1.g (Int.toNat (c.1.g (Int.toNat v.1)).1)).2.1 < (c.2.2.2.1.g (Int.toNat v.1)).1)) then bif (decide (((0:Int)<=v.1)/\(v.1 < ((c.1.n:Nat):Int)))) then l (.out (.bP 208 GL (c.1.g (Int.toNat v.1)) ())) else l .bad else l (.next ((W (v.1 + (1:Int))),())) else l .bad else l .bad else l .bad else l (.out (.exit 0 ()))
theorem apU:ZO ZR 0 47 GJ [] ZT GN ZI ZI Cr:=fun _ _=>by kernel_rfl
def Cs (c:ZD pg) (v:ZD kA):RQ kA Am:=Cr (fun r=>r) (fun _ _=>.bad) c v
theorem apV:SO ZR 0 47 GJ [] ZT GN ZI ZI Cs:=fun c v=>by rw [apU]; unfold Cs Cr; simp only [bE,bq,dqs]
def Ct (c:ZD pg) (v:ZD kA):LQ Am:=bB (Cs c) dw v
theorem azb:ay (apT)=[.loop GJ]:=by kernel_rfl
noncomputable def azc:List Loop:=[.known (fm 0 [] GK fun x=>cD GM GN ZI ZI [(208,GL)] false (Al x).1 (Ct (Al x).1 (Al x).2) GM.dY)]
def af7 {α:Type} (l:GO Up (aD tq)->α) (an:α->α->α) (x:ZD tq):α:=cl (Uo).dflt (NG (x.1,x.2)) (fun u0=>cl (r62).dflt (M62 (x.1,(x.2.1,u0.1.2))) (fun u1=>bp (Ct (x.2.1,((),(u1.2.1,(u1.1,(((u1.1.n:Nat):Int),(x.1,())))))) ((0:Int),())) 0 (fun u2=>l (.ok u1.2 ())) (gB (Ct (x.2.1,((),(u1.2.1,(u1.1,(((u1.1.n:Nat):Int),(x.1,())))))) ((0:Int),())) 208 GL (fun u3=>l (.bP 208 GL u3.1 ())) (l .bad))) (l .bad)) (l .bad)
theorem aN3 (x:ZD tq):ur Tryz.prog E0 ZR Tryz.f119 azc 0 Up tq x=af7 .leaf .any x:=by kernel_rfl
def JY (x:ZD tq):GO Up (aD tq):=af7 (fun r=>r) (fun _ _=>.bad) x
theorem aN4 (x:ZD tq):(ur Tryz.prog E0 ZR Tryz.f119 azc 0 Up tq x).cT .bad=JY x:=by rw [aN3]; unfold JY af7; simp only [ew,Tree.cT,gH,cZ,dK,de,dg,dL,dh,dM,ez,dm]
theorem aN5:dP Tryz.prog 119 (fT Tryz.f119.ntmps Up tq GI JY):=gT (E:=E0) bS aN2 bN bH ZQ.a ZQ.b (by kernel_rfl) (fun G' hlo hF hE=>aP (by rw [azb]; exact .cons (fK hE hF hlo (aP (by rw [af6]; exact .nil)) (by kernel_rfl) (by kernel_rfl) Al (fun _=>rfl) (fun _ _=>rfl) (apV) dw) (.nil))) GI aN4
noncomputable def c52:=bW Tryz.f52
theorem apW:bV 52 Tryz.f52 c52:=bX
abbrev a52:Ty:=ZC
abbrev r52:Ty:=T34
noncomputable def G52:Ctx:=Ctx.of [(118,.gen (fun _ _ _ _=>.leaf .bad)),(119,.gen (fT Tryz.f119.ntmps Up tq GI JY))]
theorem g52:SP G52:=aB (fa ⟨⟨ZB.c,af0⟩,fa ⟨⟨ZQ.c,aN5⟩,f0⟩⟩)
theorem aN7:ay (c52)=[]:=by kernel_rfl
noncomputable def l52:List Loop:=[]
noncomputable def D52:ry:=ry.of [(118,d118)]
theorem aN9:xR Tryz.prog D52:=xS (fa ⟨⟨ZB.c,ay0⟩,f0⟩)
def Q52 {α:Type} (l:Option (r52).den->α) (an:α->α->α) (x:(a52).den):α:=gj (JY (x.1,x.2)) 208 GL (fun u0=>l (some ((0:Int),(false,())))) (gF (JY (x.1,x.2)) (fun u1=>l (some (u1.1.1,(true,())))) (l none))
theorem q52 (x:(a52).den):rz Tryz.prog E0 G52 D52 Tryz.f52 l52 a52 r52 x=Q52 .leaf .any x:=by kernel_rfl
def M52 (x:(a52).den):Option (r52).den:=Q52 (fun r=>r) (fun _ _=>none) x
theorem m52 (x:(a52).den):(rz Tryz.prog E0 G52 D52 Tryz.f52 l52 a52 r52 x).sure=M52 x:=by rw [q52]; unfold M52 Q52; simp only [Tree.sure,sus]
def p52:=pO M52
def v52:=vO (τ:=r52) M52
def k52:Con:=⟨a52,r52,p52,v52⟩
theorem h52:aQ Tryz.prog 52 k52:=yS (E:=E0) bS g52 aN9 bN bH apW.a apW.b (by kernel_rfl) m52 fun G' hlo hF hE=>aP (by rw [aN7]; exact .nil)
noncomputable def ap0:=bW Tryz.f120
theorem aj0:bV 120 Tryz.f120 ap0:=bX
abbrev af8:Ty:=zC
abbrev Uq:Ty:=T0
noncomputable def ZU:Ctx:=Ctx.of []
theorem aOa:SP ZU:=aB f0
noncomputable def GP:Code:=bn ((ay (ap0))[0]?)
theorem af9:ay (GP)=[]:=by kernel_rfl
abbrev pn:List bg:=[.slot 0 (.pc (.sl T0)),.slot 1 (.pc tI),.slot 7 (.pc tI)]
abbrev kB:List bg:=[.slot 8 (.pc tI)]
abbrev QU:List bg:=pn ++ kB
def ZW:ZJ pn kB QU:=ZA _ _
def QV:ZS pn kB QU:=ZP _ _
abbrev aga:bk:=⟨[(0,[])],[.slot 4 (.pc tI)],[]⟩
abbrev An:bk:=⟨[(0,[])],[.slot 4 (.pc tI)],[]⟩
def GQ:ZE pn An aga:=fun id=>match id with | 0=>fun c y=>y | _=>gC
def Cu {α:Type} (l:RQ kB An->α) (an:α->α->α) (c:ZD pn) (v:ZD kB):α:=bif (decide (v.1 < c.2.2.1)) then bif (decide (((0:Int)<=v.1)/\(v.1 < ((c.1.n:Nat):Int)))) then bif (decide (c.2.1=(c.1.g (Int.toNat v.1)).1)) then l (.out (.ret v)) else l (.next ((W (v.1 + (1:Int))),())) else l .bad else l (.out (.exit 0 ()))
theorem ap1:ZO ZU 0 19 GP [] ZW GQ ZI ZI Cu:=fun _ _=>by kernel_rfl
def Cv (c:ZD pn) (v:ZD kB):RQ kB An:=Cu (fun r=>r) (fun _ _=>.bad) c v
theorem ap2:SO ZU 0 19 GP [] ZW GQ ZI ZI Cv:=fun c v=>by rw [ap1]; unfold Cv Cu; simp only [bE,bq,dqs]
def Cw (c:ZD pn) (v:ZD kB):LQ An:=bB (Cv c) dw v
theorem azd:ay (ap0)=[.loop GP]:=by kernel_rfl
noncomputable def aze:List Loop:=[lk 0 GQ ZI ZI true QV Cw]
def agb {α:Type} (l:Option (Uq).den->α) (an:α->α->α) (x:(af8).den):α:=bp (Cw (x.1,(x.2.1,(((x.1.n:Nat):Int),()))) ((0:Int),())) 0 (fun u0=>l (some ((-1:Int),()))) (bK (Cw (x.1,(x.2.1,(((x.1.n:Nat):Int),()))) ((0:Int),())) (fun u1=>l (some u1)) (l none))
theorem aOb:QO ZU Tryz.f120 aze af8 Uq agb:=fun _=>by kernel_rfl
def NI (x:(af8).den):Option (Uq).den:=agb (fun r=>r) (fun _ _=>none) x
theorem aOc:MOz ZU Tryz.f120 aze NI:=fun x=>by rw [aOb]; unfold NI agb; simp only [Tree.sure,sus]
def aOd:=pO NI
def aOe:=vO (τ:=Uq) NI
def azf:Con:=⟨af8,Uq,aOd,aOe⟩
theorem aOf:aQ Tryz.prog 120 azf:=hO aj0 aOa aOc fun G' hlo hF hE=>aP (by rw [azd]; exact .cons (lv hE hF hlo (ln af9) QV ap2) (.nil))
noncomputable def c54:=bW Tryz.f54
theorem ap3:bV 54 Tryz.f54 c54:=bX
abbrev a54:Ty:=zC
abbrev r54:Ty:=T3
noncomputable def G54:Ctx:=Ctx.of [(120,.pure azf)]
theorem g54:SP G54:=aB (fa ⟨⟨aj0.c,aOf⟩,f0⟩)
def Q54 {α:Type} (l:Option (r54).den->α) (an:α->α->α) (x:(a54).den):α:=cl (Uq).dflt (NI x) (fun u0=>l (some ((decide ((0:Int)<=u0.1)),()))) (l none)
theorem q54:QO G54 Tryz.f54 [] a54 r54 Q54:=fun _=>by kernel_rfl
def M54 (x:(a54).den):Option (r54).den:=Q54 (fun r=>r) (fun _ _=>none) x
theorem m54:MOz G54 Tryz.f54 [] M54:=fun x=>by rw [q54]; unfold M54 Q54; simp only [Tree.sure,sus]
def p54:=pO M54
def v54:=vO (τ:=r54) M54
def k54:Con:=⟨a54,r54,p54,v54⟩
theorem h54:aQ Tryz.prog 54 k54:=hO ap3 g54 m54 l0
noncomputable def aOi:=bW Tryz.f190
theorem aj1:bV 190 Tryz.f190 aOi:=bX
abbrev agd:Ty:=T0
abbrev NJ:Ty:=T3
noncomputable def ap5:Ctx:=Ctx.of []
theorem aOj:SP ap5:=aB f0
def age {α:Type} (l:Option (NJ).den->α) (an:α->α->α) (x:(agd).den):α:=l (some ((!(decide (x.1=x.1))),()))
theorem aOk:QO ap5 Tryz.f190 [] agd NJ age:=fun _=>by kernel_rfl
def NK (x:(agd).den):Option (NJ).den:=age (fun r=>r) (fun _ _=>none) x
theorem aOl:MOz ap5 Tryz.f190 [] NK:=fun x=>by rw [aOk]; unfold NK age; simp only [Tree.sure,sus]
def aOm:=pO NK
def aOn:=vO (τ:=NJ) NK
def azg:Con:=⟨agd,NJ,aOm,aOn⟩
theorem aOo:aQ Tryz.prog 190 azg:=hO aj1 aOj aOl l0
noncomputable def aOp:=bW Tryz.f169
theorem aj2:bV 169 Tryz.f169 aOp:=bX
abbrev agf:Ty:=T1
abbrev Ur:Ty:=T0
noncomputable def ap6:Ctx:=Ctx.of [(190,.pure azg)]
theorem aOq:SP ap6:=aB (fa ⟨⟨aj1.c,aOo⟩,f0⟩)
def agh {α:Type} (l:Option (Ur).den->α) (an:α->α->α) (x:(agf).den):α:=cl (NJ).dflt (NK (x.1,())) (fun u0=>cl (NJ).dflt (NK x.2) (fun u1=>bif u0.1 then bif u1.1 then l (some ((0:Int),())) else l (some ((-1:Int),())) else bif u1.1 then l (some ((1:Int),())) else bif (decide (x.1 < x.2.1)) then l (some ((-1:Int),())) else bif (decide (x.2.1 < x.1)) then l (some ((1:Int),())) else l (some ((0:Int),()))) (l none)) (l none)
theorem aOr:QO ap6 Tryz.f169 [] agf Ur agh:=fun _=>by kernel_rfl
def JZ (x:(agf).den):Option (Ur).den:=agh (fun r=>r) (fun _ _=>none) x
theorem aOs:MOz ap6 Tryz.f169 [] JZ:=fun x=>by rw [aOr]; unfold JZ agh; simp only [Tree.sure,sus]
def aOt:=pO JZ
def aOu:=vO (τ:=Ur) JZ
def azh:Con:=⟨agf,Ur,aOt,aOu⟩
theorem ap7:aQ Tryz.prog 169 azh:=hO aj2 aOq aOs l0
noncomputable def ap8:=bW Tryz.f121
theorem aj3:bV 121 Tryz.f121 ap8:=bX
abbrev agi:Ty:=TT
abbrev Us:Ty:=T0
noncomputable def ZX:Ctx:=Ctx.of [(169,.pure azh)]
theorem aOv:SP ZX:=aB (fa ⟨⟨aj2.c,ap7⟩,f0⟩)
noncomputable def GR:Code:=bn ((ay (ap8))[0]?)
theorem agj:ay (GR)=[]:=by kernel_rfl
abbrev pq:List bg:=[.slot 0 (.pc (.sl T0)),.slot 1 (.pc (.sl T0)),.slot 9 (.pc (.sl T0)),.slot 10 (.pc tI)]
abbrev kC:List bg:=[.slot 11 (.pc tI)]
abbrev QW:List bg:=pq ++ kC
def ZY:ZJ pq kC QW:=ZA _ _
def QX:ZS pq kC QW:=ZP _ _
abbrev agk:bk:=⟨[(0,[.slot 0 (.pc (.sl T0)),.slot 1 (.pc (.sl T0))])],[.slot 4 (.pc tI)],[]⟩
abbrev wE:bk:=⟨[(0,[])],[.slot 4 (.pc tI)],[]⟩
def GS:ZE pq wE agk:=fun id=>match id with | 0=>fun c y=>(c.1,(c.2.1,y)) | _=>gC
def Cx {α:Type} (l:RQ kC wE->α) (an:α->α->α) (c:ZD pq) (v:ZD kC):α:=bif (decide (v.1 < c.2.2.2.1)) then bif (decide (((0:Int)<=v.1)/\(v.1 < ((c.2.2.1.n:Nat):Int)))) then bif (decide (((c.2.1.n:Nat):Int)<=v.1)) then l (.out (.ret ((1:Int),()))) else bif (decide (((0:Int)<=v.1)/\(v.1 < ((c.2.1.n:Nat):Int)))) then cl (Ur).dflt (JZ ((c.2.2.1.g (Int.toNat v.1)).1,(c.2.1.g (Int.toNat v.1)))) (fun u0=>bif (!(decide (u0.1=(0:Int)))) then l (.out (.ret u0)) else l (.next ((W (v.1 + (1:Int))),()))) (l .bad) else l .bad else l .bad else l (.out (.exit 0 ()))
theorem ap9:ZO ZX 0 36 GR [] ZY GS ZI ZI Cx:=fun _ _=>by kernel_rfl
def Cy (c:ZD pq) (v:ZD kC):RQ kC wE:=Cx (fun r=>r) (fun _ _=>.bad) c v
theorem aqa:SO ZX 0 36 GR [] ZY GS ZI ZI Cy:=fun c v=>by rw [ap9]; unfold Cy Cx; simp only [bE,bq,dqs]
def Cz (c:ZD pq) (v:ZD kC):LQ wE:=bB (Cy c) dw v
theorem azi:ay (ap8)=[.loop GR]:=by kernel_rfl
noncomputable def azj:List Loop:=[lk 0 GS ZI ZI true QX Cz]
def agl {α:Type} (l:Option (Us).den->α) (an:α->α->α) (x:(agi).den):α:=bp (Cz (x.1,(x.2.1,(x.1,(((x.1.n:Nat):Int),())))) ((0:Int),())) 0 (fun u1=>bif (decide (((x.1.n:Nat):Int) < ((x.2.1.n:Nat):Int))) then l (some ((-1:Int),())) else l (some ((0:Int),()))) (bK (Cz (x.1,(x.2.1,(x.1,(((x.1.n:Nat):Int),())))) ((0:Int),())) (fun u2=>l (some u2)) (l none))
theorem aOw:QO ZX Tryz.f121 azj agi Us agl:=fun _=>by kernel_rfl
def NL (x:(agi).den):Option (Us).den:=agl (fun r=>r) (fun _ _=>none) x
theorem aOx:MOz ZX Tryz.f121 azj NL:=fun x=>by rw [aOw]; unfold NL agl; simp only [Tree.sure,sus]
def aOy:=pO NL
def aOz:=vO (τ:=Us) NL
def azk:Con:=⟨agi,Us,aOy,aOz⟩
theorem aOA:aQ Tryz.prog 121 azk:=hO aj3 aOv aOx fun G' hlo hF hE=>aP (by rw [azi]; exact .cons (lv hE hF hlo (ln agj) QX aqa) (.nil))
noncomputable def c56:=bW Tryz.f56
theorem azl:bV 56 Tryz.f56 c56:=bX
abbrev azm:Ty:=(.agg zC)
abbrev azn:Ty:=(.cons azm .nil)
abbrev azo:Ty:=(.cons azm azn)
abbrev a56:Ty:=azo
abbrev r56:Ty:=T3
noncomputable def G56:Ctx:=Ctx.of [(121,.pure azk)]
theorem g56:SP G56:=aB (fa ⟨⟨aj3.c,aOA⟩,f0⟩)
def Q56 {α:Type} (l:Option (r56).den->α) (an:α->α->α) (x:(a56).den):α:=bif (!(decide (((x.1.1.n:Nat):Int)=((x.2.1.1.n:Nat):Int)))) then l (some ((decide (((x.2.1.1.n:Nat):Int) < ((x.1.1.n:Nat):Int))),())) else bif (!(decide (x.1.2.1=x.2.1.2.1))) then l (some ((decide (x.1.2.1 < x.2.1.2.1)),())) else cl (Us).dflt (NL (x.1.1,(x.2.1.1,()))) (fun u0=>l (some ((decide (u0.1 < (0:Int))),()))) (l none)
theorem q56:QO G56 Tryz.f56 [] a56 r56 Q56:=fun _=>by kernel_rfl
def M56 (x:(a56).den):Option (r56).den:=Q56 (fun r=>r) (fun _ _=>none) x
theorem m56:MOz G56 Tryz.f56 [] M56:=fun x=>by rw [q56]; unfold M56 Q56; simp only [Tree.sure,sus]
def p56:=pO M56
def v56:=vO (τ:=r56) M56
def k56:Con:=⟨a56,r56,p56,v56⟩
theorem h56:aQ Tryz.prog 56 k56:=hO azl g56 m56 l0
noncomputable def c44:=bW Tryz.f44
theorem azq:bV 44 Tryz.f44 c44:=bX
abbrev a44:Ty:=TT
abbrev r44:Ty:=T3
noncomputable def G44:Ctx:=Ctx.of []
theorem g44:SP G44:=aB f0
noncomputable def QY:Code:=bn ((ay (c44))[0]?)
theorem aqc:ay (QY)=[]:=by kernel_rfl
abbrev uM:List bg:=[.slot 0 (.pc (.sl T0)),.slot 1 (.pc (.sl T0))]
abbrev pz:List bg:=[.slot 5 (.pc tI)]
abbrev ZZ:List bg:=uM ++ pz
def aj4:ZJ uM pz ZZ:=ZA _ _
def aaa:ZS uM pz ZZ:=ZP _ _
abbrev aqd:bk:=⟨[(0,[])],[.slot 4 (.pc .bool)],[]⟩
abbrev GU:bk:=⟨[(0,[])],[.slot 4 (.pc .bool)],[]⟩
def NM:ZE uM GU aqd:=fun id=>match id with | 0=>fun c y=>y | _=>gC
def Ka {α:Type} (l:RQ pz GU->α) (an:α->α->α) (c:ZD uM) (v:ZD pz):α:=bif (decide (v.1 < ((c.1.n:Nat):Int))) then bif (decide (((0:Int)<=v.1)/\(v.1 < ((c.1.n:Nat):Int)))) then bif (decide (((0:Int)<=v.1)/\(v.1 < ((c.2.1.n:Nat):Int)))) then bif (!(decide ((c.1.g (Int.toNat v.1)).1=(c.2.1.g (Int.toNat v.1)).1))) then l (.out (.ret (false,()))) else l (.next ((W (v.1 + (1:Int))),())) else l .bad else l .bad else l (.out (.exit 0 ()))
theorem azs:ZO G44 0 26 QY [] aj4 NM ZI ZI Ka:=fun _ _=>by kernel_rfl
def Kb (c:ZD uM) (v:ZD pz):RQ pz GU:=Ka (fun r=>r) (fun _ _=>.bad) c v
theorem azt:SO G44 0 26 QY [] aj4 NM ZI ZI Kb:=fun c v=>by rw [azs]; unfold Kb Ka; simp only [bE,bq,dqs]
def Kc (c:ZD uM) (v:ZD pz):LQ GU:=bB (Kb c) dw v
theorem aOD:ay (c44)=[.loop QY]:=by kernel_rfl
noncomputable def l44:List Loop:=[lk 0 NM ZI ZI true aaa Kc]
def Q44 {α:Type} (l:Option (r44).den->α) (an:α->α->α) (x:(a44).den):α:=bif (!(decide (((x.1.n:Nat):Int)=((x.2.1.n:Nat):Int)))) then l (some (false,())) else bp (Kc x ((0:Int),())) 0 (fun u0=>l (some (true,()))) (bK (Kc x ((0:Int),())) (fun u1=>l (some u1)) (l none))
theorem q44:QO G44 Tryz.f44 l44 a44 r44 Q44:=fun _=>by kernel_rfl
def M44 (x:(a44).den):Option (r44).den:=Q44 (fun r=>r) (fun _ _=>none) x
theorem m44:MOz G44 Tryz.f44 l44 M44:=fun x=>by rw [q44]; unfold M44 Q44; simp only [Tree.sure,sus]
def p44:=pO M44
def v44:=vO (τ:=r44) M44
def k44:Con:=⟨a44,r44,p44,v44⟩
theorem h44:aQ Tryz.prog 44 k44:=hO azq g44 m44 fun G' hlo hF hE=>aP (by rw [aOD]; exact .cons (lv hE hF hlo (ln aqc) aaa azt) (.nil))
noncomputable def c42:=bW Tryz.f42
theorem azy:bV 42 Tryz.f42 c42:=bX
abbrev a42:Ty:=.nil
abbrev r42:Ty:=Zg
noncomputable def G42:Ctx:=Ctx.of []
theorem g42:SP G42:=aB f0
def Q42 {α:Type} (l:Option (r42).den->α) (an:α->α->α) (x:(a42).den):α:=l (some (((10:Int),((1000:Int),((⟨6,fun i=>List.getD [((3:Int),()),((1:Int),()),((4:Int),()),((1:Int),()),((5:Int),()),((9:Int),())] i ((3:Int),())⟩:Sl _),((⟨6,fun i=>List.getD [((3:Int),()),((1:Int),()),((4:Int),()),((1:Int),()),((5:Int),()),((2:Int),())] i ((3:Int),())⟩:Sl _),())))),()))
theorem q42:QO G42 Tryz.f42 [] a42 r42 Q42:=fun _=>by kernel_rfl
def M42 (x:(a42).den):Option (r42).den:=Q42 (fun r=>r) (fun _ _=>none) x
theorem m42:MOz G42 Tryz.f42 [] M42:=fun x=>by rw [q42]; unfold M42 Q42; simp only [Tree.sure,sus]
def p42:=pO M42
def v42:=vO (τ:=r42) M42
def k42:Con:=⟨a42,r42,p42,v42⟩
theorem h42:aQ Tryz.prog 42 k42:=hO azy g42 m42 l0
noncomputable def aqi:=bW Tryz.f108
theorem aj7:bV 108 Tryz.f108 aqi:=bX
abbrev agm:Ty:=Tq
abbrev GW:Ty:=xZ
noncomputable def aad:Ctx:=Ctx.of []
theorem aOI:SP aad:=aB f0
noncomputable def GX:Code:=bn ((ay (aqi))[0]?)
theorem agn:ay (GX)=[]:=by kernel_rfl
abbrev pF:List bg:=[.slot 0 (.pc (.sl T0))]
abbrev mF:List bg:=[.slot 3 (.own 1000003 31 T1),.slot 4 (.pc tI)]
abbrev Ra:List bg:=pF ++ mF
def aae:ZJ pF mF Ra:=ZA _ _
def Rb:ZS pF mF Ra:=ZP _ _
abbrev ago:bk:=⟨[(0,[.slot 3 (.pc (.sl T1))])],[],[]⟩
abbrev Ao:bk:=⟨[(0,[.slot 3 (.pc (.sl T1))])],[],[]⟩
def GZ:ZE pF Ao ago:=fun id=>match id with | 0=>fun c y=>y | _=>gC
def NO {α:Type} (l:RQ mF Ao->α) (an:α->α->α) (c:ZD pF) (v:ZD mF):α:=bif (decide ((W (v.2.1 + (1:Int))) < ((c.1.n:Nat):Int))) then bif (decide (((0:Int)<=v.2.1)/\(v.2.1 < ((c.1.n:Nat):Int)))) then bif (decide (((0:Int)<=(W (v.2.1 + (1:Int))))/\((W (v.2.1 + (1:Int))) < ((c.1.n:Nat):Int)))) then bif (decide (((v.1.n + 1) * 16)<=140737488355328)) then l (.next ((cj v.1 (⟨1,fun i=>List.getD [((c.1.g (Int.toNat v.2.1)).1,(c.1.g (Int.toNat (W (v.2.1 + (1:Int))))))] i ((c.1.g (Int.toNat v.2.1)).1,(c.1.g (Int.toNat (W (v.2.1 + (1:Int))))))⟩:Sl (Ty.den T1))),((W (v.2.1 + (2:Int))),()))) else l .bad else l .bad else l .bad else l (.out (.exit 0 (v.1,())))
theorem aqj:ZO aad 0 26 GX [] aae GZ ZI ZI NO:=fun _ _=>by kernel_rfl
def NP (c:ZD pF) (v:ZD mF):RQ mF Ao:=NO (fun r=>r) (fun _ _=>.bad) c v
theorem aqk:SO aad 0 26 GX [] aae GZ ZI ZI NP:=fun c v=>by rw [aqj]; unfold NP NO; simp only [bE,bq,dqs]
def aaf (c:ZD pF) (v:ZD mF):LQ Ao:=bB (NP c) dw v
theorem azz:ay (aqi)=[.loop GX]:=by kernel_rfl
noncomputable def azA:List Loop:=[lk 0 GZ ZI ZI false Rb aaf]
def aql {α:Type} (l:Option (GW).den->α) (an:α->α->α) (x:(agm).den):α:=bp (aaf x ((⟨0,fun i=>((0:Int),((0:Int),()))⟩:Sl _),((0:Int),()))) 0 (fun u0=>l (some u0)) (l none)
theorem aOJ:QO aad Tryz.f108 azA agm GW aql:=fun _=>by kernel_rfl
def Kh (x:(agm).den):Option (GW).den:=aql (fun r=>r) (fun _ _=>none) x
theorem aOK:MOz aad Tryz.f108 azA Kh:=fun x=>by rw [aOJ]; unfold Kh aql; simp only [Tree.sure,sus]
def aOL:=pO Kh
def aOM:=vO (τ:=GW) Kh
def azB:Con:=⟨agm,GW,aOL,aOM⟩
theorem aON:aQ Tryz.prog 108 azB:=hO aj7 aOI aOK fun G' hlo hF hE=>aP (by rw [azz]; exact .cons (lv hE hF hlo (ln agn) Rb aqk) (.nil))
noncomputable def c43:=bW Tryz.f43
theorem azC:bV 43 Tryz.f43 c43:=bX
abbrev a43:Ty:=.nil
abbrev r43:Ty:=afY
noncomputable def G43:Ctx:=Ctx.of [(108,.pure azB)]
theorem g43:SP G43:=aB (fa ⟨⟨aj7.c,aON⟩,f0⟩)
def Q43 {α:Type} (l:Option (r43).den->α) (an:α->α->α) (x:(a43).den):α:=cl (GW).dflt (Kh ((⟨8,fun i=>List.getD [((0:Int),()),((0:Int),()),((2:Int),()),((3:Int),()),((3:Int),()),((4:Int),()),((4:Int),()),((6:Int),())] i ((0:Int),())⟩:Sl _),())) (fun u0=>cl (GW).dflt (Kh ((⟨8,fun i=>List.getD [((2:Int),()),((3:Int),()),((0:Int),()),((0:Int),()),((2:Int),()),((2:Int),()),((3:Int),()),((4:Int),())] i ((2:Int),())⟩:Sl _),())) (fun u1=>cl (GW).dflt (Kh ((⟨8,fun i=>List.getD [((3:Int),()),((4:Int),()),((2:Int),()),((2:Int),()),((0:Int),()),((0:Int),()),((1:Int),()),((2:Int),())] i ((3:Int),())⟩:Sl _),())) (fun u2=>cl (GW).dflt (Kh ((⟨8,fun i=>List.getD [((4:Int),()),((6:Int),()),((3:Int),()),((4:Int),()),((1:Int),()),((2:Int),()),((0:Int),()),((0:Int),())] i ((4:Int),())⟩:Sl _),())) (fun u3=>l (some (((0:Int),((⟨3,fun i=>List.getD [((1:Int),((5:Int),())),((2:Int),((9:Int),())),((1:Int),((12:Int),()))] i ((1:Int),((5:Int),()))⟩:Sl _),((⟨4,fun i=>List.getD [u0,u1,u2,u3] i u0⟩:Sl _),()))),()))) (l none)) (l none)) (l none)) (l none)
theorem q43:QO G43 Tryz.f43 [] a43 r43 Q43:=fun _=>by kernel_rfl
def M43 (x:(a43).den):Option (r43).den:=Q43 (fun r=>r) (fun _ _=>none) x
theorem m43:MOz G43 Tryz.f43 [] M43:=fun x=>by rw [q43]; unfold M43 Q43; simp only [Tree.sure,sus]
def p43:=pO M43
def v43:=vO (τ:=r43) M43
def k43:Con:=⟨a43,r43,p43,v43⟩
theorem h43:aQ Tryz.prog 43 k43:=hO azC g43 m43 l0
noncomputable def c53:=bW Tryz.f53
theorem agp:bV 53 Tryz.f53 c53:=bX
abbrev Vr:Ty:=Tq
abbrev r53:Ty:=Tq
noncomputable def G53:Ctx:=Ctx.of []
theorem g53:SP G53:=aB f0
theorem azF:ay (c53)=[]:=by kernel_rfl
noncomputable def l53:List Loop:=[]
def Q53 {α:Type} (l:Option (r53).den->α) (an:α->α->α) (x:(Vr).den):α:=bif (Nat.blt 0 x.1.n) then bif (decide ((x.1.n * 8)<=140737488355328)) then l (some x) else l none else an (l (some ((⟨0,fun i=>((0:Int),())⟩:Sl _),()))) (bif (decide ((x.1.n * 8)<=140737488355328)) then l (some x) else l none)
theorem q53:QO G53 Tryz.f53 l53 Vr r53 Q53:=fun _=>by kernel_rfl
def M53 (x:(Vr).den):Option (r53).den:=Q53 (fun r=>r) (fun _ _=>none) x
theorem m53:MOz G53 Tryz.f53 l53 M53:=fun x=>by rw [q53]; unfold M53 Q53; simp only [Tree.sure,sus]
def p53:=pO M53
def v53:=vO (τ:=r53) M53
def k53:Con:=⟨Vr,r53,p53,v53⟩
theorem h53:aQ Tryz.prog 53 k53:=hO agp g53 m53 fun G' hlo hF hE=>aP (by rw [azF]; exact .nil)
def X53 {α:Type} (l:Option FR->α) (an:α->α->α) (x:(Vr).den):α:=bif (Nat.blt 0 x.1.n) then bif (decide ((x.1.n * 8)<=140737488355328)) then l (some ⟨3,T0,x.1⟩) else l none else an (l (some ⟨3,T0,(⟨0,fun i=>((0:Int),())⟩:Sl (Ty.den T0))⟩)) (bif (decide ((x.1.n * 8)<=140737488355328)) then l (some ⟨3,T0,x.1⟩) else l none)
theorem x53 (x:(Vr).den):adQ Tryz.prog E0 G53 Tryz.f53 l53 2 3 T0 Vr x=X53 .leaf .any x:=by kernel_rfl
def R53 (x:(Vr).den):Option (Sl (Ty.den T0)):=X53 (WI 3 T0) anC x
theorem aqn (x:(Vr).den):(adQ Tryz.prog E0 G53 Tryz.f53 l53 2 3 T0 Vr x).cQ 3 T0=R53 x:=by rw [x53]; unfold R53 X53; simp only [LP,Tree.cQ,WL,Fk,Ji,Fl,Fm,Jj,Fo,Jk,LR,Fp]
theorem aOR:dP Tryz.prog 53 (nQ false Tryz.f53.ntmps Vr 3 T0 R53):=Fj (E:=E0) bS g53 bN bH agp.a agp.b (by kernel_rfl) (by kernel_rfl) (fun h=>by cases h) (fun G' hlo hF hE=>aP (by rw [azF]; exact .nil)) aqn
noncomputable def c51:=bW Tryz.f51
theorem agq:bV 51 Tryz.f51 c51:=bX
abbrev xj:Ty:=.nil
abbrev dR:List bg:=[.slot 0 (.pc tL),.slot 1 (.ptr 1),.slot 2 (.ptr 45),.slot 3 (.ptr 66),.box 1 [.pc tI,.pc (.sl vo),.pc (.sl (.cons (.sl vo) .nil))],.box 45 [.own 1000045 139 (.cons tL Da)],.box 66 [.iM 51 [1,45,66]]]
abbrev uO:List (Nat×Ty):=[]
noncomputable def G51:((ZD dR)->GO xj (aD dR))->Ctx:=fun qC=>Ctx.of [(51,.gen (fT Tryz.f51.ntmps xj dR uO qC)),(52,.pure k52),(53,.row false Tryz.f53.ntmps Vr 3 T0 R53),(54,.pure k54)]
theorem g51 (qC:(ZD dR)->GO xj (aD dR)) (hR:dP Tryz.prog 51 (fT Tryz.f51.ntmps xj dR uO qC)):Sound Tryz.prog (G51 qC):=aB (fa ⟨⟨agq.c,hR⟩,fa ⟨⟨apW.c,h52⟩,fa ⟨⟨agp.c,aOR⟩,fa ⟨⟨ap3.c,h54⟩,f0⟩⟩⟩⟩)
noncomputable def Rc:Code:=bn ((ay (c51))[0]?)
theorem aqo:ay (Rc)=[]:=by kernel_rfl
abbrev pG:List bg:=[.slot 0 (.pc (.sl T0)),.slot 1 (.ptr 1),.slot 2 (.ptr 45),.slot 3 (.ptr 66),.slot 25 (.pc tI)]
abbrev lD:List bg:=[.slot 26 (.pc tI),.box 1 [.pc tI,.pc (.sl T1),.pc nF],.box 45 [.own 1000045 139 zC],.box 66 [.iM 51 [1,45,66]]]
abbrev CA:List bg:=pG ++ lD
def Rd:ZJ pG lD CA:=ZA _ _
def He:ZS pG lD CA:=ZP _ _
abbrev CB:bk:=⟨[(0,[.slot 1 (.ptr 1),.slot 2 (.ptr 45),.slot 3 (.ptr 66),.box 1 [.pc tI,.pc (.sl T1),.pc nF],.box 45 [.own 1000045 139 zC],.box 66 [.iM 51 [1,45,66]]])],[],[]⟩
abbrev uP:bk:=⟨[(0,[.box 1 [.pc tI,.pc (.sl T1),.pc nF],.box 45 [.own 1000045 139 zC],.box 66 [.iM 51 [1,45,66]]])],[],[]⟩
def NQ:ZE pG uP CB:=fun id=>match id with | 0=>fun c y=>(c.2.1,(c.2.2.1,(c.2.2.2.1,y))) | _=>gC
def Ki (qC:(ZD dR)->GO xj (aD dR)) {α:Type} (l:RQ lD uP->α) (an:α->α->α) (c:ZD pG) (v:ZD lD):α:=bif (decide (v.1 < c.2.2.2.2.1)) then cl (r54).dflt (M54 (c.1,(v.1,()))) (fun u0=>bif u0.1 then l (.next ((W (v.1 + (1:Int))),(v.2.1,(v.2.2.1,(((),()),()))))) else cl (⟨0,fun _=>Ty.dflt T0⟩:Sl (Ty.den T0)) (R53 (c.1,())) (fun u1=>bif (decide (((u1.n + 1) * 8)<=140737488355328)) then gF (qC ((cj u1 (⟨1,fun i=>List.getD [(v.1,())] i (v.1,())⟩:Sl (Ty.den T0))),((),((),((),(v.2.1,(v.2.2.1,(((),()),())))))))) (fun u2=>l (.next ((W (v.1 + (1:Int))),(u2.2.1,(u2.2.2.1,(((),()),())))))) (l .bad) else l .bad) (l .bad)) (l .bad) else l (.out (.exit 0 (v.2.1,(v.2.2.1,(((),()),())))))
theorem azH (qC:(ZD dR)->GO xj (aD dR)) (c:ZD pG) (v:ZD lD):cG Tryz.prog E0 (G51 qC) 200 40 [] CA CB Rc [] (Rd c v)=Ki qC (fun r=>.leaf (r.lift Rd NQ ZI ZI c)) .any c v:=by kernel_rfl
def Em (qC:(ZD dR)->GO xj (aD dR)) (c:ZD pG) (v:ZD lD):RQ lD uP:=Ki qC (fun r=>r) (fun _ _=>.bad) c v
theorem azI (qC:(ZD dR)->GO xj (aD dR)) (c:ZD pG) (v:ZD lD):bE (cG Tryz.prog E0 (G51 qC) 200 40 [] CA CB Rc [] (Rd c v))=(Em qC c v).lift Rd NQ ZI ZI c:=by rw [azH]; unfold Em Ki; simp only [bE,bq,dqs]
def Re (qC:(ZD dR)->GO xj (aD dR)) (c:ZD pG) (v:ZD lD):LQ uP:=bB (Em qC c) dw v
theorem aOT:ay (c51)=[.loop Rc]:=by kernel_rfl
noncomputable def l51:((ZD dR)->GO xj (aD dR))->List Loop:=fun qC=>[.known (fm 200 [] CA fun x=>cD CB NQ ZI ZI [] false (He x).1 (Re qC (He x).1 (He x).2) CB.dY)]
def Q51 (qC:(ZD dR)->GO xj (aD dR)) {α:Type} (l:GO xj (aD dR)->α) (an:α->α->α) (x:ZD dR):α:=cl (r52).dflt (M52 (x.2.2.2.2.1,(x.1,()))) (fun u3=>bif (!u3.2.1) then l (.ok () (x.2.2.2.2.1,(x.2.2.2.2.2.1,(((),()),())))) else cl (⟨0,fun _=>Ty.dflt T0⟩:Sl (Ty.den T0)) (R53 (x.1,())) (fun u4=>bif (decide (((x.2.2.2.2.2.1.1.n + 1) * 32)<=140737488355328)) then bp (Re qC (x.1,((),((),((),(((x.2.2.2.2.1.2.1.n:Nat):Int),()))))) ((0:Int),(x.2.2.2.2.1,(((cj x.2.2.2.2.2.1.1 (⟨1,fun i=>List.getD [(u4,(u3.1,()))] i (u4,(u3.1,()))⟩:Sl (Ty.den zC))),()),(((),()),()))))) 0 (fun u5=>l (.ok () (u5.1,(u5.2.1,(((),()),()))))) (l .bad) else l .bad) (l .bad)) (l .bad)
theorem q51 (qC:(ZD dR)->GO xj (aD dR)) (x:ZD dR):ur Tryz.prog E0 (G51 qC) Tryz.f51 (l51 qC) 200 xj dR x=Q51 qC .leaf .any x:=by kernel_rfl
def U51 (qC:(ZD dR)->GO xj (aD dR)) (x:ZD dR):GO xj (aD dR):=Q51 qC (fun r=>r) (fun _ _=>.bad) x
theorem m51 (qC:(ZD dR)->GO xj (aD dR)) (x:ZD dR):(ur Tryz.prog E0 (G51 qC) Tryz.f51 (l51 qC) 200 xj dR x).cT .bad=U51 qC x:=by rw [q51]; unfold U51 Q51; simp only [ew,Tree.cT,gH,cZ,dK,de,dg,dL,dh,dM,ez,dm]
theorem aOU (qC:(ZD dR)->GO xj (aD dR)) (hR:dP Tryz.prog 51 (fT Tryz.f51.ntmps xj dR uO qC)):dP Tryz.prog 51 (fT Tryz.f51.ntmps xj dR uO (U51 qC)):=gT (E:=E0) bS (g51 qC hR) bN bH agq.a agq.b (by kernel_rfl) (fun G' hlo hF hE=>aP (by rw [aOT]; exact .cons (fK hE hF hlo (aP (by rw [aqo]; exact .nil)) (by kernel_rfl) (by kernel_rfl) He (fun _=>rfl) (fun _ _=>rfl) (azI qC) dw) (.nil))) uO (m51 qC)
def F51:Nat->(ZD dR)->GO xj (aD dR)
 | 0=>fun _=>.bad
 | n + 1=>U51 (F51 n)
theorem h51:∀ n,dP Tryz.prog 51 (fT Tryz.f51.ntmps xj dR uO (F51 n))
 | 0=>Ea
 | n + 1=>aOU _ (h51 n)
noncomputable def c55:=bW Tryz.f55
theorem azJ:bV 55 Tryz.f55 c55:=bX
abbrev azK:Ty:=(.sl zC)
abbrev azL:Ty:=(.fn azo T3)
abbrev aOW:Ty:=(.cons azL .nil)
abbrev aOX:Ty:=(.cons azK aOW)
abbrev a55:Ty:=aOX
abbrev r55:Ty:=azn
noncomputable def G55:Ctx:=Ctx.of []
theorem g55:SP G55:=aB f0
noncomputable def Rf:Code:=bn ((ay (c55))[0]?)
theorem aqr:ay (Rf)=[]:=by kernel_rfl
abbrev uQ:List bg:=[.slot 1 (.pc azL),.slot 4 (.ptr 4),.slot 5 (.ptr 29),.slot 11 (.pc azK),.slot 12 (.pc tI),.box 4 [.own 1005000 3 T0,.pc tI]]
abbrev pH:List bg:=[.slot 13 (.pc tI),.box 29 [.pc (.sl T0),.pc tI]]
abbrev aag:List bg:=uQ ++ pH
def aj9:ZJ uQ pH aag:=ZA _ _
def aah:ZS uQ pH aag:=ZP _ _
abbrev aqs:bk:=⟨[(0,[.slot 4 (.ptr 4),.slot 5 (.ptr 29),.box 4 [.own 1005000 3 T0,.pc tI],.box 29 [.pc (.sl T0),.pc tI]])],[],[]⟩
abbrev uR:bk:=⟨[(0,[.box 29 [.pc (.sl T0),.pc tI]])],[],[]⟩
def NR:ZE uQ uR aqs:=fun id=>match id with | 0=>fun c y=>(c.2.1,(c.2.2.1,(c.2.2.2.2.2.1,y))) | _=>gC
def Kj {α:Type} (l:RQ pH uR->α) (an:α->α->α) (c:ZD uQ) (v:ZD pH):α:=bif (decide (v.1 < c.2.2.2.2.1)) then bif (decide (((0:Int)<=v.1)/\(v.1 < ((c.2.2.2.1.n:Nat):Int)))) then bif (c.1 ((c.2.2.2.1.g (Int.toNat v.1)),(v.2.1,()))).1 then bif (c.1 ((c.2.2.2.1.g (Int.toNat v.1)),(v.2.1,()))).2.1 then l (.next ((W (v.1 + (1:Int))),((c.2.2.2.1.g (Int.toNat v.1)),()))) else l (.next ((W (v.1 + (1:Int))),(v.2.1,()))) else l .bad else l .bad else l (.out (.exit 0 (v.2.1,())))
theorem azN:ZO G55 0 24 Rf [] aj9 NR ZI ZI Kj:=fun _ _=>by kernel_rfl
def En (c:ZD uQ) (v:ZD pH):RQ pH uR:=Kj (fun r=>r) (fun _ _=>.bad) c v
theorem azO:SO G55 0 24 Rf [] aj9 NR ZI ZI En:=fun c v=>by rw [azN]; unfold En Kj; simp only [bE,bq,dqs]
def aka (c:ZD uQ) (v:ZD pH):LQ uR:=bB (En c) dw v
theorem aOY:ay (c55)=[.loop Rf]:=by kernel_rfl
noncomputable def l55:List Loop:=[lk 0 NR ZI ZI false aah aka]
def Q55 {α:Type} (l:Option (r55).den->α) (an:α->α->α) (x:(a55).den):α:=bif (decide (((0:Int)<=(0:Int))/\((0:Int) < ((x.1.n:Nat):Int)))) then bp (aka (x.2.1,((),((),(x.1,(((x.1.n:Nat):Int),(((⟨0,fun i=>((0:Int),())⟩:Sl _),((0:Int),())),())))))) ((0:Int),((x.1.g 0),()))) 0 (fun u0=>l (some (u0.1,()))) (l none) else l none
theorem q55:QO G55 Tryz.f55 l55 a55 r55 Q55:=fun _=>by kernel_rfl
def M55 (x:(a55).den):Option (r55).den:=Q55 (fun r=>r) (fun _ _=>none) x
theorem m55:MOz G55 Tryz.f55 l55 M55:=fun x=>by rw [q55]; unfold M55 Q55; simp only [Tree.sure,sus]
def p55:=pO M55
def v55:=vO (τ:=r55) M55
def k55:Con:=⟨a55,r55,p55,v55⟩
theorem h55:aQ Tryz.prog 55 k55:=hO azJ g55 m55 fun G' hlo hF hE=>aP (by rw [aOY]; exact .cons (lv hE hF hlo (ln aqr) aah azO) (.nil))
noncomputable def c13:=bW Tryz.f13
theorem aqu:bV 13 Tryz.f13 c13:=bX
abbrev aqv:Ty:=(.cons (.sl T0) T1)
abbrev a13:Ty:=afY
abbrev r13:Ty:=aqv
noncomputable def G13:Ctx:=Ctx.of [(50,.pure k50),(51,.gen (fT Tryz.f51.ntmps xj dR uO (F51 9))),(55,.pure k55),(56,.pure k56)]
theorem g13:SP G13:=aB (fa ⟨⟨apz.c,h50⟩,fa ⟨⟨agq.c,h51 9⟩,fa ⟨⟨azJ.c,h55⟩,fa ⟨⟨azl.c,h56⟩,f0⟩⟩⟩⟩)
def Q13 {α:Type} (l:Option (r13).den->α) (an:α->α->α) (x:(a13).den):α:=cl (r50).dflt (M50 (x.1,())) (fun u0=>bif (!u0.1) then l (some ((⟨0,fun i=>((0:Int),())⟩:Sl _),((0:Int),((2:Int),())))) else gF (F51 9 ((⟨0,fun i=>((0:Int),())⟩:Sl _),((),((),((),(x.1,(((⟨0,fun i=>((⟨0,fun i=>((0:Int),())⟩:Sl _),((0:Int),()))⟩:Sl _),()),(((),()),())))))))) (fun u1=>cl (r55).dflt (M55 (u1.2.2.1.1,((fun y1=>((p56 y1),(v56 y1))),()))) (fun u2=>l (some (u2.1.1,(u2.1.2.1,((0:Int),()))))) (l none)) (l none)) (l none)
theorem q13:QO G13 Tryz.f13 [] a13 r13 Q13:=fun _=>by kernel_rfl
def M13 (x:(a13).den):Option (r13).den:=Q13 (fun r=>r) (fun _ _=>none) x
theorem m13:MOz G13 Tryz.f13 [] M13:=fun x=>by rw [q13]; unfold M13 Q13; simp only [Tree.sure,sus]
def p13:=pO M13
def v13:=vO (τ:=r13) M13
def k13:Con:=⟨a13,r13,p13,v13⟩
theorem h13:aQ Tryz.prog 13 k13:=hO aqu g13 m13 l0
abbrev az0:Ty:=(.fn T69 T3)
abbrev aPb:Ty:=(.cons az0 .nil)
abbrev aPc:Ty:=(.cons (.sl T1) aPb)
abbrev aPd:Ty:=(.cons (.sl T0) aPc)
abbrev aPh:Ty:=(.cons Zv zC)
noncomputable def c98:=bW Tryz.f98
theorem Ut:bV 98 Tryz.f98 c98:=bX
abbrev a98:Ty:=T2
abbrev DA:Ty:=T3
noncomputable def G98:Ctx:=Ctx.of []
theorem g98:SP G98:=aB f0
def Q98 {α:Type} (l:Option (DA).den->α) (an:α->α->α) (x:(a98).den):α:=bif (decide (x.2.1<=x.1)) then l (some ((decide (x.1<=x.2.2.1)),())) else l (some (false,()))
theorem q98:QO G98 Tryz.f98 [] a98 DA Q98:=fun _=>by kernel_rfl
def Eo (x:(a98).den):Option (DA).den:=Q98 (fun r=>r) (fun _ _=>none) x
theorem m98:MOz G98 Tryz.f98 [] Eo:=fun x=>by rw [q98]; unfold Eo Q98; simp only [Tree.sure,sus]
def p98:=pO Eo
def v98:=vO (τ:=DA) Eo
def k98:Con:=⟨a98,DA,p98,v98⟩
theorem h98:aQ Tryz.prog 98 k98:=hO Ut g98 m98 l0
noncomputable def aqL:=bW Tryz.f177
theorem aki:bV 177 Tryz.f177 aqL:=bX
abbrev fM:Ty:=(.sl Mo)
abbrev aAa:Ty:=(.fn T51 T3)
abbrev aPl:Ty:=(.cons aAa .nil)
abbrev aAb:Ty:=(.cons fM aPl)
abbrev agw:Ty:=aAb
abbrev Uu:Ty:=T0
noncomputable def aaw:Ctx:=Ctx.of []
theorem aPm:SP aaw:=aB f0
noncomputable def Hi:Code:=bn ((ay (aqL))[0]?)
theorem agx:ay (Hi)=[]:=by kernel_rfl
abbrev pM:List bg:=[.slot 0 (.pc fM),.slot 1 (.pc aAa),.slot 7 (.pc tI)]
abbrev mG:List bg:=[.slot 8 (.pc tI)]
abbrev Rk:List bg:=pM ++ mG
def aax:ZJ pM mG Rk:=ZA _ _
def Rl:ZS pM mG Rk:=ZP _ _
abbrev agy:bk:=⟨[(0,[])],[.slot 4 (.pc tI)],[]⟩
abbrev At:bk:=⟨[(0,[])],[.slot 4 (.pc tI)],[]⟩
def Hj:ZE pM At agy:=fun id=>match id with | 0=>fun c y=>y | _=>gC
def NX {α:Type} (l:RQ mG At->α) (an:α->α->α) (c:ZD pM) (v:ZD mG):α:=bif (decide (v.1 < c.2.2.1)) then bif (decide (((0:Int)<=v.1)/\(v.1 < ((c.1.n:Nat):Int)))) then bif (c.2.1 ((c.1.g (Int.toNat v.1)),())).1 then bif (c.2.1 ((c.1.g (Int.toNat v.1)),())).2.1 then l (.out (.ret v)) else l (.next ((W (v.1 + (1:Int))),())) else l .bad else l .bad else l (.out (.exit 0 ()))
theorem aqM:ZO aaw 0 19 Hi [] aax Hj ZI ZI NX:=fun _ _=>by kernel_rfl
def NY (c:ZD pM) (v:ZD mG):RQ mG At:=NX (fun r=>r) (fun _ _=>.bad) c v
theorem aqN:SO aaw 0 19 Hi [] aax Hj ZI ZI NY:=fun c v=>by rw [aqM]; unfold NY NX; simp only [bE,bq,dqs]
def NZ (c:ZD pM) (v:ZD mG):LQ At:=bB (NY c) dw v
theorem aAc:ay (aqL)=[.loop Hi]:=by kernel_rfl
noncomputable def aAd:List Loop:=[lk 0 Hj ZI ZI true Rl NZ]
def aqO {α:Type} (l:Option (Uu).den->α) (an:α->α->α) (x:(agw).den):α:=bp (NZ (x.1,(x.2.1,(((x.1.n:Nat):Int),()))) ((0:Int),())) 0 (fun u0=>l (some ((-1:Int),()))) (bK (NZ (x.1,(x.2.1,(((x.1.n:Nat):Int),()))) ((0:Int),())) (fun u1=>l (some u1)) (l none))
theorem aPn:QO aaw Tryz.f177 aAd agw Uu aqO:=fun _=>by kernel_rfl
def aay (x:(agw).den):Option (Uu).den:=aqO (fun r=>r) (fun _ _=>none) x
theorem aPo:MOz aaw Tryz.f177 aAd aay:=fun x=>by rw [aPn]; unfold aay aqO; simp only [Tree.sure,sus]
def aPp:=pO aay
def aPq:=vO (τ:=Uu) aay
def aAe:Con:=⟨agw,Uu,aPp,aPq⟩
theorem aPr:aQ Tryz.prog 177 aAe:=hO aki aPm aPo fun G' hlo hF hE=>aP (by rw [aAc]; exact .cons (lv hE hF hlo (ln agx) Rl aqN) (.nil))
noncomputable def aPs:=bW Tryz.f140
theorem akj:bV 140 Tryz.f140 aPs:=bX
abbrev agz:Ty:=aAb
abbrev Uv:Ty:=T3
noncomputable def aqP:Ctx:=Ctx.of [(177,.pure aAe)]
theorem aPt:SP aqP:=aB (fa ⟨⟨aki.c,aPr⟩,f0⟩)
def aqQ {α:Type} (l:Option (Uv).den->α) (an:α->α->α) (x:(agz).den):α:=cl (Uu).dflt (aay x) (fun u0=>l (some ((decide ((0:Int)<=u0.1)),()))) (l none)
theorem aPu:QO aqP Tryz.f140 [] agz Uv aqQ:=fun _=>by kernel_rfl
def aaz (x:(agz).den):Option (Uv).den:=aqQ (fun r=>r) (fun _ _=>none) x
theorem aPv:MOz aqP Tryz.f140 [] aaz:=fun x=>by rw [aPu]; unfold aaz aqQ; simp only [Tree.sure,sus]
def aPw:=pO aaz
def aPx:=vO (τ:=Uv) aaz
def aAf:Con:=⟨agz,Uv,aPw,aPx⟩
theorem aPy:aQ Tryz.prog 140 aAf:=hO akj aPt aPv l0
noncomputable def aPz:=bW Tryz.f178
theorem aaA:bV 178 Tryz.f178 aPz:=bX
abbrev agA:Ty:=T84
abbrev Oa:Ty:=T3
noncomputable def aqR:Ctx:=Ctx.of []
theorem aPA:SP aqR:=aB f0
def aqS {α:Type} (l:Option (Oa).den->α) (an:α->α->α) (x:(agA).den):α:=bif (decide ((0:Int)<=x.1.1)) then bif (decide (x.1.1<=x.1.2.1)) then l (some ((decide (x.1.2.1<=x.2.1)),())) else l (some (false,())) else l (some (false,()))
theorem aPB:QO aqR Tryz.f178 [] agA Oa aqS:=fun _=>by kernel_rfl
def Uw (x:(agA).den):Option (Oa).den:=aqS (fun r=>r) (fun _ _=>none) x
theorem aPC:MOz aqR Tryz.f178 [] Uw:=fun x=>by rw [aPB]; unfold Uw aqS; simp only [Tree.sure,sus]
def aPD:=pO Uw
def aPE:=vO (τ:=Oa) Uw
def aqT:Con:=⟨agA,Oa,aPD,aPE⟩
theorem aAg:aQ Tryz.prog 178 aqT:=hO aaA aPA aPC l0
noncomputable def aPF:=bW Tryz.f142
theorem akk:bV 142 Tryz.f142 aPF:=bX
abbrev fq:Ty:=(.sl T46)
abbrev aPG:Ty:=(.cons fq T47)
abbrev aPH:Ty:=(.cons (.sl T2) aPG)
abbrev aPI:Ty:=(.cons fM aPH)
abbrev aAh:Ty:=(.cons tI aPI)
abbrev Ob:Ty:=(.agg aAh)
abbrev aPJ:Ty:=(.cons Ob T51)
abbrev agB:Ty:=aPJ
abbrev Ux:Ty:=T3
noncomputable def aqU:Ctx:=Ctx.of [(98,.pure k98),(178,.pure aqT)]
theorem aPK:SP aqU:=aB (fa ⟨⟨Ut.c,h98⟩,fa ⟨⟨aaA.c,aAg⟩,f0⟩⟩)
def aqV {α:Type} (l:Option (Ux).den->α) (an:α->α->α) (x:(agB).den):α:=cl (DA).dflt (Eo (x.2.1.1,((0:Int),((W (x.1.1 - (1:Int))),())))) (fun u0=>bif u0.1 then cl (DA).dflt (Eo (x.2.1.2.1,((0:Int),((10080:Int),())))) (fun u1=>bif u1.1 then cl (DA).dflt (Eo (x.2.1.2.2.1,((0:Int),((99999:Int),())))) (fun u2=>bif u2.1 then cl (Oa).dflt (Uw ((x.2.1.2.2.2.1,(x.2.1.2.2.2.2.1,())),((2880:Int),()))) (fun u3=>bif u3.1 then cl (DA).dflt (Eo (x.2.1.2.2.2.2.2.1,((0:Int),((2880:Int),())))) (fun u4=>bif u4.1 then cl (DA).dflt (Eo (x.2.1.2.2.2.2.2.2.1,((0:Int),((10000:Int),())))) (fun u5=>l (some u5)) (l none) else l (some (false,()))) (l none) else l (some (false,()))) (l none) else l (some (false,()))) (l none) else l (some (false,()))) (l none) else l (some (false,()))) (l none)
theorem aPL:QO aqU Tryz.f142 [] agB Ux aqV:=fun _=>by kernel_rfl
def aaB (x:(agB).den):Option (Ux).den:=aqV (fun r=>r) (fun _ _=>none) x
theorem aPM:MOz aqU Tryz.f142 [] aaB:=fun x=>by rw [aPL]; unfold aaB aqV; simp only [Tree.sure,sus]
def aPN:=pO aaB
def aPO:=vO (τ:=Ux) aaB
def aAi:Con:=⟨agB,Ux,aPN,aPO⟩
theorem aPP:aQ Tryz.prog 142 aAi:=hO akk aPK aPM l0
noncomputable def aPQ:=bW Tryz.f141
theorem akl:bV 141 Tryz.f141 aPQ:=bX
abbrev aPR:Ty:=(.ptr aAh)
abbrev aAj:Ty:=(.cons aPR .nil)
abbrev aPS:Ty:=(.cons T50 aAj)
abbrev agC:Ty:=aPS
abbrev aaC:Ty:=T3
noncomputable def aqW:Ctx:=Ctx.of [(142,.pure aAi)]
theorem aPT:SP aqW:=aB (fa ⟨⟨akk.c,aPP⟩,f0⟩)
def aqX {α:Type} (l:Option (aaC).den->α) (an:α->α->α) (x:(agC).den):α:=cl (Ux).dflt (aaB (x.2.1,(x.1,()))) (fun u0=>l (some ((!u0.1),()))) (l none)
theorem aPU:QO aqW Tryz.f141 [] agC aaC aqX:=fun _=>by kernel_rfl
def agD (x:(agC).den):Option (aaC).den:=aqX (fun r=>r) (fun _ _=>none) x
theorem aPV:MOz aqW Tryz.f141 [] agD:=fun x=>by rw [aPU]; unfold agD aqX; simp only [Tree.sure,sus]
def aAk:=pO agD
def aAl:=vO (τ:=aaC) agD
def aAm:Con:=⟨agC,aaC,aAk,aAl⟩
theorem aPW:aQ Tryz.prog 141 aAm:=hO akl aPT aPV l0
noncomputable def aqY:=bW Tryz.f179
theorem akm:bV 179 Tryz.f179 aqY:=bX
abbrev agE:Ty:=T96
abbrev Uy:Ty:=T0
noncomputable def aaD:Ctx:=Ctx.of []
theorem aPX:SP aaD:=aB f0
noncomputable def Hl:Code:=bn ((ay (aqY))[0]?)
theorem agF:ay (Hl)=[]:=by kernel_rfl
abbrev pN:List bg:=[.slot 0 (.pc (.sl T2)),.slot 1 (.pc T94),.slot 7 (.pc tI)]
abbrev mH:List bg:=[.slot 8 (.pc tI)]
abbrev Rm:List bg:=pN ++ mH
def aaE:ZJ pN mH Rm:=ZA _ _
def Rn:ZS pN mH Rm:=ZP _ _
abbrev agG:bk:=⟨[(0,[])],[.slot 4 (.pc tI)],[]⟩
abbrev Au:bk:=⟨[(0,[])],[.slot 4 (.pc tI)],[]⟩
def Ho:ZE pN Au agG:=fun id=>match id with | 0=>fun c y=>y | _=>gC
def Oc {α:Type} (l:RQ mH Au->α) (an:α->α->α) (c:ZD pN) (v:ZD mH):α:=bif (decide (v.1 < c.2.2.1)) then bif (decide (((0:Int)<=v.1)/\(v.1 < ((c.1.n:Nat):Int)))) then bif (c.2.1 ((c.1.g (Int.toNat v.1)),())).1 then bif (c.2.1 ((c.1.g (Int.toNat v.1)),())).2.1 then l (.out (.ret v)) else l (.next ((W (v.1 + (1:Int))),())) else l .bad else l .bad else l (.out (.exit 0 ()))
theorem aqZ:ZO aaD 0 19 Hl [] aaE Ho ZI ZI Oc:=fun _ _=>by kernel_rfl
def Od (c:ZD pN) (v:ZD mH):RQ mH Au:=Oc (fun r=>r) (fun _ _=>.bad) c v
theorem aq0:SO aaD 0 19 Hl [] aaE Ho ZI ZI Od:=fun c v=>by rw [aqZ]; unfold Od Oc; simp only [bE,bq,dqs]
def Oe (c:ZD pN) (v:ZD mH):LQ Au:=bB (Od c) dw v
theorem aAn:ay (aqY)=[.loop Hl]:=by kernel_rfl
noncomputable def aAo:List Loop:=[lk 0 Ho ZI ZI true Rn Oe]
def aq1 {α:Type} (l:Option (Uy).den->α) (an:α->α->α) (x:(agE).den):α:=bp (Oe (x.1,(x.2.1,(((x.1.n:Nat):Int),()))) ((0:Int),())) 0 (fun u0=>l (some ((-1:Int),()))) (bK (Oe (x.1,(x.2.1,(((x.1.n:Nat):Int),()))) ((0:Int),())) (fun u1=>l (some u1)) (l none))
theorem aPY:QO aaD Tryz.f179 aAo agE Uy aq1:=fun _=>by kernel_rfl
def aaF (x:(agE).den):Option (Uy).den:=aq1 (fun r=>r) (fun _ _=>none) x
theorem aPZ:MOz aaD Tryz.f179 aAo aaF:=fun x=>by rw [aPY]; unfold aaF aq1; simp only [Tree.sure,sus]
def aP0:=pO aaF
def aP1:=vO (τ:=Uy) aaF
def aAp:Con:=⟨agE,Uy,aP0,aP1⟩
theorem aP2:aQ Tryz.prog 179 aAp:=hO akm aPX aPZ fun G' hlo hF hE=>aP (by rw [aAn]; exact .cons (lv hE hF hlo (ln agF) Rn aq0) (.nil))
noncomputable def aP3:=bW Tryz.f143
theorem aaG:bV 143 Tryz.f143 aP3:=bX
abbrev agH:Ty:=T96
abbrev Of:Ty:=T3
noncomputable def aq2:Ctx:=Ctx.of [(179,.pure aAp)]
theorem aP4:SP aq2:=aB (fa ⟨⟨akm.c,aP2⟩,f0⟩)
def aq3 {α:Type} (l:Option (Of).den->α) (an:α->α->α) (x:(agH).den):α:=cl (Uy).dflt (aaF x) (fun u0=>l (some ((decide ((0:Int)<=u0.1)),()))) (l none)
theorem aP5:QO aq2 Tryz.f143 [] agH Of aq3:=fun _=>by kernel_rfl
def Uz (x:(agH).den):Option (Of).den:=aq3 (fun r=>r) (fun _ _=>none) x
theorem aP6:MOz aq2 Tryz.f143 [] Uz:=fun x=>by rw [aP5]; unfold Uz aq3; simp only [Tree.sure,sus]
def aP7:=pO Uz
def aP8:=vO (τ:=Of) Uz
def aq4:Con:=⟨agH,Of,aP7,aP8⟩
theorem aAq:aQ Tryz.prog 143 aq4:=hO aaG aP4 aP6 l0
noncomputable def aP9:=bW Tryz.f145
theorem akn:bV 145 Tryz.f145 aP9:=bX
abbrev aQa:Ty:=(.cons Ob T7)
abbrev agI:Ty:=aQa
abbrev UA:Ty:=T3
noncomputable def aq5:Ctx:=Ctx.of [(98,.pure k98)]
theorem aQb:SP aq5:=aB (fa ⟨⟨Ut.c,h98⟩,f0⟩)
def aq6 {α:Type} (l:Option (UA).den->α) (an:α->α->α) (x:(agI).den):α:=cl (DA).dflt (Eo (x.2.1.1,((0:Int),((W (x.1.1 - (1:Int))),())))) (fun u0=>bif u0.1 then cl (DA).dflt (Eo (x.2.1.2.1,((0:Int),((W (x.1.1 - (1:Int))),())))) (fun u1=>bif u1.1 then bif (!(decide (x.2.1.1=x.2.1.2.1))) then cl (DA).dflt (Eo (x.2.1.2.2.1,((1:Int),((99999:Int),())))) (fun u2=>l (some u2)) (l none) else l (some (false,())) else l (some (false,()))) (l none) else l (some (false,()))) (l none)
theorem aQc:QO aq5 Tryz.f145 [] agI UA aq6:=fun _=>by kernel_rfl
def aaH (x:(agI).den):Option (UA).den:=aq6 (fun r=>r) (fun _ _=>none) x
theorem aQd:MOz aq5 Tryz.f145 [] aaH:=fun x=>by rw [aQc]; unfold aaH aq6; simp only [Tree.sure,sus]
def aQe:=pO aaH
def aQf:=vO (τ:=UA) aaH
def aAr:Con:=⟨agI,UA,aQe,aQf⟩
theorem aQg:aQ Tryz.prog 145 aAr:=hO akn aQb aQd l0
noncomputable def aQh:=bW Tryz.f144
theorem ako:bV 144 Tryz.f144 aQh:=bX
abbrev aQi:Ty:=(.cons T6 aAj)
abbrev agJ:Ty:=aQi
abbrev aaI:Ty:=T3
noncomputable def aq7:Ctx:=Ctx.of [(145,.pure aAr)]
theorem aQj:SP aq7:=aB (fa ⟨⟨akn.c,aQg⟩,f0⟩)
def aq8 {α:Type} (l:Option (aaI).den->α) (an:α->α->α) (x:(agJ).den):α:=cl (UA).dflt (aaH (x.2.1,(x.1,()))) (fun u0=>l (some ((!u0.1),()))) (l none)
theorem aQk:QO aq7 Tryz.f144 [] agJ aaI aq8:=fun _=>by kernel_rfl
def agK (x:(agJ).den):Option (aaI).den:=aq8 (fun r=>r) (fun _ _=>none) x
theorem aQl:MOz aq7 Tryz.f144 [] agK:=fun x=>by rw [aQk]; unfold agK aq8; simp only [Tree.sure,sus]
def aAs:=pO agK
def aAt:=vO (τ:=aaI) agK
def aAu:Con:=⟨agJ,aaI,aAs,aAt⟩
theorem aQm:aQ Tryz.prog 144 aAu:=hO ako aQj aQl l0
noncomputable def aq9:=bW Tryz.f180
theorem akp:bV 180 Tryz.f180 aq9:=bX
abbrev aQn:Ty:=(.agg T46)
abbrev ara:Ty:=(.cons aQn .nil)
abbrev aAv:Ty:=(.fn ara T3)
abbrev aQo:Ty:=(.cons aAv .nil)
abbrev aAw:Ty:=(.cons fq aQo)
abbrev agL:Ty:=aAw
abbrev UB:Ty:=T0
noncomputable def aaJ:Ctx:=Ctx.of []
theorem aQp:SP aaJ:=aB f0
noncomputable def Hp:Code:=bn ((ay (aq9))[0]?)
theorem agM:ay (Hp)=[]:=by kernel_rfl
abbrev pP:List bg:=[.slot 0 (.pc fq),.slot 1 (.pc aAv),.slot 7 (.pc tI)]
abbrev mI:List bg:=[.slot 8 (.pc tI)]
abbrev Ro:List bg:=pP ++ mI
def aaK:ZJ pP mI Ro:=ZA _ _
def Rp:ZS pP mI Ro:=ZP _ _
abbrev agN:bk:=⟨[(0,[])],[.slot 4 (.pc tI)],[]⟩
abbrev Av:bk:=⟨[(0,[])],[.slot 4 (.pc tI)],[]⟩
def Hq:ZE pP Av agN:=fun id=>match id with | 0=>fun c y=>y | _=>gC
def Og {α:Type} (l:RQ mI Av->α) (an:α->α->α) (c:ZD pP) (v:ZD mI):α:=bif (decide (v.1 < c.2.2.1)) then bif (decide (((0:Int)<=v.1)/\(v.1 < ((c.1.n:Nat):Int)))) then bif (c.2.1 ((c.1.g (Int.toNat v.1)),())).1 then bif (c.2.1 ((c.1.g (Int.toNat v.1)),())).2.1 then l (.out (.ret v)) else l (.next ((W (v.1 + (1:Int))),())) else l .bad else l .bad else l (.out (.exit 0 ()))
theorem arb:ZO aaJ 0 19 Hp [] aaK Hq ZI ZI Og:=fun _ _=>by kernel_rfl
def Oh (c:ZD pP) (v:ZD mI):RQ mI Av:=Og (fun r=>r) (fun _ _=>.bad) c v
theorem arc:SO aaJ 0 19 Hp [] aaK Hq ZI ZI Oh:=fun c v=>by rw [arb]; unfold Oh Og; simp only [bE,bq,dqs]
def Oi (c:ZD pP) (v:ZD mI):LQ Av:=bB (Oh c) dw v
theorem aAx:ay (aq9)=[.loop Hp]:=by kernel_rfl
noncomputable def aAy:List Loop:=[lk 0 Hq ZI ZI true Rp Oi]
def ard {α:Type} (l:Option (UB).den->α) (an:α->α->α) (x:(agL).den):α:=bp (Oi (x.1,(x.2.1,(((x.1.n:Nat):Int),()))) ((0:Int),())) 0 (fun u0=>l (some ((-1:Int),()))) (bK (Oi (x.1,(x.2.1,(((x.1.n:Nat):Int),()))) ((0:Int),())) (fun u1=>l (some u1)) (l none))
theorem aQq:QO aaJ Tryz.f180 aAy agL UB ard:=fun _=>by kernel_rfl
def aaL (x:(agL).den):Option (UB).den:=ard (fun r=>r) (fun _ _=>none) x
theorem aQr:MOz aaJ Tryz.f180 aAy aaL:=fun x=>by rw [aQq]; unfold aaL ard; simp only [Tree.sure,sus]
def aQs:=pO aaL
def aQt:=vO (τ:=UB) aaL
def aAz:Con:=⟨agL,UB,aQs,aQt⟩
theorem aQu:aQ Tryz.prog 180 aAz:=hO akp aQp aQr fun G' hlo hF hE=>aP (by rw [aAx]; exact .cons (lv hE hF hlo (ln agM) Rp arc) (.nil))
noncomputable def aQv:=bW Tryz.f146
theorem akq:bV 146 Tryz.f146 aQv:=bX
abbrev agO:Ty:=aAw
abbrev UC:Ty:=T3
noncomputable def are:Ctx:=Ctx.of [(180,.pure aAz)]
theorem aQw:SP are:=aB (fa ⟨⟨akp.c,aQu⟩,f0⟩)
def arf {α:Type} (l:Option (UC).den->α) (an:α->α->α) (x:(agO).den):α:=cl (UB).dflt (aaL x) (fun u0=>l (some ((decide ((0:Int)<=u0.1)),()))) (l none)
theorem aQx:QO are Tryz.f146 [] agO UC arf:=fun _=>by kernel_rfl
def aaM (x:(agO).den):Option (UC).den:=arf (fun r=>r) (fun _ _=>none) x
theorem aQy:MOz are Tryz.f146 [] aaM:=fun x=>by rw [aQx]; unfold aaM arf; simp only [Tree.sure,sus]
def aQz:=pO aaM
def aQA:=vO (τ:=UC) aaM
def aAA:Con:=⟨agO,UC,aQz,aQA⟩
theorem aQB:aQ Tryz.prog 146 aAA:=hO akq aQw aQy l0
noncomputable def aQC:=bW Tryz.f148
theorem akr:bV 148 Tryz.f148 aQC:=bX
abbrev agP:Ty:=ara
abbrev UD:Ty:=T3
noncomputable def arh:Ctx:=Ctx.of [(98,.pure k98),(178,.pure aqT)]
theorem aQD:SP arh:=aB (fa ⟨⟨Ut.c,h98⟩,fa ⟨⟨aaA.c,aAg⟩,f0⟩⟩)
def ari {α:Type} (l:Option (UD).den->α) (an:α->α->α) (x:(agP).den):α:=cl (Oa).dflt (Uw ((x.1.1,(x.1.2.1,())),((2880:Int),()))) (fun u0=>bif u0.1 then bif (decide ((W (x.1.2.1 - x.1.1))<=(300:Int))) then cl (DA).dflt (Eo (x.1.2.2.1,((0:Int),((50000:Int),())))) (fun u1=>bif u1.1 then cl (DA).dflt (Eo (x.1.2.2.2.1,((0:Int),((50000:Int),())))) (fun u2=>l (some u2)) (l none) else l (some (false,()))) (l none) else l (some (false,())) else l (some (false,()))) (l none)
theorem aQE:QO arh Tryz.f148 [] agP UD ari:=fun _=>by kernel_rfl
def aaN (x:(agP).den):Option (UD).den:=ari (fun r=>r) (fun _ _=>none) x
theorem aQF:MOz arh Tryz.f148 [] aaN:=fun x=>by rw [aQE]; unfold aaN ari; simp only [Tree.sure,sus]
def aQG:=pO aaN
def aQH:=vO (τ:=UD) aaN
def aAB:Con:=⟨agP,UD,aQG,aQH⟩
theorem aQI:aQ Tryz.prog 148 aAB:=hO akr aQD aQF l0
noncomputable def aQJ:=bW Tryz.f147
theorem aks:bV 147 Tryz.f147 aQJ:=bX
abbrev agQ:Ty:=ara
abbrev aaO:Ty:=T3
noncomputable def arj:Ctx:=Ctx.of [(148,.pure aAB)]
theorem aQK:SP arj:=aB (fa ⟨⟨akr.c,aQI⟩,f0⟩)
def ark {α:Type} (l:Option (aaO).den->α) (an:α->α->α) (x:(agQ).den):α:=cl (UD).dflt (aaN (x.1,())) (fun u0=>l (some ((!u0.1),()))) (l none)
theorem aQL:QO arj Tryz.f147 [] agQ aaO ark:=fun _=>by kernel_rfl
def agR (x:(agQ).den):Option (aaO).den:=ark (fun r=>r) (fun _ _=>none) x
theorem aQM:MOz arj Tryz.f147 [] agR:=fun x=>by rw [aQL]; unfold agR ark; simp only [Tree.sure,sus]
def aAC:=pO agR
def aAD:=vO (τ:=aaO) agR
def aAE:Con:=⟨agQ,aaO,aAC,aAD⟩
theorem aQN:aQ Tryz.prog 147 aAE:=hO aks aQK aQM l0
noncomputable def c93:=bW Tryz.f93
theorem agS:bV 93 Tryz.f93 c93:=bX
abbrev UE:Ty:=(.cons Ob .nil)
abbrev a93:Ty:=UE
abbrev r93:Ty:=T3
noncomputable def G93:Ctx:=Ctx.of [(98,.pure k98),(140,.pure aAf),(141,.pure aAm),(143,.pure aq4),(144,.pure aAu),(146,.pure aAA),(147,.pure aAE)]
theorem g93:SP G93:=aB (fa ⟨⟨Ut.c,h98⟩,fa ⟨⟨akj.c,aPy⟩,fa ⟨⟨akl.c,aPW⟩,fa ⟨⟨aaG.c,aAq⟩,fa ⟨⟨ako.c,aQm⟩,fa ⟨⟨akq.c,aQB⟩,fa ⟨⟨aks.c,aQN⟩,f0⟩⟩⟩⟩⟩⟩⟩)
def Q93 {α:Type} (l:Option (r93).den->α) (an:α->α->α) (x:(a93).den):α:=cl (DA).dflt (Eo (x.1.1,((1:Int),((6:Int),())))) (fun u0=>bif u0.1 then bif (decide (((x.1.2.1.n:Nat):Int)<=(9:Int))) then bif (decide (((x.1.2.2.1.n:Nat):Int)<=(8:Int))) then bif (decide (((x.1.2.2.2.1.n:Nat):Int)<=(4:Int))) then cl (DA).dflt (Eo (x.1.2.2.2.2.1,((1:Int),((99999:Int),())))) (fun u1=>bif u1.1 then cl (DA).dflt (Eo (x.1.2.2.2.2.2.1,((1:Int),((2880:Int),())))) (fun u2=>bif u2.1 then cl (DA).dflt (Eo (x.1.2.2.2.2.2.2.1,((1:Int),((2880:Int),())))) (fun u3=>bif u3.1 then bif (decide ((0:Int)<=x.1.2.2.2.2.2.2.2.1)) then bif (decide (x.1.2.2.2.2.2.2.2.1<=x.1.2.2.2.2.2.2.2.2.1)) then bif (decide (x.1.2.2.2.2.2.2.2.2.1<=(1440:Int))) then cl (Uv).dflt (aaz (x.1.2.1,((fun y1=>((aAk (y1.1,(x.1,()))),(aAl (y1.1,(x.1,()))))),()))) (fun u4=>bif (!u4.1) then cl (Of).dflt (Uz (x.1.2.2.1,((fun y1=>((aAs (y1.1,(x.1,()))),(aAt (y1.1,(x.1,()))))),()))) (fun u5=>bif (!u5.1) then cl (UC).dflt (aaM (x.1.2.2.2.1,((fun y1=>((aAC y1),(aAD y1))),()))) (fun u6=>l (some ((!u6.1),()))) (l none) else l (some (false,()))) (l none) else l (some (false,()))) (l none) else l (some (false,())) else l (some (false,())) else l (some (false,())) else l (some (false,()))) (l none) else l (some (false,()))) (l none) else l (some (false,()))) (l none) else l (some (false,())) else l (some (false,())) else l (some (false,())) else l (some (false,()))) (l none)
theorem q93:QO G93 Tryz.f93 [] a93 r93 Q93:=fun _=>by kernel_rfl
def M93 (x:(a93).den):Option (r93).den:=Q93 (fun r=>r) (fun _ _=>none) x
theorem m93:MOz G93 Tryz.f93 [] M93:=fun x=>by rw [q93]; unfold M93 Q93; simp only [Tree.sure,sus]
def p93:=pO M93
def v93:=vO (τ:=r93) M93
def k93:Con:=⟨a93,r93,p93,v93⟩
theorem h93:aQ Tryz.prog 93 k93:=hO agS g93 m93 l0
noncomputable def aQR:=bW Tryz.f181
theorem aaP:bV 181 Tryz.f181 aQR:=bX
abbrev agT:Ty:=T1
abbrev Hr:Ty:=T0
noncomputable def arn:Ctx:=Ctx.of []
theorem aQS:SP arn:=aB f0
def aro {α:Type} (l:Option (Hr).den->α) (an:α->α->α) (x:(agT).den):α:=l (some ((mx (W (x.1 - x.2.1)) (W (x.2.1 - x.1))),()))
theorem aQT:QO arn Tryz.f181 [] agT Hr aro:=fun _=>by kernel_rfl
def Ks (x:(agT).den):Option (Hr).den:=aro (fun r=>r) (fun _ _=>none) x
theorem aQU:MOz arn Tryz.f181 [] Ks:=fun x=>by rw [aQT]; unfold Ks aro; simp only [Tree.sure,sus]
def aQV:=pO Ks
def aQW:=vO (τ:=Hr) Ks
def arp:Con:=⟨agT,Hr,aQV,aQW⟩
theorem aAF:aQ Tryz.prog 181 arp:=hO aaP aQS aQU l0
noncomputable def aQX:=bW Tryz.f182
theorem aku:bV 182 Tryz.f182 aQX:=bX
abbrev aQY:Ty:=(.cons T50 T51)
abbrev arq:Ty:=(.cons Ob aQY)
abbrev agU:Ty:=arq
abbrev Oj:Ty:=T3
noncomputable def ars:Ctx:=Ctx.of []
theorem aQZ:SP ars:=aB f0
def art {α:Type} (l:Option (Oj).den->α) (an:α->α->α) (x:(agU).den):α:=bif (decide (x.2.1.1=x.2.2.1.1)) then bif (decide (x.2.1.2.1 < x.2.2.1.2.1)) then l (some ((decide (x.1.2.2.2.2.1<=(W (x.2.1.2.2.1 - x.2.2.1.2.2.1)))),())) else l (some (false,())) else l (some (false,()))
theorem aQ0:QO ars Tryz.f182 [] agU Oj art:=fun _=>by kernel_rfl
def UF (x:(agU).den):Option (Oj).den:=art (fun r=>r) (fun _ _=>none) x
theorem aQ1:MOz ars Tryz.f182 [] UF:=fun x=>by rw [aQ0]; unfold UF art; simp only [Tree.sure,sus]
def aQ2:=pO UF
def aQ3:=vO (τ:=Oj) UF
def aAG:Con:=⟨agU,Oj,aQ2,aQ3⟩
theorem aQ4:aQ Tryz.prog 182 aAG:=hO aku aQZ aQ1 l0
noncomputable def aQ5:=bW Tryz.f192
theorem akv:bV 192 Tryz.f192 aQ5:=bX
abbrev aAH:Ty:=(.ptr Mo)
abbrev aQ6:Ty:=(.cons aAH .nil)
abbrev aQ7:Ty:=(.cons aAH aQ6)
abbrev aQ8:Ty:=(.cons T6 aQ7)
abbrev agV:Ty:=aQ8
abbrev aaQ:Ty:=T3
noncomputable def aru:Ctx:=Ctx.of [(181,.pure arp)]
theorem aQ9:SP aru:=aB (fa ⟨⟨aaP.c,aAF⟩,f0⟩)
def arv {α:Type} (l:Option (aaQ).den->α) (an:α->α->α) (x:(agV).den):α:=bif (decide (x.1.1=x.2.1.1)) then bif (decide (x.1.2.1=x.2.2.1.1)) then cl (Hr).dflt (Ks (x.2.1.2.2.1,(x.2.2.1.2.2.1,()))) (fun u0=>l (some ((decide (x.1.2.2.1<=u0.1)),()))) (l none) else bif (decide (x.1.1=x.2.2.1.1)) then bif (decide (x.1.2.1=x.2.1.1)) then cl (Hr).dflt (Ks (x.2.1.2.2.1,(x.2.2.1.2.2.1,()))) (fun u1=>l (some ((decide (x.1.2.2.1<=u1.1)),()))) (l none) else l (some (false,())) else l (some (false,())) else bif (decide (x.1.1=x.2.2.1.1)) then bif (decide (x.1.2.1=x.2.1.1)) then cl (Hr).dflt (Ks (x.2.1.2.2.1,(x.2.2.1.2.2.1,()))) (fun u2=>l (some ((decide (x.1.2.2.1<=u2.1)),()))) (l none) else l (some (false,())) else l (some (false,()))
theorem aRa:QO aru Tryz.f192 [] agV aaQ arv:=fun _=>by kernel_rfl
def agW (x:(agV).den):Option (aaQ).den:=arv (fun r=>r) (fun _ _=>none) x
theorem aRb:MOz aru Tryz.f192 [] agW:=fun x=>by rw [aRa]; unfold agW arv; simp only [Tree.sure,sus]
def aAI:=pO agW
def aAJ:=vO (τ:=aaQ) agW
def aAK:Con:=⟨agV,aaQ,aAI,aAJ⟩
theorem aRc:aQ Tryz.prog 192 aAK:=hO akv aQ9 aRb l0
noncomputable def aRd:=bW Tryz.f183
theorem akw:bV 183 Tryz.f183 aRd:=bX
abbrev agX:Ty:=arq
abbrev UG:Ty:=T3
noncomputable def arw:Ctx:=Ctx.of [(143,.pure aq4),(192,.pure aAK)]
theorem aRe:SP arw:=aB (fa ⟨⟨aaG.c,aAq⟩,fa ⟨⟨akv.c,aRc⟩,f0⟩⟩)
def arx {α:Type} (l:Option (UG).den->α) (an:α->α->α) (x:(agX).den):α:=cl (Of).dflt (Uz (x.1.2.2.1,((fun y1=>((aAI (y1.1,(x.2.1,(x.2.2.1,())))),(aAJ (y1.1,(x.2.1,(x.2.2.1,())))))),()))) (fun u0=>l (some u0)) (l none)
theorem aRf:QO arw Tryz.f183 [] agX UG arx:=fun _=>by kernel_rfl
def aaR (x:(agX).den):Option (UG).den:=arx (fun r=>r) (fun _ _=>none) x
theorem aRg:MOz arw Tryz.f183 [] aaR:=fun x=>by rw [aRf]; unfold aaR arx; simp only [Tree.sure,sus]
def aRh:=pO aaR
def aRi:=vO (τ:=UG) aaR
def aAL:Con:=⟨agX,UG,aRh,aRi⟩
theorem aRj:aQ Tryz.prog 183 aAL:=hO akw aRe aRg l0
noncomputable def aRk:=bW Tryz.f149
theorem akx:bV 149 Tryz.f149 aRk:=bX
abbrev agY:Ty:=arq
abbrev UH:Ty:=T3
noncomputable def ary:Ctx:=Ctx.of [(181,.pure arp),(182,.pure aAG),(183,.pure aAL)]
theorem aRl:SP ary:=aB (fa ⟨⟨aaP.c,aAF⟩,fa ⟨⟨aku.c,aQ4⟩,fa ⟨⟨akw.c,aRj⟩,f0⟩⟩⟩)
def arz {α:Type} (l:Option (UH).den->α) (an:α->α->α) (x:(agY).den):α:=cl (Hr).dflt (Ks (x.2.1.2.1,(x.2.2.1.2.1,()))) (fun u0=>bif (decide (u0.1<=x.1.2.2.2.2.2.1)) then cl (Oj).dflt (UF (x.1,(x.2.1,(x.2.2.1,())))) (fun u1=>bif u1.1 then l (some (true,())) else cl (Oj).dflt (UF (x.1,(x.2.2.1,(x.2.1,())))) (fun u2=>bif u2.1 then l (some (true,())) else cl (UG).dflt (aaR (x.1,(x.2.1,(x.2.2.1,())))) (fun u3=>l (some u3)) (l none)) (l none)) (l none) else l (some (false,()))) (l none)
theorem aRm:QO ary Tryz.f149 [] agY UH arz:=fun _=>by kernel_rfl
def aaS (x:(agY).den):Option (UH).den:=arz (fun r=>r) (fun _ _=>none) x
theorem aRn:MOz ary Tryz.f149 [] aaS:=fun x=>by rw [aRm]; unfold aaS arz; simp only [Tree.sure,sus]
def aRo:=pO aaS
def aRp:=vO (τ:=UH) aaS
def aAM:Con:=⟨agY,UH,aRo,aRp⟩
theorem aRq:aQ Tryz.prog 149 aAM:=hO akx aRl aRn l0
noncomputable def c94:=bW Tryz.f94
theorem agZ:bV 94 Tryz.f94 c94:=bX
abbrev Hs:Ty:=(.map T4 .bool)
abbrev aRs:Ty:=(.cons Hs .nil)
abbrev aRt:Ty:=(.cons tI aRs)
abbrev aRu:Ty:=(.cons tI aRt)
abbrev aRv:Ty:=(.cons tI aRu)
abbrev aRw:Ty:=(.cons tI aRv)
abbrev aRx:Ty:=(.cons tI aRw)
abbrev aRy:Ty:=(.cons fq aRx)
abbrev aRz:Ty:=(.cons (.sl T2) aRy)
abbrev aRA:Ty:=(.cons fM aRz)
abbrev aAN:Ty:=(.cons tI aRA)
abbrev UI:Ty:=(.agg aAN)
abbrev arA:Ty:=(.cons UI .nil)
abbrev a94:Ty:=UE
abbrev r94:Ty:=arA
noncomputable def G94:Ctx:=Ctx.of [(149,.pure aAM)]
theorem g94:SP G94:=aB (fa ⟨⟨akx.c,aRq⟩,f0⟩)
noncomputable def Kt:Code:=bn ((ay (c94))[0]?)
noncomputable def Aw:Code:=bn ((ay (Kt))[0]?)
theorem aaT:ay (Aw)=[]:=by kernel_rfl
abbrev lG:List bg:=[.slot 1 (.ptr 1),.slot 2 (.ptr 2),.slot 3 (.mp 48),.slot 4 (.pc tI),.slot 5 (.ptr 1003050),.slot 9 (.pc fM),.slot 10 (.pc tI),.slot 11 (.pc tI),.box 1 [.pc tI,.pc fM,.pc (.sl T2),.pc fq,.pc tI,.pc tI,.pc tI,.pc tI,.pc tI],.box 1003050 [.pc tI,.pc tI,.pc tI,.pc tI,.pc tI,.pc tI,.pc tI]]
abbrev jH:List bg:=[.slot 6 (.pc tI),.box 2 [.pc tI,.own 1003001 93 Mo,.own 1003002 95 T2,.own 1003003 175 T46,.pc tI,.pc tI,.pc tI,.pc tI,.pc tI,.top],.mp 48 T4 .bool]
abbrev wM:List bg:=lG ++ jH
def Rq:ZJ lG jH wM:=ZA _ _
def lH:ZS lG jH wM:=ZP _ _
abbrev rM:bk:=⟨[(2,[.slot 1 (.ptr 1),.slot 2 (.ptr 2),.slot 3 (.mp 48),.slot 9 (.pc fM),.slot 10 (.pc tI),.slot 11 (.pc tI),.box 1 [.pc tI,.pc fM,.pc (.sl T2),.pc fq,.pc tI,.pc tI,.pc tI,.pc tI,.pc tI],.box 2 [.pc tI,.own 1003001 93 Mo,.own 1003002 95 T2,.own 1003003 175 T46,.pc tI,.pc tI,.pc tI,.pc tI,.pc tI,.top],.mp 48 T4 .bool])],[],[]⟩
abbrev wN:bk:=⟨[(2,[.box 2 [.pc tI,.own 1003001 93 Mo,.own 1003002 95 T2,.own 1003003 175 T46,.pc tI,.pc tI,.pc tI,.pc tI,.pc tI,.top],.mp 48 T4 .bool])],[],[]⟩
def wO:ZE lG wN rM:=fun id=>match id with | 2=>fun c y=>(c.1,(c.2.1,(c.2.2.1,(c.2.2.2.2.2.1,(c.2.2.2.2.2.2.1,(c.2.2.2.2.2.2.2.1,(c.2.2.2.2.2.2.2.2.1,y))))))) | _=>gC
def Ht {α:Type} (l:RQ jH wN->α) (an:α->α->α) (c:ZD lG) (v:ZD jH):α:=bif (decide (v.1 < ((c.2.2.2.2.2.2.2.2.1.2.1.n:Nat):Int))) then bif (decide (((0:Int)<=v.1)/\(v.1 < ((c.2.2.2.2.2.2.2.2.1.2.1.n:Nat):Int)))) then cl (UH).dflt (aaS (c.2.2.2.2.2.2.2.2.1,(c.2.2.2.2.2.2.2.2.2.1,((c.2.2.2.2.2.2.2.2.1.2.1.g (Int.toNat v.1)),())))) (fun u0=>bif u0.1 then l (.next ((W (v.1 + (1:Int))),((v.2.1.1,(v.2.1.2.1,(v.2.1.2.2.1,(v.2.1.2.2.2.1,(v.2.1.2.2.2.2.1,(v.2.1.2.2.2.2.2.1,(v.2.1.2.2.2.2.2.2.1,(v.2.1.2.2.2.2.2.2.2.1,(v.2.1.2.2.2.2.2.2.2.2.1,((),())))))))))),((fP (nJ T4) v.2.2.1 (c.2.2.2.1,(v.1,())) true),())))) else l (.next ((W (v.1 + (1:Int))),((v.2.1.1,(v.2.1.2.1,(v.2.1.2.2.1,(v.2.1.2.2.2.1,(v.2.1.2.2.2.2.1,(v.2.1.2.2.2.2.2.1,(v.2.1.2.2.2.2.2.2.1,(v.2.1.2.2.2.2.2.2.2.1,(v.2.1.2.2.2.2.2.2.2.2.1,((),())))))))))),v.2.2)))) (l .bad) else l .bad else l (.out (.exit 2 ((v.2.1.1,(v.2.1.2.1,(v.2.1.2.2.1,(v.2.1.2.2.2.1,(v.2.1.2.2.2.2.1,(v.2.1.2.2.2.2.2.1,(v.2.1.2.2.2.2.2.2.1,(v.2.1.2.2.2.2.2.2.2.1,(v.2.1.2.2.2.2.2.2.2.2.1,((),())))))))))),v.2.2)))
theorem ag0:ZO G94 0 41 Aw [] Rq wO ZI ZI Ht:=fun _ _=>by kernel_rfl
def Hu (c:ZD lG) (v:ZD jH):RQ jH wN:=Ht (fun r=>r) (fun _ _=>.bad) c v
theorem ag1:SO G94 0 41 Aw [] Rq wO ZI ZI Hu:=fun c v=>by rw [ag0]; unfold Hu Ht; simp only [bE,bq,dqs]
def Hv (c:ZD lG) (v:ZD jH):LQ wN:=bB (Hu c) dw v
theorem arC:ay (Kt)=[.loop Aw]:=by kernel_rfl
abbrev uU:List bg:=[.slot 1 (.ptr 1),.slot 2 (.ptr 2),.slot 3 (.mp 48),.slot 9 (.pc fM),.slot 10 (.pc tI),.box 1 [.pc tI,.pc fM,.pc (.sl T2),.pc fq,.pc tI,.pc tI,.pc tI,.pc tI,.pc tI]]
abbrev rN:List bg:=[.slot 11 (.pc tI),.box 2 [.pc tI,.own 1003001 93 Mo,.own 1003002 95 T2,.own 1003003 175 T46,.pc tI,.pc tI,.pc tI,.pc tI,.pc tI,.top],.mp 48 T4 .bool]
abbrev aaU:List bg:=uU ++ rN
def akz:ZJ uU rN aaU:=ZA _ _
def aaV:ZS uU rN aaU:=ZP _ _
abbrev arD:bk:=⟨[(0,[.slot 1 (.ptr 1),.slot 2 (.ptr 2),.slot 3 (.mp 48),.box 1 [.pc tI,.pc fM,.pc (.sl T2),.pc fq,.pc tI,.pc tI,.pc tI,.pc tI,.pc tI],.box 2 [.pc tI,.own 1003001 93 Mo,.own 1003002 95 T2,.own 1003003 175 T46,.pc tI,.pc tI,.pc tI,.pc tI,.pc tI,.top],.mp 48 T4 .bool])],[],[]⟩
abbrev Hw:bk:=⟨[(0,[.box 2 [.pc tI,.own 1003001 93 Mo,.own 1003002 95 T2,.own 1003003 175 T46,.pc tI,.pc tI,.pc tI,.pc tI,.pc tI,.top],.mp 48 T4 .bool])],[],[]⟩
def Ol:ZE uU Hw arD:=fun id=>match id with | 0=>fun c y=>(c.1,(c.2.1,(c.2.2.1,(c.2.2.2.2.2.1,y)))) | _=>gC
def aaW {α:Type} (l:RQ rN Hw->α) (an:α->α->α) (c:ZD uU) (v:ZD rN):α:=bif (decide (v.1 < c.2.2.2.2.1)) then bif (decide (((0:Int)<=v.1)/\(v.1 < ((c.2.2.2.1.n:Nat):Int)))) then bp (Hv ((),((),((),(v.1,((),(c.2.2.2.1,(c.2.2.2.2.1,(v.1,(c.2.2.2.2.2.1,((c.2.2.2.1.g (Int.toNat v.1)),())))))))))) ((W (v.1 + (1:Int))),((v.2.1.1,(v.2.1.2.1,(v.2.1.2.2.1,(v.2.1.2.2.2.1,(v.2.1.2.2.2.2.1,(v.2.1.2.2.2.2.2.1,(v.2.1.2.2.2.2.2.2.1,(v.2.1.2.2.2.2.2.2.2.1,(v.2.1.2.2.2.2.2.2.2.2.1,((),())))))))))),v.2.2))) 2 (fun u1=>l (.next ((W (v.1 + (1:Int))),((u1.1.1,(u1.1.2.1,(u1.1.2.2.1,(u1.1.2.2.2.1,(u1.1.2.2.2.2.1,(u1.1.2.2.2.2.2.1,(u1.1.2.2.2.2.2.2.1,(u1.1.2.2.2.2.2.2.2.1,(u1.1.2.2.2.2.2.2.2.2.1,((),())))))))))),u1.2)))) (l .bad) else l .bad else l (.out (.exit 0 ((v.2.1.1,(v.2.1.2.1,(v.2.1.2.2.1,(v.2.1.2.2.2.1,(v.2.1.2.2.2.2.1,(v.2.1.2.2.2.2.2.1,(v.2.1.2.2.2.2.2.2.1,(v.2.1.2.2.2.2.2.2.2.1,(v.2.1.2.2.2.2.2.2.2.2.1,((),())))))))))),v.2.2)))
theorem aAO:ZO G94 0 41 Kt [.known (fm 0 [] wM fun x=>cD rM wO ZI ZI [] false (lH x).1 (Hv (lH x).1 (lH x).2) rM.dY)] akz Ol ZI ZI aaW:=fun _ _=>by kernel_rfl
def aaX (c:ZD uU) (v:ZD rN):RQ rN Hw:=aaW (fun r=>r) (fun _ _=>.bad) c v
theorem aAP:SO G94 0 41 Kt [.known (fm 0 [] wM fun x=>cD rM wO ZI ZI [] false (lH x).1 (Hv (lH x).1 (lH x).2) rM.dY)] akz Ol ZI ZI aaX:=fun c v=>by rw [aAO]; unfold aaX aaW; simp only [bE,bq,dqs]
def akA (c:ZD uU) (v:ZD rN):LQ Hw:=bB (aaX c) dw v
theorem aRB:ay (c94)=[.loop Kt]:=by kernel_rfl
noncomputable def l94:List Loop:=[lk 0 Ol ZI ZI false aaV akA]
def Q94 {α:Type} (l:Option (r94).den->α) (an:α->α->α) (x:(a94).den):α:=bp (akA ((),((),((),(x.1.2.1,(((x.1.2.1.n:Nat):Int),(x.1,())))))) ((0:Int),(((0:Int),((⟨0,fun i=>((0:Int),((0:Int),((0:Int),((0:Int),((0:Int),((0:Int),((0:Int),())))))))⟩:Sl _),((⟨0,fun i=>((0:Int),((0:Int),((0:Int),())))⟩:Sl _),((⟨0,fun i=>((0:Int),((0:Int),((0:Int),((0:Int),()))))⟩:Sl _),((0:Int),((0:Int),((0:Int),((0:Int),((0:Int),((),())))))))))),((fun y1=>none),())))) 0 (fun u2=>l (some ((x.1.1,(x.1.2.1,(x.1.2.2.1,(x.1.2.2.2.1,(x.1.2.2.2.2.1,(x.1.2.2.2.2.2.1,(x.1.2.2.2.2.2.2.1,(x.1.2.2.2.2.2.2.2.1,(x.1.2.2.2.2.2.2.2.2.1,u2.2))))))))),()))) (l none)
theorem q94:QO G94 Tryz.f94 l94 a94 r94 Q94:=fun _=>by kernel_rfl
def M94 (x:(a94).den):Option (r94).den:=Q94 (fun r=>r) (fun _ _=>none) x
theorem m94:MOz G94 Tryz.f94 l94 M94:=fun x=>by rw [q94]; unfold M94 Q94; simp only [Tree.sure,sus]
def p94:=pO M94
def v94:=vO (τ:=r94) M94
def k94:Con:=⟨a94,r94,p94,v94⟩
theorem h94:aQ Tryz.prog 94 k94:=hO agZ g94 m94 fun G' hlo hF hE=>aP (by rw [aRB]; exact .cons (lv hE hF hlo (aP (by rw [arC]; exact .cons (lv hE hF hlo (ln aaT) lH ag1) (.nil))) aaV aAP) (.nil))
noncomputable def c95:=bW Tryz.f95
theorem aaY:bV 95 Tryz.f95 c95:=bX
abbrev aaZ:Ty:=arA
abbrev aa0:Ty:=.nil
abbrev e95:Ty:=lz
abbrev aAQ:Ty:=.cons tI (.cons tI (.cons tI (.cons tI (.cons tI (.cons tI (.cons tI .nil))))))
abbrev aAR:Ty:=.cons tI (.cons tI (.cons tI .nil))
abbrev aAS:Ty:=.cons tI (.cons tI (.cons tI (.cons tI .nil)))
abbrev aa1:Ty:=.cons tI (.cons tI .nil)
abbrev jU:Ty:=.cons tI (.cons (.sl aAQ) (.cons (.sl aAR) (.cons (.sl aAS) (.cons tI (.cons tI (.cons tI (.cons tI (.cons tI (.cons (.map (.agg aa1) .bool) .nil)))))))))
abbrev akB:List eT:=[.pc tI,.pc (.sl aAQ),.pc (.sl aAR),.pc (.sl aAS),.pc tI,.pc tI,.pc tI,.pc tI,.pc tI,.pc (.map (.agg aa1) .bool)]
abbrev cC:Ty:=.cons (.agg aa1) .nil
abbrev iG:List bg:=[.tr cC,.slot 1 .jI,.slot 2 (.ptr 2),.slot 10 (.pc tI),.slot 11 (.pc tI),.box 2 akB]
abbrev pQ:List bg:=[.tr cC,.slot 1 .jI,.slot 2 (.ptr 2),.slot 4 (.pc tI),.slot 10 (.pc tI),.slot 11 (.pc tI),.slot 17 (.pc tI),.slot 18 (.pc tI),.box 2 akB]
abbrev Hx:bk:=⟨[(2,iG)],[.tr cC],[.tr cC]⟩
abbrev Hy:bk:=⟨[(0,[.tr cC])],[.tr cC],[.tr cC]⟩
noncomputable def Ep:Code:=((Tryz.f95.body).bind dZ).getD .skip
noncomputable def Ku:Code:=(dZ Ep).getD .skip
def yb (i j:Int):cC.den:=((i,(j,())),())
def Rr (k:jU.den) (i j:Int):Bool:=(k.2.2.2.2.2.2.2.2.2.1 (i,(j,()))).getD false
def DB (k:jU.den):Int:=(k.2.1.n:Int)
def pR (tr:Sl cC.den) (i:cC.den):Sl cC.den:=cj tr ⟨1,fun _=>i⟩
theorem UJ (tr:Sl cC.den) (i n0 i0 n j:Int) (k:jU.den) :
  iz true Tryz.prog E0 (fun _=>none) 0 36 [] pQ Hx Ku [] (tr,(),(),i,n0,i0,n,j,k,()) =
   bif decide (j < n) then bif Rr k i j then
    .any (.leaf (.next (pR tr (yb i j),(),(),i,n0,i0,n,W (j + 1),k,())))
     (.any (.leaf (.out (.stop cC (pR tr (yb i j))))) (.leaf (.out (.bD cC (pR tr (yb i j))))))
    else .leaf (.next (tr,(),(),i,n0,i0,n,W (j + 1),k,()))
   else .leaf (.out (.exit 2 iG (tr,(),(),n0,i0,k,()))):=by
 kernel_rfl
def rO (id:Nat) (qs:List bg) (y:ZD qs) (T:Sl cC.den):Tree LO:=.any (.leaf (.exit id qs y)) (.any (.leaf (.stop cC T)) (.leaf (.bD cC T)))
theorem Om {id:Nat} {qs:List bg} {y:(ZD qs)} {T:Sl cC.den} {o:LO} (h:(rO id qs y T).Has o):o ≠ .bad:=by
 rcases h with h | h | h <;> (rw [show o=_ from h]; simp)
theorem CG {id:Nat} {qs:List bg} {y:(ZD qs)} {T:Sl cC.den}:∀ o,(rO id qs y T).Has o->xJ (rO id qs y T) o:=fun o h=>⟨o,h,.refl (Om h)⟩
theorem CH {id:Nat} {qs:List bg} {y:(ZD qs)} {T T':Sl cC.den} (h:T'.list <+: T.list):xJ (rO id qs y T) (.stop cC T'):=⟨_,.inr (.inl rfl),.stop h⟩
theorem tv {id:Nat} {qs:List bg} {y:(ZD qs)} {T T':Sl cC.den} (h:T'.list <+: T.list):xJ (rO id qs y T) (.bD cC T'):=⟨_,.inr (.inr rfl),.bD h⟩
theorem pS {b:Bool} {l r:Tree LO} (hb:b=true):(∀ o,(Tree.br b l r).Has o->l.Has o)/\∀ o,xJ l o->xJ (Tree.br b l r) o:=by
 subst hb
 exact ⟨fun o h=>h,fun o ⟨o',h1,h2⟩=>⟨o',h1,h2⟩⟩
theorem CI {b:Bool} {l:Tree LO} (h:zx (Tree.br b l (.leaf .bad))):b=true:=by
 cases b with
 | true=>rfl
 | false=>exact absurd rfl (h .bad rfl)
theorem Hz (tr:Sl cC.den) (i:cC.den):(pR tr i).list=tr.list ++ [i]:=fy tr i
def pT (k:jU.den) (i j:Int) (tr:Sl cC.den):Sl cC.den:=bif Rr k i j then pR tr (yb i j) else tr
def jP (k:jU.den) (i:Int):Nat->Int->Sl cC.den->Sl cC.den
 | 0,_,tr=>tr
 | m + 1,j,tr=>jP k i m (j + 1) (pT k i j tr)
theorem Kv (k:jU.den) (i j:Int) (tr:Sl cC.den):tr.list <+: (pT k i j tr).list:=by
 unfold pT
 cases Rr k i j with
 | true=>rw [cond_true,Hz]; exact List.prefix_append _ _
 | false=>exact List.prefix_refl _
theorem uV (k:jU.den) (i:Int):∀ (m:Nat) (j:Int) (tr:Sl cC.den),tr.list <+: (jP k i m j tr).list
 | 0,_,tr=>List.prefix_refl _
 | m + 1,j,tr=>(Kv k i j tr).trans (uV k i m (j + 1) _)
def mJ (n j:Int):Bool:=decide (n<=9223372036854775806/\0<=j)
def yY:(ZD pQ)->Tree LO:=fun (tr,_,_,i,n0,i0,n,j,k,_) =>
 .br (mJ n j) (rO 2 iG (jP k i (n - j).toNat j tr,(),(),n0,i0,k,()) (jP k i (n - j).toNat j tr)) (.leaf .bad)
def Rs:(ZD pQ)->Nat:=fun (_,_,_,_,_,_,n,j,_,_)=>(n - j).toNat
theorem zD (tr:Sl cC.den) (i n0 i0 n j:Int) (k:jU.den) (hf:zx (yY (tr,(),(),i,n0,i0,n,j,k,()))) :
  (iz true Tryz.prog E0 (fun _=>none) 0 36 [] pQ Hx Ku [] (tr,(),(),i,n0,i0,n,j,k,())).gJ (kW Rs yY (tr,(),(),i,n0,i0,n,j,k,())):=by
 have hok:mJ n j=true:=CI hf
 obtain ⟨_,e0⟩:=pS (l:=rO 2 iG (jP k i (n - j).toNat j tr,(),(),n0,i0,k,()) (jP k i (n - j).toNat j tr)) (r:=.leaf .bad) hok
 obtain ⟨h1,h2⟩:n<=9223372036854775806/\0<=j:=of_decide_eq_true hok
 rw [UJ]
 by_cases ht:j < n
 ·have hW:W (j + 1)=j + 1:=IntWalk.i64_in _ ⟨by omega,by omega⟩
  have hn:(n - j).toNat=(n - (j + 1)).toNat + 1:=by omega
  have LV:mJ n (j + 1)=true:=decide_eq_true ⟨h1,by omega⟩
  simp only [ht,decide_true,cond_true,hW]
  have next:∀ CZ,pT k i j tr=CZ->kW Rs yY (tr,(),(),i,n0,i0,n,j,k,()) (.next (CZ,(),(),i,n0,i0,n,j + 1,k,())):=fun CZ PC=>by
   obtain ⟨e1,_⟩:=pS (l:=rO 2 iG (jP k i (n - (j + 1)).toNat (j + 1) CZ,(),(),n0,i0,k,()) (jP k i (n - (j + 1)).toNat (j + 1) CZ)) (r:=.leaf .bad) LV
   refine ⟨?_,fun o' ho=>?_⟩
   ·show (n - (j + 1)).toNat < (n - j).toNat
    omega
   ·have:=e1 o' ho
    rw [show jP k i (n - (j + 1)).toNat (j + 1) CZ=jP k i (n - j).toNat j tr by rw [hn,<- PC]; rfl] at this
    exact e0 o' (CG o' this)
  cases c1:Rr k i j with
  | false=>exact next tr (by simp [pT,c1])
  | true =>
   have hs:pT k i j tr=pR tr (yb i j):=by simp only [pT,c1,cond_true]
   have hp:(pR tr (yb i j)).list <+: (jP k i (n - j).toNat j tr).list:=by
    rw [hn,<- hs]; exact uV k i _ _ _
   exact ⟨next _ hs,e0 _ (CH hp),e0 _ (tv hp)⟩
 ·have ht':decide (j < n)=false:=decide_eq_false ht
  rw [ht',cond_false]
  have hn:(n - j).toNat=0:=by omega
  refine e0 _ ⟨_,.inl rfl,?_⟩
  rw [hn]
  exact .refl (by simp)
theorem CJ (x:ZD pQ) (hf:zx (yY x)):(iz true Tryz.prog E0 (fun _=>none) 0 36 [] pQ Hx Ku [] x).gJ (kW Rs yY x):=by
 obtain ⟨tr,⟨⟩,⟨⟩,i,n0,i0,n,j,k,⟨⟩⟩:=x
 exact zD tr i n0 i0 n j k hf
noncomputable abbrev HA:List Loop:=[.known (mc 0 [] pQ yY)]
def pU (k:jU.den) (i:Int) (tr:Sl cC.den):Sl cC.den:=jP k i (DB k - 0).toNat 0 tr
theorem UK (tr:Sl cC.den) (n i:Int) (k:jU.den) :
  iz true Tryz.prog E0 (fun _=>none) 0 36 [] iG Hy Ep HA (tr,(),(),n,i,k,()) =
   bif decide (i < n) then
    bif mJ (DB k) 0 then
     .any (.leaf (.next (pU k i tr,(),(),n,W (i + 1),k,())))
      (.any (.leaf (.out (.stop cC (pU k i tr)))) (.leaf (.out (.bD cC (pU k i tr)))))
    else .leaf (.out .bad)
   else .leaf (.out (.exit 0 [.tr cC] (tr,()))):=by
 kernel_rfl
theorem On (k:jU.den) (i:Int) (tr:Sl cC.den):tr.list <+: (pU k i tr).list:=uV k i _ _ _
def jQ (k:jU.den):Nat->Int->Sl cC.den->Sl cC.den
 | 0,_,tr=>tr
 | m + 1,i,tr=>jQ k m (i + 1) (pU k i tr)
theorem CK (k:jU.den):∀ (m:Nat) (i:Int) (tr:Sl cC.den),tr.list <+: (jQ k m i tr).list
 | 0,_,tr=>List.prefix_refl _
 | m + 1,i,tr=>(On k i tr).trans (CK k m (i + 1) _)
def CL:(ZD iG)->Tree LO:=fun (tr,_,_,n,i,k,_) =>
 .br (mJ n i && mJ (DB k) 0) (rO 0 [.tr cC] (jQ k (n - i).toNat i tr,()) (jQ k (n - i).toNat i tr)) (.leaf .bad)
def aa2:(ZD iG)->Nat:=fun (_,_,_,n,i,_,_)=>(n - i).toNat
theorem zE (tr:Sl cC.den) (n i:Int) (k:jU.den) (hf:zx (CL (tr,(),(),n,i,k,()))) :
  (iz true Tryz.prog E0 (fun _=>none) 0 36 [] iG Hy Ep HA (tr,(),(),n,i,k,())).gJ (kW aa2 CL (tr,(),(),n,i,k,())):=by
 have hok:(mJ n i && mJ (DB k) 0)=true:=CI hf
 obtain ⟨_,e0⟩:=pS (l:=rO 0 [.tr cC] (jQ k (n - i).toNat i tr,()) (jQ k (n - i).toNat i tr)) (r:=.leaf .bad) hok
 rw [Bool.and_eq_true] at hok
 obtain ⟨h1,h2⟩:n<=9223372036854775806/\0<=i:=of_decide_eq_true hok.1
 rw [UK]
 by_cases ht:i < n
 ·have hW:W (i + 1)=i + 1:=IntWalk.i64_in _ ⟨by omega,by omega⟩
  have hn:(n - i).toNat=(n - (i + 1)).toNat + 1:=by omega
  have LV:(mJ n (i + 1) && mJ (DB k) 0)=true:=by rw [hok.2,Bool.and_true]; exact decide_eq_true ⟨h1,by omega⟩
  simp only [ht,decide_true,cond_true,hW,hok.2]
  obtain ⟨e1,_⟩:=pS (l:=rO 0 [.tr cC] (jQ k (n - (i + 1)).toNat (i + 1) (pU k i tr),()) (jQ k (n - (i + 1)).toNat (i + 1) (pU k i tr))) (r:=.leaf .bad) LV
  have hp:(pU k i tr).list <+: (jQ k (n - i).toNat i tr).list:=by
   rw [hn]; exact CK k _ _ _
  refine ⟨⟨?_,fun o' ho=>?_⟩,e0 _ (CH hp),e0 _ (tv hp)⟩
  ·show (n - (i + 1)).toNat < (n - i).toNat
   omega
  ·have:=e1 o' ho
   rw [show jQ k (n - (i + 1)).toNat (i + 1) (pU k i tr)=jQ k (n - i).toNat i tr by rw [hn]; rfl] at this
   exact e0 o' (CG o' this)
 ·have ht':decide (i < n)=false:=decide_eq_false ht
  rw [ht',cond_false]
  have hn:(n - i).toNat=0:=by omega
  refine e0 _ ⟨_,.inl rfl,?_⟩
  rw [hn]
  exact .refl (by simp)
theorem CM (x:ZD iG) (hf:zx (CL x)):(iz true Tryz.prog E0 (fun _=>none) 0 36 [] iG Hy Ep HA x).gJ (kW aa2 CL x):=by
 obtain ⟨tr,⟨⟩,⟨⟩,n,i,k,⟨⟩⟩:=x
 exact zE tr n i k hf
def wP (k:jU.den):Sl cC.den:=jQ k (DB k - 0).toNat 0 ⟨0,fun _=>cC.dflt⟩
def ag2 (x:(aaZ).den) (_:(aa0).den):Bool:=mJ (DB x.1) 0
def Oo (x:(aaZ).den) (_:(aa0).den):Sl (e95).den:=wP x.1
def i95:Dc:=⟨aaZ,aa0,e95,ag2,Oo⟩
noncomputable abbrev aa3:List Loop:=[.known (mc 0 [] iG CL)]
theorem aa4 (k:jU.den):Tg Tryz.prog E0 (fun _=>none) Tryz.f95 aa3 i95 (k,()) () =
  bif mJ (DB k) 0 && mJ (DB k) 0 then .any (.leaf (.full ⟨cC,true,wP k⟩)) (.any (.leaf (.stop ⟨cC,false,wP k⟩)) (.leaf (.bD ⟨cC,false,wP k⟩)))
  else .leaf .bad:=by
 kernel_rfl
theorem Oq (G':Gh) (h0:G'.lo=0) (hok:G'.Ok Tryz.prog):ff Tryz.prog 36 G' 95 Fence.wide 0 c95 aa3:=by
 have hE:Env Tryz.prog E0 (fun _=>none) G' Fence.wide:=⟨bS,oS,bN,bH,hok,.wide,fun _=>rfl⟩
 have l2:dF Tryz.prog 36 G' 95 Fence.wide 0 (.loop Ku) (mc 0 [] pQ yY):=by
  have:=vR (fid:=95) (r:=0) (N:=36) (bw:=[]) hE (tr:=true) (.inl rfl) (ps:=pQ) (wy:=Hx) (body:=Ku) (ls:=[]) cO (by kernel_rfl) (by kernel_rfl) yY Rs (by rw [h0]; exact CJ)
  rw [h0] at this; exact this
 have l0:dF Tryz.prog 36 G' 95 Fence.wide 0 (.loop Ep) (mc 0 [] iG CL):=by
  have:=vR (fid:=95) (r:=0) (N:=36) (bw:=[]) hE (tr:=true) (.inl rfl) (ps:=iG) (wy:=Hy) (body:=Ep) (ls:=HA) (gi l2 (by kernel_rfl) (by kernel_rfl)) (by kernel_rfl) (by kernel_rfl) CL aa2 (by rw [h0]; exact CM)
  rw [h0] at this; exact this
 exact gi l0 (by kernel_rfl) (by kernel_rfl)
theorem h95:xz Tryz.prog 95 i95:=by
 refine jn bS oS bN bH (E:=E0) aaY.a aaY.b (ls:=aa3) i95 rfl rfl (Nat.le_of_ble_eq_true (by kernel_rfl)) (by kernel_rfl) (fun G' h0 hok _=>Oq G' h0 hok) ?_
 rintro ⟨k,⟨⟩⟩ ⟨⟩ hp
 rw [aa4]
 have hp:mJ (DB k) 0=true:=hp
 rw [hp,Bool.and_self,cond_true]
 exact ⟨⟨_,rfl,rfl⟩,⟨_,rfl,List.prefix_refl _⟩,_,rfl,List.prefix_refl _⟩
noncomputable def aRF:=bW Tryz.f184
theorem aa5:bV 184 Tryz.f184 aRF:=bX
abbrev aRG:Ty:=(.cons T4 Tq)
abbrev aRH:Ty:=(.cons UI aRG)
abbrev ag3:Ty:=aRH
abbrev Ot:Ty:=T1
noncomputable def arF:Ctx:=Ctx.of []
theorem aRI:SP arF:=aB f0
def arG {α:Type} (l:Option (Ot).den->α) (an:α->α->α) (x:(ag3).den):α:=bif (decide (((0:Int)<=x.2.1.1)/\(x.2.1.1 < ((x.1.2.1.n:Nat):Int)))) then bif (decide (((0:Int)<=x.2.1.2.1)/\(x.2.1.2.1 < ((x.1.2.1.n:Nat):Int)))) then bif (decide (((0:Int)<=x.2.1.1)/\(x.2.1.1 < ((x.2.2.1.n:Nat):Int)))) then bif (decide (((0:Int)<=x.2.1.2.1)/\(x.2.1.2.1 < ((x.2.2.1.n:Nat):Int)))) then l (some ((mx (W ((x.1.2.1.g (Int.toNat x.2.1.1)).2.1 + (x.2.2.1.g (Int.toNat x.2.1.1)).1)) (W ((x.1.2.1.g (Int.toNat x.2.1.2.1)).2.1 + (x.2.2.1.g (Int.toNat x.2.1.2.1)).1))),((W ((mx (x.1.2.1.g (Int.toNat x.2.1.1)).2.1 (x.1.2.1.g (Int.toNat x.2.1.2.1)).2.1) + x.1.2.2.2.2.2.2.1)),()))) else l none else l none else l none else l none
theorem aRJ:QO arF Tryz.f184 [] ag3 Ot arG:=fun _=>by kernel_rfl
def UL (x:(ag3).den):Option (Ot).den:=arG (fun r=>r) (fun _ _=>none) x
theorem aRK:MOz arF Tryz.f184 [] UL:=fun x=>by rw [aRJ]; unfold UL arG; simp only [Tree.sure,sus]
def aRL:=pO UL
def aRM:=vO (τ:=Ot) UL
def arH:Con:=⟨ag3,Ot,aRL,aRM⟩
theorem aAT:aQ Tryz.prog 184 arH:=hO aa5 aRI aRK l0
noncomputable def ag4:=bW Tryz.f153
theorem Rt:bV 153 Tryz.f153 ag4:=bX
abbrev UM:Ty:=T0
abbrev tw:List bg:=[.agg 0 tX,.slot 1 (.pc tL)]
abbrev HB:List (Nat×Ty):=[(229,.agg (.cons tI .nil))]
noncomputable def aa6:Ctx:=Ctx.of [(95,.iter i95),(184,.pure arH)]
theorem aRN:SP aa6:=aB (fa ⟨⟨aaY.c,h95⟩,fa ⟨⟨aa5.c,aAT⟩,f0⟩⟩)
noncomputable def HC:Code:=kK ((ay (ag4))[0]?)
noncomputable def HD:Code:=sH ((ay (ag4))[0]?)
abbrev iH:List bg:=[.slot 2 (.ptr 102),.slot 3 (.ptr 103),.slot 5 (.ptr 144),.box 102 [.pc tI,.pc fM,.pc (.sl T2),.pc fq,.pc tI,.pc tI,.pc tI,.pc tI,.pc tI,.pc Hs],.box 103 [.pc (.sl T0)],.box 144 [.pc tI]]
theorem ag5:ay (HC)=[]:=by kernel_rfl
def Ou {α:Type} (l:RO iH->α) (an:α->α->α) (x:ZD iH) (it:Ty.den lz):α:=cl (Ot).dflt (UL (x.2.2.2.1,(it.1,x.2.2.2.2.1))) (fun u0=>bif (decide (u0.1 < u0.2.1)) then bif (decide (x.2.2.2.2.2.1.1 < (0:Int))) then l (.next ((),((),((),(x.2.2.2.1,(x.2.2.2.2.1,((u0.1,()),()))))))) else bif (decide (u0.1 < x.2.2.2.2.2.1.1)) then l (.next ((),((),((),(x.2.2.2.1,(x.2.2.2.2.1,((u0.1,()),()))))))) else l (.next ((),((),((),(x.2.2.2.1,(x.2.2.2.2.1,(x.2.2.2.2.2.1,()))))))) else l (.next ((),((),((),(x.2.2.2.1,(x.2.2.2.2.1,(x.2.2.2.2.2.1,())))))))) (l .bad)
theorem arI (x:ZD iH) (it:Ty.den lz):gE Tryz.prog E0 aa6 100 500000 39 [11] HD HC [] [] lz iH x it=Ou .leaf .any x it:=by kernel_rfl
def Ov (x:ZD iH) (it:Ty.den lz):RO iH:=Ou (fun r=>r) (fun _ _=>.bad) x it
theorem arJ (x:ZD iH) (it:Ty.den lz):(gE Tryz.prog E0 aa6 100 500000 39 [11] HD HC [] [] lz iH x it).cT .bad=Ov x it:=by rw [arI]; unfold Ov Ou; simp only [ew,Tree.cT,gH,cZ,dK,de,dg,dL,dh,dM,ez,dm]
def Ow (x:ZD iH) (l:List (Ty.den lz)):RO iH:=cJ Ov x l
theorem aAU:ay (ag4)=[.rangeFunc (.tmp 10) #[11] HD HC]:=by kernel_rfl
noncomputable def aAV:List Loop:=[.known (ow 100 [] 10 lz iH [] [] (fun x l=>Ow x l))]
def arK {α:Type} (l:GO UM (aD tw)->α) (an:α->α->α) (x:ZD tw):α:=bif (ag2 (x.1,()) ()) then eo (Ow ((),((),((),(x.1,(x.2,(((-1:Int),()),())))))) (Sl.list (Oo (x.1,()) ()))) (fun u1=>bif (decide (u1.2.2.2.2.2.1.1 < (0:Int))) then l (.bP 229 GL (((u1.2.2.2.2.1.1.n:Nat):Int),()) ()) else l (.ok u1.2.2.2.2.2.1 ())) (eM (Ow ((),((),((),(x.1,(x.2,(((-1:Int),()),())))))) (Sl.list (Oo (x.1,()) ()))) (fun u2=>l .bad) (l .bad)) else l .bad
theorem aRO (x:ZD tw):ur Tryz.prog E0 aa6 Tryz.f153 aAV 100 UM tw x=arK .leaf .any x:=by kernel_rfl
def UN (x:ZD tw):GO UM (aD tw):=arK (fun r=>r) (fun _ _=>.bad) x
theorem aRP (x:ZD tw):(ur Tryz.prog E0 aa6 Tryz.f153 aAV 100 UM tw x).cT .bad=UN x:=by rw [aRO]; unfold UN arK; simp only [ew,Tree.cT,gH,cZ,dK,de,dg,dL,dh,dM,ez,dm]
theorem aRQ:dP Tryz.prog 153 (fT Tryz.f153.ntmps UM tw HB UN):=gT (E:=E0) bS aRN bN bH Rt.a Rt.b (by kernel_rfl) (fun G' hlo hF hE=>aP (by rw [aAU]; exact .cons (kI hE hF hlo Rt.a (by kernel_rfl) (by kernel_rfl) (by kernel_rfl) (by kernel_rfl) (by kernel_rfl) (fun G' hlo hF l hE=>cO) (fun G' hlo hF l hE=>aP (by rw [ag5]; exact .nil)) arJ) (.nil))) HB aRP
noncomputable def ag6:=bW Tryz.f152
theorem aa7:bV 152 Tryz.f152 ag6:=bX
abbrev akC:List bg:=[.slot 0 (.ptr 4),.slot 1 (.ptr 5),.box 4 [.pc tI],.box 5 [.pc .bool]]
noncomputable def aAW:Ctx:=Ctx.of []
theorem aRR:SP aAW:=aB f0
noncomputable def Ru:Code:=match ag6 with | .seq _ r=>r | _=>.skip
theorem ag7:dP Tryz.prog 152 (fun _ _ _ _=>.leaf .bad):=fun _ _ _ _ _ _ _ _ _ _ _ _ _ _ _ _ hall=>absurd rfl (hall .bad rfl)
noncomputable def d152:LN:=adM Tryz.f152.ntmps akC (amc Tryz.prog E0 aAW Tryz.f152.ntmps Ru [] 100 akC 5)
noncomputable def akD:Oper:=match ag6 with | .seq (.region _ ops _) _=>ops.toList.headD default | _=>default
noncomputable def arL:Nat:=match ag6 with | .seq (.region r _ _) _=>r | _=>0
noncomputable def arM:Call:=match akD.op with | .call c=>c | _=>default
theorem aAX:BI Tryz.prog 152 d152:=tn (E:=E0) (o:=akD) (rid:=arL) (c:=arM) bS aRR bN bH aa7.a (rest:=Ru) (by kernel_rfl) (by kernel_rfl) (by kernel_rfl) (by kernel_rfl) (by kernel_rfl) (by kernel_rfl) (by kernel_rfl) (by kernel_rfl) (by kernel_rfl) fun G' _ _ _=>cO
noncomputable def c97:=bW Tryz.f97
theorem arN:bV 97 Tryz.f97 c97:=bX
abbrev aRS:Ty:=(.cons UI Tq)
abbrev a97:Ty:=aRS
abbrev r97:Ty:=T34
noncomputable def G97:Ctx:=Ctx.of [(152,.gen (fun _ _ _ _=>.leaf .bad)),(153,.gen (fT Tryz.f153.ntmps UM tw HB UN))]
theorem g97:SP G97:=aB (fa ⟨⟨aa7.c,ag7⟩,fa ⟨⟨Rt.c,aRQ⟩,f0⟩⟩)
theorem aRU:ay (c97)=[]:=by kernel_rfl
noncomputable def l97:List Loop:=[]
noncomputable def D97:ry:=ry.of [(152,d152)]
theorem aRW:xR Tryz.prog D97:=xS (fa ⟨⟨aa7.c,aAX⟩,f0⟩)
def Q97 {α:Type} (l:Option (r97).den->α) (an:α->α->α) (x:(a97).den):α:=gj (UN (x.1,x.2)) 229 GL (fun u0=>l (some ((0:Int),(false,())))) (gF (UN (x.1,x.2)) (fun u1=>l (some (u1.1.1,(true,())))) (l none))
theorem q97 (x:(a97).den):rz Tryz.prog E0 G97 D97 Tryz.f97 l97 a97 r97 x=Q97 .leaf .any x:=by kernel_rfl
def M97 (x:(a97).den):Option (r97).den:=Q97 (fun r=>r) (fun _ _=>none) x
theorem m97 (x:(a97).den):(rz Tryz.prog E0 G97 D97 Tryz.f97 l97 a97 r97 x).sure=M97 x:=by rw [q97]; unfold M97 Q97; simp only [Tree.sure,sus]
def p97:=pO M97
def v97:=vO (τ:=r97) M97
def k97:Con:=⟨a97,r97,p97,v97⟩
theorem h97:aQ Tryz.prog 97 k97:=yS (E:=E0) bS g97 aRW bN bH arN.a arN.b (by kernel_rfl) m97 fun G' hlo hF hE=>aP (by rw [aRU]; exact .nil)
noncomputable def aRY:=bW Tryz.f150
theorem akF:bV 150 Tryz.f150 aRY:=bX
abbrev aAY:Ty:=(.cons UI T0)
abbrev ag8:Ty:=aAY
abbrev aa8:Ty:=T0
noncomputable def arP:Ctx:=Ctx.of []
theorem aRZ:SP arP:=aB f0
def arQ {α:Type} (l:Option (aa8).den->α) (an:α->α->α) (x:(ag8).den):α:=bif (decide (((0:Int)<=x.2.1)/\(x.2.1 < ((x.1.2.1.n:Nat):Int)))) then l (some ((x.1.2.1.g (Int.toNat x.2.1)).2.2.2.1,())) else l none
theorem aR0:QO arP Tryz.f150 [] ag8 aa8 arQ:=fun _=>by kernel_rfl
def ag9 (x:(ag8).den):Option (aa8).den:=arQ (fun r=>r) (fun _ _=>none) x
theorem aR1:MOz arP Tryz.f150 [] ag9:=fun x=>by rw [aR0]; unfold ag9 arQ; simp only [Tree.sure,sus]
def aha:=pO ag9
def ahb:=vO (τ:=aa8) ag9
def aAZ:Con:=⟨ag8,aa8,aha,ahb⟩
theorem aR2:aQ Tryz.prog 150 aAZ:=hO akF aRZ aR1 l0
noncomputable def aR3:=bW Tryz.f151
theorem akG:bV 151 Tryz.f151 aR3:=bX
abbrev ahc:Ty:=aAY
abbrev aa9:Ty:=T0
noncomputable def arR:Ctx:=Ctx.of []
theorem aR4:SP arR:=aB f0
def arS {α:Type} (l:Option (aa9).den->α) (an:α->α->α) (x:(ahc).den):α:=bif (decide (((0:Int)<=x.2.1)/\(x.2.1 < ((x.1.2.1.n:Nat):Int)))) then l (some ((x.1.2.1.g (Int.toNat x.2.1)).2.2.2.2.1,())) else l none
theorem aR5:QO arR Tryz.f151 [] ahc aa9 arS:=fun _=>by kernel_rfl
def ahd (x:(ahc).den):Option (aa9).den:=arS (fun r=>r) (fun _ _=>none) x
theorem aR6:MOz arR Tryz.f151 [] ahd:=fun x=>by rw [aR5]; unfold ahd arS; simp only [Tree.sure,sus]
def ahe:=pO ahd
def ahf:=vO (τ:=aa9) ahd
def aA0:Con:=⟨ahc,aa9,ahe,ahf⟩
theorem aR7:aQ Tryz.prog 151 aA0:=hO akG aR4 aR6 l0
noncomputable def c96:=bW Tryz.f96
theorem arT:bV 96 Tryz.f96 c96:=bX
abbrev a96:Ty:=arA
abbrev r96:Ty:=aod
noncomputable def G96:Ctx:=Ctx.of [(150,.pure aAZ),(151,.pure aA0)]
theorem g96:SP G96:=aB (fa ⟨⟨akF.c,aR2⟩,fa ⟨⟨akG.c,aR7⟩,f0⟩⟩)
noncomputable def aba:Code:=bn ((ay (c96))[0]?)
noncomputable def pV:Code:=bn ((ay (aba))[0]?)
theorem Ox:ay (pV)=[]:=by kernel_rfl
abbrev eR:List bg:=[.slot 1 (.ptr 1),.slot 2 (.ptr 2),.slot 3 (.ptr 41),.slot 4 (.k (0:Int)),.slot 5 (.pc Dx),.agg 12 xT,.slot 13 (.pc tI),.slot 20 (.pc tI),.box 1 [.pc tI,.pc fM,.pc (.sl T2),.pc fq,.pc tI,.pc tI,.pc tI,.pc tI,.pc tI,.pc Hs],.box 2 [.own 1003000 3 T0,.own 1003001 3 T0]]
abbrev fG:List bg:=[.slot 21 (.pc tI),.box 41 [.own 1042000 3 T0,.own 1042001 3 T0]]
abbrev lI:List bg:=[.slot 1 (.ptr 1),.slot 2 (.ptr 2),.slot 3 (.ptr 41),.slot 4 (.k (0:Int)),.slot 5 (.pc Dx),.agg 12 xT,.slot 13 (.pc tI),.slot 20 (.pc tI),.box 1 [.pc tI,.pc fM,.pc (.sl T2),.pc fq,.pc tI,.pc tI,.pc tI,.pc tI,.pc tI,.pc Hs],.box 2 [.own 1003000 3 T0,.own 1003001 3 T0],.slot 21 (.pc tI),.box 41 [.own 1042000 3 T0,.own 1042001 3 T0]]
def sR:(ZD eR)->(ZD fG)->(ZD lI):=fun c v=>(c.1,(c.2.1,(c.2.2.1,(c.2.2.2.1,(c.2.2.2.2.1,(c.2.2.2.2.2.1,(c.2.2.2.2.2.2.1,(c.2.2.2.2.2.2.2.1,(c.2.2.2.2.2.2.2.2.1,(c.2.2.2.2.2.2.2.2.2.1,v))))))))))
def pW:(ZD lI)->(ZD eR)×(ZD fG):=fun x=>((x.1,(x.2.1,(x.2.2.1,(x.2.2.2.1,(x.2.2.2.2.1,(x.2.2.2.2.2.1,(x.2.2.2.2.2.2.1,(x.2.2.2.2.2.2.2.1,(x.2.2.2.2.2.2.2.2.1,(x.2.2.2.2.2.2.2.2.2.1,())))))))))),x.2.2.2.2.2.2.2.2.2.2)
abbrev gm:bk:=⟨[(2,[.slot 1 (.ptr 1),.slot 2 (.ptr 2),.slot 3 (.ptr 41),.agg 12 xT,.slot 13 (.pc tI),.box 1 [.pc tI,.pc fM,.pc (.sl T2),.pc fq,.pc tI,.pc tI,.pc tI,.pc tI,.pc tI,.pc Hs],.box 2 [.own 1003000 3 T0,.own 1003001 3 T0],.box 41 [.own 1042000 3 T0,.own 1042001 3 T0]])],[],[]⟩
abbrev jg:bk:=⟨[(2,[.box 41 [.own 1042000 3 T0,.own 1042001 3 T0]])],[],[]⟩
def uW:(id:Nat)->(ZD eR)->(ZD (ct jg id))->(ZD (ct gm id)):=fun id=>match id with | 2=>fun c y=>(c.1,(c.2.1,(c.2.2.1,(c.2.2.2.2.2.1,(c.2.2.2.2.2.2.1,(c.2.2.2.2.2.2.2.2.1,(c.2.2.2.2.2.2.2.2.2.1,y))))))) | id=>fun _ _=>(aa (ct gm id)).dflt
def uX:(ZD eR)->(aa (jg).ret).den->(aa (gm).ret).den:=fun c y=>y
def uY:(ZD eR)->(aa (jg).bP).den->(aa (gm).bP).den:=fun c y=>y
def yc {α:Type} (l:RQ fG jg->α) (an:α->α->α) (c:ZD eR) (v:ZD fG):α:=bif (decide (v.1 < c.2.2.2.2.2.2.2.1)) then bif (c.2.2.2.2.1 (v.1,())).1 then bif (decide (((v.2.1.1.n + 1) * 8)<=140737488355328)) then l (.next ((W (v.1 + (1:Int))),(((cj v.2.1.1 (⟨1,fun i=>List.getD [(c.2.2.2.2.1 (v.1,())).2] i (c.2.2.2.2.1 (v.1,())).2⟩:Sl (Ty.den T0))),v.2.1.2),()))) else l .bad else l .bad else l (.out (.exit 2 (v.2.1,())))
theorem UO (c:ZD eR) (v:ZD fG):cG Tryz.prog E0 G96 0 38 [] lI gm pV [] (sR c v)=yc (fun r=>.leaf (r.lift sR uW uX uY c)) .any c v:=by kernel_rfl
def yd (c:ZD eR) (v:ZD fG):RQ fG jg:=yc (fun r=>r) (fun _ _=>.bad) c v
theorem UP (c:ZD eR) (v:ZD fG):bE (cG Tryz.prog E0 G96 0 38 [] lI gm pV [] (sR c v))=(yd c v).lift sR uW uX uY c:=by rw [UO]; unfold yd yc; simp only [bE,bq,dqs]
def Er (c:ZD eR) (v:ZD fG):LQ jg:=bB (yd c) dw v
theorem Oy:ay (pV)=[]:=by kernel_rfl
abbrev eS:List bg:=[.slot 1 (.ptr 1),.slot 2 (.ptr 2),.slot 3 (.ptr 41),.slot 4 (.k (1:Int)),.slot 5 (.pc Dx),.agg 12 xT,.slot 13 (.pc tI),.slot 20 (.pc tI),.box 1 [.pc tI,.pc fM,.pc (.sl T2),.pc fq,.pc tI,.pc tI,.pc tI,.pc tI,.pc tI,.pc Hs],.box 2 [.own 1003000 3 T0,.own 1003001 3 T0]]
abbrev fH:List bg:=[.slot 21 (.pc tI),.box 41 [.own 1042000 3 T0,.own 1042001 3 T0]]
abbrev lJ:List bg:=[.slot 1 (.ptr 1),.slot 2 (.ptr 2),.slot 3 (.ptr 41),.slot 4 (.k (1:Int)),.slot 5 (.pc Dx),.agg 12 xT,.slot 13 (.pc tI),.slot 20 (.pc tI),.box 1 [.pc tI,.pc fM,.pc (.sl T2),.pc fq,.pc tI,.pc tI,.pc tI,.pc tI,.pc tI,.pc Hs],.box 2 [.own 1003000 3 T0,.own 1003001 3 T0],.slot 21 (.pc tI),.box 41 [.own 1042000 3 T0,.own 1042001 3 T0]]
def sS:(ZD eS)->(ZD fH)->(ZD lJ):=fun c v=>(c.1,(c.2.1,(c.2.2.1,(c.2.2.2.1,(c.2.2.2.2.1,(c.2.2.2.2.2.1,(c.2.2.2.2.2.2.1,(c.2.2.2.2.2.2.2.1,(c.2.2.2.2.2.2.2.2.1,(c.2.2.2.2.2.2.2.2.2.1,v))))))))))
def pX:(ZD lJ)->(ZD eS)×(ZD fH):=fun x=>((x.1,(x.2.1,(x.2.2.1,(x.2.2.2.1,(x.2.2.2.2.1,(x.2.2.2.2.2.1,(x.2.2.2.2.2.2.1,(x.2.2.2.2.2.2.2.1,(x.2.2.2.2.2.2.2.2.1,(x.2.2.2.2.2.2.2.2.2.1,())))))))))),x.2.2.2.2.2.2.2.2.2.2)
abbrev gn:bk:=⟨[(2,[.slot 1 (.ptr 1),.slot 2 (.ptr 2),.slot 3 (.ptr 41),.agg 12 xT,.slot 13 (.pc tI),.box 1 [.pc tI,.pc fM,.pc (.sl T2),.pc fq,.pc tI,.pc tI,.pc tI,.pc tI,.pc tI,.pc Hs],.box 2 [.own 1003000 3 T0,.own 1003001 3 T0],.box 41 [.own 1042000 3 T0,.own 1042001 3 T0]])],[],[]⟩
abbrev jh:bk:=⟨[(2,[.box 41 [.own 1042000 3 T0,.own 1042001 3 T0]])],[],[]⟩
def uZ:(id:Nat)->(ZD eS)->(ZD (ct jh id))->(ZD (ct gn id)):=fun id=>match id with | 2=>fun c y=>(c.1,(c.2.1,(c.2.2.1,(c.2.2.2.2.2.1,(c.2.2.2.2.2.2.1,(c.2.2.2.2.2.2.2.2.1,(c.2.2.2.2.2.2.2.2.2.1,y))))))) | id=>fun _ _=>(aa (ct gn id)).dflt
def va:(ZD eS)->(aa (jh).ret).den->(aa (gn).ret).den:=fun c y=>y
def vb:(ZD eS)->(aa (jh).bP).den->(aa (gn).bP).den:=fun c y=>y
def ye {α:Type} (l:RQ fH jh->α) (an:α->α->α) (c:ZD eS) (v:ZD fH):α:=bif (decide (v.1 < c.2.2.2.2.2.2.2.1)) then bif (c.2.2.2.2.1 (v.1,())).1 then bif (decide (((v.2.1.2.1.n + 1) * 8)<=140737488355328)) then l (.next ((W (v.1 + (1:Int))),((v.2.1.1,((cj v.2.1.2.1 (⟨1,fun i=>List.getD [(c.2.2.2.2.1 (v.1,())).2] i (c.2.2.2.2.1 (v.1,())).2⟩:Sl (Ty.den T0))),())),()))) else l .bad else l .bad else l (.out (.exit 2 (v.2.1,())))
theorem UQ (c:ZD eS) (v:ZD fH):cG Tryz.prog E0 G96 0 38 [] lJ gn pV [] (sS c v)=ye (fun r=>.leaf (r.lift sS uZ va vb c)) .any c v:=by kernel_rfl
def yf (c:ZD eS) (v:ZD fH):RQ fH jh:=ye (fun r=>r) (fun _ _=>.bad) c v
theorem UR (c:ZD eS) (v:ZD fH):bE (cG Tryz.prog E0 G96 0 38 [] lJ gn pV [] (sS c v))=(yf c v).lift sS uZ va vb c:=by rw [UQ]; unfold yf ye; simp only [bE,bq,dqs]
def Es (c:ZD eS) (v:ZD fH):LQ jh:=bB (yf c) dw v
theorem arW:ay (aba)=[.loop pV]:=by kernel_rfl
theorem aR9:ay (c96)=[.loop aba]:=by kernel_rfl
noncomputable def l96:List Loop:=[.ia 3 [.known (Tk 4 (0:Int) (fm 0 [] lI fun x=>cD gm uW uX uY [] false (pW x).1 (Er (pW x).1 (pW x).2) gm.dY) (fm 0 [] lJ fun x=>cD gn uZ va vb [] false (pX x).1 (Es (pX x).1 (pX x).2) gn.dY))]]
def Q96 {α:Type} (l:Option (r96).den->α) (an:α->α->α) (x:(a96).den):α:=bp (Er ((),((),((),((),((fun y1=>((aha (x.1,y1)),(ahb (x.1,y1)))),(((fun y1=>((aha (x.1,y1)),(ahb (x.1,y1)))),((fun y1=>((ahe (x.1,y1)),(ahf (x.1,y1)))),())),((0:Int),(((x.1.2.1.n:Nat):Int),(x.1,(((⟨0,fun i=>((0:Int),())⟩:Sl _),((⟨0,fun i=>((0:Int),())⟩:Sl _),())),())))))))))) ((0:Int),(((⟨0,fun i=>((0:Int),())⟩:Sl _),((⟨0,fun i=>((0:Int),())⟩:Sl _),())),()))) 2 (fun u0=>bp (Es ((),((),((),((),((fun y1=>((ahe (x.1,y1)),(ahf (x.1,y1)))),(((fun y1=>((aha (x.1,y1)),(ahb (x.1,y1)))),((fun y1=>((ahe (x.1,y1)),(ahf (x.1,y1)))),())),((1:Int),(((x.1.2.1.n:Nat):Int),(x.1,(((⟨0,fun i=>((0:Int),())⟩:Sl _),((⟨0,fun i=>((0:Int),())⟩:Sl _),())),())))))))))) ((0:Int),(u0.1,()))) 2 (fun u1=>l (some (u1.1,()))) (l none)) (l none)
theorem q96:QO G96 Tryz.f96 l96 a96 r96 Q96:=fun _=>by kernel_rfl
def M96 (x:(a96).den):Option (r96).den:=Q96 (fun r=>r) (fun _ _=>none) x
theorem m96:MOz G96 Tryz.f96 l96 M96:=fun x=>by rw [q96]; unfold M96 Q96; simp only [Tree.sure,sus]
def p96:=pO M96
def v96:=vO (τ:=r96) M96
def k96:Con:=⟨a96,r96,p96,v96⟩
theorem h96:aQ Tryz.prog 96 k96:=hO arT g96 m96 fun G' hlo hF hE=>aP (by rw [aR9]; exact .WH (aP (by rw [arW]; exact .cons ((Je (fK hE hF hlo (aP (by rw [Ox]; exact .nil)) (by kernel_rfl) (by kernel_rfl) pW (fun _=>rfl) (fun _ _=>rfl) (UP) dw) (fK hE hF hlo (aP (by rw [Oy]; exact .nil)) (by kernel_rfl) (by kernel_rfl) pX (fun _=>rfl) (fun _ _=>rfl) (UR) dw))) (.nil))) (.nil))
noncomputable def c31:=bW Tryz.f31
theorem aA1:bV 31 Tryz.f31 c31:=bX
abbrev a31:Ty:=UE
abbrev r31:Ty:=T2
noncomputable def G31:Ctx:=Ctx.of [(93,.pure k93),(94,.pure k94),(96,.pure k96),(97,.pure k97)]
theorem g31:SP G31:=aB (fa ⟨⟨agS.c,h93⟩,fa ⟨⟨agZ.c,h94⟩,fa ⟨⟨arT.c,h96⟩,fa ⟨⟨arN.c,h97⟩,f0⟩⟩⟩⟩)
def Q31 {α:Type} (l:Option (r31).den->α) (an:α->α->α) (x:(a31).den):α:=cl (r93).dflt (M93 (x.1,())) (fun u0=>bif (!u0.1) then l (some ((0:Int),((0:Int),((2:Int),())))) else cl (r94).dflt (M94 (x.1,())) (fun u1=>cl (r96).dflt (M96 (u1.1,())) (fun u2=>cl (r97).dflt (M97 (u1.1,(u2.1.1,()))) (fun u3=>bif (!u3.2.1) then l (some ((0:Int),((0:Int),((5:Int),())))) else cl (r97).dflt (M97 (u1.1,u2.1.2)) (fun u4=>bif (!u4.2.1) then l (some (u3.1,((-1:Int),((0:Int),())))) else l (some (u3.1,(u4.1,((0:Int),()))))) (l none)) (l none)) (l none)) (l none)) (l none)
theorem q31:QO G31 Tryz.f31 [] a31 r31 Q31:=fun _=>by kernel_rfl
def M31 (x:(a31).den):Option (r31).den:=Q31 (fun r=>r) (fun _ _=>none) x
theorem m31:MOz G31 Tryz.f31 [] M31:=fun x=>by rw [q31]; unfold M31 Q31; simp only [Tree.sure,sus]
def p31:=pO M31
def v31:=vO (τ:=r31) M31
def k31:Con:=⟨a31,r31,p31,v31⟩
theorem h31:aQ Tryz.prog 31 k31:=hO aA1 g31 m31 l0
noncomputable def c99:=bW Tryz.f99
theorem aA3:bV 99 Tryz.f99 c99:=bX
abbrev aA4:Ty:=(.cons .bool T3)
abbrev a99:Ty:=aA4
abbrev r99:Ty:=T0
noncomputable def G99:Ctx:=Ctx.of []
theorem g99:SP G99:=aB f0
def Q99 {α:Type} (l:Option (r99).den->α) (an:α->α->α) (x:(a99).den):α:=bif x.1 then bif x.2.1 then l (some ((3:Int),())) else l (some ((2:Int),())) else bif x.2.1 then l (some ((3:Int),())) else l (some ((1:Int),()))
theorem q99:QO G99 Tryz.f99 [] a99 r99 Q99:=fun _=>by kernel_rfl
def M99 (x:(a99).den):Option (r99).den:=Q99 (fun r=>r) (fun _ _=>none) x
theorem m99:MOz G99 Tryz.f99 [] M99:=fun x=>by rw [q99]; unfold M99 Q99; simp only [Tree.sure,sus]
def p99:=pO M99
def v99:=vO (τ:=r99) M99
def k99:Con:=⟨a99,r99,p99,v99⟩
theorem h99:aQ Tryz.prog 99 k99:=hO aA3 g99 m99 l0
noncomputable def arX:=bW Tryz.f154
theorem akH:bV 154 Tryz.f154 arX:=bX
abbrev aSg:Ty:=(.cons tI axq)
abbrev aSh:Ty:=(.cons tI aSg)
abbrev ahg:Ty:=aSh
abbrev Oz:Ty:=T34
noncomputable def abb:Ctx:=Ctx.of []
theorem aSi:SP abb:=aB f0
noncomputable def HE:Code:=bn ((ay (arX))[0]?)
theorem ahh:ay (HE)=[]:=by kernel_rfl
abbrev pY:List bg:=[.slot 0 (.pc tI),.slot 2 (.pc anM),.slot 12 (.pc tI)]
abbrev mK:List bg:=[.slot 13 (.pc tI)]
abbrev Rv:List bg:=pY ++ mK
def abc:ZJ pY mK Rv:=ZA _ _
def Rw:ZS pY mK Rv:=ZP _ _
abbrev ahi:bk:=⟨[(0,[])],[.slot 6 (.pc tI),.slot 7 (.pc .bool)],[]⟩
abbrev Ax:bk:=⟨[(0,[])],[.slot 6 (.pc tI),.slot 7 (.pc .bool)],[]⟩
def HF:ZE pY Ax ahi:=fun id=>match id with | 0=>fun c y=>y | _=>gC
def OA {α:Type} (l:RQ mK Ax->α) (an:α->α->α) (c:ZD pY) (v:ZD mK):α:=bif (decide (v.1 < c.2.2.1)) then bif (c.2.1 ((W (c.1 + v.1)),())).1 then bif (c.2.1 ((W (c.1 + v.1)),())).2.1 then l (.out (.ret ((W (c.1 + v.1)),(true,())))) else l (.next ((W (v.1 + (1:Int))),())) else l .bad else l (.out (.exit 0 ()))
theorem arY:ZO abb 0 25 HE [] abc HF ZI ZI OA:=fun _ _=>by kernel_rfl
def OB (c:ZD pY) (v:ZD mK):RQ mK Ax:=OA (fun r=>r) (fun _ _=>.bad) c v
theorem arZ:SO abb 0 25 HE [] abc HF ZI ZI OB:=fun c v=>by rw [arY]; unfold OB OA; simp only [bE,bq,dqs]
def OC (c:ZD pY) (v:ZD mK):LQ Ax:=bB (OB c) dw v
theorem aA6:ay (arX)=[.loop HE]:=by kernel_rfl
noncomputable def aA7:List Loop:=[lk 0 HF ZI ZI true Rw OC]
def ar0 {α:Type} (l:Option (Oz).den->α) (an:α->α->α) (x:(ahg).den):α:=bp (OC (x.1,(x.2.2.1,((W ((W (x.2.1 - x.1)) + (1:Int))),()))) ((0:Int),())) 0 (fun u0=>l (some ((0:Int),(false,())))) (bK (OC (x.1,(x.2.2.1,((W ((W (x.2.1 - x.1)) + (1:Int))),()))) ((0:Int),())) (fun u1=>l (some u1)) (l none))
theorem aSj:QO abb Tryz.f154 aA7 ahg Oz ar0:=fun _=>by kernel_rfl
def US (x:(ahg).den):Option (Oz).den:=ar0 (fun r=>r) (fun _ _=>none) x
theorem aSk:MOz abb Tryz.f154 aA7 US:=fun x=>by rw [aSj]; unfold US ar0; simp only [Tree.sure,sus]
def aSl:=pO US
def aSm:=vO (τ:=Oz) US
def aA8:Con:=⟨ahg,Oz,aSl,aSm⟩
theorem aSn:aQ Tryz.prog 154 aA8:=hO akH aSi aSk fun G' hlo hF hE=>aP (by rw [aA6]; exact .cons (lv hE hF hlo (ln ahh) Rw arZ) (.nil))
noncomputable def ahj:=bW Tryz.f156
theorem Rx:bV 156 Tryz.f156 ahj:=bX
abbrev aSo:Ty:=(.cons UI zC)
abbrev ahk:Ty:=aSo
abbrev OD:Ty:=T3
noncomputable def abd:Ctx:=Ctx.of [(95,.iter i95),(184,.pure arH)]
theorem aSp:SP abd:=aB (fa ⟨⟨aaY.c,h95⟩,fa ⟨⟨aa5.c,aAT⟩,f0⟩⟩)
noncomputable def HG:Code:=kK ((ay (ahj))[0]?)
noncomputable def HH:Code:=sH ((ay (ahj))[0]?)
abbrev iI:List bg:=[.slot 3 (.ptr 3),.slot 4 (.ptr 4),.slot 5 (.ptr 5),.slot 6 (.ptr 6),.box 3 [.pc tI,.pc fM,.pc (.sl T2),.pc fq,.pc tI,.pc tI,.pc tI,.pc tI,.pc tI,.pc Hs],.box 4 [.pc (.sl T0)],.box 5 [.pc tI],.box 6 [.pc .bool]]
theorem ahl:ay (HG)=[]:=by kernel_rfl
def OE {α:Type} (l:RO iI->α) (an:α->α->α) (x:ZD iI) (it:Ty.den lz):α:=cl (Ot).dflt (UL (x.2.2.2.2.1,(it.1,x.2.2.2.2.2.1))) (fun u0=>bif (decide (u0.1<=x.2.2.2.2.2.2.1.1)) then bif (decide (x.2.2.2.2.2.2.1.1 < u0.2.1)) then l (.ret ((),((),((),((),(x.2.2.2.2.1,(x.2.2.2.2.2.1,(x.2.2.2.2.2.2.1,((true,()),()))))))))) else l (.next ((),((),((),((),(x.2.2.2.2.1,(x.2.2.2.2.2.1,(x.2.2.2.2.2.2.1,(x.2.2.2.2.2.2.2.1,()))))))))) else l (.next ((),((),((),((),(x.2.2.2.2.1,(x.2.2.2.2.2.1,(x.2.2.2.2.2.2.1,(x.2.2.2.2.2.2.2.1,())))))))))) (l .bad)
theorem ar1 (x:ZD iI) (it:Ty.den lz):gE Tryz.prog E0 abd 0 500000 28 [12] HH HG [] [] lz iI x it=OE .leaf .any x it:=by kernel_rfl
def OF (x:ZD iI) (it:Ty.den lz):RO iI:=OE (fun r=>r) (fun _ _=>.bad) x it
theorem ar2 (x:ZD iI) (it:Ty.den lz):(gE Tryz.prog E0 abd 0 500000 28 [12] HH HG [] [] lz iI x it).cT .bad=OF x it:=by rw [ar1]; unfold OF OE; simp only [ew,Tree.cT,gH,cZ,dK,de,dg,dL,dh,dM,ez,dm]
def OG (x:ZD iI) (l:List (Ty.den lz)):RO iI:=cJ OF x l
theorem aA9:ay (ahj)=[.rangeFunc (.tmp 11) #[12] HH HG]:=by kernel_rfl
noncomputable def aBa:List Loop:=[.known (ow 0 [] 11 lz iI [] [] (fun x l=>OG x l))]
def ar3 {α:Type} (l:Option (OD).den->α) (an:α->α->α) (x:(ahk).den):α:=bif (ag2 (x.1,()) ()) then eo (OG ((),((),((),((),(x.1,((x.2.1,()),(x.2.2,((false,()),())))))))) (Sl.list (Oo (x.1,()) ()))) (fun u1=>l (some (false,()))) (eM (OG ((),((),((),((),(x.1,((x.2.1,()),(x.2.2,((false,()),())))))))) (Sl.list (Oo (x.1,()) ()))) (fun u2=>l (some u2.2.2.2.2.2.2.2.1)) (l none)) else l none
theorem aSq:QO abd Tryz.f156 aBa ahk OD ar3:=fun _=>by kernel_rfl
def UT (x:(ahk).den):Option (OD).den:=ar3 (fun r=>r) (fun _ _=>none) x
theorem aSr:MOz abd Tryz.f156 aBa UT:=fun x=>by rw [aSq]; unfold UT ar3; simp only [Tree.sure,sus]
def aSs:=pO UT
def aSt:=vO (τ:=OD) UT
def ar4:Con:=⟨ahk,OD,aSs,aSt⟩
theorem aBb:aQ Tryz.prog 156 ar4:=hO Rx aSp aSr fun G' hlo hF hE=>aP (by rw [aA9]; exact .cons (kI hE hF hlo Rx.a (by kernel_rfl) (by kernel_rfl) (by kernel_rfl) (by kernel_rfl) (by kernel_rfl) (fun G' hlo hF l hE=>cO) (fun G' hlo hF l hE=>aP (by rw [ahl]; exact .nil)) ar2) (.nil))
noncomputable def aSu:=bW Tryz.f155
theorem akI:bV 155 Tryz.f155 aSu:=bX
abbrev aSv:Ty:=(.ptr aAN)
abbrev aSw:Ty:=(.ptr TT)
abbrev aSx:Ty:=(.cons aSw T40)
abbrev aSy:Ty:=(.cons aSv aSx)
abbrev aBc:Ty:=(.cons tI aSy)
abbrev ahm:Ty:=aBc
abbrev abe:Ty:=T3
noncomputable def ar5:Ctx:=Ctx.of [(156,.pure ar4)]
theorem aSz:SP ar5:=aB (fa ⟨⟨Rx.c,aBb⟩,f0⟩)
def ar6 {α:Type} (l:Option (abe).den->α) (an:α->α->α) (x:(ahm).den):α:=cl (OD).dflt (UT (x.2.1,(x.2.2.1.1,((W (x.2.2.2.1.1 - x.1)),())))) (fun u0=>l (some u0)) (l none)
theorem aSA:QO ar5 Tryz.f155 [] ahm abe ar6:=fun _=>by kernel_rfl
def ahn (x:(ahm).den):Option (abe).den:=ar6 (fun r=>r) (fun _ _=>none) x
theorem aSB:MOz ar5 Tryz.f155 [] ahn:=fun x=>by rw [aSA]; unfold ahn ar6; simp only [Tree.sure,sus]
def aBd:=pO ahn
def aBe:=vO (τ:=abe) ahn
def aBf:Con:=⟨ahm,abe,aBd,aBe⟩
theorem aSC:aQ Tryz.prog 155 aBf:=hO akI aSz aSB l0
noncomputable def aSD:=bW Tryz.f157
theorem akJ:bV 157 Tryz.f157 aSD:=bX
abbrev aho:Ty:=aBc
abbrev abf:Ty:=T3
noncomputable def ar7:Ctx:=Ctx.of [(156,.pure ar4)]
theorem aSE:SP ar7:=aB (fa ⟨⟨Rx.c,aBb⟩,f0⟩)
def ar8 {α:Type} (l:Option (abf).den->α) (an:α->α->α) (x:(aho).den):α:=cl (OD).dflt (UT (x.2.1,(x.2.2.1.2.1,((W (x.2.2.2.1.1 - x.1)),())))) (fun u0=>l (some ((!u0.1),()))) (l none)
theorem aSF:QO ar7 Tryz.f157 [] aho abf ar8:=fun _=>by kernel_rfl
def ahp (x:(aho).den):Option (abf).den:=ar8 (fun r=>r) (fun _ _=>none) x
theorem aSG:MOz ar7 Tryz.f157 [] ahp:=fun x=>by rw [aSF]; unfold ahp ar8; simp only [Tree.sure,sus]
def aBg:=pO ahp
def aBh:=vO (τ:=abf) ahp
def aBi:Con:=⟨aho,abf,aBg,aBh⟩
theorem aSH:aQ Tryz.prog 157 aBi:=hO akJ aSE aSG l0
noncomputable def aSI:=bW Tryz.f100
theorem akK:bV 100 Tryz.f100 aSI:=bX
abbrev aSJ:Ty:=(.cons UI T1)
abbrev ahq:Ty:=aSJ
abbrev UU:Ty:=aA4
noncomputable def ar9:Ctx:=Ctx.of [(96,.pure k96),(154,.pure aA8),(155,.pure aBf),(157,.pure aBi)]
theorem aSK:SP ar9:=aB (fa ⟨⟨arT.c,h96⟩,fa ⟨⟨akH.c,aSn⟩,fa ⟨⟨akI.c,aSC⟩,fa ⟨⟨akJ.c,aSH⟩,f0⟩⟩⟩⟩)
def asa {α:Type} (l:Option (UU).den->α) (an:α->α->α) (x:(ahq).den):α:=cl (r96).dflt (M96 (x.1,())) (fun u0=>bif (decide (((0:Int)<=x.2.1)/\(x.2.1 < ((x.1.2.2.2.1.n:Nat):Int)))) then cl (Oz).dflt (US ((x.1.2.2.2.1.g (Int.toNat x.2.1)).1,((x.1.2.2.2.1.g (Int.toNat x.2.1)).2.1,((fun y1=>((aBd (y1.1,(x.1,(u0.1,(x.2.2,()))))),(aBe (y1.1,(x.1,(u0.1,(x.2.2,()))))))),())))) (fun u1=>bif (!u1.2.1) then l (some (false,(false,()))) else cl (Oz).dflt (US ((x.1.2.2.2.1.g (Int.toNat x.2.1)).1,((x.1.2.2.2.1.g (Int.toNat x.2.1)).2.1,((fun y1=>((aBg (y1.1,(x.1,(u0.1,(x.2.2,()))))),(aBh (y1.1,(x.1,(u0.1,(x.2.2,()))))))),())))) (fun u2=>l (some (true,((!u2.2.1),())))) (l none)) (l none) else l none) (l none)
theorem aSL:QO ar9 Tryz.f100 [] ahq UU asa:=fun _=>by kernel_rfl
def abg (x:(ahq).den):Option (UU).den:=asa (fun r=>r) (fun _ _=>none) x
theorem aSM:MOz ar9 Tryz.f100 [] abg:=fun x=>by rw [aSL]; unfold abg asa; simp only [Tree.sure,sus]
def aSN:=pO abg
def aSO:=vO (τ:=UU) abg
def aBj:Con:=⟨ahq,UU,aSN,aSO⟩
theorem aSP:aQ Tryz.prog 100 aBj:=hO akK aSK aSM l0
noncomputable def c34:=bW Tryz.f34
theorem aBk:bV 34 Tryz.f34 c34:=bX
abbrev aSQ:Ty:=(.cons Ob T1)
abbrev a34:Ty:=aSQ
abbrev r34:Ty:=T1
noncomputable def G34:Ctx:=Ctx.of [(93,.pure k93),(94,.pure k94),(98,.pure k98),(99,.pure k99),(100,.pure aBj)]
theorem g34:SP G34:=aB (fa ⟨⟨agS.c,h93⟩,fa ⟨⟨agZ.c,h94⟩,fa ⟨⟨Ut.c,h98⟩,fa ⟨⟨aA3.c,h99⟩,fa ⟨⟨akK.c,aSP⟩,f0⟩⟩⟩⟩⟩)
def Q34 {α:Type} (l:Option (r34).den->α) (an:α->α->α) (x:(a34).den):α:=cl (r93).dflt (M93 (x.1,())) (fun u0=>bif (!u0.1) then l (some ((0:Int),((2:Int),()))) else cl (DA).dflt (Eo (x.2.1,((0:Int),((W (((x.1.2.2.2.1.n:Nat):Int) - (1:Int))),())))) (fun u1=>bif (!u1.1) then l (some ((0:Int),((2:Int),()))) else cl (DA).dflt (Eo (x.2.2.1,((0:Int),((20000:Int),())))) (fun u2=>bif (!u2.1) then l (some ((0:Int),((2:Int),()))) else cl (r94).dflt (M94 (x.1,())) (fun u3=>cl (UU).dflt (abg (u3.1,x.2)) (fun u4=>cl (r99).dflt (M99 u4) (fun u5=>l (some (u5.1,((0:Int),())))) (l none)) (l none)) (l none)) (l none)) (l none)) (l none)
theorem q34:QO G34 Tryz.f34 [] a34 r34 Q34:=fun _=>by kernel_rfl
def M34 (x:(a34).den):Option (r34).den:=Q34 (fun r=>r) (fun _ _=>none) x
theorem m34:MOz G34 Tryz.f34 [] M34:=fun x=>by rw [q34]; unfold M34 Q34; simp only [Tree.sure,sus]
def p34:=pO M34
def v34:=vO (τ:=r34) M34
def k34:Con:=⟨a34,r34,p34,v34⟩
theorem h34:aQ Tryz.prog 34 k34:=hO aBk g34 m34 l0
noncomputable def c30:=bW Tryz.f30
theorem ahr:bV 30 Tryz.f30 c30:=bX
abbrev a30:Ty:=UE
abbrev r30:Ty:=axJ
noncomputable def G30:Ctx:=Ctx.of [(93,.pure k93),(94,.pure k94),(95,.iter i95)]
theorem g30:SP G30:=aB (fa ⟨⟨agS.c,h93⟩,fa ⟨⟨agZ.c,h94⟩,fa ⟨⟨aaY.c,h95⟩,f0⟩⟩⟩)
noncomputable def Ry:Code:=kK ((ay (c30))[0]?)
noncomputable def OH:Code:=sH ((ay (c30))[0]?)
abbrev lK:List bg:=[.slot 4 (.ptr 40),.box 40 [.own 1041000 103 T1]]
theorem asd:ay (Ry)=[]:=by kernel_rfl
def abi {α:Type} (l:RO lK->α) (an:α->α->α) (x:ZD lK) (it:Ty.den lz):α:=bif (decide (((x.2.1.1.n + 1) * 16)<=140737488355328)) then l (.next ((),(((cj x.2.1.1 (⟨1,fun i=>List.getD [it.1] i it.1⟩:Sl (Ty.den T1))),()),()))) else l .bad
theorem aBm (x:ZD lK) (it:Ty.den lz):gE Tryz.prog E0 G30 0 500000 18 [12] OH Ry [] [] lz lK x it=abi .leaf .any x it:=by kernel_rfl
def abj (x:ZD lK) (it:Ty.den lz):RO lK:=abi (fun r=>r) (fun _ _=>.bad) x it
theorem aBn (x:ZD lK) (it:Ty.den lz):(gE Tryz.prog E0 G30 0 500000 18 [12] OH Ry [] [] lz lK x it).cT .bad=abj x it:=by rw [aBm]; unfold abj abi; simp only [ew,Tree.cT,gH,cZ,dK,de,dg,dL,dh,dM,ez,dm]
def abk (x:ZD lK) (l:List (Ty.den lz)):RO lK:=cJ abj x l
theorem aST:ay (c30)=[.rangeFunc (.tmp 11) #[12] OH Ry]:=by kernel_rfl
noncomputable def l30:List Loop:=[.known (ow 0 [] 11 lz lK [] [] (fun x l=>abk x l))]
def Q30 {α:Type} (l:Option (r30).den->α) (an:α->α->α) (x:(a30).den):α:=cl (r93).dflt (M93 (x.1,())) (fun u0=>bif (!u0.1) then l (some ((⟨0,fun i=>((0:Int),((0:Int),()))⟩:Sl _),((2:Int),()))) else cl (r94).dflt (M94 (x.1,())) (fun u1=>bif (ag2 (u1.1,()) ()) then eo (abk ((),(((⟨0,fun i=>((0:Int),((0:Int),()))⟩:Sl _),()),())) (Sl.list (Oo (u1.1,()) ()))) (fun u2=>l (some (u2.2.1.1,((0:Int),())))) (eM (abk ((),(((⟨0,fun i=>((0:Int),((0:Int),()))⟩:Sl _),()),())) (Sl.list (Oo (u1.1,()) ()))) (fun u3=>l none) (l none)) else l none) (l none)) (l none)
theorem q30:QO G30 Tryz.f30 l30 a30 r30 Q30:=fun _=>by kernel_rfl
def M30 (x:(a30).den):Option (r30).den:=Q30 (fun r=>r) (fun _ _=>none) x
theorem m30:MOz G30 Tryz.f30 l30 M30:=fun x=>by rw [q30]; unfold M30 Q30; simp only [Tree.sure,sus]
def p30:=pO M30
def v30:=vO (τ:=r30) M30
def k30:Con:=⟨a30,r30,p30,v30⟩
theorem h30:aQ Tryz.prog 30 k30:=hO ahr g30 m30 fun G' hlo hF hE=>aP (by rw [aST]; exact .cons (kI hE hF hlo ahr.a (by kernel_rfl) (by kernel_rfl) (by kernel_rfl) (by kernel_rfl) (by kernel_rfl) (fun G' hlo hF l hE=>cO) (fun G' hlo hF l hE=>aP (by rw [asd]; exact .nil)) aBn) (.nil))
noncomputable def aSW:=bW Tryz.f103
theorem akL:bV 103 Tryz.f103 aSW:=bX
abbrev ahs:Ty:=T1
abbrev DD:Ty:=lz
noncomputable def asf:Ctx:=Ctx.of []
theorem aSX:SP asf:=aB f0
def asg {α:Type} (l:Option (DD).den->α) (an:α->α->α) (x:(ahs).den):α:=l (some (x,()))
theorem aSY:QO asf Tryz.f103 [] ahs DD asg:=fun _=>by kernel_rfl
def HI (x:(ahs).den):Option (DD).den:=asg (fun r=>r) (fun _ _=>none) x
theorem aSZ:MOz asf Tryz.f103 [] HI:=fun x=>by rw [aSY]; unfold HI asg; simp only [Tree.sure,sus]
def aS0:=pO HI
def aS1:=vO (τ:=DD) HI
def aBo:Con:=⟨ahs,DD,aS0,aS1⟩
theorem aS2:aQ Tryz.prog 103 aBo:=hO akL aSX aSZ l0
noncomputable def c40:=bW Tryz.f40
theorem aBp:bV 40 Tryz.f40 c40:=bX
abbrev a40:Ty:=.nil
abbrev r40:Ty:=UE
noncomputable def G40:Ctx:=Ctx.of [(103,.pure aBo)]
theorem g40:SP G40:=aB (fa ⟨⟨akL.c,aS2⟩,f0⟩)
def Q40 {α:Type} (l:Option (r40).den->α) (an:α->α->α) (x:(a40).den):α:=cl (DD).dflt (HI ((15:Int),((45:Int),()))) (fun u0=>cl (DD).dflt (HI ((20:Int),((60:Int),()))) (fun u1=>cl (DD).dflt (HI ((30:Int),((90:Int),()))) (fun u2=>cl (DD).dflt (HI ((40:Int),((200:Int),()))) (fun u3=>cl (DD).dflt (HI ((10:Int),((50:Int),()))) (fun u4=>l (some (((2:Int),((⟨4,fun i=>List.getD [((0:Int),((480:Int),((75500:Int),(u1.1.1,(u1.1.2.1,((10:Int),((5:Int),()))))))),((0:Int),((780:Int),((75250:Int),(u2.1.1,(u2.1.2.1,((15:Int),((6:Int),()))))))),((1:Int),((760:Int),((74980:Int),(u3.1.1,(u3.1.2.1,((20:Int),((9:Int),()))))))),((0:Int),((840:Int),((75150:Int),(u4.1.1,(u4.1.2.1,((10:Int),((4:Int),())))))))] i ((0:Int),((480:Int),((75500:Int),(u1.1.1,(u1.1.2.1,((10:Int),((5:Int),())))))))⟩:Sl _),((⟨1,fun i=>List.getD [((0:Int),((1:Int),((500:Int),())))] i ((0:Int),((1:Int),((500:Int),())))⟩:Sl _),((⟨1,fun i=>List.getD [(u0.1.1,(u0.1.2.1,((8000:Int),((3000:Int),()))))] i (u0.1.1,(u0.1.2.1,((8000:Int),((3000:Int),()))))⟩:Sl _),((300:Int),((360:Int),((600:Int),((360:Int),((1080:Int),()))))))))),()))) (l none)) (l none)) (l none)) (l none)) (l none)
theorem q40:QO G40 Tryz.f40 [] a40 r40 Q40:=fun _=>by kernel_rfl
def M40 (x:(a40).den):Option (r40).den:=Q40 (fun r=>r) (fun _ _=>none) x
theorem m40:MOz G40 Tryz.f40 [] M40:=fun x=>by rw [q40]; unfold M40 Q40; simp only [Tree.sure,sus]
def p40:=pO M40
def v40:=vO (τ:=r40) M40
def k40:Con:=⟨a40,r40,p40,v40⟩
theorem h40:aQ Tryz.prog 40 k40:=hO aBp g40 m40 l0
noncomputable def c90:=bW Tryz.f90
theorem abl:bV 90 Tryz.f90 c90:=bX
abbrev a90:Ty:=T2
abbrev HJ:Ty:=T3
noncomputable def G90:Ctx:=Ctx.of []
theorem g90:SP G90:=aB f0
def Q90 {α:Type} (l:Option (HJ).den->α) (an:α->α->α) (x:(a90).den):α:=bif (decide (x.2.1<=x.1)) then l (some ((decide (x.1<=x.2.2.1)),())) else l (some (false,()))
theorem q90:QO G90 Tryz.f90 [] a90 HJ Q90:=fun _=>by kernel_rfl
def Ig (x:(a90).den):Option (HJ).den:=Q90 (fun r=>r) (fun _ _=>none) x
theorem m90:MOz G90 Tryz.f90 [] Ig:=fun x=>by rw [q90]; unfold Ig Q90; simp only [Tree.sure,sus]
def p90:=pO Ig
def v90:=vO (τ:=HJ) Ig
def k90:Con:=⟨a90,HJ,p90,v90⟩
theorem h90:aQ Tryz.prog 90 k90:=hO abl g90 m90 l0
noncomputable def c89:=bW Tryz.f89
theorem aBr:bV 89 Tryz.f89 c89:=bX
abbrev aBs:Ty:=(.cons Ob T0)
abbrev a89:Ty:=aBs
abbrev r89:Ty:=T3
noncomputable def G89:Ctx:=Ctx.of [(90,.pure k90)]
theorem g89:SP G89:=aB (fa ⟨⟨abl.c,h90⟩,f0⟩)
def Q89 {α:Type} (l:Option (r89).den->α) (an:α->α->α) (x:(a89).den):α:=cl (HJ).dflt (Ig (x.2.1,((0:Int),((W (x.1.1 - (1:Int))),())))) (fun u0=>l (some u0)) (l none)
theorem q89:QO G89 Tryz.f89 [] a89 r89 Q89:=fun _=>by kernel_rfl
def M89 (x:(a89).den):Option (r89).den:=Q89 (fun r=>r) (fun _ _=>none) x
theorem m89:MOz G89 Tryz.f89 [] M89:=fun x=>by rw [q89]; unfold M89 Q89; simp only [Tree.sure,sus]
def p89:=pO M89
def v89:=vO (τ:=r89) M89
def k89:Con:=⟨a89,r89,p89,v89⟩
theorem h89:aQ Tryz.prog 89 k89:=hO aBr g89 m89 l0
noncomputable def c91:=bW Tryz.f91
theorem aBt:bV 91 Tryz.f91 c91:=bX
abbrev a91:Ty:=T84
abbrev r91:Ty:=T3
noncomputable def G91:Ctx:=Ctx.of []
theorem g91:SP G91:=aB f0
def Q91 {α:Type} (l:Option (r91).den->α) (an:α->α->α) (x:(a91).den):α:=bif (decide ((0:Int)<=x.1.1)) then bif (decide (x.1.1<=x.1.2.1)) then l (some ((decide (x.1.2.1<=x.2.1)),())) else l (some (false,())) else l (some (false,()))
theorem q91:QO G91 Tryz.f91 [] a91 r91 Q91:=fun _=>by kernel_rfl
def M91 (x:(a91).den):Option (r91).den:=Q91 (fun r=>r) (fun _ _=>none) x
theorem m91:MOz G91 Tryz.f91 [] M91:=fun x=>by rw [q91]; unfold M91 Q91; simp only [Tree.sure,sus]
def p91:=pO M91
def v91:=vO (τ:=r91) M91
def k91:Con:=⟨a91,r91,p91,v91⟩
theorem h91:aQ Tryz.prog 91 k91:=hO aBt g91 m91 l0
noncomputable def c27:=bW Tryz.f27
theorem aBv:bV 27 Tryz.f27 c27:=bX
abbrev a27:Ty:=UE
abbrev r27:Ty:=T3
noncomputable def G27:Ctx:=Ctx.of [(89,.pure k89),(90,.pure k90),(91,.pure k91)]
theorem g27:SP G27:=aB (fa ⟨⟨aBr.c,h89⟩,fa ⟨⟨abl.c,h90⟩,fa ⟨⟨aBt.c,h91⟩,f0⟩⟩⟩)
noncomputable def Rz:Code:=bn ((ay (c27))[0]?)
theorem asl:ay (Rz)=[]:=by kernel_rfl
abbrev vc:List bg:=[.slot 1 (.ptr 1),.box 1 [.pc tI,.pc fM,.pc (.sl T2),.pc fq,.pc tI,.pc tI,.pc tI,.pc tI,.pc tI]]
abbrev rP:List bg:=[.slot 3 (.pc tI)]
abbrev abm:List bg:=vc ++ rP
def akN:ZJ vc rP abm:=ZA _ _
def abn:ZS vc rP abm:=ZP _ _
abbrev asm:bk:=⟨[(0,[.slot 1 (.ptr 1),.box 1 [.pc tI,.pc fM,.pc (.sl T2),.pc fq,.pc tI,.pc tI,.pc tI,.pc tI,.pc tI]])],[.slot 2 (.pc .bool)],[]⟩
abbrev HK:bk:=⟨[(0,[])],[.slot 2 (.pc .bool)],[]⟩
def OJ:ZE vc HK asm:=fun id=>match id with | 0=>fun c y=>(c.1,(c.2.1,y)) | _=>gC
def abo {α:Type} (l:RQ rP HK->α) (an:α->α->α) (c:ZD vc) (v:ZD rP):α:=bif (decide (v.1 < ((c.2.1.2.1.n:Nat):Int))) then bif (decide (((0:Int)<=v.1)/\(v.1 < ((c.2.1.2.1.n:Nat):Int)))) then cl (r89).dflt (M89 (c.2.1,((c.2.1.2.1.g (Int.toNat v.1)).1,()))) (fun u0=>bif (!u0.1) then l (.out (.ret (false,()))) else cl (HJ).dflt (Ig ((c.2.1.2.1.g (Int.toNat v.1)).2.1,((0:Int),((10080:Int),())))) (fun u1=>bif (!u1.1) then l (.out (.ret (false,()))) else cl (HJ).dflt (Ig ((c.2.1.2.1.g (Int.toNat v.1)).2.2.1,((0:Int),((99999:Int),())))) (fun u2=>bif (!u2.1) then l (.out (.ret (false,()))) else cl (r91).dflt (M91 (((c.2.1.2.1.g (Int.toNat v.1)).2.2.2.1,((c.2.1.2.1.g (Int.toNat v.1)).2.2.2.2.1,())),((2880:Int),()))) (fun u3=>bif (!u3.1) then l (.out (.ret (false,()))) else cl (HJ).dflt (Ig ((c.2.1.2.1.g (Int.toNat v.1)).2.2.2.2.2.1,((0:Int),((2880:Int),())))) (fun u4=>bif (!u4.1) then l (.out (.ret (false,()))) else cl (HJ).dflt (Ig ((c.2.1.2.1.g (Int.toNat v.1)).2.2.2.2.2.2.1,((0:Int),((10000:Int),())))) (fun u5=>bif (!u5.1) then l (.out (.ret (false,()))) else l (.next ((W (v.1 + (1:Int))),()))) (l .bad)) (l .bad)) (l .bad)) (l .bad)) (l .bad)) (l .bad) else l .bad else l (.out (.exit 0 ()))
theorem aBw:ZO G27 0 184 Rz [] akN OJ ZI ZI abo:=fun _ _=>by kernel_rfl
def abp (c:ZD vc) (v:ZD rP):RQ rP HK:=abo (fun r=>r) (fun _ _=>.bad) c v
theorem aBx:SO G27 0 184 Rz [] akN OJ ZI ZI abp:=fun c v=>by rw [aBw]; unfold abp abo; simp only [bE,bq,dqs]
def abq (c:ZD vc) (v:ZD rP):LQ HK:=bB (abp c) dw v
noncomputable def RA:Code:=bn ((ay (c27))[1]?)
theorem asn:ay (RA)=[]:=by kernel_rfl
abbrev ve:List bg:=[.slot 1 (.ptr 1),.box 1 [.pc tI,.pc fM,.pc (.sl T2),.pc fq,.pc tI,.pc tI,.pc tI,.pc tI,.pc tI]]
abbrev rQ:List bg:=[.slot 5 (.pc tI)]
abbrev abr:List bg:=ve ++ rQ
def akO:ZJ ve rQ abr:=ZA _ _
def abt:ZS ve rQ abr:=ZP _ _
abbrev aso:bk:=⟨[(2,[.slot 1 (.ptr 1),.box 1 [.pc tI,.pc fM,.pc (.sl T2),.pc fq,.pc tI,.pc tI,.pc tI,.pc tI,.pc tI]])],[.slot 2 (.pc .bool)],[]⟩
abbrev HL:bk:=⟨[(2,[])],[.slot 2 (.pc .bool)],[]⟩
def OK:ZE ve HL aso:=fun id=>match id with | 2=>fun c y=>(c.1,(c.2.1,y)) | _=>gC
def abu {α:Type} (l:RQ rQ HL->α) (an:α->α->α) (c:ZD ve) (v:ZD rQ):α:=bif (decide (v.1 < ((c.2.1.2.2.1.n:Nat):Int))) then bif (decide (((0:Int)<=v.1)/\(v.1 < ((c.2.1.2.2.1.n:Nat):Int)))) then cl (r89).dflt (M89 (c.2.1,((c.2.1.2.2.1.g (Int.toNat v.1)).1,()))) (fun u6=>bif (!u6.1) then l (.out (.ret (false,()))) else cl (r89).dflt (M89 (c.2.1,((c.2.1.2.2.1.g (Int.toNat v.1)).2.1,()))) (fun u7=>bif (!u7.1) then l (.out (.ret (false,()))) else bif (decide ((c.2.1.2.2.1.g (Int.toNat v.1)).1=(c.2.1.2.2.1.g (Int.toNat v.1)).2.1)) then l (.out (.ret (false,()))) else cl (HJ).dflt (Ig ((c.2.1.2.2.1.g (Int.toNat v.1)).2.2.1,((1:Int),((99999:Int),())))) (fun u8=>bif (!u8.1) then l (.out (.ret (false,()))) else l (.next ((W (v.1 + (1:Int))),()))) (l .bad)) (l .bad)) (l .bad) else l .bad else l (.out (.exit 2 ()))
theorem aBy:ZO G27 0 184 RA [] akO OK ZI ZI abu:=fun _ _=>by kernel_rfl
def abv (c:ZD ve) (v:ZD rQ):RQ rQ HL:=abu (fun r=>r) (fun _ _=>.bad) c v
theorem aBz:SO G27 0 184 RA [] akO OK ZI ZI abv:=fun c v=>by rw [aBy]; unfold abv abu; simp only [bE,bq,dqs]
def abw (c:ZD ve) (v:ZD rQ):LQ HL:=bB (abv c) dw v
noncomputable def RB:Code:=bn ((ay (c27))[2]?)
theorem asp:ay (RB)=[]:=by kernel_rfl
abbrev vf:List bg:=[.slot 1 (.ptr 1),.box 1 [.pc tI,.pc fM,.pc (.sl T2),.pc fq,.pc tI,.pc tI,.pc tI,.pc tI,.pc tI]]
abbrev rR:List bg:=[.slot 7 (.pc tI)]
abbrev abx:List bg:=vf ++ rR
def akP:ZJ vf rR abx:=ZA _ _
def aby:ZS vf rR abx:=ZP _ _
abbrev asq:bk:=⟨[(4,[.slot 1 (.ptr 1),.box 1 [.pc tI,.pc fM,.pc (.sl T2),.pc fq,.pc tI,.pc tI,.pc tI,.pc tI,.pc tI]])],[.slot 2 (.pc .bool)],[]⟩
abbrev HM:bk:=⟨[(4,[])],[.slot 2 (.pc .bool)],[]⟩
def OL:ZE vf HM asq:=fun id=>match id with | 4=>fun c y=>(c.1,(c.2.1,y)) | _=>gC
def abz {α:Type} (l:RQ rR HM->α) (an:α->α->α) (c:ZD vf) (v:ZD rR):α:=bif (decide (v.1 < ((c.2.1.2.2.2.1.n:Nat):Int))) then bif (decide (((0:Int)<=v.1)/\(v.1 < ((c.2.1.2.2.2.1.n:Nat):Int)))) then cl (r91).dflt (M91 (((c.2.1.2.2.2.1.g (Int.toNat v.1)).1,((c.2.1.2.2.2.1.g (Int.toNat v.1)).2.1,())),((2880:Int),()))) (fun u9=>bif (!u9.1) then l (.out (.ret (false,()))) else bif (decide ((300:Int) < (W ((c.2.1.2.2.2.1.g (Int.toNat v.1)).2.1 - (c.2.1.2.2.2.1.g (Int.toNat v.1)).1)))) then l (.out (.ret (false,()))) else cl (HJ).dflt (Ig ((c.2.1.2.2.2.1.g (Int.toNat v.1)).2.2.1,((0:Int),((50000:Int),())))) (fun FH=>bif (!FH.1) then l (.out (.ret (false,()))) else cl (HJ).dflt (Ig ((c.2.1.2.2.2.1.g (Int.toNat v.1)).2.2.2.1,((0:Int),((50000:Int),())))) (fun TJ=>bif (!TJ.1) then l (.out (.ret (false,()))) else l (.next ((W (v.1 + (1:Int))),()))) (l .bad)) (l .bad)) (l .bad) else l .bad else l (.out (.exit 4 ()))
theorem aBA:ZO G27 0 184 RB [] akP OL ZI ZI abz:=fun _ _=>by kernel_rfl
def abA (c:ZD vf) (v:ZD rR):RQ rR HM:=abz (fun r=>r) (fun _ _=>.bad) c v
theorem aBB:SO G27 0 184 RB [] akP OL ZI ZI abA:=fun c v=>by rw [aBA]; unfold abA abz; simp only [bE,bq,dqs]
def abB (c:ZD vf) (v:ZD rR):LQ HM:=bB (abA c) dw v
theorem aTb:ay (c27)=[.loop Rz,.loop RA,.loop RB]:=by kernel_rfl
noncomputable def l27:List Loop:=[lk 0 OJ ZI ZI true abn abq,lk 0 OK ZI ZI true abt abw,lk 0 OL ZI ZI true aby abB]
def Q27 {α:Type} (l:Option (r27).den->α) (an:α->α->α) (x:(a27).den):α:=bp (abq ((),(x.1,())) ((0:Int),())) 0 (fun HN=>bp (abw ((),(x.1,())) ((0:Int),())) 2 (fun nG=>bp (abB ((),(x.1,())) ((0:Int),())) 4 (fun u14=>cl (HJ).dflt (Ig (x.1.1,((1:Int),((6:Int),())))) (fun yg=>bif yg.1 then bif (decide (((x.1.2.1.n:Nat):Int)<=(9:Int))) then bif (decide (((x.1.2.2.1.n:Nat):Int)<=(8:Int))) then bif (decide (((x.1.2.2.2.1.n:Nat):Int)<=(4:Int))) then cl (HJ).dflt (Ig (x.1.2.2.2.2.1,((1:Int),((99999:Int),())))) (fun u16=>bif u16.1 then cl (HJ).dflt (Ig (x.1.2.2.2.2.2.1,((1:Int),((2880:Int),())))) (fun qz=>bif qz.1 then cl (HJ).dflt (Ig (x.1.2.2.2.2.2.2.1,((1:Int),((2880:Int),())))) (fun u18=>bif u18.1 then bif (decide ((0:Int)<=x.1.2.2.2.2.2.2.2.1)) then bif (decide (x.1.2.2.2.2.2.2.2.1<=x.1.2.2.2.2.2.2.2.2.1)) then l (some ((decide (x.1.2.2.2.2.2.2.2.2.1<=(1440:Int))),())) else l (some (false,())) else l (some (false,())) else l (some (false,()))) (l none) else l (some (false,()))) (l none) else l (some (false,()))) (l none) else l (some (false,())) else l (some (false,())) else l (some (false,())) else l (some (false,()))) (l none)) (bK (abB ((),(x.1,())) ((0:Int),())) (fun u19=>l (some u19)) (l none))) (bK (abw ((),(x.1,())) ((0:Int),())) (fun u20=>l (some u20)) (l none))) (bK (abq ((),(x.1,())) ((0:Int),())) (fun u21=>l (some u21)) (l none))
theorem q27:QO G27 Tryz.f27 l27 a27 r27 Q27:=fun _=>by kernel_rfl
def M27 (x:(a27).den):Option (r27).den:=Q27 (fun r=>r) (fun _ _=>none) x
theorem m27:MOz G27 Tryz.f27 l27 M27:=fun x=>by rw [q27]; unfold M27 Q27; simp only [Tree.sure,sus]
def p27:=pO M27
def v27:=vO (τ:=r27) M27
def k27:Con:=⟨a27,r27,p27,v27⟩
theorem h27:aQ Tryz.prog 27 k27:=hO aBv g27 m27 fun G' hlo hF hE=>aP (by rw [aTb]; exact .cons (lv hE hF hlo (ln asl) abn aBx) (.cons (lv hE hF hlo (ln asn) abt aBz) (.cons (lv hE hF hlo (ln asp) aby aBB) (.nil))))
noncomputable def c32:=bW Tryz.f32
theorem aBD:bV 32 Tryz.f32 c32:=bX
abbrev a32:Ty:=aBs
abbrev r32:Ty:=T3
noncomputable def G32:Ctx:=Ctx.of [(90,.pure k90)]
theorem g32:SP G32:=aB (fa ⟨⟨abl.c,h90⟩,f0⟩)
def Q32 {α:Type} (l:Option (r32).den->α) (an:α->α->α) (x:(a32).den):α:=cl (HJ).dflt (Ig (x.2.1,((0:Int),((W (((x.1.2.2.2.1.n:Nat):Int) - (1:Int))),())))) (fun u0=>l (some u0)) (l none)
theorem q32:QO G32 Tryz.f32 [] a32 r32 Q32:=fun _=>by kernel_rfl
def M32 (x:(a32).den):Option (r32).den:=Q32 (fun r=>r) (fun _ _=>none) x
theorem m32:MOz G32 Tryz.f32 [] M32:=fun x=>by rw [q32]; unfold M32 Q32; simp only [Tree.sure,sus]
def p32:=pO M32
def v32:=vO (τ:=r32) M32
def k32:Con:=⟨a32,r32,p32,v32⟩
theorem h32:aQ Tryz.prog 32 k32:=hO aBD g32 m32 l0
noncomputable def c33:=bW Tryz.f33
theorem aBE:bV 33 Tryz.f33 c33:=bX
abbrev a33:Ty:=T0
abbrev r33:Ty:=T3
noncomputable def G33:Ctx:=Ctx.of [(90,.pure k90)]
theorem g33:SP G33:=aB (fa ⟨⟨abl.c,h90⟩,f0⟩)
def Q33 {α:Type} (l:Option (r33).den->α) (an:α->α->α) (x:(a33).den):α:=cl (HJ).dflt (Ig (x.1,((0:Int),((20000:Int),())))) (fun u0=>l (some u0)) (l none)
theorem q33:QO G33 Tryz.f33 [] a33 r33 Q33:=fun _=>by kernel_rfl
def M33 (x:(a33).den):Option (r33).den:=Q33 (fun r=>r) (fun _ _=>none) x
theorem m33:MOz G33 Tryz.f33 [] M33:=fun x=>by rw [q33]; unfold M33 Q33; simp only [Tree.sure,sus]
def p33:=pO M33
def v33:=vO (τ:=r33) M33
def k33:Con:=⟨a33,r33,p33,v33⟩
theorem h33:aQ Tryz.prog 33 k33:=hO aBE g33 m33 l0
end Go.Dm

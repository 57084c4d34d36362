/- What fits a map. -/
import Derived.Test.YtgkaoimndglnoaaGreatL5TP13
set_option linter.unusedVariables false
set_option linter.unusedSimpArgs false
namespace Go.Dm
set_option maxRecDepth 100000
theorem aiB {mps:List bg} {I:Type} {step:(aa mps).den->I->RO mps} {x y:(aa mps).den} {c:I->Bool}:∀ (l:List I),(∀ i,i∈l->step x i=bif c i then .next x else .ret y)->cJ step x l=bif l.all c then .next x else .ret y
 | [],_=>rfl
 | i :: l,h=>by
  have h0:=h i (List.mem_cons_self ..)
  have h1:=aiB l fun k hk=>h k (List.mem_cons_of_mem _ hk)
  rw [List.all_cons]
  cases hc:c i with
  | true =>
   rw [hc,cond_true] at h0
   simp only [cJ,h0,Bool.true_and]
   exact h1
  | false =>
   rw [hc,cond_false] at h0
   simp only [cJ,h0,Bool.false_and,cond_false]
theorem akt {mps:List bg} {β:Type} {o:RO mps} {x:(aa mps).den} {f:(aa mps).den->β} {g:β} (h:o = .ret x):eM o f g=f x:=by rw [h]; rfl
theorem aky {mps:List bg} {β:Type} {o:RO mps} {x:(aa mps).den} {f:(aa mps).den->β} {g:β} (h:o = .ret x):eo o f g=g:=by rw [h]; rfl
def iv (q:Nat):Int×Unit:=((q:Int),())
def nbs (w N p:Nat):List Nat:=(List.range N).filter fun q=>decide (adi w p q=1)
theorem ax8 {w r a b:Nat} (hw:1<=w/\w<=6) (ha:a < 30) (hb:b < 30):axg (no_index (((w:Int),((r:Int),())),((a:Int),((b:Int),()))))=(((adi w a b:Nat):Int),()):=ahw (avk hw ha hb)
theorem alS {w r N p:Nat} (hw:1<=w/\w<=6) (hN:N<=30) (hp:p < 30):∀ (k i:Nat) (tr:Sl mR.den),i + k<=N ->
  (nA JC JD k ((),((w:Int),(r:Int),()),((p:Int),()),(false,()),(N:Int),(i:Int),()) tr).list=tr.list ++ ((List.range' i k).filter fun q=>decide (adi w p q=1)).map iv
 | 0,_,tr,_=>by simp [nA]
 | k + 1,i,tr,hi=>by
  show (nA JC JD k (JD ((),((w:Int),(r:Int),()),((p:Int),()),(false,()),(N:Int),(i:Int),())) (oA JC ((),((w:Int),(r:Int),()),((p:Int),()),(false,()),(N:Int),(i:Int),()) tr)).list=_
  have e1:JD ((),((w:Int),(r:Int),()),((p:Int),()),(false,()),(N:Int),(i:Int),())=((),((w:Int),(r:Int),()),((p:Int),()),(false,()),(N:Int),((i + 1:Nat):Int),()):=rfl
  have e0:Ei ((w:Int),(r:Int),()) ((p:Int),()) (i:Int)=decide (adi w p i=1):=by
   unfold Ei
   have:=ax8 (r:=r) hw hp (show i < 30 by omega)
   show decide ((show Int from (axg (((w:Int),((r:Int),())),((p:Int),((i:Int),())))).1)=(1:Int))=_
   rw [this]
   show decide (((adi w p i:Nat):Int)=1)=_
   by_cases h:adi w p i=1
   ·rw [decide_eq_true h]; exact decide_eq_true (by omega)
   ·rw [decide_eq_false h]; exact decide_eq_false (by omega)
  have e2:oA JC ((),((w:Int),(r:Int),()),((p:Int),()),(false,()),(N:Int),(i:Int),()) tr=bif decide (adi w p i=1) then gN tr ((i:Int),()) else tr:=by
   have e3:JC ((),((w:Int),(r:Int),()),((p:Int),()),(false,()),(N:Int),(i:Int),())=bif decide (adi w p i=1) then some ((i:Int),()) else none:=by
    unfold JC
    show (bif Ei ((w:Int),(r:Int),()) ((p:Int),()) (i:Int) then some ((i:Int),()) else none)=_
    rw [e0]
   unfold oA
   rw [e3]
   cases decide (adi w p i=1) <;> rfl
  rw [e1,e2,alS hw hN hp k (i + 1) _ (by omega),List.range'_succ]
  cases hd:decide (adi w p i=1) with
  | true =>
   rw [List.filter_cons_of_pos (by rw [hd])]
   rw [cond_true,show (gN tr (((i:Int),()):mR.den)).list=tr.list ++ [((i:Int),())] from fy tr _,List.map_cons,List.append_assoc]
   rfl
  | false =>
   rw [List.filter_cons_of_neg (by rw [hd]; exact Bool.false_ne_true)]
   rfl
theorem aFB {m:adh} (h:aqq m) {p:Nat} (hp:p < adr m):∃ l:Sl (Int×Unit),M84 (no_index ((m.1,(m.2.1,())),((p:Int),(false,()))))=some (l,())/\l.list=(nbs (adt m) (adr m) p).map iv:=by
 have hN:=h.eN
 have hw:=h.adU
 have hr:=h.ac7
 have eN:W (m.1 * m.2.1)=((adr m:Nat):Int):=by rw [(aiv h.wide h.rows).1,hN.1]
 refine ⟨wq (m.1,(m.2.1,())) ((p:Int),()) (false,()),?_,?_⟩
 ·unfold M84 Q84
  refine cn (decide_eq_true ⟨?_,rfl,Int.le_refl _,?_⟩)
  ·show m.1≠0
   have:=h.wide; omega
  ·show W (m.1 * m.2.1)<=140737488355328
   rw [eN]; omega
 ·have:=alS (w:=adt m) (r:=mr m) (N:=adr m) (p:=p) hw.2 hN.2.2 (by omega) (adr m) 0 ⟨0,fun _=>mR.dflt⟩ (by omega)
  rw [<- List.range_eq_range'] at this
  unfold wq
  have e:JE (m.1,(m.2.1,())) ((p:Int),()) (false,())=((),((adt m:Int),(mr m:Int),()),((p:Int),()),(false,()),((adr m:Nat):Int),(0:Int),()):=by
   unfold JE
   show ((),(m.1,m.2.1,()),((p:Int),()),(false,()),W (m.1 * m.2.1),(0:Int),())=_
   rw [eN,hw.1,hr.1]
  rw [e]
  have em:TY ((),((adt m:Int),(mr m:Int),()),((p:Int),()),(false,()),((adr m:Nat):Int),(0:Int),())=adr m:=by
   show ((((adr m:Nat):Int)) - 0).toNat=_
   omega
  rw [em]
  exact this
structure aFC (m:adh) (f:fdT):Prop where
 w:f.1=m.1
 n:(vls f).n=adr m
 v:∀ j,j < (vls f).n->0<=vlF f j/\vlF f j<=99999
def nbB (m:adh) (f:fdT) (p q:Nat):Bool:=decide (AF (vlF f p) (vlF f q)<=slo m)
def ptB (m:adh) (f:fdT) (p:Nat):Bool:=(nbs (adt m) (adr m) p).all (nbB m f p)
def aFD (m:adh) (f:fdT):Bool:=(List.range (adr m)).all (ptB m f)
def stI (m:adh) (f:fdT) (j:Nat):Bool:=iQ (vlF f (adf m j)) (plo m j) (phi m j)
theorem aFE {a b:Int} (ha:0<=a/\a<=99999) (hb:0<=b/\b<=99999):M85 (no_index (a,(b,())))=some (AF a b,()):=by
 unfold M85 Q85 AF
 rw [eU (n:=a - b) ⟨by omega,by omega⟩,eU (n:=b - a) ⟨by omega,by omega⟩]
 refine (cI (avs (a - b) (b - a) _)).trans rfl
abbrev aXT:Type:=Unit×fdT×Unit×Unit×Unit×Unit×Sl (Int×Unit)×Int×Int×adh×(Bool×Unit)×(Int×Unit)×chT×(Int×Unit)×Unit
def x24 (m:adh) (f:fdT) (N:Int) (p:Nat):aXT:=((),f,(),(),(),(),vls f,N,(p:Int),m,(false,()),((0:Int),()),aY9 m,(vls f).g p,())
theorem akE {m:adh} {f:fdT} (h:aqq m) (hf:aFC m f) {p:Nat} (hp:p < adr m) (N:Int):zZ (x24 m f N p) ((nbs (adt m) (adr m) p).map iv)=bif ptB m f p then .next (x24 m f N p) else .ret (x24 m f N p):=by
 unfold zZ
 have key:=aiB (mps:=fL) (step:=FY) (x:=x24 m f N p) (y:=x24 m f N p) (c:=fun i=>nbB m f p (Int.toNat i.1)) ((nbs (adt m) (adr m) p).map iv) (fun i hi=>by
  rw [List.mem_map] at hi
  obtain ⟨q,hq,rfl⟩:=hi
  unfold nbs at hq
  rw [List.mem_filter,List.mem_range] at hq
  have hq1:q < (vls f).n:=by rw [hf.n]; exact hq.1
  have acP:=hf.v p (by rw [hf.n]; exact hp)
  have aeu:=hf.v q hq1
  unfold FY FX
  refine (cn (decide_eq_true (bO hq1))).trans ?_
  refine (cI (aFE (a:=vlF f p) (b:=vlF f q) acP aeu)).trans ?_
  show (bif decide (slo m < AF (vlF f p) (vlF f q)) then _ else _)=(bif decide (AF (vlF f p) (vlF f q)<=slo m) then _ else _)
  by_cases hs:slo m < AF (vlF f p) (vlF f q)
  ·rw [decide_eq_true hs,decide_eq_false (p:=AF (vlF f p) (vlF f q)<=slo m) (by omega)]; rfl
  ·rw [decide_eq_false hs,decide_eq_true (p:=AF (vlF f p) (vlF f q)<=slo m) (by omega)]; rfl)
 have e:((nbs (adt m) (adr m) p).map iv).all (fun i=>nbB m f p (Int.toNat i.1))=ptB m f p:=by
  unfold ptB
  rw [List.all_map]
  rfl
 refine key.trans ?_
 rw [e]
abbrev aYM:Type:=fdT×Sl (Int×Unit)×Int×Int×adh×(Bool×Unit)×(Int×Unit)×chT×Unit
def w24 (m:adh) (f:fdT) (p:Nat):aYM:=(f,vls f,(((vls f).n:Nat):Int),(p:Int),m,(false,()),((0:Int),()),aY9 m,())
theorem aOQ {m:adh} {f:fdT} (h:aqq m) (hf:aFC m f):Yx (no_index ((),((),((),((),()))))) (w24 m f 0)=bif aFD m f then .exit 0 ((false,()),(((0:Int),()),())) else .ret ((false,()),(((0:Int),()),())):=by
 have hN:=h.eN
 have hn:(vls f).n<=30:=by rw [hf.n]; exact hN.2.2
 unfold Yx
 refine (eA (ps:=mT) (n:=(vls f).n) (wy:=Ci) (step:=Yw ((),((),((),((),()))))) (N:=dw) (f:=w24 m f) (c:=ptB m f) (qr:=.ret ((false,()),(((0:Int),()),()))) (qe:=.exit 0 ((false,()),(((0:Int),()),()))) (by unfold dw; omega) (fun p hp _=>?_) fun _=>?_).trans ?_
 ·unfold Yw Yv
  have hp':p < adr m:=by rw [<- hf.n]; exact hp
  obtain ⟨l,e1,e2⟩:=aFB h hp'
  refine (cn (decide_eq_true (dW hp))).trans ?_
  refine (cn (decide_eq_true (bO hp))).trans ?_
  refine (cI e1).trans ?_
  have e3:=akE h hf hp' (((vls f).n:Nat):Int)
  rw [<- e2] at e3
  cases hc:ptB m f p with
  | true =>
   rw [hc,cond_true] at e3
   refine (Va e3).trans ?_
   have e4:w24 m f (p + 1)=(f,vls f,(((vls f).n:Nat):Int),W ((p:Int) + 1),m,(false,()),((0:Int),()),aY9 m,()):=by
    rw [ec hp (by omega)]; rfl
   rw [e4]
   rfl
  | false =>
   rw [hc,cond_false] at e3
   exact (aky e3).trans (akt e3)
 ·unfold Yw Yv
  exact cR (decide_eq_false (by show ¬ ((((vls f).n:Nat):Int) < (((vls f).n:Nat):Int)); omega))
 ·unfold aFD
  rw [hf.n]
theorem alT {m:adh} {f:fdT} (h:aqq m) (hf:aFC m f) {j:Nat} (hj:j < (sta m).n):M82 (no_index ((sta m).g j,(f,())))=some (!stI m f j,()):=by
 have hp:=h.ac8 hj
 have hq:adf m j < (vls f).n:=by rw [hf.n]; exact hp.2
 unfold M82 Q82
 refine (cn (decide_eq_true (by show 0<=((sta m).g j).1/\((sta m).g j).1 < (((vls f).n:Nat):Int); rw [hp.1]; exact bO hq))).trans ?_
 refine (cI (x:=(stI m f j,())) ?_).trans rfl
 have e:((vls f).g (Int.toNat ((sta m).g j).1)).1=vlF f (adf m j):=by rw [hp.1,Int.toNat_natCast]; rfl
 show Vq (((vls f).g (Int.toNat ((sta m).g j).1)).1,(((sta m).g j).2.1,(((sta m).g j).2.2.1,())))=_
 rw [e]
 exact adC _ _ _
def ajX (m:adh) (f:fdT):Bool:=(List.range (sta m).n).all (stI m f) && aFD m f
theorem atT {m:adh} {f:fdT} {w r:Nat} (hb:adm m=true) (hF:asN f w r) (hn:(vls f).n<=40) (h1:f.1=m.1) (h2:(r:Int)=m.2.1):aFC m f/\M24 (no_index (m,(f,())))=some (ajX m f,((0:Int),())):=by
 have h:=aWl hb
 have hw:=h.adU
 have hr:=h.ac7
 have hS:aFC m f:=⟨h1,by
  rw [hF.n]
  unfold adr
  have e1:w=adt m:=by have:=hF.adU; omega
  have e2:r=mr m:=by omega
  rw [e1,e2],hF.v⟩
 refine ⟨hS,?_⟩
 unfold M24 Q24
 refine (cI (aZ5 hF hn)).trans ?_
 refine (cI (aZb m)).trans ?_
 refine (cR (by rw [hb]; rfl)).trans ?_
 refine (cR rfl).trans ?_
 refine (cR (by show (!decide (f.1=m.1))=false; rw [decide_eq_true h1]; rfl)).trans ?_
 refine (cR (by show (!decide ((r:Int)=m.2.1))=false; rw [decide_eq_true h2]; rfl)).trans ?_
 refine (cI (x:=(aY9 m,())) rfl).trans ?_
 have hst:∀ j,j < (sta m).n->(p82 ((sta m).g j,(f,())),v82 ((sta m).g j,(f,())))=(true,(!stI m f j,())):=fun j hj=>by
  rw [show p82 ((sta m).g j,(f,()))=true from aiu (alT h hS hj),show v82 ((sta m).g j,(f,()))=(!stI m f j,()) from ahw (alT h hS hj)]
 obtain ⟨e,he⟩:=aEa (s:=sta m) (F:=fun y1=>(p82 (y1.1,(f,())),v82 (y1.1,(f,())))) (c:=fun c=>(v82 (c,(f,()))).1) (fun j hj=>by
  have:=hst j hj
  show (p82 ((sta m).g j,(f,())),v82 ((sta m).g j,(f,())))=(true,((v82 ((sta m).g j,(f,()))).1,()))
  rw [show p82 ((sta m).g j,(f,()))=true from aiu (alT h hS hj)]) (by have:=h.n; omega)
 refine (cI he).trans ?_
 have ea:(List.range (sta m).n).any (fun j=>(v82 ((sta m).g j,(f,()))).1) = !(List.range (sta m).n).all (stI m f):=by
  rw [List.all_eq_not_any_not,Bool.not_not]
  rw [Bool.eq_iff_iff,List.any_eq_true,List.any_eq_true]
  constructor
  ·rintro ⟨j,hj,h'⟩
   refine ⟨j,hj,?_⟩
   rwa [show v82 ((sta m).g j,(f,()))=(!stI m f j,()) from ahw (alT h hS (by simpa using hj))] at h'
  ·rintro ⟨j,hj,h'⟩
   refine ⟨j,hj,?_⟩
   rwa [show v82 ((sta m).g j,(f,()))=(!stI m f j,()) from ahw (alT h hS (by simpa using hj))]
 unfold ajX
 cases hc:(List.range (sta m).n).all (stI m f) with
 | false =>
  refine (cn ?_).trans rfl
  show (List.range (sta m).n).any (fun j=>(v82 ((sta m).g j,(f,()))).1)=true
  rw [ea,hc]; rfl
 | true =>
  refine (cR ?_).trans ?_
  ·show (List.range (sta m).n).any (fun j=>(v82 ((sta m).g j,(f,()))).1)=false
   rw [ea,hc]; rfl
  have aew:=aOQ h hS
  cases hg:aFD m f with
  | true=>rw [hg] at aew; exact gV aew
  | false=>rw [hg] at aew; exact (sV aew).trans (xe aew)
theorem aDa {m:adh} {f:fdT} {w r:Nat} (hb:adm m=true) (hF:asN f w r) (hn:(vls f).n<=40) (h12:¬ (f.1=m.1/\(r:Int)=m.2.1)):M24 (no_index (m,(f,())))=some (false,((0:Int),())):=by
 unfold M24 Q24
 refine (cI (aZ5 hF hn)).trans ?_
 refine (cI (aZb m)).trans ?_
 refine (cR (by rw [hb]; rfl)).trans ?_
 refine (cR rfl).trans ?_
 by_cases h1:f.1=m.1
 ·refine (cR (by show (!decide (f.1=m.1))=false; rw [decide_eq_true h1]; rfl)).trans ?_
  exact cn (by show (!decide ((r:Int)=m.2.1))=true; rw [decide_eq_false fun q=>h12 ⟨h1,q⟩]; rfl)
 ·exact cn (by show (!decide (f.1=m.1))=true; rw [decide_eq_false h1]; rfl)
theorem amb {a b c S T:Int} (h1:AF a b<=S) (h2:AF b c<=T):AF a c<=S + T:=by unfold AF at *; omega
theorem aoF (a b:Int):AF a b=AF b a:=by unfold AF; omega
theorem aoI {w r c r' c':Nat} (hc:c < w) (hc':c' < w):adi w (w * r + c) (w * r' + c')=nd r r' + nd c c':=by
 have e:∀ x y:Nat,y < w->(w * x + y) / w=x/\(w * x + y) % w=y:=fun x y hy=>by
  refine ⟨?_,?_⟩
  ·rw [Nat.mul_add_div (by omega),Nat.div_eq_of_lt hy]; rfl
  ·rw [Nat.mul_add_mod,Nat.mod_eq_of_lt hy]
 unfold adi
 rw [(e r c hc).1,(e r c hc).2,(e r' c' hc').1,(e r' c' hc').2]
theorem apr {m:adh} {f:fdT} (hg:aFD m f=true) {p q:Nat} (hp:p < adr m) (hq:q < adr m) (hd:adi (adt m) p q=1):AF (vlF f p) (vlF f q)<=slo m:=by
 have h1:ptB m f p=true:=iR hg hp
 unfold ptB at h1
 have:=List.all_eq_true.1 h1 q (by unfold nbs; rw [List.mem_filter,List.mem_range]; exact ⟨hq,decide_eq_true hd⟩)
 exact of_decide_eq_true this
theorem am6 {w R r c:Nat} (hr:r < R) (hc:c < w):w * r + c < w * R:=by
 have:w * (r + 1)<=w * R:=Nat.mul_le_mul_left w hr
 rw [Nat.mul_add] at this
 omega
theorem alr {m:adh} {f:fdT} (hg:aFD m f=true) {c:Nat} (hc:c < adt m):∀ (k r:Nat),r + k < mr m->AF (vlF f (adt m * r + c)) (vlF f (adt m * (r + k) + c))<=slo m * (k:Int)
 | 0,r,_=>by unfold AF; simp
 | k + 1,r,h=>by
  have h1:=alr hg hc k r (by omega)
  have h2:=apr hg (p:=adt m * (r + k) + c) (q:=adt m * (r + (k + 1)) + c) (am6 (by omega) hc) (am6 (by omega) hc) (by rw [aoI hc hc]; unfold nd; omega)
  have:=amb h1 h2
  rw [show ((k + 1:Nat):Int)=(k:Int) + 1 from rfl,Int.mul_add,Int.mul_one]
  exact this
theorem alC {m:adh} {f:fdT} (hg:aFD m f=true) {r:Nat} (hr:r < mr m):∀ (k c:Nat),c + k < adt m->AF (vlF f (adt m * r + c)) (vlF f (adt m * r + (c + k)))<=slo m * (k:Int)
 | 0,c,_=>by unfold AF; simp
 | k + 1,c,h=>by
  have h1:=alC hg hr k c (by omega)
  have h2:=apr hg (p:=adt m * r + (c + k)) (q:=adt m * r + (c + (k + 1))) (am6 hr (by omega)) (am6 hr (by omega)) (by rw [aoI (by omega) (by omega)]; unfold nd; omega)
  have:=amb h1 h2
  rw [show ((k + 1:Nat):Int)=(k:Int) + 1 from rfl,Int.mul_add,Int.mul_one]
  exact this
theorem alD {m:adh} {f:fdT} (h:aqq m) (hg:aFD m f=true) {p q:Nat} (hp:p < adr m) (hq:q < adr m):AF (vlF f p) (vlF f q)<=cst m p q:=by
 have hw:=h.adU.2
 have e:∀ x,x < adr m->x=adt m * (x / adt m) + x % adt m/\x % adt m < adt m/\x / adt m < mr m:=fun x hx=>by
  refine ⟨(Nat.div_add_mod x (adt m)).symm,Nat.mod_lt _ (by omega),?_⟩
  exact Nat.div_lt_of_lt_mul (by unfold adr at hx; exact hx)
 obtain ⟨p1,p2,p3⟩:=e p hp
 obtain ⟨q1,q2,q3⟩:=e q hq
 generalize p / adt m=pr at *
 generalize p % adt m=pc at *
 generalize q / adt m=qr at *
 generalize q % adt m=qc at *
 subst p1; subst q1
 have aYO:AF (vlF f (adt m * pr + pc)) (vlF f (adt m * qr + pc))<=slo m * ((nd pr qr:Nat):Int):=by
  rcases Nat.le_total pr qr with hle | hle
  ·have:=alr hg p2 (qr - pr) pr (by omega)
   rw [show pr + (qr - pr)=qr by omega] at this
   rw [show nd pr qr=qr - pr by unfold nd; omega]; exact this
  ·have:=alr hg p2 (pr - qr) qr (by omega)
   rw [show qr + (pr - qr)=pr by omega,aoF] at this
   rw [show nd pr qr=pr - qr by unfold nd; omega]; exact this
 have hrow:AF (vlF f (adt m * qr + pc)) (vlF f (adt m * qr + qc))<=slo m * ((nd pc qc:Nat):Int):=by
  rcases Nat.le_total pc qc with hle | hle
  ·have:=alC hg q3 (qc - pc) pc (by omega)
   rw [show pc + (qc - pc)=qc by omega] at this
   rw [show nd pc qc=qc - pc by unfold nd; omega]; exact this
  ·have:=alC hg q3 (pc - qc) qc (by omega)
   rw [show qc + (pc - qc)=pc by omega,aoF] at this
   rw [show nd pc qc=pc - qc by unfold nd; omega]; exact this
 have:=amb aYO hrow
 unfold cst
 rw [aoI p2 q2,Int.natCast_add,Int.mul_add]
 exact this
end Go.Dm

/- Whether a cone is up, as far as is known. -/
import Derived.Test.YtgkaoimndglnoaaGreatL5TC7
set_option linter.unusedVariables false
set_option linter.unusedSimpArgs false
namespace Go.Dm.Con
set_option maxRecDepth 100000
theorem aqb {c:Nat->Bool}:∀ n,(lO c n).isSome=(List.range n).any c
 | 0=>rfl
 | n + 1=>by
  rw [List.range_succ,List.any_append,<- aqb n]
  simp only [lO]
  cases lO c n with
  | some k=>rfl
  | none=>cases h:c n <;> simp [h]
theorem avD {lo hi:Int} (h0:0<=lo) (h1:lo<=hi) (h2:hi<=100000) {F:Int×Unit->Bool×(Bool×Unit)} {c:Nat->Bool} (hF:∀ j:Nat,j < (hi - lo + 1).toNat->F (lo + (j:Int),())=(true,(c j,()))) :
  US (no_index (lo,(hi,(F,()))))=some (match lO c (hi - lo + 1).toNat with | some k=>(lo + (k:Int),(true,())) | none=>((0:Int),(false,()))):=by
 obtain ⟨n,hn⟩:∃ n:Nat,n=(hi - lo + 1).toNat:=⟨_,rfl⟩
 have hn':hi - lo + 1=(n:Int):=by omega
 rw [<- hn] at hF ⊢
 have:OC (no_index (lo,(F,((n:Int),())))) (no_index ((0:Int),()))=match lO c n with | some k=>.ret (lo + (k:Int),(true,())) | none=>.exit 0 ():=by
  unfold OC
  refine qg (ps:=mK) (f:=fun j=>((j:Int),())) (ep (show n<=_ by omega)) (fun j hj _=>?_) fun _=>?_
  ·have hw:W (lo + (j:Int))=lo + (j:Int):=eU ⟨by omega,by omega⟩
   unfold OB OA
   simp only [dW hj,ec hj (show n<=_ by omega),hw,hF j hj,decide_true,cond_true]
  ·unfold OB OA
   simp only [Int.lt_irrefl,decide_false,cond_false]
 have e:W (W (hi - lo) + 1)=(n:Int):=by rw [eU (n:=hi - lo) ⟨by omega,by omega⟩,eU ⟨by omega,by omega⟩,hn']
 unfold US ar0
 simp only [e]
 rw [this]
 cases lO c n <;> rfl
def aht (w:aiC) (b:Bool) (lo m:Int) (j:Nat):Bool:=anT w (al6 w b) (W (m - (lo + (j:Int))))
theorem atK {w:aiC} (hw:akQ w=true) {p:Int} (hp:0<=p/\p < (w.2.2.2.1.n:Int)):0<=(alZ w p).1/\(alZ w p).1<=(alZ w p).2.1/\(alZ w p).2.1<=2880:=by
 simp only [akQ,Bool.and_eq_true] at hw
 have:=iR hw.2.2.2 (show p.toNat < w.2.2.2.1.n by omega)
 simp only [aqh,Bool.and_eq_true] at this
 exact of_decide_eq_true this.1
def avE (w:aiC) (p:Int):Nat:=((alZ w p).2.1 - (alZ w p).1 + 1).toNat
def apY (w:aiC) (p m:Int):Bool:=(List.range (avE w p)).any (aht w false (alZ w p).1 m)
def ass (w:aiC) (p m:Int):Bool:=(List.range (avE w p)).all (aht w true (alZ w p).1 m)
theorem aIW {w:aiC} (hw:akQ w=true) {p:Int} (hp:0<=p/\p < (w.2.2.2.1.n:Int)) (m:Int):abg (no_index (alH w,(p,(m,()))))=some (apY w p m,(apY w p m && ass w p m,())):=by
 obtain ⟨h1,h2,h3⟩:=small hw
 obtain ⟨p1,p2,p3⟩:=atK hw hp
 have ai1:∀ j:Nat,j < ((alZ w p).2.1 - (alZ w p).1 + 1).toNat->(fun y1:Int×Unit=>((aBd (y1.1,(alH w,((al6 w false,(al6 w true,())),((m,()),()))))),(aBe (y1.1,(alH w,((al6 w false,(al6 w true,())),((m,()),()))))))) ((alZ w p).1 + (j:Int),())=(true,(aht w false (alZ w p).1 m j,())):=fun j _=>by
  have e:ahn ((alZ w p).1 + (j:Int),(alH w,((al6 w false,(al6 w true,())),((m,()),()))))=some (aht w false (alZ w p).1 m j,()):=by
   simp only [ahn,ar6,avC (show w.2.1.n<=_ by omega) (asi w false),bU]; rfl
  exact Prod.ext (aiu e) (ahw e)
 have ajc:∀ j:Nat,j < ((alZ w p).2.1 - (alZ w p).1 + 1).toNat->(fun y1:Int×Unit=>((aBg (y1.1,(alH w,((al6 w false,(al6 w true,())),((m,()),()))))),(aBh (y1.1,(alH w,((al6 w false,(al6 w true,())),((m,()),()))))))) ((alZ w p).1 + (j:Int),())=(true,(!aht w true (alZ w p).1 m j,())):=fun j _=>by
  have e:ahp ((alZ w p).1 + (j:Int),(alH w,((al6 w false,(al6 w true,())),((m,()),()))))=some (!aht w true (alZ w p).1 m j,()):=by
   simp only [ahp,ar8,avC (show w.2.1.n<=_ by omega) (asi w true),bU]; rfl
  exact Prod.ext (aiu e) (ahw e)
 have e1:=avD p1 p2 (show _<=(100000:Int) by omega) (F:=fun y1:Int×Unit=>((aBd (y1.1,(alH w,((al6 w false,(al6 w true,())),((m,()),()))))),(aBe (y1.1,(alH w,((al6 w false,(al6 w true,())),((m,()),()))))))) ai1
 have e2:=avD p1 p2 (show _<=(100000:Int) by omega) (F:=fun y1:Int×Unit=>((aBg (y1.1,(alH w,((al6 w false,(al6 w true,())),((m,()),()))))),(aBh (y1.1,(alH w,((al6 w false,(al6 w true,())),((m,()),()))))))) ajc
 have a1:apY w p m=(lO (aht w false (alZ w p).1 m) ((alZ w p).2.1 - (alZ w p).1 + 1).toNat).isSome:=(aqb _).symm
 have a2:ass w p m = !(lO (fun j=>!aht w true (alZ w p).1 m j) ((alZ w p).2.1 - (alZ w p).1 + 1).toNat).isSome:=by
  rw [aqb,ah9,Bool.not_not]; rfl
 have hq:(0<=p/\p < ((alH w).2.2.2.1.n:Int)):=hp
 unfold abg asa
 simp only [aEh (show w.2.1.n<=1000 by omega),bU,hq,and_self,decide_true,cond_true]
 refine (congrArg (fun o=>cl (Oz).dflt o _ _) e1).trans ?_
 rw [a1,a2]
 cases lO (aht w false (alZ w p).1 m) ((alZ w p).2.1 - (alZ w p).1 + 1).toNat with
 | none=>rfl
 | some k =>
  refine (congrArg (fun o=>cl (Oz).dflt o (fun u2=>some (true,((!u2.2.1),()))) none) e2).trans ?_
  cases lO (fun j=>!aht w true (alZ w p).1 m j) ((alZ w p).2.1 - (alZ w p).1 + 1).toNat <;> rfl
theorem auz {w:aiC} (hw:akQ w=true) {d d':bI} (hd:aoC w d=true) (hd':aoC w d'=true) (h:∀ i,i < w.2.1.n->(d.g i).1<=(d'.g i).1) {m:Int} (hs:anT w d' m=true):anT w d m=true:=by
 obtain ⟨i,j,h1,h2,h3,h4,h5⟩:=aoy.1 hs
 have m1:akh w d i<=akh w d' i:=by rw [atJ hw hd h1,atJ hw hd' h1]; have:=h i h1; omega
 have m2:akh w d j<=akh w d' j:=by rw [atJ hw hd h2,atJ hw hd' h2]; have:=h j h2; omega
 have hle:loI w d (prN i j)<=loI w d' (prN i j):=aum m1 m2
 exact aoy.2 ⟨i,j,h1,h2,h3,by omega,h5⟩
theorem aDg {w:aiC} (hw:akQ w=true) {lo m:Int} {j:Nat} (h:aht w true lo m j=true):aht w false lo m j=true:=
 auz hw (asj hw false) (asj hw true) (fun i hi=>by have:=aIU (asj hw false) hi; omega) h
theorem all_some {w:aiC} (hw:akQ w=true) {p:Int} (hp:0<=p/\p < (w.2.2.2.1.n:Int)) {m:Int} (h:ass w p m=true):apY w p m=true:=by
 obtain ⟨p1,p2,p3⟩:=atK hw hp
 have h0:0 < avE w p:=by unfold avE; omega
 exact List.any_eq_true.2 ⟨0,by simpa using h0,aDg hw (iR h h0)⟩
def atx (s a:Bool):Int:=bif a then 3 else bif s then 2 else 1
theorem aU0 (s a:Bool):M99 (no_index (s,(a,())))=some (atx s a,()):=by
 unfold M99 Q99 atx
 cases s <;> cases a <;> rfl
theorem aU1 {w:aiC} (hs:apZ w=true) (p m:Int):M34 (no_index (w,(p,(m,()))))=some (bif akQ w && (asr w p && iQ m 0 20000) then (atx (apY w p m) (ass w p m),((0:Int),())) else ((0:Int),((2:Int),()))):=by
 obtain ⟨s1,s2,s3⟩:=atV hs
 unfold M34 Q34
 simp only [atS,atQ,bU]
 cases hw:akQ w with
 | false=>rfl
 | true =>
 show (bif !asr w p then _ else _)=_
 cases hp:asr w p with
 | false=>rfl
 | true =>
 cases iQ m 0 20000 with
 | false=>rfl
 | true =>
 have hx:=aun (show w.2.2.2.1.n<=_ by omega) hp
 have hz:atx (apY w p m) (apY w p m && ass w p m)=atx (apY w p m) (ass w p m):=by
  cases ha:ass w p m with
  | true=>rw [all_some hw hx ha]; rfl
  | false=>cases apY w p m <;> rfl
 simp only [au4 (show w.2.2.1.n<=_ by omega) (show w.2.1.n<=_ by omega),aIW hw hx,aU0,hz,bU,Bool.not_true,cond_false,cond_true,Bool.and_self]
end Go.Dm.Con

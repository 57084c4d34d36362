/- Watches: which are as defined. -/
import Derived.Test.YtgkaoimndglnoaaGreatL5TP0
set_option linter.unusedVariables false
set_option linter.unusedSimpArgs false
namespace Go.Dm.Con
set_option maxRecDepth 100000
abbrev amz:Type:=Int×Int×Int×Int×Int×Int×Int×Unit
abbrev am8:Type:=Int×Int×Int×Unit
abbrev aoe:Type:=Int×Int×Int×Int×Unit
abbrev aiC:Type:=Int×Sl amz×Sl am8×Sl aoe×Int×Int×Int×Int×Int×Unit
abbrev bI:Type:=Sl (Int×Unit)
theorem atQ (x lo hi:Int):Eo (no_index (x,(lo,(hi,()))))=some (iQ x lo hi,()):=by
 unfold Eo Q98 iQ
 by_cases h1:lo<=x <;> simp [h1]
theorem asb (x lo hi:Int):Ig (no_index (x,(lo,(hi,()))))=some (iQ x lo hi,()):=by
 unfold Ig Q90 iQ
 by_cases h1:lo<=x <;> simp [h1]
def Pb (a b m:Int):Bool:=decide (0<=a/\a<=b/\b<=m)
theorem auV (a b m:Int):Uw (no_index ((a,(b,())),(m,())))=some (Pb a b m,()):=by
 unfold Uw aqS Pb
 by_cases h1:0<=a <;> by_cases h2:a<=b <;> simp [h1,h2]
theorem auW (a b m:Int):M91 (no_index ((a,(b,())),(m,())))=some (Pb a b m,()):=by
 unfold M91 Q91 Pb
 by_cases h1:0<=a <;> by_cases h2:a<=b <;> simp [h1,h2]
theorem auX (w:aiC) (x:Int):M89 (no_index (w,(x,())))=some (iQ x 0 (W (w.1 - 1)),()):=by
 unfold M89 Q89; simp only [asb,bU]
def aqp (n:Int) (r:amz):Bool:=iQ r.1 0 (W (n - 1)) && (iQ r.2.1 0 10080 && (iQ r.2.2.1 0 99999 && (Pb r.2.2.2.1 r.2.2.2.2.1 2880 && (iQ r.2.2.2.2.2.1 0 2880 && iQ r.2.2.2.2.2.2.1 0 10000))))
def apX (n:Int) (l:am8):Bool:=iQ l.1 0 (W (n - 1)) && (iQ l.2.1 0 (W (n - 1)) && (!decide (l.1=l.2.1) && iQ l.2.2.1 1 99999))
def aqh (p:aoe):Bool:=Pb p.1 p.2.1 2880 && (decide (W (p.2.1 - p.1)<=300) && (iQ p.2.2.1 0 50000 && iQ p.2.2.2.1 0 50000))
def atG (w:aiC):Bool:=iQ w.1 1 6 && (decide (w.2.1.n<=9) && (decide (w.2.2.1.n<=8) && (decide (w.2.2.2.1.n<=4) && (iQ w.2.2.2.2.1 1 99999 && (iQ w.2.2.2.2.2.1 1 2880 && (iQ w.2.2.2.2.2.2.1 1 2880 && decide (0<=w.2.2.2.2.2.2.2.1/\w.2.2.2.2.2.2.2.1<=w.2.2.2.2.2.2.2.2.1/\w.2.2.2.2.2.2.2.2.1<=1440)))))))
def akQ (w:aiC):Bool:=atG w && ((List.range w.2.1.n).all (fun j=>aqp w.1 (w.2.1.g j)) && ((List.range w.2.2.1.n).all (fun j=>apX w.1 (w.2.2.1.g j)) && (List.range w.2.2.2.1.n).all (fun j=>aqh (w.2.2.2.1.g j))))
theorem aGd (w:aiC) (r:amz):aaB (no_index (w,(r,())))=some (aqp w.1 r,()):=by
 unfold aaB aqV aqp
 simp only [atQ,auV,bU]
 cases iQ r.1 0 (W (w.1 - 1)) <;> cases iQ r.2.1 0 10080 <;> cases iQ r.2.2.1 0 99999 <;> cases Pb r.2.2.2.1 r.2.2.2.2.1 2880 <;> cases iQ r.2.2.2.2.2.1 0 2880 <;> rfl
theorem aGe (w:aiC) (l:am8):aaH (no_index (w,(l,())))=some (apX w.1 l,()):=by
 unfold aaH aq6 apX
 simp only [atQ,bU]
 cases iQ l.1 0 (W (w.1 - 1)) <;> cases iQ l.2.1 0 (W (w.1 - 1)) <;> cases decide (l.1=l.2.1) <;> rfl
theorem aGf (p:aoe):aaN (no_index (p,()))=some (aqh p,()):=by
 unfold aaN ari aqh
 simp only [atQ,auV,bU]
 cases Pb p.1 p.2.1 2880 <;> cases decide (W (p.2.1 - p.1)<=300) <;> cases iQ p.2.2.1 0 50000 <;> rfl
theorem auY (r:amz) (w:aiC):agD (no_index (r,(w,())))=some (!aqp w.1 r,()):=by unfold agD aqX; simp only [aGd,bU]
theorem auZ (l:am8) (w:aiC):agK (no_index (l,(w,())))=some (!apX w.1 l,()):=by unfold agK aq8; simp only [aGe,bU]
theorem au0 (p:aoe):agR (no_index (p,()))=some (!aqh p,()):=by unfold agR ark; simp only [aGf,bU]
def Vd (c:Nat->Bool) (n:Nat):Int:=match lO c n with
 | some k=>k
 | none=>-1
theorem KK (c:Nat->Bool) (n:Nat):decide ((0:Int)<=Vd c n)=(List.range n).any c:=by
 unfold Vd
 cases h:lO c n with
 | none =>
  have:(List.range n).any c=false:=by
   rw [List.any_eq_false]
   intro j hj
   simp [kL h j (by simpa using hj)]
  simp [this]
 | some k =>
  obtain ⟨k1,k2,_⟩:=nH h
  have:(List.range n).any c=true:=List.any_eq_true.2 ⟨k,by simpa using k1,k2⟩
  simp [this]
theorem ah9 {c:Nat->Bool} (n:Nat):(List.range n).any (fun j=>!c j) = !(List.range n).all c:=by
 rw [List.any_eq_not_all_not]; simp
theorem aGg {s:Sl amz} {F:amz×Unit->Bool×(Bool×Unit)} {c:amz->Bool} (hF:∀ y,F (y,())=(true,(c y,()))) (h:s.n<=140737488355328) :
  aay (s,(F,()))=some (Vd (fun j=>c (s.g j)) s.n,()):=by
 have:NZ (no_index (s,(F,(((s.n:Nat):Int),())))) (no_index ((0:Int),()))=match lO (fun j=>c (s.g j)) s.n with | some k=>.ret ((k:Int),()) | none=>.exit 0 ():=by
  unfold NZ
  refine qg (ps:=mG) (f:=fun j=>((j:Int),())) (ep h) (fun j hj _=>?_) fun _=>?_
  ·unfold NY NX
   simp only [dW hj,bO hj,ec hj h,hF,decide_true,cond_true,and_self,Int.toNat_natCast]
  ·unfold NY NX
   simp
 unfold aay aqO Vd
 simp only [this]
 cases lO (fun j=>c (s.g j)) s.n <;> rfl
theorem aGh {s:Sl amz} (F:amz×Unit->Bool×(Bool×Unit)) {c:amz->Bool} (hF:∀ y,F (y,())=(true,(c y,()))) (h:s.n<=140737488355328) :
  aaz (no_index (s,(F,())))=some ((List.range s.n).any (fun j=>c (s.g j)),()):=by
 unfold aaz aqQ
 rw [aGg hF h]
 simp only [bU,KK]
theorem aGn {s:Sl am8} {F:am8×Unit->Bool×(Bool×Unit)} {c:am8->Bool} (hF:∀ y,F (y,())=(true,(c y,()))) (h:s.n<=140737488355328) :
  aaF (s,(F,()))=some (Vd (fun j=>c (s.g j)) s.n,()):=by
 have:Oe (no_index (s,(F,(((s.n:Nat):Int),())))) (no_index ((0:Int),()))=match lO (fun j=>c (s.g j)) s.n with | some k=>.ret ((k:Int),()) | none=>.exit 0 ():=by
  unfold Oe
  refine qg (ps:=mH) (f:=fun j=>((j:Int),())) (ep h) (fun j hj _=>?_) fun _=>?_
  ·unfold Od Oc
   simp only [dW hj,bO hj,ec hj h,hF,decide_true,cond_true,and_self,Int.toNat_natCast]
  ·unfold Od Oc
   simp
 unfold aaF aq1 Vd
 simp only [this]
 cases lO (fun j=>c (s.g j)) s.n <;> rfl
theorem au1 {s:Sl am8} (F:am8×Unit->Bool×(Bool×Unit)) {c:am8->Bool} (hF:∀ y,F (y,())=(true,(c y,()))) (h:s.n<=140737488355328) :
  Uz (no_index (s,(F,())))=some ((List.range s.n).any (fun j=>c (s.g j)),()):=by
 unfold Uz aq3
 rw [aGn hF h]
 simp only [bU,KK]
theorem aGo {s:Sl aoe} {F:aoe×Unit->Bool×(Bool×Unit)} {c:aoe->Bool} (hF:∀ y,F (y,())=(true,(c y,()))) (h:s.n<=140737488355328) :
  aaL (s,(F,()))=some (Vd (fun j=>c (s.g j)) s.n,()):=by
 have:Oi (no_index (s,(F,(((s.n:Nat):Int),())))) (no_index ((0:Int),()))=match lO (fun j=>c (s.g j)) s.n with | some k=>.ret ((k:Int),()) | none=>.exit 0 ():=by
  unfold Oi
  refine qg (ps:=mI) (f:=fun j=>((j:Int),())) (ep h) (fun j hj _=>?_) fun _=>?_
  ·unfold Oh Og
   simp only [dW hj,bO hj,ec hj h,hF,decide_true,cond_true,and_self,Int.toNat_natCast]
  ·unfold Oh Og
   simp
 unfold aaL ard Vd
 simp only [this]
 cases lO (fun j=>c (s.g j)) s.n <;> rfl
theorem aGr {s:Sl aoe} (F:aoe×Unit->Bool×(Bool×Unit)) {c:aoe->Bool} (hF:∀ y,F (y,())=(true,(c y,()))) (h:s.n<=140737488355328) :
  aaM (no_index (s,(F,())))=some ((List.range s.n).any (fun j=>c (s.g j)),()):=by
 unfold aaM arf
 rw [aGo hF h]
 simp only [bU,KK]
theorem aGw (w:aiC) (h:w.2.1.n<=140737488355328) (F:amz×Unit->Bool×(Bool×Unit)) (hF:F=fun y1=>((aAk (y1.1,(w,()))),(aAl (y1.1,(w,()))))):aaz (no_index (w.2.1,(F,())))=some (!(List.range w.2.1.n).all (fun j=>aqp w.1 (w.2.1.g j)),()):=by
 rw [aGh (c:=fun y=>!aqp w.1 y) F (fun y=>by rw [hF]; exact Prod.ext (aiu (auY ..)) (ahw (auY ..))) h,ah9]
theorem aGx (w:aiC) (h:w.2.2.1.n<=140737488355328) (F:am8×Unit->Bool×(Bool×Unit)) (hF:F=fun y1=>((aAs (y1.1,(w,()))),(aAt (y1.1,(w,()))))):Uz (no_index (w.2.2.1,(F,())))=some (!(List.range w.2.2.1.n).all (fun j=>apX w.1 (w.2.2.1.g j)),()):=by
 rw [au1 (c:=fun y=>!apX w.1 y) F (fun y=>by rw [hF]; exact Prod.ext (aiu (auZ ..)) (ahw (auZ ..))) h,ah9]
theorem aGy (w:aiC) (h:w.2.2.2.1.n<=140737488355328) (F:aoe×Unit->Bool×(Bool×Unit)) (hF:F=fun y1=>((aAC y1),(aAD y1))):aaM (no_index (w.2.2.2.1,(F,())))=some (!(List.range w.2.2.2.1.n).all (fun j=>aqh (w.2.2.2.1.g j)),()):=by
 rw [aGr (c:=fun y=>!aqh y) F (fun y=>by rw [hF]; exact Prod.ext (aiu (au0 ..)) (ahw (au0 ..))) h,ah9]
theorem aT3 {a b c d:Int}:decide (a<=b/\b<=c/\c<=d)=(decide (a<=b) && (decide (b<=c) && decide (c<=d))):=by
 by_cases h1:a<=b <;> by_cases h2:b<=c <;> by_cases h3:c<=d <;> simp [h1,h2,h3]
theorem le9 (n:Nat):decide ((n:Int)<=(9:Int))=decide (n<=9):=by
 by_cases h:n<=9
 ·have h':(n:Int)<=9:=by omega
  simp [h,h']
 ·have h':¬ (n:Int)<=9:=by omega
  simp [h,h']
theorem le8 (n:Nat):decide ((n:Int)<=(8:Int))=decide (n<=8):=by
 by_cases h:n<=8
 ·have h':(n:Int)<=8:=by omega
  simp [h,h']
 ·have h':¬ (n:Int)<=8:=by omega
  simp [h,h']
theorem le4 (n:Nat):decide ((n:Int)<=(4:Int))=decide (n<=4):=by
 by_cases h:n<=4
 ·have h':(n:Int)<=4:=by omega
  simp [h,h']
 ·have h':¬ (n:Int)<=4:=by omega
  simp [h,h']
theorem atS (w:aiC):M93 (no_index (w,()))=some (akQ w,()):=by
 unfold M93 Q93 akQ atG
 simp only [atQ,bU,le9,le8,le4,aT3]
 cases iQ w.1 1 6 with
 | false=>rfl
 | true =>
 by_cases h1:w.2.1.n<=9
 case neg=>simp [h1]
 by_cases h2:w.2.2.1.n<=8
 case neg=>simp [h1,h2]
 by_cases h3:w.2.2.2.1.n<=4
 case neg=>simp [h1,h2,h3]
 simp only [h1,h2,h3,decide_true,cond_true,Bool.true_and]
 cases iQ w.2.2.2.2.1 1 99999 with
 | false=>rfl
 | true =>
 cases iQ w.2.2.2.2.2.1 1 2880 with
 | false=>rfl
 | true =>
 cases iQ w.2.2.2.2.2.2.1 1 2880 with
 | false=>rfl
 | true =>
 cases decide ((0:Int)<=w.2.2.2.2.2.2.2.1) with
 | false=>rfl
 | true =>
 cases decide (w.2.2.2.2.2.2.2.1<=w.2.2.2.2.2.2.2.2.1) with
 | false=>rfl
 | true =>
 cases decide (w.2.2.2.2.2.2.2.2.1<=(1440:Int)) with
 | false=>rfl
 | true =>
 simp only [cond_true,aGw w (by omega) _ rfl,aGx w (by omega) _ rfl,aGy w (by omega) _ rfl,bU,Bool.not_not]
 cases (List.range w.2.1.n).all (fun j=>aqp w.1 (w.2.1.g j)) <;> cases (List.range w.2.2.1.n).all (fun j=>apX w.1 (w.2.2.1.g j)) <;> rfl
theorem aC4 (w:aiC) (h:w.2.1.n<=140737488355328):abq (no_index ((),(w,()))) (no_index ((0:Int),()))=bif (List.range w.2.1.n).all (fun j=>aqp w.1 (w.2.1.g j)) then .exit 0 () else .ret (false,()):=by
 unfold abq
 refine eA (ps:=rP) (f:=fun j=>((j:Int),())) (ep h) (fun j hj _=>?_) fun _=>?_
 ·unfold abp abo aqp
  simp only [dW hj,bO hj,ec hj h,decide_true,cond_true,and_self,Int.toNat_natCast,asb,auX,auW,bU]
  generalize w.2.1.g j=r
  cases iQ r.1 0 (W (w.1 - 1)) <;> cases iQ r.2.1 0 10080 <;> cases iQ r.2.2.1 0 99999 <;> cases Pb r.2.2.2.1 r.2.2.2.2.1 2880 <;> cases iQ r.2.2.2.2.2.1 0 2880 <;> cases iQ r.2.2.2.2.2.2.1 0 10000 <;> rfl
 ·unfold abp abo
  simp
theorem aC5 (w:aiC) (h:w.2.2.1.n<=140737488355328):abw (no_index ((),(w,()))) (no_index ((0:Int),()))=bif (List.range w.2.2.1.n).all (fun j=>apX w.1 (w.2.2.1.g j)) then .exit 2 () else .ret (false,()):=by
 unfold abw
 refine eA (ps:=rQ) (f:=fun j=>((j:Int),())) (ep h) (fun j hj _=>?_) fun _=>?_
 ·unfold abv abu apX
  simp only [dW hj,bO hj,ec hj h,decide_true,cond_true,and_self,Int.toNat_natCast,asb,auX,auW,bU]
  cases iQ (w.2.2.1.g j).1 0 (W (w.1 - 1)) <;> cases iQ (w.2.2.1.g j).2.1 0 (W (w.1 - 1)) <;> cases decide ((w.2.2.1.g j).1=(w.2.2.1.g j).2.1) <;> cases iQ (w.2.2.1.g j).2.2.1 1 99999 <;> rfl
 ·unfold abv abu
  simp
theorem aT4 (x:Int):decide ((300:Int) < x) = !decide (x<=300):=by
 by_cases h:x<=300
 ·have h':¬ (300:Int) < x:=by omega
  simp [h,h']
 ·have h':(300:Int) < x:=by omega
  simp [h,h']
theorem aC6 (w:aiC) (h:w.2.2.2.1.n<=140737488355328):abB (no_index ((),(w,()))) (no_index ((0:Int),()))=bif (List.range w.2.2.2.1.n).all (fun j=>aqh (w.2.2.2.1.g j)) then .exit 4 () else .ret (false,()):=by
 unfold abB
 refine eA (ps:=rR) (f:=fun j=>((j:Int),())) (ep h) (fun j hj _=>?_) fun _=>?_
 ·unfold abA abz aqh
  simp only [dW hj,bO hj,ec hj h,decide_true,cond_true,and_self,Int.toNat_natCast,asb,auX,auW,bU,aT4]
  generalize w.2.2.2.1.g j=r
  cases Pb r.1 r.2.1 2880 <;> cases decide (W (r.2.1 - r.1)<=300) <;> cases iQ r.2.2.1 0 50000 <;> cases iQ r.2.2.2.1 0 50000 <;> rfl
 ·unfold abA abz
  simp
def apZ (w:aiC):Bool:=decide (w.2.1.n<=12) && (decide (w.2.2.1.n<=12) && decide (w.2.2.2.1.n<=8))
theorem atV {w:aiC} (h:apZ w=true):w.2.1.n<=12/\w.2.2.1.n<=12/\w.2.2.2.1.n<=8:=by
 simp only [apZ,Bool.and_eq_true,decide_eq_true_eq] at h
 exact ⟨h.1,h.2.1,h.2.2⟩
theorem aT5 {w:aiC} (h:apZ w=true):M27 (no_index (w,()))=some (akQ w,()):=by
 obtain ⟨h1,h2,h3⟩:=atV h
 unfold M27 Q27 akQ atG
 simp only [aC4 w (by omega),aC5 w (by omega),aC6 w (by omega),asb,bU,le9,le8,le4,aT3]
 cases (List.range w.2.1.n).all (fun j=>aqp w.1 (w.2.1.g j)) with
 | false=>rw [Bool.false_and,Bool.and_false]; rfl
 | true =>
 cases (List.range w.2.2.1.n).all (fun j=>apX w.1 (w.2.2.1.g j)) with
 | false=>simp; rfl
 | true =>
 cases (List.range w.2.2.2.1.n).all (fun j=>aqh (w.2.2.2.1.g j)) with
 | false=>simp; rfl
 | true =>
 simp only [cond_true,Bool.and_true]
 cases iQ w.1 1 6 <;> cases decide (w.2.1.n<=9) <;> cases decide (w.2.2.1.n<=8) <;> cases decide (w.2.2.2.1.n<=4) <;> cases iQ w.2.2.2.2.1 1 99999 <;> cases iQ w.2.2.2.2.2.1 1 2880 <;> cases iQ w.2.2.2.2.2.2.1 1 2880 <;>
  cases decide ((0:Int)<=w.2.2.2.2.2.2.2.1) <;> cases decide (w.2.2.2.2.2.2.2.1<=w.2.2.2.2.2.2.2.2.1) <;> rfl
end Go.Dm.Con

/- Orders of a round, and the days of a round. -/
import Derived.Test.YtgkaoimndglnoaaGreatL3TW1
set_option linter.unusedVariables false
set_option linter.unusedSimpArgs false
namespace Go.Dm.Wat
set_option maxRecDepth 100000
theorem atz (s:bI) (x:Int) (h:s.n<=140737488355328):NI (no_index (s,(x,())))=some (Vd (fun j=>decide (x=(s.g j).1)) s.n,()):=by
 have:Cw (no_index (s,(x,(((s.n:Nat):Int),())))) (no_index ((0:Int),()))=match lO (fun j=>decide (x=(s.g j).1)) s.n with | some k=>.ret ((k:Int),()) | none=>.exit 0 ():=by
  unfold Cw
  refine qg (ps:=kB) (f:=fun j=>((j:Int),())) (ep h) (fun j hj _=>?_) fun _=>?_
  ·unfold Cv Cu
   simp only [dW hj,bO hj,ec hj h,decide_true,cond_true,and_self,Int.toNat_natCast]
  ·unfold Cv Cu
   simp
 unfold NI agb Vd
 simp only [this]
 cases lO (fun j=>decide (x=(s.g j).1)) s.n <;> rfl
theorem alh (s:bI) (x:Int) (h:s.n<=140737488355328):M54 (no_index (s,(x,())))=some ((List.range s.n).any (fun j=>decide (x=(s.g j).1)),()):=by
 unfold M54 Q54
 rw [atz s x h]
 simp only [bU,KK]
def vk (o:bI) (j:Nat):Bool:=(List.range j).all fun k=>!decide ((o.g j).1=(o.g k).1)
def yl (r:dx) (o:bI) (j:Nat):Bool:=iQ (o.g j).1 0 (W (((r.2.1.n:Nat):Int) - 1)) && vk o j
def bL (r:dx) (o:bI):Bool:=(List.range o.n).all (yl r o)
theorem Vf (r:dx) (o:bI) {j:Nat} (hj:j < o.n) (h:o.n<=140737488355328):sQ (no_index (o,((),((j:Int),(r,()))))) (no_index ((0:Int),()))=bif vk o j then .exit 2 () else .ret (false,()):=by
 unfold sQ vk
 refine eA (ps:=iF) (f:=fun k=>((k:Int),())) (ep (n:=j) (by omega)) (fun k hk _=>?_) fun _=>?_
 ·have hk':k < o.n:=by omega
  have e:decide ((o.g k).1=(o.g j).1)=decide ((o.g j).1=(o.g k).1):=by
   by_cases e:(o.g k).1=(o.g j).1
   ·simp [e]
   ·simp [e,Ne.symm e]
  unfold wL wK
  simp only [dW hk,bO hk',bO hj,ec hk' h,decide_true,cond_true,and_self,Int.toNat_natCast,e]
  cases decide ((o.g j).1=(o.g k).1) <;> rfl
 ·unfold wL wK
  simp
theorem aCB (r:dx) (o:bI) (h:o.n<=140737488355328):M14 (no_index (r,(o,())))=some (bL r o,()):=by
 have:Ko (no_index (o,((),(r,())))) (no_index ((0:Int),()))=bif bL r o then .exit 0 () else .ret (false,()):=by
  unfold Ko bL
  refine eA (ps:=pK) (f:=fun j=>((j:Int),())) (ep h) (fun j hj _=>?_) fun _=>?_
  ·unfold Km Kl yl
   simp only [dW hj,bO hj,ec hj h,decide_true,cond_true,and_self,Int.toNat_natCast,Sg,bU,Vf r o hj h]
   cases iQ (o.g j).1 0 (W (((r.2.1.n:Nat):Int) - 1)) <;> cases vk o j <;> rfl
  ·unfold Km Kl
   simp
 unfold M14 Q14
 simp only [this]
 cases bL r o <;> rfl
theorem kM {r:dx} {o:bI} (h:bL r o=true) (hr:r.2.1.n<=9):o.n<=r.2.1.n:=by
 have hw:W (((r.2.1.n:Nat):Int) - 1)=((r.2.1.n:Nat):Int) - 1:=eU ⟨by omega,by omega⟩
 have hc:∀ j,j < o.n->0<=(o.g j).1/\(o.g j).1 < (r.2.1.n:Int)/\vk o j=true:=fun j hj=>by
  have:=iR h hj
  simp only [yl,Bool.and_eq_true,hw] at this
  have h1:=rW this.1
  exact ⟨h1.1,by omega,this.2⟩
 refine OY r.2.1.n o.n (fun j=>(o.g j).1.toNat) (fun j hj=>?_) (fun i j hij hj=>?_)
 ·have:=hc j hj; show (o.g j).1.toNat < _; omega
 ·have h1:=hc j hj
  have h2:=hc i (by omega)
  have:=iR h1.2.2 (j:=i) hij
  have hne:(o.g j).1≠(o.g i).1:=by simpa using this
  show (o.g i).1.toNat≠(o.g j).1.toNat
  omega
theorem aCO (r:dx) (o:bI) (h:o.n<=140737488355328) (hr:r.2.1.n<=9):M57 (no_index (r,(o,())))=some (bL r o,()):=by
 have:Kg (no_index (o,((),(o,(((o.n:Nat):Int),(r,())))))) (no_index ((0:Int),()))=bif bL r o then .exit 0 () else .ret (false,()):=by
  unfold Kg bL
  refine eA (ps:=pE) (f:=fun j=>((j:Int),())) (ep h) (fun j hj _=>?_) fun _=>?_
  ·have e1:((0:Int)<=(0:Int))/\(((0:Int)<=(j:Int))/\((j:Int)<=((o.n:Nat):Int))):=by omega
   have e2:Int.toNat ((j:Int) - (0:Int))=j:=by omega
   have e3:=alh (⟨j,fun i=>o.g (i + 0)⟩:bI) (o.g j).1 (by show j<=_; omega)
   have e4:(List.range j).any (fun i=>decide ((o.g j).1=(o.g (i + 0)).1)) = !vk o j:=by
    unfold vk
    rw [List.any_eq_not_all_not]
    rfl
   unfold Kf Ke yl
   simp only [dW hj,bO hj,ec hj h,e1,e2,decide_true,cond_true,and_self,Int.toNat_natCast,KJ,bU,and_self]
   have e5:M54 (no_index ((⟨j,fun i=>o.g (i + 0)⟩:bI),o.g j))=some (!vk o j,()):=by
    rw [<- e4]; exact e3
   rw [e5]
   cases iQ (o.g j).1 0 (W (((r.2.1.n:Nat):Int) - 1)) <;> cases vk o j <;> rfl
  ·unfold Kf Ke
   simp
 unfold M57 Q57
 simp only [this]
 by_cases hl:o.n<=r.2.1.n
 ·have hl':¬ (((r.2.1.n:Nat):Int) < ((o.n:Nat):Int)):=by omega
  simp only [hl',decide_false,cond_false]
  cases bL r o <;> rfl
 ·have hl':(((r.2.1.n:Nat):Int) < ((o.n:Nat):Int)):=by omega
  have:bL r o=false:=by
   cases hb:bL r o with
   | false=>rfl
   | true=>exact absurd (kM hb hr) hl
  simp [hl',this]
def KX (o:bI):Nat->Int
 | 0=>0
 | j + 1=>(o.g j).1 + 1
theorem acN (o:bI) (j:Nat):KX o (j + 1)=(o.g j).1 + 1:=rfl
def road (r:dx) (o:bI) (j:Nat):gW:=(r.2.2.1.g (KX o j).toNat).1.g ((o.g j).1 + 1).toNat
theorem fo {r:dx} {o:bI} (hr:bQ r=true) (h:bL r o=true) {j:Nat} (hj:j < o.n):0<=(o.g j).1/\(o.g j).1 < (r.2.1.n:Int)/\r.2.1.n<=6/\r.2.2.1.n=r.2.1.n + 1/\1<=r.2.1.n:=by
 simp only [bQ,Bool.and_eq_true,decide_eq_true_eq] at hr
 have h1:=rW hr.2.1
 have:=iR h hj
 simp only [yl,Bool.and_eq_true] at this
 have h2:=rW this.1
 rw [eU ⟨by omega,by omega⟩] at h2
 exact ⟨h2.1,by omega,by omega,hr.2.2.1,by omega⟩
theorem AG {r:dx} (hr:bQ r=true) {j:Nat} (hj:j < r.2.2.1.n):(r.2.2.1.g j).1.n=r.2.2.1.n:=by
 simp only [bQ,Bool.and_eq_true] at hr
 have:=iR hr.2.2.2.2 hj
 simp only [zG,Bool.and_eq_true,decide_eq_true_eq] at this
 exact this.1
theorem Pk {r:dx} {o:bI} (hr:bQ r=true) (h:bL r o=true) {j:Nat} (hj:j < o.n):0<=KX o j/\(KX o j).toNat < r.2.2.1.n/\KX o j < (r.2.2.1.n:Int):=by
 cases j with
 | zero=>have:=fo hr h hj; simp only [KX]; omega
 | succ j=>have:=fo hr h (j:=j) (by omega); simp only [KX]; omega
theorem aih {r:dx} (hr:bQ r=true) {i k:Nat} (hi:i < r.2.2.1.n) (hk:k < r.2.2.1.n):mM ((r.2.2.1.g i).1.g k)=true:=by
 have hl:=AG hr hi
 simp only [bQ,Bool.and_eq_true] at hr
 have:=iR hr.2.2.2.2 hi
 simp only [zG,Bool.and_eq_true,decide_eq_true_eq] at this
 exact iR this.2 (by omega)
theorem mN {r:dx} {o:bI} (hr:bQ r=true) (h:bL r o=true) {j:Nat} (hj:j < o.n):0<=(road r o j).1/\(road r o j).1<=(road r o j).2.1/\(road r o j).2.1<=60:=by
 have h1:=Pk hr h hj
 have h2:=fo hr h hj
 exact of_decide_eq_true (aih hr h1.2.1 (k:=((o.g j).1 + 1).toNat) (by omega))
def KY:Sl gW:=⟨0,fun _=>((0:Int),((0:Int),()))⟩
def ze:bI:=⟨0,fun _=>((0:Int),())⟩
theorem alj {r:dx} {o:bI} (hr:bQ r=true) (h:bL r o=true) (hs:o.n<=10):M59 (no_index (r,(o,())))=some (qA KY (road r o) o.n,()):=by
 have:QL (no_index ((),(o,(((o.n:Nat):Int),(r,()))))) (no_index (KY,((0:Int),((0:Int),())))) = .exit 0 (qA KY (road r o) o.n,()):=by
  unfold QL
  refine cX (ps:=oY) o.n dw (fun j=>(qA KY (road r o) j,(KX o j,((j:Int),())))) (ep (by omega)) (fun j hj=>?_) ?_
  ·have h1:=fo hr h hj
   have h2:=Pk hr h hj
   have h3:=AG hr h2.2.1
   have w1:W ((o.g j).1 + 1)=(o.g j).1 + 1:=eU ⟨by omega,by omega⟩
   have e2:((0:Int)<=KX o j/\KX o j < ((r.2.2.1.n:Nat):Int)):=⟨h2.1,h2.2.2⟩
   have e3:((0:Int)<=(o.g j).1 + 1/\(o.g j).1 + 1 < (((r.2.2.1.g (KX o j).toNat).1.n:Nat):Int)):=by rw [h3]; omega
   have e4:(j + 1) * 16<=140737488355328:=by omega
   unfold JV JU
   simp only [dW hj,bO hj,ec hj (by omega:o.n<=140737488355328),w1,e2,e3,ji (s0:=KY) rfl,e4,decide_true,cond_true,and_self,Int.toNat_natCast,qA,acN]
   rfl
  ·unfold JV JU
   simp
 unfold M59 Q59
 exact congrArg (fun q=>bp q 0 (fun u0=>some u0) none) this
def st (r:dx) (o:bI) (l:Nat->Int):Nat->Int
 | 0=>r.1
 | j + 1=>W (W (st r o l j + l j) + (r.2.1.g (o.g j).1.toNat).1)
def arr (r:dx) (o:bI) (l:Nat->Int) (j:Nat):Int:=W (st r o l j + l j)
theorem alk {r:dx} {o l:bI} (hr:bQ r=true) (h:bL r o=true) (hs:o.n<=10) (hl:l.n=o.n) :
  M62 (r,(o,(l,())))=some (qA ze (fun j=>(arr r o (fun i=>(l.g i).1) j,())) o.n,(st r o (fun i=>(l.g i).1) o.n,())):=by
 have:QT (no_index (l,((),(o,(((o.n:Nat):Int),(r,())))))) (no_index (ze,(r.1,((0:Int),())))) = .exit 0 (qA ze (fun j=>(arr r o (fun i=>(l.g i).1) j,())) o.n,(st r o (fun i=>(l.g i).1) o.n,())):=by
  unfold QT
  refine cX (ps:=pe) o.n dw (fun j=>(qA ze (fun j=>(arr r o (fun i=>(l.g i).1) j,())) j,(st r o (fun i=>(l.g i).1) j,((j:Int),())))) (ep (by omega)) (fun j hj=>?_) ?_
  ·have h1:=fo hr h hj
   have e2:((0:Int)<=(o.g j).1/\(o.g j).1 < ((r.2.1.n:Nat):Int)):=⟨h1.1,h1.2.1⟩
   have e4:(j + 1) * 8<=140737488355328:=by omega
   unfold JX JW
   simp only [dW hj,bO hj,hl,ec hj (by omega:o.n<=140737488355328),e2,ji (s0:=ze) rfl,e4,decide_true,cond_true,and_self,Int.toNat_natCast,qA,st,arr]
   rfl
  ·unfold JX JW
   simp
 unfold M62 Q62
 exact congrArg (fun q=>bp q 0 (fun u0=>some u0) none) this
def Pg (r:dx) (o l:bI) (j:Nat):Bool:=iQ (l.g j).1 (road r o j).1 (road r o j).2.1
def nI (r:dx) (o l:bI):Bool:=decide (l.n=o.n) && (List.range o.n).all (Pg r o l)
theorem ajD (x lo hi:Int):M60 (no_index (x,((lo,(hi,())),())))=some (iQ x lo hi,()):=by unfold M60 Q60; simp [KJ]
theorem aCP (x lo hi:Int):p60 (no_index (x,((lo,(hi,())),())))=true:=aiu (ajD x lo hi)
theorem aCQ (x lo hi:Int):v60 (no_index (x,((lo,(hi,())),())))=(iQ x lo hi,()):=ahw (ajD x lo hi)
theorem aCR {r:dx} {o l:bI} (hs:o.n<=10):M58 (no_index (l,(qA KY (road r o) o.n,((fun y1=>((p60 y1),(v60 y1))),()))))=some (nI r o l,()):=by
 unfold M58 Q58 nI
 simp only [ji (s0:=KY) rfl,Int.natCast_inj]
 by_cases hl:l.n=o.n
 ·have:Kr (qA KY (road r o) o.n,((fun y1=>((p60 y1),(v60 y1))),(l,(((l.n:Nat):Int),())))) ((0:Int),())=bif (List.range o.n).all (Pg r o l) then .exit 0 () else .ret (false,()):=by
   unfold Kr
   refine eA (ps:=pL) (f:=fun j=>((j:Int),())) (ep (n:=o.n) (by omega)) (fun j hj _=>?_) fun _=>?_
   ·have hj':j < l.n:=by omega
    have hx:∀ x:Int,(qA KY (road r o) o.n).g j=road r o j:=fun _=>qi rfl hj
    unfold Kq Kp Pg
    simp only [dW hj',bO hj',bO hj,ji (s0:=KY) rfl,ec hj (by omega:o.n<=140737488355328),qi (s0:=KY) rfl hj,decide_true,cond_true,and_self,Int.toNat_natCast]
    have hp:p60 (no_index ((l.g j).1,(road r o j,())))=true:=aCP _ _ _
    have hv:v60 (no_index ((l.g j).1,(road r o j,())))=(iQ (l.g j).1 (road r o j).1 (road r o j).2.1,()):=aCQ _ _ _
    rw [hp,hv]
    cases iQ (l.g j).1 (road r o j).1 (road r o j).2.1 <;> rfl
   ·unfold Kq Kp
    simp [hl]
  rw [hl] at this
  simp only [hl,decide_true,this]
  cases (List.range o.n).all (Pg r o l) <;> rfl
 ·simp [hl]
theorem aCy {r:dx} {o:bI} (hr:bQ r=true) (h:bL r o=true) (hs:o.n<=10) {j:Nat} (hj:j < o.n):M15 (no_index (r,(o,((j:Int),()))))=some (road r o j,()):=by
 have h1:=fo hr h hj
 have h2:=Pk hr h hj
 have h3:=AG hr h2.2.1
 have w1:W ((o.g j).1 + 1)=(o.g j).1 + 1:=eU ⟨by omega,by omega⟩
 have e3:((0:Int)<=(o.g j).1 + 1/\(o.g j).1 + 1 < (((r.2.2.1.g (KX o j).toNat).1.n:Nat):Int)):=by rw [h3]; omega
 unfold M15 Q15
 cases j with
 | zero =>
  have e4:((0:Int)<=(0:Int))/\((0:Int) < ((r.2.2.1.n:Nat):Int)):=by omega
  have e5:((0:Int)<=(o.g 0).1 + 1/\(o.g 0).1 + 1 < (((r.2.2.1.g 0).1.n:Nat):Int)):=e3
  have e6:¬ ((0:Int) < ((0:Nat):Int)):=by omega
  simp only [e6,bO hj,w1,e4,e5,decide_true,decide_false,cond_true,cond_false,Int.toNat_natCast,and_self]
  rfl
 | succ j =>
  have hj':j < o.n:=by omega
  have Sy:=fo hr h hj'
  have w0:W (((j + 1:Nat):Int) - 1)=(j:Int):=by rw [eU ⟨by omega,by omega⟩]; omega
  have w2:W ((o.g j).1 + 1)=(o.g j).1 + 1:=eU ⟨by omega,by omega⟩
  have e4:((0:Int)<=(o.g j).1 + 1/\(o.g j).1 + 1 < ((r.2.2.1.n:Nat):Int)):=by omega
  have e5:((0:Int)<=(o.g (j + 1)).1 + 1/\(o.g (j + 1)).1 + 1 < (((r.2.2.1.g ((o.g j).1 + 1).toNat).1.n:Nat):Int)):=e3
  have e6:((0:Int) < ((j + 1:Nat):Int)):=by omega
  simp only [e6,w0,bO hj,bO hj',w1,w2,e4,e5,decide_true,cond_true,and_self,Int.toNat_natCast]
  rfl
theorem aCS {r:dx} {o l:bI} (h:vj r) (ho:o.n<=10) (hl:l.n<=10):M16 (no_index (r,(o,(l,()))))=some (bif bQ r && (bL r o && nI r o l) then
      (qA ze (fun j=>(arr r o (fun i=>(l.g i).1) j,())) o.n,(st r o (fun i=>(l.g i).1) o.n,((0:Int),()))) else (ze,((0:Int),((2:Int),())))):=by
  have hs:=h.1
  unfold M16 Q16
  simp only [alf h,aCO r o (by omega) hs,bU]
  cases hr:bQ r with
  | false=>rfl
  | true =>
  cases hb:bL r o with
  | false=>rfl
  | true =>
  simp only [alj hr hb ho,bU,aCR ho,Bool.not_true,cond_false]
  cases hc:nI r o l with
  | false=>rfl
  | true =>
    have hn:l.n=o.n:=by simp only [nI,Bool.and_eq_true,decide_eq_true_eq] at hc; exact hc.1
    simp only [alk hr hb ho hn,bU]
    rfl
end Go.Dm.Wat

/- The best order. -/
import Derived.Test.YtgkaoimndglnoaaGreatL3TW12
set_option linter.unusedVariables false
set_option linter.unusedSimpArgs false
namespace Go.Dm.Wat
set_option maxRecDepth 100000
def KN (o:bI):Prop:=∀ j,j < o.n->0<=(o.g j).1/\(o.g j).1 < 10
def yp (o:bI):Nat->Int
 | 0=>0
 | j + 1=>10 * yp o j + (o.g j).1
theorem Ia {a b:bI}:∀ {n:Nat},(∀ j,j < n->(a.g j).1=(b.g j).1)->yp a n=yp b n
 | 0,_=>rfl
 | n + 1,h=>by rw [yp,yp,Ia fun j hj=>h j (by omega),h n (by omega)]
theorem Pj {a b:bI} {N:Nat} (ha:∀ j,j < N->0<=(a.g j).1/\(a.g j).1 < 10) (hb:∀ j,j < N->0<=(b.g j).1/\(b.g j).1 < 10) {k:Nat} (he:∀ j,j < k->(a.g j).1=(b.g j).1) (hk:(a.g k).1 < (b.g k).1) :
  ∀ {n:Nat},k < n->n<=N->yp a n < yp b n
 | 0,h,_=>by omega
 | n + 1,h,hn=>by
  have h1:=ha n (by omega)
  have h2:=hb n (by omega)
  rw [yp,yp]
  by_cases e:k=n
  ·subst e
   rw [Ia he]; omega
  ·have:=Pj ha hb he hk (n:=n) (by omega) (by omega)
   omega
def acO (a b:bI) (n:Nat):Option Nat:=lO (fun j=>!decide ((a.g j).1=(b.g j).1)) n
def lexB (a b:bI) (n:Nat):Bool:=match acO a b n with
 | some k=>decide ((a.g k).1 < (b.g k).1)
 | none=>false
theorem atu {a b:bI} {n:Nat} (ha:∀ j,j < n->0<=(a.g j).1/\(a.g j).1 < 10) (hb:∀ j,j < n->0<=(b.g j).1/\(b.g j).1 < 10):lexB a b n=decide (yp a n < yp b n):=by
 unfold lexB acO
 cases h:lO (fun j=>!decide ((a.g j).1=(b.g j).1)) n with
 | none =>
  have:=Ia (a:=a) (b:=b) (n:=n) fun j hj=>by
   have:=kL h j hj
   simpa using this
  simp [this]
 | some k =>
  obtain ⟨k1,k2,k3⟩:=nH h
  have he:∀ j,j < k->(a.g j).1=(b.g j).1:=fun j hj=>by simpa using k3 j hj
  have hne:(a.g k).1≠(b.g k).1:=by simpa using k2
  by_cases e:(a.g k).1 < (b.g k).1
  ·have:=Pj ha hb he e k1 (Nat.le_refl _)
   simp [e,this]
  ·have:=Pj hb ha (fun j hj=>(he j hj).symm) (show (b.g k).1 < (a.g k).1 by omega) k1 (Nat.le_refl _)
   have h':¬ (yp a n < yp b n):=by omega
   simp [e,h']
theorem atv (x y:Int):JZ (no_index (x,(y,())))=some (bif decide (x < y) then (-1:Int) else bif decide (y < x) then 1 else 0,()):=by
 unfold JZ agh NK age
 simp only [bU,decide_true,Bool.not_true,cond_false]
 cases decide (x < y) <;> cases decide (y < x) <;> rfl
theorem atw {a b:bI} (hn:a.n=b.n) (hs:a.n<=10):∃ q:Int,NL (no_index (a,(b,())))=some (q,())/\decide (q < 0)=lexB a b a.n:=by
 have:Cz (no_index (a,(b,(a,(((a.n:Nat):Int),()))))) (no_index ((0:Int),()))=match acO a b a.n with
   | some k=>.ret (bif decide ((a.g k).1 < (b.g k).1) then (-1:Int) else bif decide ((b.g k).1 < (a.g k).1) then 1 else 0,())
   | none=>.exit 0 ():=by
  unfold Cz acO
  refine qg (ps:=kC) (wy:=wE) (f:=fun j=>((j:Int),())) (ep (n:=a.n) (by omega)) (fun j hj _=>?_) fun _=>?_
  ·have hj':j < b.n:=by omega
   have e1:¬ (((b.n:Nat):Int)<=(j:Int)):=by omega
   unfold Cy Cx
   simp only [dW hj,bO hj,bO hj',e1,ec hj (by omega:a.n<=140737488355328),decide_true,decide_false,cond_true,cond_false,and_self,Int.toNat_natCast]
   have ap7:JZ (no_index ((a.g j).1,b.g j))=_:=atv (a.g j).1 (b.g j).1
   rw [ap7]
   by_cases h1:(a.g j).1 < (b.g j).1
   ·have h2:¬ ((a.g j).1=(b.g j).1):=by omega
    simp [h1,h2]
   ·by_cases h2:(b.g j).1 < (a.g j).1
    ·have h3:¬ ((a.g j).1=(b.g j).1):=by omega
     simp [h1,h2,h3]
    ·have h3:(a.g j).1=(b.g j).1:=by omega
     simp [h3]
  ·unfold Cy Cx
   simp
 unfold NL agl lexB
 simp only [this]
 cases h:acO a b a.n with
 | none =>
  have e:¬ (((a.n:Nat):Int) < ((b.n:Nat):Int)):=by omega
  refine ⟨0,?_,rfl⟩
  show (bif decide (((a.n:Nat):Int) < ((b.n:Nat):Int)) then _ else _)=_
  simp only [e,decide_false,cond_false]
 | some k =>
  refine ⟨_,rfl,?_⟩
  by_cases h1:(a.g k).1 < (b.g k).1
  ·simp [h1]
  ·by_cases h2:(b.g k).1 < (a.g k).1
   ·simp [h1,h2]
   ·simp [h1,h2]
def Bet (n:Nat) (e c:Int) (n':Nat) (e' c':Int):Prop:=n' < n\/(n=n'/\(e < e'\/(e=e'/\c < c')))
instance (n:Nat) (e c:Int) (n':Nat) (e' c':Int):Decidable (Bet n e c n' e' c'):=by unfold Bet; infer_instance
def better (a b:iT):Bool:=decide (Bet a.1.n a.2.1 (yp a.1 a.1.n) b.1.n b.2.1 (yp b.1 b.1.n))
theorem ali {a b:iT} (h1:a.1.n<=10) (h2:KN a.1) (h3:KN b.1):M56 (no_index (a,(b,())))=some (better a b,()):=by
 unfold M56 Q56 better Bet
 by_cases e:a.1.n=b.1.n
 case neg =>
  have e':¬ (((a.1.n:Nat):Int)=((b.1.n:Nat):Int)):=by omega
  have:(((b.1.n:Nat):Int) < ((a.1.n:Nat):Int))↔b.1.n < a.1.n:=by omega
  simp [e,e']
 have e':(((a.1.n:Nat):Int)=((b.1.n:Nat):Int)):=by omega
 obtain ⟨q,q1,q2⟩:=atw e h1
 have q3:=atu (n:=a.1.n) h2 (fun j hj=>h3 j (by omega))
 by_cases e2:a.2.1=b.2.1
 ·simp only [e',e2,decide_true,Bool.not_true,cond_false,q1,bU]
  rw [q2,q3,e]
  simp
 ·simp [e',e2,e]
theorem aCL {a b:iT} (h1:a.1.n<=10) (h2:KN a.1) (h3:KN b.1):p56 (no_index (a,(b,())))=true:=aiu (ali h1 h2 h3 ..)
theorem aCM {a b:iT} (h1:a.1.n<=10) (h2:KN a.1) (h3:KN b.1):v56 (no_index (a,(b,())))=(better a b,()):=ahw (ali h1 h2 h3 ..)
theorem aCN {all:Sl iT} (hs:all.n<=2147483648) (h0:0 < all.n) (hd:∀ j,j < all.n->(all.g j).1.n<=10/\KN (all.g j).1) :
  ∃ i,i < all.n/\M55 (no_index (all,((fun y1=>((p56 y1),(v56 y1))),())))=some (all.g i,())/\∀ k,k < all.n->better (all.g k) (all.g i)=false:=by
 have:=Ex (ps:=pH) (wy:=uR) (step:=En (no_index ((fun y1=>((p56 y1),(v56 y1))),((),((),(all,(((all.n:Nat):Int),(((⟨0,fun i=>((0:Int),())⟩:Sl _),((0:Int),())),())))))))) (N:=dw)
  (P:=fun j s=>∃ i,i < all.n/\s=((j:Int),(all.g i,()))/\∀ k,k < j->better (all.g k) (all.g i)=false)
  (q:=fun s=>.exit 0 (s.2.1,())) all.n (ep (by omega)) ?_ ?_ ((0:Int),(all.g 0,())) ⟨0,h0,rfl,fun k hk=>by omega⟩
 ·obtain ⟨s',⟨i,hi,rfl,hb⟩,e⟩:=this
  refine ⟨i,hi,?_,hb⟩
  unfold M55 Q55
  have h0':((0:Int)<=(0:Int))/\((0:Int) < ((all.n:Nat):Int)):=by omega
  simp only [h0',decide_true,cond_true,and_self]
  exact congrArg (fun (q:LQ uR)=>bp q 0 (fun (u0:(aa (ct uR 0)).den)=>(some (u0.1,()):Option (r55).den)) none) e
 ·rintro j s hj ⟨i,hi,rfl,hb⟩
  have d1:=hd j hj
  have d2:=hd i hi
  unfold En Kj
  simp only [dW hj,bO hj,ec hj (by omega:all.n<=140737488355328),decide_true,cond_true,and_self,Int.toNat_natCast,aCL d1.1 d1.2 d2.2,aCM d1.1 d1.2 d2.2]
  cases hbt:better (all.g j) (all.g i) with
  | true =>
   refine ⟨_,rfl,j,hj,rfl,fun k hk=>?_⟩
   have t1:=of_decide_eq_true hbt
   by_cases e:k=j
   ·subst e
    exact decide_eq_false (by unfold Bet; omega)
   ·have t2:=of_decide_eq_false (hb k (by omega))
    refine decide_eq_false ?_
    unfold Bet at t1 t2 ⊢
    omega
  | false =>
   refine ⟨_,rfl,i,hi,rfl,fun k hk=>?_⟩
   by_cases e:k=j
   ·subst e; exact hbt
   ·exact hb k (by omega)
 ·rintro s ⟨i,hi,rfl,hb⟩
  unfold En Kj
  simp
theorem Ve {r:dx} (hr:bQ r=true) {o:bI} (ho:bL r o=true):KN o:=fun j hj=>by
 have:=fo hr ho hj; omega
theorem HZ.yp {o p:bI} (h:HZ o p):yp p p.n=yp o o.n:=by
 rw [<- h.1]; exact Ia fun j hj=>by rw [h.2 j hj]
structure aty (r:dx) (l:bI) (d:Int):Prop where
 ord:bL r l=true
 sure:iS r l=true
 fin:d=CW r l
 top:∀ p,bL r p=true->iS r p=true->¬ Bet p.n (CW r p) (yp p p.n) l.n d (yp l l.n)
theorem aCA {r:dx} (hr:bQ r=true) (hsm:vj r):∃ l d,M13 (no_index (r,()))=some (l,(d,((0:Int),())))/\aty r l d:=by
 have hm:=AH hr
 have ho:bL r ze=true:=rfl
 obtain ⟨all,e1,hz,hg,hh⟩:=KM hr 9 ze ⟨0,fun i=>((⟨0,fun i=>((0:Int),())⟩:Sl _),((0:Int),()))⟩ ho (by omega) (by decide)
 have hsz:Ph 9=2015539:=by decide
 rw [hsz] at hz
 have Px:all.n<=2015539:=by simpa using hz
 obtain ⟨j0,hj0,_⟩:=hh ze ⟨Nat.le_refl _,fun _ _=>rfl⟩ ho rfl
 have acQ:∀ j,j < all.n->Good r (all.g j):=fun j hj=>hg.new j (Nat.zero_le _) hj
 obtain ⟨i,hi,e2,hb⟩:=aCN (all:=all) (by omega) (by omega) fun j hj=>by
  have:=acQ j hj
  have hl:=kM this.1 (by omega)
  exact ⟨by omega,Ve hr this.1⟩
 have Lw:=acQ i hi
 refine ⟨(all.g i).1,(all.g i).2.1,?_,Lw.1,Lw.2.1,Lw.2.2,fun p hp1 hp2=>?_⟩
 ·unfold M13 Q13
  simp only [alf hsm,hr,bU,Bool.not_true,cond_false]
  have e1':F51 9 (no_index ((⟨0,fun i=>((0:Int),())⟩:Sl _),((),((),((),(r,(((⟨0,fun i=>((⟨0,fun i=>((0:Int),())⟩:Sl _),((0:Int),()))⟩:Sl _),()),(((),()),()))))))))=aid r all:=e1
  rw [e1']
  refine (adS _ _ _ _).trans ?_
  refine (congrArg (fun q=>cl _ q _ _) e2).trans ?_
  rfl
 ·obtain ⟨j,hj,hs⟩:=hh p ⟨Nat.zero_le _,fun k hk=>absurd hk (Nat.not_lt_zero _)⟩ hp1 hp2
  have:=of_decide_eq_false (hb j hj)
  rw [(acQ j hj).2.2,<- hs.CW,<- hs.yp,hs.1] at this
  exact this
end Go.Dm.Wat

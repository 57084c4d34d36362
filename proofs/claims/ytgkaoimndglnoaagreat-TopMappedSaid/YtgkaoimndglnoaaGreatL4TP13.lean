/- Bounds, the drawn field, and what fits. -/
import Derived.Test.YtgkaoimndglnoaaGreatL4TP12
import Derived.Test.YtgkaoimndglnoaaGreatL4TP3
set_option linter.unusedVariables false
set_option linter.unusedSimpArgs false
namespace Go.Dm
set_option maxRecDepth 100000
def alJ (m:adh):Prop:=∃ i k,i < k/\k < (sta m).n/\adu m i k=true
theorem auc {m:adh} (hb:adm m=true):(AgC m/\M86 (no_index (m,((fun y1=>(p87 y1,v87 y1)),())))=some (aY9 m,((0:Int),())))\/(alJ m/\∃ z,M86 (no_index (m,((fun y1=>(p87 y1,v87 y1)),())))=some (z,((7:Int),()))):=by
 have h:=aWl hb
 obtain ⟨a,b,is,e,h1,h2⟩:=aXe h
 have run:∀ {r},(bif is then some (((0:Int),((0:Int),((0:Int),((⟨0,fun i=>((0:Int),((0:Int),((0:Int),())))⟩:Sl csT),((0:Int),((0:Int),())))))),((7:Int),())) else some (aY9 m,((0:Int),())))=r->M86 (no_index (m,((fun y1=>(p87 y1,v87 y1)),())))=r:=by
  intro r hr
  unfold M86 Q86
  refine (cI (aZb m)).trans ?_
  refine (cR (by rw [hb]; rfl)).trans ?_
  refine (cI (x:=(aY9 m,())) rfl).trans ?_
  refine (cn rfl).trans ?_
  refine (cR rfl).trans ?_
  exact (cI e).trans hr
 cases is with
 | false=>exact .inl ⟨h1 rfl,run rfl⟩
 | true=>exact .inr ⟨h2 rfl,_,run rfl⟩
theorem alM {m:adh} {p:Nat} {X:Int} (h0:0<=X):∀ {n:Nat},(∀ j,j < n->plo m j - cst m p (adf m j)<=X)->loC m p n<=X
 | 0,_=>h0
 | n + 1,h=>by
  have h1:=alM h0 (n:=n) fun j hj=>h j (by omega)
  have h2:=h n (by omega)
  simp only [loC]; omega
theorem aja {m:adh} {p:Nat} {X:Int} (h0:X<=99999):∀ {n:Nat},(∀ j,j < n->X<=phi m j + cst m p (adf m j))->X<=hiC m p n
 | 0,_=>h0
 | n + 1,h=>by
  have h1:=aja h0 (n:=n) fun j hj=>h j (by omega)
  have h2:=h n (by omega)
  simp only [hiC]; omega
theorem alO (m:adh) (p:Nat):∀ {n:Nat},0<=loC m p n/\∀ j,j < n->plo m j - cst m p (adf m j)<=loC m p n
 | 0=>⟨Int.le_refl _,fun j hj=>by omega⟩
 | n + 1=>by
  obtain ⟨h0,h1⟩:=alO m p (n:=n)
  refine ⟨by simp only [loC]; omega,fun j hj=>?_⟩
  by_cases e:j=n
  ·subst e; simp only [loC]; omega
  ·have:=h1 j (by omega)
   simp only [loC]; omega
theorem alQ (m:adh) (p:Nat):∀ {n:Nat},hiC m p n<=99999/\∀ j,j < n->hiC m p n<=phi m j + cst m p (adf m j)
 | 0=>⟨Int.le_refl _,fun j hj=>by omega⟩
 | n + 1=>by
  obtain ⟨h0,h1⟩:=alQ m p (n:=n)
  refine ⟨by simp only [hiC]; omega,fun j hj=>?_⟩
  by_cases e:j=n
  ·subst e; simp only [hiC]; omega
  ·have:=h1 j (by omega)
   simp only [hiC]; omega
theorem aFA {m:adh} (h:aqq m) (ha:AgC m) (p:Nat) {i k:Nat} (hi:i < (sta m).n) (hk:k < (sta m).n):plo m i - cst m p (adf m i)<=phi m k + cst m p (adf m k):=by
 have a3:=h.pr i hi
 have a4:=h.pr k hk
 have g1:=avr h p (adf m i)
 have g2:=avr h p (adf m k)
 by_cases e:i=k
 ·subst e; unfold plo phi; omega
 ·rcases Nat.lt_or_gt_of_ne e with q | q
  ·have:=ha i k q hk
   unfold adu at this
   rw [Bool.or_eq_false_iff] at this
   have h1:=of_decide_eq_false this.1
   have g3:=aLz h (adf m i) (adf m k) p
   omega
  ·have:=ha k i q hi
   unfold adu at this
   rw [Bool.or_eq_false_iff] at this
   have h1:=of_decide_eq_false this.2
   have g3:=aLz h (adf m k) (adf m i) p
   omega
theorem aud {m:adh} (h:aqq m) (ha:AgC m) (p:Nat):0<=loA m p/\loA m p<=hiA m p/\hiA m p<=99999:=by
 refine ⟨(alO m p).1,?_,(alQ m p).1⟩
 refine alM ?_ fun i hi=>aja ?_ fun k hk=>aFA h ha p hi hk
 ·refine aja (by omega) fun k hk=>?_
  have a4:=h.pr k hk
  have g2:=avr h p (adf m k)
  unfold phi; omega
 ·have a4:=h.pr i hi
  have g2:=avr h p (adf m i)
  unfold plo; omega
def sP0:Sl (Int×Int×Unit):=⟨0,fun _=>((0:Int),((0:Int),()))⟩
def aiz (m:adh) (n:Nat):Sl (Int×Int×Unit):=qA sP0 (fun p=>(loA m p,(hiA m p,()))) n
theorem aiR (m:adh) (n:Nat):(aiJ m n).n=n:=ji rfl
theorem ajA (m:adh) (n:Nat):(aii m n).n=n:=ji rfl
theorem alR (m:adh) {n p:Nat} (hp:p < n):(aiJ m n).g p=(loA m p,()):=qi rfl hp
theorem ajT (m:adh) {n p:Nat} (hp:p < n):(aii m n).g p=(hiA m p,()):=qi rfl hp
theorem arU {m:adh} {N:Nat} (hN:N<=30):ajr (no_index ((),(((N:Nat):Int),((aiJ m N,(aii m N,())),())))) (no_index (sP0,((0:Int),()))) = .exit 0 (aiz m N,()):=by
 unfold ajr
 refine cX (ps:=rG) N dw (fun p=>(aiz m p,((p:Int),()))) (by unfold dw; omega) (fun p hp=>?_) ?_
 ·unfold Yi Yh
  have n1:=aiR m N
  have n2:=ajA m N
  refine (cn (decide_eq_true (dW hp))).trans ?_
  refine (cn (decide_eq_true (bO (show p < (aiJ m N).n by omega)))).trans ?_
  refine (cn (decide_eq_true (bO (show p < (aii m N).n by omega)))).trans ?_
  refine (cn (decide_eq_true (by show ((aiz m p).n + 1) * 16<=140737488355328; unfold aiz; rw [ji rfl]; omega))).trans ?_
  rw [<- ec hp (by omega)]
  have e:(((aiJ m N).g p).1,(aii m N).g p)=(loA m p,(hiA m p,())):=by rw [alR m hp,ajT m hp]
  exact congrArg (fun (y:Int×Int×Unit)=>(RQ.next (cj (aiz m p) ⟨1,fun i=>List.getD [y] i y⟩,(W ((p:Int) + 1),())):RQ rG FT)) e
 ·unfold Yi Yh
  exact cR (decide_eq_false (by show ¬ (((N:Nat):Int) < ((N:Nat):Int)); omega))
theorem baL {m:adh} (hb:adm m=true):(AgC m/\M25 (no_index (m,()))=some (aiz m (adr m),((0:Int),())))\/(alJ m/\∃ z,M25 (no_index (m,()))=some (z,((7:Int),()))):=by
 have h:=aWl hb
 have hN:=h.eN
 unfold M25 Q25
 rcases auc hb with ⟨ha,e⟩ | ⟨hc,z,e⟩
 ·refine .inl ⟨ha,(cI e).trans ?_⟩
  refine (cR rfl).trans ?_
  refine (cI (aZ6 h)).trans ?_
  have:=arU (m:=m) (N:=adr m) (by omega)
  have e1:ajr (no_index ((),((((aiJ m (adr m)).n:Nat):Int),((aiJ m (adr m),(aii m (adr m),())),())))) (no_index (sP0,((0:Int),()))) = .exit 0 (aiz m (adr m),()):=by rw [aiR]; exact this
  exact gV e1
 ·exact .inr ⟨hc,_,(cI e).trans (cn rfl)⟩
def ajb (m:adh) (p:Nat):Int:=Int.tdiv (loA m p + hiA m p) 2
def drawn (m:adh) (n:Nat):Sl (Int×Unit):=qA i0 (fun p=>(ajb m p,())) n
theorem ax5 {m:adh} (h:aqq m) (ha:AgC m) (p:Nat):loA m p<=ajb m p/\ajb m p<=hiA m p:=by
 have:=aud h ha p
 unfold ajb
 rw [Int.tdiv_eq_ediv_of_nonneg (by omega)]
 omega
theorem arV {m:adh} (h:aqq m) (ha:AgC m) {N:Nat} (hN:N<=30) {z:fdT}:ajt (no_index ((),((),((),(((N:Nat):Int),(z,((aiJ m N,(aii m N,())),()))))))) (no_index ((0:Int),((m.1,(i0,())),()))) = .exit 0 ((m.1,(drawn m N,())),()):=by
 unfold ajt
 refine cX (ps:=rH) N dw (fun p=>((p:Int),((m.1,(drawn m p,())),()))) (by unfold dw; omega) (fun p hp=>?_) ?_
 ·unfold Ym Yl
  have n1:=aiR m N
  have n2:=ajA m N
  have hb:=aud h ha p
  have hm:=ax5 h ha p
  refine (cn (decide_eq_true (dW hp))).trans ?_
  refine (cn (decide_eq_true (bO (show p < (aiJ m N).n by omega)))).trans ?_
  refine (cn (decide_eq_true (bO (show p < (aii m N).n by omega)))).trans ?_
  refine (cn (decide_eq_true (by show ((drawn m p).n + 1) * 8<=140737488355328; unfold drawn; rw [ji rfl]; omega))).trans ?_
  rw [<- ec hp (by omega)]
  have e:W (Int.tdiv (W (((aiJ m N).g p).1 + ((aii m N).g p).1)) 2)=ajb m p:=by
   rw [alR m hp,ajT m hp,eU (n:=loA m p + hiA m p) ⟨by omega,by omega⟩]
   exact eU ⟨by unfold ajb at hm; omega,by unfold ajb at hm; omega⟩
  exact congrArg (fun (y:Int)=>(RQ.next (W ((p:Int) + 1),((m.1,(cj (drawn m p) ⟨1,fun i=>List.getD [(y,())] i (y,())⟩,())),())):RQ rH FU)) e
 ·unfold Ym Yl
  exact cR (decide_eq_false (by show ¬ (((N:Nat):Int) < ((N:Nat):Int)); omega))
theorem baM {m:adh} (hb:adm m=true):(AgC m/\M26 (no_index (m,()))=some ((m.1,(drawn m (adr m),())),((0:Int),())))\/(alJ m/\∃ z,M26 (no_index (m,()))=some (z,((7:Int),()))):=by
 have h:=aWl hb
 have hN:=h.eN
 unfold M26 Q26
 rcases auc hb with ⟨ha,e⟩ | ⟨hc,z,e⟩
 ·refine .inl ⟨ha,(cI e).trans ?_⟩
  refine (cR rfl).trans ?_
  refine (cI (aZ6 h)).trans ?_
  have:=arV h ha (N:=adr m) (by omega) (z:=((0:Int),(i0,())))
  have e1:ajt (no_index ((),((),((),((((aiJ m (adr m)).n:Nat):Int),(((0:Int),(i0,())),((aiJ m (adr m),(aii m (adr m),())),()))))))) (no_index ((0:Int),((m.1,(i0,())),()))) = .exit 0 ((m.1,(drawn m (adr m),())),()):=by rw [aiR]; exact this
  exact gV e1
 ·exact .inr ⟨hc,_,(cI e).trans (cn rfl)⟩
end Go.Dm

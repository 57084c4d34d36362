/- Loops in plain terms. -/
import Derived.Test.YtadkaccpacpklaaL10GB
import Derived.Test.YtadkaccpacpklaaL10LM2
set_option linter.unusedVariables false
set_option linter.unusedSimpArgs false
namespace Go.Dm
set_option maxRecDepth 100000
theorem gQ {n:Int} (h:-9223372036854775808<=n/\n<=9223372036854775807):W n=n:=IntWalk.i64_in _ ⟨by omega,by omega⟩
theorem dR {j n:Nat} (h:j < n) (hn:n<=140737488355328):W ((j:Int) + 1)=((j + 1:Nat):Int):=by rw [gQ ⟨by omega,by omega⟩]; rfl
theorem aq {α:Type} {b:Bool} (h:b=true) {x y:α}:(bif b then x else y)=x:=by rw [h]; rfl
theorem aR {α:Type} {b:Bool} (h:b=false) {x y:α}:(bif b then x else y)=y:=by rw [h]; rfl
theorem aK {α β:Type} {d:α} {o:Option α} {x:α} {f:α->β} {g:β} (h:o=some x):cl d o f g=f x:=by rw [h]; exact lK _ _ _ _
theorem bp {wy:aO} {β:Type} {q:LQ wy} {id:Nat} {y:(aa (dB wy id)).den} {f:(aa (dB wy id)).den->β} {g:β} (h:q=LQ.exit id y):aF q id f g=f y:=by rw [h]; exact Ko id y f g
theorem aQ {j n:Nat} (h:j < n):((0:Int)<=(j:Int)/\(j:Int) < (n:Int)):=by omega
theorem dW {j n:Nat} (h:j < n):((j:Int) < (n:Int)):=by omega
theorem eZ:qf ()=some (true,()):=by kernel_rfl
theorem bQ {ps:List aL} {wy:aO} {step:(aa ps).den->RQ ps wy} {q:LQ wy}:∀ (k n:Nat) (f:Nat->(aa ps).den),k < n->(∀ j,j < k->step (f j) = .next (f (j + 1)))->step (f k) = .out q->aH step n (f 0)=q
 | 0,n + 1,f,_,_,ho=>by simp only [aH,ho]
 | k + 1,n + 1,f,hk,hn,ho=>by
  simp only [aH,hn 0 (by omega)]
  exact bQ k n (fun j=>f (j + 1)) (by omega) (fun j hj=>hn (j + 1) (by omega)) ho
theorem Cj {c:Nat->Bool}:∀ (n:Nat),(List.range n).all c=false->∃ k,k < n/\c k=false/\∀ i,i < k->c i=true
 | 0,h=>by simp at h
 | n + 1,h=>by
  cases h':(List.range n).all c with
  | false =>
   obtain ⟨k,h1,h2,h3⟩:=Cj n h'
   exact ⟨k,by omega,h2,h3⟩
  | true =>
   rw [List.range_succ,List.all_append,h',Bool.true_and] at h
   exact ⟨n,by omega,by simpa using h,fun i hi=>List.all_eq_true.1 h' i (by simpa using hi)⟩
theorem mQ {c:Nat->Bool} {n:Nat} (h:(List.range n).all c=true) {j:Nat} (hj:j < n):c j=true:=List.all_eq_true.1 h j (by simpa using hj)
theorem JL {c:Nat->Bool} {n:Nat} (h:∀ j,j < n->c j=true):(List.range n).all c=true:=List.all_eq_true.2 fun j hj=>h j (by simpa using hj)
theorem dX {ps:List aL} {wy:aO} {step:(aa ps).den->RQ ps wy} {N n:Nat} {f:Nat->(aa ps).den} {c:Nat->Bool} {qe qr:LQ wy} (hn:n < N)
  (h1:∀ j,j < n->(∀ i,i < j->c i=true)->step (f j)=bif c j then .next (f (j + 1)) else .out qr) (h2:(∀ i,i < n->c i=true)->step (f n) = .out qe):aH step N (f 0)=bif (List.range n).all c then qe else qr:=by
 cases h:(List.range n).all c with
 | true =>
  have hc:∀ i,i < n->c i=true:=fun i hi=>List.all_eq_true.1 h i (by simpa using hi)
  exact bQ n N f hn (fun j hj=>by rw [h1 j hj fun i hi=>hc i (by omega),hc j hj]; rfl) (h2 hc)
 | false =>
  obtain ⟨k,k1,k2,k3⟩:=Cj n h
  exact bQ k N f (by omega) (fun j hj=>by rw [h1 j (by omega) fun i hi=>k3 i (by omega),k3 j hj]; rfl) (by rw [h1 k k1 k3,k2]; rfl)
def fB (c:Nat->Bool):Nat->Option Nat
 | 0=>none
 | n + 1=>match fB c n with
  | some k=>some k
  | none=>bif c n then some n else none
theorem jg {c:Nat->Bool}:∀ {n:Nat},fB c n=none->∀ j,j < n->c j=false
 | n + 1,h,j,hj=>by
  simp only [fB] at h
  cases h':fB c n with
  | some k=>rw [h'] at h; cases h
  | none =>
   rw [h'] at h
   by_cases e:j=n
   ·subst e
    cases hc:c j with
    | false=>rfl
    | true=>rw [hc] at h; cases h
   ·exact jg h' j (by omega)
theorem kD {c:Nat->Bool}:∀ {n k:Nat},fB c n=some k->k < n/\c k=true/\∀ j,j < k->c j=false
 | n + 1,k,h=>by
  simp only [fB] at h
  cases h':fB c n with
  | some k' =>
   rw [h'] at h
   cases h
   obtain ⟨h1,h2,h3⟩:=kD h'
   exact ⟨by omega,h2,h3⟩
  | none =>
   rw [h'] at h
   cases hc:c n with
   | false=>rw [hc] at h; cases h
   | true=>rw [hc] at h; cases h; exact ⟨by omega,hc,jg h'⟩
theorem kG {ps:List aL} {wy:aO} {step:(aa ps).den->RQ ps wy} {N n:Nat} {f:Nat->(aa ps).den} {c:Nat->Bool} {qe:LQ wy} {qr:Nat->LQ wy} (hn:n < N)
  (h1:∀ j,j < n->(∀ i,i < j->c i=false)->step (f j)=bif c j then .out (qr j) else .next (f (j + 1))) (h2:(∀ i,i < n->c i=false)->step (f n) = .out qe):aH step N (f 0)=match fB c n with | some k=>qr k | none=>qe:=by
 cases h:fB c n with
 | none =>
  have hc:=jg h
  exact bQ n N f hn (fun j hj=>by rw [h1 j hj fun i hi=>hc i (by omega),hc j hj]; rfl) (h2 hc)
 | some k =>
  obtain ⟨k1,k2,k3⟩:=kD h
  exact bQ k N f (by omega) (fun j hj=>by rw [h1 j (by omega) fun i hi=>k3 i (by omega),k3 j hj]; rfl) (by rw [h1 k k1 k3,k2]; rfl)
theorem Mk {n:Nat} (h:n<=140737488355328):n < cz:=by unfold cz; omega
variable {α:Type}
def snoc (s:Sl α) (y:α):Sl α:=cK s ⟨1,fun i=>List.getD [y] i y⟩
theorem IP (s:Sl α) (y:α):(snoc s y).n=s.n + 1:=rfl
theorem Ik {s:Sl α} {y:α} {i:Nat} (h:i < s.n):(snoc s y).g i=s.g i:=by
 have:Nat.blt i s.n=true:=by rw [Nat.blt_eq]; exact h
 simp [snoc,cK,this]
theorem Il (s:Sl α) (y:α):(snoc s y).g s.n=y:=by
 have:Nat.blt s.n s.n=false:=by
  cases h:Nat.blt s.n s.n with
  | false=>rfl
  | true=>rw [Nat.blt_eq] at h; omega
 simp [snoc,cK,this]
def tab (s0:Sl α) (y:Nat->α):Nat->Sl α
 | 0=>s0
 | j + 1=>snoc (tab s0 y j) (y j)
theorem jq {ps:List aL} {wy:aO} {step:(aa ps).den->RQ ps wy} {N:Nat} {P:Nat->(aa ps).den->Prop} {q:(aa ps).den->LQ wy} (k:Nat) (hk:k < N)
  (h1:∀ j s,j < k->P j s->∃ s',step s = .next s'/\P (j + 1) s') (h2:∀ s,P k s->step s = .out (q s)) (s:(aa ps).den) (h0:P 0 s):∃ s',P k s'/\aH step N s=q s':=by
 have:∀ d j s n,j + d=k->d < n->P j s->∃ s',P k s'/\aH step n s=q s':=by
  intro d
  induction d with
  | zero =>
   intro j s n e hn hp
   obtain rfl:j=k:=by omega
   cases n with
   | zero=>omega
   | succ n=>exact ⟨s,hp,by simp only [aH,h2 s hp]⟩
  | succ d ih =>
   intro j s n e hn hp
   cases n with
   | zero=>omega
   | succ n =>
    obtain ⟨s',e1,Yw⟩:=h1 j s (by omega) hp
    obtain ⟨s'',aDj,e2⟩:=ih (j + 1) s' n (by omega) (by omega) Yw
    exact ⟨s'',aDj,by simp only [aH,e1]; exact e2⟩
 exact this k 0 s N (by omega) hk h0
end Go.Dm

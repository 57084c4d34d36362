/- Loops in plain terms. -/
import Derived.Test.YtgkaoimndglnoaaGreatL5GC
set_option linter.unusedVariables false
set_option linter.unusedSimpArgs false
namespace Go.Dm
set_option maxRecDepth 100000
theorem eU {n:Int} (h:-9223372036854775808<=n/\n<=9223372036854775807):W n=n:=IntWalk.i64_in _ ⟨by omega,by omega⟩
theorem ec {j n:Nat} (h:j < n) (hn:n<=140737488355328):W ((j:Int) + 1)=((j + 1:Nat):Int):=by rw [eU ⟨by omega,by omega⟩]; rfl
theorem cn {α:Type} {b:Bool} (h:b=true) {x y:α}:(bif b then x else y)=x:=by rw [h]; rfl
theorem cR {α:Type} {b:Bool} (h:b=false) {x y:α}:(bif b then x else y)=y:=by rw [h]; rfl
theorem cI {α β:Type} {d:α} {o:Option α} {x:α} {f:α->β} {g:β} (h:o=some x):cl d o f g=f x:=by rw [h]; exact bU _ _ _ _
theorem gV {wy:bk} {β:Type} {q:LQ wy} {id:Nat} {y:(aa (ct wy id)).den} {f:(aa (ct wy id)).den->β} {g:β} (h:q=LQ.exit id y):bp q id f g=f y:=by rw [h]; exact Jl id y f g
theorem bO {j n:Nat} (h:j < n):((0:Int)<=(j:Int)/\(j:Int) < (n:Int)):=by omega
theorem dW {j n:Nat} (h:j < n):((j:Int) < (n:Int)):=by omega
def iQ (x lo hi:Int):Bool:=decide (lo<=x/\x<=hi)
theorem rW {x lo hi:Int} (h:iQ x lo hi=true):lo<=x/\x<=hi:=of_decide_eq_true h
theorem cX {ps:List bg} {wy:bk} {step:(aa ps).den->RQ ps wy} {q:LQ wy}:∀ (k n:Nat) (f:Nat->(aa ps).den),k < n->(∀ j,j < k->step (f j) = .next (f (j + 1)))->step (f k) = .out q->bB step n (f 0)=q
 | 0,n + 1,f,_,_,ho=>by simp only [bB,ho]
 | k + 1,n + 1,f,hk,hn,ho=>by
  simp only [bB,hn 0 (by omega)]
  exact cX k n (fun j=>f (j + 1)) (by omega) (fun j hj=>hn (j + 1) (by omega)) ho
theorem Ew {c:Nat->Bool}:∀ (n:Nat),(List.range n).all c=false->∃ k,k < n/\c k=false/\∀ i,i < k->c i=true
 | 0,h=>by simp at h
 | n + 1,h=>by
  cases h':(List.range n).all c with
  | false =>
   obtain ⟨k,h1,h2,h3⟩:=Ew n h'
   exact ⟨k,by omega,h2,h3⟩
  | true =>
   rw [List.range_succ,List.all_append,h',Bool.true_and] at h
   exact ⟨n,by omega,by simpa using h,fun i hi=>List.all_eq_true.1 h' i (by simpa using hi)⟩
theorem iR {c:Nat->Bool} {n:Nat} (h:(List.range n).all c=true) {j:Nat} (hj:j < n):c j=true:=List.all_eq_true.1 h j (by simpa using hj)
theorem xd {c:Nat->Bool} {n:Nat} (h:∀ j,j < n->c j=true):(List.range n).all c=true:=List.all_eq_true.2 fun j hj=>h j (by simpa using hj)
theorem eA {ps:List bg} {wy:bk} {step:(aa ps).den->RQ ps wy} {N n:Nat} {f:Nat->(aa ps).den} {c:Nat->Bool} {qe qr:LQ wy} (hn:n < N)
  (h1:∀ j,j < n->(∀ i,i < j->c i=true)->step (f j)=bif c j then .next (f (j + 1)) else .out qr) (h2:(∀ i,i < n->c i=true)->step (f n) = .out qe):bB step N (f 0)=bif (List.range n).all c then qe else qr:=by
 cases h:(List.range n).all c with
 | true =>
  have hc:∀ i,i < n->c i=true:=fun i hi=>List.all_eq_true.1 h i (by simpa using hi)
  exact cX n N f hn (fun j hj=>by rw [h1 j hj fun i hi=>hc i (by omega),hc j hj]; rfl) (h2 hc)
 | false =>
  obtain ⟨k,k1,k2,k3⟩:=Ew n h
  exact cX k N f (by omega) (fun j hj=>by rw [h1 j (by omega) fun i hi=>k3 i (by omega),k3 j hj]; rfl) (by rw [h1 k k1 k3,k2]; rfl)
def lO (c:Nat->Bool):Nat->Option Nat
 | 0=>none
 | n + 1=>match lO c n with
  | some k=>some k
  | none=>bif c n then some n else none
theorem kL {c:Nat->Bool}:∀ {n:Nat},lO c n=none->∀ j,j < n->c j=false
 | n + 1,h,j,hj=>by
  simp only [lO] at h
  cases h':lO c n with
  | some k=>rw [h'] at h; cases h
  | none =>
   rw [h'] at h
   by_cases e:j=n
   ·subst e
    cases hc:c j with
    | false=>rfl
    | true=>rw [hc] at h; cases h
   ·exact kL h' j (by omega)
theorem nH {c:Nat->Bool}:∀ {n k:Nat},lO c n=some k->k < n/\c k=true/\∀ j,j < k->c j=false
 | n + 1,k,h=>by
  simp only [lO] at h
  cases h':lO c n with
  | some k' =>
   rw [h'] at h
   cases h
   obtain ⟨h1,h2,h3⟩:=nH h'
   exact ⟨by omega,h2,h3⟩
  | none =>
   rw [h'] at h
   cases hc:c n with
   | false=>rw [hc] at h; cases h
   | true=>rw [hc] at h; cases h; exact ⟨by omega,hc,kL h'⟩
theorem qg {ps:List bg} {wy:bk} {step:(aa ps).den->RQ ps wy} {N n:Nat} {f:Nat->(aa ps).den} {c:Nat->Bool} {qe:LQ wy} {qr:Nat->LQ wy} (hn:n < N)
  (h1:∀ j,j < n->(∀ i,i < j->c i=false)->step (f j)=bif c j then .out (qr j) else .next (f (j + 1))) (h2:(∀ i,i < n->c i=false)->step (f n) = .out qe):bB step N (f 0)=match lO c n with | some k=>qr k | none=>qe:=by
 cases h:lO c n with
 | none =>
  have hc:=kL h
  exact cX n N f hn (fun j hj=>by rw [h1 j hj fun i hi=>hc i (by omega),hc j hj]; rfl) (h2 hc)
 | some k =>
  obtain ⟨k1,k2,k3⟩:=nH h
  exact cX k N f (by omega) (fun j hj=>by rw [h1 j (by omega) fun i hi=>k3 i (by omega),k3 j hj]; rfl) (by rw [h1 k k1 k3,k2]; rfl)
theorem ep {n:Nat} (h:n<=140737488355328):n < dw:=by unfold dw; omega
variable {α:Type}
def snoc (s:Sl α) (y:α):Sl α:=cj s ⟨1,fun i=>List.getD [y] i y⟩
theorem qh (s:Sl α) (y:α):(snoc s y).n=s.n + 1:=rfl
theorem HV {s:Sl α} {y:α} {i:Nat} (h:i < s.n):(snoc s y).g i=s.g i:=by
 have:Nat.blt i s.n=true:=by rw [Nat.blt_eq]; exact h
 simp [snoc,cj,this]
theorem AE (s:Sl α) (y:α):(snoc s y).g s.n=y:=by
 have:Nat.blt s.n s.n=false:=by
  cases h:Nat.blt s.n s.n with
  | false=>rfl
  | true=>rw [Nat.blt_eq] at h; omega
 simp [snoc,cj,this]
def qA (s0:Sl α) (y:Nat->α):Nat->Sl α
 | 0=>s0
 | j + 1=>snoc (qA s0 y j) (y j)
theorem Sc (s0:Sl α) (y:Nat->α):∀ j,(qA s0 y j).n=s0.n + j
 | 0=>rfl
 | j + 1=>by rw [qA,qh,Sc s0 y j]; omega
theorem alb {s0:Sl α} {y:Nat->α} {i:Nat}:∀ {j},i < j->(qA s0 y j).g (s0.n + i)=y i
 | j + 1,h=>by
  rw [qA]
  by_cases e:i=j
  ·subst e
   have:=AE (qA s0 y i) (y i)
   rwa [Sc] at this
  ·rw [HV (by rw [Sc]; omega),alb (by omega)]
theorem qi {s0:Sl α} (h0:s0.n=0) {y:Nat->α} {i j:Nat} (h:i < j):(qA s0 y j).g i=y i:=by
 have:=alb (s0:=s0) (y:=y) h
 rwa [h0,Nat.zero_add] at this
theorem ji {s0:Sl α} (h0:s0.n=0) {y:Nat->α} {j:Nat}:(qA s0 y j).n=j:=by rw [Sc,h0,Nat.zero_add]
theorem qj {ps:List bg} {wy:bk} {step:(aa ps).den->RQ ps wy} {N:Nat} {P:Nat->(aa ps).den->Prop} {Q:LQ wy->Prop} (k:Nat) (hk:k < N)
  (h1:∀ j s,j < k->P j s->(∃ s',step s = .next s'/\P (j + 1) s')\/∃ q,step s = .out q/\Q q) (h2:∀ s,P k s->∃ q,step s = .out q/\Q q) (s:(aa ps).den) (h0:P 0 s):Q (bB step N s):=by
 have:∀ d j s n,j + d=k->d < n->P j s->Q (bB step n s):=by
  intro d
  induction d with
  | zero =>
   intro j s n e hn hp
   obtain rfl:j=k:=by omega
   cases n with
   | zero=>omega
   | succ n =>
    obtain ⟨q,e,hq⟩:=h2 s hp
    simp only [bB,e]; exact hq
  | succ d ih =>
   intro j s n e hn hp
   cases n with
   | zero=>omega
   | succ n =>
    rcases h1 j s (by omega) hp with ⟨s',e1,hp'⟩ | ⟨q,e1,hq⟩
    ·simp only [bB,e1]; exact ih (j + 1) s' n (by omega) (by omega) hp'
    ·simp only [bB,e1]; exact hq
 exact this k 0 s N (by omega) hk h0
theorem xe {wy:bk} {β:Type} {q:LQ wy} {y:(aa wy.ret).den} {f:(aa wy.ret).den->β} {g:β} (h:q=LQ.ret y):bK q f g=f y:=by rw [h]; rfl
theorem aiu {α β:Type} {M:α->Option β} {x:α} {y:β} (h:M x=some y):(M x).isSome=true:=by rw [h]; rfl
theorem ahw {α:Type} {τ:Ty} {M:α->Option τ.den} {x:α} {y:τ.den} (h:M x=some y):(M x).getD τ.dflt=y:=by rw [h]; rfl
theorem sV {wy:bk} {β:Type} {q:LQ wy} {y:(aa wy.ret).den} {id:Nat} {f:(aa (ct wy id)).den->β} {g:β} (h:q=LQ.ret y):bp q id f g=g:=by rw [h]; rfl
theorem Pa (a b:Int):mx a b=max a b:=by
 unfold mx
 split <;> omega
end Go.Dm

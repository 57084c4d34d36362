/- Whatever is true, the days lie within their bounds. -/
import Derived.Test.YtgkaoimndglnoaaGreatL3TW3
set_option linter.unusedVariables false
set_option linter.unusedSimpArgs false
namespace Go.Dm.Wat
set_option maxRecDepth 100000
theorem Sm {r:dx} {o:bI} (hr:bQ r=true) (h:bL r o=true) {j:Nat} (hj:j < o.n):0<=(r.2.1.g (o.g j).1.toNat).1/\(r.2.1.g (o.g j).1.toNat).1<=10:=by
 have h1:=fo hr h hj
 simp only [bQ,Bool.and_eq_true] at hr
 have:=iR hr.2.2.2.1 (j:=(o.g j).1.toNat) (by omega)
 simp only [DF,Bool.and_eq_true] at this
 exact rW this.1
theorem KH {r:dx} (hr:bQ r=true):0<=r.1/\r.1<=400:=by
 simp only [bQ,Bool.and_eq_true] at hr
 exact rW hr.1
theorem Ey {r:dx} {o:bI} (hr:bQ r=true) (h:bL r o=true) (hs:o.n<=10) {l:Nat->Int} (hl:∀ j,j < o.n->0<=l j/\l j<=60):∀ {n:Nat},n<=o.n->0<=st r o l n/\st r o l n<=400 + 70 * n
 | 0,_=>by have:=KH hr; simp only [st]; omega
 | n + 1,hn=>by
  have ih:=Ey hr h hs hl (n:=n) (by omega)
  have h1:=hl n (by omega)
  have h2:=Sm hr h (j:=n) (by omega)
  simp only [st]
  rw [eU (n:=st r o l n + l n) ⟨by omega,by omega⟩,eU ⟨by omega,by omega⟩]
  omega
theorem Sn {r:dx} {o:bI} (hr:bQ r=true) (h:bL r o=true) (hs:o.n<=10) {l l':Nat->Int} (hl:∀ j,j < o.n->0<=l j/\l j<=60) (hl':∀ j,j < o.n->0<=l' j/\l' j<=60) (hm:∀ j,j < o.n->l j<=l' j):∀ {n:Nat},n<=o.n->st r o l n<=st r o l' n
 | 0,_=>Int.le_refl _
 | n + 1,hn=>by
  have ih:=Sn hr h hs hl hl' hm (n:=n) (by omega)
  have b1:=Ey hr h hs hl (n:=n) (by omega)
  have b2:=Ey hr h hs hl' (n:=n) (by omega)
  have h1:=hl n (by omega)
  have Sy:=hl' n (by omega)
  have h2:=Sm hr h (j:=n) (by omega)
  have h3:=hm n (by omega)
  simp only [st]
  rw [eU (n:=st r o l n + l n) ⟨by omega,by omega⟩,eU (n:=st r o l' n + l' n) ⟨by omega,by omega⟩,eU ⟨by omega,by omega⟩,eU ⟨by omega,by omega⟩]
  omega
theorem acK {r:dx} {o:bI} (hr:bQ r=true) (h:bL r o=true) (hs:o.n<=10) {l l':Nat->Int} (hl:∀ j,j < o.n->0<=l j/\l j<=60) (hl':∀ j,j < o.n->0<=l' j/\l' j<=60) (hm:∀ j,j < o.n->l j<=l' j) {j:Nat} (hj:j < o.n):arr r o l j<=arr r o l' j:=by
 have ih:=Sn hr h hs hl hl' hm (n:=j) (by omega)
 have b1:=Ey hr h hs hl (n:=j) (by omega)
 have b2:=Ey hr h hs hl' (n:=j) (by omega)
 have h1:=hl j hj
 have Sy:=hl' j hj
 have h3:=hm j hj
 unfold arr
 rw [eU ⟨by omega,by omega⟩,eU ⟨by omega,by omega⟩]
 omega
theorem ah8 {r:dx} {o:bI} (hr:bQ r=true) (h:bL r o=true) (j:Nat) (hj:j < o.n):0<=gX r o j/\gX r o j<=60:=by
 have:=mN hr h hj; unfold gX; omega
theorem aCD {r:dx} {o l:bI} (h:vj r) (ho:o.n<=10) (hr:bQ r=true) (hq:bL r o=true) (hl:nI r o l=true) {g:Nat->Int} (hg:∀ j,j < o.n->(l.g j).1=g j) :
  M16 (no_index (r,(o,(l,()))))=some (days r o g,(st r o g o.n,((0:Int),()))):=by
 have hn:l.n=o.n:=by simp only [nI,Bool.and_eq_true,decide_eq_true_eq] at hl; exact hl.1
 rw [aCS h ho (by omega),hr,hq,hl,xg hg]
 exact congrArg (fun q=>some (q,(st r o g o.n,((0:Int),())))) (CX hg)
end Go.Dm.Wat

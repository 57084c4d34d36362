/- TopRounds. -/
import Derived.Test.YtgkaoimndglnoaaGreatL3TP5
set_option linter.unusedVariables false
set_option linter.unusedSimpArgs false
namespace Go.Dm
open Wat
set_option maxRecDepth 100000
theorem Pf {r:dx} {l:Sl ju} {w p:psR} {st:Sl gW} (hr:bQ r=true) (hs:Set r l w p r.2.1.n st):bQ (jR r st)=true:=by
 unfold bQ at hr ⊢
 simp only [Bool.and_eq_true] at hr ⊢
 obtain ⟨h1,h2,h3,h4,h5⟩:=hr
 have hn:(jR r st).2.1.n=r.2.1.n:=hs.n
 rw [hn]
 refine ⟨h1,h2,h3,xd fun j hj=>?_,h5⟩
 have a1:=iR h4 hj
 obtain ⟨_,a2,a3,a4,_⟩:=hs.old j hj
 unfold DF at a1 ⊢
 rw [Bool.and_eq_true] at a1 ⊢
 refine ⟨?_,decide_eq_true ⟨a3,a4⟩⟩
 show iQ (st.g j).1 0 10=true
 rw [a2]; exact a1.1
theorem aCz (r:dx) (l:Sl ju) (w p:psR) (b:Int):M3 (no_index (r,(l,(w,(p,(b,()))))))=some (true,()):=by
  unfold M3 Q3
  by_cases h1:(4:Int) < ((r.2.1.n:Nat):Int)
  · exact (cn (decide_eq_true h1)).trans (cI fI)
  refine (cR (decide_eq_false h1)).trans ?_
  by_cases h2:(5:Int) < ((r.2.2.1.n:Nat):Int)
  · exact (cn (decide_eq_true h2)).trans (cI fI)
  refine (cR (decide_eq_false h2)).trans ?_
  by_cases h3:((l.n:Nat):Int)=((r.2.1.n:Nat):Int)
  rotate_left
  · exact (cn (by show (!decide (((l.n:Nat):Int)=((r.2.1.n:Nat):Int)))=true; rw [decide_eq_false h3]; rfl)).trans (cI fI)
  refine (cR (by show (!decide (((l.n:Nat):Int)=((r.2.1.n:Nat):Int)))=false; rw [decide_eq_true h3]; rfl)).trans ?_
  by_cases h4:((w.n:Nat):Int)=((l.n:Nat):Int)
  rotate_left
  · exact (cn (by show (!decide (((w.n:Nat):Int)=((l.n:Nat):Int)))=true; rw [decide_eq_false h4]; rfl)).trans (cI fI)
  refine (cR (by show (!decide (((w.n:Nat):Int)=((l.n:Nat):Int)))=false; rw [decide_eq_true h4]; rfl)).trans ?_
  by_cases h5:((p.n:Nat):Int)=((l.n:Nat):Int)
  rotate_left
  · exact (cn (by show (!decide (((p.n:Nat):Int)=((l.n:Nat):Int)))=true; rw [decide_eq_false h5]; rfl)).trans (cI fI)
  refine (cR (by show (!decide (((p.n:Nat):Int)=((l.n:Nat):Int)))=false; rw [decide_eq_true h5]; rfl)).trans ?_
  by_cases h6:b < 1
  · exact (cn (decide_eq_true h6)).trans (cI fI)
  refine (cR (decide_eq_false h6)).trans ?_
  by_cases h7:400 < b
  · exact (cn (decide_eq_true h7)).trans (cI fI)
  refine (cR (decide_eq_false h7)).trans ?_
  refine (cI (aCw (r:=r) (by omega) (by omega))).trans ?_
  cases hr:bQ r with
  | false=>exact (cn rfl).trans (cI fI)
  | true =>
  refine (cR rfl).trans ?_
  refine (cn (decide_eq_true (by show r.2.1.n * 16<=140737488355328; omega))).trans ?_
  have hst:=KH hr
  have hn4:r.2.1.n<=4:=by omega
  rcases ah5 (l:=l) (w:=w) (p:=p) (b:=b) hst hn4 (by omega) (by omega) (by omega) with e | ⟨st,hs,e⟩
  · exact (sV e).trans (xe e)
  refine (gV e).trans ?_
  have hx:=Pf hr hs
  have hsx:=acF hx
  obtain ⟨o,d,eB,hB⟩:=aCA hx hsx
  refine (cI eB).trans ?_
  refine (cR rfl).trans ?_
  have hxn:(jR r st).2.1.n=r.2.1.n:=hs.n
  have hol:=kM hB.ord (by omega)
  have acJ:o.n<=10:=by omega
  refine (cI (aCB (jR r st) o (by omega))).trans ?_
  rw [hB.ord]
  refine (cR rfl).trans ?_
  have hp:∀ j,j < o.n->0<=(p.g j).1/\(p.g j).1<=100:=fun j hj=>(hs.old j (by omega)).1.p
  refine (gV (ah6 (r:=r) (l:=l) (w:=w) (b:=b) hx hB.ord acJ (by omega) hp)).trans ?_
  have aCC:nI (jR r st) o (qA ze (fun j=>(qB (jR r st) o p j,())) o.n)=true:=by
    unfold nI
    rw [ji rfl,Bool.and_eq_true]
    refine ⟨decide_eq_true rfl,xd fun j hj=>?_⟩
    unfold Pg
    rw [qi rfl hj]
    exact decide_eq_true (HX hx hB.ord hp hj)
  refine (cI (aCD hsx acJ hx hB.ord aCC (g:=qB (jR r st) o p) fun j hj=>by rw [qi rfl hj])).trans ?_
  refine (cR rfl).trans ?_
  have hdn:=HY (jR r st) o (qB (jR r st) o p)
  refine (cR (by show (!decide ((((days (jR r st) o (qB (jR r st) o p)).n:Nat):Int)=((o.n:Nat):Int)))=false; rw [hdn,decide_eq_true rfl]; rfl)).trans ?_
  have atm:∀ j,j < o.n->0<=qB (jR r st) o p j/\qB (jR r st) o p j<=60:=fun j hj=>by
    have a1:=mN hx hB.ord hj
    have a2:=HX hx hB.ord hp hj
    omega
  have aCE:∀ j,j < o.n->arr (jR r st) o (qB (jR r st) o p) j<=((jR r st).2.1.g (o.g j).1.toNat).2.1:=fun j hj =>
    Int.le_trans (acK hx hB.ord acJ atm (ah8 hx hB.ord) (fun i hi=>(HX hx hB.ord hp hi).2) hj) (acH hB.sure hj)
  have hk:∀ j,j < o.n->∃ k:Nat,(o.g j).1=(k:Int)/\k < r.2.1.n:=fun j hj=>by
    have a1:=fo hx hB.ord hj
    have a2:(o.g j).1 < ((r.2.1.n:Nat):Int):=by rw [<- hxn]; exact a1.2.1
    have a3:=a1.1
    exact ⟨(o.g j).1.toNat,(Int.toNat_of_nonneg a3).symm,by omega⟩
  have aCF:=ah7 (r:=r) (x:=jR r st) (l:=l) (w:=w) (p:=p) (b:=b) (o:=o) (g:=qB (jR r st) o p) (by omega) hst acJ
    (fun j hj=>by
      obtain ⟨k,ek,hk⟩:=hk j hj
      obtain ⟨a1,_,_,_,a2⟩:=hs.old k hk
      have a3:=aCE j hj
      rw [ek,Int.toNat_natCast] at a3
      exact ⟨k,ek,by omega,by omega,a1,fun t q1 q2=>a2 t q1 (Int.lt_of_lt_of_le q2 a3)⟩)
    (fun j hj=>by
      obtain ⟨k,ek,hk⟩:=hk j hj
      obtain ⟨_,_,a4,a5,_⟩:=hs.old k hk
      have a3:=aCE j hj
      rw [ek,Int.toNat_natCast] at a3
      have a6:0<=arr (jR r st) o (qB (jR r st) o p) j:=by
        have b1:=Ey hx hB.ord acJ atm (n:=j) (by omega)
        have b2:=atm j hj
        unfold arr
        rw [eU ⟨by omega,by omega⟩]
        omega
      exact ⟨a6,Int.le_trans a3 a5⟩)
  exact (gV aCF).trans (cI fI)
theorem bhY (x:(a3).den):M3 x=some (true,()):=by
 obtain ⟨r,l,w,p,b,⟨⟩⟩:=x
 exact aCz r l w p b
end Go.Dm

/-
 Of the plain law.
-/
import Derived.Test.YtadkaccpacpklaaGreatL4ZP29
set_option linter.unusedVariables false
set_option linter.unusedSimpArgs false
namespace Go.Dm
set_option maxRecDepth 100000
open Go.Low
variable {s:tS.den}
theorem aWQ {r:Sl sR.den} (hv:∀ j,j < r.n->(show Int from (r.g j).1) = -1\/0<=(show Int from (r.g j).1)) (hk:r.n<=3) {c0:Nat} (hc:c0<=100) {sub:cT} {c1 c2:Int} :
  aAT (sub,(c1,(c2,(r,((r.n:Int),()))))) ((c0:Int),((0:Int),())) = .exit 2 (((c0 + eO (aV r):Nat):Int),()):=by
 unfold aAT
 have hb:∀ j,eO ((aV r).take j)<=j:=fun j=>by
  unfold eO
  exact Nat.le_trans List.count_le_length (by rw [List.length_take]; omega)
 have e2:(aV r).take r.n=aV r:=List.take_of_length_le (by rw [iN]; exact Nat.le_refl _)
 have key:aH (axE (sub,(c1,(c2,(r,((r.n:Int),())))))) cz (((c0 + eO ((aV r).take 0):Nat):Int),((0:Int),())) = .exit 2 (((c0 + eO ((aV r).take r.n):Nat):Int),()):=by
  refine bQ (ps:=iA) r.n cz (fun j=>(((c0 + eO ((aV r).take j):Nat):Int),((j:Int),()))) (by unfold cz; omega) (fun j hj=>?_) ?_
  ·unfold axE aAS
   refine (aq (decide_eq_true (dW hj))).trans ?_
   refine (aq (decide_eq_true (aQ hj))).trans ?_
   have Gr:=hb j
   have w1:W ((j:Int) + 1)=((j + 1:Nat):Int):=dR hj (by omega)
   have hs:=LM ((aV r).take j) (show Int from (r.g j).1)
   rw [<- Eu hj] at hs
   rcases hv j hj with hd | hd
   ·have hd2:(show Int from (r.g j).1) < 0:=by omega
    rw [decide_eq_true hd,cond_true] at hs
    refine (aq (decide_eq_true hd2)).trans ?_
    have w2:W (((c0 + eO ((aV r).take j):Nat):Int) + 1)=((c0 + eO ((aV r).take (j + 1)):Nat):Int):=by rw [gQ ⟨by omega,by omega⟩,hs]; omega
    exact (congrArg (fun q:Int=>(RQ.next (show (aa iA).den from (q,(W ((j:Int) + 1),()))):RQ iA apE)) w2).trans (congrArg (fun q:Int=>(RQ.next (show (aa iA).den from (((c0 + eO ((aV r).take (j + 1)):Nat):Int),(q,()))):RQ iA apE)) w1)
   ·have hd2:¬ ((show Int from (r.g j).1) < 0):=by omega
    have hd3:¬ ((show Int from (r.g j).1) = -1):=by omega
    rw [decide_eq_false hd3,cond_false,Nat.add_zero] at hs
    refine (aR (decide_eq_false hd2)).trans ?_
    rw [hs]
    exact congrArg (fun q:Int=>(RQ.next (show (aa iA).den from (((c0 + eO ((aV r).take j):Nat):Int),(q,()))):RQ iA apE)) w1
  ·unfold axE aAS
   have:¬ ((r.n:Int) < (r.n:Int)):=by omega
   exact aR (decide_eq_false this)
 rw [e2] at key
 exact key
theorem aor (hs:(cB s).Ok) {rows:cT} (hL:aW rows∈links (cB s)) {t j:Nat} (ht:t + 1 < s.1.n) (hj:j < (rows.g (t + 1)).1.n):(show Int from ((rows.g (t + 1)).1.g j).1) = -1\/0<=(show Int from ((rows.g (t + 1)).1.g j).1):=by
 have hr:=aia hs hL
 have hI:=(tX hs).1 hL
 rw [<- OO (by rw [hr.n]; exact ht) hj]
 rcases hI.afg ht (i:=j) (by have:=hr.k (t + 1) ht; show j < (s.1.g (t + 1)).2.1.n; omega) with h | h
 ·exact .inl h
 ·exact .inr h.1
theorem aI7 (hs:(cB s).Ok) {rows:cT} (hL:aW rows∈links (cB s)):M52 (no_index ((vw s rows).1,()))=some (((eP (aW rows):Nat):Int),()):=by
 have hr:=aia hs hL
 have WM:=eF hs
 have xU:0 < s.1.n:=hs.n1
 have RI:=hr.n
 have hk:∀ t,t < rows.n->(rows.g t).1.n<=3:=fun t ht=>by rw [hr.k t (by omega)]; exact dN hs (by omega)
 obtain ⟨n,hn⟩:∃ n,rows.n=n + 1:=⟨rows.n - 1,by omega⟩
 have key:∀ m:Nat,m=n->aht ((⟨m,fun i=>rows.g (i + 1)⟩:cT),(((m:Nat):Int),())) ((0:Int),((0:Int),())) = .exit 0 (((eP ((aW rows).take (n + 1)):Nat):Int),()):=by
  intro m hm
  subst hm
  unfold aht
  have b0:eP ((aW rows).take 1)=0:=Nat.le_zero.1 (BO hk 0 (by omega))
  have h0:=bQ (step:=ahs ((⟨m,fun i=>rows.g (i + 1)⟩:cT),(((m:Nat):Int),()))) m cz (fun j=>(((eP ((aW rows).take (j + 1)):Nat):Int),((j:Int),()))) (by unfold cz; omega) (fun j hj=>by
   unfold ahs ahr
   have hj1:j + 1 < rows.n:=by omega
   have hle:=BO hk j (by omega)
   refine (aq (decide_eq_true (dW hj))).trans ?_
   refine (aq (decide_eq_true (aQ (n:=m) hj))).trans ?_
   refine (bp (aWQ (r:=(rows.g (j + 1)).1) (fun i hi=>aor hs hL (by omega) hi) (hk _ hj1) (c0:=eP ((aW rows).take (j + 1))) (by omega))).trans ?_
   have e:eP ((aW rows).take (j + 1)) + eO (aV (rows.g (j + 1)).1)=eP ((aW rows).take (j + 1 + 1)):=by
    rw [gu hj1,qZ (by rw [wq (by omega)]; omega)]
   rw [e]
   exact congrArg (fun q:Int=>(RQ.next (show (aa CW).den from (((eP ((aW rows).take (j + 1 + 1)):Nat):Int),(q,()))):RQ CW Rn)) (dR hj (by omega))) (q:=.exit 0 (((eP ((aW rows).take (m + 1)):Nat):Int),())) (by
   unfold ahs ahr
   have:¬ (((m:Nat):Int) < ((m:Nat):Int)):=by omega
   exact aR (decide_eq_false this))
  have e0:(((eP ((aW rows).take (0 + 1)):Nat):Int),(((0:Nat):Int),()))=((0:Int),((0:Int),())):=by
   show (((eP ((aW rows).take 1):Nat):Int),((0:Int),()))=_
   rw [b0]; rfl
  rw [<- e0]
  exact h0
 have hm:Int.toNat (((rows.n:Nat):Int) - 1)=n:=by omega
 have a:(0:Int)<=1/\((1:Int)<=((rows.n:Nat):Int)/\((rows.n:Nat):Int)<=((rows.n:Nat):Int)):=by omega
 unfold M52 Q52
 refine (aq (decide_eq_true a)).trans ?_
 refine (bp (key _ hm)).trans ?_
 rw [List.take_of_length_le (by rw [dI]; omega)]
def few (b:LL):List LL->LL
 | []=>b
 | L :: l=>few (if eP L < eP b then L else b) l
def afQ:List LL->LL
 | []=>[]
 | L :: l=>few L l
theorem aby {b:LL} (h:eP b=0):∀ l,few b l=b
 | []=>rfl
 | L :: l=>by rw [few,if_neg (by omega)]; exact aby h l
theorem ab9:∀ {l:List LL} {b:LL},few b l=b\/few b l∈l
 | [],b=>.inl rfl
 | L :: l,b=>by
  rw [few]
  split
  ·rcases ab9 (l:=l) (b:=L) with h | h
   ·rw [h]; exact .inr (.head _)
   ·exact .inr (.tail _ h)
  ·rcases ab9 (l:=l) (b:=b) with h | h
   ·exact .inl h
   ·exact .inr (.tail _ h)
theorem abZ {l:List LL} (h:l≠[]):afQ l∈l:=by
 cases l with
 | nil=>exact absurd rfl h
 | cons L l =>
  rcases ab9 (l:=l) (b:=L) with h | h
  ·show few L l∈_; rw [h]; exact .head _
  ·exact .tail _ h
def ax7 (B least:Int) (rows:cT):(aa aog).den:=(B,((),((),((least,()),((rows,()),())))))
theorem aL0 (hs:(cB s).Ok) {rows:cT} (hL:aW rows∈links (cB s)) (B:Int) (r0:cT):HO (ax7 B (-1) r0) (vw s rows)=bif decide (eP (aW rows)=0) then .brk 0 (ax7 B ((eP (aW rows):Nat):Int) rows) else .next (ax7 B ((eP (aW rows):Nat):Int) rows):=by
 unfold HO HN
 refine (aK (aI7 hs hL)).trans ?_
 refine (aq rfl).trans ?_
 by_cases c:eP (aW rows)=0
 ·have c':(((eP (aW rows):Nat)):Int)=0:=by omega
  rw [decide_eq_true c]
  exact aq (decide_eq_true c')
 ·have c':¬ ((((eP (aW rows):Nat)):Int)=0):=by omega
  rw [decide_eq_false c]
  exact aR (decide_eq_false c')
theorem aNn (hs:(cB s).Ok) {rows:cT} (hL:aW rows∈links (cB s)) (B:Int) (n0:Nat) (r0:cT):HO (ax7 B (n0:Int) r0) (vw s rows)=bif decide (eP (aW rows) < n0) then (bif decide (eP (aW rows)=0) then .brk 0 (ax7 B ((eP (aW rows):Nat):Int) rows) else .next (ax7 B ((eP (aW rows):Nat):Int) rows)) else (bif decide (n0=0) then .brk 0 (ax7 B (n0:Int) r0) else .next (ax7 B (n0:Int) r0)):=by
 unfold HO HN
 refine (aK (aI7 hs hL)).trans ?_
 refine (aR (decide_eq_false (show ¬ ((n0:Int) < 0) by omega))).trans ?_
 by_cases c0:eP (aW rows) < n0
 ·rw [decide_eq_true c0]
  refine (aq (decide_eq_true (show (((eP (aW rows):Nat)):Int) < (n0:Int) by omega))).trans ?_
  by_cases c:eP (aW rows)=0
  ·have c':(((eP (aW rows):Nat)):Int)=0:=by omega
   rw [decide_eq_true c]
   exact aq (decide_eq_true c')
  ·have c':¬ ((((eP (aW rows):Nat)):Int)=0):=by omega
   rw [decide_eq_false c]
   exact aR (decide_eq_false c')
 ·rw [decide_eq_false c0]
  refine (aR (decide_eq_false (show ¬ ((((eP (aW rows):Nat)):Int) < (n0:Int)) by omega))).trans ?_
  by_cases c:n0=0
  ·have c':((n0:Nat):Int)=0:=by omega
   rw [decide_eq_true c]
   exact aq (decide_eq_true c')
  ·have c':¬ (((n0:Nat):Int)=0):=by omega
   rw [decide_eq_false c]
   exact aR (decide_eq_false c')
theorem aFa (hs:(cB s).Ok) (B:Int):∀ (l:List fD.den) (r0:cT),(∀ it∈l,Good s it/\toL it∈links (cB s)) ->
  ∃ rows:cT,aW rows=few (aW r0) (l.map toL)/\(HP (ax7 B ((eP (aW r0):Nat):Int) r0) l = .next (ax7 B ((eP (aW rows):Nat):Int) rows)\/HP (ax7 B ((eP (aW r0):Nat):Int) r0) l = .brk 0 (ax7 B ((eP (aW rows):Nat):Int) rows))
 | [],r0,_=>⟨r0,rfl,.inl rfl⟩
 | it :: l,r0,hg=>by
  obtain ⟨g1,g2⟩:=hg it (.head _)
  obtain ⟨rows,rfl,hr,hL⟩:=g1.rows
  rw [hL] at g2
  have st:=aNn hs g2 B (eP (aW r0)) r0
  rw [List.map_cons,hL,few]
  by_cases c0:eP (aW rows) < eP (aW r0)
  ·rw [decide_eq_true c0,cond_true] at st
   rw [if_pos c0]
   by_cases c:eP (aW rows)=0
   ·rw [decide_eq_true c,cond_true] at st
    refine ⟨rows,(aby c _).symm,.inr ?_⟩
    unfold HP
    simp only [eW,st]
   ·rw [decide_eq_false c,cond_false] at st
    obtain ⟨r',h1,h2⟩:=aFa hs B l rows fun x hx=>hg x (.tail _ hx)
    refine ⟨r',h1,?_⟩
    unfold HP at h2 ⊢
    simp only [eW,st]
    exact h2
  ·rw [decide_eq_false c0,cond_false] at st
   rw [if_neg c0]
   by_cases c:eP (aW r0)=0
   ·rw [decide_eq_true c,cond_true] at st
    refine ⟨r0,(aby c _).symm,.inr ?_⟩
    unfold HP
    simp only [eW,st]
   ·rw [decide_eq_false c,cond_false] at st
    obtain ⟨r',h1,h2⟩:=aFa hs B l r0 fun x hx=>hg x (.tail _ hx)
    refine ⟨r',h1,?_⟩
    unfold HP at h2 ⊢
    simp only [eW,st]
    exact h2
theorem aau (ho:Io s=true) (ha:Dg s=true):∃ rows:cT,Yz (no_index (s,()))=some (((((s.1.g 0).2.1.n + eP (aW rows):Nat)):Int),(rows,((0:Int),())))/\aW rows=afQ (links (cB s)):=by
 have hs:=qP ho
 have WM:=eF hs
 have xU:0 < s.1.n:=hs.n1
 have h28:=auJ (s:=s) (by omega) (fun t ht=>by have:=dN hs ht; omega) true
 have e0:Jc s true=0:=by unfold Jc; rw [ho,ha]; rfl
 rw [e0] at h28
 obtain ⟨z,h1,h2,h3⟩:=aWq hs
 have hmem:∀ it∈z.list,Good s it/\toL it∈links (cB s):=fun it hit=>⟨h3 it hit,by rw [<- h2]; exact List.mem_map_of_mem hit⟩
 have hne:links (cB s)≠[]:=by
  obtain ⟨L,hL⟩:=Ki.1 ha
  exact List.ne_nil_of_mem hL
 have key:∃ rows:cT,aW rows=afQ (links (cB s))/\(HP (ax7 (((s.1.g 0).2.1.n:Nat):Int) (-1) e2) z.list = .next (ax7 (((s.1.g 0).2.1.n:Nat):Int) ((eP (aW rows):Nat):Int) rows)\/HP (ax7 (((s.1.g 0).2.1.n:Nat):Int) (-1) e2) z.list = .brk 0 (ax7 (((s.1.g 0).2.1.n:Nat):Int) ((eP (aW rows):Nat):Int) rows)):=by
  rw [<- h2] at hne ⊢
  revert hne hmem
  cases z.list with
  | nil=>intro _ hne; exact absurd rfl hne
  | cons it l =>
   intro hmem _
   obtain ⟨g1,g2⟩:=hmem it (.head _)
   obtain ⟨rows,rfl,hr,hL⟩:=g1.rows
   rw [hL] at g2
   have st:=aL0 hs g2 (((s.1.g 0).2.1.n:Nat):Int) e2
   rw [List.map_cons,hL]
   show ∃ r':cT,aW r'=few (aW rows) (l.map toL)/\_
   by_cases c:eP (aW rows)=0
   ·rw [decide_eq_true c,cond_true] at st
    refine ⟨rows,(aby c _).symm,.inr ?_⟩
    unfold HP
    simp only [eW,st]
   ·rw [decide_eq_false c,cond_false] at st
    obtain ⟨r',h1,h2⟩:=aFa hs (((s.1.g 0).2.1.n:Nat):Int) l rows fun x hx=>hmem x (.tail _ hx)
    refine ⟨r',h1,?_⟩
    unfold HP at h2 ⊢
    simp only [eW,st]
    exact h2
 obtain ⟨rows,q1,q2⟩:=key
 refine ⟨rows,?_,q1⟩
 have YX:aW rows∈links (cB s):=by rw [q1]; exact abZ hne
 have hr:=aia hs YX
 have RI:=hr.n
 have hb:=BO (o:=rows) (fun t ht=>by rw [hr.k t (by omega)]; exact dN hs (by omega)) (rows.n - 1) (by omega)
 rw [List.take_of_length_le (by rw [dI]; omega)] at hb
 have Ml:=dN hs xU
 have wb:W ((((s.1.g 0).2.1.n:Nat):Int) + ((eP (aW rows):Nat):Int))=(((s.1.g 0).2.1.n + eP (aW rows):Nat):Int):=by rw [gQ ⟨by omega,by omega⟩]; omega
 have a0:(0:Int)<=0/\(0:Int) < ((s.1.n:Nat):Int):=by omega
 have fin:∀ q:Int,q=(((s.1.g 0).2.1.n + eP (aW rows):Nat):Int)->(some (q,(rows,((0:Int),()))):Option (WZ).den)=some ((((s.1.g 0).2.1.n + eP (aW rows):Nat):Int),(rows,((0:Int),()))):=fun q hq=>by rw [hq]
 unfold Yz Q16
 refine (aK h28).trans ?_
 refine (aR rfl).trans ?_
 refine (aq (decide_eq_true a0)).trans ?_
 refine (aK h1).trans ?_
 rcases q2 with q2 | q2
 ·refine (congrArg (fun o=>RJ o 0 _ (oQ o _ (oR o _ _))) q2).trans ?_
  exact fin _ wb
 ·refine (congrArg (fun o=>RJ o 0 _ (oQ o _ (oR o _ _))) q2).trans ?_
  exact fin _ wb
theorem aPI (hn:s.1.n<=1000) (hk:∀ t,t < s.1.n->(s.1.g t).2.1.n<=1000) (h:Jc s true≠0):Yz (no_index (s,()))=some ((0:Int),(e2,(Jc s true,()))):=by
 unfold Yz Q16
 refine (aK (auJ hn hk _)).trans ?_
 have:(!decide (Jc s true=0))=true:=by rw [decide_eq_false h]; rfl
 exact aq this
end Go.Dm
namespace Go.Dm
set_option maxRecDepth 100000
open Go.Low
variable {s:tS.den} {A X Y D:cT}
theorem acj (hs:(cB s).Ok) {rows:cT} (hr:PC s rows):eP (aW rows)<=9/\fc (aW rows)<=9/\0 < rows.n/\rows.n<=4/\∀ t,t < rows.n->(rows.g t).1.n<=3:=by
 have WM:=eF hs
 have xU:0 < s.1.n:=hs.n1
 have RI:=hr.n
 have hk:∀ t,t < rows.n->(rows.g t).1.n<=3:=fun t ht=>by rw [hr.k t (by omega)]; exact dN hs (by omega)
 have hb:=BO hk (rows.n - 1) (by omega)
 have hg:=BP hk (rows.n - 1) (by omega)
 rw [List.take_of_length_le (by rw [dI]; omega)] at hb hg
 exact ⟨by omega,by omega,by omega,by omega,hk⟩
end Go.Dm
namespace Go.Dm
set_option maxRecDepth 100000
open Go.Low
variable {s:tS.den}
end Go.Dm
namespace Go.Dm
set_option maxRecDepth 100000
open Go.Low
variable {s:tS.den}
structure Small (X:cT):Prop where
 pos:0 < X.n
 n:X.n<=1000000
 k:∀ i,i < X.n->(X.g i).1.n<=1000
section
variable {X:cT} (hX:Small X)
include hX
end
end Go.Dm
namespace Go.Dm
set_option maxRecDepth 100000
open Go.Low
variable {s:tS.den}
theorem aKn {a b:Sl sR.den} (ha:a.n<=1000):M45 (no_index (a,(b,())))=some (decide (aV a=aV b),()):=by
 unfold M45 Q45
 by_cases hn:((a.n:Nat):Int)=((b.n:Nat):Int)
 ·refine (aR (show (!decide (((a.n:Nat):Int)=((b.n:Nat):Int)))=false by rw [decide_eq_true hn]; rfl)).trans ?_
  have key:aGl (a,(b,())) ((0:Int),())=bif (List.range a.n).all (fun j=>decide ((show Int from (a.g j).1)=(show Int from (b.g j).1))) then .exit 0 () else LQ.ret (wy:=ayl) (show (aa ayl.ret).den from (false,())):=by
   unfold aGl
   refine dX (ps:=apF) (n:=a.n) (f:=fun j=>((j:Int),())) (by unfold cz; omega) (fun j hj _=>?_) (fun _=>?_)
   ·unfold aGk aGe
    refine (aq (decide_eq_true (dW hj))).trans ?_
    refine (aq (decide_eq_true (aQ hj))).trans ?_
    refine (aq (decide_eq_true (aQ (n:=b.n) (by omega)))).trans ?_
    cases hd:decide ((show Int from (a.g j).1)=(show Int from (b.g j).1)) with
    | true =>
     refine (aR (show (!decide ((show Int from (a.g j).1)=(show Int from (b.g j).1)))=false by rw [hd]; rfl)).trans ?_
     exact congrArg (fun q:Int=>(RQ.next (show (aa apF).den from (q,())):RQ apF ayl)) (dR hj (by omega))
    | false=>exact aq (show (!decide ((show Int from (a.g j).1)=(show Int from (b.g j).1)))=true by rw [hd]; rfl)
   ·unfold aGk aGe
    exact aR (decide_eq_false (by omega:¬ (((a.n:Nat):Int) < ((a.n:Nat):Int))))
  have e:(List.range a.n).all (fun j=>decide ((show Int from (a.g j).1)=(show Int from (b.g j).1)))=decide (aV a=aV b):=by
   rw [Bool.eq_iff_iff,decide_eq_true_eq]
   constructor
   ·intro h
    refine List.ext_getElem? fun j=>?_
    rw [gR,gR]
    by_cases hj:j < a.n
    ·rw [if_pos hj,if_pos (by omega)]
     exact congrArg some (of_decide_eq_true (mQ h hj))
    ·rw [if_neg hj,if_neg (by omega)]
   ·intro h
    refine JL fun j hj=>decide_eq_true ?_
    have:(aV a)[j]? = (aV b)[j]? := by rw [h]
    rw [gR,gR,if_pos hj,if_pos (by omega)] at this
    exact Option.some.inj this
  rw [e] at key
  revert key
  cases decide (aV a=aV b) with
  | true=>intro key; exact (bp key).trans rfl
  | false=>intro key; exact (congrArg (fun o=>aF o 0 _ (bS o _ _)) key).trans rfl
 ·refine (aq (show (!decide (((a.n:Nat):Int)=((b.n:Nat):Int)))=true by rw [decide_eq_false hn]; rfl)).trans ?_
  have:¬ (aV a=aV b):=fun e=>hn (by
   have:=congrArg List.length e
   rw [iN,iN] at this
   omega)
  rw [decide_eq_false this]
theorem aRP {a b:cT} (hn:a.n<=1000000) (hk:∀ i,i < a.n->(a.g i).1.n<=1000) (h:aW a=aW b):M12 (no_index (a,(b,())))=some (true,()):=by
 have hab:a.n=b.n:=by
  have:=congrArg List.length h
  rwa [dI,dI] at this
 unfold M12 Q12
 refine (aR (show (!decide (((a.n:Nat):Int)=((b.n:Nat):Int)))=false by rw [hab,decide_eq_true rfl]; rfl)).trans ?_
 have key:aGs (a,(b,())) ((0:Int),()) = .exit 0 ():=by
  unfold aGs
  refine bQ (ps:=apH) a.n cz (fun j=>((j:Int),())) (by unfold cz; omega) (fun j hj=>?_) ?_
  ·have e:aV (a.g j).1=aV (b.g j).1:=by
    have:(aW a)[j]? = (aW b)[j]? := by rw [h]
    rw [tW hj,tW (by omega)] at this
    exact Option.some.inj this
   have h45:=aKn (a:=(a.g j).1) (b:=(b.g j).1) (hk j hj)
   rw [decide_eq_true e] at h45
   unfold aGr aGq
   refine (aq (decide_eq_true (dW hj))).trans ?_
   refine (aq (decide_eq_true (aQ hj))).trans ?_
   refine (aq (decide_eq_true (aQ (n:=b.n) (by omega)))).trans ?_
   refine (aK h45).trans ?_
   refine (aR rfl).trans ?_
   exact congrArg (fun q:Int=>(RQ.next (show (aa apH).den from (q,())):RQ apH aEz)) (dR hj (by omega))
  ·unfold aGr aGq
   exact aR (decide_eq_false (by omega:¬ (((a.n:Nat):Int) < ((a.n:Nat):Int))))
 exact (bp key).trans rfl
theorem aFX (hs:(cB s).Ok) {rows:cT} (hL:aW rows∈links (cB s)) {t:Nat} (ht:t + 1 < s.1.n) (i:Nat):has (aV (rows.g (t + 1)).1) (i:Int)=(nx (cB s) (aW rows) t i).isSome:=by
 have hr:=aia hs hL
 have hI:=(tX hs).1 hL
 have e:=kH (o:=rows) (t:=t + 1) (by rw [hr.n]; exact ht)
 rw [<- e,Bool.eq_iff_iff]
 constructor
 ·intro h
  obtain ⟨j,hj,e⟩:=(aFH hI ht (i:Int) (by omega)).1 h
  cases hn:nx (cB s) (aW rows) t i with
  | some k=>rfl
  | none=>exact absurd e (aXi hn hj)
 ·intro h
  cases hn:nx (cB s) (aW rows) t i with
  | none=>rw [hn] at h; cases h
  | some k=>exact (aFH hI ht (i:Int) (by omega)).2 ⟨k,aqc hn⟩
theorem aWS (hs:(cB s).Ok) {rows:cT} (hL:aW rows∈links (cB s)) {t i:Nat} (ht:t + 1 < s.1.n) {out:Sl sR.den} (ho:out.n<=1000) (h0:0 < out.n) (hl:(show Int from (out.g (out.n - 1)).1)=(i:Int)) :
    ax4 (rows,(((t + 1:Nat):Int),(out,()))) ((0:Int),())=match nx (cB s) (aW rows) t i with | some k=>.exit 2 (snoc out ((k:Int),()),()) | none=>.exit 2 (out,()):=by
  have hr:=aia hs hL
  have RI:=hr.n
  have hk:=dN hs ht
  have hkr:=hr.k _ ht
  rw [<- aPH hs hr ht]
  have at1:(0:Int)<=((t + 1:Nat):Int)/\((t + 1:Nat):Int) < ((rows.n:Nat):Int):=by omega
  have w:W (((out.n:Nat):Int) - 1)=((out.n - 1:Nat):Int):=by rw [gQ ⟨by omega,by omega⟩]; omega
  have h8:(out.n + 1) * 8<=140737488355328:=by omega
  unfold ax4
  have key:=kG (step:=ax2 (rows,(((t + 1:Nat):Int),(out,())))) (N:=cz) (ps:=nY) (wy:=aum) (n:=(rows.g (t + 1)).1.n) (f:=fun j=>((j:Int),())) (c:=fun j=>decide ((i:Int)=((rows.g (t + 1)).1.g j).1))
    (qe:=.exit 2 (out,())) (qr:=fun k=>.exit 2 (snoc out ((k:Int),()),())) (by unfold cz; omega) (fun j hj _=>by
      have abO:(0:Int)<=(j:Int)/\(j:Int) < ((((rows.g (t + 1)).1.n:Nat)):Int):=by omega
      have kk:∀ z:Int,z=((out.n - 1:Nat):Int)->∀ (p q r1:RQ nY aum),(bif (decide ((0:Int)<=z/\z < ((out.n:Nat):Int))) then bif (decide (((rows.g (t + 1)).1.g j).1=(out.g (Int.toNat z)).1)) then p else q else r1)=bif decide ((i:Int)=((rows.g (t + 1)).1.g j).1) then p else q:=fun z hz p q r1=>by
        subst hz
        refine (aq (decide_eq_true (aQ (n:=out.n) (by omega)))).trans ?_
        have e:decide ((show Int from ((rows.g (t + 1)).1.g j).1)=(show Int from (out.g (Int.toNat ((out.n - 1:Nat):Int))).1))=decide ((i:Int)=(show Int from ((rows.g (t + 1)).1.g j).1)):=by
          have e2:(show Int from (out.g (Int.toNat ((out.n - 1:Nat):Int))).1)=(i:Int):=hl
          rw [e2,decide_eq_decide]
          exact eq_comm
        exact congrArg (fun b:Bool=>bif b then p else q) e
      unfold ax2 aBr
      refine (aq (decide_eq_true at1)).trans ?_
      refine (aq (decide_eq_true abO.2)).trans ?_
      refine (aq (decide_eq_true at1)).trans ?_
      refine (aq (decide_eq_true abO)).trans ?_
      refine (kk _ w _ _ _).trans ?_
      cases decide ((i:Int)=((rows.g (t + 1)).1.g j).1) with
      | true=>exact aq (decide_eq_true h8)
      | false=>exact congrArg (fun q:Int=>(RQ.next (show (aa nY).den from (q,())):RQ nY aum)) (dR hj (by omega))) (fun _=>by
      unfold ax2 aBr
      refine (aq (decide_eq_true at1)).trans ?_
      exact aR (decide_eq_false (by omega:¬ ((((rows.g (t + 1)).1.n:Nat):Int) < (((rows.g (t + 1)).1.n:Nat):Int)))))
  exact key
theorem aRR (hs:(cB s).Ok) {rows:cT} (hL:aW rows∈links (cB s)):∀ (m t i n:Nat) (out:Sl sR.den),t + m + 1=s.1.n->m < n->out.n + m<=1000->0 < out.n->(show Int from (out.g (out.n - 1)).1)=(i:Int) ->
  ∃ r:Sl sR.den,aH (aDn (rows,())) n ((t:Int),(out,())) = .exit 0 (r,())/\aV r=aV out ++ (acT (cB s) (aW rows) m t i).tail
 | m,t,i,n,out,ht,hn,ho,h0,hl=>by
  obtain ⟨n,rfl⟩:∃ q,n=q + 1:=⟨n - 1,by omega⟩
  have hr:=aia hs hL
  have RI:=hr.n
  have WM:=eF hs
  have w1:W ((t:Int) + 1)=((t + 1:Nat):Int):=dR (n:=s.1.n) (by omega) (by omega)
  cases m with
  | zero =>
   have st:aDn (rows,()) ((t:Int),(out,())) = .out (.exit 0 (out,())):=by
    unfold aDn aG3
    have:¬ (W ((t:Int) + 1) < ((rows.n:Nat):Int)):=by rw [w1]; omega
    exact aR (decide_eq_false this)
   exact ⟨out,by rw [aH,st],by simp [acT,des]⟩
  | succ m =>
   have ht1:t + 1 < s.1.n:=by omega
   have hk1:=dN hs ht1
   have hp:(acT (cB s) (aW rows) (m + 1) t i).tail=match nx (cB s) (aW rows) t i with | some j=>acT (cB s) (aW rows) m (t + 1) j | none=>[]:=by
    unfold acT
    simp only [des,List.map_cons,List.tail_cons]
    cases nx (cB s) (aW rows) t i <;> rfl
   have w2:W (((out.n:Nat):Int) - 1)=((out.n - 1:Nat):Int):=by rw [gQ ⟨by omega,by omega⟩]; omega
   have hin:=aWS hs hL (i:=i) ht1 (out:=out) (by omega) h0 hl
   have h76:=apc (rows.g (t + 1)).1 (by rw [hr.k _ ht1]; omega) (i:Int)
   rw [aFX hs hL ht1] at h76
   have he:(out.g (out.n - 1))=((i:Int),()):=Prod.ext hl rfl
   have st:aDn (rows,()) ((t:Int),(out,()))=match nx (cB s) (aW rows) t i with | some k=>.next (((t + 1:Nat):Int),(snoc out ((k:Int),()),())) | none=>.out (.exit 0 (out,())):=by
    have kk:∀ z y:Int,z=((t + 1:Nat):Int)->y=((out.n - 1:Nat):Int)->(bif (decide (z < ((rows.n:Nat):Int))) then bif (decide (((0:Int)<=z)/\(z < ((rows.n:Nat):Int)))) then bif (decide (((0:Int)<=y)/\(y < ((out.n:Nat):Int)))) then cl (r76).dflt (M76 ((rows.g (Int.toNat z)).1,(out.g (Int.toNat y)))) (fun u0=>bif u0.1 then aF (ax4 (rows,(z,(out,()))) ((0:Int),())) 2 (fun u1=>(RQ.next (show (aa auz).den from (z,u1)):RQ auz aED)) .bad else .out (.exit 0 (out,()))) .bad else .bad else .bad else .out (.exit 0 (out,())))=match nx (cB s) (aW rows) t i with | some k=>.next (((t + 1:Nat):Int),(snoc out ((k:Int),()),())) | none=>.out (.exit 0 (out,())):=by
     intro z y hz hy
     subst hz hy
     have a1:(0:Int)<=((t + 1:Nat):Int)/\((t + 1:Nat):Int) < ((rows.n:Nat):Int):=by omega
     refine (aq (decide_eq_true a1.2)).trans ?_
     refine (aq (decide_eq_true a1)).trans ?_
     refine (aq (decide_eq_true (aQ (n:=out.n) (by omega)))).trans ?_
     have bgB:M76 ((rows.g (Int.toNat ((t + 1:Nat):Int))).1,(out.g (Int.toNat ((out.n - 1:Nat):Int))))=some ((nx (cB s) (aW rows) t i).isSome,()):=by
      show M76 ((rows.g (t + 1)).1,(out.g (out.n - 1)))=_
      rw [he]; exact h76
     refine (aK bgB).trans ?_
     cases hnx:nx (cB s) (aW rows) t i with
     | none=>rfl
     | some k =>
      rw [hnx] at hin
      refine (aq rfl).trans ?_
      exact bp hin
    unfold aDn aG3
    exact kk _ _ w1 w2
   rw [hp]
   cases hnx:nx (cB s) (aW rows) t i with
   | none =>
    rw [hnx] at st
    exact ⟨out,by rw [aH,st],by simp⟩
   | some k =>
    rw [hnx] at st
    obtain ⟨r,q1,q2⟩:=aRR hs hL m (t + 1) k n (snoc out ((k:Int),())) (by omega) (by omega) (by rw [IP]; omega) (by rw [IP]; omega) (by
     have:(snoc out ((k:Int),())).n - 1=out.n:=by rw [IP]; omega
     rw [this,Il])
    refine ⟨r,?_,?_⟩
    ·refine Eq.trans ?_ q1
     rw [aH,st]
    ·rw [q2,Et,List.append_assoc]
     congr 1
     cases m <;> simp [acT,des]
theorem auH (hs:(cB s).Ok) {rows:cT} (hL:aW rows∈links (cB s)) {t i:Nat} (ht:t < s.1.n):∃ r:Sl sR.den,Yl (no_index (rows,((t:Int),((i:Int),()))))=some (r,())/\aV r=acT (cB s) (aW rows) (s.1.n - 1 - t) t i:=by
 have WM:=eF hs
 obtain ⟨r,h1,h2⟩:=aRR hs hL (s.1.n - 1 - t) t i cz (⟨1,fun j=>List.getD [((i:Int),())] j ((i:Int),())⟩:Sl sR.den) (by omega) (by unfold cz; omega) (by show 1 + (s.1.n - 1 - t)<=1000; omega) (by show 0 < 1; omega) rfl
 refine ⟨r,?_,?_⟩
 ·unfold Yl Q46
  exact (bp h1).trans rfl
 ·rw [h2]
  show [(i:Int)] ++ _=_
  generalize s.1.n - 1 - t=m
  cases m <;> simp [acT,des]
end Go.Dm
namespace Go.Dm
set_option maxRecDepth 100000
open Go.Low
variable {s:tS.den}
theorem aAP (hs:(cB s).Ok):(links (cB s)).length<=1000000:=Nat.le_trans (abS hs) (by omega)
theorem at3 (p:PS) (L:LL):∀ (m t i:Nat),(des p L m t i).length<=m + 1
 | 0,t,i=>by simp [des]
 | m + 1,t,i=>by
  simp only [des,List.length_cons]
  cases nx p L t i with
  | none=>simp
  | some j=>have:=at3 p L m (t + 1) j; dsimp only; omega
end Go.Dm
namespace Go.Dm
set_option maxRecDepth 100000
open Go.Low
variable {s:tS.den}
end Go.Dm

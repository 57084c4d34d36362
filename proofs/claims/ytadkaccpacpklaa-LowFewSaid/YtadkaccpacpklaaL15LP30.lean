/- low.Fewest in plain terms. -/
import Derived.Test.YtadkaccpacpklaaL15LP26
set_option linter.unusedVariables false
set_option linter.unusedSimpArgs false
namespace Go.Dm
set_option maxRecDepth 100000
open Go.Low
variable {s:tS.den}
theorem au8 {r:Sl sR.den} (hv:∀ j,j < r.n->(show Int from (r.g j).1) = -1\/0<=(show Int from (r.g j).1)) (hk:r.n<=3) {c0:Nat} (hc:c0<=100) {sub:cT} {c1 c2:Int} :
  Eb (sub,(c1,(c2,(r,((r.n:Int),()))))) ((c0:Int),((0:Int),())) = .exit 2 (((c0 + eO (aV r):Nat):Int),()):=by
 unfold Eb
 have hb:∀ j,eO ((aV r).take j)<=j:=fun j=>by
  unfold eO
  exact Nat.le_trans List.count_le_length (by rw [List.length_take]; omega)
 have e2:(aV r).take r.n=aV r:=List.take_of_length_le (by rw [iN]; exact Nat.le_refl _)
 have key:aH (Ea (sub,(c1,(c2,(r,((r.n:Int),())))))) cz (((c0 + eO ((aV r).take 0):Nat):Int),((0:Int),())) = .exit 2 (((c0 + eO ((aV r).take r.n):Nat):Int),()):=by
  refine bQ (ps:=gv) r.n cz (fun j=>(((c0 + eO ((aV r).take j):Nat):Int),((j:Int),()))) (by unfold cz; omega) (fun j hj=>?_) ?_
  ·unfold Ea DZ
   refine (aq (decide_eq_true (dW hj))).trans ?_
   refine (aq (decide_eq_true (aQ hj))).trans ?_
   have Gr:=hb j
   have w1:W ((j:Int) + 1)=((j + 1:Nat):Int):=dR hj (by omega)
   have hs:=LM ((aV r).take j) (show Int from (r.g j).1)
   rw [<- Eu hj] at hs
   rcases hv j hj with hd | hd
   ·have hd2:(show Int from (r.g j).1) < 0:=by omega
    rw [decide_eq_true hd,cond_true] at hs
    refine (aq (decide_eq_true hd2)).trans ?_
    have w2:W (((c0 + eO ((aV r).take j):Nat):Int) + 1)=((c0 + eO ((aV r).take (j + 1)):Nat):Int):=by rw [gQ ⟨by omega,by omega⟩,hs]; omega
    exact (congrArg (fun q:Int=>(RQ.next (show (aa gv).den from (q,(W ((j:Int) + 1),()))):RQ gv tL)) w2).trans (congrArg (fun q:Int=>(RQ.next (show (aa gv).den from (((c0 + eO ((aV r).take (j + 1)):Nat):Int),(q,()))):RQ gv tL)) w1)
   ·have hd2:¬ ((show Int from (r.g j).1) < 0):=by omega
    have hd3:¬ ((show Int from (r.g j).1) = -1):=by omega
    rw [decide_eq_false hd3,cond_false,Nat.add_zero] at hs
    refine (aR (decide_eq_false hd2)).trans ?_
    rw [hs]
    exact congrArg (fun q:Int=>(RQ.next (show (aa gv).den from (((c0 + eO ((aV r).take j):Nat):Int),(q,()))):RQ gv tL)) w1
  ·unfold Ea DZ
   have:¬ ((r.n:Int) < (r.n:Int)):=by omega
   exact aR (decide_eq_false this)
 rw [e2] at key
 exact key
theorem aor (hs:(cB s).Ok) {rows:cT} (hL:aW rows∈links (cB s)) {t j:Nat} (ht:t + 1 < s.1.n) (hj:j < (rows.g (t + 1)).1.n):(show Int from ((rows.g (t + 1)).1.g j).1) = -1\/0<=(show Int from ((rows.g (t + 1)).1.g j).1):=by
 have hr:=aia hs hL
 have hI:=(tX hs).1 hL
 rw [<- OO (by rw [hr.n]; exact ht) hj]
 rcases hI.afg ht (i:=j) (by have:=hr.k (t + 1) ht; show j < (s.1.g (t + 1)).2.1.n; omega) with h | h
 ·exact .inl h
 ·exact .inr h.1
theorem apU (hs:(cB s).Ok) {rows:cT} (hL:aW rows∈links (cB s)):M87 (no_index ((vw s rows).1,()))=some (((eP (aW rows):Nat):Int),()):=by
 have hr:=aia hs hL
 have WM:=eF hs
 have xU:0 < s.1.n:=hs.n1
 have RI:=hr.n
 have hk:∀ t,t < rows.n->(rows.g t).1.n<=3:=fun t ht=>by rw [hr.k t (by omega)]; exact dN hs (by omega)
 obtain ⟨n,hn⟩:∃ n,rows.n=n + 1:=⟨rows.n - 1,by omega⟩
 have key:∀ m:Nat,m=n->abD ((⟨m,fun i=>rows.g (i + 1)⟩:cT),(((m:Nat):Int),())) ((0:Int),((0:Int),())) = .exit 0 (((eP ((aW rows).take (n + 1)):Nat):Int),()):=by
  intro m hm
  subst hm
  unfold abD
  have b0:eP ((aW rows).take 1)=0:=Nat.le_zero.1 (BO hk 0 (by omega))
  have h0:=bQ (step:=TI ((⟨m,fun i=>rows.g (i + 1)⟩:cT),(((m:Nat):Int),()))) m cz (fun j=>(((eP ((aW rows).take (j + 1)):Nat):Int),((j:Int),()))) (by unfold cz; omega) (fun j hj=>by
   unfold TI TH
   have hj1:j + 1 < rows.n:=by omega
   have hle:=BO hk j (by omega)
   refine (aq (decide_eq_true (dW hj))).trans ?_
   refine (aq (decide_eq_true (aQ (n:=m) hj))).trans ?_
   refine (bp (au8 (r:=(rows.g (j + 1)).1) (fun i hi=>aor hs hL (by omega) hi) (hk _ hj1) (c0:=eP ((aW rows).take (j + 1))) (by omega))).trans ?_
   have e:eP ((aW rows).take (j + 1)) + eO (aV (rows.g (j + 1)).1)=eP ((aW rows).take (j + 1 + 1)):=by
    rw [gu hj1,qZ (by rw [wq (by omega)]; omega)]
   rw [e]
   exact congrArg (fun q:Int=>(RQ.next (show (aa mj).den from (((eP ((aW rows).take (j + 1 + 1)):Nat):Int),(q,()))):RQ mj Ec)) (dR hj (by omega))) (q:=.exit 0 (((eP ((aW rows).take (m + 1)):Nat):Int),())) (by
   unfold TI TH
   have:¬ (((m:Nat):Int) < ((m:Nat):Int)):=by omega
   exact aR (decide_eq_false this))
  have e0:(((eP ((aW rows).take (0 + 1)):Nat):Int),(((0:Nat):Int),()))=((0:Int),((0:Int),())):=by
   show (((eP ((aW rows).take 1):Nat):Int),((0:Int),()))=_
   rw [b0]; rfl
  rw [<- e0]
  exact h0
 have hm:Int.toNat (((rows.n:Nat):Int) - 1)=n:=by omega
 have a:(0:Int)<=1/\((1:Int)<=((rows.n:Nat):Int)/\((rows.n:Nat):Int)<=((rows.n:Nat):Int)):=by omega
 unfold M87 Q87
 refine (aq (decide_eq_true a)).trans ?_
 refine (bp (key _ hm)).trans ?_
 rw [List.take_of_length_le (by rw [dI]; omega)]
def few (b:LL):List LL->LL
 | []=>b
 | L :: l=>few (if eP L < eP b then L else b) l
def afQ:List LL->LL
 | []=>[]
 | L :: l=>few L l
theorem aby {b:LL} (h:eP b=0):∀ l,few b l=b
 | []=>rfl
 | L :: l=>by rw [few,if_neg (by omega)]; exact aby h l
theorem ab9:∀ {l:List LL} {b:LL},few b l=b\/few b l∈l
 | [],b=>.inl rfl
 | L :: l,b=>by
  rw [few]
  split
  ·rcases ab9 (l:=l) (b:=L) with h | h
   ·rw [h]; exact .inr (.head _)
   ·exact .inr (.tail _ h)
  ·rcases ab9 (l:=l) (b:=b) with h | h
   ·exact .inl h
   ·exact .inr (.tail _ h)
theorem acg:∀ {l:List LL} {b:LL},eP (few b l)<=eP b/\∀ L∈l,eP (few b l)<=eP L
 | [],b=>⟨Nat.le_refl _,fun _ h=>by cases h⟩
 | L :: l,b=>by
  rw [few]
  split
  ·obtain ⟨h1,h2⟩:=acg (l:=l) (b:=L)
   refine ⟨by omega,fun M hM=>?_⟩
   rcases List.mem_cons.1 hM with e | hM
   ·subst e; exact h1
   ·exact h2 M hM
  ·obtain ⟨h1,h2⟩:=acg (l:=l) (b:=b)
   refine ⟨h1,fun M hM=>?_⟩
   rcases List.mem_cons.1 hM with e | hM
   ·subst e; omega
   ·exact h2 M hM
theorem abZ {l:List LL} (h:l≠[]):afQ l∈l:=by
 cases l with
 | nil=>exact absurd rfl h
 | cons L l =>
  rcases ab9 (l:=l) (b:=L) with h | h
  ·show few L l∈_; rw [h]; exact .head _
  ·exact .tail _ h
theorem afX {l:List LL} {L:LL} (h:L∈l):eP (afQ l)<=eP L:=by
 cases l with
 | nil=>cases h
 | cons M l =>
  obtain ⟨h1,h2⟩:=acg (l:=l) (b:=M)
  rcases List.mem_cons.1 h with e | h
  ·subst e; exact h1
  ·exact h2 L h
def abo (B least:Int) (rows:cT):(aa kn).den:=(B,((),((),((least,()),((rows,()),())))))
theorem af8 (hs:(cB s).Ok) {rows:cT} (hL:aW rows∈links (cB s)) (B:Int) (r0:cT):TK (abo B (-1) r0) (vw s rows)=bif decide (eP (aW rows)=0) then .brk 0 (abo B ((eP (aW rows):Nat):Int) rows) else .next (abo B ((eP (aW rows):Nat):Int) rows):=by
 unfold TK TJ
 refine (aK (apU hs hL)).trans ?_
 refine (aq rfl).trans ?_
 by_cases c:eP (aW rows)=0
 ·have c':(((eP (aW rows):Nat)):Int)=0:=by omega
  rw [decide_eq_true c]
  exact aq (decide_eq_true c')
 ·have c':¬ ((((eP (aW rows):Nat)):Int)=0):=by omega
  rw [decide_eq_false c]
  exact aR (decide_eq_false c')
theorem aiB (hs:(cB s).Ok) {rows:cT} (hL:aW rows∈links (cB s)) (B:Int) (n0:Nat) (r0:cT):TK (abo B (n0:Int) r0) (vw s rows)=bif decide (eP (aW rows) < n0) then (bif decide (eP (aW rows)=0) then .brk 0 (abo B ((eP (aW rows):Nat):Int) rows) else .next (abo B ((eP (aW rows):Nat):Int) rows)) else (bif decide (n0=0) then .brk 0 (abo B (n0:Int) r0) else .next (abo B (n0:Int) r0)):=by
 unfold TK TJ
 refine (aK (apU hs hL)).trans ?_
 refine (aR (decide_eq_false (show ¬ ((n0:Int) < 0) by omega))).trans ?_
 by_cases c0:eP (aW rows) < n0
 ·rw [decide_eq_true c0]
  refine (aq (decide_eq_true (show (((eP (aW rows):Nat)):Int) < (n0:Int) by omega))).trans ?_
  by_cases c:eP (aW rows)=0
  ·have c':(((eP (aW rows):Nat)):Int)=0:=by omega
   rw [decide_eq_true c]
   exact aq (decide_eq_true c')
  ·have c':¬ ((((eP (aW rows):Nat)):Int)=0):=by omega
   rw [decide_eq_false c]
   exact aR (decide_eq_false c')
 ·rw [decide_eq_false c0]
  refine (aR (decide_eq_false (show ¬ ((((eP (aW rows):Nat)):Int) < (n0:Int)) by omega))).trans ?_
  by_cases c:n0=0
  ·have c':((n0:Nat):Int)=0:=by omega
   rw [decide_eq_true c]
   exact aq (decide_eq_true c')
  ·have c':¬ (((n0:Nat):Int)=0):=by omega
   rw [decide_eq_false c]
   exact aR (decide_eq_false c')
theorem aci (hs:(cB s).Ok) (B:Int):∀ (l:List fD.den) (r0:cT),(∀ it∈l,Good s it/\toL it∈links (cB s)) ->
  ∃ rows:cT,aW rows=few (aW r0) (l.map toL)/\(Mu (abo B ((eP (aW r0):Nat):Int) r0) l = .next (abo B ((eP (aW rows):Nat):Int) rows)\/Mu (abo B ((eP (aW r0):Nat):Int) r0) l = .brk 0 (abo B ((eP (aW rows):Nat):Int) rows))
 | [],r0,_=>⟨r0,rfl,.inl rfl⟩
 | it :: l,r0,hg=>by
  obtain ⟨g1,g2⟩:=hg it (.head _)
  obtain ⟨rows,rfl,hr,hL⟩:=g1.rows
  rw [hL] at g2
  have st:=aiB hs g2 B (eP (aW r0)) r0
  rw [List.map_cons,hL,few]
  by_cases c0:eP (aW rows) < eP (aW r0)
  ·rw [decide_eq_true c0,cond_true] at st
   rw [if_pos c0]
   by_cases c:eP (aW rows)=0
   ·rw [decide_eq_true c,cond_true] at st
    refine ⟨rows,(aby c _).symm,.inr ?_⟩
    unfold Mu
    simp only [eW,st]
   ·rw [decide_eq_false c,cond_false] at st
    obtain ⟨r',h1,h2⟩:=aci hs B l rows fun x hx=>hg x (.tail _ hx)
    refine ⟨r',h1,?_⟩
    unfold Mu at h2 ⊢
    simp only [eW,st]
    exact h2
  ·rw [decide_eq_false c0,cond_false] at st
   rw [if_neg c0]
   by_cases c:eP (aW r0)=0
   ·rw [decide_eq_true c,cond_true] at st
    refine ⟨r0,(aby c _).symm,.inr ?_⟩
    unfold Mu
    simp only [eW,st]
   ·rw [decide_eq_false c,cond_false] at st
    obtain ⟨r',h1,h2⟩:=aci hs B l r0 fun x hx=>hg x (.tail _ hx)
    refine ⟨r',h1,?_⟩
    unfold Mu at h2 ⊢
    simp only [eW,st]
    exact h2
theorem aBC (ho:Io s=true) (ha:Dg s=true):∃ rows:cT,M40 (no_index (s,()))=some (((((s.1.g 0).2.1.n + eP (aW rows):Nat)):Int),(rows,((0:Int),())))/\aW rows=afQ (links (cB s)):=by
 have hs:=qP ho
 have WM:=eF hs
 have xU:0 < s.1.n:=hs.n1
 have h63:=auP (s:=s) (by omega) (fun t ht=>by have:=dN hs ht; omega) true
 have e0:Jc s true=0:=by unfold Jc; rw [ho,ha]; rfl
 rw [e0] at h63
 obtain ⟨z,h1,h2,h3⟩:=anh hs
 have hmem:∀ it∈z.list,Good s it/\toL it∈links (cB s):=fun it hit=>⟨h3 it hit,by rw [<- h2]; exact List.mem_map_of_mem hit⟩
 have hne:links (cB s)≠[]:=by
  obtain ⟨L,hL⟩:=Ki.1 ha
  exact List.ne_nil_of_mem hL
 have key:∃ rows:cT,aW rows=afQ (links (cB s))/\(Mu (abo (((s.1.g 0).2.1.n:Nat):Int) (-1) e2) z.list = .next (abo (((s.1.g 0).2.1.n:Nat):Int) ((eP (aW rows):Nat):Int) rows)\/Mu (abo (((s.1.g 0).2.1.n:Nat):Int) (-1) e2) z.list = .brk 0 (abo (((s.1.g 0).2.1.n:Nat):Int) ((eP (aW rows):Nat):Int) rows)):=by
  rw [<- h2] at hne ⊢
  revert hne hmem
  cases z.list with
  | nil=>intro _ hne; exact absurd rfl hne
  | cons it l =>
   intro hmem _
   obtain ⟨g1,g2⟩:=hmem it (.head _)
   obtain ⟨rows,rfl,hr,hL⟩:=g1.rows
   rw [hL] at g2
   have st:=af8 hs g2 (((s.1.g 0).2.1.n:Nat):Int) e2
   rw [List.map_cons,hL]
   show ∃ r':cT,aW r'=few (aW rows) (l.map toL)/\_
   by_cases c:eP (aW rows)=0
   ·rw [decide_eq_true c,cond_true] at st
    refine ⟨rows,(aby c _).symm,.inr ?_⟩
    unfold Mu
    simp only [eW,st]
   ·rw [decide_eq_false c,cond_false] at st
    obtain ⟨r',h1,h2⟩:=aci hs (((s.1.g 0).2.1.n:Nat):Int) l rows fun x hx=>hmem x (.tail _ hx)
    refine ⟨r',h1,?_⟩
    unfold Mu at h2 ⊢
    simp only [eW,st]
    exact h2
 obtain ⟨rows,q1,q2⟩:=key
 refine ⟨rows,?_,q1⟩
 have YX:aW rows∈links (cB s):=by rw [q1]; exact abZ hne
 have hr:=aia hs YX
 have RI:=hr.n
 have hb:=BO (o:=rows) (fun t ht=>by rw [hr.k t (by omega)]; exact dN hs (by omega)) (rows.n - 1) (by omega)
 rw [List.take_of_length_le (by rw [dI]; omega)] at hb
 have Ml:=dN hs xU
 have wb:W ((((s.1.g 0).2.1.n:Nat):Int) + ((eP (aW rows):Nat):Int))=(((s.1.g 0).2.1.n + eP (aW rows):Nat):Int):=by rw [gQ ⟨by omega,by omega⟩]; omega
 have a0:(0:Int)<=0/\(0:Int) < ((s.1.n:Nat):Int):=by omega
 have fin:∀ q:Int,q=(((s.1.g 0).2.1.n + eP (aW rows):Nat):Int)->(some (q,(rows,((0:Int),()))):Option (Rb).den)=some ((((s.1.g 0).2.1.n + eP (aW rows):Nat):Int),(rows,((0:Int),()))):=fun q hq=>by rw [hq]
 unfold M40 Q40
 refine (aK h63).trans ?_
 refine (aR rfl).trans ?_
 refine (aq (decide_eq_true a0)).trans ?_
 refine (aK h1).trans ?_
 rcases q2 with q2 | q2
 ·refine (congrArg (fun o=>RJ o 0 _ (oQ o _ (oR o _ _))) q2).trans ?_
  exact fin _ wb
 ·refine (congrArg (fun o=>RJ o 0 _ (oQ o _ (oR o _ _))) q2).trans ?_
  exact fin _ wb
theorem aos (hn:s.1.n<=1000) (hk:∀ t,t < s.1.n->(s.1.g t).2.1.n<=1000) (h:Jc s true≠0):M40 (no_index (s,()))=some ((0:Int),(e2,(Jc s true,()))):=by
 unfold M40 Q40
 refine (aK (auP hn hk _)).trans ?_
 have:(!decide (Jc s true=0))=true:=by rw [decide_eq_false h]; rfl
 exact aq this
end Go.Dm

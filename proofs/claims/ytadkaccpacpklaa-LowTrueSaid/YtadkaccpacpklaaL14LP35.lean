/-
 Of the plain law.
-/
import Derived.Test.YtadkaccpacpklaaL14LP29
set_option linter.unusedVariables false
set_option linter.unusedSimpArgs false
namespace Go.Dm
set_option maxRecDepth 100000
open Go.Low
variable {s:tS.den}
theorem au8 {r:Sl sR.den} (hv:∀ j,j < r.n->(show Int from (r.g j).1) = -1\/0<=(show Int from (r.g j).1)) (hk:r.n<=3) {c0:Nat} (hc:c0<=100) {sub:cT} {c1 c2:Int} :
  Eb (sub,(c1,(c2,(r,((r.n:Int),()))))) ((c0:Int),((0:Int),())) = .exit 2 (((c0 + eO (aV r):Nat):Int),()):=by
 unfold Eb
 have hb:∀ j,eO ((aV r).take j)<=j:=fun j=>by
  unfold eO
  exact Nat.le_trans List.count_le_length (by rw [List.length_take]; omega)
 have e2:(aV r).take r.n=aV r:=List.take_of_length_le (by rw [iN]; exact Nat.le_refl _)
 have key:aH (Ea (sub,(c1,(c2,(r,((r.n:Int),())))))) cz (((c0 + eO ((aV r).take 0):Nat):Int),((0:Int),())) = .exit 2 (((c0 + eO ((aV r).take r.n):Nat):Int),()):=by
  refine bQ (ps:=gv) r.n cz (fun j=>(((c0 + eO ((aV r).take j):Nat):Int),((j:Int),()))) (by unfold cz; omega) (fun j hj=>?_) ?_
  ·unfold Ea DZ
   refine (aq (decide_eq_true (dW hj))).trans ?_
   refine (aq (decide_eq_true (aQ hj))).trans ?_
   have Gr:=hb j
   have w1:W ((j:Int) + 1)=((j + 1:Nat):Int):=dR hj (by omega)
   have hs:=LM ((aV r).take j) (show Int from (r.g j).1)
   rw [<- Eu hj] at hs
   rcases hv j hj with hd | hd
   ·have hd2:(show Int from (r.g j).1) < 0:=by omega
    rw [decide_eq_true hd,cond_true] at hs
    refine (aq (decide_eq_true hd2)).trans ?_
    have w2:W (((c0 + eO ((aV r).take j):Nat):Int) + 1)=((c0 + eO ((aV r).take (j + 1)):Nat):Int):=by rw [gQ ⟨by omega,by omega⟩,hs]; omega
    exact (congrArg (fun q:Int=>(RQ.next (show (aa gv).den from (q,(W ((j:Int) + 1),()))):RQ gv tL)) w2).trans (congrArg (fun q:Int=>(RQ.next (show (aa gv).den from (((c0 + eO ((aV r).take (j + 1)):Nat):Int),(q,()))):RQ gv tL)) w1)
   ·have hd2:¬ ((show Int from (r.g j).1) < 0):=by omega
    have hd3:¬ ((show Int from (r.g j).1) = -1):=by omega
    rw [decide_eq_false hd3,cond_false,Nat.add_zero] at hs
    refine (aR (decide_eq_false hd2)).trans ?_
    rw [hs]
    exact congrArg (fun q:Int=>(RQ.next (show (aa gv).den from (((c0 + eO ((aV r).take j):Nat):Int),(q,()))):RQ gv tL)) w1
  ·unfold Ea DZ
   have:¬ ((r.n:Int) < (r.n:Int)):=by omega
   exact aR (decide_eq_false this)
 rw [e2] at key
 exact key
theorem aor (hs:(cB s).Ok) {rows:cT} (hL:aW rows∈links (cB s)) {t j:Nat} (ht:t + 1 < s.1.n) (hj:j < (rows.g (t + 1)).1.n):(show Int from ((rows.g (t + 1)).1.g j).1) = -1\/0<=(show Int from ((rows.g (t + 1)).1.g j).1):=by
 have hr:=aia hs hL
 have hI:=(tX hs).1 hL
 rw [<- OO (by rw [hr.n]; exact ht) hj]
 rcases hI.afg ht (i:=j) (by have:=hr.k (t + 1) ht; show j < (s.1.g (t + 1)).2.1.n; omega) with h | h
 ·exact .inl h
 ·exact .inr h.1
theorem apU (hs:(cB s).Ok) {rows:cT} (hL:aW rows∈links (cB s)):M87 (no_index ((vw s rows).1,()))=some (((eP (aW rows):Nat):Int),()):=by
 have hr:=aia hs hL
 have WM:=eF hs
 have xU:0 < s.1.n:=hs.n1
 have RI:=hr.n
 have hk:∀ t,t < rows.n->(rows.g t).1.n<=3:=fun t ht=>by rw [hr.k t (by omega)]; exact dN hs (by omega)
 obtain ⟨n,hn⟩:∃ n,rows.n=n + 1:=⟨rows.n - 1,by omega⟩
 have key:∀ m:Nat,m=n->abD ((⟨m,fun i=>rows.g (i + 1)⟩:cT),(((m:Nat):Int),())) ((0:Int),((0:Int),())) = .exit 0 (((eP ((aW rows).take (n + 1)):Nat):Int),()):=by
  intro m hm
  subst hm
  unfold abD
  have b0:eP ((aW rows).take 1)=0:=Nat.le_zero.1 (BO hk 0 (by omega))
  have h0:=bQ (step:=TI ((⟨m,fun i=>rows.g (i + 1)⟩:cT),(((m:Nat):Int),()))) m cz (fun j=>(((eP ((aW rows).take (j + 1)):Nat):Int),((j:Int),()))) (by unfold cz; omega) (fun j hj=>by
   unfold TI TH
   have hj1:j + 1 < rows.n:=by omega
   have hle:=BO hk j (by omega)
   refine (aq (decide_eq_true (dW hj))).trans ?_
   refine (aq (decide_eq_true (aQ (n:=m) hj))).trans ?_
   refine (bp (au8 (r:=(rows.g (j + 1)).1) (fun i hi=>aor hs hL (by omega) hi) (hk _ hj1) (c0:=eP ((aW rows).take (j + 1))) (by omega))).trans ?_
   have e:eP ((aW rows).take (j + 1)) + eO (aV (rows.g (j + 1)).1)=eP ((aW rows).take (j + 1 + 1)):=by
    rw [gu hj1,qZ (by rw [wq (by omega)]; omega)]
   rw [e]
   exact congrArg (fun q:Int=>(RQ.next (show (aa mj).den from (((eP ((aW rows).take (j + 1 + 1)):Nat):Int),(q,()))):RQ mj Ec)) (dR hj (by omega))) (q:=.exit 0 (((eP ((aW rows).take (m + 1)):Nat):Int),())) (by
   unfold TI TH
   have:¬ (((m:Nat):Int) < ((m:Nat):Int)):=by omega
   exact aR (decide_eq_false this))
  have e0:(((eP ((aW rows).take (0 + 1)):Nat):Int),(((0:Nat):Int),()))=((0:Int),((0:Int),())):=by
   show (((eP ((aW rows).take 1):Nat):Int),((0:Int),()))=_
   rw [b0]; rfl
  rw [<- e0]
  exact h0
 have hm:Int.toNat (((rows.n:Nat):Int) - 1)=n:=by omega
 have a:(0:Int)<=1/\((1:Int)<=((rows.n:Nat):Int)/\((rows.n:Nat):Int)<=((rows.n:Nat):Int)):=by omega
 unfold M87 Q87
 refine (aq (decide_eq_true a)).trans ?_
 refine (bp (key _ hm)).trans ?_
 rw [List.take_of_length_le (by rw [dI]; omega)]
def few (b:LL):List LL->LL
 | []=>b
 | L :: l=>few (if eP L < eP b then L else b) l
def afQ:List LL->LL
 | []=>[]
 | L :: l=>few L l
theorem aby {b:LL} (h:eP b=0):∀ l,few b l=b
 | []=>rfl
 | L :: l=>by rw [few,if_neg (by omega)]; exact aby h l
theorem ab9:∀ {l:List LL} {b:LL},few b l=b\/few b l∈l
 | [],b=>.inl rfl
 | L :: l,b=>by
  rw [few]
  split
  ·rcases ab9 (l:=l) (b:=L) with h | h
   ·rw [h]; exact .inr (.head _)
   ·exact .inr (.tail _ h)
  ·rcases ab9 (l:=l) (b:=b) with h | h
   ·exact .inl h
   ·exact .inr (.tail _ h)
theorem acg:∀ {l:List LL} {b:LL},eP (few b l)<=eP b/\∀ L∈l,eP (few b l)<=eP L
 | [],b=>⟨Nat.le_refl _,fun _ h=>by cases h⟩
 | L :: l,b=>by
  rw [few]
  split
  ·obtain ⟨h1,h2⟩:=acg (l:=l) (b:=L)
   refine ⟨by omega,fun M hM=>?_⟩
   rcases List.mem_cons.1 hM with e | hM
   ·subst e; exact h1
   ·exact h2 M hM
  ·obtain ⟨h1,h2⟩:=acg (l:=l) (b:=b)
   refine ⟨h1,fun M hM=>?_⟩
   rcases List.mem_cons.1 hM with e | hM
   ·subst e; omega
   ·exact h2 M hM
theorem abZ {l:List LL} (h:l≠[]):afQ l∈l:=by
 cases l with
 | nil=>exact absurd rfl h
 | cons L l =>
  rcases ab9 (l:=l) (b:=L) with h | h
  ·show few L l∈_; rw [h]; exact .head _
  ·exact .tail _ h
theorem afX {l:List LL} {L:LL} (h:L∈l):eP (afQ l)<=eP L:=by
 cases l with
 | nil=>cases h
 | cons M l =>
  obtain ⟨h1,h2⟩:=acg (l:=l) (b:=M)
  rcases List.mem_cons.1 h with e | h
  ·subst e; exact h1
  ·exact h2 L h
def abo (B least:Int) (rows:cT):(aa kn).den:=(B,((),((),((least,()),((rows,()),())))))
theorem af8 (hs:(cB s).Ok) {rows:cT} (hL:aW rows∈links (cB s)) (B:Int) (r0:cT):TK (abo B (-1) r0) (vw s rows)=bif decide (eP (aW rows)=0) then .brk 0 (abo B ((eP (aW rows):Nat):Int) rows) else .next (abo B ((eP (aW rows):Nat):Int) rows):=by
 unfold TK TJ
 refine (aK (apU hs hL)).trans ?_
 refine (aq rfl).trans ?_
 by_cases c:eP (aW rows)=0
 ·have c':(((eP (aW rows):Nat)):Int)=0:=by omega
  rw [decide_eq_true c]
  exact aq (decide_eq_true c')
 ·have c':¬ ((((eP (aW rows):Nat)):Int)=0):=by omega
  rw [decide_eq_false c]
  exact aR (decide_eq_false c')
theorem aiB (hs:(cB s).Ok) {rows:cT} (hL:aW rows∈links (cB s)) (B:Int) (n0:Nat) (r0:cT):TK (abo B (n0:Int) r0) (vw s rows)=bif decide (eP (aW rows) < n0) then (bif decide (eP (aW rows)=0) then .brk 0 (abo B ((eP (aW rows):Nat):Int) rows) else .next (abo B ((eP (aW rows):Nat):Int) rows)) else (bif decide (n0=0) then .brk 0 (abo B (n0:Int) r0) else .next (abo B (n0:Int) r0)):=by
 unfold TK TJ
 refine (aK (apU hs hL)).trans ?_
 refine (aR (decide_eq_false (show ¬ ((n0:Int) < 0) by omega))).trans ?_
 by_cases c0:eP (aW rows) < n0
 ·rw [decide_eq_true c0]
  refine (aq (decide_eq_true (show (((eP (aW rows):Nat)):Int) < (n0:Int) by omega))).trans ?_
  by_cases c:eP (aW rows)=0
  ·have c':(((eP (aW rows):Nat)):Int)=0:=by omega
   rw [decide_eq_true c]
   exact aq (decide_eq_true c')
  ·have c':¬ ((((eP (aW rows):Nat)):Int)=0):=by omega
   rw [decide_eq_false c]
   exact aR (decide_eq_false c')
 ·rw [decide_eq_false c0]
  refine (aR (decide_eq_false (show ¬ ((((eP (aW rows):Nat)):Int) < (n0:Int)) by omega))).trans ?_
  by_cases c:n0=0
  ·have c':((n0:Nat):Int)=0:=by omega
   rw [decide_eq_true c]
   exact aq (decide_eq_true c')
  ·have c':¬ (((n0:Nat):Int)=0):=by omega
   rw [decide_eq_false c]
   exact aR (decide_eq_false c')
theorem aci (hs:(cB s).Ok) (B:Int):∀ (l:List fD.den) (r0:cT),(∀ it∈l,Good s it/\toL it∈links (cB s)) ->
  ∃ rows:cT,aW rows=few (aW r0) (l.map toL)/\(Mu (abo B ((eP (aW r0):Nat):Int) r0) l = .next (abo B ((eP (aW rows):Nat):Int) rows)\/Mu (abo B ((eP (aW r0):Nat):Int) r0) l = .brk 0 (abo B ((eP (aW rows):Nat):Int) rows))
 | [],r0,_=>⟨r0,rfl,.inl rfl⟩
 | it :: l,r0,hg=>by
  obtain ⟨g1,g2⟩:=hg it (.head _)
  obtain ⟨rows,rfl,hr,hL⟩:=g1.rows
  rw [hL] at g2
  have st:=aiB hs g2 B (eP (aW r0)) r0
  rw [List.map_cons,hL,few]
  by_cases c0:eP (aW rows) < eP (aW r0)
  ·rw [decide_eq_true c0,cond_true] at st
   rw [if_pos c0]
   by_cases c:eP (aW rows)=0
   ·rw [decide_eq_true c,cond_true] at st
    refine ⟨rows,(aby c _).symm,.inr ?_⟩
    unfold Mu
    simp only [eW,st]
   ·rw [decide_eq_false c,cond_false] at st
    obtain ⟨r',h1,h2⟩:=aci hs B l rows fun x hx=>hg x (.tail _ hx)
    refine ⟨r',h1,?_⟩
    unfold Mu at h2 ⊢
    simp only [eW,st]
    exact h2
  ·rw [decide_eq_false c0,cond_false] at st
   rw [if_neg c0]
   by_cases c:eP (aW r0)=0
   ·rw [decide_eq_true c,cond_true] at st
    refine ⟨r0,(aby c _).symm,.inr ?_⟩
    unfold Mu
    simp only [eW,st]
   ·rw [decide_eq_false c,cond_false] at st
    obtain ⟨r',h1,h2⟩:=aci hs B l r0 fun x hx=>hg x (.tail _ hx)
    refine ⟨r',h1,?_⟩
    unfold Mu at h2 ⊢
    simp only [eW,st]
    exact h2
theorem aBC (ho:Io s=true) (ha:Dg s=true):∃ rows:cT,M40 (no_index (s,()))=some (((((s.1.g 0).2.1.n + eP (aW rows):Nat)):Int),(rows,((0:Int),())))/\aW rows=afQ (links (cB s)):=by
 have hs:=qP ho
 have WM:=eF hs
 have xU:0 < s.1.n:=hs.n1
 have h63:=auP (s:=s) (by omega) (fun t ht=>by have:=dN hs ht; omega) true
 have e0:Jc s true=0:=by unfold Jc; rw [ho,ha]; rfl
 rw [e0] at h63
 obtain ⟨z,h1,h2,h3⟩:=anh hs
 have hmem:∀ it∈z.list,Good s it/\toL it∈links (cB s):=fun it hit=>⟨h3 it hit,by rw [<- h2]; exact List.mem_map_of_mem hit⟩
 have hne:links (cB s)≠[]:=by
  obtain ⟨L,hL⟩:=Ki.1 ha
  exact List.ne_nil_of_mem hL
 have key:∃ rows:cT,aW rows=afQ (links (cB s))/\(Mu (abo (((s.1.g 0).2.1.n:Nat):Int) (-1) e2) z.list = .next (abo (((s.1.g 0).2.1.n:Nat):Int) ((eP (aW rows):Nat):Int) rows)\/Mu (abo (((s.1.g 0).2.1.n:Nat):Int) (-1) e2) z.list = .brk 0 (abo (((s.1.g 0).2.1.n:Nat):Int) ((eP (aW rows):Nat):Int) rows)):=by
  rw [<- h2] at hne ⊢
  revert hne hmem
  cases z.list with
  | nil=>intro _ hne; exact absurd rfl hne
  | cons it l =>
   intro hmem _
   obtain ⟨g1,g2⟩:=hmem it (.head _)
   obtain ⟨rows,rfl,hr,hL⟩:=g1.rows
   rw [hL] at g2
   have st:=af8 hs g2 (((s.1.g 0).2.1.n:Nat):Int) e2
   rw [List.map_cons,hL]
   show ∃ r':cT,aW r'=few (aW rows) (l.map toL)/\_
   by_cases c:eP (aW rows)=0
   ·rw [decide_eq_true c,cond_true] at st
    refine ⟨rows,(aby c _).symm,.inr ?_⟩
    unfold Mu
    simp only [eW,st]
   ·rw [decide_eq_false c,cond_false] at st
    obtain ⟨r',h1,h2⟩:=aci hs (((s.1.g 0).2.1.n:Nat):Int) l rows fun x hx=>hmem x (.tail _ hx)
    refine ⟨r',h1,?_⟩
    unfold Mu at h2 ⊢
    simp only [eW,st]
    exact h2
 obtain ⟨rows,q1,q2⟩:=key
 refine ⟨rows,?_,q1⟩
 have YX:aW rows∈links (cB s):=by rw [q1]; exact abZ hne
 have hr:=aia hs YX
 have RI:=hr.n
 have hb:=BO (o:=rows) (fun t ht=>by rw [hr.k t (by omega)]; exact dN hs (by omega)) (rows.n - 1) (by omega)
 rw [List.take_of_length_le (by rw [dI]; omega)] at hb
 have Ml:=dN hs xU
 have wb:W ((((s.1.g 0).2.1.n:Nat):Int) + ((eP (aW rows):Nat):Int))=(((s.1.g 0).2.1.n + eP (aW rows):Nat):Int):=by rw [gQ ⟨by omega,by omega⟩]; omega
 have a0:(0:Int)<=0/\(0:Int) < ((s.1.n:Nat):Int):=by omega
 have fin:∀ q:Int,q=(((s.1.g 0).2.1.n + eP (aW rows):Nat):Int)->(some (q,(rows,((0:Int),()))):Option (Rb).den)=some ((((s.1.g 0).2.1.n + eP (aW rows):Nat):Int),(rows,((0:Int),()))):=fun q hq=>by rw [hq]
 unfold M40 Q40
 refine (aK h63).trans ?_
 refine (aR rfl).trans ?_
 refine (aq (decide_eq_true a0)).trans ?_
 refine (aK h1).trans ?_
 rcases q2 with q2 | q2
 ·refine (congrArg (fun o=>RJ o 0 _ (oQ o _ (oR o _ _))) q2).trans ?_
  exact fin _ wb
 ·refine (congrArg (fun o=>RJ o 0 _ (oQ o _ (oR o _ _))) q2).trans ?_
  exact fin _ wb
end Go.Dm
namespace Go.Dm
set_option maxRecDepth 100000
open Go.Low
variable {s:tS.den} {A X Y D:cT}
theorem au9 (ho:Io s=true) (ha:Dg s=true):Yl (no_index (s,()))=some ((0:Int),((5:Int),())):=by
 have hs:=qP ho
 have h:=auH ho (abi hs).1 (abi hs).2
 have hc:=afh hs
 rw [ha] at hc
 cases e:fB (Yn s) s.1.n with
 | none=>rw [e] at h; exact h
 | some k=>rw [e] at hc; cases hc
theorem acj (hs:(cB s).Ok) {rows:cT} (hr:PC s rows):eP (aW rows)<=9/\fc (aW rows)<=9/\0 < rows.n/\rows.n<=4/\∀ t,t < rows.n->(rows.g t).1.n<=3:=by
 have WM:=eF hs
 have xU:0 < s.1.n:=hs.n1
 have RI:=hr.n
 have hk:∀ t,t < rows.n->(rows.g t).1.n<=3:=fun t ht=>by rw [hr.k t (by omega)]; exact dN hs (by omega)
 have hb:=BO hk (rows.n - 1) (by omega)
 have hg:=BP hk (rows.n - 1) (by omega)
 rw [List.take_of_length_le (by rw [dI]; omega)] at hb hg
 exact ⟨by omega,by omega,by omega,by omega,hk⟩
end Go.Dm
namespace Go.Dm
set_option maxRecDepth 100000
open Go.Low
variable {s:tS.den}
theorem awU (x:Int):OL (no_index (x,()))=some (false,()):=by
 show some ((!(decide (x=x))),())=_
 rw [decide_eq_true rfl]; rfl
theorem aFW (x y:Int):TS (no_index (x,(y,())))=some ((if x < y then -1 else if y < x then 1 else 0),()):=by
 unfold TS aeG
 refine (aK (awU x)).trans ?_
 refine (aK (awU y)).trans ?_
 refine (aR rfl).trans ?_
 refine (aR rfl).trans ?_
 by_cases h1:x < y
 ·rw [if_pos h1]; exact aq (decide_eq_true h1)
 ·rw [if_neg h1]
  refine (aR (decide_eq_false h1)).trans ?_
  by_cases h2:y < x
  ·rw [if_pos h2]; exact aq (decide_eq_true h2)
  ·rw [if_neg h2]; exact aR (decide_eq_false h2)
theorem aic {r:Sl sR.den} {j:Nat} (h:j < r.n):(aV r).drop j=(show Int from (r.g j).1) :: (aV r).drop (j + 1):=by
 have h1:(aV r)[j]? = some (r.g j).1:=by rw [gR,if_pos h]
 have h2:=(List.getElem?_eq_some_iff.1 h1)
 obtain ⟨h3,h4⟩:=h2
 rw [List.drop_eq_getElem_cons h3,h4]
theorem ajy {r:Sl sR.den} {j:Nat} (h:r.n<=j):(aV r).drop j=[]:=List.drop_eq_nil_of_le (by rw [iN]; exact h)
theorem aBT {a b:Sl sR.den} (ha:a.n<=1000) (hb:b.n<=1000):∀ (k j n:Nat),j + k=a.n->k < n->j<=b.n ->
  (∃ v:Int,aH (TU (a,(b,(a,(((a.n:Nat):Int),()))))) n ((j:Int),())=LQ.ret (wy:=Ef) (show (aa Ef.ret).den from (v,()))/\v=aeA ((aV a).drop j) ((aV b).drop j)) \/
   (aH (TU (a,(b,(a,(((a.n:Nat):Int),()))))) n ((j:Int),()) = .exit 0 ()/\aeA ((aV a).drop j) ((aV b).drop j)=if a.n < b.n then -1 else 0)
 | 0,j,n,hj,hn,hjb=>by
  obtain ⟨n,rfl⟩:∃ m,n=m + 1:=⟨n - 1,by omega⟩
  obtain rfl:j=a.n:=by omega
  have st:TU (a,(b,(a,(((a.n:Nat):Int),())))) (((a.n:Nat):Int),()) = .out (.exit 0 ()):=by
   unfold TU TT
   exact aR (decide_eq_false (by omega:¬ (((a.n:Nat):Int) < ((a.n:Nat):Int))))
  refine .inr ⟨by simp only [aH,st],?_⟩
  rw [ajy (Nat.le_refl _)]
  by_cases h:a.n < b.n
  ·rw [if_pos h,aic h]; rfl
  ·rw [if_neg h,ajy (by omega)]; rfl
 | k + 1,j,n,hj,hn,hjb=>by
  obtain ⟨n,rfl⟩:∃ m,n=m + 1:=⟨n - 1,by omega⟩
  have hja:j < a.n:=by omega
  rw [aic hja]
  by_cases Sw:b.n<=j
  ·have st:TU (a,(b,(a,(((a.n:Nat):Int),())))) ((j:Int),()) = .out (LQ.ret (show (aa Ef.ret).den from ((1:Int),()))):=by
    unfold TU TT
    refine (aq (decide_eq_true (dW hja))).trans ?_
    refine (aq (decide_eq_true (aQ hja))).trans ?_
    exact aq (decide_eq_true (by omega:((b.n:Nat):Int)<=(j:Int)))
   refine .inl ⟨1,by simp only [aH,st],?_⟩
   rw [ajy Sw]; rfl
  ·have hjb':j < b.n:=by omega
   rw [aic hjb']
   have axS:=aFW (show Int from (a.g j).1) (show Int from (b.g j).1)
   have st:TU (a,(b,(a,(((a.n:Nat):Int),())))) ((j:Int),())=bif (!(decide ((if (show Int from (a.g j).1) < (show Int from (b.g j).1) then (-1:Int) else if (show Int from (b.g j).1) < (show Int from (a.g j).1) then 1 else 0)=0))) then .out (LQ.ret (show (aa Ef.ret).den from ((if (show Int from (a.g j).1) < (show Int from (b.g j).1) then (-1:Int) else if (show Int from (b.g j).1) < (show Int from (a.g j).1) then 1 else 0),()))) else .next ((W ((j:Int) + 1)),()):=by
    unfold TU TT
    refine (aq (decide_eq_true (dW hja))).trans ?_
    refine (aq (decide_eq_true (aQ hja))).trans ?_
    refine (aR (decide_eq_false (by omega:¬ (((b.n:Nat):Int)<=(j:Int))))).trans ?_
    refine (aq (decide_eq_true (aQ hjb'))).trans ?_
    exact aK axS
   unfold aeA
   by_cases p1:(show Int from (a.g j).1) < (show Int from (b.g j).1)
   ·rw [if_pos p1] at st ⊢
    exact .inl ⟨-1,by simp only [aH,st]; rfl,rfl⟩
   ·rw [if_neg p1] at st ⊢
    by_cases p2:(show Int from (b.g j).1) < (show Int from (a.g j).1)
    ·rw [if_pos p2] at st ⊢
     exact .inl ⟨1,by simp only [aH,st]; rfl,rfl⟩
    ·rw [if_neg p2] at st ⊢
     have ih:=aBT ha hb k (j + 1) n (by omega) (by omega) (by omega)
     have w:=dR hja (by omega)
     have st:TU (a,(b,(a,(((a.n:Nat):Int),())))) ((j:Int),()) = .next (((j + 1:Nat):Int),()):=by rw [st,w]; rfl
     simp only [aH,st]
     exact ih
theorem aBW {a b:Sl sR.den} (ha:a.n<=1000) (hb:b.n<=1000):M84 (no_index (a,(b,())))=some (aeA (aV a) (aV b),()):=by
 have h:=aBT ha hb a.n 0 cz (by omega) (by unfold cz; omega) (Nat.zero_le _)
 rw [List.drop_zero,List.drop_zero] at h
 unfold M84 Q84
 rcases h with ⟨v,h1,h2⟩ | ⟨h1,h2⟩
 ·rw [<- h2]
  exact (congrArg (fun o=>aF o 0 _ (bS o _ _)) h1).trans rfl
 ·refine (bp h1).trans ?_
  rw [h2]
  by_cases c:a.n < b.n
  ·rw [if_pos c]; exact aq (decide_eq_true (by omega:((a.n:Nat):Int) < ((b.n:Nat):Int)))
  ·rw [if_neg c]; exact aR (decide_eq_false (by omega:¬ (((a.n:Nat):Int) < ((b.n:Nat):Int))))
theorem aBX {a b:Sl sR.den} (ha:a.n<=1000):M86 (no_index (a,(b,())))=some (decide (aV a=aV b),()):=by
 unfold M86 Q86
 by_cases hn:((a.n:Nat):Int)=((b.n:Nat):Int)
 ·refine (aR (show (!decide (((a.n:Nat):Int)=((b.n:Nat):Int)))=false by rw [decide_eq_true hn]; rfl)).trans ?_
  have key:TZ (a,(b,(((a.n:Nat):Int),()))) ((0:Int),())=bif (List.range a.n).all (fun j=>decide ((show Int from (a.g j).1)=(show Int from (b.g j).1))) then .exit 0 () else LQ.ret (wy:=Eg) (show (aa Eg.ret).den from (false,())):=by
   unfold TZ
   refine dX (ps:=mw) (n:=a.n) (f:=fun j=>((j:Int),())) (by unfold cz; omega) (fun j hj _=>?_) (fun _=>?_)
   ·unfold TY TX
    refine (aq (decide_eq_true (dW hj))).trans ?_
    refine (aq (decide_eq_true (aQ hj))).trans ?_
    refine (aq (decide_eq_true (aQ (n:=b.n) (by omega)))).trans ?_
    cases hd:decide ((show Int from (a.g j).1)=(show Int from (b.g j).1)) with
    | true =>
     refine (aR (show (!decide ((show Int from (a.g j).1)=(show Int from (b.g j).1)))=false by rw [hd]; rfl)).trans ?_
     exact congrArg (fun q:Int=>(RQ.next (show (aa mw).den from (q,())):RQ mw Eg)) (dR hj (by omega))
    | false=>exact aq (show (!decide ((show Int from (a.g j).1)=(show Int from (b.g j).1)))=true by rw [hd]; rfl)
   ·unfold TY TX
    exact aR (decide_eq_false (by omega:¬ (((a.n:Nat):Int) < ((a.n:Nat):Int))))
  have e:(List.range a.n).all (fun j=>decide ((show Int from (a.g j).1)=(show Int from (b.g j).1)))=decide (aV a=aV b):=by
   rw [Bool.eq_iff_iff,decide_eq_true_eq]
   constructor
   ·intro h
    refine List.ext_getElem? fun j=>?_
    rw [gR,gR]
    by_cases hj:j < a.n
    ·rw [if_pos hj,if_pos (by omega)]
     exact congrArg some (of_decide_eq_true (mQ h hj))
    ·rw [if_neg hj,if_neg (by omega)]
   ·intro h
    refine JL fun j hj=>decide_eq_true ?_
    have:(aV a)[j]? = (aV b)[j]? := by rw [h]
    rw [gR,gR,if_pos hj,if_pos (by omega)] at this
    exact Option.some.inj this
  rw [e] at key
  revert key
  cases decide (aV a=aV b) with
  | true=>intro key; exact (bp key).trans rfl
  | false=>intro key; exact (congrArg (fun o=>aF o 0 _ (bS o _ _)) key).trans rfl
 ·refine (aq (show (!decide (((a.n:Nat):Int)=((b.n:Nat):Int)))=true by rw [decide_eq_false hn]; rfl)).trans ?_
  have:¬ (aV a=aV b):=fun e=>hn (by
   have:=congrArg List.length e
   rw [iN,iN] at this
   omega)
  rw [decide_eq_false this]
theorem aCk (hs:(cB s).Ok) {rows:cT} (hL:aW rows∈links (cB s)):∀ (m t i n:Nat) (out:Sl sR.den),t + m + 1=s.1.n->i < (s.1.g t).2.1.n->m + 1 < n->out.n + m<=1000 ->
  ∃ r:Sl sR.den,aH (TF ((),((vw s rows).1,()))) n ((t:Int),((i:Int),(out,()))) = .exit 0 (r,())/\aV r=aV out ++ acT (cB s) (aW rows) m t i
 | m,t,i,n,out,ht,hi,hn,ho=>by
  obtain ⟨n,rfl⟩:∃ q,n=q + 1 + 1:=⟨n - 2,by omega⟩
  have hr:=aia hs hL
  have WM:=eF hs
  have h8:(out.n + 1) * 8<=140737488355328:=by omega
  have i0:(0:Int)<=(i:Int):=by omega
  have wt:W ((t:Int) + 1)=((t + 1:Nat):Int):=dR (n:=s.1.n) (by omega) (by omega)
  cases m with
  | zero =>
   have st:TF ((),((vw s rows).1,())) ((t:Int),((i:Int),(out,()))) = .next (((t + 1:Nat):Int),((-1:Int),(snoc out ((i:Int),()),()))):=by
    unfold TF TE
    refine (aq (decide_eq_true i0)).trans ?_
    refine (aq (decide_eq_true h8)).trans ?_
    refine (aK (aGK (by omega) (by omega))).trans ?_
    exact congrArg (fun q:Int=>(RQ.next (show (aa mh).den from (q,((-1:Int),(snoc out ((i:Int),()),())))):RQ mh DY)) wt
   have st2:TF ((),((vw s rows).1,())) (((t + 1:Nat):Int),((-1:Int),(snoc out ((i:Int),()),()))) = .out (.exit 0 (snoc out ((i:Int),()),())):=by
    unfold TF TE
    exact aR (decide_eq_false (by omega:¬ ((0:Int) ≤ -1)))
   refine ⟨snoc out ((i:Int),()),by simp only [aH,st,st2],?_⟩
   rw [Et]; rfl
  | succ m =>
   have ht1:t + 1 < s.1.n:=by omega
   have hk1:=dN hs ht1
   have aba:=aTW (i:=i) hr.n (by omega) ht1 (by rw [hr.k _ ht1]; omega)
   rw [aPH hs hr ht1] at aba
   have hp:acT (cB s) (aW rows) (m + 1) t i=(i:Int) :: match nx (cB s) (aW rows) t i with | some j=>acT (cB s) (aW rows) m (t + 1) j | none=>[]:=by
    unfold acT
    simp only [des,List.map_cons]
    cases nx (cB s) (aW rows) t i <;> rfl
   rw [hp]
   cases hn':nx (cB s) (aW rows) t i with
   | none =>
    rw [hn'] at aba
    have st:TF ((),((vw s rows).1,())) ((t:Int),((i:Int),(out,()))) = .next (((t + 1:Nat):Int),((-1:Int),(snoc out ((i:Int),()),()))):=by
     unfold TF TE
     refine (aq (decide_eq_true i0)).trans ?_
     refine (aq (decide_eq_true h8)).trans ?_
     refine (aK aba).trans ?_
     exact congrArg (fun q:Int=>(RQ.next (show (aa mh).den from (q,((-1:Int),(snoc out ((i:Int),()),())))):RQ mh DY)) wt
    have st2:TF ((),((vw s rows).1,())) (((t + 1:Nat):Int),((-1:Int),(snoc out ((i:Int),()),()))) = .out (.exit 0 (snoc out ((i:Int),()),())):=by
     unfold TF TE
     exact aR (decide_eq_false (by omega:¬ ((0:Int) ≤ -1)))
    refine ⟨snoc out ((i:Int),()),by simp only [aH,st,st2],?_⟩
    rw [Et]
   | some j =>
    rw [hn'] at aba
    have h1:=aqc hn'
    have st:TF ((),((vw s rows).1,())) ((t:Int),((i:Int),(out,()))) = .next (((t + 1:Nat):Int),((j:Int),(snoc out ((i:Int),()),()))):=by
     unfold TF TE
     refine (aq (decide_eq_true i0)).trans ?_
     refine (aq (decide_eq_true h8)).trans ?_
     refine (aK aba).trans ?_
     exact congrArg (fun q:Int=>(RQ.next (show (aa mh).den from (q,((j:Int),(snoc out ((i:Int),()),())))):RQ mh DY)) wt
    obtain ⟨r,q1,q2⟩:=aCk hs hL m (t + 1) j (n + 1) (snoc out ((i:Int),())) (by omega) h1.1 (by omega) (by rw [IP]; omega)
    refine ⟨r,?_,?_⟩
    ·refine Eq.trans ?_ q1
     rw [aH,st]
    ·rw [q2,Et,List.append_assoc]; rfl
theorem aLK (hs:(cB s).Ok) {rows:cT} (hL:aW rows∈links (cB s)) {t i:Nat} (ht:t < s.1.n) (hi:i < (s.1.g t).2.1.n):∃ r:Sl sR.den,M82 (no_index ((vw s rows).1,((t:Int),((i:Int),()))))=some (r,())/\aV r=acT (cB s) (aW rows) (s.1.n - 1 - t) t i:=by
 have WM:=eF hs
 obtain ⟨r,h1,h2⟩:=aCk hs hL (s.1.n - 1 - t) t i cz (⟨0,fun i=>((0:Int),())⟩:Sl sR.den) (by omega) hi (by unfold cz; omega) (by show 0 + (s.1.n - 1 - t)<=1000; omega)
 refine ⟨r,?_,h2⟩
 unfold M82 Q82
 exact (bp h1).trans rfl
end Go.Dm
namespace Go.Dm
set_option maxRecDepth 100000
open Go.Low
variable {s:tS.den}
theorem amB {α:Type} {p q:α->Bool}:∀ {l:List α},(∀ x∈l,p x=true->q x=true)->(∃ a∈l,q a=true/\p a=false)->l.countP p < l.countP q
 | [],_,⟨a,ha,_⟩=>by cases ha
 | b :: l,h,⟨a,ha,h1,h2⟩=>by
  rw [List.countP_cons,List.countP_cons]
  have hm:l.countP p<=l.countP q:=List.countP_mono_left fun x hx=>h x (.tail _ hx)
  rcases List.mem_cons.1 ha with e | ha
  ·subst e
   rw [h1,h2]
   simp only [if_true,Bool.false_eq_true,if_false]
   omega
  ·have ih:=amB (l:=l) (fun x hx=>h x (.tail _ hx)) ⟨a,ha,h1,h2⟩
   have hb:=h b (.head _)
   cases hp:p b with
   | false=>simp only [Bool.false_eq_true,if_false]; omega
   | true=>rw [hb hp]; simp only [if_true]; omega
structure Small (X:cT):Prop where
 pos:0 < X.n
 n:X.n<=1000000
 k:∀ i,i < X.n->(X.g i).1.n<=1000
def abI (X:cT) (i:Nat):List Int:=aV (X.g i).1
section
variable {X:cT} (hX:Small X)
include hX
theorem aLL {i j:Nat} (hi:i < X.n) (hj:j < X.n):v84 ((X.g i).1,((X.g j).1,()))=(aeA (abI X i) (abI X j),()):=by
 show (M84 ((X.g i).1,((X.g j).1,()))).getD _=_
 rw [aBW (hX.k i hi) (hX.k j hj)]; rfl
theorem aLM {i j:Nat} (hi:i < X.n) (hj:j < X.n):p84 ((X.g i).1,((X.g j).1,()))=true:=by
 show (M84 ((X.g i).1,((X.g j).1,()))).isSome=true
 rw [aBW (hX.k i hi) (hX.k j hj)]; rfl
theorem alT {i j:Nat} (hi:i < X.n) (hj:j < X.n):vZ v84 X i j=decide (aeA (abI X i) (abI X j) = -1):=by
 unfold vZ
 rw [aLL hX hi hj,decide_eq_decide]
 have:=alS (abI X i) (abI X j)
 show aeA (abI X i) (abI X j) < 0↔_
 omega
theorem atk {i j:Nat} (hi:i < X.n) (hj:j < X.n) (h:llt (abI X i) (abI X j)):rk1 X.n (vZ v84 X) i < rk1 X.n (vZ v84 X) j:=by
 unfold rk1
 refine amB (fun k hk hp=>?_) ⟨i,by simpa using hi,?_,?_⟩
 ·have hk:=List.mem_range.1 hk
  rw [alT hX hk hi,decide_eq_true_eq] at hp
  rw [alT hX hk hj,decide_eq_true_eq]
  exact aip hp h
 ·rw [alT hX hi hj,decide_eq_true_eq]; exact h
 ·rw [alT hX hi hi,decide_eq_false_iff_not]; exact fun h=>ajd h
theorem aLN {i j:Nat} (hi:i < X.n) (hj:j < X.n) (h:abI X i=abI X j):rk1 X.n (vZ v84 X) i=rk1 X.n (vZ v84 X) j:=by
 unfold rk1
 refine List.countP_congr fun k hk=>?_
 have hk:=List.mem_range.1 hk
 rw [alT hX hk hi,alT hX hk hj,h]
theorem awV {i j:Nat} (hi:i < X.n) (hj:j < X.n) (h:rk1 X.n (vZ v84 X) i<=rk1 X.n (vZ v84 X) j):¬ llt (abI X j) (abI X i):=fun q=>by
 have:=atk hX hj hi q
 omega
theorem atW {i j:Nat} (hi:i < X.n) (hj:j < X.n) (h:rk1 X.n (vZ v84 X) i=rk1 X.n (vZ v84 X) j):abI X i=abI X j:=
 asZ (awV hX hj hi (by omega)) (awV hX hi hj (by omega))
theorem aVe {i:Nat} (hi:i < X.n):rk1 X.n (vZ v84 X) i < X.n:=by
 have h:=amB (p:=fun k=>vZ v84 X k i) (q:=fun _=>true) (l:=List.range X.n) (fun _ _ _=>rfl) ⟨i,by simpa using hi,rfl,by rw [alT hX hi hi,decide_eq_false_iff_not]; exact fun h=>ajd h⟩
 rw [List.countP_true,List.length_range] at h
 exact h
theorem az8:∃ i,i < X.n/\rk1 X.n (vZ v84 X) i=0:=by
 have A:∀ r i,i < X.n->rk1 X.n (vZ v84 X) i=r->∃ i,i < X.n/\rk1 X.n (vZ v84 X) i=0:=by
  intro r
  induction r using Nat.strongRecOn with
  | _ r ih =>
   intro i hi hr
   by_cases h0:r=0
   ·exact ⟨i,hi,by omega⟩
   ·have hpos:0 < (List.range X.n).countP fun k=>vZ v84 X k i:=by
     show 0 < rk1 X.n (vZ v84 X) i
     omega
    obtain ⟨k,hk,hlt⟩:=List.countP_pos_iff.1 hpos
    have hk:=List.mem_range.1 hk
    rw [alT hX hk hi,decide_eq_true_eq] at hlt
    have:=atk hX hk hi hlt
    exact ih _ (by omega) k hk rfl
 exact A _ 0 hX.pos rfl
theorem aAa:Jz p84 v84 X=true:=by
 have h1:=hX.pos
 have h2:=hX.n
 unfold Jz
 simp only [Bool.and_eq_true,Nat.blt_eq,List.all_eq_true,List.mem_range]
 refine ⟨⟨⟨h1,by omega⟩,fun i hi j hj=>aLM hX hi hj⟩,QZ.2 ⟨fun i j hi hj=>?_,fun i j hi hj _ hr=>?_⟩⟩
 ·rw [ajM hi,ajM hj,alT hX hi hj,decide_eq_true_eq]
  constructor
  ·exact atk hX hi hj
  ·intro h
   rcases alS (abI X i) (abI X j) with q | q | q
   ·exact q
   ·have:=aLN hX hi hj (am2 q); omega
   ·have:=atk hX hj hi (show aeA (abI X j) (abI X i) = -1 by rw [aik,q]); omega
 ·rw [ajM hi,ajM hj] at hr
  have e:=atW hX hi hj hr
  have hn:(X.g i).1.n=(X.g j).1.n:=by
   have:=congrArg List.length e
   unfold abI at this
   rwa [iN,iN] at this
  show ((Nat.beq (X.g i).1.n (X.g j).1.n && ((List.range (X.g i).1.n).all fun k=>(decide ((show Int from ((X.g i).1.g k).1)=(show Int from ((X.g j).1.g k).1)) && true))) && true)=true
  rw [hn,Nat.beq_refl,Bool.true_and,Bool.and_true]
  refine JL fun k hk=>?_
  have:(abI X i)[k]? = (abI X j)[k]? := by rw [e]
  unfold abI at this
  rw [gR,gR,if_pos (by omega),if_pos hk] at this
  rw [decide_eq_true (Option.some.inj this)]; rfl
def sIx (X:cT) (k:Nat):Nat:=JA (cP X.n (vZ v84 X)) (uJ (cP X.n (vZ v84 X)) k X.n) X.n
theorem an6 (k:Nat):sIx X k < X.n/\rk1 X.n (vZ v84 X) (sIx X k)=uJ (cP X.n (vZ v84 X)) k X.n:=by
 have hex:∃ i,i < X.n/\lg (cP X.n (vZ v84 X)) i=uJ (cP X.n (vZ v84 X)) k X.n:=by
  rcases Ta (l:=cP X.n (vZ v84 X)) (k:=k) X.n with h | h
  ·obtain ⟨i,h1,h2⟩:=az8 hX
   exact ⟨i,h1,by rw [ajM h1,h2,h]⟩
  ·exact h
 obtain ⟨h1,h2⟩:=FJ hex
 refine ⟨h1,?_⟩
 rw [ajM h1] at h2
 exact h2
theorem awW {k k':Nat} (h:k<=k'):¬ llt (abI X (sIx X k')) (abI X (sIx X k)):=by
 obtain ⟨h1,h2⟩:=an6 hX k
 obtain ⟨h3,h4⟩:=an6 hX k'
 refine awV hX h1 h3 ?_
 have h5:=SZ (l:=cP X.n (vZ v84 X)) (k:=k) X.n
 have h6:=Lf (l:=cP X.n (vZ v84 X)) (k:=k') h1 (by rw [ajM h1]; omega)
 rw [ajM h1] at h6
 omega
theorem aAd {i:Nat} (hi:i < X.n):∃ k,k < X.n/\abI X (sIx X k)=abI X i:=by
 have hr:=aVe hX hi
 obtain ⟨h1,h2⟩:=an6 hX (rk1 X.n (vZ v84 X) i)
 refine ⟨_,hr,atW hX h1 hi ?_⟩
 have h5:=SZ (l:=cP X.n (vZ v84 X)) (k:=rk1 X.n (vZ v84 X) i) X.n
 have h6:=Lf (l:=cP X.n (vZ v84 X)) (k:=rk1 X.n (vZ v84 X) i) hi (by rw [ajM hi]; exact Nat.le_refl _)
 rw [ajM hi] at h6
 omega
theorem aAe:aoi p86 (JB v84 X)=true/\(aW (amF v86 (JB v84 X))).Pairwise llt/\∀ x,x∈aW (amF v86 (JB v84 X))↔∃ i,i < X.n/\x=abI X i:=by
 have h1:=hX.pos
 have h2:=hX.n
 have hYn:(JB v84 X).n=X.n:=rfl
 have hYg:∀ k,(JB v84 X).g k=X.g (sIx X k):=fun k=>rfl
 have hk:∀ k,((JB v84 X).g k).1.n<=1000:=fun k=>by rw [hYg]; exact hX.k _ (an6 hX k).1
 have al:∀ i j,alike v86 (JB v84 X) i j=decide (abI X (sIx X i)=abI X (sIx X j)):=fun i j=>by
  unfold alike
  have:v86 (((JB v84 X).g i).1,(((JB v84 X).g j).1,()))=(decide (abI X (sIx X i)=abI X (sIx X j)),()):=by
   show (M86 (((JB v84 X).g i).1,(((JB v84 X).g j).1,()))).getD _=_
   rw [aBX (hk i)]; rfl
  rw [this]
 have hst:ac2 v86 (JB v84 X)=ae1 (fun k=>abI X (sIx X k)) X.n:=by
  unfold ac2 ae1
  exact List.filter_congr fun j _=>by rw [al]
 obtain ⟨q1,q2,q3⟩:=as0 (y:=fun k=>abI X (sIx X k)) (n:=X.n) fun i j hij _=>awW hX hij
 have hrows:aW (amF v86 (JB v84 X))=(ae1 (fun k=>abI X (sIx X k)) X.n).map fun k=>abI X (sIx X k):=by
  refine List.ext_getElem? fun k=>?_
  rw [List.getElem?_map]
  have hn:(amF v86 (JB v84 X)).n=(ae1 (fun k=>abI X (sIx X k)) X.n).length:=by rw [<- hst]; rfl
  by_cases hk:k < (ae1 (fun k=>abI X (sIx X k)) X.n).length
  ·rw [tW (by omega),List.getElem?_eq_getElem hk]
   show some (aV (X.g (sIx X (lg (ac2 v86 (JB v84 X)) k))).1)=some (abI X (sIx X _))
   rw [hst]
   unfold lg
   rw [List.getD_eq_getElem?_getD,List.getElem?_eq_getElem hk]; rfl
  ·rw [List.getElem?_eq_none (by rw [dI]; omega),List.getElem?_eq_none (by omega)]; rfl
 refine ⟨?_,by rw [hrows]; exact q1,fun x=>?_⟩
 ·unfold aoi
  simp only [Bool.and_eq_true,Nat.blt_eq,List.all_eq_true,List.mem_range]
  refine ⟨⟨by rw [hYn]; exact h1,by rw [hYn]; omega⟩,fun i _ j _=>?_⟩
  show (M86 (((JB v84 X).g i).1,(((JB v84 X).g j).1,()))).isSome=true
  rw [aBX (hk i)]; rfl
 ·rw [hrows]
  constructor
  ·intro hx
   obtain ⟨j,hj,e⟩:=q3 x hx
   exact ⟨sIx X j,(an6 hX j).1,e⟩
  ·rintro ⟨i,hi,e⟩
   obtain ⟨k,hk,e2⟩:=aAd hX hi
   rw [e,<- e2]
   exact q2 k hk
end
def aAL (t i:Int) (X:cT):(aa kq).den:=((),((),((),((t,()),((i,()),((X,()),()))))))
theorem atX (hs:(cB s).Ok) {t i:Nat} (ht:t < s.1.n) (hi:i < (s.1.g t).2.1.n):∀ (l:List fD.den) (X:cT),(∀ it∈l,Good s it/\toL it∈links (cB s))->X.n + l.length<=1000000->(∀ k,k < X.n->(X.g k).1.n<=1000) ->
  ∃ X':cT,Uf (aAL t i X) l = .next (aAL t i X')/\X'.n=X.n + l.length/\(∀ k,k < X'.n->(X'.g k).1.n<=1000)/\aW X'=aW X ++ l.map fun it=>acT (cB s) (toL it) (s.1.n - 1 - t) t i
 | [],X,_,_,hk=>⟨X,rfl,rfl,hk,by simp⟩
 | it :: l,X,hg,hn,hk=>by
  obtain ⟨g1,g2⟩:=hg it (.head _)
  obtain ⟨rows,rfl,hr,hL⟩:=g1.rows
  rw [hL] at g2
  rw [List.length_cons] at hn
  have WM:=eF hs
  obtain ⟨r,h1,h2⟩:=aLK hs g2 ht hi
  have h24:(X.n + 1) * 24<=140737488355328:=by omega
  have st:Ue (aAL t i X) (vw s rows) = .next (aAL t i (snoc X (r,()))):=by
   unfold Ue Ud
   refine (aK h1).trans ?_
   exact aq (decide_eq_true h24)
  have RI:r.n<=1000:=by
   rw [<- iN,h2]
   unfold acT
   rw [List.length_map]
   have:∀ (m t i:Nat),(des (cB s) (aW rows) m t i).length<=m + 1:=by
    intro m
    induction m with
    | zero=>intro t i; simp [des]
    | succ m ih =>
     intro t i
     simp only [des,List.length_cons]
     cases nx (cB s) (aW rows) t i with
     | none=>simp
     | some j=>have:=ih (t + 1) j; dsimp only; omega
   have:=this (s.1.n - 1 - t) t i
   omega
  obtain ⟨X',q1,q2,q3,q4⟩:=atX hs ht hi l (snoc X (r,())) (fun x hx=>hg x (.tail _ hx)) (by rw [IP]; omega) fun k hk'=>by
   rw [IP] at hk'
   by_cases e:k < X.n
   ·rw [Ik e]; exact hk k e
   ·obtain rfl:k=X.n:=by omega
    rw [Il]; exact RI
  refine ⟨X',?_,by rw [q2,IP,List.length_cons]; omega,q3,?_⟩
  ·unfold Uf at q1 ⊢
   simp only [eW,st]
   exact q1
  ·rw [q4,FY,List.map_cons,hL,h2,List.append_assoc]; rfl
theorem awX (ho:Io s=true) (ha:Dg s=true) {t i:Nat} (ht:t < s.1.n) (hi:i < (s.1.g t).2.1.n):∃ P:cT,M39 (no_index (s,((t:Int),((i:Int),()))))=some (P,((0:Int),()))/\(aW P).Pairwise llt /\
  ∀ x,x∈aW P↔∃ L∈links (cB s),x=acT (cB s) L (s.1.n - 1 - t) t i:=by
 have hs:=qP ho
 have WM:=eF hs
 have h63:=auP (s:=s) (by omega) (fun t ht=>by have:=dN hs ht; omega) true
 have e0:Jc s true=0:=by unfold Jc; rw [ho,ha]; rfl
 rw [e0] at h63
 have h78:=aQE (s:=s) (by omega) (t:Int) (i:Int)
 rw [lowB_nat ho ht hi] at h78
 obtain ⟨z,h1,h2,h3⟩:=anh hs
 have hmem:∀ it∈z.list,Good s it/\toL it∈links (cB s):=fun it hit=>⟨h3 it hit,by rw [<- h2]; exact List.mem_map_of_mem hit⟩
 have hlen:z.list.length=(links (cB s)).length:=by rw [<- h2,List.length_map]
 have hsm:=abS hs
 have e2n:(e2:cT).n=0:=rfl
 obtain ⟨X,q1,q2,q3,q4⟩:=atX hs ht hi z.list e2 hmem (by rw [e2n]; omega) fun k hk=>absurd hk (Nat.not_lt_zero _)
 have hpos:0 < (links (cB s)).length:=by
  obtain ⟨L,hL⟩:=Ki.1 ha
  exact List.length_pos_of_mem hL
 rw [e2n] at q2
 have hX:Small X:=⟨by omega,by omega,q3⟩
 have hr0:aW (e2:cT)=[]:=rfl
 rw [hr0,List.nil_append] at q4
 obtain ⟨c1,c2,c3⟩:=aAe hX
 refine ⟨amF v86 (JB v84 X),?_,c2,fun x=>(c3 x).trans ?_⟩
 ·unfold M39 Q39
  refine (aK h78).trans ?_
  refine (aK h63).trans ?_
  refine (aR rfl).trans ?_
  refine (aK h1).trans ?_
  refine (congrArg (fun o=>oQ o _ (oR o _ _)) q1).trans ?_
  refine (aq (aAa hX)).trans ?_
  exact aq c1
 ·constructor
  ·rintro ⟨k,hk,rfl⟩
   have hg:(aW X)[k]? = some (abI X k):=tW hk
   rw [q4,List.getElem?_map] at hg
   cases hz:z.list[k]? with
   | none=>rw [hz] at hg; cases hg
   | some it =>
    rw [hz] at hg
    exact ⟨toL it,(hmem it (List.mem_of_getElem? hz)).2,(Option.some.inj hg).symm⟩
  ·rintro ⟨L,hL,rfl⟩
   rw [<- h2] at hL
   obtain ⟨it,hit,rfl⟩:=List.mem_map.1 hL
   obtain ⟨k,hk,e⟩:=List.getElem_of_mem hit
   refine ⟨k,by omega,?_⟩
   have hg:(aW X)[k]? = some (abI X k):=tW (by omega)
   rw [q4,List.getElem?_map,List.getElem?_eq_getElem hk,e] at hg
   exact Option.some.inj hg
end Go.Dm

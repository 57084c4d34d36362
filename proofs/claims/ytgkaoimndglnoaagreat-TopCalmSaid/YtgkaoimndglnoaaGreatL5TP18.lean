/- TopCalm. -/
import Derived.Test.YtgkaoimndglnoaaGreatL5TP17
import Derived.Test.YtgkaoimndglnoaaGreatL5TC8
set_option linter.unusedVariables false
set_option linter.unusedSimpArgs false
namespace Go.Dm
open Con
set_option maxRecDepth 100000
theorem auq {α:Type} (s:Sl α) (i:Nat) (y:α):(cm s i y).g i=y:=by
 show (bif Nat.beq i i then y else s.g i)=y
 rw [show Nat.beq i i=true from Nat.beq_refl i]; rfl
theorem arO {α:Type} {s:Sl α} {i k:Nat} (h:k≠i) (y:α):(cm s i y).g k=s.g k:=by
 show (bif Nat.beq k i then y else s.g k)=s.g k
 cases hb:Nat.beq k i with
 | true=>exact absurd (Nat.eq_of_beq_eq_true hb) h
 | false=>rfl
theorem aU7 {w a b:Nat} (hw:1<=w/\w<=6) (ha:a < 30) (hb:b < 30):M29 (no_index ((w:Int),((a:Int),((b:Int),()))))=some (((adi w a b:Nat):Int),()):=by
 have e1:∀ x:Nat,x < 30->Int.tdiv (x:Int) (w:Int)=((x / w:Nat):Int)/\Int.tmod (x:Int) (w:Int)=((x % w:Nat):Int)/\x / w<=30/\x % w<=30:=fun x hx=>by
  refine ⟨?_,?_,?_,?_⟩
  ·rw [Int.tdiv_eq_ediv_of_nonneg (by omega)]; rfl
  ·rw [Int.tmod_eq_emod_of_nonneg (by omega)]; rfl
  ·exact Nat.le_trans (Nat.div_le_self _ _) (by omega)
  ·exact Nat.le_trans (Nat.mod_le _ _) (by omega)
 obtain ⟨a1,a2,a3,a4⟩:=e1 a ha
 obtain ⟨b1,b2,b3,b4⟩:=e1 b hb
 have hw0:¬ ((w:Int)=0):=by omega
 have e92:∀ x y:Nat,x<=30->y<=30->M92 (no_index ((x:Int),((y:Int),())))=some (((nd x y:Nat):Int),()):=fun x y hx hy=>by
  unfold M92 Q92
  show some (mx (W ((x:Int) - (y:Int))) (W ((y:Int) - (x:Int))),())=_
  rw [eU (n:=(x:Int) - (y:Int)) ⟨by omega,by omega⟩,eU (n:=(y:Int) - (x:Int)) ⟨by omega,by omega⟩,Pa]
  unfold nd
  rw [show max ((x:Int) - (y:Int)) ((y:Int) - (x:Int))=(((x - y) + (y - x):Nat):Int) by omega]
 unfold M29 Q29
 refine (cR (decide_eq_false hw0)).trans ?_
 refine (cR (decide_eq_false hw0)).trans ?_
 refine (cI (x:=(((nd (a / w) (b / w):Nat):Int),())) ?_).trans ?_
 ·show M92 (W (Int.tdiv (a:Int) (w:Int)),(W (Int.tdiv (b:Int) (w:Int)),()))=_
  have w2:∀ x:Nat,x<=30->W (x:Int)=(x:Int):=fun x hx=>eU ⟨by omega,by omega⟩
  rw [a1,b1,w2 _ a3,w2 _ b3]
  exact e92 _ _ a3 b3
 refine (cR (decide_eq_false hw0)).trans ?_
 refine (cR (decide_eq_false hw0)).trans ?_
 refine (cI (x:=(((nd (a % w) (b % w):Nat):Int),())) ?_).trans ?_
 ·show M92 (Int.tmod (a:Int) (w:Int),(Int.tmod (b:Int) (w:Int),()))=_
  rw [a2,b2]
  exact e92 _ _ a4 b4
 show some (W (((nd (a / w) (b / w):Nat):Int) + ((nd (a % w) (b % w):Nat):Int)),())=_
 unfold adi nd
 generalize a / w=x1 at *
 generalize b / w=x2 at *
 generalize a % w=x3 at *
 generalize b % w=x4 at *
 rw [eU ⟨by omega,by omega⟩]
 rfl
abbrev ptT:Type:=Sl (Int×Unit)
def akM (pts:ptT) (k:Int):Nat:=((pts.g k.toNat).1).toNat
structure Pts (m:Go.Dm.adh) (pts:ptT):Prop where
 ok:∀ k,k < pts.n->0<=(pts.g k).1/\(pts.g k).1<=m.1 * m.2.1 - 1
theorem Pts.at {m:Go.Dm.adh} {pts:ptT} (h:Pts m pts) (hm:aqq m) {k:Int} (hk:0<=k/\k < (pts.n:Int)):(pts.g k.toNat).1=(akM pts k:Int)/\akM pts k < adr m:=by
 have h1:=h.ok k.toNat (by omega)
 have h2:=hm.eN
 unfold akM
 omega
def lkD (m:Go.Dm.adh) (pts:ptT) (L:am8):Int:=cst m (akM pts L.1) (akM pts L.2.1)
theorem aU8 {m:Go.Dm.adh} {pts:ptT} (hm:aqq m) (h:Pts m pts) {L:am8} (hA:0<=L.1/\L.1 < (pts.n:Int)) (hB:0<=L.2.1/\L.2.1 < (pts.n:Int)) :
  M29 (no_index (m.1,((pts.g (Int.toNat L.1)).1,(pts.g (Int.toNat L.2.1)))))=some (((adi (adt m) (akM pts L.1) (akM pts L.2.1):Nat):Int),())/\W (m.2.2.1 * ((adi (adt m) (akM pts L.1) (akM pts L.2.1):Nat):Int))=lkD m pts L:=by
 have a:=h.at hm hA
 have b:=h.at hm hB
 have hN:=hm.eN
 refine ⟨?_,ajz hm (by omega) (by omega)⟩
 have e:pts.g (Int.toNat L.2.1)=((pts.g (Int.toNat L.2.1)).1,()):=rfl
 rw [e,a.1,b.1,hm.adU.1]
 exact aU7 hm.adU.2 (by omega) (by omega)
theorem aDi {w:aiC} {m:Go.Dm.adh} {f:fdT} {pts:ptT} {po mi:Int} (hm:aqq m) (hn:pts.n<=12) :
    as0 (pts,(po,(mi,((),((),((),(w,(m,(f,()))))))))) ((0:Int),()) = .ret (true,())\/(as0 (pts,(po,(mi,((),((),((),(w,(m,(f,()))))))))) ((0:Int),()) = .exit 0 ()/\Pts m pts):=
  qj (ps:=tB) (wy:=RV) (N:=dw) (step:=asZ (pts,(po,(mi,((),((),((),(w,(m,(f,()))))))))))
    (P:=fun j v=>v=((j:Int),())/\∀ k,k < j->0<=(pts.g k).1/\(pts.g k).1<=m.1 * m.2.1 - 1)
    (Q:=fun q=>q = .ret (true,())\/(q = .exit 0 ()/\Pts m pts))
    pts.n (by unfold dw; omega)
    (fun j v hj hp=>by
      obtain ⟨rfl,hp⟩:=hp
      have eN:W ((j:Int) + 1)=((j + 1:Nat):Int):=ec hj (by omega)
      cases hc:iQ (pts.g j).1 0 (m.1 * m.2.1 - 1) with
      | false =>
        refine .inr ⟨.ret (true,()),?_,.inl rfl⟩
        unfold asZ asY
        refine (cn (decide_eq_true (dW hj))).trans ?_
        refine (cn (decide_eq_true (bO hj))).trans ?_
        refine (cI (aD9 hm.wide hm.rows (pts.g j).1)).trans ?_
        rw [hc]
        exact (cn rfl).trans (cI fI)
      | true =>
        refine .inl ⟨(((j + 1:Nat):Int),()),?_,rfl,fun k hk=>?_⟩
        · unfold asZ asY
          refine (cn (decide_eq_true (dW hj))).trans ?_
          refine (cn (decide_eq_true (bO hj))).trans ?_
          refine (cI (aD9 hm.wide hm.rows (pts.g j).1)).trans ?_
          rw [hc,<- eN]
          exact cR rfl
        · by_cases e:k=j
          · subst e; exact rW hc
          · exact hp k (by omega))
    (fun v hp=>by
      obtain ⟨rfl,hp⟩:=hp
      refine ⟨_,?_,.inr ⟨rfl,⟨hp⟩⟩⟩
      unfold asZ asY
      exact cR (decide_eq_false (by show ¬ (((pts.n:Nat):Int) < ((pts.n:Nat):Int)); omega)))
    ((0:Int),()) ⟨rfl,fun k hk=>by omega⟩
def ait (w:aiC) (row:Sl amz):aiC:=(w.1,(row,w.2.2))
def arE (w:aiC) (f:fdT) (pts:ptT) (i:Nat):amz:=((w.2.1.g i).1,((w.2.1.g 0).2.1,(vlF f (akM pts (w.2.1.g i).1),(w.2.1.g i).2.2.2)))
structure Row (w:aiC) (f:fdT) (pts:ptT) (j:Nat) (row:Sl amz):Prop where
 n:row.n=w.2.1.n
 old:∀ k,k < j->row.g k=arE w f pts k
 new:∀ k,j<=k->row.g k=w.2.1.g k
theorem aDl {w:aiC} {m:Go.Dm.adh} {f:fdT} {pts:ptT} {po mi:Int} (hm:aqq m) (hP:Pts m pts) (hS:aFC m f) (h0:0 < w.2.1.n) (hn:w.2.1.n<=12) (hst:∀ i,i < w.2.1.n->0<=(w.2.1.g i).1/\(w.2.1.g i).1 < (pts.n:Int)) :
    ∃ row,Row w f pts w.2.1.n row/\aCn (pts,(po,(mi,((),((),((),((),(w,(m,(f,())))))))))) ((0:Int),(w,())) = .exit 2 (ait w row,()):=by
  have key:=qj (ps:=tD) (wy:=RX) (N:=dw) (step:=as2 (pts,(po,(mi,((),((),((),((),(w,(m,(f,())))))))))))
    (P:=fun j v=>∃ row,Row w f pts j row/\v=((j:Int),(ait w row,())))
    (Q:=fun q=>∃ row,Row w f pts w.2.1.n row/\q = .exit 2 (ait w row,()))
    w.2.1.n (by unfold dw; omega)
    (fun j v hj hp=>by
      obtain ⟨row,hr,rfl⟩:=hp
      have hjr:j < row.n:=by rw [hr.n]; exact hj
      have hs:=hst j hj
      have hp:=hP.at hm hs
      have hpf:akM pts (w.2.1.g j).1 < (vls f).n:=by rw [hS.n]; exact hp.2
      refine .inl ⟨(((j + 1:Nat):Int),(ait w (cm (cm row j ((row.g j).1,((w.2.1.g 0).2.1,(row.g j).2.2))) j (arE w f pts j)),())),?_,cm (cm row j ((row.g j).1,((w.2.1.g 0).2.1,(row.g j).2.2))) j (arE w f pts j),⟨hr.n,fun k hk=>?_,fun k hk=>?_⟩,rfl⟩
      · unfold as2 as1
        refine (cn (decide_eq_true (dW hjr))).trans ?_
        refine (cn (decide_eq_true (bO h0))).trans ?_
        refine (cn (decide_eq_true (bO hj))).trans ?_
        refine (cn (decide_eq_true hs)).trans ?_
        refine (cn (decide_eq_true (show 0<=(pts.g (Int.toNat (w.2.1.g j).1)).1/\(pts.g (Int.toNat (w.2.1.g j).1)).1 < (((vls f).n:Nat):Int) by rw [hp.1]; exact bO hpf))).trans ?_
        refine (cn (decide_eq_true (bO hjr))).trans ?_
        refine (cn (decide_eq_true (bO hjr))).trans ?_
        have e:(((cm row j ((row.g j).1,((w.2.1.g 0).2.1,(row.g j).2.2))).g j).1,(((cm row j ((row.g j).1,((w.2.1.g 0).2.1,(row.g j).2.2))).g j).2.1,(((vls f).g (Int.toNat (pts.g (Int.toNat (w.2.1.g j).1)).1)).1,((cm row j ((row.g j).1,((w.2.1.g 0).2.1,(row.g j).2.2))).g j).2.2.2)))=arE w f pts j:=by
          rw [auq,hr.new j (Nat.le_refl _),hp.1,Int.toNat_natCast]
          rfl
        rw [<- ec hj (by omega),<- e]
        rfl
      · by_cases ek:k=j
        · subst ek; exact auq _ _ _
        · rw [arO ek,arO ek]; exact hr.old k (by omega)
      · rw [arO (by omega),arO (by omega)]; exact hr.new k (by omega))
    (fun v hp=>by
      obtain ⟨row,hr,rfl⟩:=hp
      refine ⟨_,?_,row,hr,rfl⟩
      unfold as2 as1
      exact cR (decide_eq_false (by show ¬ (((w.2.1.n:Nat):Int) < ((row.n:Nat):Int)); rw [hr.n]; omega)))
    ((0:Int),(w,())) ⟨w.2.1,⟨rfl,fun k hk=>by omega,fun k _=>rfl⟩,rfl⟩
  exact key
theorem aDm {w x:aiC} {m:Go.Dm.adh} {pts:ptT} {po mi:Int} (hm:aqq m) (hP:Pts m pts) (hn:w.2.2.1.n<=12) (hl:∀ i,i < w.2.2.1.n->(0<=(w.2.2.1.g i).1/\(w.2.2.1.g i).1 < (pts.n:Int))/\(0<=(w.2.2.1.g i).2.1/\(w.2.2.1.g i).2.1 < (pts.n:Int))) :
    ∃ b,aCp (pts,(po,(mi,((),((),((),(w,(m,(x,()))))))))) (true,((0:Int),())) = .exit 4 (b,())/\(b=true->∀ i,i < w.2.2.1.n->lkD m pts (w.2.2.1.g i) < (w.2.2.1.g i).2.2.1):=by
  have key:=qj (ps:=tE) (wy:=RZ) (N:=dw) (step:=as4 (pts,(po,(mi,((),((),((),(w,(m,(x,()))))))))))
    (P:=fun j v=>∃ b,v=(b,((j:Int),()))/\(b=true->∀ i,i < j->lkD m pts (w.2.2.1.g i) < (w.2.2.1.g i).2.2.1))
    (Q:=fun q=>∃ b,q = .exit 4 (b,())/\(b=true->∀ i,i < w.2.2.1.n->lkD m pts (w.2.2.1.g i) < (w.2.2.1.g i).2.2.1))
    w.2.2.1.n (by unfold dw; omega)
    (fun j v hj hp=>by
      obtain ⟨b,rfl,hb⟩:=hp
      have eN:W ((j:Int) + 1)=((j + 1:Nat):Int):=ec hj (by omega)
      obtain ⟨hA,hB⟩:=hl j hj
      obtain ⟨e29,eW⟩:=aU8 hm hP hA hB
      cases b with
      | false =>
        refine .inl ⟨(false,(((j + 1:Nat):Int),())),?_,false,rfl,fun h=>by cases h⟩
        unfold as4 as3
        refine (cn (decide_eq_true (dW hj))).trans ?_
        refine (cn (decide_eq_true (bO hj))).trans ?_
        rw [<- eN]
        exact cR rfl
      | true =>
        refine .inl ⟨(decide (lkD m pts (w.2.2.1.g j) < (w.2.2.1.g j).2.2.1),(((j + 1:Nat):Int),())),?_,_,rfl,fun h i hi=>?_⟩
        · unfold as4 as3
          refine (cn (decide_eq_true (dW hj))).trans ?_
          refine (cn (decide_eq_true (bO hj))).trans ?_
          refine (cn rfl).trans ?_
          refine (cn (decide_eq_true hA)).trans ?_
          refine (cn (decide_eq_true hB)).trans ?_
          refine (cI e29).trans ?_
          rw [<- eN,<- eW]
          rfl
        · by_cases e:i=j
          · subst e; exact of_decide_eq_true h
          · exact hb rfl i (by omega))
    (fun v hp=>by
      obtain ⟨b,rfl,hb⟩:=hp
      refine ⟨_,?_,b,rfl,hb⟩
      unfold as4 as3
      exact cR (decide_eq_false (by show ¬ (((w.2.2.1.n:Nat):Int) < ((w.2.2.1.n:Nat):Int)); omega)))
    (true,((0:Int),())) ⟨true,rfl,fun _ i hi=>by omega⟩
  exact key
def arl (pts:ptT) (m:Go.Dm.adh) (p q:amz) (L:am8):Prop:=((L.1=p.1/\L.2.1=q.1)\/(L.1=q.1/\L.2.1=p.1))/\L.2.2.1<=asA p.2.2.1 q.2.2.1/\L.2.2.1<=lkD m pts L
def anh (pts:ptT) (m:Go.Dm.adh) (p q:amz) (L:am8) (k:Nat) (v:Bool) (r:RQ jt AB):Prop:=∃ b,r = .next (b,(((k + 1:Nat):Int),()))/\((v=true\/arl pts m p q L)->b=true)
theorem aIY {w x:aiC} {m:Go.Dm.adh} {pts:ptT} {po mi ac7 i:Int} {sp:Bool} {al:Sl Con.prT} {p q:amz} (hm:aqq m) (hP:Pts m pts) (hn:w.2.2.1.n<=12) {k:Nat} (hk:k < w.2.2.1.n) {L:am8} (hL:w.2.2.1.g k=L) (hA:0<=L.1/\L.1 < (pts.n:Int)) (hB:0<=L.2.1/\L.2.1 < (pts.n:Int)) (v:Bool) :
  anh pts m p q L k v (OW (pts,(po,(mi,((),((),((),(sp,(al,(ac7,(i,((),((),(w,(m,(x,(p,(q,()))))))))))))))))) (v,((k:Int),()))):=by
 subst hL
 obtain ⟨e29,eW⟩:=aU8 hm hP hA hB
 have fin:∀ b,(RQ.next (b,(W ((k:Int) + 1),())):RQ jt AB) = .next (b,(((k + 1:Nat):Int),())):=fun b=>by rw [ec hk (by omega)]
 have eW':∀ c:Int,decide (c<=W (m.2.2.1 * ((adi (adt m) (akM pts (w.2.2.1.g k).1) (akM pts (w.2.2.1.g k).2.1):Nat):Int)))=decide (c<=lkD m pts (w.2.2.1.g k)):=fun c=>by rw [eW]
 unfold OW OV
 refine CZ (P:=anh pts m p q (w.2.2.1.g k) k v) (cn (decide_eq_true (dW hk))) ?_
 refine CZ (P:=anh pts m p q (w.2.2.1.g k) k v) (cn (decide_eq_true (bO hk))) ?_
 by_cases P1:(w.2.2.1.g k).1=p.1
 ·refine CZ (P:=anh pts m p q (w.2.2.1.g k) k v) (cn (decide_eq_true P1)) ?_
  by_cases P2:(w.2.2.1.g k).2.1=q.1
  ·refine CZ (P:=anh pts m p q (w.2.2.1.g k) k v) (cn (decide_eq_true P2)) ?_
   cases v with
   | true=>exact ⟨true,(cn rfl).trans (fin true),fun _=>rfl⟩
   | false =>
   refine CZ (P:=anh pts m p q (w.2.2.1.g k) k false) (cR rfl) ?_
   by_cases D:(w.2.2.1.g k).2.2.1<=asA p.2.2.1 q.2.2.1
   ·refine CZ (P:=anh pts m p q (w.2.2.1.g k) k false) (cn (decide_eq_true D)) ?_
    refine CZ (P:=anh pts m p q (w.2.2.1.g k) k false) (cn (decide_eq_true hA)) ?_
    refine CZ (P:=anh pts m p q (w.2.2.1.g k) k false) (cn (decide_eq_true hB)) ?_
    refine CZ (P:=anh pts m p q (w.2.2.1.g k) k false) (cI e29) ?_
    refine ⟨_,fin _,fun hc=>?_⟩
    rcases hc with hc | hc
    ·cases hc
    ·exact (eW' _).trans (decide_eq_true hc.2.2)
   ·exact ⟨false,(cR (decide_eq_false D)).trans (fin false),fun hc=>by
     rcases hc with hc | hc
     ·cases hc
     ·exact absurd hc.2.1 D⟩
  ·refine CZ (P:=anh pts m p q (w.2.2.1.g k) k v) (cR (decide_eq_false P2)) ?_
   by_cases R1:(w.2.2.1.g k).1=q.1
   ·refine CZ (P:=anh pts m p q (w.2.2.1.g k) k v) (cn (decide_eq_true R1)) ?_
    cases v with
    | true=>exact ⟨true,(cn rfl).trans (fin true),fun _=>rfl⟩
    | false =>
    refine CZ (P:=anh pts m p q (w.2.2.1.g k) k false) (cR rfl) ?_
    by_cases R2:(w.2.2.1.g k).2.1=p.1
    ·refine CZ (P:=anh pts m p q (w.2.2.1.g k) k false) (cn (decide_eq_true R2)) ?_
     by_cases D:(w.2.2.1.g k).2.2.1<=asA p.2.2.1 q.2.2.1
     ·refine CZ (P:=anh pts m p q (w.2.2.1.g k) k false) (cn (decide_eq_true D)) ?_
      refine CZ (P:=anh pts m p q (w.2.2.1.g k) k false) (cn (decide_eq_true hA)) ?_
      refine CZ (P:=anh pts m p q (w.2.2.1.g k) k false) (cn (decide_eq_true hB)) ?_
      refine CZ (P:=anh pts m p q (w.2.2.1.g k) k false) (cI e29) ?_
      refine ⟨_,fin _,fun hc=>?_⟩
      rcases hc with hc | hc
      ·cases hc
      ·exact (eW' _).trans (decide_eq_true hc.2.2)
     ·exact ⟨false,(cR (decide_eq_false D)).trans (fin false),fun hc=>by
       rcases hc with hc | hc
       ·cases hc
       ·exact absurd hc.2.1 D⟩
    ·exact ⟨false,(cR (decide_eq_false R2)).trans (fin false),fun hc=>by
      rcases hc with hc | hc
      ·cases hc
      ·exact (hc.1.elim (fun h=>absurd h.2 P2) fun h=>absurd h.2 R2)⟩
   ·refine CZ (P:=anh pts m p q (w.2.2.1.g k) k v) (cR (decide_eq_false R1)) ?_
    cases v with
    | true=>exact ⟨true,(cn rfl).trans (fin true),fun _=>rfl⟩
    | false=>exact ⟨false,(cR rfl).trans (fin false),fun hc=>by
      rcases hc with hc | hc
      ·cases hc
      ·exact (hc.1.elim (fun h=>absurd h.2 P2) fun h=>absurd h.1 R1)⟩
 ·refine CZ (P:=anh pts m p q (w.2.2.1.g k) k v) (cR (decide_eq_false P1)) ?_
  by_cases R1:(w.2.2.1.g k).1=q.1
  ·refine CZ (P:=anh pts m p q (w.2.2.1.g k) k v) (cn (decide_eq_true R1)) ?_
   cases v with
   | true=>exact ⟨true,(cn rfl).trans (fin true),fun _=>rfl⟩
   | false =>
   refine CZ (P:=anh pts m p q (w.2.2.1.g k) k false) (cR rfl) ?_
   by_cases R2:(w.2.2.1.g k).2.1=p.1
   ·refine CZ (P:=anh pts m p q (w.2.2.1.g k) k false) (cn (decide_eq_true R2)) ?_
    by_cases D:(w.2.2.1.g k).2.2.1<=asA p.2.2.1 q.2.2.1
    ·refine CZ (P:=anh pts m p q (w.2.2.1.g k) k false) (cn (decide_eq_true D)) ?_
     refine CZ (P:=anh pts m p q (w.2.2.1.g k) k false) (cn (decide_eq_true hA)) ?_
     refine CZ (P:=anh pts m p q (w.2.2.1.g k) k false) (cn (decide_eq_true hB)) ?_
     refine CZ (P:=anh pts m p q (w.2.2.1.g k) k false) (cI e29) ?_
     refine ⟨_,fin _,fun hc=>?_⟩
     rcases hc with hc | hc
     ·cases hc
     ·exact (eW' _).trans (decide_eq_true hc.2.2)
    ·exact ⟨false,(cR (decide_eq_false D)).trans (fin false),fun hc=>by
      rcases hc with hc | hc
      ·cases hc
      ·exact absurd hc.2.1 D⟩
   ·exact ⟨false,(cR (decide_eq_false R2)).trans (fin false),fun hc=>by
     rcases hc with hc | hc
     ·cases hc
     ·exact (hc.1.elim (fun h=>absurd h.1 P1) fun h=>absurd h.2 R2)⟩
  ·refine CZ (P:=anh pts m p q (w.2.2.1.g k) k v) (cR (decide_eq_false R1)) ?_
   cases v with
   | true=>exact ⟨true,(cn rfl).trans (fin true),fun _=>rfl⟩
   | false=>exact ⟨false,(cR rfl).trans (fin false),fun hc=>by
     rcases hc with hc | hc
     ·cases hc
     ·exact (hc.1.elim (fun h=>absurd h.1 P1) fun h=>absurd h.1 R1)⟩
theorem auB {w x:aiC} {m:Go.Dm.adh} {pts:ptT} {po mi ac7 i:Int} {sp:Bool} {al:Sl Con.prT} {p q:amz} (hm:aqq m) (hP:Pts m pts) (hn:w.2.2.1.n<=12) (hl:∀ i,i < w.2.2.1.n->(0<=(w.2.2.1.g i).1/\(w.2.2.1.g i).1 < (pts.n:Int))/\(0<=(w.2.2.1.g i).2.1/\(w.2.2.1.g i).2.1 < (pts.n:Int)))
    (hc:∃ k,k < w.2.2.1.n/\arl pts m p q (w.2.2.1.g k)) :
    OX (pts,(po,(mi,((),((),((),(sp,(al,(ac7,(i,((),((),(w,(m,(x,(p,(q,()))))))))))))))))) (false,((0:Int),())) = .exit 8 (true,()):=by
  have key:=qj (ps:=jt) (wy:=AB) (N:=dw) (step:=OW (pts,(po,(mi,((),((),((),(sp,(al,(ac7,(i,((),((),(w,(m,(x,(p,(q,()))))))))))))))))))
    (P:=fun j v=>∃ b,v=(b,((j:Int),()))/\((∃ k,k < j/\arl pts m p q (w.2.2.1.g k))->b=true))
    (Q:=fun r=>∃ b,r = .exit 8 (b,())/\((∃ k,k < w.2.2.1.n/\arl pts m p q (w.2.2.1.g k))->b=true))
    w.2.2.1.n (by unfold dw; omega)
    (fun j v hj hp=>by
      obtain ⟨b,rfl,hb⟩:=hp
      obtain ⟨b',e,hb'⟩:=aIY (x:=x) (po:=po) (mi:=mi) (ac7:=ac7) (i:=i) (sp:=sp) (al:=al) (p:=p) (q:=q) hm hP hn hj rfl (hl j hj).1 (hl j hj).2 b
      refine .inl ⟨_,e,b',rfl,fun h=>hb' ?_⟩
      obtain ⟨k,k1,k2⟩:=h
      by_cases ek:k=j
      · subst ek; exact .inr k2
      · exact .inl (hb ⟨k,by omega,k2⟩))
    (fun v hp=>by
      obtain ⟨b,rfl,hb⟩:=hp
      refine ⟨_,?_,b,rfl,hb⟩
      unfold OW OV
      exact cR (decide_eq_false (by show ¬ (((w.2.2.1.n:Nat):Int) < ((w.2.2.1.n:Nat):Int)); omega)))
    (false,((0:Int),())) ⟨false,rfl,fun h=>by obtain ⟨k,k1,_⟩:=h; omega⟩
  obtain ⟨b,e,hb⟩:=key
  rw [hb hc] at e
  exact e
theorem aDn {w x:aiC} {m:Go.Dm.adh} {pts:ptT} {po mi ac7:Int} {sp:Bool} {al:Sl Con.prT} (hm:aqq m) (hP:Pts m pts) (hn:w.2.2.1.n<=12) (hl:∀ i,i < w.2.2.1.n->(0<=(w.2.2.1.g i).1/\(w.2.2.1.g i).1 < (pts.n:Int))/\(0<=(w.2.2.1.g i).2.1/\(w.2.2.1.g i).2.1 < (pts.n:Int)))
  (Is:al.n<=1000) (ha:∀ j,j < al.n->∃ a b:Nat,al.g j=prN a b/\a < b/\b < x.2.1.n/\∃ k,k < w.2.2.1.n/\arl pts m (x.2.1.g a) (x.2.1.g b) (w.2.2.1.g k)) :
  aco (pts,(po,(mi,((),((),((),(sp,(al,(ac7,(w,(m,(x,())))))))))))) ((0:Int),()) = .exit 6 ():=by
 unfold aco
 refine cX (ps:=tH) al.n dw (fun j=>((j:Int),())) (by unfold dw; omega) (fun j hj=>?_) ?_
 ·unfold as8 as7
  obtain ⟨a,b,e,hab,hb,hk⟩:=ha j hj
  have e1:(al.g j).1=(a:Int):=by rw [e]; rfl
  have e2:(al.g j).2.1=(b:Int):=by rw [e]; rfl
  have eN:W ((j:Int) + 1)=((j + 1:Nat):Int):=ec hj (by omega)
  refine (cn (decide_eq_true (dW hj))).trans ?_
  refine (cn (decide_eq_true (bO hj))).trans ?_
  refine (cn (decide_eq_true (bO hj))).trans ?_
  refine (cR (decide_eq_false (by show ¬ ((al.g j).1 < 0); rw [e1]; omega))).trans ?_
  refine (cR (decide_eq_false (by show ¬ ((al.g j).2.1<=(al.g j).1); rw [e1,e2]; omega))).trans ?_
  refine (cR (decide_eq_false (by show ¬ (((x.2.1.n:Nat):Int)<=(al.g j).2.1); rw [e2]; omega))).trans ?_
  refine (cn (decide_eq_true (by show 0<=(al.g j).1/\(al.g j).1 < ((x.2.1.n:Nat):Int); rw [e1]; omega))).trans ?_
  refine (cn (decide_eq_true (by show 0<=(al.g j).2.1/\(al.g j).2.1 < ((x.2.1.n:Nat):Int); rw [e2]; omega))).trans ?_
  have el:=auB (x:=x) (po:=po) (mi:=mi) (ac7:=ac7) (i:=(j:Int)) (sp:=sp) (al:=al) (p:=x.2.1.g (Int.toNat (al.g j).1)) (q:=x.2.1.g (Int.toNat (al.g j).2.1)) hm hP hn hl (by rw [e1,e2,Int.toNat_natCast,Int.toNat_natCast]; exact hk)
  refine (gV el).trans ?_
  rw [<- eN]
  exact cR rfl
 ·unfold as8 as7
  exact cR (decide_eq_false (by show ¬ (((al.n:Nat):Int) < ((al.n:Nat):Int)); omega))
theorem avX {a b:Int} (ha:0<=a/\a<=99999) (hb:0<=b/\b<=99999):asA a b=AF a b:=by
 unfold asA AF
 rw [eU (n:=a - b) ⟨by omega,by omega⟩,eU (n:=b - a) ⟨by omega,by omega⟩,Pa]
theorem auC {w:aiC} {m:Go.Dm.adh} {f:fdT} {pts:ptT} {row:Sl amz} (hm:aqq m) (hP:Pts m pts) (hS:aFC m f) (hg:aFD m f=true) (hst:∀ i,i < w.2.1.n->0<=(w.2.1.g i).1/\(w.2.1.g i).1 < (pts.n:Int)) (hr:Row w f pts w.2.1.n row) {a b:Nat} (ha:a < w.2.1.n) (hb:b < w.2.1.n) (h:aiI (ait w row) a b=true) :
  ∃ k,k < w.2.2.1.n/\arl pts m ((ait w row).2.1.g a) ((ait w row).2.1.g b) (w.2.2.1.g k):=by
 have ea:(ait w row).2.1.g a=arE w f pts a:=hr.old a ha
 have eb:(ait w row).2.1.g b=arE w f pts b:=hr.old b hb
 unfold aiI at h
 rw [ea,eb] at h ⊢
 have hf:∀ i k,aqI (ait w row) (arE w f pts i) (arE w f pts k)=false:=fun i k=>by
  unfold aqI
  rw [decide_eq_false (p:=(arE w f pts i).2.1 < (arE w f pts k).2.1) (by show ¬ ((w.2.1.g 0).2.1 < (w.2.1.g 0).2.1); omega),Bool.false_and,Bool.and_false]
 unfold aiE at h
 rw [hf,hf,Bool.false_or,Bool.false_or,Bool.and_eq_true] at h
 have h:=h.2
 unfold aqK at h
 rw [List.any_eq_true] at h
 obtain ⟨k,hk,hd⟩:=h
 have hk:k < w.2.2.1.n:=List.mem_range.1 hk
 refine ⟨k,hk,?_⟩
 have hd:aqJ (arE w f pts a) (arE w f pts b) (w.2.2.1.g k)=true:=hd
 unfold aqJ at hd
 rw [Bool.and_eq_true] at hd
 obtain ⟨h1,h2⟩:=hd
 have h2:=of_decide_eq_true h2
 have pa:=hP.at hm (hst a ha)
 have pb:=hP.at hm (hst b hb)
 have ac4:=hS.v (akM pts (w.2.1.g a).1) (by rw [hS.n]; exact pa.2)
 have ac0:=hS.v (akM pts (w.2.1.g b).1) (by rw [hS.n]; exact pb.2)
 have gf:=alD hm hg pa.2 pb.2
 have h3:(w.2.2.1.g k).2.2.1<=AF (vlF f (akM pts (w.2.1.g a).1)) (vlF f (akM pts (w.2.1.g b).1)):=by
  rw [<- avX ac4 ac0]; exact h2
 unfold aC7 at h1
 rw [Bool.or_eq_true,Bool.and_eq_true,Bool.and_eq_true] at h1
 simp only [decide_eq_true_eq] at h1
 refine ⟨h1,h2,?_⟩
 unfold lkD
 rcases h1 with ⟨q1,q2⟩ | ⟨q1,q2⟩
 ·rw [q1,q2]
  exact Int.le_trans h3 gf
 ·rw [q1,q2,aEU]
  exact Int.le_trans h3 gf
theorem avZ {w:aiC} {f:fdT} {m:Go.Dm.adh} {pts:ptT} {row:Sl amz} (hm:aqq m) (hP:Pts m pts) (hS:aFC m f) (hw:akQ w=true) (h0:0 < w.2.1.n) (hst:∀ i,i < w.2.1.n->0<=(w.2.1.g i).1/\(w.2.1.g i).1 < (pts.n:Int)) (hr:Row w f pts w.2.1.n row):akQ (ait w row)=true:=by
 unfold akQ at hw ⊢
 rw [Bool.and_eq_true,Bool.and_eq_true] at hw ⊢
 obtain ⟨h1,h2,h3⟩:=hw
 refine ⟨?_,?_,h3⟩
 ·have:atG (ait w row)=atG w:=by
   unfold atG
   rw [show (ait w row).2.1.n=w.2.1.n from hr.n]
   rfl
  rw [this]; exact h1
 ·rw [show (ait w row).2.1.n=w.2.1.n from hr.n]
  refine xd fun j hj=>?_
  show aqp w.1 (row.g j)=true
  rw [hr.old j hj]
  have a:=iR h2 hj
  have b:=iR h2 h0
  have pa:=hP.at hm (hst j hj)
  have ac4:=hS.v (akM pts (w.2.1.g j).1) (by rw [hS.n]; exact pa.2)
  unfold aqp at a b ⊢
  simp only [Bool.and_eq_true] at a b ⊢
  exact ⟨a.1,b.2.1,decide_eq_true ac4,a.2.2.2⟩
end Go.Dm

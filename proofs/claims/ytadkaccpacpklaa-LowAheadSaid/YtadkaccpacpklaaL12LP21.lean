/- Truths: what fits. -/
import Derived.Test.YtadkaccpacpklaaL12LP20
set_option linter.unusedVariables false
set_option linter.unusedSimpArgs false
namespace Go.Dm
set_option maxRecDepth 100000
open Go.Low
variable {s:tS.den} {A X Y D:cT}
def ap (r:cT) (t i:Nat):Int:=((r.g t).1.g i).1
abbrev V3:=Int×Int×Int×Unit
def tv (X Y D:cT) (t i:Nat):V3:=(ap X t i,(ap Y t i,(ap D t i,())))
def bx3 (v:V3) (b:B6):Bool:=(List.range 3).all fun j=>oV (List.getD [v.1,v.2.1,v.2.2.1] (0 + j * 1) v.1) (List.getD [b.1,b.2.1,b.2.2.1,b.2.2.2.1,b.2.2.2.2.1,b.2.2.2.2.2.1] (j * 2) b.1) (List.getD [b.2.1,b.2.2.1,b.2.2.2.1,b.2.2.2.2.1,b.2.2.2.2.2.1] (j * 2) b.1)
theorem Yu {v:V3} {b:B6}:bx3 v b=true↔(b.1<=v.1/\v.1<=b.2.1)/\(b.2.2.1<=v.2.1/\v.2.1<=b.2.2.2.1)/\(b.2.2.2.2.1<=v.2.2.1/\v.2.2.1<=b.2.2.2.2.2.1):=by
 show (oV v.1 b.1 b.2.1 && (oV v.2.1 b.2.2.1 b.2.2.2.1 && (oV v.2.2.1 b.2.2.2.2.1 b.2.2.2.2.2.1 && true)))=true↔_
 simp only [oV,Bool.and_true,Bool.and_eq_true,decide_eq_true_eq]
theorem aI4 (c:(aa oL).den):xG c ((0:Int),())=bif bx3 c.2.2.2.2.2.2.2.2.2.2.2.2.2.2.2.2.2.2.1 c.2.2.2.2.2.2.2.2.2.2.2.2.2.2.1 then .exit 10 () else LQ.ret (wy:=su) (show (aa su.ret).den from (false,((0:Int),()))):=by
 unfold xG bx3
 refine dX (ps:=mG) (n:=3) (f:=fun j=>((j:Int),())) (by unfold cz; omega) (fun j hj _=>?_) (fun _=>?_)
 ·have Ew:(RQ.next (show (aa mG).den from (W ((j:Int) + 1),())):RQ mG su) = .next (((j + 1:Nat):Int),()):=by rw [dR hj (by omega)]
  unfold JY JX
  refine (aq (decide_eq_true (by omega:(j:Int) < 3))).trans ?_
  refine (aq (decide_eq_true (by omega:(j:Int) < 3/\(0:Int)<=(j:Int)))).trans ?_
  refine (aq (decide_eq_true (by omega:j * 2 + 2<=6))).trans ?_
  refine (aq (decide_eq_true (by omega:(0:Int)<=(j:Int)/\(j:Int) < 3))).trans ?_
  refine (aq (decide_eq_true (by omega:0 + j * 1 < 3))).trans ?_
  refine (aK (zk _ _ _)).trans ?_
  generalize hb:oV _ _ _=b
  have hb':oV (List.getD [c.2.2.2.2.2.2.2.2.2.2.2.2.2.2.2.2.2.2.1.1,c.2.2.2.2.2.2.2.2.2.2.2.2.2.2.2.2.2.2.1.2.1,c.2.2.2.2.2.2.2.2.2.2.2.2.2.2.2.2.2.2.1.2.2.1] (0 + j * 1) c.2.2.2.2.2.2.2.2.2.2.2.2.2.2.2.2.2.2.1.1) (List.getD [c.2.2.2.2.2.2.2.2.2.2.2.2.2.2.1.1,c.2.2.2.2.2.2.2.2.2.2.2.2.2.2.1.2.1,c.2.2.2.2.2.2.2.2.2.2.2.2.2.2.1.2.2.1,c.2.2.2.2.2.2.2.2.2.2.2.2.2.2.1.2.2.2.1,c.2.2.2.2.2.2.2.2.2.2.2.2.2.2.1.2.2.2.2.1,c.2.2.2.2.2.2.2.2.2.2.2.2.2.2.1.2.2.2.2.2.1] (j * 2) c.2.2.2.2.2.2.2.2.2.2.2.2.2.2.1.1) (List.getD [c.2.2.2.2.2.2.2.2.2.2.2.2.2.2.1.2.1,c.2.2.2.2.2.2.2.2.2.2.2.2.2.2.1.2.2.1,c.2.2.2.2.2.2.2.2.2.2.2.2.2.2.1.2.2.2.1,c.2.2.2.2.2.2.2.2.2.2.2.2.2.2.1.2.2.2.2.1,c.2.2.2.2.2.2.2.2.2.2.2.2.2.2.1.2.2.2.2.2.1] (j * 2) c.2.2.2.2.2.2.2.2.2.2.2.2.2.2.1.1)=b:=hb
  rw [hb']
  cases b with
  | false=>rfl
  | true=>exact Ew
 ·unfold JY JX
  exact aR (decide_eq_false (by omega:¬ (((3:Nat):Int) < 3)))
def df3 (v u w:V3):Bool:=(List.range 3).all fun j=>oV (W ((List.getD [v.1,v.2.1,v.2.2.1] (0 + j * 1) v.1) - (List.getD [u.1,u.2.1,u.2.2.1] (0 + j * 1) u.1))) (W ((0:Int) - (List.getD [w.1,w.2.1,w.2.2.1] (j * 1) w.1))) (List.getD [w.1,w.2.1,w.2.2.1] (j * 1) w.1)
theorem aSH (c:(aa pU).den):AJ c ((0:Int),())=bif df3 c.2.2.2.2.2.2.2.2.2.2.2.2.2.2.2.2.2.2.2.1 c.2.2.2.2.2.2.2.2.2.2.2.2.2.2.2.2.2.2.2.2.1 c.2.2.2.2.2.2.2.2.2.2.2.2.2.2.2.1 then .exit 12 () else LQ.ret (wy:=sw) (show (aa sw.ret).den from (false,((0:Int),()))):=by
 unfold AJ df3
 refine dX (ps:=mH) (n:=3) (f:=fun j=>((j:Int),())) (by unfold cz; omega) (fun j hj _=>?_) (fun _=>?_)
 ·have Ew:(RQ.next (show (aa mH).den from (W ((j:Int) + 1),())):RQ mH sw) = .next (((j + 1:Nat):Int),()):=by rw [dR hj (by omega)]
  unfold Ka JZ
  refine (aq (decide_eq_true (by omega:(j:Int) < 3))).trans ?_
  refine (aq (decide_eq_true (by omega:(j:Int) < 3/\(0:Int)<=(j:Int)))).trans ?_
  refine (aq (decide_eq_true (by omega:j * 1 < 3))).trans ?_
  refine (aq (decide_eq_true (by omega:(0:Int)<=(j:Int)/\(j:Int) < 3))).trans ?_
  refine (aq (decide_eq_true (by omega:0 + j * 1 < 3))).trans ?_
  refine (aq (decide_eq_true (by omega:(0:Int)<=(j:Int)/\(j:Int) < 3))).trans ?_
  refine (aq (decide_eq_true (by omega:0 + j * 1 < 3))).trans ?_
  refine (aK (zk _ _ _)).trans ?_
  generalize hb:oV _ _ _=b
  have hb':oV (W ((List.getD [c.2.2.2.2.2.2.2.2.2.2.2.2.2.2.2.2.2.2.2.1.1,c.2.2.2.2.2.2.2.2.2.2.2.2.2.2.2.2.2.2.2.1.2.1,c.2.2.2.2.2.2.2.2.2.2.2.2.2.2.2.2.2.2.2.1.2.2.1] (0 + j * 1) c.2.2.2.2.2.2.2.2.2.2.2.2.2.2.2.2.2.2.2.1.1) - (List.getD [c.2.2.2.2.2.2.2.2.2.2.2.2.2.2.2.2.2.2.2.2.1.1,c.2.2.2.2.2.2.2.2.2.2.2.2.2.2.2.2.2.2.2.2.1.2.1,c.2.2.2.2.2.2.2.2.2.2.2.2.2.2.2.2.2.2.2.2.1.2.2.1] (0 + j * 1) c.2.2.2.2.2.2.2.2.2.2.2.2.2.2.2.2.2.2.2.2.1.1))) (W ((0:Int) - (List.getD [c.2.2.2.2.2.2.2.2.2.2.2.2.2.2.2.1.1,c.2.2.2.2.2.2.2.2.2.2.2.2.2.2.2.1.2.1,c.2.2.2.2.2.2.2.2.2.2.2.2.2.2.2.1.2.2.1] (j * 1) c.2.2.2.2.2.2.2.2.2.2.2.2.2.2.2.1.1))) (List.getD [c.2.2.2.2.2.2.2.2.2.2.2.2.2.2.2.1.1,c.2.2.2.2.2.2.2.2.2.2.2.2.2.2.2.1.2.1,c.2.2.2.2.2.2.2.2.2.2.2.2.2.2.2.1.2.2.1] (j * 1) c.2.2.2.2.2.2.2.2.2.2.2.2.2.2.2.1.1)=b:=hb
  rw [hb']
  cases b with
  | false=>rfl
  | true=>exact Ew
 ·unfold Ka JZ
  exact aR (decide_eq_false (by omega:¬ (((3:Nat):Int) < 3)))
def Kh (a b w:Int):Bool:=decide (a - b<=w) && decide (b - a<=w)
def hr (s:tS.den) (t:Nat):Int:=mT s (t + 1) - mT s t
def Wv (s:tS.den) (v u:V3) (h:Int):Bool:=Kh v.1 u.1 (pN s * h) && (Kh v.2.1 u.2.1 (pN s * h) && Kh v.2.2.1 u.2.2.1 (zn s * h))
theorem atf (hs:(cB s).Ok) {v u:V3} {b c:B6} (hb:vL b) (hc:vL c) (hv:bx3 v b=true) (hu:bx3 u c=true) {h:Int} (h0:0<=h) (h1:h<=200):df3 v u (pN s * h,(pN s * h,(zn s * h,())))=Wv s v u h:=by
 have q1:0<=pN s/\pN s<=50:=hs.sp
 have q2:0<=zn s/\zn s<=1000:=hs.dp
 have m1:=MG ⟨q1.1,by omega⟩ ⟨h0,h1⟩
 have m2:=MG q2 ⟨h0,h1⟩
 have f:∀ {x y w l m l' m':Int},0<=l->m<=99999->0<=l'->m'<=99999->l<=x/\x<=m->l'<=y/\y<=m'->0<=w/\w<=200000->oV (W (x - y)) (W (0 - w)) w=Kh x y w:=by
  intro x y w l m l' m' a1 a2 a3 a4 a5 a6 a7
  rw [gQ (n:=x - y) ⟨by omega,by omega⟩,gQ (n:=0 - w) ⟨by omega,by omega⟩]
  unfold oV Kh
  rw [Bool.eq_iff_iff]
  simp only [Bool.and_eq_true,decide_eq_true_eq]
  omega
 obtain ⟨v1,v2,v4⟩:=Yu.1 hv
 obtain ⟨u1,u2,u4⟩:=Yu.1 hu
 have b0:=hb 0 (by omega)
 have b1:=hb 1 (by omega)
 have b2:=hb 2 (by omega)
 have c0:=hc 0 (by omega)
 have c1:=hc 1 (by omega)
 have c2:=hc 2 (by omega)
 show (oV (W (v.1 - u.1)) (W (0 - pN s * h)) (pN s * h) && (oV (W (v.2.1 - u.2.1)) (W (0 - pN s * h)) (pN s * h) && (oV (W (v.2.2.1 - u.2.2.1)) (W (0 - zn s * h)) (zn s * h) && true)))=_
 rw [f b0.1 b0.2.2.2 c0.1 c0.2.2.2 v1 u1 m1.2,f b1.1 b1.2.2.2 c1.1 c1.2.2.2 v2 u2 m1.2,f b2.1 b2.2.2.2 c2.1 c2.2.2.2 v4 u4 m2.2,Bool.and_true]
 rfl
def okI (s:tS.den) (A X Y D:cT) (t i:Nat):Bool:=bx3 (tv X Y D t i) ((s.1.g t).2.1.g i) && match t with
 | 0=>true
 | u + 1=>decide (ap A (u + 1) i < 0) || (Wv s (tv X Y D (u + 1) i) (tv X Y D u (ap A (u + 1) i).toNat) (hr s u) && !has ((aV (A.g (u + 1)).1).take i) (ap A (u + 1) i))
def bcI (A:cT) (t j:Nat):Nat:=match t with
 | 0=>0
 | u + 1=>eO ((aV (A.g (u + 1)).1).take j)
theorem aaH {r:Sl sR.den} {j:Nat} (h:j<=r.n):aV (⟨j,fun i=>r.g (i + 0)⟩:Sl sR.den)=(aV r).take j:=by
 unfold aV
 rw [<- List.map_take,List.take_range,Nat.min_eq_left h]
 rfl
structure Ov (s:tS.den) (A X Y D:cT):Prop where
 a:PC s A
 x:PC s X
 y:PC s Y
 d:PC s D
 rng:∀ t i,t < s.1.n->i < (s.1.g t).2.1.n->VX s A t i=true
theorem Ov.link (h:Ov s A X Y D) {u i:Nat} (hu:u + 1 < s.1.n) (hi:i < (s.1.g (u + 1)).2.1.n):ap A (u + 1) i = -1\/(0<=ap A (u + 1) i/\(ap A (u + 1) i).toNat < (s.1.g u).2.1.n):=by
 have:=h.rng (u + 1) i hu hi
 unfold VX oV at this
 rw [Bool.and_eq_true,decide_eq_true_eq,decide_eq_true_eq] at this
 have h2:(-1:Int)<=ap A (u + 1) i/\ap A (u + 1) i<=(((s.1.g u).2.1.n:Nat):Int) - 1:=this
 omega
end Go.Dm

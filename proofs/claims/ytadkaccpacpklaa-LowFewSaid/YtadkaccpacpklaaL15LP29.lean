/- LowAhead. -/
import Derived.Test.YtadkaccpacpklaaL15LP25
import Derived.Test.YtadkaccpacpklaaL15LP28
import Derived.Test.YtadkaccpacpklaaL15LM7
set_option linter.unusedVariables false
set_option linter.unusedSimpArgs false
namespace Go.Dm
set_option maxRecDepth 100000
open Go.Low
variable {s:tS.den} {A X Y D:cT}
def tvA (X Y D:cT) (t i a:Nat):Int:=match a with
 | 0=>ap X t i
 | 1=>ap Y t i
 | _=>ap D t i
theorem au6 (h:PC s A) {t i:Nat} (ht:t < s.1.n) (hi:i < (s.1.g t).2.1.n):qR (aW A) t i=ap A t i:=OO (by rw [h.n]; exact ht) (by rw [h.k t ht]; exact hi)
theorem ab8 (hs:(cB s).Ok) (h:Ov s A X Y D) (hf:atl s A X Y D=true):Tru (cB s) (aW A) (tvA X Y D):=by
 unfold atl at hf
 simp only [Bool.and_eq_true,decide_eq_true_eq] at hf
 obtain ⟨h1,h2,h3,h4⟩:=hf
 have hin:∀ t i,t < s.1.n->i < (s.1.g t).2.1.n->bx3 (tv X Y D t i) ((s.1.g t).2.1.g i)=true:=fun t i ht hi=>mQ (mQ h1 ht) hi
 refine ⟨(dI A).trans h.a.n,?_,fun t ht=>?_,h3,h4,fun t i ht hi a ha=>?_,fun t i ht hi h0 a ha=>?_⟩
 ·show (aW A).getD 0 []=_
  have hn:0 < s.1.n:=hs.n1
  rw [kH (by rw [h.a.n]; exact hn)]
  unfold first
  refine List.ext_getElem? fun i=>?_
  have hk:(A.g 0).1.n=(s.1.g 0).2.1.n:=h.a.k 0 hn
  rw [gR,List.getElem?_replicate,hk]
  show _=if i < (s.1.g 0).2.1.n then some (-1) else none
  by_cases hi:i < (s.1.g 0).2.1.n
  ·rw [if_pos hi,if_pos hi]
   have:=h.rng 0 i hn hi
   unfold VX oV at this
   rw [Bool.and_eq_true,decide_eq_true_eq,decide_eq_true_eq] at this
   have h5:(-1:Int)<=(show Int from ((A.g 0).1.g i).1)/\(show Int from ((A.g 0).1.g i).1)<=(((0:Nat):Int)) - 1:=this
   have h6:(show Int from ((A.g 0).1.g i).1) = -1:=by omega
   exact congrArg some h6
  ·rw [if_neg hi,if_neg hi]
 ·have ht':t + 1 < s.1.n:=ht
  rw [kH (by rw [h.a.n]; exact ht')]
  refine ⟨(iN _).trans (h.a.k _ ht'),fun i x hx=>?_⟩
  rw [gR,h.a.k _ ht'] at hx
  split at hx
  ·rename_i hi
   have hx:=Option.some.inj hx
   have hl:=h.link ht' hi
   rcases hl with q | ⟨q1,q2⟩
   ·exact .inl (hx.symm.trans q)
   ·have hx:ap A (t + 1) i=x:=hx
    rw [hx] at q1 q2
    refine .inr ⟨q1,q2,fun j hj hjx=>?_⟩
    have h5:=mQ h2 (j:=t) (by omega)
    rw [Bool.and_eq_true] at h5
    have h6:=mQ h5.2 (j:=i) (by rw [h.a.k _ ht']; exact hi)
    unfold ayW at h6
    have hx':(show Int from ((A.g (t + 1)).1.g i).1)=x:=hx
    rw [hx',decide_eq_true q1,Bool.not_true,Bool.false_or,Bool.not_eq_true'] at h6
    have h7:has ((aV (A.g (t + 1)).1).take i) x=true:=zN.2 ⟨j,by rw [List.getElem?_take,if_pos hj]; exact hjx⟩
    rw [h7] at h6
    cases h6
  ·cases hx
 ·have:=Yu.1 (hin t i ht hi)
  show lo ((s.1.g t).2.1.g i) a<=tvA X Y D t i a/\tvA X Y D t i a<=Low.hi ((s.1.g t).2.1.g i) a
  match a,ha with
  | 0,_=>exact this.1
  | 1,_=>exact this.2.1
  | 2,_=>exact this.2.2
 ·have ht':t + 1 < s.1.n:=ht
  have e:=au6 h.a ht' hi
  rw [e] at h0 ⊢
  have h5:=mQ h2 (j:=t) (by omega)
  rw [Bool.and_eq_true] at h5
  have h6:=mQ h5.1 hi
  unfold nrI at h6
  have h0':¬ (ap A (t + 1) i < 0):=by omega
  rw [decide_eq_false h0',Bool.false_or] at h6
  unfold Wv Kh at h6
  simp only [Bool.and_eq_true,decide_eq_true_eq] at h6
  obtain ⟨⟨a1,a2⟩,⟨b1,b2⟩,c1,c2⟩:=h6
  match a,ha with
  | 0,_=>exact ⟨a1,a2⟩
  | 1,_=>exact ⟨b1,b2⟩
  | 2,_=>exact ⟨c1,c2⟩
theorem afN (hs:(cB s).Ok) {X:Nat->Nat->Nat->Int} {L:LL} (h:Tru (cB s) L X):Dg s=true:=Ki.2 ⟨L,(tX hs).2 h.links⟩
theorem aeb {x a b:Int} (h1:a<=x) (h2:x<=b):oV x a b=true:=by unfold oV; rw [decide_eq_true h1,decide_eq_true h2]; rfl
end Go.Dm

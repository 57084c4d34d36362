/- The reference's test of suites; whether there are links. -/
import Derived.Test.YtadkaccpacpklaaL10LP10
set_option linter.unusedVariables false
set_option linter.unusedSimpArgs false
namespace Go.Dm
set_option maxRecDepth 100000
open Go.Low
variable {s:tS.den}
theorem ae2 {t:Nat} (hk:(s.1.g t).2.1.n<=1000) :
  jf ((),((t:Int),((),(s,(s.1.g t,()))))) ((0:Int),())=bif Im (s.1.g t).2.1 then .exit 2 () else LQ.ret (wy:=gL) (show (aa gL.ret).den from (false,())):=by
 unfold jf
 refine dX (ps:=eG) (n:=(s.1.g t).2.1.n) (f:=fun j=>((j:Int),())) (c:=fun j=>Is ((s.1.g t).2.1.g j)) (by unfold cz; omega) (fun j hj _=>?_) (fun _=>?_)
 ·unfold tR tQ Is
  refine (aq (decide_eq_true (dW hj))).trans ?_
  refine (aq (decide_eq_true (aQ hj))).trans ?_
  refine (aK (Uq (show B6 from (s.1.g t).2.1.g j).1 (show B6 from (s.1.g t).2.1.g j).2.1 100)).trans ?_
  cases OD (show B6 from (s.1.g t).2.1.g j).1 (show B6 from (s.1.g t).2.1.g j).2.1 100 with
  | false=>rfl
  | true =>
   refine (aR rfl).trans ?_
   refine (aK (Uq (show B6 from (s.1.g t).2.1.g j).2.2.1 (show B6 from (s.1.g t).2.1.g j).2.2.2.1 100)).trans ?_
   cases OD (show B6 from (s.1.g t).2.1.g j).2.2.1 (show B6 from (s.1.g t).2.1.g j).2.2.2.1 100 with
   | false=>rfl
   | true =>
    refine (aR rfl).trans ?_
    refine (aK (Uq (show B6 from (s.1.g t).2.1.g j).2.2.2.2.1 (show B6 from (s.1.g t).2.1.g j).2.2.2.2.2.1 99999)).trans ?_
    cases OD (show B6 from (s.1.g t).2.1.g j).2.2.2.2.1 (show B6 from (s.1.g t).2.1.g j).2.2.2.2.2.1 99999 with
    | false=>rfl
    | true =>
     refine (aR rfl).trans ?_
     exact congrArg (fun q:Int=>(RQ.next (show (aa eG).den from (q,())):RQ eG gL)) (dR hj (by omega))
 ·unfold tR tQ
  have:¬ (((s.1.g t).2.1.n:Int) < ((s.1.g t).2.1.n:Int)):=by omega
  exact aR (decide_eq_false this)
theorem JM (hn:s.1.n<=1000) (hk:∀ t,t < s.1.n->(s.1.g t).2.1.n<=1000):Sj (no_index (s,()))=some (Io s,()):=by
 have key:HT ((),(s,())) ((0:Int),())=bif (List.range s.1.n).all (lD s) then .exit 0 () else LQ.ret (wy:=jb) (show (aa jb.ret).den from (false,())):=by
  unfold HT
  refine dX (ps:=fS) (n:=s.1.n) (f:=fun j=>((j:Int),())) (c:=lD s) (by unfold cz; omega) (fun j hj hall=>?_) (fun _=>?_)
  ·have w1:W ((j:Int) + 1)=((j + 1:Nat):Int):=dR hj (by omega)
   have Ew:(RQ.next (show (aa fS).den from (W ((j:Int) + 1),())):RQ fS jb) = .next (((j + 1:Nat):Int),()):=by rw [w1]
   have tail:∀ (hp:¬ mT s j<=jI s j) (h2:¬ 200 < mT s j) (f:(aa (dB gL 2)).den->RQ fS jb) (g:(aa gL.ret).den->RQ fS jb),(∀ u,f u=RQ.next (show (aa fS).den from (W ((j:Int) + 1),())))->(∀ u,g u = .out (.ret u)) ->
     (bif decide ((3:Int) < (((s.1.g j).2.1.n:Nat):Int)) then RQ.out (LQ.ret (wy:=jb) (show (aa jb.ret).den from (false,()))) else aF (jf ((),((j:Int),((),(s,(s.1.g j,()))))) ((0:Int),())) 2 f (bS (jf ((),((j:Int),((),(s,(s.1.g j,()))))) ((0:Int),())) g .bad)) =
      bif lD s j then .next (((j + 1:Nat):Int),()) else .out (LQ.ret (wy:=jb) (show (aa jb.ret).den from (false,()))):=by
    intro hp h2 f g hf hg
    unfold lD
    rw [decide_eq_false hp,decide_eq_false h2]
    by_cases c3:3 < (s.1.g j).2.1.n
    ·have c3':(3:Int) < (((s.1.g j).2.1.n:Nat):Int):=by omega
     rw [decide_eq_true c3,decide_eq_true c3']; rfl
    ·have c3':¬ (3:Int) < (((s.1.g j).2.1.n:Nat):Int):=by omega
     rw [decide_eq_false c3,decide_eq_false c3',cond_false,ae2 (hk j hj)]
     cases Im (s.1.g j).2.1 with
     | true=>exact (hf ()).trans Ew
     | false=>exact hg _
   have acA:jI s j<=mT s j->(0 < j->0<=jI s j):=fun _ hj0=>by
    have h0:∀ i,i < j->0<=mT s i:=fun i=>by
     induction i with
     | zero =>
      intro hi
      have h:=hall 0 hi
      unfold lD at h
      simp only [Bool.and_eq_true,Bool.not_eq_true',decide_eq_false_iff_not] at h
      have:jI s 0 = -1:=rfl
      omega
     | succ i ih =>
      intro hi
      have h:=hall (i + 1) hi
      unfold lD at h
      simp only [Bool.and_eq_true,Bool.not_eq_true',decide_eq_false_iff_not] at h
      have:jI s (i + 1)=mT s i:=rfl
      have:=ih (by omega)
      omega
    obtain ⟨i,rfl⟩:∃ i,j=i + 1:=⟨j - 1,by omega⟩
    exact h0 i (by omega)
   unfold HS HR
   refine (aq (decide_eq_true (dW hj))).trans ?_
   refine (aq (decide_eq_true (aQ hj))).trans ?_
   refine (aK (uW (mT s j) 0 200)).trans ?_
   unfold oV
   by_cases c2:200 < mT s j
   ·have d:¬ mT s j<=200:=by omega
    have hm:lD s j=false:=by
     unfold lD; rw [decide_eq_true c2]; simp
    rw [decide_eq_false d,Bool.and_false,hm]; rfl
   have d2:mT s j<=200:=by omega
   rw [decide_eq_true d2,Bool.and_true]
   cases j with
   | zero =>
    by_cases c1:0<=mT s 0
    ·rw [decide_eq_true c1]
     refine (aR rfl).trans ?_
     have hz:¬ (0:Int) < ((0:Nat):Int):=by omega
     refine (aR (decide_eq_false hz)).trans ?_
     exact tail (by show ¬ mT s 0 ≤ -1; omega) c2 _ _ (fun _=>rfl) (fun _=>rfl)
    ·have hm:lD s 0=false:=by
      unfold lD
      have:mT s 0<=jI s 0:=by show mT s 0 ≤ -1; omega
      rw [decide_eq_true this]; rfl
     rw [decide_eq_false c1,hm]; rfl
   | succ j =>
    have hpv:jI s (j + 1)=mT s j:=rfl
    by_cases c1:0<=mT s (j + 1)
    ·rw [decide_eq_true c1]
     refine (aR rfl).trans ?_
     have hz:(0:Int) < ((j + 1:Nat):Int):=by omega
     refine (aq (decide_eq_true hz)).trans ?_
     have wp:=wo (n:=s.1.n) hn hj
     have e4:∀ {α:Type} (x y:α),(bif decide ((0:Int)<=W (((j + 1:Nat):Int) - 1)/\W (((j + 1:Nat):Int) - 1) < (s.1.n:Int)) then x else y)=x:=fun x y=>by rw [wp]; exact aq (decide_eq_true (aQ (Nat.lt_of_succ_lt hj)))
     refine (e4 _ _).trans ?_
     have e5:∀ {α:Type} (x y:α),(bif decide (mT s (j + 1)<=mT s (Int.toNat (W (((j + 1:Nat):Int) - 1)))) then x else y)=(bif decide (mT s (j + 1)<=mT s j) then x else y):=fun x y=>by rw [wp]; rfl
     refine (e5 _ _).trans ?_
     by_cases c4:mT s (j + 1)<=mT s j
     ·have hm:lD s (j + 1)=false:=by
       unfold lD
       rw [hpv,decide_eq_true c4]; rfl
      rw [hm]
      exact aq (decide_eq_true c4)
     ·refine (aR (decide_eq_false c4)).trans ?_
      exact tail (by rw [hpv]; exact c4) c2 _ _ (fun _=>rfl) (fun _=>rfl)
    ·have hm:lD s (j + 1)=false:=by
      unfold lD
      have:mT s (j + 1)<=jI s (j + 1):=by
       by_cases q:jI s (j + 1)<=mT s (j + 1)
       ·have:=acA q (by omega); omega
       ·omega
      rw [decide_eq_true this]; rfl
     rw [decide_eq_false c1,hm]; rfl
  ·unfold HS HR
   have:¬ ((s.1.n:Int) < (s.1.n:Int)):=by omega
   exact aR (decide_eq_false this)
 unfold Sj Q21 Io
 revert key
 cases (List.range s.1.n).all (lD s) with
 | false=>intro key; refine (congrArg (fun o=>aF o 0 _ (bS o _ _)) key).trans ?_; rfl
 | true =>
  intro key
  refine (bp key).trans ?_
  unfold UW
  refine (aK (uW _ _ _)).trans ?_
  cases oV (s.1.n:Int) 1 4 with
  | false=>rfl
  | true =>
   refine (aq rfl).trans ?_
   refine (aK (uW (pN s) _ _)).trans ?_
   cases oV (pN s) 0 50 with
   | false=>rfl
   | true =>
    refine (aq rfl).trans ?_
    refine (aK (uW (zn s) _ _)).trans ?_
    cases oV (zn s) 0 1000 with
    | false=>rfl
    | true =>
     refine (aq rfl).trans ?_
     refine (aK (uW (OC s) _ _)).trans ?_
     cases oV (OC s) 0 12 with
     | false=>rfl
     | true =>
      refine (aq rfl).trans ?_
      refine (aK (uW (Sa s) _ _)).trans ?_
      rfl
theorem aiR (hs:(cB s).Ok):Yx (no_index (s,()))=some (!(links (cB s)).isEmpty,()):=by
 obtain ⟨z,h1,h2,_⟩:=anh hs
 unfold Yx Q77
 refine (aK h1).trans ?_
 have hl:(links (cB s)).isEmpty=z.list.isEmpty:=by rw [<- h2]; simp
 rw [hl]
 show oQ (JD ((),((false,()),())) z.list) _ (oR (JD ((),((false,()),())) z.list) _ _)=_
 cases z.list with
 | nil=>rfl
 | cons a l=>rfl
end Go.Dm

/- The reference: what links must keep. -/
import Derived.Test.YtadkaccpacpklaaL15LP6
set_option linter.unusedVariables false
set_option linter.unusedSimpArgs false
namespace Go.Dm
set_option maxRecDepth 100000
open Go.Low
variable {s:tS.den}
theorem kH {o:cT} {t:Nat} (h:t < o.n):(aW o).getD t []=aV (o.g t).1:=by
 rw [List.getD_eq_getElem?_getD,tW h]; rfl
theorem gu {o:cT} {t:Nat} (h:t < o.n):(aW o).take (t + 1)=(aW o).take t ++ [aV (o.g t).1]:=by
 rw [List.take_add_one,tW h]; rfl
theorem wq {o:cT} {t:Nat} (h:t<=o.n):((aW o).take t).length=t:=by rw [List.length_take,dI]; omega
theorem getD_take {L:LL} {t j:Nat} (h:t < j):(L.take j).getD t []=L.getD t []:=by
 simp only [List.getD_eq_getElem?_getD]
 rw [List.getElem?_take_of_lt h]
theorem LM (r:List Int) (x:Int):eO (r ++ [x])=eO r + (bif decide (x = -1) then 1 else 0):=by
 unfold eO
 rw [List.count_append]
 congr 1
theorem Eu {r:Sl sR.den} {j:Nat} (h:j < r.n):(aV r).take (j + 1)=(aV r).take j ++ [(show Int from (r.g j).1)]:=by
 rw [List.take_add_one,gR,if_pos h]; rfl
theorem akj {o : cT} {t : Nat} (ht : t < o.n) (hk : (o.g t).1.n ≤ 3) {c0 : Nat} (hc : c0 ≤ 100) :
    yY (o, ((t : Int), ())) ((c0 : Int), ((0 : Int), ())) = .exit 2 (((c0 + eO (aV (o.g t).1) : Nat) : Int), ()) := by
  unfold yY
  have hb : ∀ j, eO ((aV (o.g t).1).take j) ≤ j := fun j => by
    unfold eO
    exact Nat.le_trans List.count_le_length (by rw [List.length_take]; omega)
  have e2 : (aV (o.g t).1).take (o.g t).1.n = aV (o.g t).1 := List.take_of_length_le (by rw [iN]; exact Nat.le_refl _)
  have key : aH (vv (o, ((t : Int), ()))) cz (((c0 + eO ((aV (o.g t).1).take 0) : Nat) : Int), ((0 : Int), ())) = .exit 2 (((c0 + eO ((aV (o.g t).1).take (o.g t).1.n) : Nat) : Int), ()) := by
   refine bQ (ps := eB) (o.g t).1.n cz (fun j => (((c0 + eO ((aV (o.g t).1).take j) : Nat) : Int), ((j : Int), ()))) (by unfold cz; omega) (fun j hj => ?_) ?_
   · unfold vv yX
     refine (aq (decide_eq_true (aQ ht))).trans ?_
     refine (aq (decide_eq_true (dW hj))).trans ?_
     refine (aq (decide_eq_true (aQ ht))).trans ?_
     refine (aq (decide_eq_true (aQ hj))).trans ?_
     have Gr := hb j
     have w1 : W ((j : Int) + 1) = ((j + 1 : Nat) : Int) := dR hj (by omega)
     have hs := LM ((aV (o.g t).1).take j) (show Int from ((o.g t).1.g j).1)
     rw [← Eu hj] at hs
     cases hd : decide ((show Int from ((o.g t).1.g j).1) = -1) with
     | true =>
       rw [hd, cond_true] at hs
       refine (aq hd).trans ?_
       have w2 : W (((c0 + eO ((aV (o.g t).1).take j) : Nat) : Int) + 1) = ((c0 + eO ((aV (o.g t).1).take (j + 1)) : Nat) : Int) := by rw [gQ ⟨by omega, by omega⟩, hs]; omega
       exact (congrArg (fun q : Int => (RQ.next (show (aa eB).den from (q, (W ((j : Int) + 1), ()))) : RQ eB oE)) w2).trans (congrArg (fun q : Int => (RQ.next (show (aa eB).den from (((c0 + eO ((aV (o.g t).1).take (j + 1)) : Nat) : Int), (q, ()))) : RQ eB oE)) w1)
     | false =>
       rw [hd, cond_false, Nat.add_zero] at hs
       refine (aR hd).trans ?_
       rw [hs]
       exact congrArg (fun q : Int => (RQ.next (show (aa eB).den from (((c0 + eO ((aV (o.g t).1).take j) : Nat) : Int), (q, ()))) : RQ eB oE)) w1
   · unfold vv yX
     refine (aq (decide_eq_true (aQ ht))).trans ?_
     have : ¬ (((o.g t).1.n : Int) < ((o.g t).1.n : Int)) := by omega
     exact aR (decide_eq_false this)
  rw [e2] at key
  exact key
theorem BO {o:cT} (hk:∀ t,t < o.n->(o.g t).1.n<=3):∀ j,j + 1<=o.n->eP ((aW o).take (j + 1))<=3 * j
 | 0,h=>by
  have:(aW o).take 1=[aV (o.g 0).1]:=by have:=gu (o:=o) (t:=0) (by omega); simpa using this
  show eP ((aW o).take 1)<=0
  rw [this]; exact Nat.le_refl _
 | j + 1,h=>by
  rw [gu (by omega),qZ (by rw [wq (by omega)]; omega)]
  have h1:=BO hk j (by omega)
  have h2:eO (aV (o.g (j + 1)).1)<=(aV (o.g (j + 1)).1).length:=List.count_le_length
  rw [iN] at h2
  have:=hk (j + 1) (by omega)
  omega
theorem ao9 {o:cT} (h1:0 < o.n) (hn:o.n<=4) (hk:∀ t,t < o.n->(o.g t).1.n<=3):M56 (no_index (o,()))=some (((eP (aW o):Nat):Int),()):=by
 obtain ⟨n,xU⟩:∃ n,o.n=n + 1:=⟨o.n - 1,by omega⟩
 have key:Uj (o,()) ((0:Int),((1:Int),())) = .exit 0 (((eP ((aW o).take (n + 1)):Nat):Int),()):=by
  unfold Uj
  have b0:eP ((aW o).take 1)=0:=Nat.le_zero.1 (BO hk 0 (by omega))
  have:=bQ (step:=JF (o,())) n cz (fun j=>(((eP ((aW o).take (j + 1)):Nat):Int),(((j + 1:Nat):Int),()))) (by unfold cz; omega) (fun j hj=>by
   unfold JF NN
   have hj1:j + 1 < o.n:=by omega
   refine (aq (decide_eq_true (dW hj1))).trans ?_
   have hle:=BO hk j (by omega)
   refine (bp (akj hj1 (hk _ hj1) (c0:=eP ((aW o).take (j + 1))) (by omega))).trans ?_
   have e:eP ((aW o).take (j + 1)) + eO (aV (o.g (j + 1)).1)=eP ((aW o).take (j + 1 + 1)):=by
    rw [gu hj1,qZ (by rw [wq (by omega)]; omega)]
   rw [e]
   exact congrArg (fun q:Int=>(RQ.next (show (aa nq).den from (((eP ((aW o).take (j + 1 + 1)):Nat):Int),(q,()))):RQ nq FT)) (dR hj1 (by omega))) (q:=.exit 0 (((eP ((aW o).take (n + 1)):Nat):Int),())) (by
   unfold JF NN
   have:¬ (((n + 1:Nat):Int) < (o.n:Int)):=by omega
   exact aR (decide_eq_false this))
  have e0:(((eP ((aW o).take (0 + 1)):Nat):Int),(((0 + 1:Nat):Int),()))=((0:Int),((1:Int),())):=by
   show (((eP ((aW o).take 1):Nat):Int),((1:Int),()))=_
   rw [b0]; rfl
  rw [<- e0]
  exact this
 unfold M56 Q56
 refine (bp key).trans ?_
 rw [List.take_of_length_le (by rw [dI]; omega)]
theorem akk {o:cT} {t:Nat} (ht:t + 1 < o.n) (hn:o.n<=4) (hk:∀ t,t < o.n->(o.g t).1.n<=3) {c0:Nat} (hc:c0<=100) :
  ze (o,(((t + 1:Nat):Int),())) ((c0:Int),((0:Int),())) = .exit 2 (((c0 + eY (o.g t).1.n (aV (o.g (t + 1)).1):Nat):Int),()):=by
 unfold ze
 have hm:∀ j r,eY j r<=j:=fun j r=>by
  unfold eY
  exact Nat.le_trans (List.length_filter_le _ _) (by simp)
 have Ml:=hk t (by omega)
 have hk1:=hk (t + 1) ht
 have wp:=wo (n:=o.n) (by omega) ht
 have e4:∀ {α:Type} (x y:α),(bif decide ((0:Int)<=W (((t + 1:Nat):Int) - 1)/\W (((t + 1:Nat):Int) - 1) < (o.n:Int)) then x else y)=x:=fun x y=>by rw [wp]; exact aq (decide_eq_true (aQ (Nat.lt_of_succ_lt ht)))
 have e5:∀ {α:Type} (j:Nat) (x y:α),(bif decide ((j:Int) < (((o.g (Int.toNat (W (((t + 1:Nat):Int) - 1)))).1.n:Nat):Int)) then x else y)=(bif decide ((j:Int) < (((o.g t).1.n:Nat):Int)) then x else y):=fun j x y=>by rw [wp]; rfl
 refine bQ (ps:=eC) (o.g t).1.n cz (fun j=>(((c0 + eY j (aV (o.g (t + 1)).1):Nat):Int),((j:Int),()))) (by unfold cz; omega) (fun j hj=>?_) ?_
 ·unfold zc zb
  refine (e4 _ _).trans ?_
  refine (e5 j _ _).trans ?_
  refine (aq (decide_eq_true (dW hj))).trans ?_
  refine (aq (decide_eq_true (aQ ht))).trans ?_
  refine (aK (acB (o.g (t + 1)).1 (by omega) (j:Int))).trans ?_
  have hmj:=hm j (aV (o.g (t + 1)).1)
  have hs:=Ck j (aV (o.g (t + 1)).1)
  have w1:W ((j:Int) + 1)=((j + 1:Nat):Int):=dR hj (by omega)
  cases hd:has (aV (o.g (t + 1)).1) (j:Int) with
  | true =>
   rw [hd,cond_true,Nat.add_zero] at hs
   rw [hs]
   exact congrArg (fun q:Int=>(RQ.next (show (aa eC).den from (((c0 + eY j (aV (o.g (t + 1)).1):Nat):Int),(q,()))):RQ eC oG)) w1
  | false =>
   rw [hd,cond_false] at hs
   have w2:W (((c0 + eY j (aV (o.g (t + 1)).1):Nat):Int) + 1)=((c0 + eY (j + 1) (aV (o.g (t + 1)).1):Nat):Int):=by rw [gQ ⟨by omega,by omega⟩,hs]; omega
   exact (congrArg (fun q:Int=>(RQ.next (show (aa eC).den from (q,(W ((j:Int) + 1),()))):RQ eC oG)) w2).trans (congrArg (fun q:Int=>(RQ.next (show (aa eC).den from (((c0 + eY (j + 1) (aV (o.g (t + 1)).1):Nat):Int),(q,()))):RQ eC oG)) w1)
 ·unfold zc zb
  refine (e4 _ _).trans ?_
  refine (e5 _ _ _).trans ?_
  have:¬ (((o.g t).1.n:Int) < ((o.g t).1.n:Int)):=by omega
  exact aR (decide_eq_false this)
theorem AG {o:cT} {j:Nat} (hj:j + 1 < o.n):fc ((aW o).take (j + 1 + 1))=fc ((aW o).take (j + 1)) + eY (o.g j).1.n (aV (o.g (j + 1)).1):=by
 rw [gu hj,Ci (by rw [wq (by omega)]; omega),wq (by omega),Nat.add_sub_cancel,getD_take (by omega),kH (by omega),iN]
theorem BP {o:cT} (hk:∀ t,t < o.n->(o.g t).1.n<=3):∀ j,j + 1<=o.n->fc ((aW o).take (j + 1))<=3 * j
 | 0,h=>by
  have:(aW o).take 1=[aV (o.g 0).1]:=by have:=gu (o:=o) (t:=0) (by omega); simpa using this
  show fc ((aW o).take 1)<=0
  rw [this]; exact Nat.le_refl _
 | j + 1,h=>by
  rw [AG (by omega)]
  have h1:=BP hk j (by omega)
  have h2:eY (o.g j).1.n (aV (o.g (j + 1)).1)<=(o.g j).1.n:=by
   unfold eY
   exact Nat.le_trans (List.length_filter_le _ _) (by simp)
  have:=hk j (by omega)
  omega
theorem apa {o:cT} (h1:0 < o.n) (hn:o.n<=4) (hk:∀ t,t < o.n->(o.g t).1.n<=3):M61 (no_index (o,()))=some (((fc (aW o):Nat):Int),()):=by
 obtain ⟨n,xU⟩:∃ n,o.n=n + 1:=⟨o.n - 1,by omega⟩
 have key:Ul (o,()) ((0:Int),((1:Int),())) = .exit 0 (((fc ((aW o).take (n + 1)):Nat):Int),()):=by
  unfold Ul
  have b0:fc ((aW o).take 1)=0:=Nat.le_zero.1 (BP hk 0 (by omega))
  have:=bQ (step:=JI (o,())) n cz (fun j=>(((fc ((aW o).take (j + 1)):Nat):Int),(((j + 1:Nat):Int),()))) (by unfold cz; omega) (fun j hj=>by
   unfold JI NU
   have hj1:j + 1 < o.n:=by omega
   refine (aq (decide_eq_true (dW hj1))).trans ?_
   have hle:=BP hk j (by omega)
   refine (bp (akk hj1 hn hk (c0:=fc ((aW o).take (j + 1))) (by omega))).trans ?_
   rw [<- AG hj1]
   exact congrArg (fun q:Int=>(RQ.next (show (aa nr).den from (((fc ((aW o).take (j + 1 + 1)):Nat):Int),(q,()))):RQ nr FU)) (dR hj1 (by omega))) (q:=.exit 0 (((fc ((aW o).take (n + 1)):Nat):Int),())) (by
   unfold JI NU
   have:¬ (((n + 1:Nat):Int) < (o.n:Int)):=by omega
   exact aR (decide_eq_false this))
  have e0:(((fc ((aW o).take (0 + 1)):Nat):Int),(((0 + 1:Nat):Int),()))=((0:Int),((1:Int),())):=by
   show (((fc ((aW o).take 1):Nat):Int),((1:Int),()))=_
   rw [b0]; rfl
  rw [<- e0]
  exact this
 unfold M61 Q61
 refine (bp key).trans ?_
 rw [List.take_of_length_le (by rw [dI]; omega)]
end Go.Dm

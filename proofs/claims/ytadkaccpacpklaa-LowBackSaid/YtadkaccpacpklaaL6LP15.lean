/- In how many links each fact is so. -/
import Derived.Test.YtadkaccpacpklaaL6LP14
set_option linter.unusedVariables false
set_option linter.unusedSimpArgs false
namespace Go.Dm
set_option maxRecDepth 100000
open Go.Low
variable {s:tS.den}
abbrev Fact:=Int×Int×Int×Int×Unit
abbrev afP:=Fact->Option Int
def vM (m:afP) (f:Fact):Int:=Option.getD (m f) 0
def aKh (m:afP) (f:Fact):afP:=ek (k:=Ca) (v:=tI) (nP Ca) m f (W ((Option.getD (m f) (0:Int)) + (1:Int)))
def Yv (m:afP) (l:List Fact):afP:=l.foldl aKh m
def cnt (f:Fact) (l:List Fact):Nat:=l.countP fun g=>decide (g=f)
theorem bah (x y:Fact):nP Ca x y=decide (x=y):=by
 rw [Bool.eq_iff_iff,decide_eq_true_eq]
 exact BY (τ:=Ca) rfl x y
theorem aPp {m:afP} {f:Fact} (h0:0<=vM m f) (h1:vM m f<=1000000000) (g:Fact):vM (aKh m f) g=vM m g + (if f=g then 1 else 0):=by
 have hw:W (vM m f + 1)=vM m f + 1:=gQ ⟨by omega,by omega⟩
 show Option.getD (bif nP Ca g f then some (W (vM m f + 1)) else m g) 0=_
 rw [bah,hw]
 by_cases e:g=f
 ·subst e
  rw [decide_eq_true rfl,if_pos rfl]; rfl
 ·rw [decide_eq_false e,if_neg (fun h=>e h.symm),Int.add_zero]; rfl
theorem aFu:∀ (l:List Fact) (m:afP),(∀ f,0<=vM m f/\vM m f + l.length<=1000000000)->∀ g,vM (Yv m l) g=vM m g + (cnt g l:Nat)
 | [],m,_,g=>by show vM m g=vM m g + ((0:Nat):Int); omega
 | f :: l,m,h,g=>by
  have hf:=h f
  rw [List.length_cons] at hf
  have h1:∀ g,vM (aKh m f) g=vM m g + (if f=g then 1 else 0):=aPp hf.1 (by omega)
  have:=aFu l (aKh m f) (fun g=>by
   have hg:=h g
   rw [List.length_cons] at hg
   rw [h1 g]
   by_cases e:f=g
   ·subst e; rw [if_pos rfl]; omega
   ·rw [if_neg e]; omega) g
  show vM (Yv (aKh m f) l) g=_
  rw [this,h1 g]
  unfold cnt
  rw [List.countP_cons]
  by_cases e:f=g
  ·subst e; simp; omega
  ·simp [e]
theorem atL (m:afP) (a b:List Fact):Yv m (a ++ b)=Yv (Yv m a) b:=List.foldl_append
def hit (N:Nat) (L:LL) (t i:Nat):List Fact:=
 (if t=0 then [] else if qR L t i < 0 then [((1:Int),(t:Int),(i:Int),(0:Int),())] else [((0:Int),(t:Int),(i:Int),qR L t i,())]) ++ (if t + 1 < N/\has (L.getD (t + 1) []) (i:Int)=false then [((2:Int),(t:Int),(i:Int),(0:Int),())] else [])
def facts (N:Nat) (k:Nat->Nat) (L:LL):List Fact:=(List.range N).flatMap fun t=>(List.range (k t)).flatMap (hit N L t)
theorem aTB {rows:cT} (hn:rows.n=s.1.n) (h4:s.1.n<=4) {t i:Nat} (ht:t + 1 < s.1.n) (hr:(rows.g (t + 1)).1.n<=1000) :
  ∃ v:Int,Ay (no_index ((vw s rows).1,((t:Int),((i:Int),()))))=some (v,())/\decide (v < 0) = !has ((aW rows).getD (t + 1) []) (i:Int):=by
 rw [kH (by omega)]
 have adO:=aat (rows.g (t + 1)).1 (by omega) (i:Int)
 have h97:=Wt (rows.g (t + 1)).1 (by omega) (i:Int)
 have hW:W ((t:Int) + 1)=((t + 1:Nat):Int):=dR (n:=s.1.n) (by omega) (by omega)
 unfold XA Q97 at h97
 have h97:=(aK adO).symm.trans h97
 refine ⟨(match fB (fun j=>decide ((i:Int)=((rows.g (t + 1)).1.g j).1)) (rows.g (t + 1)).1.n with | some k=>(k:Int) | none=>-1),?_,?_⟩
 ·have key:∀ w:Int,w=((t + 1:Nat):Int)->(bif decide (w=((s.1.n:Nat):Int)) then some ((-1:Int),()) else bif decide ((0:Int)<=w/\w < ((rows.n:Nat):Int)) then cl (Dx).dflt (Gq ((rows.g (Int.toNat w)).1,((i:Int),()))) (fun u0=>some u0) none else none)=some ((match fB (fun j=>decide ((i:Int)=((rows.g (t + 1)).1.g j).1)) (rows.g (t + 1)).1.n with | some k=>(k:Int) | none=>-1),()):=by
   intro w hw
   subst hw
   have c1:¬ (((t + 1:Nat):Int)=((s.1.n:Nat):Int)):=by omega
   refine (aR (decide_eq_false c1)).trans ?_
   refine (aq (decide_eq_true (aQ (by omega)))).trans ?_
   exact aK adO
  unfold Ay aa9
  exact key _ hW
 ·have h:decide ((0:Int)<=(match fB (fun j=>decide ((i:Int)=((rows.g (t + 1)).1.g j).1)) (rows.g (t + 1)).1.n with | some k=>(k:Int) | none=>-1))=has (aV (rows.g (t + 1)).1) (i:Int):=congrArg (fun o:Option (Bool×Unit)=>(o.getD (true,())).1) h97
  rw [<- h]
  generalize (match fB (fun j=>decide ((i:Int)=((rows.g (t + 1)).1.g j).1)) (rows.g (t + 1)).1.n with | some k=>(k:Int) | none=>-1)=v
  by_cases c:v < 0
  ·have c':¬ (0<=v):=by omega
   rw [decide_eq_true c,decide_eq_false c']; rfl
  ·have c':0<=v:=by omega
   rw [decide_eq_false c,decide_eq_true c']; rfl
def bai (j:Int) (m:afP):RQ ep mE:=.next (j,(((),()),(m,())))
theorem aTC (hs:(cB s).Ok) {rows:cT} (h:PC s rows) {t:Nat} (ht:t < s.1.n) (N:Int) (c:T0.den) (m:afP) :
    sV ((),((),((),((),((t:Int),(N,((t:Int),((rows.g t).1,((((rows.g t).1.n:Nat):Int),(s,(c,((vw s rows).1,())))))))))))) ((0:Int),(((),()),(m,()))) =
      .exit 4 (((),()),(Yv m ((List.range (s.1.g t).2.1.n).flatMap (hit s.1.n (aW rows) t)),())):=by
  have h4:=eF hs
  have hk:=dN hs ht
  have RI:=h.n
  have hkn:=h.k t ht
  unfold sV
  have:=bQ (step:=qY ((),((),((),((),((t:Int),(N,((t:Int),((rows.g t).1,((((rows.g t).1.n:Nat):Int),(s,(c,((vw s rows).1,()))))))))))))) (rows.g t).1.n cz
    (fun j=>((j:Int),(((),()),(Yv m ((List.range j).flatMap (hit s.1.n (aW rows) t)),())))) (by unfold cz; omega) (fun j hj=>by
      have e:Yv m ((List.range (j + 1)).flatMap (hit s.1.n (aW rows) t))=Yv (Yv m ((List.range j).flatMap (hit s.1.n (aW rows) t))) (hit s.1.n (aW rows) t j):=by
        rw [List.range_succ,List.flatMap_append,atL]; simp
      rw [e]
      generalize Yv m ((List.range j).flatMap (hit s.1.n (aW rows) t))=m'
      have w1:W ((j:Int) + 1)=((j + 1:Nat):Int):=dR hj (by omega)
      show _=bai ((j + 1:Nat):Int) _
      rw [<- w1]
      have hl:qR (aW rows) t j=(show Int from ((rows.g t).1.g j).1):=OO (by omega) hj
      have hW:W ((t:Int) + 1)=((t + 1:Nat):Int):=dR (n:=s.1.n) (by omega) (by omega)
      unfold qY sU
      refine (aq (decide_eq_true (dW hj))).trans ?_
      refine (aq (decide_eq_true (aQ hj))).trans ?_
      by_cases tn:t + 1 < s.1.n
      · have hd:decide (W ((t:Int) + 1) < ((s.1.n:Nat):Int))=true:=by rw [hW]; exact decide_eq_true (by omega)
        obtain ⟨v,hv,hv2⟩:=aTB (i:=j) RI h4 tn (by have:=h.k (t + 1) tn; have:=dN hs tn; omega)
        by_cases t0:t=0
        · have d0:decide ((t:Int)=(0:Int))=true:=decide_eq_true (by omega)
          refine (aq d0).trans ?_
          refine (aq hd).trans ?_
          refine (aK hv).trans ?_
          cases hh:has ((aW rows).getD (t + 1) []) (j:Int) with
          | true =>
            rw [hh] at hv2
            refine (aR hv2).trans ?_
            unfold hit
            rw [if_pos t0,if_neg (by rw [hh]; simp)]; rfl
          | false =>
            rw [hh] at hv2
            refine (aq hv2).trans ?_
            unfold hit
            rw [if_pos t0,if_pos ⟨tn,hh⟩]; rfl
        · have d0:decide ((t:Int)=(0:Int))=false:=decide_eq_false (by omega)
          refine (aR d0).trans ?_
          by_cases l0:(show Int from ((rows.g t).1.g j).1) < 0
          · refine (aq (decide_eq_true l0)).trans ?_
            refine (aq hd).trans ?_
            refine (aK hv).trans ?_
            cases hh:has ((aW rows).getD (t + 1) []) (j:Int) with
            | true =>
              rw [hh] at hv2
              refine (aR hv2).trans ?_
              unfold hit
              rw [if_neg t0,hl,if_pos l0,if_neg (by rw [hh]; simp)]; rfl
            | false =>
              rw [hh] at hv2
              refine (aq hv2).trans ?_
              unfold hit
              rw [if_neg t0,hl,if_pos l0,if_pos ⟨tn,hh⟩]; rfl
          · refine (aR (decide_eq_false l0)).trans ?_
            refine (aq hd).trans ?_
            refine (aK hv).trans ?_
            cases hh:has ((aW rows).getD (t + 1) []) (j:Int) with
            | true =>
              rw [hh] at hv2
              refine (aR hv2).trans ?_
              unfold hit
              rw [if_neg t0,hl,if_neg l0,if_neg (by rw [hh]; simp)]; rfl
            | false =>
              rw [hh] at hv2
              refine (aq hv2).trans ?_
              unfold hit
              rw [if_neg t0,hl,if_neg l0,if_pos ⟨tn,hh⟩]; rfl
      · have hd:decide (W ((t:Int) + 1) < ((s.1.n:Nat):Int))=false:=by rw [hW]; exact decide_eq_false (by omega)
        have hno:¬ (t + 1 < s.1.n/\has ((aW rows).getD (t + 1) []) (j:Int)=false):=fun h=>tn h.1
        by_cases t0:t=0
        · have d0:decide ((t:Int)=(0:Int))=true:=decide_eq_true (by omega)
          refine (aq d0).trans ?_
          refine (aR hd).trans ?_
          unfold hit
          rw [if_pos t0,if_neg hno]; rfl
        · have d0:decide ((t:Int)=(0:Int))=false:=decide_eq_false (by omega)
          refine (aR d0).trans ?_
          by_cases l0:(show Int from ((rows.g t).1.g j).1) < 0
          · refine (aq (decide_eq_true l0)).trans ?_
            refine (aR hd).trans ?_
            unfold hit
            rw [if_neg t0,hl,if_pos l0,if_neg hno]; rfl
          · refine (aR (decide_eq_false l0)).trans ?_
            refine (aR hd).trans ?_
            unfold hit
            rw [if_neg t0,hl,if_neg l0,if_neg hno]; rfl) (q:=.exit 4 (((),()),(Yv m ((List.range (rows.g t).1.n).flatMap (hit s.1.n (aW rows) t)),()))) (by
      unfold qY sU
      have:¬ ((((rows.g t).1.n:Nat):Int) < (((rows.g t).1.n:Nat):Int)):=by omega
      exact aR (decide_eq_false this))
  rw [hkn] at this
  rw [hkn]
  exact this
theorem aPq (hs:(cB s).Ok) {rows:cT} (h:PC s rows) (c:T0.den) (m:afP) :
  AP ((),((),((),((),(((s.1.n:Nat):Int),(s,(c,((vw s rows).1,())))))))) ((0:Int),(((),()),(m,()))) =
   .exit 2 (((),()),(Yv m (facts s.1.n (fun t=>(s.1.g t).2.1.n) (aW rows)),())):=by
 have h4:=eF hs
 have RI:=h.n
 unfold AP facts
 refine bQ (step:=zC ((),((),((),((),(((s.1.n:Nat):Int),(s,(c,((vw s rows).1,()))))))))) s.1.n cz
  (fun j=>((j:Int),(((),()),(Yv m ((List.range j).flatMap fun t=>(List.range (s.1.g t).2.1.n).flatMap (hit s.1.n (aW rows) t)),())))) (by unfold cz; omega) (fun j hj=>?_) ?_
 ·have e:Yv m ((List.range (j + 1)).flatMap fun t=>(List.range (s.1.g t).2.1.n).flatMap (hit s.1.n (aW rows) t))=Yv (Yv m ((List.range j).flatMap fun t=>(List.range (s.1.g t).2.1.n).flatMap (hit s.1.n (aW rows) t))) ((List.range (s.1.g j).2.1.n).flatMap (hit s.1.n (aW rows) j)):=by
   rw [List.range_succ,List.flatMap_append,atL]; simp
  rw [e]
  generalize Yv m ((List.range j).flatMap fun t=>(List.range (s.1.g t).2.1.n).flatMap (hit s.1.n (aW rows) t))=m'
  have w1:W ((j:Int) + 1)=((j + 1:Nat):Int):=dR hj (by omega)
  unfold zC AO
  refine (aq (decide_eq_true (dW hj))).trans ?_
  refine (aq (decide_eq_true (aQ (n:=rows.n) (by omega)))).trans ?_
  refine (bp (aTC hs h hj ((s.1.n:Nat):Int) c m')).trans ?_
  exact congrArg (fun q:Int=>(RQ.next (show (aa fF).den from (q,(((),()),(Yv m' ((List.range (s.1.g j).2.1.n).flatMap (hit s.1.n (aW rows) j)),())))):RQ fF sH)) w1
 ·unfold zC AO
  have:¬ (((s.1.n:Nat):Int) < ((s.1.n:Nat):Int)):=by omega
  exact aR (decide_eq_false this)
theorem Good.rows {it:fD.den} (h:Good s it):∃ rows:cT,it=vw s rows/\PC s rows/\toL it=aW rows:=⟨it.1.2.2.2.2.2.1,h.eq,⟨h.n,h.k⟩,rfl⟩
def nxA (c:Int) (m:afP):RO jL:=.next ((),((),((),(s,(((),()),((c,()),(m,())))))))
theorem aFv (hs:(cB s).Ok):∀ (l:List fD.den) (c:Nat) (m:afP),(∀ it∈l,Good s it)->c + l.length<=1000000000 ->
  PI ((),((),((),(s,(((),()),(((c:Int),()),(m,()))))))) l=nxA (s:=s) ((c + l.length:Nat):Int) (Yv m ((l.map toL).flatMap (facts s.1.n fun t=>(s.1.g t).2.1.n)))
 | [],c,m,_,_=>rfl
 | it :: l,c,m,hg,hc=>by
  obtain ⟨rows,rfl,hr,hL⟩:=(hg it (.head _)).rows
  rw [List.length_cons] at hc
  have w1:W ((c:Int) + 1)=((c + 1:Nat):Int):=by rw [gQ ⟨by omega,by omega⟩]; rfl
  have st:PG ((),((),((),(s,(((),()),(((c:Int),()),(m,()))))))) (vw s rows)=nxA (s:=s) ((c + 1:Nat):Int) (Yv m (facts s.1.n (fun t=>(s.1.g t).2.1.n) (aW rows))):=by
   unfold PG RU
   have hm:=aPq hs hr (W ((c:Int) + 1),()) m
   refine (bp hm).trans ?_
   exact congrArg (fun q:Int=>nxA (s:=s) q (Yv m (facts s.1.n (fun t=>(s.1.g t).2.1.n) (aW rows)))) w1
  have ih:=aFv hs l (c + 1) (Yv m (facts s.1.n (fun t=>(s.1.g t).2.1.n) (aW rows))) (fun x hx=>hg x (.tail _ hx)) (by omega)
  unfold PI at ih ⊢
  simp only [eW,st]
  refine ih.trans ?_
  rw [<- atL,List.map_cons,List.flatMap_cons,hL,List.length_cons]
  have:c + 1 + l.length=c + (l.length + 1):=by omega
  rw [this]
theorem abS (hs:(cB s).Ok):(links (cB s)).length<=262144:=by
 have xU:0 < s.1.n:=hs.n1
 have h4:=eF hs
 have h:=(Yo hs (s.1.n - 1) (by omega)).2
 have e:GS (cB s) (s.1.n - 1) [[first (cB s)]]=links (cB s):=by
  rw [Ym]; simp only [List.flatMap_cons,List.flatMap_nil,List.append_nil]; rfl
 rw [e] at h
 have:64 ^ (s.1.n - 1)<=64 ^ 3:=Nat.pow_le_pow_right (by omega) (by omega)
 omega
theorem aPr {N:Nat} {L:LL} {t i:Nat}:(hit N L t i).length<=2:=by
 unfold hit
 rw [List.length_append]
 split <;> split <;> (try split) <;> simp
theorem aGC (hs:(cB s).Ok) {L:LL}:(facts s.1.n (fun t=>(s.1.g t).2.1.n) L).length<=24:=by
 unfold facts
 have h:=uU (l:=List.range s.1.n) (f:=fun t=>(List.range (s.1.g t).2.1.n).flatMap (hit s.1.n L t)) (k:=6) fun t ht=>by
  have h2:=uU (l:=List.range (s.1.g t).2.1.n) (f:=hit s.1.n L t) (k:=2) fun _ _=>aPr
  rw [List.length_range] at h2
  have:=dN hs (List.mem_range.1 ht)
  omega
 rw [List.length_range] at h
 have:=eF hs
 exact Nat.le_trans h (by omega)
theorem aQv (hs:(cB s).Ok):∃ m:afP,M65 (no_index (s,()))=some (m,(((links (cB s)).length:Nat):Int),())/\∀ f,vM m f=((cnt f ((links (cB s)).flatMap (facts s.1.n fun t=>(s.1.g t).2.1.n)):Nat):Int):=by
 obtain ⟨z,h1,h2,h3⟩:=anh hs
 have hlen:z.list.length=(links (cB s)).length:=by rw [<- h2,List.length_map]
 have hsm:=abS hs
 have hL:=aFv hs z.list 0 (fun _=>none) h3 (by omega)
 rw [h2,Nat.zero_add,hlen] at hL
 refine ⟨Yv (fun _=>none) ((links (cB s)).flatMap (facts s.1.n fun t=>(s.1.g t).2.1.n)),?_,fun f=>?_⟩
 ·unfold M65 Q65
  refine (aK h1).trans ?_
  refine (congrArg (fun o=>oQ o _ (oR o _ _)) hL).trans ?_
  rfl
 ·have h:=aFu ((links (cB s)).flatMap (facts s.1.n fun t=>(s.1.g t).2.1.n)) (fun _=>none) (fun g=>by
   have hl:=uU (l:=links (cB s)) (f:=facts s.1.n fun t=>(s.1.g t).2.1.n) (k:=24) fun L _=>aGC hs
   have:vM (fun _=>none) g=0:=rfl
   rw [this]
   omega) f
  have h0:vM (fun _=>none) f=0:=rfl
  rw [h,h0,Int.zero_add]
theorem aoR {g:Nat->List Fact} {f:Fact} {j0:Nat}:∀ {n:Nat},j0 < n->(∀ j,j < n->j≠j0->cnt f (g j)=0)->cnt f ((List.range n).flatMap g)=cnt f (g j0)
 | n + 1,h0,h=>by
  unfold cnt at h ⊢
  rw [List.range_succ,List.flatMap_append,List.countP_append,List.flatMap_cons,List.flatMap_nil,List.append_nil]
  by_cases e:j0=n
  ·subst e
   have:List.countP (fun g=>decide (g=f)) ((List.range j0).flatMap g)=0:=by
    rw [List.countP_eq_zero]
    intro x hx
    obtain ⟨j,hj,hx⟩:=List.mem_flatMap.1 hx
    have hj:=List.mem_range.1 hj
    exact List.countP_eq_zero.1 (h j (by omega) (by omega)) x hx
   omega
  ·have:=aoR (g:=g) (f:=f) (j0:=j0) (n:=n) (by omega) fun j hj hne=>h j (by omega) hne
   unfold cnt at this
   rw [this,h n (by omega) (fun e'=>e e'.symm),Nat.add_zero]
theorem aFw {N:Nat} {L:LL} {t i:Nat} {f:Fact} (h:f∈hit N L t i):f.2.1=(t:Int)/\f.2.2.1=(i:Int):=by
 unfold hit at h
 rw [List.mem_append] at h
 rcases h with h | h
 ·split at h
  ·cases h
  ·split at h <;> (rw [List.mem_singleton] at h; subst h; exact ⟨rfl,rfl⟩)
 ·split at h
  ·rw [List.mem_singleton] at h; subst h; exact ⟨rfl,rfl⟩
  ·cases h
theorem aoS {N:Nat} {k:Nat->Nat} {L:LL} {t i:Nat} (ht:t < N) (hi:i < k t) (a b:Int):cnt (a,((t:Int),((i:Int),(b,())))) (facts N k L)=cnt (a,((t:Int),((i:Int),(b,())))) (hit N L t i):=by
 unfold facts
 rw [aoR ht fun t' _ hne=>?_,aoR hi fun i' _ hne=>?_]
 ·refine List.countP_eq_zero.2 fun f hf=>?_
  have:=aFw hf
  rw [decide_eq_true_eq]
  rintro rfl
  exact hne (by have:=this.2; dsimp only at this; omega)
 ·refine List.countP_eq_zero.2 fun f hf=>?_
  obtain ⟨i',_,hf⟩:=List.mem_flatMap.1 hf
  have:=aFw hf
  rw [decide_eq_true_eq]
  rintro rfl
  exact hne (by have:=this.1; dsimp only at this; omega)
theorem an2 {α:Type} {g:α->List Fact} {f:Fact} {q:α->Bool}:∀ {l:List α},(∀ x∈l,cnt f (g x)=bif q x then 1 else 0)->cnt f (l.flatMap g)=l.countP q
 | [],_=>rfl
 | a :: l,h=>by
  have ih:=an2 (g:=g) (f:=f) (q:=q) (l:=l) fun x hx=>h x (.tail _ hx)
  have h1:=h a (.head _)
  unfold cnt at h1 ih ⊢
  rw [List.flatMap_cons,List.countP_append,h1,ih,List.countP_cons]
  cases q a <;> simp
  omega
variable {L:LL} {N t i:Nat}
theorem aKi (ht:0 < t) {b:Int} (hb:0<=b):cnt ((0:Int),((t:Int),((i:Int),(b,())))) (hit N L t i)=bif decide (qR L t i=b) then 1 else 0:=by
 unfold cnt hit
 rw [if_neg (by omega)]
 by_cases h:qR L t i < 0
 ·rw [if_pos h,decide_eq_false (show ¬ (qR L t i=b) by omega)]
  split <;> simp
 ·rw [if_neg h]
  by_cases e:qR L t i=b
  ·rw [decide_eq_true e]
   split <;> simp [e]
  ·rw [decide_eq_false e]
   split <;> simp [e]
theorem aKj (ht:0 < t) (hl:qR L t i = -1\/0<=qR L t i):cnt ((1:Int),((t:Int),((i:Int),((0:Int),())))) (hit N L t i)=bif decide (qR L t i = -1) then 1 else 0:=by
 unfold cnt hit
 rw [if_neg (by omega)]
 by_cases h:qR L t i < 0
 ·rw [if_pos h,decide_eq_true (show qR L t i = -1 by omega)]
  split <;> simp
 ·rw [if_neg h,decide_eq_false (show ¬ (qR L t i = -1) by omega)]
  split <;> simp
theorem aPs (ht:t + 1 < N):cnt ((2:Int),((t:Int),((i:Int),((0:Int),())))) (hit N L t i)=bif !has (L.getD (t + 1) []) (i:Int) then 1 else 0:=by
 unfold cnt hit
 cases hh:has (L.getD (t + 1) []) (i:Int) with
 | true=>by_cases t0:t=0 <;> by_cases l0:qR L t i < 0 <;> simp [t0,l0]
 | false =>
  rw [if_pos (show t + 1 < N/\false=false from ⟨ht,rfl⟩)]
  by_cases t0:t=0 <;> by_cases l0:qR L t i < 0 <;> simp [t0,l0]
end Go.Dm

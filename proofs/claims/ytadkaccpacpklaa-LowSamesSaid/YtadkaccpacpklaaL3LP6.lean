/- The reference: choices of links. -/
import Derived.Test.YtadkaccpacpklaaL3LP5
set_option linter.unusedVariables false
set_option linter.unusedSimpArgs false
namespace Go.Dm
set_option maxRecDepth 100000
open Go.Low
theorem acB (r:Sl sR.den) (hr:r.n<=140737488355328) (x:Int):M73 (no_index (r,(x,())))=some (has (aV r) x,()):=by
 unfold M73 Q73
 have key:NR (r,(x,())) ((0:Int),())=match fB (fun j=>decide ((show Int from (r.g j).1)=x)) r.n with | some k=>LQ.ret (wy:=sg) (show (aa sg.ret).den from (true,())) | none=>.exit 0 ():=by
  unfold NR
  refine kG (ps:=mc) (n:=r.n) (f:=fun j=>((j:Int),())) (qr:=fun k=>LQ.ret (wy:=sg) (show (aa sg.ret).den from (true,()))) (Mk hr) (fun j hj _=>?_) (fun _=>?_)
  ·unfold NQ NP
   refine (aq (decide_eq_true (dW hj))).trans ?_
   refine (aq (decide_eq_true (aQ hj))).trans ?_
   cases hd:decide ((show Int from (r.g j).1)=x) with
   | true=>exact aq hd
   | false =>
    refine (aR hd).trans ?_
    exact congrArg (fun q:Int=>(RQ.next (show (aa mc).den from (q,())):RQ mc sg)) (dR hj hr)
  ·unfold NQ NP
   have:¬ ((r.n:Int) < (r.n:Int)):=by omega
   exact aR (decide_eq_false this)
 have hh:has (aV r) x=(fB (fun j=>decide ((show Int from (r.g j).1)=x)) r.n).isSome:=by
  rw [Bool.eq_iff_iff,zN]
  cases h:fB (fun j=>decide ((show Int from (r.g j).1)=x)) r.n with
  | some k =>
   obtain ⟨h1,h2,_⟩:=kD h
   have h2:=of_decide_eq_true h2
   exact ⟨fun _=>rfl,fun _=>⟨k,by rw [gR,if_pos h1]; exact congrArg some h2⟩⟩
  | none =>
   have hn:=jg h
   refine ⟨fun ⟨i,hi⟩=>?_,fun h=>by cases h⟩
   rw [gR] at hi
   split at hi
   ·rename_i hlt
    have:=hn i hlt
    rw [decide_eq_false_iff_not] at this
    exact absurd (Option.some.inj hi) this
   ·cases hi
 rw [hh]
 revert key
 cases fB (fun j=>decide ((show Int from (r.g j).1)=x)) r.n with
 | some k=>intro key; refine (congrArg (fun o=>aF o 0 _ (bS o _ _)) key).trans ?_; rfl
 | none=>intro key; refine (congrArg (fun o=>aF o 0 _ (bS o _ _)) key).trans ?_; rfl
theorem Et (r:Sl sR.den) (x:Int):aV (snoc r (x,()))=aV r ++ [x]:=by
 unfold aV
 rw [IP,List.range_succ,List.map_append]
 congr 1
 ·exact List.map_congr_left fun i hi=>by rw [Ik (List.mem_range.1 hi)]
 ·simp only [List.map_cons,List.map_nil]
  rw [Il]
theorem FY (o:cT) (y:Sl sR.den):aW (snoc o (y,()))=aW o ++ [aV y]:=by
 unfold aW
 rw [IP,List.range_succ,List.map_append]
 congr 1
 ·exact List.map_congr_left fun i hi=>by rw [Ik (List.mem_range.1 hi)]
 ·simp only [List.map_cons,List.map_nil]
  rw [Il]
theorem dI (o:cT):(aW o).length=o.n:=by simp [aW]
theorem tW {o:cT} {i:Nat} (h:i < o.n):(aW o)[i]? = some (aV (o.g i).1):=by
 unfold aW
 rw [List.getElem?_map,List.getElem?_range h]; rfl
theorem JR (before:Nat):∀ (m:Nat) (out:LL),Ij before (m + 1) out=(Ij before m out).flatMap (me before)
 | 0,out=>rfl
 | m + 1,out=>by rw [Ij,JR before m]; rfl
theorem JT {before:Nat} {r:List Int}:(me before r).length<=before + 1:=by
 unfold me
 rw [List.length_cons]
 have:∀ l:List Nat,(l.flatMap fun b:Nat=>if has r (b:Int) then [] else [r ++ [(b:Int)]]).length<=l.length:=by
  intro l
  induction l with
  | nil=>exact Nat.le_refl _
  | cons a l ih =>
   rw [List.flatMap_cons,List.length_append,List.length_cons]
   split
   ·rw [List.length_nil]; omega
   ·rw [List.length_singleton]; omega
 have:=this (List.range before)
 rw [List.length_range] at this
 omega
theorem uU {α β:Type} {l:List α} {f:α->List β} {k:Nat} (h:∀ a∈l,(f a).length<=k):(l.flatMap f).length<=k * l.length:=by
 induction l with
 | nil=>simp
 | cons a l ih =>
  rw [List.flatMap_cons,List.length_append,List.length_cons,Nat.mul_succ]
  have:=h a (.head _)
  have:=ih fun b hb=>h b (.tail _ hb)
  omega
theorem Ip {before:Nat} (hb:before<=3):∀ m,(Ij before m [[]]).length<=4 ^ m
 | 0=>by simp [Ij]
 | m + 1=>by
  rw [JR]
  have h1:=uU (l:=Ij before m [[]]) (f:=me before) (k:=4) fun a _=>Nat.le_trans JT (by omega)
  have h2:=Ip hb m
  rw [Nat.pow_succ]
  omega
theorem ahb {before m:Nat} {x:List Int} (h:x∈Ij before m [[]]):x.length=m:=by
 rw [ME] at h
 simp only [List.flatMap_cons,List.flatMap_nil,List.append_nil] at h
 have:=(vP h).2
 simpa using this
theorem asQ {k before low:Int} {out:cT} {i b:Nat} (hi:i < out.n) (hb:before=(b:Int)) (hb3:b<=3) (hrow:(out.g i).1.n<=1000) (WN:cT) (hn0:WN.n<=1000000) :
    ∃ nx:cT,xC (k,(before,(out,(low,((i:Int),()))))) (WN,((-1:Int),())) = .exit 4 (nx,())/\aW nx=aW WN ++ me b (aV (out.g i).1):=by
  subst hb
  unfold xC
  have e:Int.toNat (i:Int)=i:=rfl
  have h8:(out.g i).1.n * 8<=140737488355328:=by omega
  have h9:((out.g i).1.n + 1) * 8<=140737488355328:=by omega
  obtain ⟨v,⟨nx,hv,h1⟩,h2⟩:=jq (step:=oO (k,((b:Int),(out,(low,((i:Int),())))))) (N:=cz)
    (P:=fun j v=>∃ nx:cT,v=(nx,((j:Int) - 1,()))/\aW nx=aW WN ++ match j with | 0=>[] | j + 1=>me j (aV (out.g i).1))
    (q:=fun v=>.exit 4 (v.1,())) (b + 1) (by unfold cz; omega) (fun j v hj hp=>by
      obtain ⟨nx,rfl,h1⟩:=hp
      have hlen:nx.n<=WN.n + 4:=by
        have:=congrArg List.length h1
        rw [List.length_append,dI,dI] at this
        cases j with
        | zero=>simp at this; omega
        | succ j =>
          have h3:=JT (before:=j) (r:=aV (out.g i).1)
          simp only at this
          omega
      have h24:(nx.n + 1) * 24<=140737488355328:=by omega
      have hlt:(j:Int) - 1 < (b:Int):=by omega
      have w1:W ((j:Int) - 1 + 1)=((j + 1:Nat):Int) - 1:=by rw [gQ ⟨by omega,by omega⟩]; omega
      cases j with
      | zero =>
        have hneg:((0:Nat):Int) - 1 < 0:=by omega
        refine ⟨(snoc nx (snoc (out.g i).1 (((0:Nat):Int) - 1,()),()),(((0 + 1:Nat):Int) - 1,())),?_,_,rfl,?_⟩
        · unfold oO qI
          refine (aq (decide_eq_true hlt)).trans ?_
          refine (aq (decide_eq_true hneg)).trans ?_
          refine (aq (decide_eq_true (aQ hi))).trans ?_
          refine (aq (decide_eq_true h8)).trans ?_
          refine (aq (decide_eq_true h9)).trans ?_
          refine (aq (decide_eq_true h24)).trans ?_
          exact congrArg (fun q:Int=>(RQ.next (show (aa eU).den from (snoc nx (snoc (out.g i).1 (((0:Nat):Int) - 1,()),()),(q,()))):RQ eU oI)) w1
        · rw [FY,Et,h1,List.append_nil]
          rfl
      | succ j =>
        have hneg:¬ (((j + 1:Nat):Int) - 1 < 0):=by omega
        have ej:((j + 1:Nat):Int) - 1=(j:Int):=by omega
        have hM:=acB (out.g i).1 (by omega) (((j + 1:Nat):Int) - 1)
        have hst:me (j + 1) (aV (out.g i).1)=me j (aV (out.g i).1) ++ if has (aV (out.g i).1) (j:Int) then [] else [aV (out.g i).1 ++ [(j:Int)]]:=by
          simp only [me,List.range_succ,List.flatMap_append,List.flatMap_cons,List.flatMap_nil,List.append_nil,List.cons_append]
        cases hh:has (aV (out.g i).1) (((j + 1:Nat):Int) - 1) with
        | true =>
          refine ⟨(nx,(((j + 1 + 1:Nat):Int) - 1,())),?_,nx,rfl,?_⟩
          · unfold oO qI
            refine (aq (decide_eq_true hlt)).trans ?_
            refine (aR (decide_eq_false hneg)).trans ?_
            refine (aq (decide_eq_true (aQ hi))).trans ?_
            refine (aK hM).trans ?_
            rw [hh]
            exact congrArg (fun q:Int=>(RQ.next (show (aa eU).den from (nx,(q,()))):RQ eU oI)) w1
          · rw [ej] at hh
            rw [h1]
            show _=_ ++ me (j + 1) _
            rw [hst,hh,if_pos rfl,List.append_nil]
        | false =>
          refine ⟨(snoc nx (snoc (out.g i).1 (((j + 1:Nat):Int) - 1,()),()),(((j + 1 + 1:Nat):Int) - 1,())),?_,_,rfl,?_⟩
          · unfold oO qI
            refine (aq (decide_eq_true hlt)).trans ?_
            refine (aR (decide_eq_false hneg)).trans ?_
            refine (aq (decide_eq_true (aQ hi))).trans ?_
            refine (aK hM).trans ?_
            rw [hh]
            refine (aq (decide_eq_true (aQ hi))).trans ?_
            refine (aq (decide_eq_true h8)).trans ?_
            refine (aq (decide_eq_true h9)).trans ?_
            refine (aq (decide_eq_true h24)).trans ?_
            exact congrArg (fun q:Int=>(RQ.next (show (aa eU).den from (snoc nx (snoc (out.g i).1 (((j + 1:Nat):Int) - 1,()),()),(q,()))):RQ eU oI)) w1
          · rw [ej] at hh
            rw [FY,Et,h1,ej]
            show _=_ ++ me (j + 1) _
            rw [hst,hh,if_neg (by simp),List.append_assoc]) (fun v hp=>by
      obtain ⟨nx,rfl,h1⟩:=hp
      unfold oO qI
      have:¬ (((b + 1:Nat):Int) - 1 < (b:Int)):=by omega
      exact aR (decide_eq_false this)) (WN,((-1:Int),())) ⟨WN,rfl,by rw [List.append_nil]⟩
  exact ⟨nx,h2.trans (by rw [hv]),h1⟩
theorem ani {k before low:Int} {out:cT} {b m:Nat} (hb:before=(b:Int)) (hb3:b<=3) (hout:out.n<=100000) (hrow:∀ i,i < out.n->(out.g i).1.n<=1000) :
    ∃ nx:cT,HZ (k,(before,(out,(low,())))) ((⟨0,fun i=>((⟨0,fun i=>((0:Int),())⟩:Sl _),())⟩:Sl _),((0:Int),())) = .exit 2 (nx,())/\aW nx=(aW out).flatMap (me b):=by
  unfold HZ
  obtain ⟨v,⟨nx,hv,h1⟩,h2⟩:=jq (step:=Ce (k,(before,(out,(low,()))))) (N:=cz)
    (P:=fun j v=>∃ nx:cT,v=(nx,((j:Int),()))/\aW nx=((aW out).take j).flatMap (me b))
    (q:=fun v=>.exit 2 (v.1,())) out.n (by unfold cz; omega) (fun j v hj hp=>by
      obtain ⟨nx,rfl,h1⟩:=hp
      have hlen:nx.n<=1000000:=by
        have:=congrArg List.length h1
        rw [dI] at this
        have h3:=uU (l:=(aW out).take j) (f:=me b) (k:=4) fun a _=>Nat.le_trans JT (by omega)
        rw [List.length_take,dI] at h3
        omega
      obtain ⟨nx',g1,g2⟩:=asQ (k:=k) (low:=low) hj hb hb3 (hrow j hj) nx hlen
      refine ⟨(nx',(((j + 1:Nat):Int),())),?_,nx',rfl,?_⟩
      · unfold Ce HY
        refine (aq (decide_eq_true (dW hj))).trans ?_
        refine (bp g1).trans ?_
        exact congrArg (fun q:Int=>(RQ.next (show (aa lF).den from (nx',(q,()))):RQ lF BL)) (dR hj (by omega))
      · rw [g2,h1,List.take_add_one,tW hj,List.flatMap_append]
        simp) (fun v hp=>by
      obtain ⟨nx,rfl,h1⟩:=hp
      unfold Ce HY
      have:¬ ((out.n:Int) < (out.n:Int)):=by omega
      exact aR (decide_eq_false this)) ((⟨0,fun i=>((⟨0,fun i=>((0:Int),())⟩:Sl _),())⟩:Sl _),((0:Int),())) ⟨_,rfl,rfl⟩
  exact ⟨nx,h2.trans (by rw [hv]),by rw [h1,List.take_of_length_le (by rw [dI]; exact Nat.le_refl _)]⟩
theorem ao8 {k b:Nat} (hk:k<=3) (hb:b<=3):∃ rows:cT,M70 (no_index ((k:Int),((b:Int),())))=some (rows,())/\aW rows=gV b k []/\rows.n<=64:=by
  have key:∃ rows:cT,abM ((k:Int),((b:Int),())) ((⟨1,fun i=>List.getD [((⟨0,fun i=>((0:Int),())⟩:Sl _),())] i ((⟨0,fun i=>((0:Int),())⟩:Sl _),())⟩:Sl _),((0:Int),())) = .exit 0 (rows,())/\aW rows=Ij b k [[]]:=by
    unfold abM
    obtain ⟨v,⟨nx,hv,h1⟩,h2⟩:=jq (step:=RX ((k:Int),((b:Int),()))) (N:=cz)
      (P:=fun j v=>∃ nx:cT,v=(nx,((j:Int),()))/\aW nx=Ij b j [[]])
      (q:=fun v=>.exit 0 (v.1,())) k (by unfold cz; omega) (fun j v hj hp=>by
        obtain ⟨nx,rfl,h1⟩:=hp
        have hlen:nx.n<=100000:=by
          have:=congrArg List.length h1
          rw [dI] at this
          have h3:=Ip hb j
          have h4:4 ^ j<=4 ^ 3:=Nat.pow_le_pow_right (by omega) (by omega)
          omega
        have hrow:∀ i,i < nx.n->(nx.g i).1.n<=1000:=fun i hi=>by
          have h3:=List.mem_of_getElem? (tW hi)
          rw [h1] at h3
          have h4:=ahb h3
          rw [iN] at h4
          omega
        obtain ⟨nx',g1,g2⟩:=ani (m:=0) (k:=(k:Int)) (low:=(j:Int)) (before:=(b:Int)) rfl hb hlen hrow
        refine ⟨(nx',(((j + 1:Nat):Int),())),?_,nx',rfl,?_⟩
        · unfold RX Wk
          refine (aq (decide_eq_true (dW hj))).trans ?_
          refine (bp g1).trans ?_
          exact congrArg (fun q:Int=>(RQ.next (show (aa tU).den from (nx',(q,()))):RQ tU NV)) (dR hj (by omega))
        · rw [g2,h1,JR]) (fun v hp=>by
        obtain ⟨nx,rfl,h1⟩:=hp
        unfold RX Wk
        have:¬ ((k:Int) < (k:Int)):=by omega
        exact aR (decide_eq_false this)) ((⟨1,fun i=>List.getD [((⟨0,fun i=>((0:Int),())⟩:Sl _),())] i ((⟨0,fun i=>((0:Int),())⟩:Sl _),())⟩:Sl _),((0:Int),())) ⟨_,rfl,rfl⟩
    exact ⟨nx,h2.trans (by rw [hv]),h1⟩
  obtain ⟨rows,h1,h2⟩:=key
  refine ⟨rows,?_,by rw [h2,ME]; simp,?_⟩
  · unfold M70 Q70
    exact bp h1
  · have:=congrArg List.length h2
    rw [dI] at this
    have h3:=Ip hb k
    have h4:4 ^ k<=4 ^ 3:=Nat.pow_le_pow_right (by omega) (by omega)
    omega
end Go.Dm

/- The search, and what it hands on. -/
import Derived.Test.YtadkaccpacpklaaL10LP1
set_option linter.unusedVariables false
set_option linter.unusedSimpArgs false
namespace Go.Dm
set_option maxRecDepth 100000
open Go.Low
abbrev kA:=Sl (Sl sR.den)
abbrev sq:=Sl (Sl Py.den)
abbrev cT:=Sl (Ty.den (.cons (.sl sR) .nil))
def mkX (z:Sl fD.den) (t i born gone:Int) (s:tS.den) (same:kA) (can:sq):(aa bq).den:=
 (z,(t,(i,(born,(gone,(s,((),((),((),((),(dx s,(((),()),((s,()),(((),()),(same,(can,()))))))))))))))))
def aav (z:Sl fD.den) (s:tS.den) (same:kA) (can:sq):Ty.den (.cons (.sl fD) (aa (aj bq))):=
 (z,(dx s,(((),()),((s,()),(((),()),(same,(can,())))))))
def vw (s:tS.den) (rows:cT):fD.den:=((s.1,(s.2.1,(s.2.2.1,(s.2.2.2.1,(s.2.2.2.2.1,(rows,())))))),())
def aW (rows:cT):LL:=(List.range rows.n).map fun t=>aV (rows.g t).1
def toL (it:fD.den):LL:=aW it.1.2.2.2.2.2.1
structure Good (s:tS.den) (it:fD.den):Prop where
 eq:it=vw s it.1.2.2.2.2.2.1
 n:it.1.2.2.2.2.2.1.n=s.1.n
 k:∀ t,t < s.1.n->(it.1.2.2.2.2.2.1.g t).1.n=(s.1.g t).2.1.n
structure Shape (s:tS.den) (L:LL) (r:List Int):Prop where
 pos:0 < L.length
 le:L.length<=s.1.n
 len:∀ t,t < L.length->(L.getD t []).length=(s.1.g t).2.1.n
 val:∀ (t i:Nat) x,t + 1 < L.length->(L.getD (t + 1) [])[i]? = some x->x = -1\/(0<=x/\x.toNat < (s.1.g t).2.1.n)
 asN:L.length < s.1.n->r.length<=(s.1.g L.length).2.1.n
 r0:L.length=s.1.n->r=[]
 rval:∀ (i:Nat) x,r[i]? = some x->x = -1\/(0<=x/\x.toNat < (s.1.g (L.length - 1)).2.1.n)
structure Inv (s:tS.den) (L:LL) (r:List Int) (same:kA) (can:sq):Prop where
 sn:same.n=s.1.n
 cn:can.n=s.1.n
 sk:∀ t,t < s.1.n->(same.g t).n=(s.1.g t).2.1.n
 ck:∀ t,t < s.1.n->(can.g t).n=(s.1.g t).2.1.n
 sL:∀ t,t < L.length->∀ i,i < (s.1.g t).2.1.n->(show Int from ((same.g t).g i).1)=qR L t i
 sr:∀ i,i < r.length->(show Int from ((same.g L.length).g i).1)=r.getD i (-1)
 cL:∀ t,t < L.length->∀ i,i < (s.1.g t).2.1.n->(can.g t).g i=Low.can (cB s) L t i
 cr:∀ i,i < r.length->(can.g L.length).g i=Low.can (cB s) (L ++ [r]) L.length i
variable {s:tS.den} {L:LL} {r:List Int} {same:kA} {can:sq}
theorem qQ {p:PS} {t i:Nat} (ht:L.length=t + 1):Low.can p (L ++ [r]) L.length i=if 0<=r.getD i (-1) then inter (p.box (t + 1) i) (wide p (Low.can p L t (r.getD i (-1)).toNat) (p.tm (t + 1) - p.tm t)) else p.box (t + 1) i:=by
 have h:=qN (L:=L) (r:=r) (i:=i)
 rw [ht] at h ⊢
 simp only [Low.can,h]
 rw [zi (by omega)]
theorem lE (hs:(cB s).Ok) {t i:Nat} (ht:t < s.1.n) (hi':i < (s.1.g t).2.1.n):vL ((s.1.g t).2.1.g i):=fun a ha=>by
 have h:0<=lo ((s.1.g t).2.1.g i) a/\lo ((s.1.g t).2.1.g i) a<=hi ((s.1.g t).2.1.g i) a/\hi ((s.1.g t).2.1.g i) a<=99999:=hs.box t i ht hi' a ha
 omega
theorem Oa (hs:(cB s).Ok) {b c:B6} (hb:vL b) (hc:vL c) {h:Int} (h0:0<=h):vL (inter b (wide (cB s) c h)):=fun a ha=>by
 have q1:=hb a ha
 have q2:=hc a ha
 have:=Int.mul_nonneg (hs.dV a) h0
 rw [uR,uS,AX,AY]
 omega
theorem JN (hs:(cB s).Ok) (hh:Shape s L r):∀ t i,t < L.length->i < (s.1.g t).2.1.n->vL (Low.can (cB s) L t i)
 | 0,i,ht,hi'=>lE hs (by have:=hh.le; omega) hi'
 | t + 1,i,ht,hi'=>by
  simp only [Low.can]
  have hN:=hh.le
  split
  ·rename_i h0
   have h1:=hh.len (t + 1) ht
   have hl:qR L (t + 1) i=(L.getD (t + 1) []).getD i (-1):=rfl
   rw [List.getD_eq_getElem?_getD,List.getElem?_eq_getElem (by rw [h1]; exact hi')] at hl
   have hv:=hh.val t i _ ht (List.getElem?_eq_getElem (by rw [h1]; exact hi'))
   have hl:qR L (t + 1) i=(L.getD (t + 1) [])[i]'(by rw [h1]; exact hi'):=hl
   rw [<- hl] at hv
   refine Oa hs (lE hs (by omega) hi') (JN hs hh t _ (by omega) ?_) ?_
   ·rcases hv with hv | hv
    ·omega
    ·exact hv.2
   ·have:=hs.tm t (show t + 1 < s.1.n by omega); omega
  ·exact lE hs (by omega) hi'
theorem fq {α:Type} (a:Sl α) (i:Nat) (x:α):(bO a i x).g i=x:=by simp [bO]
theorem gy {α:Type} (a:Sl α) {i j:Nat} (h:j≠i) (x:α):(bO a i x).g j=a.g j:=by
 have:Nat.beq j i=false:=by
  cases e:Nat.beq j i with
  | false=>rfl
  | true=>exact absurd (Nat.eq_of_beq_eq_true e) h
 simp [bO,this]
theorem Inv.push (h:Inv s L r same can) (hh:Shape s L r) (hlt:L.length < s.1.n) (hr:r.length < (s.1.g L.length).2.1.n) (c:Int) {b:B6}
  (hb:b=Low.can (cB s) (L ++ [r ++ [c]]) L.length r.length) :
  Inv s L (r ++ [c]) (bO same L.length (bO (same.g L.length) r.length (c,()))) (bO can L.length (bO (can.g L.length) r.length b)):=by
 have hpos:=hh.pos
 obtain ⟨t0,Rj⟩:∃ t,L.length=t + 1:=⟨L.length - 1,by omega⟩
 refine ⟨h.sn,h.cn,fun t ht=>?_,fun t ht=>?_,fun t ht i hi'=>?_,fun i hi'=>?_,fun t ht i hi'=>?_,fun i hi'=>?_⟩
 ·by_cases e:t=L.length
  ·subst e; rw [fq]; exact h.sk _ ht
  ·rw [gy _ e]; exact h.sk _ ht
 ·by_cases e:t=L.length
  ·subst e; rw [fq]; exact h.ck _ ht
  ·rw [gy _ e]; exact h.ck _ ht
 ·rw [gy _ (by omega)]; exact h.sL t ht i hi'
 ·rw [fq]
  by_cases e:i=r.length
  ·subst e; rw [fq]; simp
  ·rw [gy _ e]
   have hi2:i < r.length:=by simp at hi'; omega
   rw [h.sr i hi2]
   simp only [List.getD_eq_getElem?_getD]; rw [List.getElem?_append_left hi2]
 ·rw [gy _ (by omega)]; exact h.cL t ht i hi'
 ·rw [fq]
  by_cases e:i=r.length
  ·subst e; rw [fq]; exact hb
  ·rw [gy _ e]
   have hi2:i < r.length:=by simp at hi'; omega
   rw [h.cr i hi2,qQ Rj,qQ Rj]
   have:(r ++ [c]).getD i (-1)=r.getD i (-1):=by
    simp only [List.getD_eq_getElem?_getD]; rw [List.getElem?_append_left hi2]
   rw [this]
theorem Inv.pop {c:Int} (h:Inv s L (r ++ [c]) same can) (hh:Shape s L r):Inv s L r same can:=by
 have hpos:=hh.pos
 obtain ⟨t0,Rj⟩:∃ t,L.length=t + 1:=⟨L.length - 1,by omega⟩
 have e:∀ i,i < r.length->(r ++ [c]).getD i (-1)=r.getD i (-1):=fun i hi'=>by
  simp only [List.getD_eq_getElem?_getD]; rw [List.getElem?_append_left hi']
 refine ⟨h.sn,h.cn,h.sk,h.ck,h.sL,fun i hi'=>?_,h.cL,fun i hi'=>?_⟩
 ·rw [h.sr i (by simp; omega),e i hi']
 ·rw [h.cr i (by simp; omega),qQ Rj,qQ Rj,e i hi']
theorem Inv.row (h:Inv s L r same can) (hh:Shape s L r) (hlt:L.length < s.1.n) (hr:r.length=(s.1.g L.length).2.1.n):Inv s (L ++ [r]) [] same can:=by
 have hlen:(L ++ [r]).length=L.length + 1:=by simp
 refine ⟨h.sn,h.cn,h.sk,h.ck,fun t ht i hi'=>?_,fun i hi'=>by simp at hi',fun t ht i hi'=>?_,fun i hi'=>by simp at hi'⟩
 ·rw [hlen] at ht
  by_cases e:t=L.length
  ·subst e; rw [qN]; exact h.sr i (by omega)
  ·rw [Eo (by omega)]; exact h.sL t (by omega) i hi'
 ·rw [hlen] at ht
  by_cases e:t=L.length
  ·subst e; exact h.cr i (by omega)
  ·rw [zi (by omega)]; exact h.cL t (by omega) i hi'
theorem Inv.asO (h:Inv s (L ++ [r]) [] same can) (hr:r.length=(s.1.g L.length).2.1.n):Inv s L r same can:=by
 have hlen:(L ++ [r]).length=L.length + 1:=by simp
 refine ⟨h.sn,h.cn,h.sk,h.ck,fun t ht i hi'=>?_,fun i hi'=>?_,fun t ht i hi'=>?_,fun i hi'=>?_⟩
 ·rw [h.sL t (by omega) i hi',Eo ht]
 ·rw [h.sL L.length (by omega) i (by omega),qN]
 ·rw [h.cL t (by omega) i hi',zi ht]
 ·exact h.cL L.length (by omega) i (by omega)
theorem Shape.row (hh:Shape s L r) (hlt:L.length < s.1.n) (hr:r.length=(s.1.g L.length).2.1.n):Shape s (L ++ [r]) []:=by
 have hlen:(L ++ [r]).length=L.length + 1:=by simp
 refine ⟨by omega,by omega,fun t ht=>?_,fun t i x ht hx=>?_,fun _=>Nat.zero_le _,fun _=>rfl,fun i x hx=>by simp at hx⟩
 ·rw [hlen] at ht
  by_cases e:t=L.length
  ·subst e; rw [jo]; exact hr
  ·rw [ku (by omega)]; exact hh.len t (by omega)
 ·rw [hlen] at ht
  by_cases e:t + 1=L.length
  ·rw [e,jo] at hx
   have:=hh.rval i x hx
   rwa [<- e,Nat.add_sub_cancel] at this
  ·rw [ku (by omega)] at hx; exact hh.val t i x (by omega) hx
theorem Shape.push (hh:Shape s L r) (hlt:L.length < s.1.n) (hr:r.length < (s.1.g L.length).2.1.n) {c:Int} (hc:c = -1\/(0<=c/\c.toNat < (s.1.g (L.length - 1)).2.1.n)):Shape s L (r ++ [c]):=by
 refine ⟨hh.pos,hh.le,hh.len,hh.val,fun _=>by simp; omega,fun h=>by omega,fun i x hx=>?_⟩
 by_cases e:i < r.length
 ·rw [List.getElem?_append_left e] at hx; exact hh.rval i x hx
 ·rw [List.getElem?_append_right (by omega)] at hx
  have:=(List.getElem?_eq_some_iff.1 hx).1
  have:i - r.length=0:=by simp at this; omega
  rw [this] at hx
  cases hx
  exact hc
theorem vE {a:Sl sR.den} {l:List Int} (hn:a.n=l.length) (h:∀ i,i < a.n->(a.g i).1=l.getD i (-1)):aV a=l:=by
 apply List.ext_getElem?
 intro i
 rw [gR]
 split
 ·rename_i hi'
  rw [h i hi',List.getD_eq_getElem?_getD,List.getElem?_eq_getElem (by omega)]; rfl
 ·rw [List.getElem?_eq_none (by omega)]
theorem aaw (h:Inv s L r same can):aV (⟨r.length,fun i=>(same.g L.length).g i⟩:Sl sR.den)=r:=vE rfl fun i hi'=>h.sr i hi'
theorem dN (hs:(cB s).Ok) {t:Nat} (ht:t < s.1.n):(s.1.g t).2.1.n<=3:=hs.k t ht
theorem eF (hs:(cB s).Ok):s.1.n<=4:=hs.n4
theorem akh (x:Sl sR.den) (hx:x.n<=1000):∃ z,Mg (no_index (x,()))=some z/\z.n=x.n/\∀ i,i < x.n->z.g i=x.g i:=by
 unfold Mg aac
 simp only []
 have h8:x.n * 8<=140737488355328:=by omega
 rw [decide_eq_true h8]
 cases hb:Nat.blt 0 x.n with
 | true=>exact ⟨x,rfl,rfl,fun _ _=>rfl⟩
 | false =>
  have h0:x.n=0:=by
   cases hn:x.n with
   | zero=>rfl
   | succ n=>rw [hn] at hb; cases hb
  refine ⟨⟨0,fun _=>Ty.dflt sR⟩,?_,h0.symm,fun i hi'=>by omega⟩
  show anC (some ⟨0,fun i=>((0:Int),())⟩) (some x)=_
  simp [anC,h0]
end Go.Dm

/- One low has another spot: bounds that are no wider than they must be. -/
import Derived.Test.YtadkaccpacpklaaL10LM6
set_option linter.unusedVariables false
set_option linter.unusedSimpArgs false
namespace Go.Low
open Go.Dm (fB kD jg)
variable {s:PS} {L:LL}
theorem auC {L:LL}:∀ {t i:Nat} {p:Nat×Nat},p∈(uT L t i).tail->p.1 < t
 | 0,i,p,h=>by simp [uT] at h
 | t + 1,i,p,h=>by
  simp only [uT,List.tail_cons] at h
  split at h
  ·have:=ahU h; omega
  ·cases h
theorem aNh (h:wD s L) {t i j:Nat} (ht:t + 1 < s.N) (hj:j < s.k (t + 1)) (e:qR L (t + 1) j=(i:Int)):nx s L t i=some j:=by
 have hd:∀ j':Nat,j' < j->qR L (t + 1) j'≠qR L (t + 1) j:=by
  rcases h.afg ht hj with q | ⟨_,_,q⟩
  ·rw [e] at q; omega
  ·exact q
 cases hx:nx s L t i with
 | none=>exact absurd e (aXi hx hj)
 | some j2 =>
  obtain ⟨h1,h2⟩:=aqc hx
  obtain ⟨_,_,h3⟩:=kD hx
  have h4:¬ j2 < j:=fun c=>hd j2 c (by rw [h2,e])
  have h5:¬ j < j2:=fun c=>by
   have:=h3 j c
   rw [decide_eq_false_iff_not] at this
   exact this e.symm
  have:j2=j:=by omega
  rw [this]
theorem aAI (s:PS) (L:LL) (m t i:Nat):(t,i)∈des s L m t i:=by cases m <;> simp [des]
theorem auD:∀ {m t i:Nat} {u j k:Nat},(u,j)∈des s L m t i->u < t + m->nx s L u j=some k->(u + 1,k)∈des s L m t i
 | 0,t,i,u,j,k,h,hu,hk=>by
  simp [des] at h
  omega
 | m + 1,t,i,u,j,k,h,hu,hk=>by
  simp only [des,List.mem_cons] at h ⊢
  rcases h with h | h
  ·obtain ⟨rfl,rfl⟩:=Prod.mk.injEq .. ▸ h
   rw [hk]
   exact .inr (aAI s L m _ _)
  ·cases hx:nx s L t i with
   | none=>rw [hx] at h; cases h
   | some i2 =>
    rw [hx] at h
    exact .inr (auD h (by omega) hk)
theorem axn (h:wD s L) {t i m:Nat}:∀ {u j:Nat},u < s.N->j < s.k u->u<=t + m->(t,i)∈uT L u j->(u,j)∈des s L m t i
 | 0,j,hu,hj,hm,hp=>by
  simp [uT] at hp
  obtain ⟨rfl,rfl⟩:=hp
  exact aAI s L m _ _
 | u + 1,j,hu,hj,hm,hp=>by
  rw [aas,List.mem_cons] at hp
  rcases hp with hp | hp
  ·obtain ⟨rfl,rfl⟩:=Prod.mk.injEq .. ▸ hp
   exact aAI s L m _ _
  ·simp only [uT,List.tail_cons] at hp
   split at hp
   ·rename_i h0
    have hk:(qR L (u + 1) j).toNat < s.k u:=by
     rcases h.afg hu hj with q | ⟨_,q,_⟩
     ·omega
     ·exact q
    have ih:=axn h (t:=t) (i:=i) (m:=m) (u:=u) (by omega) hk (by omega) hp
    exact auD ih (by omega) (aNh h hu hj (Int.toNat_of_nonneg h0).symm)
   ·cases hp
def an4 (s:PS) (t i:Nat) (b:B6):PS:={ s with box:=fun u j=>if u=t/\j=i then b else s.box u j }
theorem apB (t i:Nat) (b:B6):(an4 s t i b).box t i=b:=if_pos ⟨rfl,rfl⟩
theorem apC {t i u j:Nat} {b:B6} (h:(u,j)≠(t,i)):(an4 s t i b).box u j=s.box u j:=if_neg fun e=>h (by rw [e.1,e.2])
theorem as9 (t i:Nat) (b:B6) (a:Nat):dV (an4 s t i b) a=dV s a:=by unfold dV; split <;> rfl
theorem axp (hs:s.Ok) {t i:Nat} {b:B6} (hb:∀ a,a < 3->0<=lo b a/\lo b a<=hi b a/\hi b a<=99999):(an4 s t i b).Ok where
 n1:=hs.n1
 n4:=hs.n4
 k:=hs.k
 Xp:=hs.Xp
 tm:=hs.tm
 box:=fun u j hu hj a ha=>by
  by_cases e:(u,j)=(t,i)
  ·obtain ⟨rfl,rfl⟩:=Prod.mk.injEq .. ▸ e
   rw [apB]; exact hb a ha
  ·rw [apC e]; exact hs.box u j hu hj a ha
 sp:=hs.sp
 dp:=hs.dp
 bn:=hs.bn
 gn:=hs.gn
theorem azy {t i:Nat} {b:B6} (hb:∀ a,a < 3->lo (s.box t i) a<=lo b a/\hi b a<=hi (s.box t i) a):Sub (an4 s t i b) s where
 N:=rfl
 k:=fun _ _=>rfl
 tm:=fun _ _=>rfl
 dV:=fun a=>Int.le_of_eq (as9 t i b a)
 born:=Int.le_refl _
 gone:=Int.le_refl _
 box:=fun u j _ _ a ha=>by
  by_cases e:(u,j)=(t,i)
  ·obtain ⟨rfl,rfl⟩:=Prod.mk.injEq .. ▸ e
   rw [apB]; exact hb a ha
  ·rw [apC e]; exact ⟨Int.le_refl _,Int.le_refl _⟩
theorem awg (h:wD s L) {t i:Nat} (ht:t < s.N) (hi':i < s.k t) {b:B6}
  (hb:∀ a,a < 3->∃ x,lo b a<=x/\x<=hi b a/\lo (pos s L t i) a<=x/\x<=hi (pos s L t i) a):wD (an4 s t i b) L:=by
 refine ⟨h.len,h.first,h.row,h.born,h.gone,fun u hu j hj p hp=>?_⟩
 have hu:u < s.N:=hu
 have hj:j < s.k u:=hj
 have hlt:=auC hp
 have Yw:p∈uT L u j:=List.mem_of_mem_tail hp
 have h0:=h.ch u hu j hj p hp
 intro a ha
 have q:=h0 a ha
 rw [as9]
 show lo ((an4 s t i b).box u j) a - hi ((an4 s t i b).box p.1 p.2) a<=dV s a * (s.tm u - s.tm p.1)/\lo ((an4 s t i b).box p.1 p.2) a - hi ((an4 s t i b).box u j) a<=dV s a * (s.tm u - s.tm p.1)
 have q:lo (s.box u j) a - hi (s.box p.1 p.2) a<=dV s a * (s.tm u - s.tm p.1)/\lo (s.box p.1 p.2) a - hi (s.box u j) a<=dV s a * (s.tm u - s.tm p.1):=q
 obtain ⟨x,x1,x2,x3,x4⟩:=hb a ha
 by_cases e:(u,j)=(t,i)
 ·obtain ⟨rfl,rfl⟩:=Prod.mk.injEq .. ▸ e
  have hne:(p.1,p.2)≠(u,j):=fun c=>by have:=congrArg Prod.fst c; dsimp only at this; omega
  rw [apB,apC hne]
  have hc:p∈chain s L u j:=List.mem_append_left _ Yw
  have y1:=(aEe a x u j).1 x3 p hc
  have y2:=(aEf a x u j).1 x4 p hc
  rw [aFM (by omega)] at y1 y2
  omega
 ·rw [apC e]
  by_cases e2:(p.1,p.2)=(t,i)
  ·have aa6:p=(t,i):=e2
   have hc:(u,j)∈chain s L t i:=List.mem_append_right _ (axn h hu hj (by omega) (by rw [<- aa6]; exact Yw))
   rw [aa6] at hlt ⊢
   dsimp only at hlt ⊢
   rw [apB]
   have y1:=(aEe a x t i).1 x3 _ hc
   have y2:=(aEf a x t i).1 x4 _ hc
   rw [aQF (by dsimp only; omega)] at y1 y2
   dsimp only at y1 y2
   omega
  ·rw [apC e2]; exact q
theorem azz (hs:s.Ok) {t i:Nat} (ht:t < s.N) (hi':i < s.k t) {b:B6} (hb:∀ a,a < 3->lo (s.box t i) a<=lo b a/\lo b a<=hi b a/\hi b a<=hi (s.box t i) a) {a:Nat} (ha:a < 3)
  (hc:hi b a < lo (ach s t i) a\/hi (ach s t i) a < lo b a):links (an4 s t i b)=[]:=by
 refine List.eq_nil_iff_forall_not_mem.2 fun L hL=>?_
 have hsub:=azy (s:=s) (t:=t) (i:=i) (b:=b) fun a ha=>⟨(hb a ha).1,(hb a ha).2.2⟩
 have hx:=axp hs (t:=t) (i:=i) (b:=b) fun a ha=>by
  have:=hs.box t i ht hi' a ha
  have:=hb a ha
  omega
 have hL':=hsub.links hx hs hL
 have hne:links s≠[]:=List.ne_nil_of_mem hL'
 have hI:=(tX hx).1 hL
 have k1:=hsub.pos hx hI (t:=t) (i:=i) ht hi' ha
 have k2:=(aAC (s:=s) (t:=t) (i:=i) (a:=a) hne).1 (Int.le_refl _) L hL'
 have k3:=(aAD (s:=s) (t:=t) (i:=i) (a:=a) hne).1 (Int.le_refl _) L hL'
 have k4:=aTY hx hI (t:=t) (i:=i) ht hi' a ha
 have k5:=aTZ (s:=an4 s t i b) (L:=L) (a:=a) (t:=t) (i:=i)
 have k6:=aT0 (s:=an4 s t i b) (L:=L) (a:=a) (t:=t) (i:=i)
 rw [apB] at k5 k6
 omega
def an9 (b:B6) (a:Nat) (x y:Int):B6:=match a with
 | 0=>(x,(y,b.2.2))
 | 1=>(b.1,(b.2.1,(x,(y,b.2.2.2.2))))
 | _=>(b.1,(b.2.1,(b.2.2.1,(b.2.2.2.1,(x,(y,()))))))
theorem at7 {b:B6} {a c:Nat} (ha:a < 3) (hc:c < 3) (x y:Int):lo (an9 b a x y) c=if c=a then x else lo b c:=by
 match a,ha,c,hc with
 | 0,_,0,_=>rfl
 | 0,_,1,_=>rfl
 | 0,_,2,_=>rfl
 | 1,_,0,_=>rfl
 | 1,_,1,_=>rfl
 | 1,_,2,_=>rfl
 | 2,_,0,_=>rfl
 | 2,_,1,_=>rfl
 | 2,_,2,_=>rfl
theorem at9 {b:B6} {a c:Nat} (ha:a < 3) (hc:c < 3) (x y:Int):hi (an9 b a x y) c=if c=a then y else hi b c:=by
 match a,ha,c,hc with
 | 0,_,0,_=>rfl
 | 0,_,1,_=>rfl
 | 0,_,2,_=>rfl
 | 1,_,0,_=>rfl
 | 1,_,1,_=>rfl
 | 1,_,2,_=>rfl
 | 2,_,0,_=>rfl
 | 2,_,1,_=>rfl
 | 2,_,2,_=>rfl
theorem ax2 (hs:s.Ok) (hne:links s≠[]) {t i:Nat} (ht:t < s.N) (hi':i < s.k t) {a:Nat} (ha:a < 3) {x:Int} (hx:x=lo (ach s t i) a\/x=hi (ach s t i) a) :
  links (an4 s t i (an9 (s.box t i) a x x))≠[]:=by
 have hex:∃ L∈links s,lo (pos s L t i) a<=x/\x<=hi (pos s L t i) a:=by
  rcases hx with rfl | rfl
  ·refine Classical.byContradiction fun c=>?_
   have:lo (ach s t i) a + 1<=lo (ach s t i) a:=(aAC hne).2 fun L hL=>by
    have k2:=(aAC (s:=s) (t:=t) (i:=i) (a:=a) hne).1 (Int.le_refl _) L hL
    have k4:=aTY hs ((tX hs).1 hL) (t:=t) (i:=i) ht hi' a ha
    have k5:¬ (lo (pos s L t i) a<=lo (ach s t i) a/\lo (ach s t i) a<=hi (pos s L t i) a):=fun q=>c ⟨L,hL,q⟩
    omega
   omega
  ·refine Classical.byContradiction fun c=>?_
   have:hi (ach s t i) a<=hi (ach s t i) a - 1:=(aAD hne).2 fun L hL=>by
    have k2:=(aAD (s:=s) (t:=t) (i:=i) (a:=a) hne).1 (Int.le_refl _) L hL
    have k4:=aTY hs ((tX hs).1 hL) (t:=t) (i:=i) ht hi' a ha
    have k5:¬ (lo (pos s L t i) a<=hi (ach s t i) a/\hi (ach s t i) a<=hi (pos s L t i) a):=fun q=>c ⟨L,hL,q⟩
    omega
   omega
 obtain ⟨L,hL,l1,l2⟩:=hex
 have hI:=(tX hs).1 hL
 have NH:=hs.box t i ht hi'
 have o1:=fun c=>aTZ (s:=s) (L:=L) (a:=c) (t:=t) (i:=i)
 have o2:=fun c=>aT0 (s:=s) (L:=L) (a:=c) (t:=t) (i:=i)
 have hok:=axp hs (t:=t) (i:=i) (b:=an9 (s.box t i) a x x) fun c hc=>by
  have q:=NH c hc
  rw [at7 ha hc,at9 ha hc]
  by_cases e:c=a
  ·subst e
   rw [if_pos rfl,if_pos rfl]
   have:=o1 c; have:=o2 c
   omega
  ·rw [if_neg e,if_neg e]; exact q
 refine List.ne_nil_of_mem (a:=L) ((tX hok).2 (awg hI ht hi' fun c hc=>?_))
 rw [at7 ha hc,at9 ha hc]
 by_cases e:c=a
 ·subst e
  rw [if_pos rfl,if_pos rfl]
  exact ⟨x,Int.le_refl _,Int.le_refl _,l1,l2⟩
 ·rw [if_neg e,if_neg e]
  have k4:=aTY hs hI (t:=t) (i:=i) ht hi' c hc
  have:=o1 c; have:=o2 c
  exact ⟨lo (pos s L t i) c,by omega,by omega,Int.le_refl _,k4⟩
end Go.Low

/- The reference: all links. -/
import Derived.Test.YtadkaccpacpklaaL8LP8
set_option linter.unusedVariables false
set_option linter.unusedSimpArgs false
namespace Go.Dm
set_option maxRecDepth 100000
open Go.Low
variable {s:tS.den}
abbrev zR:=Sl (Ty.den (.cons (.sl (.cons (.sl sR) .nil)) .nil))
def BQ (s:PS) (L:LL) (r:List Int):List LL:=if okB s (L ++ [r]) then [L ++ [r]] else []
theorem Sb {p:PS} {L:LL} {r:List Int}:(BQ p L r).length<=1:=by
 unfold BQ
 split <;> simp
theorem JU (p:PS):∀ (m:Nat) (out:List LL),GS p (m + 1) out=(GS p m out).flatMap (xF p)
 | 0,out=>rfl
 | m + 1,out=>by rw [GS,JU p m]; rfl
theorem Sc {before m:Nat} (hb:before<=3) (hm:m<=3):(gV before m []).length<=64:=by
 have h1:=Ip hb m
 have h2:Ij before m [[]]=gV before m []:=by rw [ME]; simp
 have h4:4 ^ m<=4 ^ 3:=Nat.pow_le_pow_right (by omega) hm
 rw [h2] at h1
 omega
theorem Pre.row {L:LL} {r:List Int} (h:Pre s L) (hlt:L.length < s.1.n) (hr:r∈gV (s.1.g (L.length - 1)).2.1.n (s.1.g L.length).2.1.n []):Pre s (L ++ [r]):=by
 have hrow:=NZ.1 hr
 have hpos:=h.sh.pos
 have hsh:Shape s L r:=⟨h.sh.pos,h.sh.le,h.sh.len,h.sh.val,fun _=>by rw [hrow.1]; exact Nat.le_refl _,fun e=>by omega,fun i x hx=>by
  rcases hrow.2 i x hx with q | q
  ·exact .inl q
  ·exact .inr ⟨q.1,q.2.1⟩⟩
 refine ⟨hsh.row hlt hrow.1,?_⟩
 rw [ku hpos]; exact h.first
theorem Sd (hs:(cB s).Ok) {L:LL} (hL:L.length < s.1.n):(xF (cB s) L).length<=64:=by
 have h1:=uU (l:=gV ((cB s).k (L.length - 1)) ((cB s).k L.length) []) (f:=BQ (cB s) L) (k:=1) fun a _=>Sb
 have h2:=Sc (before:=(cB s).k (L.length - 1)) (m:=(cB s).k L.length) (dN hs (by omega)) (dN hs hL)
 have:xF (cB s) L=(gV ((cB s).k (L.length - 1)) ((cB s).k L.length) []).flatMap (BQ (cB s) L):=rfl
 rw [this]
 omega
theorem Yo (hs:(cB s).Ok):∀ j,j + 1<=s.1.n->(∀ L∈GS (cB s) j [[first (cB s)]],Pre s L/\L.length=j + 1)/\(GS (cB s) j [[first (cB s)]]).length<=64 ^ j
 | 0,h=>by
  refine ⟨fun L hL=>?_,by simp [GS]⟩
  simp only [GS,List.mem_singleton] at hL
  subst hL
  refine ⟨⟨⟨by simp,by simpa using h,fun t ht=>?_,fun t i x ht=>by simp at ht,fun _=>Nat.zero_le _,fun _=>rfl,fun i x hx=>by simp at hx⟩,rfl⟩,rfl⟩
  have:t=0:=by simp at ht; exact ht
  subst this; simp [first]; rfl
 | j + 1,h=>by
  obtain ⟨h1,h2⟩:=Yo hs j (by omega)
  rw [JU]
  refine ⟨fun L hL=>?_,?_⟩
  ·obtain ⟨L0,hL0,hL⟩:=List.mem_flatMap.1 hL
   obtain ⟨p1,p2⟩:=h1 L0 hL0
   obtain ⟨r,hr,hL⟩:=List.mem_flatMap.1 hL
   split at hL
   ·simp only [List.mem_singleton] at hL
    subst hL
    exact ⟨p1.row (by omega) hr,by simp; omega⟩
   ·simp at hL
  ·have h3:=uU (l:=GS (cB s) j [[first (cB s)]]) (f:=xF (cB s)) (k:=64) fun a ha=>Sd hs (by rw [(h1 a ha).2]; omega)
   rw [Nat.pow_succ]
   omega
end Go.Dm

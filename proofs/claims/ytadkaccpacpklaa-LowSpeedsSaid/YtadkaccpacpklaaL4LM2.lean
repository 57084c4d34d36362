/- All links: as they are listed map by map; which these are. -/
import Derived.Test.YtadkaccpacpklaaL4LM1
set_option linter.unusedVariables false
set_option linter.unusedSimpArgs false
namespace Go.Low
variable {s : PS}
def bfsC (before : Nat) : Nat → LL → LL
 | 0, out => out
 | m + 1, out => bfsC before m (out.flatMap (stepC before))
theorem bfsC_eq {before : Nat} : ∀ (m : Nat) (out : LL), bfsC before m out = out.flatMap (choiF before m)
 | 0, out => by simp [bfsC, choiF]
 | m + 1, out => by rw [bfsC, bfsC_eq m, List.flatMap_assoc]; rfl
def stepA (s : PS) (L : LL) : List LL := (choiF (s.k (L.length - 1)) (s.k L.length) []).flatMap fun r => if okB s (L ++ [r]) then [L ++ [r]] else []
def bfsA (s : PS) : Nat → List LL → List LL
 | 0, out => out
 | m + 1, out => bfsA s m (out.flatMap (stepA s))
theorem linksF_step (m : Nat) (L : LL) : linksF s (m + 1) L = (stepA s L).flatMap (linksF s m) := by
 simp only [linksF, stepA, List.flatMap_assoc]
 refine flatMap_congr' fun r _ => ?_
 split <;> simp
theorem bfsA_eq : ∀ (m : Nat) (out : List LL), bfsA s m out = out.flatMap (linksF s m)
 | 0, out => by simp [bfsA, linksF]
 | m + 1, out => by
  rw [bfsA, bfsA_eq m, List.flatMap_assoc]
  exact flatMap_congr' fun L _ => (linksF_step m L).symm
def first (s : PS) : List Int := List.replicate (s.k 0) (-1)
def links (s : PS) : List LL := linksF s (s.N - 1) [first s]
theorem choiF_first (m : Nat) : ∀ r : List Int, choiF 0 m r = [r ++ List.replicate m (-1)] := by
 induction m with
 | zero => intro r; simp [choiF]
 | succ m ih =>
  intro r
  simp only [choiF, stepC, List.range_zero, List.flatMap_nil, List.flatMap_cons, List.append_nil]
  rw [ih, List.append_assoc]; rfl
theorem gen_links (hs : s.Ok) {n : Nat} (hn : measL s (s.N - 1) 1 ≤ n) : gen s n 0 0 [first s] [] = links s := by
 have hb : bornL [first s] = 0 := rfl
 have hg : goneL [first s] = 0 := rfl
 have h := gen_eq hs n [first s] [] 0 0 (by simpa using hn) (by simp) hs.n1 (fun t ht => by
   have : t = 0 := by simp at ht; exact ht
   subst this; simp [first]) (fun _ => Nat.zero_le _) (fun _ => rfl) (by simp [hb, bornR]) hs.bn.1 (by simp [hg]) (fun i hi a ha => (hs.box 0 i hs.n1 (by simpa using hi) a ha).2.1) (fun i x h => by simp at h)
 rw [h]
 unfold links
 have hlen : [first s].length = 1 := rfl
 rw [hlen]
 by_cases e : 1 = s.N
 ·rw [if_pos e, ← e]; rfl
 ·rw [if_neg e]
  obtain ⟨m, hm⟩ : ∃ m, s.N - 1 = m + 1 := ⟨s.N - 2, by have := hs.n1; omega⟩
  rw [hm]
  simp only [linksF, hlen, List.length_nil, Nat.sub_zero, Nat.add_sub_cancel]
def Row (before m : Nat) (r : List Int) : Prop := r.length = m ∧ ∀ (i : Nat) (x : Int), r[i]? = some x → x = -1 ∨ (0 ≤ x ∧ x.toNat < before ∧ ∀ j : Nat, j < i → r[j]? ≠ some x)
theorem has_iff {r : List Int} {b : Int} : has r b = true ↔ ∃ i : Nat, r[i]? = some b := by
 unfold has
 rw [List.contains_iff_mem, List.mem_iff_getElem?]
theorem mem_choiF {before : Nat} : ∀ {m : Nat} {r x : List Int}, x ∈ choiF before m r ↔ r <+: x ∧ x.length = r.length + m ∧ ∀ (i : Nat) (c : Int), r.length ≤ i → x[i]? = some c → c = -1 ∨ (0 ≤ c ∧ c.toNat < before ∧ ∀ j : Nat, j < i → x[j]? ≠ some c)
 | 0, r, x => by
  simp only [choiF, List.mem_singleton, Nat.add_zero]
  constructor
  ·rintro rfl
   exact ⟨List.prefix_refl _, rfl, fun i c hi h => by have := (List.getElem?_eq_some_iff.1 h).1; omega⟩
  ·rintro ⟨h1, h2, _⟩
   exact (h1.eq_of_length h2.symm).symm
 | m + 1, r, x => by
  simp only [choiF, List.mem_flatMap]
  constructor
  ·rintro ⟨y, hy, hx⟩
   obtain ⟨c, rfl, hc⟩ := mem_stepC hy
   obtain ⟨h1, h2, h3⟩ := mem_choiF.1 hx
   refine ⟨(List.prefix_append _ _).trans h1, by rw [h2]; simp; omega, fun i d hi hd => ?_⟩
   by_cases hi2 : i = r.length
   ·subst hi2
    have hd2 : d = c := by
     obtain ⟨z, rfl⟩ := h1
     rw [List.getElem?_append_left (by simp)] at hd
     simpa using hd.symm
    subst hd2
    rcases hc with hc | ⟨b, hb, rfl, hh⟩
    ·exact .inl hc
    ·refine .inr ⟨by omega, by simpa using hb, fun j hj hjd => ?_⟩
     obtain ⟨z, rfl⟩ := h1
     rw [List.getElem?_append_left (by simp; omega), List.getElem?_append_left hj] at hjd
     have : has r (b : Int) = true := has_iff.2 ⟨j, hjd⟩
     rw [hh] at this; cases this
   ·exact h3 i d (by simp; omega) hd
  ·rintro ⟨h1, h2, h3⟩
   obtain ⟨z, rfl⟩ := h1
   have hz : z.length = m + 1 := by simp at h2; omega
   obtain ⟨c, z, rfl⟩ : ∃ c z', z = c :: z' := by cases z with
    | nil => cases hz
    | cons c z => exact ⟨c, z, rfl⟩
   refine ⟨r ++ [c], ?_, mem_choiF.2 ⟨by rw [show r ++ c :: z = (r ++ [c]) ++ z by simp]; exact List.prefix_append _ _, by simp at hz ⊢; omega, fun i d hi hd => h3 i d (by simp at hi; omega) hd⟩⟩
   simp only [stepC, List.mem_cons, List.mem_flatMap, List.mem_range]
   rcases h3 r.length c (Nat.le_refl _) (by rw [List.getElem?_append_right (Nat.le_refl _)]; simp) with h | ⟨h4, h5, h6⟩
   ·exact .inl (by rw [h])
   ·refine .inr ⟨c.toNat, h5, ?_⟩
    have hc : ((c.toNat : Nat) : Int) = c := by omega
    rw [hc]
    have hn : has r c ≠ true := fun h => by
     obtain ⟨j, hj⟩ := has_iff.1 h
     have hjl := (List.getElem?_eq_some_iff.1 hj).1
     exact h6 j hjl (by rw [List.getElem?_append_left hjl]; exact hj)
    rw [if_neg hn]
    exact .head _
theorem mem_choi {before m : Nat} {x : List Int} : x ∈ choiF before m [] ↔ Row before m x := by
 rw [mem_choiF]
 simp only [List.nil_prefix, true_and, List.length_nil, Nat.zero_add, Nat.zero_le, true_implies]
 rfl
end Go.Low

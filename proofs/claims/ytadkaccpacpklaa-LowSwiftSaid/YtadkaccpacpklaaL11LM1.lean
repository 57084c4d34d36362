/- All links, in order: map by map, and low by low. -/
import Derived.Test.YtadkaccpacpklaaL11LM0
set_option linter.unusedVariables false
set_option linter.unusedSimpArgs false
namespace Go.Low
variable {s : PS}
def has (r : List Int) (b : Int) : Bool := r.contains b
def miss (k : Nat) (r : List Int) : Nat := ((List.range k).filter fun b : Nat => !has r (b : Int)).length
def bornR (r : List Int) : Nat := r.count (-1)
def bornL (L : LL) : Nat := ((L.drop 1).map bornR).sum
def goneL (L : LL) : Nat := ((List.range (L.length - 1)).map fun t => miss (L.getD t []).length (L.getD (t + 1) [])).sum
theorem getD_app {L M : LL} {t : Nat} (h : t < L.length) : (L ++ M).getD t [] = L.getD t [] := by
 simp only [List.getD_eq_getElem?_getD]; rw [List.getElem?_append_left h]
theorem getD_last {L : LL} {r : List Int} : (L ++ [r]).getD L.length [] = r := by
 simp only [List.getD_eq_getElem?_getD]; rw [List.getElem?_append_right (Nat.le_refl _), Nat.sub_self]; rfl
theorem bornL_app {L : LL} {r : List Int} (h : 0 < L.length) : bornL (L ++ [r]) = bornL L + bornR r := by
 cases L with
 | nil => cases h
 | cons a L => simp [bornL]
theorem goneL_app {L : LL} {r : List Int} (h : 0 < L.length) : goneL (L ++ [r]) = goneL L + miss (L.getD (L.length - 1) []).length r := by
 obtain ⟨n, hn⟩ : ∃ n, L.length = n + 1 := ⟨L.length - 1, by omega⟩
 unfold goneL
 rw [List.length_append, List.length_singleton, hn, Nat.add_sub_cancel, Nat.add_sub_cancel, List.range_succ, List.map_append, List.sum_append]
 congr 1
 ·refine congrArg List.sum (List.map_congr_left fun t ht => ?_)
  have ht := List.mem_range.1 ht
  rw [getD_app (by omega), getD_app (by omega)]
 ·have e := getD_last (L := L) (r := r)
  rw [hn] at e
  simp only [List.map_cons, List.map_nil, List.sum_cons, List.sum_nil, Nat.add_zero]
  rw [e, getD_app (by omega)]
def togB (s : PS) (p q : Nat × Nat) : Bool := (List.range 3).all fun a => decide (lo (s.box p.1 p.2) a - hi (s.box q.1 q.2) a ≤ rate s a * (s.tm p.1 - s.tm q.1)) && decide (lo (s.box q.1 q.2) a - hi (s.box p.1 p.2) a ≤ rate s a * (s.tm p.1 - s.tm q.1))
theorem togB_iff {p q : Nat × Nat} : togB s p q = true ↔ tog s p q := by
 simp only [togB, tog, List.all_eq_true, List.mem_range, Bool.and_eq_true, decide_eq_true_eq]
def chB (s : PS) (L : LL) : Bool := (List.range (L.getD (L.length - 1) []).length).all fun i => (anc L (L.length - 1) i).tail.all fun p => togB s (L.length - 1, i) p
def okB (s : PS) (L : LL) : Bool := decide ((bornL L : Int) ≤ s.born) && decide ((goneL L : Int) ≤ s.gone) && chB s L
def stepC (before : Nat) (r : List Int) : LL := (r ++ [-1]) :: (List.range before).flatMap fun b : Nat => if has r (b : Int) then [] else [r ++ [(b : Int)]]
def choiF (before : Nat) : Nat → List Int → LL
 | 0, r => [r]
 | m + 1, r => (stepC before r).flatMap (choiF before m)
def linksF (s : PS) : Nat → LL → List LL
 | 0, L => [L]
 | m + 1, L => (choiF (s.k (L.length - 1)) (s.k L.length) []).flatMap fun r => if okB s (L ++ [r]) then linksF s m (L ++ [r]) else []
def gen (s : PS) : Nat → Int → Int → LL → List Int → List LL
 | 0, _, _, _, _ => []
 | n + 1, born, gone, L, r =>
  if L.length = s.N then [L]
  else if r.length = s.k L.length then
   if s.gone < gone + (miss (s.k (L.length - 1)) r : Nat) then [] else gen s n born (gone + (miss (s.k (L.length - 1)) r : Nat)) (L ++ [r]) []
  else (if born < s.born then gen s n (born + 1) gone L (r ++ [-1]) else []) ++
   (List.range (s.k (L.length - 1))).flatMap fun b : Nat => if has r (b : Int) then [] else
    if neB (inter (s.box L.length r.length) (wide s (can s L (L.length - 1) b) (s.tm L.length - s.tm (L.length - 1)))) then gen s n born gone L (r ++ [(b : Int)]) else []
theorem flatMap_nil' {α β : Type} {l : List α} {f : α → List β} (h : ∀ a ∈ l, f a = []) : l.flatMap f = [] := by
 induction l with
 | nil => rfl
 | cons a l ih => rw [List.flatMap_cons, h a (.head _), ih fun b hb => h b (.tail _ hb)]; rfl
theorem flatMap_congr' {α β : Type} {l : List α} {f g : α → List β} (h : ∀ a ∈ l, f a = g a) : l.flatMap f = l.flatMap g := by
 induction l with
 | nil => rfl
 | cons a l ih => rw [List.flatMap_cons, List.flatMap_cons, h a (.head _), ih fun b hb => h b (.tail _ hb)]
theorem mem_stepC {before : Nat} {r x : List Int} (h : x ∈ stepC before r) : ∃ c : Int, x = r ++ [c] ∧ (c = -1 ∨ ∃ b : Nat, b < before ∧ c = b ∧ has r c = false) := by
 simp only [stepC, List.mem_cons, List.mem_flatMap, List.mem_range] at h
 rcases h with h | ⟨b, hb, h⟩
 ·exact ⟨-1, h, .inl rfl⟩
 ·split at h
  ·simp at h
  ·rename_i hn
   simp only [List.mem_singleton] at h
   exact ⟨b, h, .inr ⟨b, hb, rfl, by simpa using hn⟩⟩
theorem choiF_pre {before : Nat} : ∀ {m : Nat} {r x : List Int}, x ∈ choiF before m r → r <+: x ∧ x.length = r.length + m
 | 0, r, x, h => by simp only [choiF, List.mem_singleton] at h; subst h; exact ⟨List.prefix_refl _, rfl⟩
 | m + 1, r, x, h => by
  simp only [choiF, List.mem_flatMap] at h
  obtain ⟨y, hy, hx⟩ := h
  obtain ⟨c, rfl, _⟩ := mem_stepC hy
  obtain ⟨h1, h2⟩ := choiF_pre hx
  exact ⟨(List.prefix_append _ _).trans h1, by rw [h2]; simp; omega⟩
def measL (s : PS) : Nat → Nat → Nat
 | 0, _ => 1
 | m + 1, t => s.k t + 1 + measL s m (t + 1)
theorem gen_eq (hs : s.Ok) : ∀ (n : Nat) (L : LL) (r : List Int) (born gone : Int), measL s (s.N - L.length) L.length ≤ n + r.length → 0 < L.length → L.length ≤ s.N → (∀ t, t < L.length → (L.getD t []).length = s.k t) →
  (L.length < s.N → r.length ≤ s.k L.length) → (L.length = s.N → r = []) → born = (bornL L : Int) + (bornR r : Int) → born ≤ s.born → gone = (goneL L : Int) → (∀ i, i < s.k (L.length - 1) → ne (can s L (L.length - 1) i)) →
  (∀ i x, r[i]? = some x → x = -1 ∨ 0 ≤ x ∧ x.toNat < s.k (L.length - 1) ∧ ∀ p ∈ anc L (L.length - 1) x.toNat, tog s (L.length, i) p) →
  gen s n born gone L r = if L.length = s.N then [L] else (choiF (s.k (L.length - 1)) (s.k L.length - r.length) r).flatMap fun r => if okB s (L ++ [r]) then linksF s (s.N - L.length - 1) (L ++ [r]) else [] := by
 intro n
 induction n with
 | zero =>
  intro L r born gone hm hL hN hsh hr hr0 _ _ _ _ _
  exfalso
  by_cases e : L.length = s.N
  ·rw [hr0 e, e, Nat.sub_self] at hm; simp [measL] at hm
  ·obtain ⟨m, hmm⟩ : ∃ m, s.N - L.length = m + 1 := ⟨s.N - L.length - 1, by omega⟩
   rw [hmm] at hm
   have := hr (by omega)
   have h1 : 1 ≤ measL s m (L.length + 1) := by
    have : ∀ m t, 1 ≤ measL s m t := by
     intro m
     induction m with
     | zero => intro t; exact Nat.le_refl _
     | succ m ih => intro t; have := ih (t + 1); simp only [measL]; omega
    exact this _ _
   simp only [measL] at hm
   omega
 | succ n ih =>
  intro L r born gone hm hL hN hsh hr hr0 hb hb2 hg hcan hch
  rw [gen]
  by_cases e : L.length = s.N
  ·rw [if_pos e, if_pos e]
  rw [if_neg e, if_neg e]
  obtain ⟨m, hmm⟩ : ∃ m, s.N - L.length = m + 1 := ⟨s.N - L.length - 1, by omega⟩
  have hr1 := hr (by omega)
  rw [hmm] at hm
  obtain ⟨t, ht⟩ : ∃ t, L.length = t + 1 := ⟨L.length - 1, by omega⟩
  by_cases e2 : r.length = s.k L.length
  ·rw [if_pos e2, e2, Nat.sub_self]
   simp only [choiF, List.flatMap_cons, List.flatMap_nil, List.append_nil]
   -- the map is whole
   have hbl : (bornL (L ++ [r]) : Int) = born := by rw [bornL_app hL, hb]; simp
   have hgl : (goneL (L ++ [r]) : Int) = gone + (miss (s.k (L.length - 1)) r : Nat) := by rw [goneL_app hL, hsh _ (by omega), hg]; simp
   have hlen : (L ++ [r]).length = L.length + 1 := by simp
   have hanc : ∀ i, i < r.length → ∀ p ∈ (anc (L ++ [r]) L.length i).tail, tog s (L.length, i) p := fun i hi p hp => by
    rw [ht] at hp ⊢
    simp only [anc, List.tail_cons] at hp
    have hl : lnk (L ++ [r]) (t + 1) i = r[i] := by rw [← ht, lnk_last, List.getD_eq_getElem?_getD, List.getElem?_eq_getElem hi]; rfl
    rw [hl] at hp
    split at hp
    case isFalse => simp at hp
    rename_i h0
    rcases hch i _ (List.getElem?_eq_getElem hi) with h1 | ⟨_, _, h1⟩
    ·omega
    ·rw [anc_app (by omega)] at hp
     rw [ht, Nat.add_sub_cancel] at h1
     exact h1 p hp
   have hchB : chB s (L ++ [r]) = true := by
    unfold chB
    rw [hlen, Nat.add_sub_cancel, getD_last]
    simp only [List.all_eq_true, List.mem_range]
    exact fun i hi p hp => togB_iff.2 (hanc i hi p hp)
   have hok : okB s (L ++ [r]) = !decide (s.gone < gone + (miss (s.k (L.length - 1)) r : Nat)) := by
    unfold okB
    rw [hchB, hbl, hgl, decide_eq_true hb2, Bool.true_and, Bool.and_true]
    by_cases h : s.gone < gone + (miss (s.k (L.length - 1)) r : Nat)
    ·rw [decide_eq_true h, decide_eq_false (by omega)]; rfl
    ·rw [decide_eq_false h, decide_eq_true (by omega)]; rfl
   rw [hok]
   by_cases hgg : s.gone < gone + (miss (s.k (L.length - 1)) r : Nat)
   ·rw [if_pos hgg, decide_eq_true hgg]; rfl
   rw [if_neg hgg, decide_eq_false hgg]
   simp only [Bool.not_false, if_true]
   have hcan2 : ∀ i, i < s.k ((L ++ [r]).length - 1) → ne (can s (L ++ [r]) ((L ++ [r]).length - 1) i) := fun i hi => by
    rw [hlen, Nat.add_sub_cancel] at hi ⊢
    rw [ht]
    simp only [can]
    have hil : i < r.length := by omega
    have hl : lnk (L ++ [r]) (t + 1) i = r[i] := by rw [← ht, lnk_last, List.getD_eq_getElem?_getD, List.getElem?_eq_getElem hil]; rfl
    rw [hl]
    have hlt : t + 1 < s.N := by omega
    split
    ·rename_i h0
     rw [can_app (by omega)]
     rcases hch i _ (List.getElem?_eq_getElem hil) with h1 | ⟨_, h1, h2⟩
     ·omega
     ·rw [ht, Nat.add_sub_cancel] at h1 h2 hcan
      exact (after_ne hs hlt (by rw [← ht]; exact hi) (hcan _ h1)).2 h2
    ·intro a ha
     exact (hs.box (t + 1) i hlt (by rw [← ht]; exact hi) a ha).2.1
   have hih := ih (L ++ [r]) [] born (gone + (miss (s.k (L.length - 1)) r : Nat)) (by
     rw [hlen]
     have : s.N - (L.length + 1) = m := by omega
     rw [this]
     simp only [measL] at hm
     rw [e2] at hm
     simp only [List.length_nil]; omega) (by rw [hlen]; omega) (by rw [hlen]; omega) (fun t' ht' => by
     rw [hlen] at ht'
     by_cases h1 : t' = L.length
     ·rw [h1, getD_last]; exact e2
     ·rw [getD_app (by omega)]; exact hsh t' (by omega)) (fun _ => Nat.zero_le _) (fun _ => rfl) (by rw [hbl]; simp [bornR]) hb2 hgl.symm hcan2 (fun i x h => by simp at h)
   rw [hih, hlen]
   have h1 : s.N - L.length - 1 = m := by omega
   rw [h1]
   by_cases h2 : L.length + 1 = s.N
   ·rw [if_pos h2]
    have : m = 0 := by omega
    subst this; rfl
   ·rw [if_neg h2]
    obtain ⟨m', hm'⟩ : ∃ m', m = m' + 1 := ⟨m - 1, by omega⟩
    subst hm'
    simp only [linksF, hlen, Nat.add_sub_cancel, List.length_nil, Nat.sub_zero]
    rw [show s.N - (L.length + 1) - 1 = m' by omega]
  ·rw [if_neg e2]
   obtain ⟨q, hq⟩ : ∃ q, s.k L.length - r.length = q + 1 := ⟨s.k L.length - r.length - 1, by omega⟩
   have hrl : r.length < s.k L.length := by omega
   rw [hq]
   simp only [choiF, stepC, List.flatMap_cons, List.flatMap_append, List.flatMap_assoc]
   have hq2 : ∀ c : Int, s.k L.length - (r ++ [c]).length = q := fun c => by simp; omega
   have hmeas : ∀ c : Int, measL s (s.N - L.length) L.length ≤ n + (r ++ [c]).length := fun c => by rw [hmm]; simp; omega
   have hgetr : ∀ (c : Int) (i : Nat) (x : Int), (r ++ [c])[i]? = some x → i < r.length ∧ r[i]? = some x ∨ i = r.length ∧ x = c := fun c i x h => by
    by_cases h1 : i < r.length
    ·rw [List.getElem?_append_left h1] at h; exact .inl ⟨h1, h⟩
    ·rw [List.getElem?_append_right (by omega)] at h
     have h2 := (List.getElem?_eq_some_iff.1 h).1
     simp at h2
     have : i = r.length := by omega
     subst this
     simp at h
     exact .inr ⟨rfl, h.symm⟩
   congr 1
   ·by_cases hbb : born < s.born
    ·rw [if_pos hbb]
     have := ih L (r ++ [-1]) (born + 1) gone (hmeas _) hL hN hsh (fun _ => by simp; omega) (fun h => absurd h e) (by rw [hb]; simp [bornR]; omega) (by omega) hg hcan (fun i x h => by
      rcases hgetr _ _ _ h with ⟨_, h⟩ | ⟨_, h⟩
      ·exact hch i x h
      ·exact .inl h)
     rw [this, if_neg e, hq2]
    ·rw [if_neg hbb]
     refine (flatMap_nil' fun x hx => ?_).symm
     have hp := (choiF_pre hx).1
     have hcnt : bornR (r ++ [-1]) ≤ bornR x := hp.sublist.count_le _
     have hcnt2 : bornR (r ++ [-1]) = bornR r + 1 := by simp [bornR]
     have : okB s (L ++ [x]) = false := by
      unfold okB
      rw [bornL_app hL, decide_eq_false (by push_cast; omega)]
      simp
     rw [this]; rfl
   ·refine flatMap_congr' fun b hb' => ?_
    have hb' := List.mem_range.1 hb'
    by_cases hh : has r (b : Int) = true
    ·rw [if_pos hh, if_pos hh]; rfl
    rw [if_neg hh, if_neg hh]
    simp only [List.flatMap_cons, List.flatMap_nil, List.append_nil]
    have hlt : t + 1 < s.N := by omega
    have hcb := hcan b hb'
    have hiff : neB (inter (s.box L.length r.length) (wide s (can s L (L.length - 1) b) (s.tm L.length - s.tm (L.length - 1)))) = true ↔ ∀ p ∈ anc L (L.length - 1) b, tog s (L.length, r.length) p := by
     rw [neB_iff]
     rw [ht, Nat.add_sub_cancel] at hcb ⊢
     exact after_ne hs hlt (by rw [← ht]; exact hrl) hcb
    by_cases hne : neB (inter (s.box L.length r.length) (wide s (can s L (L.length - 1) b) (s.tm L.length - s.tm (L.length - 1)))) = true
    ·rw [if_pos hne]
     have htog := hiff.1 hne
     have := ih L (r ++ [(b : Int)]) born gone (hmeas _) hL hN hsh (fun _ => by simp; omega) (fun h => absurd h e) (by
      rw [hb]
      have : bornR (r ++ [(b : Int)]) = bornR r := by
       simp only [bornR, List.count_append]
       have : List.count (-1) [(b : Int)] = 0 := by
        rw [List.count_eq_zero]; simp
       omega
      rw [this]) hb2 hg hcan (fun i x h => by
      rcases hgetr _ _ _ h with ⟨_, h⟩ | ⟨h1, h⟩
      ·exact hch i x h
      ·subst h; subst h1; exact .inr ⟨by omega, by simpa using hb', by simpa using htog⟩)
     rw [this, if_neg e, hq2]
    ·rw [if_neg hne]
     refine (flatMap_nil' fun x hx => ?_).symm
     obtain ⟨hp, hxl⟩ := choiF_pre hx
     have hlen : (L ++ [x]).length = L.length + 1 := by simp
     have hxb : x[r.length]? = some (b : Int) := by
      obtain ⟨y, rfl⟩ := hp
      rw [List.getElem?_append_left (by simp)]
      simp
     have : chB s (L ++ [x]) = false := by
      cases hc : chB s (L ++ [x]) with
      | false => rfl
      | true =>
       exfalso
       refine hne (hiff.2 fun p hp' => ?_)
       unfold chB at hc
       rw [hlen, Nat.add_sub_cancel, getD_last] at hc
       simp only [List.all_eq_true, List.mem_range] at hc
       have := hc r.length (by have := (List.getElem?_eq_some_iff.1 hxb).1; exact this) p (by
        rw [ht]
        simp only [anc, List.tail_cons]
        have hl : lnk (L ++ [x]) (t + 1) r.length = (b : Int) := by rw [← ht, lnk_last, List.getD_eq_getElem?_getD, hxb]; rfl
        rw [hl, if_pos (by omega), anc_app (by omega)]
        rw [ht, Nat.add_sub_cancel] at hp'
        simpa using hp')
       exact togB_iff.1 this
     have : okB s (L ++ [x]) = false := by unfold okB; rw [this, Bool.and_false]
     rw [this]; rfl
end Go.Low

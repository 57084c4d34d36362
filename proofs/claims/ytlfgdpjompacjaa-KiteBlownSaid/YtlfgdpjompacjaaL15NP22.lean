/- Where a balloon comes down, and for how long it flies: the law KiteLands. -/
import Derived.Test.YtlfgdpjompacjaaL15NP21
set_option linter.unusedVariables false
set_option linter.unusedSimpArgs false
namespace Go.Dm
set_option maxRecDepth 100000

/-! the least and the greatest of what a list comes to -/
def IsLst {α : Type} (g : α → Int) (l : List α) (v : Int) : Prop := (∀ x ∈ l, v ≤ g x) ∧ ∃ x ∈ l, v = g x
def IsGst {α : Type} (g : α → Int) (l : List α) (v : Int) : Prop := (∀ x ∈ l, g x ≤ v) ∧ ∃ x ∈ l, v = g x
theorem isLst_one {α : Type} (g : α → Int) (x : α) : IsLst g [x] (g x) := ⟨fun y hy => by rw [List.mem_singleton.1 hy]; exact Int.le_refl _, x, List.mem_singleton.2 rfl, rfl⟩
theorem isGst_one {α : Type} (g : α → Int) (x : α) : IsGst g [x] (g x) := ⟨fun y hy => by rw [List.mem_singleton.1 hy]; exact Int.le_refl _, x, List.mem_singleton.2 rfl, rfl⟩
theorem IsLst.snoc {α : Type} {g : α → Int} {l : List α} {v : Int} (h : IsLst g l v) (x : α) : IsLst g (l ++ [x]) (min v (g x)) := by
  obtain ⟨h1, y, hy, rfl⟩ := h
  refine ⟨fun z hz => ?_, ?_⟩
  · rcases List.mem_append.1 hz with q | q
    · have := h1 z q; omega
    · rw [List.mem_singleton.1 q]; omega
  · by_cases q : g y ≤ g x
    · exact ⟨y, List.mem_append_left _ hy, by omega⟩
    · exact ⟨x, List.mem_append_right _ (List.mem_singleton.2 rfl), by omega⟩
theorem IsGst.snoc {α : Type} {g : α → Int} {l : List α} {v : Int} (h : IsGst g l v) (x : α) : IsGst g (l ++ [x]) (max v (g x)) := by
  obtain ⟨h1, y, hy, rfl⟩ := h
  refine ⟨fun z hz => ?_, ?_⟩
  · rcases List.mem_append.1 hz with q | q
    · have := h1 z q; omega
    · rw [List.mem_singleton.1 q]; omega
  · by_cases q : g x ≤ g y
    · exact ⟨y, List.mem_append_left _ hy, by omega⟩
    · exact ⟨x, List.mem_append_right _ (List.mem_singleton.2 rfl), by omega⟩
/-! the rule -/
abbrev sixT : Type := Int × Int × Int × Int × Int × Int × Unit
/-- The winds of a direction, all least or all greatest. -/
def wnd (f : flightT) (north high : Bool) : rowI := rowW (fun j => bif high then (spT f north j).2.1 else (spT f north j).1) f.1.n
/-- How far a trip comes in a direction, with all least or all greatest winds. -/
def drI (f : flightT) (north high : Bool) (x : Int × Int × Int) : Int := drift f x.1 x.2.1 x.2.2 (wnd f north high)
def flI (f : flightT) (x : Int × Int × Int) : Int := flown f x.1 x.2.1 x.2.2
/-- Between which bounds a flight lands. -/
structure LandOK (f : flightT) (l : List (Int × Int × Int)) (o : sixT) : Prop where
  e0 : IsLst (drI f false false) l o.1
  e1 : IsGst (drI f false true) l o.2.1
  n0 : IsLst (drI f true false) l o.2.2.1
  n1 : IsGst (drI f true true) l o.2.2.2.1
  m0 : IsLst (flI f) l o.2.2.2.2.1
  m1 : IsGst (flI f) l o.2.2.2.2.2.1
theorem mem_rng : ∀ {n : Nat} {lo x : Int}, lo ≤ x → x < lo + n → x ∈ rng n lo
  | 0, _, _, h1, h2 => by omega
  | n + 1, lo, x, h1, h2 => by
    rw [rng]
    by_cases q : x = lo
    · subst q; exact List.mem_cons_self ..
    · exact List.mem_cons_of_mem _ (mem_rng (by omega) (by omega))
theorem mem_span {lo hi x : Int} (h1 : lo ≤ x) (h2 : x ≤ hi) : x ∈ span3 lo hi := mem_rng h1 (by unfold lens; omega)
theorem mem_trips {f : flightT} {u d t : Int} : (u, d, t) ∈ trips f ↔ (f.2.1 ≤ u ∧ u ≤ f.2.2.1) ∧ (f.2.2.2.1 ≤ d ∧ d ≤ f.2.2.2.2.1) ∧ (f.2.2.2.2.2.1 ≤ t ∧ t ≤ f.2.2.2.2.2.2.1) := by
  unfold trips
  simp only [List.mem_flatMap, List.mem_map]
  constructor
  · rintro ⟨a, ha, b, hb, c, hc, e⟩
    have e1 : a = u := congrArg Prod.fst e
    have e2 : b = d := congrArg (fun x => x.2.1) e
    have e3 : c = t := congrArg (fun x => x.2.2) e
    subst e1 e2 e3
    exact ⟨span3xmem ha, span3xmem hb, span3xmem hc⟩
  · rintro ⟨h1, h2, h3⟩
    exact ⟨u, mem_span h1.1 h1.2, d, mem_span h2.1 h2.2, t, mem_span h3.1 h3.2, rfl⟩
end Go.Dm


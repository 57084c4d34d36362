/- The first list of winds, in plain terms. -/
import Derived.Test.YtlfgdpjompacjaaL15NP13
set_option linter.unusedVariables false
set_option linter.unusedSimpArgs false
namespace Go.Dm
set_option maxRecDepth 100000

/-- The first number for which something is found. -/
def fstV {β : Type} (g : Int → Option β) : Nat → Int → Option β
  | 0, _ => none
  | c + 1, w => match g w with
    | some b => some b
    | none => fstV g c (w + 1)
theorem fstV_some {β : Type} {g : Int → Option β} : ∀ {c : Nat} {w : Int} {b : β}, fstV g c w = some b → ∃ i : Nat, i < c ∧ g (w + i) = some b ∧ ∀ j : Nat, j < i → g (w + j) = none
  | c + 1, w, b, h => by
    unfold fstV at h
    cases e : g w with
    | some b' =>
      rw [e] at h
      cases h
      exact ⟨0, by omega, by simpa using e, fun j hj => by omega⟩
    | none =>
      rw [e] at h
      obtain ⟨i, i1, i2, i3⟩ := fstV_some h
      refine ⟨i + 1, by omega, ?_, fun j hj => ?_⟩
      · have : w + ((i + 1 : Nat) : Int) = w + 1 + (i : Int) := by omega
        rw [this]; exact i2
      · cases j with
        | zero => simpa using e
        | succ j =>
          have : w + ((j + 1 : Nat) : Int) = w + 1 + (j : Int) := by omega
          rw [this]; exact i3 j (by omega)
theorem fstV_none {β : Type} {g : Int → Option β} : ∀ {c : Nat} {w : Int}, fstV g c w = none → ∀ j : Nat, j < c → g (w + j) = none
  | c + 1, w, h, j, hj => by
    unfold fstV at h
    cases e : g w with
    | some b' => rw [e] at h; cases h
    | none =>
      rw [e] at h
      cases j with
      | zero => simpa using e
      | succ j =>
        have : w + ((j + 1 : Nat) : Int) = w + 1 + (j : Int) := by omega
        rw [this]; exact fstV_none h j (by omega)
theorem fstV_all {β : Type} {g : Int → Option β} : ∀ {c : Nat} {w : Int}, (∀ j : Nat, j < c → g (w + j) = none) → fstV g c w = none
  | 0, _, _ => rfl
  | c + 1, w, h => by
    have e : g w = none := by simpa using h 0 (by omega)
    unfold fstV
    rw [e]
    refine fstV_all fun j hj => ?_
    have := h (j + 1) (by omega)
    have e2 : w + ((j + 1 : Nat) : Int) = w + 1 + (j : Int) := by omega
    rwa [e2] at this
theorem fstV_at {β : Type} {g : Int → Option β} : ∀ {c : Nat} {w : Int} {i : Nat} {b : β}, i < c → g (w + i) = some b → (∀ j : Nat, j < i → g (w + j) = none) → fstV g c w = some b
  | c + 1, w, 0, b, _, h1, _ => by
    have e : g w = some b := by simpa using h1
    unfold fstV
    rw [e]
  | c + 1, w, i + 1, b, hi, h1, h2 => by
    have e : g w = none := by simpa using h2 0 (by omega)
    unfold fstV
    rw [e]
    have e2 : w + ((i + 1 : Nat) : Int) = w + 1 + (i : Int) := by omega
    rw [e2] at h1
    refine fstV_at (i := i) (by omega) h1 fun j hj => ?_
    have := h2 (j + 1) (by omega)
    have e3 : w + ((j + 1 : Nat) : Int) = w + 1 + (j : Int) := by omega
    rwa [e3] at this

/-- The first list of winds of spans whose sum with minutes lies in a span: r layers from k on, s by then. -/
def goW (sp : Nat → spanI) (m : Nat → Int) (lo hi : Int) : Nat → Nat → Int → Option (List Int)
  | 0, _, s => bif inB s lo hi then some [] else none
  | r + 1, k, s => fstV (fun w => (goW sp m lo hi r (k + 1) (s + w * m k)).map (w :: ·)) (lens (sp k).1 (sp k).2.1) (sp k).1
/-- What is one of them. -/
def Val (sp : Nat → spanI) (m : Nat → Int) (lo hi : Int) : Nat → Nat → Int → List Int → Prop
  | 0, _, s, l => l = [] ∧ inB s lo hi = true
  | r + 1, k, s, l => ∃ w l', l = w :: l' ∧ (sp k).1 ≤ w ∧ w ≤ (sp k).2.1 ∧ Val sp m lo hi r (k + 1) (s + w * m k) l'
/-- One list comes before another one, or is it. -/
def Lex : List Int → List Int → Prop
  | [], _ => True
  | _ :: _, [] => False
  | a :: l, b :: l' => a < b ∨ (a = b ∧ Lex l l')
theorem Lex.rfl : ∀ l : List Int, Lex l l
  | [] => trivial
  | a :: l => .inr ⟨Eq.refl a, Lex.rfl l⟩
section
variable {sp : Nat → spanI} {m : Nat → Int} {lo hi : Int}
theorem goW_val : ∀ {r k : Nat} {s : Int} {l : List Int}, goW sp m lo hi r k s = some l → Val sp m lo hi r k s l
  | 0, k, s, l, h => by
    unfold goW at h
    cases e : inB s lo hi with
    | false => rw [e] at h; cases h
    | true => rw [e] at h; cases h; exact ⟨_root_.rfl, e⟩
  | r + 1, k, s, l, h => by
    unfold goW at h
    obtain ⟨i, i1, i2, _⟩ := fstV_some h
    cases e : goW sp m lo hi r (k + 1) (s + ((sp k).1 + i) * m k) with
    | none => simp [e] at i2
    | some l' =>
      simp only [e, Option.map_some, Option.some.injEq] at i2
      unfold lens at i1
      exact ⟨(sp k).1 + i, l', i2.symm, by omega, by omega, goW_val e⟩
theorem goW_least : ∀ {r k : Nat} {s : Int} {l' : List Int}, Val sp m lo hi r k s l' → ∃ l, goW sp m lo hi r k s = some l ∧ Lex l l'
  | 0, k, s, l', h => by
    obtain ⟨rfl, h⟩ := h
    exact ⟨[], by unfold goW; rw [h]; rfl, trivial⟩
  | r + 1, k, s, l', h => by
    obtain ⟨w, l0, rfl, h1, h2, h3⟩ := h
    obtain ⟨l1, g1, g2⟩ := goW_least h3
    have hw : (sp k).1 + ((w - (sp k).1).toNat : Int) = w := by omega
    have hi' : (w - (sp k).1).toNat < lens (sp k).1 (sp k).2.1 := by unfold lens; omega
    cases e : fstV (fun w => (goW sp m lo hi r (k + 1) (s + w * m k)).map (w :: ·)) (lens (sp k).1 (sp k).2.1) (sp k).1 with
    | none =>
      have := fstV_none e _ hi'
      simp only [hw, g1, Option.map_some] at this
      cases this
    | some l =>
      obtain ⟨i, i1, i2, i3⟩ := fstV_some e
      refine ⟨l, by unfold goW; exact e, ?_⟩
      have hle : i ≤ (w - (sp k).1).toNat := by
        by_cases q : i ≤ (w - (sp k).1).toNat
        · exact q
        · have := i3 (w - (sp k).1).toNat (by omega)
          simp only [hw, g1, Option.map_some] at this
          cases this
      cases e2 : goW sp m lo hi r (k + 1) (s + ((sp k).1 + i) * m k) with
      | none => simp [e2] at i2
      | some l2 =>
        simp only [e2, Option.map_some, Option.some.injEq] at i2
        rw [← i2]
        by_cases q : (sp k).1 + (i : Int) = w
        · rw [q, g1] at e2
          cases e2
          exact .inr ⟨q, g2⟩
        · exact .inl (by omega)
theorem val_len : ∀ {r k : Nat} {s : Int} {l : List Int}, Val sp m lo hi r k s l → l.length = r
  | 0, _, _, _, h => by rw [h.1]; rfl
  | r + 1, _, _, _, h => by
    obtain ⟨w, l', rfl, _, _, h3⟩ := h
    rw [List.length_cons, val_len h3]

end
end Go.Dm


/- LowSwift. -/
import Derived.Test.YtadkaccpacpklaaL11LP13
import Derived.Test.YtadkaccpacpklaaL11LM3
set_option linter.unusedVariables false
set_option linter.unusedSimpArgs false
namespace Go.Dm
set_option maxRecDepth 100000
open Go.Low
variable {s : tS.den}
theorem links_pre (hs : (ofS s).Ok) {t : Nat} (ht : t < s.1.n) {L : LL} (h : L ∈ links (ofS s)) : L.take (t + 1) ∈ links (ofS (preS s (t + 1))) := by
 have h := (mem_links hs).1 h
 have hlen : L.length = s.1.n := h.len
 have hp : L.take (t + 1) <+: L := List.take_prefix _ _
 have hl : (L.take (t + 1)).length = t + 1 := by rw [List.length_take]; omega
 have hb : (bnn s) = (ofS s).born := rfl
 refine (mem_links (pre_ok hs (by omega) (by omega))).2 ⟨hl, (getD_take (Nat.succ_pos t)).trans h.first, fun u hu => ?_, ?_, ?_, fun u hu i hi' p hp' => ?_⟩
 ·have hu' : u + 1 < t + 1 := hu
  rw [getD_take hu']
  exact h.row u (show u + 1 < s.1.n by omega)
 ·have h1 := bornL_pre hp
  have h2 := h.born
  have : (ofS (preS s (t + 1))).born = (ofS s).born := rfl
  omega
 ·have h1 := goneL_pre hp
  have h2 := h.gone
  have : (ofS (preS s (t + 1))).gone = (ofS s).gone := rfl
  omega
 ·have hu' : u < t + 1 := hu
  have e := anc_app (L := L.take (t + 1)) (M := L.drop (t + 1)) (t := u) (i := i) (by omega)
  rw [List.take_append_drop] at e
  rw [← e] at hp'
  exact h.ch u (show u < s.1.n by omega) i hi' p hp'
def anyL (s : tS.den) : Bool := !(links (ofS s)).isEmpty
theorem anyL_iff : anyL s = true ↔ ∃ L, L ∈ links (ofS s) := by
 unfold anyL
 cases links (ofS s) with
 | nil => simp
 | cons a l => exact ⟨fun _ => ⟨a, .head _⟩, fun _ => rfl⟩
theorem clash_none (hs : (ofS s).Ok) : (fstN (noL s) s.1.n).isNone = anyL s := by
 have hn1 : 0 < s.1.n := hs.n1
 cases h : fstN (noL s) s.1.n with
 | none =>
  have h1 := fstN_none h (s.1.n - 1) (by omega)
  unfold noL at h1
  rw [Nat.sub_add_cancel hn1] at h1
  show true = !(links (ofS s)).isEmpty
  have e : (links (ofS s)).isEmpty = false := h1
  rw [e]; rfl
 | some k =>
  obtain ⟨h1, h2, _⟩ := fstN_some h
  cases ha : anyL s with
  | false => rfl
  | true =>
   obtain ⟨L, hL⟩ := anyL_iff.1 ha
   have h3 := links_pre hs h1 hL
   unfold noL at h2
   rw [List.isEmpty_iff] at h2
   rw [h2] at h3
   cases h3
theorem M46xr (hs : okS s = true) (hn : s.1.n ≤ 1000) (hk : ∀ t, t < s.1.n → (s.1.g t).2.1.n ≤ 1000) : ∃ v : Int, M46 (no_index (s, ())) = some (v, ((bif anyL s then (5 : Int) else 0), ())) := by
 have h := M46xe hs hn hk
 have e := clash_none (okS_ok hs)
 rw [← e]
 revert h
 cases fstN (noL s) s.1.n with
 | none => intro h; exact ⟨_, h⟩
 | some k => intro h; exact ⟨_, h⟩
theorem okS_sp (h : okS s = true) {v : Int} (h0 : 0 ≤ v) (h1 : v ≤ 50) : okS (spS s v) = true := by
 unfold okS numB at h ⊢
 rw [Bool.and_eq_true, Bool.and_eq_true, Bool.and_eq_true] at h ⊢
 refine ⟨h.1, h.2.1, ?_, h.2.2.2⟩
 unfold rgB
 rw [Bool.and_eq_true]
 exact ⟨decide_eq_true h0, decide_eq_true h1⟩
theorem any_speed (hs : (ofS s).Ok) {v w : Int} (h0 : 0 ≤ v) (h1 : v ≤ w) (h2 : w ≤ 50) (h : anyL (spS s v) = true) : anyL (spS s w) = true := by
 obtain ⟨L, hL⟩ := anyL_iff.1 h
 refine anyL_iff.2 ⟨L, links_mono (sp_ok hs ⟨h0, by omega⟩) (sp_ok hs ⟨by omega, h2⟩) rfl (fun _ _ => rfl) rfl (fun a => ?_) (Int.le_refl _) (Int.le_refl _) (fun _ _ _ _ _ _ => ⟨Int.le_refl _, Int.le_refl _⟩) hL⟩
 match a with
 | 0 => exact h1
 | 1 => exact h1
 | a + 2 => exact Int.le_refl _
theorem yes_any (v : Nat) : yesL s v = anyL (spS s v) := rfl
theorem sp_self : spS s (spd s) = s := rfl
theorem swift_law (s : tS.den) (slower : Int) : M11 (s, (slower, ())) = some (true, ()) := by
 unfold M11 Q11
 obtain ⟨b, h1, h2⟩ := M16xe (s := s)
 refine (cl_of h1).trans ?_
 cases b with
 | false => exact (bif_t rfl).trans (cl_of known_M)
 | true =>
  refine (bif_f rfl).trans ?_
  obtain ⟨hn, hk⟩ := h2 rfl
  have hn' : s.1.n ≤ 1000 := by omega
  have hk' : ∀ t, t < s.1.n → (s.1.g t).2.1.n ≤ 1000 := fun t ht => by have := hk t ht; omega
  refine (cl_of (M21xe hn' hk')).trans ?_
  cases ho : okS s with
  | false => exact (bif_t rfl).trans (cl_of known_M)
  | true =>
   refine (bif_f rfl).trans ?_
   obtain ⟨sm, h27⟩ := M27xe (s := s) hn'
   refine (cl_of h27).trans ?_
   cases sm with
   | false => exact (bif_t rfl).trans (cl_of known_M)
   | true =>
    refine (bif_f rfl).trans ?_
    have hok := okS_ok ho
    have hsp : 0 ≤ spd s ∧ spd s ≤ 50 := hok.sp
    obtain ⟨v7, h46⟩ := M46xr ho hn' hk'
    have h28 := M28xe ho hn' hk'
    have h46s : ∀ v : Int, 0 ≤ v → v ≤ 50 → ∃ u : Int, M46 (no_index (((s.1, (v, s.2.2)) : tS.den), ())) = some (u, ((bif anyL (spS s v) then (5 : Int) else 0), ())) := fun v q1 q2 => M46xr (s := spS s v) (okS_sp ho q1 q2) hn' hk'
    cases hf : fstN (yesL s) 51 with
    | none =>
     rw [hf] at h28
     have hno := fstN_none hf
     have e1 : anyL s = false := by
      have := hno (spd s).toNat (by omega)
      rw [yes_any] at this
      have e : ((spd s).toNat : Int) = spd s := by omega
      rwa [e, sp_self] at this
     have e2 : anyL (spS s 50) = false := hno 50 (by omega)
     obtain ⟨v8, h50⟩ := h46s 50 (by omega) (by omega)
     rw [e1] at h46
     rw [e2] at h50
     refine (cl_of h28).trans ?_
     refine (cl_of h46).trans ?_
     refine (bif_t rfl).trans ?_
     refine (cl_of h50).trans ?_
     exact (bif_t rfl).trans ((bif_t rfl).trans ((bif_t rfl).trans (cl_of known_M)))
    | some k =>
     rw [hf] at h28
     obtain ⟨k1, k2, k3⟩ := fstN_some hf
     refine (cl_of h28).trans ?_
     refine (cl_of h46).trans ?_
     refine (bif_f rfl).trans ?_
     have c1 : ¬ ((k : Int) < 0) := by omega
     have c2 : ¬ ((50 : Int) < (k : Int)) := by omega
     refine (bif_f (decide_eq_false c1)).trans ?_
     refine (bif_f (decide_eq_false c2)).trans ?_
     have hka : anyL (spS s (k : Int)) = true := k2
     have hlow : ∀ v : Int, 0 ≤ v → v < (k : Int) → anyL (spS s v) = false := fun v q1 q2 => by
      have := k3 v.toNat (by omega)
      rw [yes_any] at this
      have e : (v.toNat : Int) = v := by omega
      rwa [e] at this
     have e3 : anyL s = decide ((k : Int) ≤ spd s) := by
      by_cases c : (k : Int) ≤ spd s
      ·rw [decide_eq_true c]
       have := any_speed hok (v := (k : Int)) (w := spd s) (by omega) c hsp.2 hka
       rwa [sp_self] at this
      ·rw [decide_eq_false c]
       have := hlow (spd s) hsp.1 (by omega)
       rwa [sp_self] at this
     have e4 : (!(decide ((bif anyL s then (5 : Int) else 0) = (5 : Int)) == decide ((k : Int) ≤ spd s))) = false := by
      rw [e3]
      cases decide ((k : Int) ≤ spd s) <;> rfl
     refine (bif_f e4).trans ?_
     obtain ⟨vk, hk46⟩ := h46s (k : Int) (by omega) (by omega)
     rw [hka] at hk46
     refine (cl_of hk46).trans ?_
     refine (bif_f rfl).trans ?_
     by_cases c3 : 0 ≤ slower
     ·refine (bif_t (decide_eq_true c3)).trans ?_
      by_cases c4 : slower < (k : Int)
      ·refine (bif_t (decide_eq_true c4)).trans ?_
       obtain ⟨vl, hl46⟩ := h46s slower c3 (by omega)
       rw [hlow slower c3 c4] at hl46
       refine (cl_of hl46).trans ?_
       exact (bif_t rfl).trans (cl_of known_M)
      ·exact (bif_f (decide_eq_false c4)).trans (cl_of known_M)
     ·exact (bif_f (decide_eq_false c3)).trans (cl_of known_M)
theorem law11 (x : (a11).den) : M11 x = some (true, ()) := by
 obtain ⟨s, slower, ⟨⟩⟩ := x
 exact swift_law s slower
end Go.Dm

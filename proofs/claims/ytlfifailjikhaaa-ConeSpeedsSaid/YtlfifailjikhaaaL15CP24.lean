/- The reference's best urgent reports. -/
import Derived.Test.YtlfifailjikhaaaL15CP23
set_option linter.unusedVariables false
set_option linter.unusedSimpArgs false
namespace Go.Dm
set_option maxRecDepth 100000

def Seen (l : rowsT) (k i : Nat) (u : rowI) : Prop := u.n < k ∨ (u.n = k ∧ ∃ a, a < i ∧ Sam u (l.g a).1)
def BetU (w : wT) (u p : rowI) : Prop := Bet (cstI w u) u.n (cod u u.n) (cstI w p) p.n (cod p p.n)
theorem Sam.bet {w : wT} {u v p : rowI} (h : Sam u v) : BetU w v p ↔ BetU w u p := by
  unfold BetU
  rw [h.cst, h.cod, h.1]
structure RefI (w : wT) (m : Int) (l : rowsT) (k i : Nat) (best : rowI) (found : Bool) : Prop where
  no : found = false → ∀ u, urgB w u = true → Seen l k i u → sufB w u m = false
  yes : found = true → urgB w best = true ∧ sufB w best m = true ∧ Seen l k i best ∧ ∀ u, urgB w u = true → sufB w u m = true → Seen l k i u → ¬ BetU w u best
theorem seen_s {l : rowsT} {k i : Nat} {u : rowI} (h : Seen l k (i + 1) u) : Seen l k i u ∨ (u.n = k ∧ Sam u (l.g i).1) := by
  rcases h with h | ⟨h1, a, h2, h3⟩
  · exact .inl (.inl h)
  · by_cases e : a = i
    · subst e; exact .inr ⟨h1, h3⟩
    · exact .inl (.inr ⟨h1, a, by omega, h3⟩)
theorem seen_m {l : rowsT} {k i : Nat} {u : rowI} (h : Seen l k i u) : Seen l k (i + 1) u := by
  rcases h with h | ⟨h1, a, h2, h3⟩
  · exact .inl h
  · exact .inr ⟨h1, a, by omega, h3⟩
theorem RefI.take {w : wT} (hn : w.2.1.n ≤ 1000) {m : Int} {l : rowsT} {k i : Nat} {best : rowI} {found : Bool} (h : RefI w m l k i best found) (hl : SetsK w.2.1.n k l) (hi : i < l.n) (hs : sufB w (l.g i).1 m = true)
    (hc : found = true → cstI w (l.g i).1 < cstI w best) : RefI w m l k (i + 1) (l.g i).1 true := by
  refine ⟨fun e => (by cases e), fun _ => ⟨(urg_inc hn).2 (hl.inc i hi), hs, .inr ⟨hl.len i hi, i, Nat.lt_succ_self i, rfl, fun _ _ => rfl⟩, fun u u1 u2 u3 => ?_⟩⟩
  rcases seen_s u3 with u3 | ⟨_, u3⟩
  · cases found with
    | false => rw [h.no rfl u u1 u3] at u2; cases u2
    | true =>
      have h1 := (h.yes rfl).2.2.2 u u1 u2 u3
      have h2 := hc rfl
      unfold BetU Bet at h1 ⊢
      omega
  · rw [← u3.bet]
    unfold BetU Bet
    omega
theorem RefI.pass {w : wT} {m : Int} {l : rowsT} {k i : Nat} {best : rowI} {found : Bool} (h : RefI w m l k i best found) (hl : SetsK w.2.1.n k l) (hi : i < l.n)
    (hc : sufB w (l.g i).1 m = false ∨ (found = true ∧ ¬ cstI w (l.g i).1 < cstI w best)) : RefI w m l k (i + 1) best found := by
  refine ⟨fun e u u1 u2 => ?_, fun e => ?_⟩
  · rcases seen_s u2 with u2 | ⟨_, u2⟩
    · exact h.no e u u1 u2
    · rw [← u2.suf]
      rcases hc with c | ⟨c, _⟩
      · exact c
      · rw [e] at c; cases c
  · obtain ⟨h1, h2, h3, h4⟩ := h.yes e
    refine ⟨h1, h2, seen_m h3, fun u u1 u2 u3 => ?_⟩
    rcases seen_s u3 with u3 | ⟨u4, u3⟩
    · exact h4 u u1 u2 u3
    · rcases hc with c | ⟨_, c⟩
      · rw [← u3.suf, c] at u2; cases u2
      · rw [← u3.bet]
        have hln := hl.len i hi
        rcases h3 with h3 | ⟨h3, a, a1, a2⟩
        · unfold BetU Bet
          omega
        · have := hl.ord a i a1 hi
          have ec : cod best best.n = cod (l.g a).1 k := by rw [← a2.cod, hl.len a (by omega)]
          unfold BetU Bet
          rw [ec, hln]
          omega
theorem L48i_e {w : wT} (hw : watchB w = true) {m : Int} {l : rowsT} {k : Nat} (hk : k ≤ 9) (hl : SetsK w.2.1.n k l) {best : rowI} {found : Bool} (h0 : RefI w m l k 0 best found) :
    ∃ b f, RefI w m l k l.n b f ∧ L48x0x0 (no_index (m, ((), ((k : Int), (l, (w, ())))))) (no_index (best, (found, ((0 : Int), ())))) = .exit 2 (b, (f, ())) := by
  have h9 := (small hw).1
  have hsz := hl.siz
  have hp9 := pow9 hk
  have := iterQ_rel (ps := vs48x0x0) (wy := wv48x0x0) (step := S48x0x0 (no_index (m, ((), ((k : Int), (l, (w, ()))))))) (N := big)
    (P := fun j s => ∃ b f, s = (b, (f, ((j : Int), ()))) ∧ RefI w m l k j b f)
    (q := fun s => .exit 2 (s.1, (s.2.1, ()))) l.n (big_lt (by omega)) ?_ ?_ (best, (found, ((0 : Int), ()))) ⟨best, found, rfl, h0⟩
  · obtain ⟨s', ⟨b, f, rfl, hM⟩, e⟩ := this
    exact ⟨b, f, hM, e⟩
  · rintro j s hj ⟨b, f, rfl, hM⟩
    have hu := hl.inc j hj
    have hul := hu.len
    have hub := (urg_inc (w := w) (by omega)).2 hu
    have huu := urg_in (w := w) (by omega) hub
    have hln : (l.g j).1.n ≤ 1000 := by omega
    have e47 : M47 (no_index (w, ((l.g j).1, (m, ())))) = _ := M47xe hw huu hln m
    have e50 : M50 (no_index (w, (l.g j))) = _ := M50xe hw huu hln
    unfold S48x0x0 Z48x0x0
    simp only [lt_ok hj, idx_ok hj, W_nat hj (by omega : l.n ≤ 140737488355328), decide_true, cond_true, and_self, Int.toNat_natCast, e47, e50, cl_some]
    cases f with
    | false =>
      cases hs : sufB w (l.g j).1 m with
      | true => exact ⟨_, rfl, _, _, rfl, hM.take (by omega) hl hj hs fun e => (by cases e)⟩
      | false => exact ⟨_, rfl, _, _, rfl, hM.pass hl hj (.inl hs)⟩
    | true =>
      obtain ⟨y1, y2, y3, y4⟩ := hM.yes rfl
      have bi := (urg_inc (w := w) (by omega)).1 y1
      have e50b : M50 (no_index (w, (b, ()))) = _ := M50xe hw (urg_in (w := w) (by omega) y1) (by have := bi.len; omega)
      simp only [e50b, cl_some, Bool.not_true, cond_false]
      by_cases hc : cstI w (l.g j).1 < cstI w b
      · simp only [hc, decide_true, cond_true]
        cases hs : sufB w (l.g j).1 m with
        | true => exact ⟨_, rfl, _, _, rfl, hM.take (by omega) hl hj hs fun _ => hc⟩
        | false => exact ⟨_, rfl, _, _, rfl, hM.pass hl hj (.inl hs)⟩
      · simp only [hc, decide_false, cond_false]
        exact ⟨_, rfl, _, _, rfl, hM.pass hl hj (.inr ⟨rfl, hc⟩)⟩
  · rintro s ⟨b, f, rfl, hM⟩
    unfold S48x0x0 Z48x0x0
    simp only [Int.lt_irrefl, decide_false, cond_false]
theorem M48xe {w : wT} (hw : watchB w = true) (m : Int) :
    ((∀ u, urgB w u = true → sufB w u m = false) ∧ ∃ r, M48 (no_index (w, (m, ()))) = some (r, (false, ()))) ∨ ∃ l, M48 (no_index (w, (m, ()))) = some (l, (true, ())) ∧ IsBest w m l (cstI w l) := by
  have h9 := (small hw).1
  have := iterQ_rel (ps := vs48x0) (wy := wv48x0) (step := S48x0 (no_index (m, ((), (w, ()))))) (N := big)
    (P := fun j s => ∃ b f, s = (b, (f, ((j : Int), ()))) ∧ RefI w m nx0 j 0 b f)
    (q := fun s => .exit 0 (s.1, (s.2.1, ()))) (w.2.1.n + 1) (big_lt (by omega)) ?_ ?_ (row0, (false, ((0 : Int), ()))) ⟨row0, false, rfl, fun _ u _ h => by rcases h with h | ⟨_, a, h, _⟩ <;> omega, fun e => (by cases e)⟩
  · obtain ⟨s', ⟨b, f, rfl, hM⟩, e⟩ := this
    have run : M48 (no_index (w, (m, ()))) = some (b, (f, ())) := by
      unfold M48 Q48
      exact congrArg (fun (q : LQ wv48x0) => onExit q 0 (fun (u0 : (patsTy (wayP wv48x0 0)).den) => (some u0 : Option (r48).den)) none) e
    have hs : ∀ u, urgB w u = true → Seen nx0 (w.2.1.n + 1) 0 u := fun u hu => .inl (by have := ((urg_inc (w := w) (by omega)).1 hu).len; omega)
    cases f with
    | false => exact .inl ⟨fun u hu => hM.no rfl u hu (hs u hu), b, run⟩
    | true =>
      obtain ⟨y1, y2, y3, y4⟩ := hM.yes rfl
      exact .inr ⟨b, run, y1, y2, rfl, fun p p1 p2 => y4 p p1 p2 (hs p p1)⟩
  · rintro j s hj ⟨b, f, rfl, hM⟩
    obtain ⟨l, l1, l2⟩ := M82xe (B := w.2.1.n) (k := j) h9 (by omega)
    have h0 : RefI w m l j 0 b f := by
      have conv : ∀ u, Seen l j 0 u ↔ Seen nx0 j 0 u := fun u => by
        unfold Seen
        constructor <;> rintro (h | ⟨_, a, h, _⟩) <;> first | exact .inl h | omega
      refine ⟨fun e u u1 u2 => hM.no e u u1 ((conv u).1 u2), fun e => ?_⟩
      obtain ⟨y1, y2, y3, y4⟩ := hM.yes e
      exact ⟨y1, y2, (conv b).2 y3, fun u u1 u2 u3 => y4 u u1 u2 ((conv u).1 u3)⟩
    obtain ⟨b', f', h1, h2⟩ := L48i_e hw (by omega) l1 h0
    have hle : ((j : Int) ≤ ((w.2.1.n : Nat) : Int)) := by omega
    refine ⟨(b', (f', (((j + 1 : Nat) : Int), ()))), ?_, b', f', rfl, ?_⟩
    · unfold S48x0 Z48x0
      simp only [hle, decide_true, cond_true]
      refine (congrArg (fun o => cl (r82).dflt o _ _) l2).trans ?_
      simp only [cl_some]
      refine (congrArg (fun o => onExit o 2 _ _) h2).trans ?_
      show (RQ.next (b', (f', (W ((j : Int) + 1), ()))) : RQ vs48x0 wv48x0) = _
      rw [W_nat (show j < j + 1 by omega) (by omega)]
    · have conv : ∀ u, urgB w u = true → (Seen nx0 (j + 1) 0 u ↔ Seen l j l.n u) := fun u hu => by
        unfold Seen
        constructor
        · rintro (h | ⟨_, a, h, _⟩)
          · by_cases e : u.n = j
            · obtain ⟨i, i1, i2⟩ := l1.all u ((urg_inc (w := w) (by omega)).1 hu) e
              exact .inr ⟨e, i, i1, i2⟩
            · exact .inl (by omega)
          · omega
        · rintro (h | ⟨h, _⟩)
          · exact .inl (by omega)
          · exact .inl (by omega)
      refine ⟨fun e u u1 u2 => h1.no e u u1 ((conv u u1).1 u2), fun e => ?_⟩
      obtain ⟨y1, y2, y3, y4⟩ := h1.yes e
      exact ⟨y1, y2, (conv b' y1).2 y3, fun u u1 u2 u3 => y4 u u1 u2 ((conv u u1).1 u3)⟩
  · rintro s ⟨b, f, rfl, hM⟩
    have hle : ¬ (((w.2.1.n + 1 : Nat) : Int) ≤ ((w.2.1.n : Nat) : Int)) := by omega
    unfold S48x0 Z48x0
    simp only [hle, decide_false, cond_false]
theorem M49xe {a b : rowI} (h : a.n ≤ 1000) (hs : Sam a b) : M49 (no_index (a, (b, ()))) = some (true, ()) := by
  have hn := hs.1
  have : L49x0 (no_index (a, (b, ()))) (no_index ((0 : Int), ())) = .exit 0 () := by
    unfold L49x0
    refine iterQ_steps (ps := vs49x0) a.n big (fun j => ((j : Int), ())) (big_lt (by omega)) (fun j hj => ?_) ?_
    · have hj' : j < b.n := by omega
      unfold S49x0 Z49x0
      simp only [lt_ok hj, idx_ok hj, idx_ok hj', W_nat hj (show a.n ≤ _ by omega), decide_true, cond_true, and_self, Int.toNat_natCast, hs.2 j hj, Bool.not_true, cond_false]
    · unfold S49x0 Z49x0
      simp only [Int.lt_irrefl, decide_false, cond_false]
  unfold M49 Q49
  simp only [hn, this]
  simp
end Go.Dm

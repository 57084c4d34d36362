/- The reference: all links. -/
import Derived.Test.YtadkaccpacpklaaL4LP8
set_option linter.unusedVariables false
set_option linter.unusedSimpArgs false
namespace Go.Dm
set_option maxRecDepth 100000
open Go.Low
variable {s : tS.den}
abbrev allT := Sl (Ty.den (.cons (.sl (.cons (.sl tL1) .nil)) .nil))
def linksL (o : allT) : List LL := (List.range o.n).map fun t => rowsL (o.g t).1
theorem linksL_len (o : allT) : (linksL o).length = o.n := by simp [linksL]
theorem linksL_get {o : allT} {i : Nat} (h : i < o.n) : (linksL o)[i]? = some (rowsL (o.g i).1) := by
 unfold linksL
 rw [List.getElem?_map, List.getElem?_range h]; rfl
theorem linksL_snoc (o : allT) (y : rowsT) : linksL (snoc o (y, ())) = linksL o ++ [rowsL y] := by
 unfold linksL
 rw [snoc_n, List.range_succ, List.map_append]
 congr 1
 ·exact List.map_congr_left fun i hi => by rw [snoc_lt (List.mem_range.1 hi)]
 ·simp only [List.map_cons, List.map_nil]
  rw [snoc_at]
theorem rowsL_snoc' (o : rowsT) (y : Ty.den (.cons (.sl tL1) .nil)) : rowsL (snoc o y) = rowsL o ++ [listOf y.1] := rowsL_snoc o y.1
def stepF (s : PS) (L : LL) (r : List Int) : List LL := if okB s (L ++ [r]) then [L ++ [r]] else []
theorem stepF_len {p : PS} {L : LL} {r : List Int} : (stepF p L r).length ≤ 1 := by
 unfold stepF
 split <;> simp
theorem bfsA_succ (p : PS) : ∀ (m : Nat) (out : List LL), bfsA p (m + 1) out = (bfsA p m out).flatMap (stepA p)
 | 0, out => rfl
 | m + 1, out => by rw [bfsA, bfsA_succ p m]; rfl
theorem choiF_len {before m : Nat} (hb : before ≤ 3) (hm : m ≤ 3) : (choiF before m []).length ≤ 64 := by
 have h1 := bfsC_len hb m
 have h2 : bfsC before m [[]] = choiF before m [] := by rw [bfsC_eq]; simp
 have h4 : 4 ^ m ≤ 4 ^ 3 := Nat.pow_le_pow_right (by omega) hm
 rw [h2] at h1
 omega
theorem Pre.row {L : LL} {r : List Int} (h : Pre s L) (hlt : L.length < s.1.n) (hr : r ∈ choiF (s.1.g (L.length - 1)).2.1.n (s.1.g L.length).2.1.n []) : Pre s (L ++ [r]) := by
 have hrow := mem_choi.1 hr
 have hpos := h.sh.pos
 have hsh : Shape s L r := ⟨h.sh.pos, h.sh.le, h.sh.len, h.sh.val, fun _ => by rw [hrow.1]; exact Nat.le_refl _, fun e => by omega, fun i x hx => by
  rcases hrow.2 i x hx with q | q
  ·exact .inl q
  ·exact .inr ⟨q.1, q.2.1⟩⟩
 refine ⟨hsh.row hlt hrow.1, ?_⟩
 rw [getD_app hpos]; exact h.first
theorem L22xin (hs : (ofS s).Ok) {out : allT} {cho : rowsT} {t i : Nat} {c5 : Int} (hi : i < out.n) (hcho : rowsL cho = choiF (s.1.g (t - 1)).2.1.n (s.1.g t).2.1.n []) (hP : Pre s (rowsL (out.g i).1)) (hlen : (rowsL (out.g i).1).length = t) (hlt : t < s.1.n)
    (nx0 : allT) (hn0 : nx0.n ≤ 1000000) :
    ∃ nx : allT, L22x0x0x0 ((), (out, (c5, (cho, ((i : Int), (s, ())))))) (nx0, ((0 : Int), ())) = .exit 4 (nx, ()) ∧ linksL nx = linksL nx0 ++ stepA (ofS s) (rowsL (out.g i).1) := by
  have hn4 := small_n hs
  have hc64 : cho.n ≤ 64 := by
    have := congrArg List.length hcho
    rw [rowsL_len] at this
    have h2 := choiF_len (before := (s.1.g (t - 1)).2.1.n) (m := (s.1.g t).2.1.n) (small_k hs (by omega)) (small_k hs hlt)
    omega
  have hrn : (out.g i).1.n = t := by rw [← rowsL_len]; exact hlen
  have h24 : (out.g i).1.n * 24 ≤ 140737488355328 := by omega
  have h25 : ((out.g i).1.n + 1) * 24 ≤ 140737488355328 := by omega
  have hst : stepA (ofS s) (rowsL (out.g i).1) = (rowsL cho).flatMap (stepF (ofS s) (rowsL (out.g i).1)) := by
    unfold stepA
    rw [hcho, hlen]; rfl
  unfold L22x0x0x0
  obtain ⟨v, ⟨nx, hv, h1⟩, h2⟩ := iterQ_rel (step := S22x0x0x0 ((), (out, (c5, (cho, ((i : Int), (s, ()))))))) (N := big)
    (P := fun j v => ∃ nx : allT, v = (nx, ((j : Int), ())) ∧ linksL nx = linksL nx0 ++ ((rowsL cho).take j).flatMap (stepF (ofS s) (rowsL (out.g i).1)))
    (q := fun v => .exit 4 (v.1, ())) cho.n (by unfold big; omega) (fun j v hj hp => by
      obtain ⟨nx, rfl, h1⟩ := hp
      have hnx : nx.n ≤ 1000064 := by
        have := congrArg List.length h1
        rw [List.length_append, linksL_len, linksL_len] at this
        have h3 := flat_len (l := (rowsL cho).take j) (f := stepF (ofS s) (rowsL (out.g i).1)) (k := 1) fun a _ => stepF_len
        rw [List.length_take, rowsL_len] at h3
        omega
      have hnx24 : (nx.n + 1) * 24 ≤ 140737488355328 := by omega
      have hmem : listOf (cho.g j).1 ∈ choiF (s.1.g (t - 1)).2.1.n (s.1.g t).2.1.n [] := by rw [← hcho]; exact List.mem_of_getElem? (rowsL_get hj)
      have hPn : Pre s (rowsL (snoc (out.g i).1 (cho.g j))) := by
        rw [rowsL_snoc']
        exact hP.row (by omega) (by rw [hlen]; exact hmem)
      have hnn : (snoc (out.g i).1 (cho.g j)).n = t + 1 := by rw [snoc_n, hrn]
      have hkk : ∀ u, u < (snoc (out.g i).1 (cho.g j)).n → ((snoc (out.g i).1 (cho.g j)).g u).1.n ≤ 3 := fun u hu => by
        have := hPn.sh.len u (by rw [rowsL_len]; exact hu)
        rw [rowsL_getD hu, listOf_len] at this
        rw [this]
        exact small_k hs (by omega)
      have m56 := M56xe (o := snoc (out.g i).1 (cho.g j)) (by omega) (by omega) hkk
      have m61 := M61xe (o := snoc (out.g i).1 (cho.g j)) (by omega) (by omega) hkk
      have m71 := M71xe hs hPn
      have w1 : W ((j : Int) + 1) = ((j + 1 : Nat) : Int) := W_nat hj (by omega)
      have htake : ((rowsL cho).take (j + 1)).flatMap (stepF (ofS s) (rowsL (out.g i).1)) = ((rowsL cho).take j).flatMap (stepF (ofS s) (rowsL (out.g i).1)) ++ stepF (ofS s) (rowsL (out.g i).1) (listOf (cho.g j).1) := by
        rw [take_succ_get hj, List.flatMap_append]; simp
      have hF : stepF (ofS s) (rowsL (out.g i).1) (listOf (cho.g j).1) = if okB (ofS s) (rowsL (snoc (out.g i).1 (cho.g j))) then [rowsL (snoc (out.g i).1 (cho.g j))] else [] := by
        rw [rowsL_snoc']; rfl
      have key : S22x0x0x0 ((), (out, (c5, (cho, ((i : Int), (s, ())))))) (nx, ((j : Int), ())) = .next (bif okB (ofS s) (rowsL (snoc (out.g i).1 (cho.g j))) then snoc nx (snoc (out.g i).1 (cho.g j), ()) else nx, (((j + 1 : Nat) : Int), ())) := by
        unfold S22x0x0x0 Z22x0x0x0
        refine (bif_t (decide_eq_true (lt_ok hj))).trans ?_
        refine (bif_t (decide_eq_true (idx_ok hi))).trans ?_
        refine (bif_t (decide_eq_true h24)).trans ?_
        refine (bif_t (decide_eq_true (idx_ok hj))).trans ?_
        refine (bif_t (decide_eq_true h25)).trans ?_
        refine (cl_of m56).trans ?_
        have nxt : ∀ z : allT, (RQ.next (show (patsTy vs22x0x0x0).den from (z, (W ((j : Int) + 1), ()))) : RQ vs22x0x0x0 wv22x0x0x0) = .next (z, (((j + 1 : Nat) : Int), ())) := fun z => by rw [w1]
        unfold okB
        by_cases c1 : ((bornL (rowsL (snoc (out.g i).1 (cho.g j))) : Nat) : Int) ≤ (ofS s).born
        · refine (bif_t (decide_eq_true c1)).trans ?_
          refine (cl_of m61).trans ?_
          by_cases c2 : ((goneL (rowsL (snoc (out.g i).1 (cho.g j))) : Nat) : Int) ≤ (ofS s).gone
          · refine (bif_t (decide_eq_true c2)).trans ?_
            refine (cl_of m71).trans ?_
            rw [decide_eq_true c1, decide_eq_true c2, Bool.true_and, Bool.true_and]
            cases chB (ofS s) (rowsL (snoc (out.g i).1 (cho.g j))) with
            | true =>
              refine (bif_t rfl).trans ?_
              refine (bif_t (decide_eq_true hnx24)).trans ?_
              exact nxt _
            | false => exact nxt _
          · refine (bif_f (decide_eq_false c2)).trans ?_
            rw [decide_eq_false c2, Bool.and_false, Bool.false_and]
            exact nxt _
        · refine (bif_f (decide_eq_false c1)).trans ?_
          rw [decide_eq_false c1, Bool.false_and, Bool.false_and]
          exact nxt _
      refine ⟨_, key, _, rfl, ?_⟩
      rw [htake, hF]
      cases okB (ofS s) (rowsL (snoc (out.g i).1 (cho.g j))) with
      | true => rw [cond_true, if_pos rfl, linksL_snoc, h1, List.append_assoc]
      | false => rw [cond_false, if_neg (by simp), List.append_nil, h1]) (fun v hp => by
      obtain ⟨nx, rfl, h1⟩ := hp
      unfold S22x0x0x0 Z22x0x0x0
      have : ¬ ((cho.n : Int) < (cho.n : Int)) := by omega
      exact bif_f (decide_eq_false this)) (nx0, ((0 : Int), ())) ⟨nx0, rfl, by simp⟩
  exact ⟨nx, h2.trans (by rw [hv]), by rw [h1, hst, List.take_of_length_le (by rw [rowsL_len]; exact Nat.le_refl _)]⟩
theorem stepA_len (hs : (ofS s).Ok) {L : LL} (hL : L.length < s.1.n) : (stepA (ofS s) L).length ≤ 64 := by
 have h1 := flat_len (l := choiF ((ofS s).k (L.length - 1)) ((ofS s).k L.length) []) (f := stepF (ofS s) L) (k := 1) fun a _ => stepF_len
 have h2 := choiF_len (before := (ofS s).k (L.length - 1)) (m := (ofS s).k L.length) (small_k hs (by omega)) (small_k hs hL)
 have : stepA (ofS s) L = (choiF ((ofS s).k (L.length - 1)) ((ofS s).k L.length) []).flatMap (stepF (ofS s) L) := rfl
 rw [this]
 omega
theorem L22xmid (hs : (ofS s).Ok) {out : allT} {cho : rowsT} {t : Nat} (hout : out.n ≤ 4096) (hcho : rowsL cho = choiF (s.1.g (t - 1)).2.1.n (s.1.g t).2.1.n []) (hP : ∀ i, i < out.n → Pre s (rowsL (out.g i).1) ∧ (rowsL (out.g i).1).length = t) (hlt : t < s.1.n) :
    ∃ nx : allT, L22x0x0 ((), (out, ((t : Int), (cho, (s, ()))))) ((⟨0, fun i => ((⟨0, fun i => ((⟨0, fun i => ((0 : Int), ())⟩ : Sl _), ())⟩ : Sl _), ())⟩ : Sl _), ((0 : Int), ())) = .exit 2 (nx, ()) ∧ linksL nx = (linksL out).flatMap (stepA (ofS s)) := by
  unfold L22x0x0
  obtain ⟨v, ⟨nx, hv, h1⟩, h2⟩ := iterQ_rel (step := S22x0x0 ((), (out, ((t : Int), (cho, (s, ())))))) (N := big)
    (P := fun j v => ∃ nx : allT, v = (nx, ((j : Int), ())) ∧ linksL nx = ((linksL out).take j).flatMap (stepA (ofS s)))
    (q := fun v => .exit 2 (v.1, ())) out.n (by unfold big; omega) (fun j v hj hp => by
      obtain ⟨nx, rfl, h1⟩ := hp
      have hnx : nx.n ≤ 1000000 := by
        have := congrArg List.length h1
        rw [linksL_len] at this
        have h3 := flat_len (l := (linksL out).take j) (f := stepA (ofS s)) (k := 64) fun a ha => by
          have ha := List.mem_of_mem_take ha
          obtain ⟨i, hi', e⟩ := List.mem_map.1 ha
          have hi' := List.mem_range.1 hi'
          rw [← e]
          exact stepA_len hs (by rw [(hP i hi').2]; exact hlt)
        rw [List.length_take, linksL_len] at h3
        omega
      obtain ⟨nx', g1, g2⟩ := L22xin hs (c5 := (t : Int)) hj hcho (hP j hj).1 (hP j hj).2 hlt nx hnx
      refine ⟨(nx', (((j + 1 : Nat) : Int), ())), ?_, nx', rfl, ?_⟩
      · unfold S22x0x0 Z22x0x0
        refine (bif_t (decide_eq_true (lt_ok hj))).trans ?_
        refine (onExit_of g1).trans ?_
        exact congrArg (fun q : Int => (RQ.next (show (patsTy vs22x0x0).den from (nx', (q, ()))) : RQ vs22x0x0 wv22x0x0)) (W_nat hj (by omega))
      · rw [g2, h1, List.take_add_one, linksL_get hj, List.flatMap_append]
        simp) (fun v hp => by
      obtain ⟨nx, rfl, h1⟩ := hp
      unfold S22x0x0 Z22x0x0
      have : ¬ ((out.n : Int) < (out.n : Int)) := by omega
      exact bif_f (decide_eq_false this)) ((⟨0, fun i => ((⟨0, fun i => ((⟨0, fun i => ((0 : Int), ())⟩ : Sl _), ())⟩ : Sl _), ())⟩ : Sl _), ((0 : Int), ())) ⟨_, rfl, rfl⟩
  exact ⟨nx, h2.trans (by rw [hv]), by rw [h1, List.take_of_length_le (by rw [linksL_len]; exact Nat.le_refl _)]⟩
theorem bfs_pre (hs : (ofS s).Ok) : ∀ j, j + 1 ≤ s.1.n → (∀ L ∈ bfsA (ofS s) j [[first (ofS s)]], Pre s L ∧ L.length = j + 1) ∧ (bfsA (ofS s) j [[first (ofS s)]]).length ≤ 64 ^ j
 | 0, h => by
  refine ⟨fun L hL => ?_, by simp [bfsA]⟩
  simp only [bfsA, List.mem_singleton] at hL
  subst hL
  refine ⟨⟨⟨by simp, by simpa using h, fun t ht => ?_, fun t i x ht => by simp at ht, fun _ => Nat.zero_le _, fun _ => rfl, fun i x hx => by simp at hx⟩, rfl⟩, rfl⟩
  have : t = 0 := by simp at ht; exact ht
  subst this; simp [first]; rfl
 | j + 1, h => by
  obtain ⟨h1, h2⟩ := bfs_pre hs j (by omega)
  rw [bfsA_succ]
  refine ⟨fun L hL => ?_, ?_⟩
  ·obtain ⟨L0, hL0, hL⟩ := List.mem_flatMap.1 hL
   obtain ⟨p1, p2⟩ := h1 L0 hL0
   obtain ⟨r, hr, hL⟩ := List.mem_flatMap.1 hL
   split at hL
   ·simp only [List.mem_singleton] at hL
    subst hL
    exact ⟨p1.row (by omega) hr, by simp; omega⟩
   ·simp at hL
  ·have h3 := flat_len (l := bfsA (ofS s) j [[first (ofS s)]]) (f := stepA (ofS s)) (k := 64) fun a ha => stepA_len hs (by rw [(h1 a ha).2]; omega)
   rw [Nat.pow_succ]
   omega
theorem M22xe (hs : (ofS s).Ok) : ∃ all : allT, M22 (no_index (s, ())) = some (all, ()) ∧ linksL all = links (ofS s) := by
  have hn4 := small_n hs
  have hn1 : 0 < s.1.n := hs.n1
  obtain ⟨n, hn⟩ : ∃ n, s.1.n = n + 1 := ⟨s.1.n - 1, by omega⟩
  obtain ⟨fr, f1, f2, _⟩ := M70xe (k := (s.1.g 0).2.1.n) (b := 0) (small_k hs hn1) (by omega)
  have hfr : rowsL fr = [first (ofS s)] := by rw [f2, choiF_first]; rfl
  have key : ∃ all : allT, L22x0 ((), (s, ())) ((⟨1, fun i => List.getD [((fr, ()) : Ty.den (.cons (.sl (.cons (.sl tL1) .nil)) .nil))] i (fr, ())⟩ : allT), ((1 : Int), ())) = .exit 0 (all, ()) ∧ linksL all = bfsA (ofS s) n [[first (ofS s)]] := by
    unfold L22x0
    obtain ⟨v, ⟨nx, hv, h1⟩, h2⟩ := iterQ_rel (step := S22x0 ((), (s, ()))) (N := big)
      (P := fun j v => ∃ nx : allT, v = (nx, (((j + 1 : Nat) : Int), ())) ∧ linksL nx = bfsA (ofS s) j [[first (ofS s)]])
      (q := fun v => .exit 0 (v.1, ())) n (by unfold big; omega) (fun j v hj hp => by
        obtain ⟨nx, rfl, h1⟩ := hp
        have hj1 : j + 1 < s.1.n := by omega
        obtain ⟨b1, b2⟩ := bfs_pre hs j (by omega)
        have hnx : nx.n ≤ 4096 := by
          have := congrArg List.length h1
          rw [linksL_len] at this
          have h4 : 64 ^ j ≤ 64 ^ 2 := Nat.pow_le_pow_right (by omega) (by omega)
          omega
        have hP : ∀ i, i < nx.n → Pre s (rowsL (nx.g i).1) ∧ (rowsL (nx.g i).1).length = j + 1 := fun i hi => b1 _ (by rw [← h1]; exact List.mem_of_getElem? (linksL_get hi))
        obtain ⟨cho, c1, c2, _⟩ := M70xe (k := (s.1.g (j + 1)).2.1.n) (b := (s.1.g j).2.1.n) (small_k hs hj1) (small_k hs (by omega))
        obtain ⟨nx', g1, g2⟩ := L22xmid hs (t := j + 1) hnx c2 hP hj1
        refine ⟨(nx', (((j + 1 + 1 : Nat) : Int), ())), ?_, nx', rfl, by rw [g2, h1, bfsA_succ]⟩
        have w2 := wpred (n := s.1.n) (by omega) hj1
        have e4 : ∀ {α : Type} (x y : α), (bif decide ((0 : Int) ≤ W (((j + 1 : Nat) : Int) - 1) ∧ W (((j + 1 : Nat) : Int) - 1) < (s.1.n : Int)) then x else y) = x := fun x y => by rw [w2]; exact bif_t (decide_eq_true (idx_ok (Nat.lt_of_succ_lt hj1)))
        have c1' : M70 ((((s.1.g (j + 1)).2.1.n : Nat) : Int), ((((s.1.g (Int.toNat (W (((j + 1 : Nat) : Int) - 1)))).2.1.n : Nat) : Int), ())) = some (cho, ()) := by rw [w2]; exact c1
        unfold S22x0 Z22x0
        refine (bif_t (decide_eq_true (lt_ok hj1))).trans ?_
        refine (bif_t (decide_eq_true (idx_ok hj1))).trans ?_
        refine (e4 _ _).trans ?_
        refine (cl_of c1').trans ?_
        refine (onExit_of g1).trans ?_
        exact congrArg (fun q : Int => (RQ.next (show (patsTy vs22x0).den from (nx', (q, ()))) : RQ vs22x0 wv22x0)) (W_nat hj1 (by omega))) (fun v hp => by
        obtain ⟨nx, rfl, h1⟩ := hp
        unfold S22x0 Z22x0
        have : ¬ (((n + 1 : Nat) : Int) < (s.1.n : Int)) := by omega
        exact bif_f (decide_eq_false this)) ((⟨1, fun i => List.getD [((fr, ()) : Ty.den (.cons (.sl (.cons (.sl tL1) .nil)) .nil))] i (fr, ())⟩ : allT), ((1 : Int), ())) ⟨_, rfl, by
          show [rowsL fr] = [[first (ofS s)]]
          rw [hfr]⟩
    exact ⟨nx, h2.trans (by rw [hv]), h1⟩
  obtain ⟨all, h1, h2⟩ := key
  refine ⟨all, ?_, ?_⟩
  · unfold M22 Q22
    have a0 : (0 : Int) ≤ 0 ∧ (0 : Int) < (s.1.n : Int) := by omega
    refine (bif_t (decide_eq_true a0)).trans ?_
    refine (cl_of f1).trans ?_
    exact onExit_of h1
  · rw [h2, bfsA_eq]
    simp only [List.flatMap_cons, List.flatMap_nil, List.append_nil]
    unfold links
    rw [show (ofS s).N - 1 = n by show s.1.n - 1 = n; omega]
end Go.Dm

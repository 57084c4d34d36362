/- All rising lists of a length, in order. -/
import Derived.Test.YtlfifailjikhaaaL15CP22
set_option linter.unusedVariables false
set_option linter.unusedSimpArgs false
namespace Go.Dm
set_option maxRecDepth 100000

abbrev rowsT : Type := Sl (rowI × Unit)
theorem iterQ_rel {ps : List Pat} {wy : Ways} {step : (patsTy ps).den → RQ ps wy} {N : Nat} {P : Nat → (patsTy ps).den → Prop} {q : (patsTy ps).den → LQ wy} (k : Nat) (hk : k < N)
    (h1 : ∀ j s, j < k → P j s → ∃ s', step s = .next s' ∧ P (j + 1) s') (h2 : ∀ s, P k s → step s = .out (q s)) (s : (patsTy ps).den) (h0 : P 0 s) : ∃ s', P k s' ∧ iterQ step N s = q s' := by
  have : ∀ d j s n, j + d = k → d < n → P j s → ∃ s', P k s' ∧ iterQ step n s = q s' := by
    intro d
    induction d with
    | zero =>
      intro j s n e hn hp
      obtain rfl : j = k := by omega
      cases n with
      | zero => omega
      | succ n => exact ⟨s, hp, by simp only [iterQ, h2 s hp]⟩
    | succ d ih =>
      intro j s n e hn hp
      cases n with
      | zero => omega
      | succ n =>
        obtain ⟨s', e1, hp'⟩ := h1 j s (by omega) hp
        obtain ⟨s'', hp'', e2⟩ := ih (j + 1) s' n (by omega) (by omega) hp'
        exact ⟨s'', hp'', by simp only [iterQ, e1]; exact e2⟩
  exact this k 0 s N (by omega) hk h0

structure SetsK (B k : Nat) (out : rowsT) : Prop where
  len : ∀ i, i < out.n → (out.g i).1.n = k
  inc : ∀ i, i < out.n → IncU B (out.g i).1
  ord : ∀ i j, i < j → j < out.n → cod (out.g i).1 k < cod (out.g j).1 k
  all : ∀ u, IncU B u → u.n = k → ∃ i, i < out.n ∧ Sam u (out.g i).1
  siz : out.n ≤ 9 ^ k
def fsN (k : Nat) (u : rowI) : Nat := if k = 0 then 0 else (u.g (k - 1)).1.toNat + 1
def exU (out : rowsT) (a b : Nat) : rowI × Unit := (snoc (out.g a).1 ((b : Int), ()), ())
structure MidK (B k : Nat) (out : rowsT) (i f : Nat) (nx : rowsT) : Prop where
  new : ∀ t, t < nx.n → ∃ a b, (a < i ∨ (a = i ∧ b < f)) ∧ a < out.n ∧ b < B ∧ fsN k (out.g a).1 ≤ b ∧ nx.g t = exU out a b
  ord : ∀ s t, s < t → t < nx.n → cod (nx.g s).1 (k + 1) < cod (nx.g t).1 (k + 1)
  all : ∀ a b, (a < i ∨ (a = i ∧ b < f)) → a < out.n → b < B → fsN k (out.g a).1 ≤ b → ∃ t, t < nx.n ∧ nx.g t = exU out a b
  siz : nx.n ≤ 9 * i + f
theorem cod_snoc (u : rowI) (y : Int × Unit) : cod (snoc u y) (u.n + 1) = 10 * cod u u.n + y.1 := by
  rw [cod, snoc_at, cod_eq (a := snoc u y) (b := u) fun j hj => by rw [snoc_lt hj]]
theorem cod_ex {B k : Nat} {out : rowsT} (h : SetsK B k out) {a b : Nat} (ha : a < out.n) : cod (exU out a b).1 (k + 1) = 10 * cod (out.g a).1 k + (b : Int) := by
  have := cod_snoc (out.g a).1 ((b : Int), ())
  rw [h.len a ha] at this
  exact this
theorem MidK.step {B k : Nat} {out : rowsT} (h : SetsK B k out) (hB : B ≤ 9) {i f : Nat} {nx : rowsT} (m : MidK B k out i f nx) (hi : i < out.n) (hf : f < B) (hs : fsN k (out.g i).1 ≤ f) : MidK B k out i (f + 1) (snoc nx (exU out i f)) := by
  refine ⟨fun t ht => ?_, fun s t hst ht => ?_, fun a b hab ha hb hfs => ?_, by rw [snoc_n]; have := m.siz; omega⟩
  · rw [snoc_n] at ht
    by_cases e : t < nx.n
    · obtain ⟨a, b, h1, h2, h3, h4, h5⟩ := m.new t e
      exact ⟨a, b, by omega, h2, h3, h4, by rw [snoc_lt e]; exact h5⟩
    · obtain rfl : t = nx.n := by omega
      exact ⟨i, f, .inr ⟨rfl, by omega⟩, hi, hf, hs, by rw [snoc_at]⟩
  · rw [snoc_n] at ht
    by_cases e : t < nx.n
    · rw [snoc_lt e, snoc_lt (by omega)]; exact m.ord s t hst e
    · obtain rfl : t = nx.n := by omega
      rw [snoc_at, snoc_lt hst]
      obtain ⟨a, b, h1, h2, h3, h4, h5⟩ := m.new s hst
      rw [h5, cod_ex h h2, cod_ex h hi]
      rcases h1 with q | ⟨q1, q2⟩
      · have := h.ord a i q hi; omega
      · subst q1; omega
  · by_cases e : a = i ∧ b = f
    · obtain ⟨rfl, rfl⟩ := e
      exact ⟨nx.n, by rw [snoc_n]; omega, by rw [snoc_at]⟩
    · obtain ⟨t, t1, t2⟩ := m.all a b (by omega) ha hb hfs
      exact ⟨t, by rw [snoc_n]; omega, by rw [snoc_lt t1]; exact t2⟩
theorem MidK.skip {B k : Nat} {out : rowsT} {i f : Nat} {nx : rowsT} (m : MidK B k out i 0 nx) (hs : f ≤ fsN k (out.g i).1) : MidK B k out i f nx :=
  ⟨fun t ht => by obtain ⟨a, b, h1, h2⟩ := m.new t ht; exact ⟨a, b, by omega, h2⟩, m.ord, fun a b hab ha hb hfs => by
    by_cases e : a = i
    · subst e; omega
    · exact m.all a b (by omega) ha hb hfs, by have := m.siz; omega⟩
theorem MidK.up {B k : Nat} {out : rowsT} {i : Nat} {nx : rowsT} (hB : B ≤ 9) (m : MidK B k out i B nx) : MidK B k out (i + 1) 0 nx :=
  ⟨fun t ht => by obtain ⟨a, b, h1, h2⟩ := m.new t ht; exact ⟨a, b, by omega, h2⟩, m.ord, fun a b hab ha hb hfs => m.all a b (by omega) ha hb hfs, by have := m.siz; omega⟩
theorem fs_le {B k : Nat} {out : rowsT} (h : SetsK B k out) {i : Nat} (hi : i < out.n) : fsN k (out.g i).1 ≤ B := by
  unfold fsN
  by_cases e : k = 0
  · rw [if_pos e]; omega
  · rw [if_neg e]
    have := (h.inc i hi).bd (k - 1) (by rw [h.len i hi]; omega)
    omega
theorem MidK.done {B k : Nat} {out nx : rowsT} (h : SetsK B k out) (m : MidK B k out out.n 0 nx) : SetsK B (k + 1) nx := by
  refine ⟨fun t ht => ?_, fun t ht => ?_, m.ord, fun u hu hn => ?_, ?_⟩
  · obtain ⟨a, b, h1, h2, h3, h4, h5⟩ := m.new t ht
    rw [h5]
    show (snoc _ _).n = _
    rw [snoc_n, h.len a h2]
  · obtain ⟨a, b, h1, h2, h3, h4, h5⟩ := m.new t ht
    rw [h5]
    have ia := h.inc a h2
    have la := h.len a h2
    have lt_b : ∀ s, s < (out.g a).1.n → ((out.g a).1.g s).1 < (b : Int) := fun s hs => by
      unfold fsN at h4
      rw [if_neg (by omega)] at h4
      have q := ia.bd s hs
      by_cases e : s = k - 1
      · subst e; omega
      · have := ia.inc s (k - 1) (by omega) (by omega); omega
    refine ⟨fun s (hs : s < (snoc _ _).n) => ?_, fun s t hst (ht : t < (snoc _ _).n) => ?_⟩
    · rw [snoc_n] at hs
      show 0 ≤ ((snoc (out.g a).1 ((b : Int), ())).g s).1 ∧ ((snoc (out.g a).1 ((b : Int), ())).g s).1 < (B : Int)
      by_cases e : s < (out.g a).1.n
      · rw [snoc_lt e]; exact ia.bd s e
      · obtain rfl : s = (out.g a).1.n := by omega
        rw [snoc_at]
        show (0 : Int) ≤ (b : Int) ∧ (b : Int) < (B : Int)
        omega
    · rw [snoc_n] at ht
      show ((snoc (out.g a).1 ((b : Int), ())).g s).1 < ((snoc (out.g a).1 ((b : Int), ())).g t).1
      by_cases e : t < (out.g a).1.n
      · rw [snoc_lt e, snoc_lt (by omega)]; exact ia.inc s t hst e
      · obtain rfl : t = (out.g a).1.n := by omega
        rw [snoc_at, snoc_lt hst]
        exact lt_b s hst
  · have hp : IncU B ⟨k, u.g⟩ := ⟨fun t (ht : t < k) => hu.bd t (by omega), fun s t hst (ht : t < k) => hu.inc s t hst (by omega)⟩
    obtain ⟨i, hi, hs⟩ := h.all _ hp rfl
    have hb := hu.bd k (by omega)
    have hf : fsN k (out.g i).1 ≤ (u.g k).1.toNat := by
      unfold fsN
      by_cases e : k = 0
      · rw [if_pos e]; omega
      · rw [if_neg e]
        have e1 : (out.g i).1.g (k - 1) = u.g (k - 1) := hs.2 (k - 1) (show k - 1 < k by omega)
        rw [e1]
        have := hu.inc (k - 1) k (by omega) (by omega)
        have := hu.bd (k - 1) (by omega)
        omega
    obtain ⟨t, t1, t2⟩ := m.all i (u.g k).1.toNat (.inl hi) hi (by omega) hf
    refine ⟨t, t1, ?_⟩
    rw [t2]
    have ln := h.len i hi
    refine ⟨by show u.n = (snoc _ _).n; rw [snoc_n]; omega, fun j hj => ?_⟩
    show (snoc _ _).g j = u.g j
    by_cases e : j < (out.g i).1.n
    · rw [snoc_lt e]; exact hs.2 j (show j < k by omega)
    · obtain rfl : j = (out.g i).1.n := by omega
      rw [snoc_at, ln]
      exact Prod.ext (show ((u.g k).1.toNat : Int) = (u.g k).1 by omega) rfl
  · have := m.siz
    have := h.siz
    rw [Nat.pow_succ]; omega
theorem pow9 {k : Nat} (h : k ≤ 9) : 9 ^ k ≤ 387420489 := Nat.le_trans (Nat.pow_le_pow_right (by omega) h) (by decide)
theorem L82i_e {B k : Nat} {out : rowsT} (h : SetsK B k out) (hB : B ≤ 9) (hk : k ≤ 9) {i : Nat} (hi : i < out.n) (mm : Int) {nx : rowsT} (m : MidK B k out i 0 nx) :
    ∃ nx', MidK B k out i B nx' ∧ L82x0x0x0 (no_index ((B : Int), (mm, (out, ((k : Int), ((i : Int), ())))))) (no_index (nx, ((fsN k (out.g i).1 : Int), ()))) = .exit 4 (nx', ()) := by
  have hfs := fs_le h hi
  have hsz := h.siz
  have h9 := pow9 hk
  have hl := h.len i hi
  have := iterQ_rel (ps := vs82x0x0x0) (wy := wv82x0x0x0) (step := S82x0x0x0 (no_index ((B : Int), (mm, (out, ((k : Int), ((i : Int), ()))))))) (N := big)
    (P := fun j s => ∃ a, s = (a, (((fsN k (out.g i).1 + j : Nat) : Int), ())) ∧ MidK B k out i (fsN k (out.g i).1 + j) a)
    (q := fun s => .exit 4 (s.1, ())) (B - fsN k (out.g i).1) (big_lt (by omega)) ?_ ?_ (nx, ((fsN k (out.g i).1 : Int), ())) ⟨nx, rfl, m.skip (Nat.le_refl _)⟩
  · obtain ⟨s', ⟨a, rfl, hM⟩, e⟩ := this
    have e' : fsN k (out.g i).1 + (B - fsN k (out.g i).1) = B := by omega
    rw [e'] at hM
    exact ⟨a, hM, e⟩
  · rintro j s hj ⟨a, rfl, hM⟩
    have hlt : ((fsN k (out.g i).1 + j : Nat) : Int) < (B : Int) := by omega
    have b1 : (out.g i).1.n * 8 ≤ 140737488355328 := by omega
    have b2 : ((out.g i).1.n + 1) * 8 ≤ 140737488355328 := by omega
    have b3 : (a.n + 1) * 24 ≤ 140737488355328 := by have := hM.siz; omega
    have hw : W (((fsN k (out.g i).1 + j : Nat) : Int) + 1) = ((fsN k (out.g i).1 + (j + 1) : Nat) : Int) := by rw [W_id ⟨by omega, by omega⟩]; omega
    unfold S82x0x0x0 Z82x0x0x0
    simp only [hlt, idx_ok hi, b1, b2, b3, hw, decide_true, cond_true, and_self, Int.toNat_natCast]
    exact ⟨_, rfl, _, rfl, hM.step h hB hi (by omega) (by omega)⟩
  · rintro s ⟨a, rfl, hM⟩
    have e' : fsN k (out.g i).1 + (B - fsN k (out.g i).1) = B := by omega
    unfold S82x0x0x0 Z82x0x0x0
    simp only [e', Int.lt_irrefl, decide_false, cond_false]
def nx0 : rowsT := ⟨0, fun _ => ((⟨0, fun _ => ((0 : Int), ())⟩ : Sl _), ())⟩
theorem L82m_e {B k : Nat} {out : rowsT} (h : SetsK B k out) (hB : B ≤ 9) (hk : k ≤ 9) (mm : Int) :
    ∃ nx, SetsK B (k + 1) nx ∧ L82x0x0 (no_index ((B : Int), (mm, (out, ((k : Int), ()))))) (no_index (nx0, ((0 : Int), ()))) = .exit 2 (nx, ()) := by
  have hsz := h.siz
  have h9 := pow9 hk
  have := iterQ_rel (ps := vs82x0x0) (wy := wv82x0x0) (step := S82x0x0 (no_index ((B : Int), (mm, (out, ((k : Int), ())))))) (N := big)
    (P := fun j s => ∃ a, s = (a, ((j : Int), ())) ∧ MidK B k out j 0 a)
    (q := fun s => .exit 2 (s.1, ())) out.n (big_lt (by omega)) ?_ ?_ (nx0, ((0 : Int), ())) ⟨nx0, rfl, fun t ht => absurd ht (Nat.not_lt_zero t), fun s t _ ht => absurd ht (Nat.not_lt_zero t), fun a b hab => by omega, Nat.le_refl _⟩
  · obtain ⟨s', ⟨a, rfl, hM⟩, e⟩ := this
    exact ⟨a, hM.done h, e⟩
  · rintro j s hj ⟨a, rfl, hM⟩
    obtain ⟨nx', n1, n2⟩ := L82i_e h hB hk hj mm hM
    have hl := h.len j hj
    unfold S82x0x0 Z82x0x0
    simp only [lt_ok hj, decide_true, cond_true]
    by_cases e : k = 0
    · subst e
      have : ¬ ((0 : Int) < ((0 : Nat) : Int)) := by omega
      simp only [this, decide_false, cond_false]
      refine ⟨(nx', (((j + 1 : Nat) : Int), ())), ?_, nx', rfl, n1.up hB⟩
      refine (congrArg (fun o => onExit o 4 _ _) n2).trans ?_
      show (RQ.next (nx', (W ((j : Int) + 1), ())) : RQ vs82x0x0 wv82x0x0) = _
      rw [W_nat hj (by omega)]
    · have e1 : ((0 : Int) < ((k : Nat) : Int)) := by omega
      have e2 : W ((k : Int) - 1) = ((k - 1 : Nat) : Int) := by rw [W_id ⟨by omega, by omega⟩]; omega
      have e3 : (((0 : Int) ≤ ((k - 1 : Nat) : Int)) ∧ (((k - 1 : Nat) : Int) < (((out.g j).1.n : Nat) : Int))) := by omega
      have hb := (h.inc j hj).bd (k - 1) (by omega)
      have e4 : W (((out.g j).1.g (k - 1)).1 + 1) = (fsN k (out.g j).1 : Int) := by
        unfold fsN
        rw [if_neg e, W_id ⟨by omega, by omega⟩]; omega
      simp only [e1, e2, e3, e4, idx_ok hj, decide_true, cond_true, and_self, Int.toNat_natCast]
      refine ⟨(nx', (((j + 1 : Nat) : Int), ())), ?_, nx', rfl, n1.up hB⟩
      refine (congrArg (fun o => onExit o 4 _ _) n2).trans ?_
      show (RQ.next (nx', (W ((j : Int) + 1), ())) : RQ vs82x0x0 wv82x0x0) = _
      rw [W_nat hj (by omega)]
  · rintro s ⟨a, rfl, hM⟩
    unfold S82x0x0 Z82x0x0
    simp only [Int.lt_irrefl, decide_false, cond_false]
def out0 : rowsT := ⟨1, fun i => List.getD [((⟨0, fun _ => ((0 : Int), ())⟩ : Sl _), ())] i ((⟨0, fun _ => ((0 : Int), ())⟩ : Sl _), ())⟩
theorem sets_0 (B : Nat) : SetsK B 0 out0 := by
  refine ⟨fun i hi => ?_, fun i hi => ?_, fun i j hij hj => ?_, fun u hu hn => ⟨0, Nat.lt_succ_self 0, hn, fun j hj => by omega⟩, Nat.le_refl _⟩
  · obtain rfl : i = 0 := by have : i < 1 := hi; omega
    rfl
  · obtain rfl : i = 0 := by have : i < 1 := hi; omega
    exact ⟨fun t ht => absurd ht (Nat.not_lt_zero t), fun s t _ ht => absurd ht (Nat.not_lt_zero t)⟩
  · have : j < 1 := hj
    omega
theorem M82xe {B k : Nat} (hB : B ≤ 9) (hk : k ≤ 9) : ∃ out, SetsK B k out ∧ M82 (no_index ((B : Int), ((k : Int), ()))) = some (out, ()) := by
  have := iterQ_rel (ps := vs82x0) (wy := wv82x0) (step := S82x0 (no_index ((B : Int), ((k : Int), ())))) (N := big)
    (P := fun j s => ∃ a, s = (a, ((j : Int), ())) ∧ SetsK B j a)
    (q := fun s => .exit 0 (s.1, ())) k (big_lt (by omega)) ?_ ?_ (out0, ((0 : Int), ())) ⟨out0, rfl, sets_0 B⟩
  · obtain ⟨s', ⟨a, rfl, hM⟩, e⟩ := this
    refine ⟨a, hM, ?_⟩
    unfold M82 Q82
    exact congrArg (fun (q : LQ wv82x0) => onExit q 0 (fun (u0 : (patsTy (wayP wv82x0 0)).den) => (some u0 : Option (r82).den)) none) e
  · rintro j s hj ⟨a, rfl, hM⟩
    obtain ⟨nx, n1, n2⟩ := L82m_e hM hB (by omega) (k : Int)
    unfold S82x0 Z82x0
    simp only [lt_ok hj, decide_true, cond_true]
    refine ⟨(nx, (((j + 1 : Nat) : Int), ())), ?_, nx, rfl, n1⟩
    refine (congrArg (fun o => onExit o 2 _ _) n2).trans ?_
    show (RQ.next (nx, (W ((j : Int) + 1), ())) : RQ vs82x0 wv82x0) = _
    rw [W_nat hj (by omega)]
  · rintro s ⟨a, rfl, hM⟩
    unfold S82x0 Z82x0
    simp only [Int.lt_irrefl, decide_false, cond_false]
end Go.Dm

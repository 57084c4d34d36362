/- The chance of a favourite: what is met once is met again. -/
import Derived.Test.YtiapgkbnjpkagaaL8WP6
set_option linter.unusedVariables false
set_option linter.unusedSimpArgs false
namespace Go.Dm
set_option maxRecDepth 100000

/-- In how many lists no figure of f has L places of d. -/
def fw (L : Nat) : Nat → Nat → Int
  | 0, d => if d = 0 then 1 else 0
  | f + 1, d => sumT (fun t => ch d t * fw L f (d - t)) (min L (d + 1))
abbrev keyT : Type := Int × Int × Unit
abbrev metT : Type := keyT → Option Int
def OKm (L : Nat) (m : metT) : Prop := ∀ (f d : Nat) (v : Int), m ((f : Int), ((d : Int), ())) = some v → v = W (fw L f d)
theorem eqD_key (a b : keyT) : eqD T5 a b = true → a = b := by
  intro h
  obtain ⟨a1, a2, ⟨⟩⟩ := a
  obtain ⟨b1, b2, ⟨⟩⟩ := b
  have h : (decide (a1 = b1) && (decide (a2 = b2) && true)) = true := h
  simp only [Bool.and_eq_true, decide_eq_true_eq] at h
  rw [h.1, h.2.1]
theorem OKm_set {L : Nat} {m : metT} (h : OKm L m) {f d : Nat} {v : Int} (hv : v = W (fw L f d)) : OKm L (setMap (k := T5) (v := tI) (eqD T5) m ((f : Int), ((d : Int), ())) v) := by
  intro f' d' v' h'
  unfold setMap at h'
  cases hb : eqD T5 ((f' : Int), ((d' : Int), ())) ((f : Int), ((d : Int), ())) with
  | true =>
    rw [hb] at h'
    have this : ((f' : Int), ((d' : Int), ())) = (((f : Int), ((d : Int), ())) : keyT) := eqD_key _ _ hb
    have h1 : (f' : Int) = (f : Int) := congrArg Prod.fst this
    have h2 : (d' : Int) = (d : Int) := congrArg (fun q : keyT => q.2.1) this
    have e1 : f' = f := Int.ofNat.inj h1
    have e2 : d' = d := Int.ofNat.inj h2
    cases h'
    rw [hv, e1, e2]
  | false =>
    rw [hb] at h'
    exact h f' d' v' h'
abbrev inT : Type := keyT × Unit × Unit × Unit × (Unit × Unit) × (Int × Unit) × (Unit × Unit) × metT × Unit
def inp (f d L : Nat) (m : metT) : inT := (((f : Int), ((d : Int), ())), ((), ((), ((), (((), ()), (((L : Int), ()), (((), ()), (m, ()))))))))
def outY (L : Nat) (m : metT) : (Unit × Unit) × (Int × Unit) × (Unit × Unit) × metT × Unit := (((), ()), (((L : Int), ()), (((), ()), (m, ()))))
def GoodF (L : Nat) (R : (patsTy ps94).den → GO r94 (objPats ps94)) (f : Nat) : Prop :=
  ∀ (d : Nat) (m : metT), d ≤ 18 → OKm L m → ∃ m', OKm L m' ∧ R (inp f d L m) = .ok (W (fw L f d), ()) (outY L m')
theorem loop94 {L : Nat} {R : (patsTy ps94).den → GO r94 (objPats ps94)} {f d : Nat} (hL : L ≤ 19) (hf : f ≤ 100) (hd : d ≤ 18) (hR : GoodF L R f) :
    ∀ (k N t : Nat) (m : metT), k < N → t + k = min L (d + 1) → OKm L m → ∃ m', OKm L m' ∧
      iterQ (S94x0 R ((), ((), ((), ((), ((((f + 1 : Nat) : Int), ((d : Int), ())), ())))))) N (W (sumT (fun t => ch d t * fw L f (d - t)) t), ((t : Int), outY L m)) = .exit 0 (W (fw L (f + 1) d), outY L m')
  | 0, N + 1, t, m, _, ht, hm => by
    refine ⟨m, hm, ?_⟩
    have hs : S94x0 R ((), ((), ((), ((), ((((f + 1 : Nat) : Int), ((d : Int), ())), ())))))  (W (sumT (fun t => ch d t * fw L f (d - t)) t), ((t : Int), outY L m)) = .out (.exit 0 (W (fw L (f + 1) d), outY L m)) := by
      have e : fw L (f + 1) d = sumT (fun t => ch d t * fw L f (d - t)) t := by rw [fw, ← ht, Nat.add_zero]
      rw [e]
      unfold S94x0 Z94x0 outY
      by_cases h1 : t < L
      · have h2 : ¬ ((t : Int) ≤ (d : Int)) := by omega
        have h1' : (t : Int) < (L : Int) := by omega
        simp only [h1', h2, decide_true, decide_false, cond_true, cond_false]
      · have h1' : ¬ ((t : Int) < (L : Int)) := by omega
        simp only [h1', decide_false, cond_false]
    rw [iterQ, hs]
  | k + 1, N + 1, t, m, hk, ht, hm => by
    obtain ⟨m1, hm1, hr⟩ := hR (d - t) m (by omega) hm
    obtain ⟨m2, hm2, hi⟩ := loop94 hL hf hd hR k N (t + 1) m1 (by omega) (by omega) hm1
    refine ⟨m2, hm2, ?_⟩
    have hs : S94x0 R ((), ((), ((), ((), ((((f + 1 : Nat) : Int), ((d : Int), ())), ())))))  (W (sumT (fun t => ch d t * fw L f (d - t)) t), ((t : Int), outY L m)) = .next (W (sumT (fun t => ch d t * fw L f (d - t)) (t + 1)), (((t + 1 : Nat) : Int), outY L m1)) := by
      have h1 : (t : Int) < (L : Int) := by omega
      have h2 : (t : Int) ≤ (d : Int) := by omega
      have w1 : W (((f + 1 : Nat) : Int) - 1) = (f : Int) := by rw [W_id ⟨by omega, by omega⟩]; omega
      have w2 : W ((d : Int) - (t : Int)) = ((d - t : Nat) : Int) := by rw [W_id ⟨by omega, by omega⟩]; omega
      have w3 : W ((t : Int) + 1) = ((t + 1 : Nat) : Int) := by rw [W_id ⟨by omega, by omega⟩]; omega
      unfold S94x0 Z94x0
      simp only [outY, h1, h2, w1, w2, w3, decide_true, cond_true]
      have hr' : R (((f : Int), (((d - t : Nat) : Int), ())), ((), ((), ((), (((), ()), (((L : Int), ()), (((), ()), (m, ())))))))) = .ok (W (fw L f (d - t)), ()) (outY L m1) := hr
      rw [hr']
      refine (onOk_ok _ _ _ _).trans ?_
      simp only [M92xe hd (show t ≤ 19 by omega), cl_some, M91x2, W_mul_r, W_add_l, W_add_r, W_addmul, sumT]
      rfl
    rw [iterQ, hs]
    exact hi
theorem U94xgood {L : Nat} (hL : L ≤ 19) {R : (patsTy ps94).den → GO r94 (objPats ps94)} : ∀ (f : Nat), f ≤ 100 → (∀ f', f = f' + 1 → GoodF L R f') → GoodF L (U94 R) f := by
  intro f hf hR d m hd hm
  cases f with
  | zero =>
    refine ⟨m, hm, ?_⟩
    unfold U94 Q94 inp outY
    by_cases h0 : d = 0
    · subst h0
      simp only [fw, if_true, W_one]
      rfl
    · have h0' : ¬ ((d : Int) = 0) := by omega
      simp only [h0', fw, h0, if_false, W_zero, decide_false, cond_false]
      rfl
  | succ f =>
    have hne : ¬ (((f + 1 : Nat) : Int) = 0) := by omega
    cases hv : m (((f + 1 : Nat) : Int), ((d : Int), ())) with
    | some v =>
      refine ⟨m, hm, ?_⟩
      have e := hm (f + 1) d v hv
      unfold U94 Q94 inp
      simp only [hne, decide_false, cond_false]
      rw [hv, e]
      rfl
    | none =>
      obtain ⟨m1, hm1, hl⟩ := loop94 hL (by omega : f ≤ 100) hd (hR f rfl) (min L (d + 1)) big 0 m (big_lt (by omega)) (by omega) hm
      refine ⟨_, OKm_set hm1 (f := f + 1) (d := d) rfl, ?_⟩
      unfold U94 Q94 inp
      simp only [hne, decide_false, cond_false]
      rw [hv]
      have hl' : L94x0 R ((), ((), ((), ((), ((((f + 1 : Nat) : Int), ((d : Int), ())), ()))))) ((0 : Int), ((0 : Int), (((), ()), (((L : Int), ()), (((), ()), (m, ())))))) = .exit 0 (W (fw L (f + 1) d), outY L m1) := by
        unfold L94x0
        rw [show W (sumT (fun t => ch d t * fw L f (d - t)) 0) = 0 from W_zero] at hl
        exact hl
      simp only [cl_none]
      rw [hl']
      rfl
theorem F94xgood {L : Nat} (hL : L ≤ 19) : ∀ (n f : Nat), f < n → f ≤ 100 → GoodF L (F94 n) f
  | n + 1, f, h, hf => U94xgood hL f hf fun f' e => F94xgood hL n f' (by omega) (by omega)
theorem M95xe (b : Int) {d : Nat} (hd : d ≤ 18) : M95 (no_index ((b, ((d : Int), ())), ())) = some (W (pwr b d), ()) := by
  unfold M95 Q95
  have : M93 (b, ((d : Int), ())) = some (W (pwr b d), ()) := M93xe b (by omega)
  exact congrArg (fun q => cl _ q (fun u0 => some u0) none) this
theorem M62xe {b d L : Nat} (hb : b ≤ 10) (hd : d ≤ 18) (hL : L ≤ 19) : M62 (no_index (((b : Int), ((d : Int), ())), ((L : Int), ()))) = some (W (pwr b d - fw L b d), ()) := by
  obtain ⟨m', _, h⟩ := F94xgood hL 13 b (by omega) (by omega) d (fun _ => none) hd (fun f d v h => by cases h)
  unfold M62 Q62
  have h' : F94 13 (((b : Int), ((d : Int), ())), ((), ((), ((), (((), ()), (((L : Int), ()), (((), ()), ((fun y1 => none), ())))))))) = .ok (W (fw L b d), ()) (outY L m') := h
  rw [h']
  refine (onOk_ok _ _ _ _).trans ?_
  simp only [M95xe (b : Int) hd, cl_some, W_sub_l, W_sub_r]

/-! the reference's table -/
def dp (N L : Nat) : Nat → Nat → Int
  | 0, i => if i = 0 then 1 else 0
  | f + 1, i => if i ≤ N then sumT (fun u => if u ≤ i ∧ i - u < L then dp N L f u * ch (N - u) (i - u) else 0) (N + 1) else 0
theorem dp_fw {N L : Nat} (hN : N ≤ 18) : ∀ (f i : Nat), i ≤ N → dp N L f i = ch N i * fw L f i
  | 0, i, hi => by
    simp only [dp, fw]
    by_cases h : i = 0
    · subst h
      have : ch N 0 = 1 := by
        have := ch_tri (n := N) (i := N) (u := 0) hN (Nat.le_refl _) (by omega)
        rw [ch_self hN] at this
        simp only [Nat.sub_zero, Int.one_mul] at this
        rw [ch_self hN, Int.mul_one] at this
        exact this
      simp [this]
    · simp [h]
  | f + 1, i, hi => by
    rw [dp, if_pos hi, fw]
    have h1 : sumT (fun u => if u ≤ i ∧ i - u < L then dp N L f u * ch (N - u) (i - u) else 0) (N + 1) = sumT (fun u => if u < i + 1 then (fun t => if t < L then ch N i * (ch i t * fw L f (i - t)) else 0) (i - u) else 0) (N + 1) := by
      refine sumT_congr fun u hu => ?_
      by_cases hui : u ≤ i
      · by_cases hl : i - u < L
        · rw [if_pos ⟨hui, hl⟩, if_pos (by omega)]
          show _ = if i - u < L then _ else 0
          rw [if_pos hl, dp_fw hN f u (by omega), show i - (i - u) = u by omega, Int.mul_right_comm, ch_tri hN hi hui, Int.mul_assoc]
        · rw [if_neg (by omega), if_pos (by omega)]
          show _ = if i - u < L then _ else 0
          rw [if_neg hl]
      · rw [if_neg (by omega), if_neg (by omega)]
    rw [h1, sumT_cut, show min (i + 1) (N + 1) = i + 1 by omega, sumT_rev (fun t => if t < L then ch N i * (ch i t * fw L f (i - t)) else 0) i, sumT_cut, sumT_mul]

def zR (n : Nat) (g : Nat → Int) : rowI := ⟨n, fun i => (g i, ())⟩
theorem set_zR {n i : Nat} {g h : Nat → Int} {x : Int} (hh : ∀ j, h j = if j = i then x else g j) : setSl (zR n g) i (x, ()) = zR n h := by
  unfold setSl zR
  simp only [Sl.mk.injEq, true_and]
  funext j
  rw [hh j]
  by_cases e : j = i
  · subst e; simp
  · rw [beq_ne e, if_neg e, cond_false]
/-- What has come together for a number of places, of figures that used fewer than U, and k places more, fewer than K. -/
def nx (N L f U : Nat) (i : Nat) : Int := if i ≤ N then sumT (fun u => if u ≤ i ∧ i - u < L then dp N L f u * ch (N - u) (i - u) else 0) U else 0
def nk (N L f U K : Nat) (i : Nat) : Int := nx N L f U i + (if U ≤ i ∧ i - U < K ∧ i ≤ N then dp N L f U * ch (N - U) (i - U) else 0)
theorem loop24i {b N L f U : Nat} (hb : b ≤ 10) (hN : N ≤ 18) (hL : L ≤ 19) (hU : U ≤ N) (q : Unit) : L24x0x0x0 (no_index ((b : Int), ((N : Int), ((L : Int), (zR (N + 1) (fun i => W (dp N L f i)), ((f : Int), (q, ((U : Int), ())))))))) (no_index ((0 : Int), (zR (N + 1) (fun i => W (nx N L f U i)), ()))) = .exit 4 (zR (N + 1) (fun i => W (nx N L f (U + 1) i)), ()) := by
  have hfin : zR (N + 1) (fun i => W (nk N L f U (min L (N + 1 - U)) i)) = zR (N + 1) (fun i => W (nx N L f (U + 1) i)) := by
    congr 1
    funext i
    congr 1
    unfold nk nx
    by_cases hi : i ≤ N
    · rw [if_pos hi, if_pos hi, sumT]
      congr 1
      by_cases h : U ≤ i ∧ i - U < L
      · rw [if_pos h, if_pos (by omega)]
      · rw [if_neg h, if_neg (by omega)]
    · rw [if_neg hi, if_neg hi, if_neg (by omega), Int.add_zero]
  have h0 : zR (N + 1) (fun i => W (nk N L f U 0 i)) = zR (N + 1) (fun i => W (nx N L f U i)) := by
    congr 1
    funext i
    unfold nk
    rw [if_neg (by omega), Int.add_zero]
  rw [← hfin, ← h0]
  unfold L24x0x0x0
  refine iterQ_steps (ps := vs24x0x0x0) (min L (N + 1 - U)) big (fun k => ((k : Int), (zR (N + 1) (fun i => W (nk N L f U k i)), ()))) (big_lt (by omega)) (fun k hk => ?_) ?_
  · have e1 : (k : Int) < (L : Int) := by omega
    have w1 : W ((U : Int) + (k : Int)) = ((U + k : Nat) : Int) := by rw [W_id ⟨by omega, by omega⟩]; omega
    have e2 : ((U + k : Nat) : Int) ≤ (N : Int) := by omega
    have e3 : (0 : Int) ≤ ((U + k : Nat) : Int) ∧ ((U + k : Nat) : Int) < ((N + 1 : Nat) : Int) := by omega
    have e4 : (0 : Int) ≤ (U : Int) ∧ (U : Int) < ((N + 1 : Nat) : Int) := by omega
    have w2 : W ((N : Int) - (U : Int)) = ((N - U : Nat) : Int) := by rw [W_id ⟨by omega, by omega⟩]; omega
    have w3 : W ((k : Int) + 1) = ((k + 1 : Nat) : Int) := by rw [W_id ⟨by omega, by omega⟩]; omega
    have hn : ∀ g, (zR (N + 1) g).n = N + 1 := fun _ => rfl
    have hg : ∀ g i, (zR (N + 1) g).g i = (g i, ()) := fun _ _ => rfl
    have hset : setSl (zR (N + 1) (fun i => W (nk N L f U k i))) (U + k) (W (nk N L f U k (U + k) + dp N L f U * ch (N - U) k), ()) = zR (N + 1) (fun i => W (nk N L f U (k + 1) i)) := by
      refine set_zR fun j => ?_
      by_cases hj : j = U + k
      · subst hj
        have a1 : nk N L f U k (U + k) = nx N L f U (U + k) := by unfold nk; rw [if_neg (by omega), Int.add_zero]
        have a2 : nk N L f U (k + 1) (U + k) = nx N L f U (U + k) + dp N L f U * ch (N - U) k := by unfold nk; rw [if_pos (by omega), show U + k - U = k by omega]
        rw [if_pos rfl, a1, a2]
      · rw [if_neg hj]
        congr 1
        unfold nk
        congr 1
        by_cases h : U ≤ j ∧ j - U < k ∧ j ≤ N
        · rw [if_pos h, if_pos (by omega)]
        · rw [if_neg h, if_neg (by omega)]
    unfold S24x0x0x0 Z24x0x0x0
    simp only [e1, w1, e2, e3, e4, w2, w3, hn, hg, M68xe (show N - U ≤ 18 by omega) (show k ≤ 19 by omega), cl_some, decide_true, cond_true, and_self, Int.toNat_natCast, W_mul_l, W_add_l, W_add_r]
    rw [hset]
  · have hn : ∀ g, (zR (N + 1) g).n = N + 1 := fun _ => rfl
    unfold S24x0x0x0 Z24x0x0x0
    by_cases h1 : L ≤ N + 1 - U
    · have e1 : ¬ (((min L (N + 1 - U) : Nat) : Int) < (L : Int)) := by omega
      simp only [e1, decide_false, cond_false]
    · have e1 : ((min L (N + 1 - U) : Nat) : Int) < (L : Int) := by omega
      have w1 : W ((U : Int) + ((min L (N + 1 - U) : Nat) : Int)) = ((N + 1 : Nat) : Int) := by rw [W_id ⟨by omega, by omega⟩]; omega
      have e2 : ¬ (((N + 1 : Nat) : Int) ≤ (N : Int)) := by omega
      simp only [e1, w1, e2, decide_true, decide_false, cond_true, cond_false]
theorem loop24u {b N L f : Nat} (hb : b ≤ 10) (hN : N ≤ 18) (hL : L ≤ 19) (q : Unit) : L24x0x0 (no_index ((b : Int), ((N : Int), ((L : Int), (zR (N + 1) (fun i => W (dp N L f i)), ((f : Int), (q, ()))))))) (no_index ((0 : Int), (zR (N + 1) (fun _ => 0), ()))) = .exit 2 (zR (N + 1) (fun i => W (dp N L (f + 1) i)), ()) := by
  have h0 : zR (N + 1) (fun i => W (nx N L f 0 i)) = zR (N + 1) (fun _ => 0) := by
    congr 1
    funext i
    unfold nx
    by_cases hi : i ≤ N
    · rw [if_pos hi]; exact W_zero
    · rw [if_neg hi]; exact W_zero
  have hfin : zR (N + 1) (fun i => W (nx N L f (N + 1) i)) = zR (N + 1) (fun i => W (dp N L (f + 1) i)) := by
    congr 1
  rw [← h0, ← hfin]
  unfold L24x0x0
  refine iterQ_steps (ps := vs24x0x0) (N + 1) big (fun u => ((u : Int), (zR (N + 1) (fun i => W (nx N L f u i)), ()))) (big_lt (by omega)) (fun u hu => ?_) ?_
  · have e1 : (u : Int) ≤ (N : Int) := by omega
    have w3 : W ((u : Int) + 1) = ((u + 1 : Nat) : Int) := by rw [W_id ⟨by omega, by omega⟩]; omega
    unfold S24x0x0 Z24x0x0
    simp only [e1, w3, decide_true, cond_true]
    have := loop24i (b := b) (f := f) hb hN hL (show u ≤ N by omega) ()
    rw [this]
    rfl
  · have e1 : ¬ (((N + 1 : Nat) : Int) ≤ (N : Int)) := by omega
    unfold S24x0x0 Z24x0x0
    simp only [e1, decide_false, cond_false]
theorem M24xe {b N L : Nat} (hb : b ≤ 10) (hN : N ≤ 18) (hL : L ≤ 19) : M24 (no_index ((b : Int), ((N : Int), ((L : Int), ())))) = some (W (pwr b N - fw L b N), ()) := by
  have w1 : W ((N : Int) + 1) = ((N + 1 : Nat) : Int) := by rw [W_id ⟨by omega, by omega⟩]; rfl
  have e1 : ((0 : Int) ≤ ((N + 1 : Nat) : Int)) ∧ ((((N + 1 : Nat) : Int) ≤ (281474976710656 : Int)) ∧ ((((N + 1 : Nat) : Int) * (8 : Int)) ≤ (281474976710656 : Int))) := by omega
  have e2 : ((0 : Int) ≤ (0 : Int)) ∧ ((0 : Int) < ((N + 1 : Nat) : Int)) := by omega
  have hini : setSl (⟨N + 1, fun i => ((0 : Int), ())⟩ : rowI) 0 ((1 : Int), ()) = zR (N + 1) (fun i => W (dp N L 0 i)) := by
    refine set_zR (g := fun _ => 0) fun j => ?_
    simp only [dp]
    by_cases h : j = 0
    · rw [if_pos h]; exact W_one
    · rw [if_neg h]; exact W_zero
  have hloop : L24x0 (no_index ((b : Int), ((N : Int), ((L : Int), ())))) (no_index (zR (N + 1) (fun i => W (dp N L 0 i)), ((0 : Int), ()))) = .exit 0 (zR (N + 1) (fun i => W (dp N L b i)), ()) := by
    unfold L24x0
    refine iterQ_steps (ps := vs24x0) b big (fun f => (zR (N + 1) (fun i => W (dp N L f i)), ((f : Int), ()))) (big_lt (by omega)) (fun f hf => ?_) ?_
    · have h1 : (f : Int) < (b : Int) := by omega
      have w3 : W ((f : Int) + 1) = ((f + 1 : Nat) : Int) := by rw [W_id ⟨by omega, by omega⟩]; omega
      unfold S24x0 Z24x0
      simp only [h1, w1, e1, w3, decide_true, cond_true, and_self, Int.toNat_natCast]
      have := loop24u (b := b) (f := f) hb hN hL ()
      have e : (⟨N + 1, fun i => ((0 : Int), ())⟩ : rowI) = zR (N + 1) (fun _ => 0) := rfl
      rw [e, this]
      rfl
    · have h1 : ¬ ((b : Int) < (b : Int)) := by omega
      unfold S24x0 Z24x0
      simp only [h1, decide_false, cond_false]
  unfold M24 Q24
  simp only [w1, e1, e2, decide_true, cond_true, and_self, Int.toNat_natCast]
  rw [hini]
  have hres : W (W (pwr b N) - W (dp N L b N)) = W (pwr b N - fw L b N) := by
    rw [W_sub_l, W_sub_r, dp_fw hN b N (Nat.le_refl _), ch_self hN, Int.one_mul]
  have e3 : (0 : Int) ≤ (N : Int) ∧ (N : Int) < (((zR (N + 1) (fun i => W (dp N L b i))).n : Nat) : Int) := by
    show (0 : Int) ≤ (N : Int) ∧ (N : Int) < ((N + 1 : Nat) : Int); omega
  rw [hloop]
  simp only [xe24x0e0, M26xe (b : Int) (show N ≤ 140737488355328 by omega), cl_some, e3, decide_true, cond_true, Int.toNat_natCast, and_self]
  rw [← hres]
  rfl
end Go.Dm

/- The reference's landing; the law KiteLands. -/
import Derived.Test.YtlfgdpjompacjaaL11NP22
set_option linter.unusedVariables false
set_option linter.unusedSimpArgs false
namespace Go.Dm
set_option maxRecDepth 100000

theorem iterQ_fold {ps : List Pat} {wy : Ways} {step : (patsTy ps).den → RQ ps wy} {N : Nat} {α : Type} {up : α → Int → α} {lo hi : Int} {mk : Int → α → (patsTy ps).den} {q : α → LQ wy} (hN : lens lo hi < N)
    (h1 : ∀ x a, lo ≤ x → x ≤ hi → step (mk x a) = .next (mk (x + 1) (up a x))) (h2 : ∀ x a, hi < x → step (mk x a) = .out (q a)) (a : α) : iterQ step N (mk lo a) = q ((span3 lo hi).foldl up a) := by
  have key : ∀ (c n : Nat) (x : Int) (a : α), c < n → lo ≤ x → x + (c : Int) = lo + ((lens lo hi : Nat) : Int) → iterQ step n (mk x a) = q ((rng c x).foldl up a) := by
    intro c
    induction c with
    | zero =>
      intro n x a hn hx he
      cases n with
      | zero => omega
      | succ n =>
        have hlt : hi < x := by unfold lens at he; omega
        simp only [iterQ, h2 x a hlt]; rfl
    | succ c ih =>
      intro n x a hn hx he
      cases n with
      | zero => omega
      | succ n =>
        have hle : x ≤ hi := by unfold lens at he; omega
        simp only [iterQ, h1 x a hx hle]
        rw [ih n (x + 1) (up a x) (by omega) (by omega) (by omega)]
        rfl
  exact key (lens lo hi) N lo a hN (Int.le_refl _) rfl
/-- One more trip, as the reference widens. -/
def upS (f : flightT) (a : Bool × sixT) (x : Int × Int × Int) : Bool × sixT :=
  (false, bif a.1 then (drI f false false x, (drI f false true x, (drI f true false x, (drI f true true x, (flI f x, (flI f x, ()))))))
    else (min a.2.1 (drI f false false x), (max a.2.2.1 (drI f false true x), (min a.2.2.2.1 (drI f true false x), (max a.2.2.2.2.1 (drI f true true x), (min a.2.2.2.2.2.1 (flI f x), (max a.2.2.2.2.2.2.1 (flI f x), ())))))))
def GoodS (f : flightT) (S : List (Int × Int × Int)) (a : Bool × sixT) : Prop := (a.1 = true ∧ S = []) ∨ (a.1 = false ∧ LandOK f S a.2)
theorem GoodS.up {f : flightT} {S : List (Int × Int × Int)} {a : Bool × sixT} (h : GoodS f S a) (x : Int × Int × Int) : GoodS f (S ++ [x]) (upS f a x) := by
  refine .inr ⟨rfl, ?_⟩
  unfold upS
  rcases h with ⟨h1, rfl⟩ | ⟨h1, h2⟩
  · rw [h1]
    exact ⟨isLst_one _ x, isGst_one _ x, isLst_one _ x, isGst_one _ x, isLst_one _ x, isGst_one _ x⟩
  · rw [h1]
    exact ⟨h2.e0.snoc x, h2.e1.snoc x, h2.n0.snoc x, h2.n1.snoc x, h2.m0.snoc x, h2.m1.snoc x⟩
theorem GoodS.fold {f : flightT} : ∀ (l S : List (Int × Int × Int)) {a : Bool × sixT}, GoodS f S a → GoodS f (S ++ l) (l.foldl (upS f) a)
  | [], S, a, h => by rw [List.append_nil]; exact h
  | x :: l, S, a, h => by
    have := GoodS.fold l (S ++ [x]) (h.up x)
    rw [List.append_assoc] at this
    exact this
theorem foldl_flat {α β γ : Type} {h : α → List β} {up : γ → β → γ} : ∀ (l : List α) (a : γ), (l.flatMap h).foldl up a = l.foldl (fun a x => (h x).foldl up a) a
  | [], _ => rfl
  | x :: l, a => by rw [List.flatMap_cons, List.foldl_append, foldl_flat l]; rfl
theorem foldl_mp {α β γ : Type} {h : α → β} {up : γ → β → γ} : ∀ (l : List α) (a : γ), (l.map h).foldl up a = l.foldl (fun a x => up a (h x)) a
  | [], _ => rfl
  | x :: l, a => foldl_mp l (up a (h x))
theorem trips_fold {γ : Type} (f : flightT) (up : γ → Int × Int × Int → γ) (a : γ) : (trips f).foldl up a = (span3 f.2.1 f.2.2.1).foldl (fun a u => (span3 f.2.2.2.1 f.2.2.2.2.1).foldl (fun a d => (span3 f.2.2.2.2.2.1 f.2.2.2.2.2.2.1).foldl (fun a t => up a (u, (d, t))) a) a) a := by
  unfold trips
  rw [foldl_flat]
  congr 1
  funext a u
  rw [foldl_flat]
  congr 1
  funext a d
  rw [foldl_mp]
theorem wnd_le {f : flightT} (hf : flightB f = true) (north : Bool) : ∀ j, j < f.1.n → -100 ≤ ((wnd f north false).g j).1 ∧ ((wnd f north false).g j).1 ≤ ((wnd f north true).g j).1 ∧ ((wnd f north true).g j).1 ≤ 100 := fun j hj => by
  have hb := wind_bd hf hj
  have e : ∀ b, (wnd f north b).g j = (bif b then (spT f north j).2.1 else (spT f north j).1, ()) := fun b => rowW_g _ hj
  rw [e, e]
  unfold spT
  cases north
  · simp only [cond_true, cond_false]; exact hb.1
  · simp only [cond_true, cond_false]; exact hb.2
theorem drI_le {f : flightT} (hf : flightB f = true) (north : Bool) {x : Int × Int × Int} (hx : (50 ≤ x.1 ∧ x.1 ≤ 1000) ∧ (50 ≤ x.2.1 ∧ x.2.1 ≤ 1000)) : drI f north false x ≤ drI f north true x :=
  drift_mono hf hx.1 hx.2 (wnd_n f north false) (wnd_n f north true) (wnd_le hf north)
theorem drI_e {f : flightT} (north high : Bool) (x : Int × Int × Int) (h8 : f.1.n ≤ 8) : M100 (no_index (times f x.1 x.2.1 x.2.2 f.1.n, (wnd f north high, ()))) = some (drI f north high x, ()) := by
  have e := M100xle (a := times f x.1 x.2.1 x.2.2 f.1.n) (b := wnd f north high) (by rw [times_n, wnd_n]; exact Nat.le_refl _) (by rw [times_n]; omega)
  rw [times_n] at e
  rw [e]
  unfold drI drift
  rw [wnd_n]
  congr 2
  exact sums_congr fun j hj => by rw [times_g f hj, Int.mul_comm]
theorem flI_e {f : flightT} (x : Int × Int × Int) (h8 : f.1.n ≤ 8) : M101 (no_index (times f x.1 x.2.1 x.2.2 f.1.n, ())) = some (flI f x, ()) := by
  have := M101xe (a := times f x.1 x.2.1 x.2.2 f.1.n) (by rw [times_n]; omega)
  rw [times_n, total_e] at this
  exact this
theorem L49c_e {f : flightT} (hf : flightB f = true) {u d : Int} (hu : 50 ≤ u ∧ u ≤ 1000) (hd : 50 ≤ d ∧ d ≤ 1000) (z : sixT) (a : Bool × sixT) :
    L49x0x0x0 (no_index ((), ((), ((), (u, (d, (f, (z, ())))))))) (no_index (a.1, (f.2.2.2.2.2.1, (a.2, ())))) = .exit 4 (((span3 f.2.2.2.2.2.1 f.2.2.2.2.2.2.1).foldl (fun a t => upS f a (u, (d, t))) a).1, (((span3 f.2.2.2.2.2.1 f.2.2.2.2.2.2.1).foldl (fun a t => upS f a (u, (d, t))) a).2, ())) := by
  obtain ⟨_, hn4, h2, h3, h4⟩ := flightB_t hf
  unfold L49x0x0x0
  refine iterQ_fold (ps := vs49x0x0x0) (wy := wv49x0x0x0) (up := fun a t => upS f a (u, (d, t))) (lo := f.2.2.2.2.2.1) (hi := f.2.2.2.2.2.2.1) (mk := fun x a => (a.1, (x, (a.2, ())))) (q := fun a => .exit 4 (a.1, (a.2, ()))) (big_lt (n := lens f.2.2.2.2.2.1 f.2.2.2.2.2.2.1) (by unfold lens; omega)) (fun t a h1 h2 => ?_) (fun t a h => ?_) a
  · have e99 : M99 (no_index (f, (u, (d, (t, ()))))) = some (times f u d t f.1.n, ()) := M99xe f (by omega) (by omega) (by omega)
    have eL := L49i_e f (show f.1.n ≤ 8 by omega) a.1 u d t (times f u d t f.1.n) z a.2
    have q4 : W (t + 1) = t + 1 := W_id ⟨by omega, by omega⟩
    have k := fun north high => drI_e (f := f) north high (u, (d, t)) (show f.1.n ≤ 8 by omega)
    have k0 : M100 (no_index (times f u d t f.1.n, (rowW (fun j => (spE f j).1) f.1.n, ()))) = some (drI f false false (u, (d, t)), ()) := k false false
    have k1 : M100 (no_index (times f u d t f.1.n, (rowW (fun j => (spE f j).2.1) f.1.n, ()))) = some (drI f false true (u, (d, t)), ()) := k false true
    have k2 : M100 (no_index (times f u d t f.1.n, (rowW (fun j => (spN f j).1) f.1.n, ()))) = some (drI f true false (u, (d, t)), ()) := k true false
    have k3 : M100 (no_index (times f u d t f.1.n, (rowW (fun j => (spN f j).2.1) f.1.n, ()))) = some (drI f true true (u, (d, t)), ()) := k true true
    have k4 : M101 (no_index (times f u d t f.1.n, ())) = some (flI f (u, (d, t)), ()) := flI_e (f := f) (u, (d, t)) (show f.1.n ≤ 8 by omega)
    have le0 := drI_le hf false (x := (u, (d, t))) ⟨hu, hd⟩
    have le1 := drI_le hf true (x := (u, (d, t))) ⟨hu, hd⟩
    unfold S49x0x0x0 Z49x0x0x0
    simp only [h2, decide_true, cond_true, e99, cl_some]
    refine (congrArg (fun o => onExit o 6 _ _) eL).trans ?_
    refine (xe49x0_0_0_0e6 _ _ _).trans ?_
    simp only [k0, k1, k2, k3, k4, M83xe, cl_some, cond_false, q4, mn_e, mx_e]
    unfold upS
    cases a.1 with
    | true =>
      simp only [cond_true]
      have x1 : min (drI f false false (u, (d, t))) (drI f false true (u, (d, t))) = drI f false false (u, (d, t)) := by omega
      have x2 : max (drI f false false (u, (d, t))) (drI f false true (u, (d, t))) = drI f false true (u, (d, t)) := by omega
      have x3 : min (drI f true false (u, (d, t))) (drI f true true (u, (d, t))) = drI f true false (u, (d, t)) := by omega
      have x4 : max (drI f true false (u, (d, t))) (drI f true true (u, (d, t))) = drI f true true (u, (d, t)) := by omega
      rw [x1, x2, x3, x4]
    | false =>
      simp only [cond_false]
      have x1 : min (min a.2.1 (drI f false false (u, (d, t)))) (drI f false true (u, (d, t))) = min a.2.1 (drI f false false (u, (d, t))) := by omega
      have x2 : max (max a.2.2.1 (drI f false false (u, (d, t)))) (drI f false true (u, (d, t))) = max a.2.2.1 (drI f false true (u, (d, t))) := by omega
      have x3 : min (min a.2.2.2.1 (drI f true false (u, (d, t)))) (drI f true true (u, (d, t))) = min a.2.2.2.1 (drI f true false (u, (d, t))) := by omega
      have x4 : max (max a.2.2.2.2.1 (drI f true false (u, (d, t)))) (drI f true true (u, (d, t))) = max a.2.2.2.2.1 (drI f true true (u, (d, t))) := by omega
      rw [x1, x2, x3, x4]
  · have ht' : ¬ t ≤ f.2.2.2.2.2.2.1 := by omega
    unfold S49x0x0x0 Z49x0x0x0
    simp only [ht', decide_false, cond_false]
theorem L49b_e {f : flightT} (hf : flightB f = true) {u : Int} (hu : 50 ≤ u ∧ u ≤ 1000) (z : sixT) (a : Bool × sixT) :
    L49x0x0 (no_index ((), ((), ((), (u, (f, (z, ()))))))) (no_index (a.1, (f.2.2.2.1, (a.2, ())))) = .exit 2 (((span3 f.2.2.2.1 f.2.2.2.2.1).foldl (fun a d => (span3 f.2.2.2.2.2.1 f.2.2.2.2.2.2.1).foldl (fun a t => upS f a (u, (d, t))) a) a).1, (((span3 f.2.2.2.1 f.2.2.2.2.1).foldl (fun a d => (span3 f.2.2.2.2.2.1 f.2.2.2.2.2.2.1).foldl (fun a t => upS f a (u, (d, t))) a) a).2, ())) := by
  obtain ⟨_, hn4, h2, h3, h4⟩ := flightB_t hf
  unfold L49x0x0
  refine iterQ_fold (ps := vs49x0x0) (wy := wv49x0x0) (up := fun a d => (span3 f.2.2.2.2.2.1 f.2.2.2.2.2.2.1).foldl (fun a t => upS f a (u, (d, t))) a) (lo := f.2.2.2.1) (hi := f.2.2.2.2.1) (mk := fun x a => (a.1, (x, (a.2, ())))) (q := fun a => .exit 2 (a.1, (a.2, ()))) (big_lt (n := lens f.2.2.2.1 f.2.2.2.2.1) (by unfold lens; omega)) (fun d a h1 h2 => ?_) (fun d a h => ?_) a
  · have q4 : W (d + 1) = d + 1 := W_id ⟨by omega, by omega⟩
    unfold S49x0x0 Z49x0x0
    simp only [h2, decide_true, cond_true]
    refine (congrArg (fun o => onExit o 4 _ _) (L49c_e hf hu (d := d) (by omega) z a)).trans ?_
    refine (xe49x0_0_0e4 _ _ _).trans ?_
    rw [q4]
  · have ht' : ¬ d ≤ f.2.2.2.2.1 := by omega
    unfold S49x0x0 Z49x0x0
    simp only [ht', decide_false, cond_false]
theorem M49xe {f : flightT} (hf : flightB f = true) : ∃ o, M49 (no_index (f, ())) = some (o, ()) ∧ LandOK f (trips f) o := by
  obtain ⟨_, hn4, h2, h3, h4⟩ := flightB_t hf
  have L : L49x0 (no_index ((), ((), ((), (f, (zero6, ())))))) (no_index (true, (f.2.1, (zero6, ())))) = .exit 0 (((trips f).foldl (upS f) (true, zero6)).2, ()) := by
    rw [trips_fold]
    unfold L49x0
    refine iterQ_fold (ps := vs49x0) (wy := wv49x0) (up := fun a u => (span3 f.2.2.2.1 f.2.2.2.2.1).foldl (fun a d => (span3 f.2.2.2.2.2.1 f.2.2.2.2.2.2.1).foldl (fun a t => upS f a (u, (d, t))) a) a) (lo := f.2.1) (hi := f.2.2.1) (mk := fun x a => (a.1, (x, (a.2, ())))) (q := fun a => .exit 0 (a.2, ())) (big_lt (n := lens f.2.1 f.2.2.1) (by unfold lens; omega)) (fun u a h1 h2 => ?_) (fun u a h => ?_) (true, zero6)
    · have q4 : W (u + 1) = u + 1 := W_id ⟨by omega, by omega⟩
      unfold S49x0 Z49x0
      simp only [h2, decide_true, cond_true]
      refine (congrArg (fun o => onExit o 2 _ _) (L49b_e hf (u := u) (by omega) zero6 a)).trans ?_
      refine (xe49x0_0e2 _ _ _).trans ?_
      rw [q4]
    · have ht' : ¬ u ≤ f.2.2.1 := by omega
      unfold S49x0 Z49x0
      simp only [ht', decide_false, cond_false]
  have g := GoodS.fold (f := f) (trips f) [] (a := (true, zero6)) (.inl ⟨rfl, rfl⟩)
  rw [List.nil_append] at g
  refine ⟨((trips f).foldl (upS f) (true, zero6)).2, ?_, ?_⟩
  · unfold M49 Q49
    refine (congrArg (fun o => onExit o 0 _ _) L).trans ?_
    rfl
  · rcases g with ⟨_, g⟩ | ⟨_, g⟩
    · have := trips_pos hf
      rw [g] at this
      exact absurd this (Nat.lt_irrefl 0)
    · exact g
theorem M11xe (f : flightT) : M11 (no_index (f, ())) = some (true, ()) := by
  have e27 : M27 (no_index (f, ())) = some (decide (((f.1.n : Nat) : Int) ≤ 7), ()) := rfl
  unfold M11 Q11
  simp only [e27, cl_some, known_M]
  by_cases h7 : ((f.1.n : Nat) : Int) ≤ 7
  case neg => simp [h7]
  simp only [h7, decide_true, Bool.not_true, cond_false]
  have h8 : f.1.n ≤ 8 := by omega
  have e92 : M92 (no_index (f, ())) = some (flightB f, ()) := M92xe (x := (f, ())) (show f.1.n ≤ _ by omega)
  have e38 : M38 (no_index (f, ())) = some (flightB f, ()) := M38xe (x := (f, ())) (show f.1.n ≤ _ by omega)
  unfold M47 Q47
  simp only [e92, e38, cl_some]
  cases hf : flightB f with
  | false =>
    simp only [M48xn h8 hf, cl_some]
    rfl
  | true =>
    obtain ⟨o, e, h⟩ := M48xe hf
    obtain ⟨p, e', h'⟩ := M49xe hf
    obtain rfl := h.uniq h'
    simp only [e, e', cl_some]
    simp
theorem law11 (x : (a11).den) : M11 x = some (true, ()) := by
  obtain ⟨f, ⟨⟩⟩ := x
  exact M11xe f
end Go.Dm


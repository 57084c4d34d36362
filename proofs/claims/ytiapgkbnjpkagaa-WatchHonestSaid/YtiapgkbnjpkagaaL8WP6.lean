/- Chances, in plain terms. -/
import Derived.Test.YtiapgkbnjpkagaaL8WP5
set_option linter.unusedVariables false
set_option linter.unusedSimpArgs false
namespace Go.Dm
set_option maxRecDepth 100000

/-! numbers that are wrapped -/
theorem W_eq (n : Int) : W n = (n + 9223372036854775808) % 18446744073709551616 - 9223372036854775808 := by
  unfold W; rw [IntKind.wrap_i64]
theorem W_ex (n : Int) : ∃ k : Int, W n = n - 18446744073709551616 * k := ⟨(n + 9223372036854775808) / 18446744073709551616, by rw [W_eq]; omega⟩
theorem W_shift (n k : Int) : W (n - 18446744073709551616 * k) = W n := by rw [W_eq, W_eq]; omega
theorem W_add_l (a b : Int) : W (W a + b) = W (a + b) := by rw [W_eq, W_eq a, W_eq (a + b)]; omega
theorem W_add_r (a b : Int) : W (a + W b) = W (a + b) := by rw [W_eq, W_eq b, W_eq (a + b)]; omega
theorem W_sub_l (a b : Int) : W (W a - b) = W (a - b) := by rw [W_eq, W_eq a, W_eq (a - b)]; omega
theorem W_sub_r (a b : Int) : W (a - W b) = W (a - b) := by rw [W_eq, W_eq b, W_eq (a - b)]; omega
theorem W_mul_l (a b : Int) : W (W a * b) = W (a * b) := by
  obtain ⟨k, hk⟩ := W_ex a
  rw [hk, Int.sub_mul, Int.mul_assoc, W_shift]
theorem W_mul_r (a b : Int) : W (a * W b) = W (a * b) := by rw [Int.mul_comm, W_mul_l, Int.mul_comm]
theorem W_addmul (a b c : Int) : W (a + b * W c) = W (a + b * c) := by rw [← W_add_r, W_mul_r, W_add_r]
theorem W_W (a : Int) : W (W a) = W a := by rw [W_eq, W_eq a]; omega

/-! tables -/
def fac : Nat → Nat
  | 0 => 1
  | n + 1 => (n + 1) * fac n
def chN (n k : Nat) : Nat := bif Nat.ble k n then fac n / (fac k * fac (n - k)) else 0
def ch (n k : Nat) : Int := (chN n k : Int)
def isI (o : Option (Int × Unit)) (v : Nat) : Bool := match o with
  | some (x, _) => decide (x = (v : Int))
  | none => false
theorem isI_t {o : Option (Int × Unit)} {v : Nat} (h : isI o v = true) : o = some ((v : Int), ()) := by
  unfold isI at h
  split at h
  · rw [of_decide_eq_true h]
  · cases h
theorem tab92 : ((List.range 19).all fun n => (List.range 20).all fun k => isI (M92 ((n : Int), ((k : Int), ()))) (chN n k)) = true := by kernel_rfl
theorem tab68 : ((List.range 19).all fun n => (List.range 20).all fun k => isI (M68 ((n : Int), ((k : Int), ()))) (chN n k)) = true := by kernel_rfl
theorem M92xe {n k : Nat} (hn : n ≤ 18) (hk : k ≤ 19) : M92 (no_index ((n : Int), ((k : Int), ()))) = some (ch n k, ()) := isI_t (all_t (all_t tab92 (j := n) (by omega)) (j := k) (by omega))
theorem M68xe {n k : Nat} (hn : n ≤ 18) (hk : k ≤ 19) : M68 (no_index ((n : Int), ((k : Int), ()))) = some (ch n k, ()) := isI_t (all_t (all_t tab68 (j := n) (by omega)) (j := k) (by omega))
theorem tabTri : ((List.range 19).all fun n => (List.range (n + 1)).all fun i => (List.range (i + 1)).all fun u => Nat.beq (chN n u * chN (n - u) (i - u)) (chN n i * chN i (i - u))) = true := by kernel_rfl
theorem ch_tri {n i u : Nat} (hn : n ≤ 18) (hi : i ≤ n) (hu : u ≤ i) : ch n u * ch (n - u) (i - u) = ch n i * ch i (i - u) := by
  have := Nat.eq_of_beq_eq_true (all_t (all_t (all_t tabTri (j := n) (by omega)) (j := i) (by omega)) (j := u) (by omega))
  unfold ch
  rw [← Int.natCast_mul, ← Int.natCast_mul, this]
theorem tabSelf : ((List.range 19).all fun n => Nat.beq (chN n n) 1) = true := by kernel_rfl
theorem ch_self {n : Nat} (hn : n ≤ 18) : ch n n = 1 := by
  have := Nat.eq_of_beq_eq_true (all_t tabSelf (j := n) (by omega))
  unfold ch; rw [this]; rfl

/-! products and powers -/
theorem M91x2 (a b : Int) : M91 (no_index ((⟨2, fun i => List.getD [(a, ()), (b, ())] i (a, ())⟩ : rowI), ())) = some (W (a * b), ()) := by
  have : L91x0 (no_index ((⟨2, fun i => List.getD [(a, ()), (b, ())] i (a, ())⟩ : rowI), ((2 : Int), ()))) (no_index ((1 : Int), ((0 : Int), ()))) = .exit 0 (W (W (1 * a) * b), ()) := by
    unfold L91x0
    refine iterQ_steps (ps := vs91x0) 2 big (fun j => ((match j with | 0 => (1 : Int) | 1 => W (1 * a) | _ => W (W (1 * a) * b)), ((j : Int), ()))) (big_lt (by omega)) (fun j hj => ?_) ?_
    · have : j = 0 ∨ j = 1 := by omega
      rcases this with h | h <;> subst h <;> rfl
    · rfl
  rw [W_mul_l, Int.one_mul] at this
  unfold M91 Q91
  exact congrArg (fun q => onExit q 0 (fun u2 => some u2) none) this
def pwr (b : Int) : Nat → Int
  | 0 => 1
  | k + 1 => pwr b k * b
theorem W_one : W 1 = 1 := W_id ⟨by omega, by omega⟩
theorem W_zero : W 0 = 0 := W_id ⟨by omega, by omega⟩
theorem M93xe (b : Int) {k : Nat} (hk : k ≤ 140737488355328) : M93 (no_index (b, ((k : Int), ()))) = some (W (pwr b k), ()) := by
  have : L93x0 (no_index (b, ((k : Int), ()))) (no_index ((1 : Int), ((0 : Int), ()))) = .exit 0 (W (pwr b k), ()) := by
    have := iterQ_steps (ps := vs93x0) (step := S93x0 (b, ((k : Int), ()))) (q := .exit 0 (W (pwr b k), ())) k big (fun j => (W (pwr b j), ((j : Int), ()))) (big_lt hk) (fun j hj => ?_) ?_
    · rw [show W (pwr b 0) = 1 from W_one] at this
      exact this
    · unfold S93x0 Z93x0
      simp only [lt_ok hj, W_nat hj hk, decide_true, cond_true, M91x2, cl_some, W_mul_l, pwr]
    · unfold S93x0 Z93x0
      simp
  unfold M93 Q93
  exact congrArg (fun q => onExit q 0 (fun u2 => some u2) none) this
theorem M26xe (b : Int) {k : Nat} (hk : k ≤ 140737488355328) : M26 (no_index (b, ((k : Int), ()))) = some (W (pwr b k), ()) := by
  have : L26x0 (no_index (b, ((k : Int), ()))) (no_index ((1 : Int), ((0 : Int), ()))) = .exit 0 (W (pwr b k), ()) := by
    have := iterQ_steps (ps := vs26x0) (step := S26x0 (b, ((k : Int), ()))) (q := .exit 0 (W (pwr b k), ())) k big (fun j => (W (pwr b j), ((j : Int), ()))) (big_lt hk) (fun j hj => ?_) ?_
    · rw [show W (pwr b 0) = 1 from W_one] at this
      exact this
    · unfold S26x0 Z26x0
      simp only [lt_ok hj, W_nat hj hk, decide_true, cond_true, W_mul_l, pwr]
    · unfold S26x0 Z26x0
      simp
  unfold M26 Q26
  exact congrArg (fun q => onExit q 0 (fun u2 => some u2) none) this

/-! sums -/
def sumT (g : Nat → Int) : Nat → Int
  | 0 => 0
  | n + 1 => sumT g n + g n
theorem sumT_congr {g h : Nat → Int} : ∀ {n : Nat}, (∀ j, j < n → g j = h j) → sumT g n = sumT h n
  | 0, _ => rfl
  | n + 1, k => by rw [sumT, sumT, sumT_congr fun j hj => k j (by omega), k n (by omega)]
theorem sumT_head (g : Nat → Int) : ∀ n, sumT g (n + 1) = g 0 + sumT (fun j => g (j + 1)) n
  | 0 => by simp [sumT]
  | n + 1 => by rw [sumT, sumT_head g n, sumT, Int.add_assoc]
theorem sumT_rev (g : Nat → Int) : ∀ n, sumT (fun j => g (n - j)) (n + 1) = sumT g (n + 1)
  | 0 => rfl
  | n + 1 => by
    rw [sumT_head]
    have h1 : sumT (fun j => g (n + 1 - (j + 1))) (n + 1) = sumT (fun j => g (n - j)) (n + 1) := sumT_congr fun j _ => by rw [show n + 1 - (j + 1) = n - j by omega]
    rw [h1, sumT_rev g n]
    show g (n + 1 - 0) + _ = sumT g (n + 1) + g (n + 1)
    rw [Nat.sub_zero, Int.add_comm]
theorem sumT_cut (g : Nat → Int) (L : Nat) : ∀ n, sumT (fun t => if t < L then g t else 0) n = sumT g (min L n)
  | 0 => by simp [sumT]
  | n + 1 => by
    rw [sumT, sumT_cut g L n]
    by_cases h : n < L
    · rw [if_pos h, show min L n = n by omega, show min L (n + 1) = n + 1 by omega, sumT]
    · rw [if_neg h, show min L n = L by omega, show min L (n + 1) = L by omega, Int.add_zero]
theorem sumT_mul (c : Int) (g : Nat → Int) : ∀ n, sumT (fun t => c * g t) n = c * sumT g n
  | 0 => by simp [sumT]
  | n + 1 => by rw [sumT, sumT_mul c g n, sumT, Int.mul_add]

/-! the chance of agreements -/
def chaT (b : Int) (d l j : Nat) : Int := ch d (l + j) * pwr (b - 1) (d - (l + j))
def cha (b : Int) (d l : Nat) : Int := sumT (chaT b d l) (d + 1 - l)
theorem M61xe {b : Int} (hb : 2 ≤ b ∧ b ≤ 10) {d l : Nat} (hd : d ≤ 18) (hl : l ≤ 19) : M61 (no_index ((b, ((d : Int), ())), ((l : Int), ()))) = some (W (cha b d l), ()) := by
  have hw : W (b - 1) = b - 1 := W_id ⟨by omega, by omega⟩
  have : L61x0 (no_index ((), ((b, ((d : Int), ())), ()))) (no_index ((0 : Int), ((l : Int), ()))) = .exit 0 (W (cha b d l), ()) := by
    have := iterQ_steps (ps := vs61x0) (step := S61x0 ((), ((b, ((d : Int), ())), ()))) (q := .exit 0 (W (cha b d l), ())) (d + 1 - l) big (fun j => (W (sumT (chaT b d l) j), (((l + j : Nat) : Int), ()))) (big_lt (by omega)) (fun j hj => ?_) ?_
    · rw [show W (sumT (chaT b d l) 0) = 0 from W_zero] at this
      exact this
    · have e1 : ((l + j : Nat) : Int) ≤ (d : Int) := by omega
      have e2 : W ((d : Int) - ((l + j : Nat) : Int)) = ((d - (l + j) : Nat) : Int) := by rw [W_id ⟨by omega, by omega⟩]; omega
      have e3 : W (((l + j : Nat) : Int) + 1) = ((l + (j + 1) : Nat) : Int) := by rw [W_id ⟨by omega, by omega⟩]; omega
      unfold S61x0 Z61x0
      simp only [e1, e2, e3, hw, decide_true, cond_true, M92xe hd (show l + j ≤ 19 by omega), M93xe (b - 1) (show d - (l + j) ≤ 140737488355328 by omega), M91x2, cl_some, W_add_l, W_add_r, W_mul_r, W_addmul, sumT, chaT]
    · have e1 : ¬ (((l + (d + 1 - l) : Nat) : Int) ≤ (d : Int)) := by omega
      unfold S61x0 Z61x0
      simp only [e1, decide_false, cond_false, cha]
  unfold M61 Q61
  exact congrArg (fun q => onExit q 0 (fun u2 => some u2) none) this
theorem M23xe {b : Int} (hb : 2 ≤ b ∧ b ≤ 10) {d l : Nat} (hd : d ≤ 18) (hl : l ≤ 19) : M23 (no_index (b, ((d : Int), ((l : Int), ())))) = some (W (cha b d l), ()) := by
  have hw : W (b - 1) = b - 1 := W_id ⟨by omega, by omega⟩
  have : L23x0 (no_index (b, ((d : Int), ()))) (no_index ((0 : Int), ((l : Int), ()))) = .exit 0 (W (cha b d l), ()) := by
    have := iterQ_steps (ps := vs23x0) (step := S23x0 (b, ((d : Int), ()))) (q := .exit 0 (W (cha b d l), ())) (d + 1 - l) big (fun j => (W (sumT (chaT b d l) j), (((l + j : Nat) : Int), ()))) (big_lt (by omega)) (fun j hj => ?_) ?_
    · rw [show W (sumT (chaT b d l) 0) = 0 from W_zero] at this
      exact this
    · have e1 : ((l + j : Nat) : Int) ≤ (d : Int) := by omega
      have e2 : W ((d : Int) - ((l + j : Nat) : Int)) = ((d - (l + j) : Nat) : Int) := by rw [W_id ⟨by omega, by omega⟩]; omega
      have e3 : W (((l + j : Nat) : Int) + 1) = ((l + (j + 1) : Nat) : Int) := by rw [W_id ⟨by omega, by omega⟩]; omega
      unfold S23x0 Z23x0
      simp only [e1, e2, e3, hw, decide_true, cond_true, M68xe hd (show l + j ≤ 19 by omega), M26xe (b - 1) (show d - (l + j) ≤ 140737488355328 by omega), cl_some, W_add_l, W_add_r, W_mul_r, W_addmul, sumT, chaT]
    · have e1 : ¬ (((l + (d + 1 - l) : Nat) : Int) ≤ (d : Int)) := by omega
      unfold S23x0 Z23x0
      simp only [e1, decide_false, cond_false, cha]
  unfold M23 Q23
  exact congrArg (fun q => onExit q 0 (fun u2 => some u2) none) this
end Go.Dm

/- Counting lists, one by one. -/
import Derived.Test.YtiapgkbnjpkagaaL8WP9
set_option linter.unusedVariables false
set_option linter.unusedSimpArgs false
namespace Go.Dm
set_option maxRecDepth 100000

/-! sums -/
theorem sumT_add (f g : Nat → Int) : ∀ n, sumT (fun j => f j + g j) n = sumT f n + sumT g n
  | 0 => rfl
  | n + 1 => by rw [sumT, sumT, sumT, sumT_add f g n]; omega
theorem sumT_const (c : Int) : ∀ n : Nat, sumT (fun _ => c) n = c * n
  | 0 => by simp [sumT]
  | n + 1 => by rw [sumT, sumT_const c n, Int.natCast_add, Int.mul_add]; simp
theorem sumT_one (x y : Int) {p : Nat} : ∀ {n : Nat}, p < n → sumT (fun v => if v = p then x else y) n = x + ((n : Int) - 1) * y
  | n + 1, h => by
    rw [sumT]
    by_cases e : p = n
    · subst e
      have : sumT (fun v => if v = p then x else y) p = sumT (fun _ => y) p := sumT_congr fun j hj => if_neg (by omega)
      rw [this, sumT_const, if_pos rfl, Int.mul_comm]
      have : ((p + 1 : Nat) : Int) - 1 = (p : Int) := by omega
      rw [this]; omega
    · rw [sumT_one x y (n := n) (by omega), if_neg (by omega)]
      have : ((n + 1 : Nat) : Int) - 1 = ((n : Int) - 1) + 1 := by omega
      rw [this, Int.add_mul, Int.one_mul]; omega
/-- How many there are below. -/
def cN (c : Nat → Bool) : Nat → Int
  | 0 => 0
  | n + 1 => cN c n + bif c n then 1 else 0
theorem cN_congr {c d : Nat → Bool} : ∀ {n : Nat}, (∀ j, j < n → c j = d j) → cN c n = cN d n
  | 0, _ => rfl
  | n + 1, h => by rw [cN, cN, cN_congr fun j hj => h j (by omega), h n (by omega)]
theorem cN_all (n : Nat) : cN (fun _ => true) n = n := by
  induction n with
  | zero => rfl
  | succ n ih => rw [cN, ih]; rfl
theorem cN_no (n : Nat) : cN (fun _ => false) n = 0 := by
  induction n with
  | zero => rfl
  | succ n ih => rw [cN, ih]; rfl
theorem cN_bd (c : Nat → Bool) (n : Nat) : 0 ≤ cN c n ∧ cN c n ≤ n := by
  induction n with
  | zero => exact ⟨Int.le_refl _, Int.le_refl _⟩
  | succ n ih => rw [cN]; cases c n <;> simp <;> omega
theorem cN_not (c : Nat → Bool) (n : Nat) : cN (fun j => !c j) n = n - cN c n := by
  induction n with
  | zero => rfl
  | succ n ih => rw [cN, cN, ih]; cases c n <;> simp <;> omega
theorem cN_or {c d e : Nat → Bool} (h : ∀ j, c j = true → d j = true ∨ e j = true) (n : Nat) : cN c n ≤ cN d n + cN e n := by
  induction n with
  | zero => exact Int.le_refl _
  | succ n ih =>
    have := h n
    rw [cN, cN, cN]
    cases hc : c n <;> cases hd : d n <;> cases he : e n <;> simp_all <;> omega
theorem cN_add (c : Nat → Bool) (a : Nat) : ∀ k, cN c (a + k) = cN c a + sumT (fun v => bif c (a + v) then 1 else 0) k
  | 0 => by simp [sumT]
  | k + 1 => by rw [← Nat.add_assoc, cN, cN_add c a k, sumT, Int.add_assoc]
theorem cN_mul (c : Nat → Bool) (b : Nat) : ∀ N, cN c (N * b) = sumT (fun v => cN (fun q => c (q * b + v)) N) b
  | 0 => by rw [Nat.zero_mul]; show (0 : Int) = _; exact ((sumT_const 0 b).trans (by simp)).symm
  | N + 1 => by
    rw [Nat.succ_mul, cN_add, cN_mul c b N]
    have : (fun v => cN (fun q => c (q * b + v)) (N + 1)) = fun v => cN (fun q => c (q * b + v)) N + (bif c (N * b + v) then 1 else 0) := rfl
    rw [this, sumT_add]

/-! figures -/
def dg (b : Nat) : Nat → Nat → Nat
  | n, 0 => n % b
  | n, j + 1 => dg b (n / b) j
theorem dg_lt {b : Nat} (hb : 0 < b) : ∀ n j, dg b n j < b
  | n, 0 => Nat.mod_lt _ hb
  | n, j + 1 => dg_lt hb (n / b) j
theorem mod_qv {b v : Nat} (q : Nat) (h : v < b) : (q * b + v) % b = v := by
  rw [Nat.add_comm, Nat.add_mul_mod_self_right, Nat.mod_eq_of_lt h]
theorem div_qv {b v : Nat} (q : Nat) (h : v < b) : (q * b + v) / b = q := by
  rw [Nat.add_comm, Nat.add_mul_div_right _ _ (by omega : 0 < b), Nat.div_eq_of_lt h, Nat.zero_add]
def kc (c : Nat → Bool) : Nat → Nat
  | 0 => 0
  | j + 1 => kc c j + bif c j then 1 else 0
theorem kc_congr {c d : Nat → Bool} : ∀ {n : Nat}, (∀ j, j < n → c j = d j) → kc c n = kc d n
  | 0, _ => rfl
  | n + 1, h => by rw [kc, kc, kc_congr fun j hj => h j (by omega), h n (by omega)]
theorem kc_head (c : Nat → Bool) : ∀ n, kc c (n + 1) = (bif c 0 then 1 else 0) + kc (fun j => c (j + 1)) n
  | 0 => by simp [kc]
  | n + 1 => by rw [kc, kc_head c n, kc, Nat.add_assoc]
theorem kc_le (c : Nat → Bool) : ∀ n, kc c n ≤ n
  | 0 => Nat.le_refl _
  | n + 1 => by have := kc_le c n; rw [kc]; cases c n <;> simp <;> omega
theorem cntW_kc (c : Nat → Bool) : ∀ {n : Nat}, n ≤ 18 → cntW c n = (kc c n : Int)
  | 0, _ => rfl
  | n + 1, h => by
    have := kc_le c n
    rw [cntW, kc, cntW_kc c (n := n) (by omega)]
    cases c n with
    | false => rfl
    | true => rw [cond_true, cond_true, W_id ⟨by omega, by omega⟩]; rfl
theorem pwr_nat (b : Nat) : ∀ d, pwr (b : Int) d = ((b ^ d : Nat) : Int)
  | 0 => rfl
  | d + 1 => by rw [pwr, pwr_nat b d, Nat.pow_succ, Int.natCast_mul]

/-! agreements -/
def agN (b m : Nat) (p : Nat → Nat) (n : Nat) : Nat := kc (fun j => decide (dg b n j = p j)) m
theorem tabCha : ((List.range 11).all fun b => (List.range 11).all fun m => (List.range 19).all fun s => Nat.ble 2 b == false || decide (cha (b : Int) (m + 1) (s + 1) = cha (b : Int) m s + ((b : Int) - 1) * cha (b : Int) m (s + 1))) = true := by kernel_rfl
theorem cha_rec {b m s : Nat} (hb : 2 ≤ b ∧ b ≤ 10) (hm : m ≤ 10) (hs : s ≤ 18) : cha (b : Int) (m + 1) (s + 1) = cha (b : Int) m s + ((b : Int) - 1) * cha (b : Int) m (s + 1) := by
  have := all_t (all_t (all_t tabCha (j := b) (by omega)) (j := m) (by omega)) (j := s) (by omega)
  have h2 : Nat.ble 2 b = true := by rw [Nat.ble_eq]; exact hb.1
  rw [h2] at this
  simpa using this
theorem agree_all {b : Nat} (hb : 2 ≤ b ∧ b ≤ 10) : ∀ {m : Nat}, m ≤ 11 → ∀ {s : Nat}, s ≤ 19 → ∀ p : Nat → Nat, (∀ j, p j < b) → cN (fun n => decide (s ≤ agN b m p n)) (b ^ m) = cha (b : Int) m s
  | 0, _, 0, _, p, _ => by rw [cha_all (by omega) (by omega)]; rfl
  | 0, _, s + 1, _, p, _ => by rw [cha_end (by omega)]; rfl
  | m + 1, hm, 0, _, p, _ => by
    rw [cha_all (by omega) (by omega), pwr_nat]
    have : (fun n => decide (0 ≤ agN b (m + 1) p n)) = fun _ => true := funext fun n => decide_eq_true (Nat.zero_le _)
    rw [this, cN_all]
  | m + 1, hm, s + 1, hs, p, hp => by
    have i1 := agree_all hb (m := m) (by omega) (s := s) (by omega) (fun j => p (j + 1)) (fun j => hp (j + 1))
    have i2 := agree_all hb (m := m) (by omega) (s := s + 1) hs (fun j => p (j + 1)) (fun j => hp (j + 1))
    rw [cha_rec hb (by omega) (by omega), Nat.pow_succ, cN_mul, ← i1, ← i2, ← sumT_one _ _ (hp 0)]
    refine sumT_congr fun v hv => ?_
    have e : ∀ q, agN b (m + 1) p (q * b + v) = (if v = p 0 then 1 else 0) + agN b m (fun j => p (j + 1)) q := fun q => by
      unfold agN
      rw [kc_head]
      have : (fun j => decide (dg b (q * b + v) (j + 1) = p (j + 1))) = fun j => decide (dg b q j = p (j + 1)) := funext fun j => by
        show decide (dg b ((q * b + v) / b) j = _) = _
        rw [div_qv q hv]
      rw [this]
      show (bif decide ((q * b + v) % b = p 0) then 1 else 0) + _ = _
      rw [mod_qv q hv]
      by_cases h : v = p 0 <;> simp [h]
    by_cases h : v = p 0
    · rw [if_pos h]
      refine cN_congr fun q _ => ?_
      rw [e q, if_pos h]
      exact decide_eq_decide.2 (by omega)
    · rw [if_neg h]
      refine cN_congr fun q _ => ?_
      rw [e q, if_neg h, Nat.zero_add]

/-! favourites: how often each figure may be there -/
def hw : List Nat → Nat → Int
  | [], m => if m = 0 then 1 else 0
  | c :: cs, m => sumT (fun t => if t < c then ch m t * hw cs (m - t) else 0) (m + 1)
def sumDec (K : List Nat → Int) : List Nat → Int
  | [] => 0
  | c :: cs => K ((c - 1) :: cs) + sumDec (fun x => K (c :: x)) cs
theorem sumDec_congr {K K' : List Nat → Int} : ∀ (cs : List Nat), (∀ x, K x = K' x) → sumDec K cs = sumDec K' cs
  | [], _ => rfl
  | c :: cs, h => by rw [sumDec, sumDec, h, sumDec_congr cs fun x => h _]
theorem sumDec_add (K K' : List Nat → Int) : ∀ (cs : List Nat), sumDec (fun x => K x + K' x) cs = sumDec K cs + sumDec K' cs
  | [] => rfl
  | c :: cs => by rw [sumDec, sumDec, sumDec, sumDec_add]; omega
theorem sumDec_mul (a : Int) (K : List Nat → Int) : ∀ (cs : List Nat), sumDec (fun x => a * K x) cs = a * sumDec K cs
  | [] => by simp [sumDec]
  | c :: cs => by rw [sumDec, sumDec, sumDec_mul, Int.mul_add]
theorem sumDec_zero : ∀ (cs : List Nat), sumDec (fun _ => 0) cs = 0
  | [] => rfl
  | c :: cs => by rw [sumDec, sumDec_zero]; rfl
theorem sumDec_sum (K : Nat → List Nat → Int) (cs : List Nat) : ∀ n, sumDec (fun x => sumT (fun t => K t x) n) cs = sumT (fun t => sumDec (K t) cs) n
  | 0 => sumDec_zero cs
  | n + 1 => by
    rw [sumT, ← sumDec_sum K cs n, ← sumDec_add]
    rfl
theorem tabPas : ((List.range 18).all fun m => (List.range 19).all fun t => Nat.beq (chN (m + 1) (t + 1)) (chN m (t + 1) + chN m t)) = true := by kernel_rfl
theorem pascal {m t : Nat} (hm : m ≤ 17) (ht : t ≤ 18) : ch (m + 1) (t + 1) = ch m (t + 1) + ch m t := by
  have := Nat.eq_of_beq_eq_true (all_t (all_t tabPas (j := m) (by omega)) (j := t) (by omega))
  unfold ch; rw [this, Int.natCast_add]
theorem tabZero : ((List.range 19).all fun m => Nat.beq (chN m 0) 1 && Nat.beq (chN m (m + 1)) 0) = true := by kernel_rfl
theorem ch_zero {m : Nat} (hm : m ≤ 18) : ch m 0 = 1 ∧ ch m (m + 1) = 0 := by
  have := all_t tabZero (j := m) (by omega)
  simp only [Bool.and_eq_true] at this
  have h1 := Nat.eq_of_beq_eq_true this.1
  have h2 := Nat.eq_of_beq_eq_true this.2
  unfold ch; rw [h1, h2]; exact ⟨rfl, rfl⟩
theorem hw_zero (cs : List Nat) (m : Nat) : hw (0 :: cs) m = 0 := by
  rw [hw]
  have : sumT (fun t => if t < 0 then ch m t * hw cs (m - t) else 0) (m + 1) = sumT (fun _ => 0) (m + 1) := sumT_congr fun j _ => if_neg (by omega)
  rw [this, sumT_const, Int.zero_mul]
theorem hw_rec : ∀ (cs : List Nat) {m : Nat}, m ≤ 17 → hw cs (m + 1) = sumDec (fun x => hw x m) cs
  | [], m, _ => by rw [hw, if_neg (by omega)]; rfl
  | 0 :: cs, m, _ => by
    rw [hw_zero, sumDec]
    have : sumDec (fun x => hw (0 :: x) m) cs = 0 := (sumDec_congr cs fun x => hw_zero x m).trans (sumDec_zero cs)
    show 0 = hw (0 :: cs) m + _
    rw [hw_zero, this]; rfl
  | (y + 1) :: cs, m, hm => by
    have z1 := ch_zero (m := m) (by omega)
    have z2 := ch_zero (m := m + 1) (by omega)
    -- the right side
    rw [sumDec]
    have r2 : sumDec (fun x => hw ((y + 1) :: x) m) cs = sumT (fun t => if t < y + 1 then ch m t * hw cs (m - t + 1) else 0) (m + 1) := by
      have : (fun x => hw ((y + 1) :: x) m) = fun x => sumT (fun t => if t < y + 1 then ch m t * hw x (m - t) else 0) (m + 1) := rfl
      rw [this, sumDec_sum (fun t x => if t < y + 1 then ch m t * hw x (m - t) else 0)]
      refine sumT_congr fun t ht => ?_
      by_cases h : t < y + 1
      · simp only [if_pos h]
        rw [sumDec_mul, ← hw_rec cs (by omega)]
      · simp only [if_neg h]
        exact sumDec_zero cs
    rw [r2]
    -- the left side
    rw [hw, sumT_head]
    simp only [Nat.succ_pos, if_true, z2.1, Int.one_mul, Nat.sub_zero]
    have l1 : sumT (fun j => if j + 1 < y + 1 then ch (m + 1) (j + 1) * hw cs (m + 1 - (j + 1)) else 0) (m + 1)
        = sumT (fun j => (if j < y then ch m j * hw cs (m - j) else 0) + (if j < y then ch m (j + 1) * hw cs (m - j) else 0)) (m + 1) := sumT_congr fun j hj => by
      rw [show m + 1 - (j + 1) = m - j by omega]
      by_cases h : j < y
      · rw [if_pos (by omega), if_pos h, if_pos h, pascal hm (by omega), Int.add_mul]; omega
      · rw [if_neg (by omega), if_neg h, if_neg h]; rfl
    rw [l1, sumT_add]
    have r3 : sumT (fun t => if t < y + 1 then ch m t * hw cs (m - t + 1) else 0) (m + 1) = hw cs (m + 1) + sumT (fun j => if j < y then ch m (j + 1) * hw cs (m - j) else 0) m := by
      rw [sumT_head]
      simp only [Nat.succ_pos, if_true, z1.1, Int.one_mul, Nat.sub_zero]
      refine congrArg _ (sumT_congr fun j hj => ?_)
      by_cases h : j < y
      · rw [if_pos (by omega), if_pos h, show m - (j + 1) + 1 = m - j by omega]
      · rw [if_neg (by omega), if_neg h]
    have r4 : sumT (fun j => if j < y then ch m (j + 1) * hw cs (m - j) else 0) (m + 1) = sumT (fun j => if j < y then ch m (j + 1) * hw cs (m - j) else 0) m := by
      rw [sumT, z1.2, Int.zero_mul]; simp
    rw [r3, r4]
    show hw cs (m + 1) + (hw (y :: cs) m + _) = hw (y :: cs) m + _
    omega
def decAt : List Nat → Nat → List Nat
  | [], _ => []
  | c :: cs, 0 => (c - 1) :: cs
  | c :: cs, v + 1 => c :: decAt cs v
theorem decAt_len : ∀ (cs : List Nat) (v : Nat), (decAt cs v).length = cs.length
  | [], _ => rfl
  | c :: cs, 0 => rfl
  | c :: cs, v + 1 => by rw [decAt, List.length_cons, List.length_cons, decAt_len cs v]
theorem sum_dec (K : List Nat → Int) : ∀ cs, sumT (fun v => K (decAt cs v)) cs.length = sumDec K cs
  | [] => rfl
  | c :: cs => by
    rw [List.length_cons, sumT_head, sumDec, ← sum_dec (fun x => K (c :: x)) cs]
    rfl
/-- No figure is there too often. -/
def okL (b : Nat) : List Nat → Nat → Nat → Bool
  | cs, 0, _ => cs.all fun c => decide (0 < c)
  | cs, m + 1, n => okL b (decAt cs (n % b)) m (n / b)
theorem hw_0 : ∀ cs : List Nat, hw cs 0 = bif cs.all (fun c => decide (0 < c)) then 1 else 0
  | [] => rfl
  | c :: cs => by
    rw [hw, sumT, sumT, List.all_cons, Nat.sub_zero, hw_0 cs]
    by_cases h : 0 < c
    · rw [if_pos h, decide_eq_true h, Bool.true_and, (ch_zero (m := 0) (by omega)).1]; omega
    · rw [if_neg h, decide_eq_false h, Bool.false_and]; rfl
theorem count_ok {b : Nat} : ∀ {m : Nat}, m ≤ 18 → ∀ (cs : List Nat), cs.length = b → cN (okL b cs m) (b ^ m) = hw cs m
  | 0, _, cs, _ => by
    rw [hw_0]
    show (0 : Int) + (bif cs.all (fun c => decide (0 < c)) then 1 else 0) = _
    omega
  | m + 1, hm, cs, hc => by
    subst hc
    rw [hw_rec cs (by omega), Nat.pow_succ, cN_mul, ← sum_dec]
    refine sumT_congr fun v hv => ?_
    rw [← count_ok (b := cs.length) (m := m) (by omega) (decAt cs v) (decAt_len cs v)]
    refine cN_congr fun q _ => ?_
    show okL cs.length (decAt cs ((q * cs.length + v) % cs.length)) m ((q * cs.length + v) / cs.length) = _
    rw [mod_qv q hv, div_qv q hv]
theorem hw_fw (L : Nat) : ∀ (f m : Nat), hw (List.replicate f L) m = fw L f m
  | 0, m => rfl
  | f + 1, m => by
    rw [List.replicate_succ, hw, fw, sumT_cut]
    exact sumT_congr fun t _ => by rw [hw_fw L f]
def capO (cs : List Nat) (v : Nat) : Nat := cs.getD v 0
theorem decAt_cap : ∀ (cs : List Nat) (v w : Nat), capO (decAt cs v) w = capO cs w - (if v = w then 1 else 0)
  | [], v, w => by simp [decAt, capO]
  | c :: cs, 0, 0 => by simp [decAt, capO]
  | c :: cs, 0, w + 1 => by simp [decAt, capO]
  | c :: cs, v + 1, 0 => by simp [decAt, capO]
  | c :: cs, v + 1, w + 1 => by
    have := decAt_cap cs v w
    simp only [decAt, capO, List.getD_cons_succ] at this ⊢
    rw [this]
    by_cases h : v = w <;> simp [h]
theorem all_cap : ∀ (cs : List Nat), cs.all (fun c => decide (0 < c)) = (List.range cs.length).all (fun v => decide (0 < capO cs v))
  | [] => rfl
  | c :: cs => by
    rw [List.all_cons, List.length_cons, List.range_succ_eq_map, List.all_cons, List.all_map, all_cap cs]
    rfl
def figN (b m v n : Nat) : Nat := kc (fun j => decide (dg b n j = v)) m
theorem ok_cap {b : Nat} (hb : 0 < b) : ∀ (m : Nat) (cs : List Nat) (n : Nat), cs.length = b → okL b cs m n = (List.range b).all fun v => decide (figN b m v n < capO cs v)
  | 0, cs, n, hc => by
    rw [← hc]
    exact all_cap cs
  | m + 1, cs, n, hc => by
    show okL b (decAt cs (n % b)) m (n / b) = _
    rw [ok_cap hb m _ _ (by rw [decAt_len]; exact hc)]
    refine all_congr b fun v _ _ => ?_
    have e : figN b (m + 1) v n = (if n % b = v then 1 else 0) + figN b m v (n / b) := by
      unfold figN
      rw [kc_head]
      show (bif decide (n % b = v) then 1 else 0) + _ = _
      by_cases h : n % b = v <;> simp [h] <;> rfl
    rw [e, decAt_cap]
    exact decide_eq_decide.2 (by split <;> omega)
theorem fav_all {b m L : Nat} (hb : 0 < b) (hm : m ≤ 18) : cN (fun n => (List.range b).all fun v => decide (figN b m v n < L)) (b ^ m) = fw L b m := by
  rw [← hw_fw, ← count_ok hm (List.replicate b L) (List.length_replicate ..)]
  refine cN_congr fun n _ => ?_
  rw [ok_cap hb m _ _ (List.length_replicate ..)]
  refine all_congr b fun v hv _ => ?_
  have : capO (List.replicate b L) v = L := by
    unfold capO
    rw [List.getD_eq_getElem?_getD, List.getElem?_replicate]
    simp [hv]
  rw [this]
end Go.Dm

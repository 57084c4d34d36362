/-
  The framework: an interpreter over typed data, and why what it says of a call is true.
-/
import Derived.Test.YtlfgdpjompacjaaFwA
set_option linter.unusedVariables false
set_option linter.unusedSimpArgs false
/- == over structs and arrays of integers and bools, for every program; keys of maps. -/
namespace Go.Dm
open Go.RowKit
variable {P : Program} {N : Nat} {G : Gh} {S S' : CS} {w w' : World} {s : St} {a : Act} {ρ ρ' : Rho} {F F' : Nat → Prop} {heap heap' : Nat → DObj} {Y : Value} {E : TCtx} {Γ : Ctx}

/-- The cells of a type that is made of integers and bools. -/
def eqFieldsS (P : Program) (rec : TypeId → Option (List Ty)) : Nat → List Field → Option (List Ty)
  | _, [] => some []
  | off, f :: fs => match rec f.type with
    | some l => match f.name != "_" && Nat.beq f.offset off && decide (sizeD P f.type = some l.length) with
      | true => (eqFieldsS P rec (off + l.length) fs).map (l ++ ·)
      | false => none
    | none => none
def eqShape (P : Program) : Nat → TypeId → Option (List Ty)
  | 0, _ => none
  | m + 1, t => match P.underlying t with
    | some (.int k) => some [.int k]
    | some .bool => some [.bool]
    | some (.struct fs) => match P.stoodInHeld t with
      | true => none
      | false => eqFieldsS P (eqShape P m) 0 fs.toList
    | some (.array len e) => match eqShape P m e with
      | some l => match decide (sizeD P e = some l.length) with
        | true => some (List.replicate len l).flatten
        | false => none
      | none => none
    | _ => none

def ValAt (P : Program) (t : TypeId) (us : List Value) (x : Value) : Prop := (isAggD P t = some true ∧ x = .agg us.toArray) ∨ (isAggD P t = some false ∧ us = [x])

theorem eqVals_append : ∀ {us vs us' vs' : List Value}, us.length = vs.length → eqVals (us ++ us') (vs ++ vs') = (eqVals us vs).bind fun b => (eqVals us' vs').map (b && ·)
  | [], [], us', vs', _ => by simp [eqVals]
  | [], _ :: _, _, _, h => by simp at h
  | _ :: _, [], _, _, h => by simp at h
  | u :: us, v :: vs, us', vs', h => by
    have ih := eqVals_append (us := us) (vs := vs) (us' := us') (vs' := vs') (by simpa using h)
    simp only [List.cons_append]
    cases u <;> cases v <;> simp only [eqVals, Option.bind_none] <;> try rfl
    · rw [ih]
      cases eqVals us vs with
      | none => rfl
      | some b => cases eqVals us' vs' <;> simp [Bool.and_assoc]
    · split
      · rw [ih]
        cases eqVals us vs with
        | none => rfl
        | some b => cases eqVals us' vs' <;> simp [Bool.and_assoc]
      · rfl

theorem part_val {t : TypeId} {n : Nat} (hn : sizeD P t = some n) (ha : ∃ b, isAggD P t = some b) (h1 : isAggD P t = some false → n = 1) (us : List Value) (off : Nat) (hle : off + n ≤ us.length) :
    ∃ x, (part t us.toArray off).run P w = .ok x w ∧ ValAt P t ((us.drop off).take n) x := by
  obtain ⟨b, ha⟩ := ha
  cases b with
  | true => exact ⟨_, part_agg ha hn, .inl ⟨ha, rfl⟩⟩
  | false =>
    have := h1 ha
    subst this
    have hlt : off < us.length := by omega
    refine ⟨us[off], part_one ha (List.getElem?_eq_getElem hlt), .inr ⟨ha, ?_⟩⟩
    rw [List.drop_eq_getElem_cons hlt]; rfl

theorem eqShape_agg {m : Nat} {l : List Ty} {t : TypeId} (h : eqShape P m t = some l) : ∃ b, isAggD P t = some b ∧ (b = false → l.length = 1) := by
  cases m with
  | zero => cases h
  | succ m =>
    unfold eqShape at h
    unfold isAggD
    split at h
    · rename_i hu; rw [hu]; cases h; exact ⟨false, rfl, fun _ => rfl⟩
    · rename_i hu; rw [hu]; cases h; exact ⟨false, rfl, fun _ => rfl⟩
    · rename_i hu; rw [hu]; exact ⟨true, rfl, fun e => by cases e⟩
    · rename_i hu; rw [hu]; exact ⟨true, rfl, fun e => by cases e⟩
    · cases h

def EqOk (P : Program) (d : Nat) (t : TypeId) (l : List Ty) : Prop :=
  ∀ (w : World) (us vs : List Value) (x y : Value) (b : Bool), Typed l us → Typed l vs → ValAt P t us x → ValAt P t vs y → eqVals us vs = some b → (Op.equalIn d t x y).run P w = .ok b w

/-- One part of two values. -/
theorem eq_step {d : Nat} {t : TypeId} {l : List Ty} (hok : EqOk P d t l) (hsz : sizeD P t = some l.length) (hagg : ∃ b, isAggD P t = some b ∧ (b = false → l.length = 1)) {l' : List Ty} {us vs : List Value} {off : Nat}
    (hou : off ≤ us.length) (hov : off ≤ vs.length) (hu : Typed (l ++ l') (us.drop off)) (hv : Typed (l ++ l') (vs.drop off)) {b : Bool} (hb : eqVals (us.drop off) (vs.drop off) = some b) :
    ∃ x y b1 b2, (part t us.toArray off).run P w = .ok x w ∧ (part t vs.toArray off).run P w = .ok y w ∧ (Op.equalIn d t x y).run P w = .ok b1 w ∧
      off + l.length ≤ us.length ∧ off + l.length ≤ vs.length ∧ Typed l' (us.drop (off + l.length)) ∧ Typed l' (vs.drop (off + l.length)) ∧ eqVals (us.drop (off + l.length)) (vs.drop (off + l.length)) = some b2 ∧ b = (b1 && b2) := by
  obtain ⟨bb, hagg, h1⟩ := hagg
  have h1' : isAggD P t = some false → l.length = 1 := fun e => h1 (by rw [hagg] at e; simpa using e)
  have lu := hu.1
  have lv := hv.1
  simp only [List.length_drop, List.length_append] at lu lv
  obtain ⟨u1, u2⟩ := hu.split
  obtain ⟨v1, v2⟩ := hv.split
  rw [List.drop_drop] at u2 v2
  obtain ⟨x, px, vx⟩ := part_val (w := w) hsz ⟨bb, hagg⟩ h1' us off (by omega)
  obtain ⟨y, py, vy⟩ := part_val (w := w) hsz ⟨bb, hagg⟩ h1' vs off (by omega)
  have split1 : us.drop off = (us.drop off).take l.length ++ us.drop (off + l.length) := by rw [← List.drop_drop, List.take_append_drop]
  have split2 : vs.drop off = (vs.drop off).take l.length ++ vs.drop (off + l.length) := by rw [← List.drop_drop, List.take_append_drop]
  rw [split1, split2, eqVals_append (by rw [u1.1, v1.1])] at hb
  cases he1 : eqVals ((us.drop off).take l.length) ((vs.drop off).take l.length) with
  | none => rw [he1] at hb; cases hb
  | some b1 =>
    rw [he1] at hb
    simp only [Option.bind_some] at hb
    cases he2 : eqVals (us.drop (off + l.length)) (vs.drop (off + l.length)) with
    | none => rw [he2] at hb; cases hb
    | some b2 =>
      rw [he2] at hb
      simp only [Option.map_some, Option.some.injEq] at hb
      exact ⟨x, y, b1, b2, px, py, hok w _ _ x y b1 u1 v1 vx vy he1, by omega, by omega, u2, v2, rfl, hb.symm⟩

theorem eqFields_run {d : Nat} {rec : TypeId → Option (List Ty)} (hrec : ∀ t l, rec t = some l → EqOk P d t l ∧ ∃ b, isAggD P t = some b ∧ (b = false → l.length = 1)) {us vs : List Value} :
    ∀ (fs : List Field) (off : Nat) (l : List Ty), eqFieldsS P rec off fs = some l → off ≤ us.length → off ≤ vs.length → Typed l (us.drop off) → Typed l (vs.drop off) → ∀ b, eqVals (us.drop off) (vs.drop off) = some b →
      (Op.eqFields d us.toArray vs.toArray fs).run P w = .ok b w
  | [], off, l, h, hou, hov, hu, hv, b, hb => by
    simp only [eqFieldsS, Option.some.injEq] at h
    subst h
    rw [List.eq_nil_of_length_eq_zero hu.1, List.eq_nil_of_length_eq_zero hv.1] at hb
    cases hb
    rfl
  | f :: fs, off, l, h, hou, hov, hu, hv, b, hb => by
    simp only [eqFieldsS] at h
    cases hr : rec f.type with
    | none => rw [hr] at h; cases h
    | some k =>
      rw [hr] at h
      simp only at h
      cases hc : (f.name != "_" && Nat.beq f.offset off && decide (sizeD P f.type = some k.length)) with
      | false => rw [hc] at h; cases h
      | true =>
        rw [hc] at h
        simp only [Option.map_eq_some_iff] at h
        obtain ⟨l', hl', rfl⟩ := h
        simp only [Bool.and_eq_true, bne_iff_ne, ne_eq, decide_eq_true_eq] at hc
        obtain ⟨⟨hname, ho⟩, hsz⟩ := hc
        have ho := Nat.eq_of_beq_eq_true ho
        obtain ⟨hok, hagg⟩ := hrec _ _ hr
        obtain ⟨x, y, b1, b2, px, py, hq, o1, o2, t1, t2, he2, rfl⟩ := eq_step (w := w) hok hsz hagg hou hov hu hv hb
        have ih := eqFields_run hrec fs (off + k.length) l' hl' o1 o2 t1 t2 b2 he2
        have hnm : f.name ≠ "_" := hname
        simp only [Op.eqFields, if_pos hnm, ho, Sem.run_bind, px, py, hq, Result.andThen_ok, Sem.run_ite]
        cases b1 with
        | true => simpa using ih
        | false => simp

theorem eqItems_run {d : Nat} {e : TypeId} {k : List Ty} (hok : EqOk P d e k) (hsz : sizeD P e = some k.length) (hagg : ∃ b, isAggD P e = some b ∧ (b = false → k.length = 1)) {us vs : List Value} :
    ∀ (m i : Nat), i * k.length ≤ us.length → i * k.length ≤ vs.length → Typed (List.replicate m k).flatten (us.drop (i * k.length)) → Typed (List.replicate m k).flatten (vs.drop (i * k.length)) → ∀ b, eqVals (us.drop (i * k.length)) (vs.drop (i * k.length)) = some b →
      (Op.eqItems d e k.length us.toArray vs.toArray (List.range' i m)).run P w = .ok b w
  | 0, i, hou, hov, hu, hv, b, hb => by
    rw [List.eq_nil_of_length_eq_zero hu.1, List.eq_nil_of_length_eq_zero hv.1] at hb
    cases hb
    rfl
  | m + 1, i, hou, hov, hu, hv, b, hb => by
    rw [List.replicate_succ, List.flatten_cons] at hu hv
    obtain ⟨x, y, b1, b2, px, py, hq, o1, o2, t1, t2, he2, rfl⟩ := eq_step (w := w) hok hsz hagg hou hov hu hv hb
    rw [← Nat.succ_mul] at o1 o2 t1 t2 he2
    have ih := eqItems_run hok hsz hagg m (i + 1) o1 o2 t1 t2 b2 he2
    rw [List.range'_succ]
    simp only [Op.eqItems, Sem.run_bind, px, py, hq, Result.andThen_ok, Sem.run_ite]
    cases b1 with
    | true => simpa using ih
    | false => simp

theorem eqShape_run : ∀ (m : Nat) (t : TypeId) (l : List Ty), eqShape P m t = some l → ∀ d, EqOk P (d + m) t l
  | 0, _, _, h, _ => by cases h
  | m + 1, t, l, h, d => by
    intro w us vs x y b hu hv hx hy hb
    have ih := fun t l h => eqShape_run m t l h d
    unfold eqShape at h
    have one : ∀ {x : Value} {us : List Value}, isAggD P t = some false → ValAt P t us x → us = [x] := fun ha hx => by
      rcases hx with ⟨q, _⟩ | ⟨_, q⟩
      · rw [ha] at q; cases q
      · exact q
    have agg : ∀ {x : Value} {us : List Value}, isAggD P t = some true → ValAt P t us x → x = .agg us.toArray := fun ha hx => by
      rcases hx with ⟨_, q⟩ | ⟨q, _⟩
      · exact q
      · rw [ha] at q; cases q
    split at h
    · rename_i k hut
      cases h
      have ha : isAggD P t = some false := by simp [isAggD, hut]
      obtain rfl := one ha hx
      obtain rfl := one ha hy
      obtain ⟨n1, rfl⟩ := hu.2 0 _ _ rfl rfl
      obtain ⟨n2, rfl⟩ := hv.2 0 _ _ rfl rfl
      simp only [eqVals, if_pos, Option.map_some, Bool.and_true, Option.some.injEq] at hb
      subst hb
      rw [show d + (m + 1) = (d + m) + 1 from rfl, run_equalIn_int w (d + m) t k k n1 n2 hut]
      congr 1
    · rename_i hut
      cases h
      have ha : isAggD P t = some false := by simp [isAggD, hut]
      obtain rfl := one ha hx
      obtain rfl := one ha hy
      obtain ⟨n1, rfl⟩ := hu.2 0 _ _ rfl rfl
      obtain ⟨n2, rfl⟩ := hv.2 0 _ _ rfl rfl
      simp only [eqVals, Option.map_some, Bool.and_true, Option.some.injEq] at hb
      subst hb
      rw [show d + (m + 1) = (d + m) + 1 from rfl, run_equalIn_bool w (d + m) t n1 n2 hut]
    · rename_i fs hut
      have ha : isAggD P t = some true := by simp [isAggD, hut]
      obtain rfl := agg ha hx
      obtain rfl := agg ha hy
      split at h
      · cases h
      · rename_i hst
        have hfs : P.fieldsOf t = fs := by simp [Program.fieldsOf, hut]
        rw [show d + (m + 1) = (d + m) + 1 from rfl, run_equalIn_struct w (d + m) t _ _ (by rw [hfs]; exact hut) hst, hfs]
        exact eqFields_run (d := d + m) (rec := eqShape P m) (fun t l h => ⟨ih t l h, eqShape_agg h⟩) fs.toList 0 l h (Nat.zero_le _) (Nat.zero_le _) (by simpa using hu) (by simpa using hv) b (by simpa using hb)
    · rename_i len e hut
      have ha : isAggD P t = some true := by simp [isAggD, hut]
      obtain rfl := agg ha hx
      obtain rfl := agg ha hy
      split at h
      · rename_i k hk
        split at h
        · rename_i hsz
          have hsz := of_decide_eq_true hsz
          simp only [Option.some.injEq] at h
          subst h
          obtain ⟨i, hi⟩ : ∃ i, P.info? e = some i := by
            unfold sizeD at hsz
            cases hq : P.info? e with
            | none => rw [hq] at hsz; cases hsz
            | some i => exact ⟨i, rfl⟩
          have hco : P.cellsOf e = k.length := by
            unfold sizeD at hsz
            unfold Program.cellsOf
            rw [hi] at hsz ⊢
            simpa using hsz
          rw [show d + (m + 1) = (d + m) + 1 from rfl, run_equalIn_array w (d + m) _ _ hut hi, hco, List.range_eq_range']
          exact eqItems_run (ih e k hk) hsz (eqShape_agg hk) len 0 (by simp) (by simp) (by simpa using hu) (by simpa using hv) b (by simpa using hb)
        · cases h
      · cases h
    · cases h

/-- The types at which == is known. -/
def eqTy (P : Program) (t : TypeId) : Option Ty :=
  match eqShape P 8 t with
  | some l => match isAggD P t, P.eqGuardType P.depth t, l.all fun σ => match σ with | .int _ | .bool => true | _ => false with
    | some true, false, true => some (listTy l)
    | _, _, _ => none
  | none => none

theorem eqTy_sound : EqSound P (eqTy P) := by
  intro t τ h
  unfold eqTy at h
  split at h
  case h_2 => cases h
  rename_i l hl
  split at h
  case h_2 => cases h
  rename_i ha hg hall
  simp only [Option.some.injEq] at h
  subst h
  refine ⟨l, rfl, fun σ hm => ?_, fun us vs b x y w hu hv hb => ?_⟩
  · rw [List.all_eq_true] at hall
    have := hall σ hm
    cases σ with
    | int k => exact .inr ⟨k, rfl⟩
    | bool => exact .inl rfl
    | _ => cases this
  · have hq : (Op.equalIn 10000 t (.agg us.toArray) (.agg vs.toArray)).run P w = .ok b w := eqShape_run 8 t l hl 9992 w us vs _ _ b hu hv (.inl ⟨ha, rfl⟩) (.inl ⟨ha, rfl⟩) hb
    constructor
    · simp only [Sem.run_bind, run_eqGuard_agg w .eql t x y _ _ hg, Result.andThen_ok, run_eql_struct, hq]
    · simp only [Sem.run_bind, run_eqGuard_agg w .neq t x y _ _ hg, Result.andThen_ok, run_neq_struct, hq]

end Go.Dm

namespace Go.Dm
open Go.RowKit
variable {P : Program} {N : Nat} {G : Gh} {S S' : CS} {w w' : World} {s : St} {a : Act} {ρ ρ' : Rho} {F F' : Nat → Prop} {heap heap' : Nat → DObj} {Y : Value} {E : TCtx} {Γ : Ctx}

theorem vals_R1 {τ : Ty} {x : τ.den} {v : Value} (h : RS P Y S w heap ρ (.v (.pc τ x)) v) : R P τ S w x [v] := h.2

theorem box_obj (h : SR P N G s a w ρ S F) {id : Nat} {ds : List DC} (ho : s.heap id = .box ds) {off : Nat} {v : Value} (hp : PtrOk s.heap ρ id off v) :
    ∃ b arr T, ρ id = some b ∧ v = .pointer (some ⟨b, off, none⟩) ∧ w.heap[b]? = some (.cells arr T (0, 0)) ∧ RL (RC P G.Y S w s.heap ρ) ds arr.toList := by
  obtain ⟨_, _, h3⟩ := hp
  obtain ⟨b, hb, hv⟩ := h3 ds ho
  have := h.obj id
  rw [ho] at this
  obtain ⟨b', arr, T, q1, _, q3, q4, _⟩ := this
  rw [hb] at q1
  cases q1
  exact ⟨b, arr, T, hb, hv, q3, q4⟩

theorem PtrOk.add {id off : Nat} {v : Value} (h : PtrOk heap ρ id off v) (m : Nat) : ∃ ad, v = .pointer (some ad) ∧ PtrOk heap ρ id (off + m) (.pointer (some (ad.add m))) := by
  obtain ⟨h1, ⟨ad, hv⟩, h3⟩ := h
  refine ⟨ad, hv, h1, ⟨_, rfl⟩, fun ds hd => ?_⟩
  obtain ⟨b, hb1, hb2⟩ := h3 ds hd
  rw [hv] at hb2
  cases hb2
  exact ⟨b, hb1, by rw [Addr.add_lit]⟩

theorem indexAddr_sound {o : Oper} {Q : Exit → Act → World → Prop} (h : SR P N G s a w ρ S F) (hd : o.dst.all (Nat.blt · N) = true) {t : TypeId} {x i : Operand} (hop : o.op = .indexAddr t x i)
    {sx si : Slot} (hx : RS P G.Y S w s.heap ρ sx (a.eval x)) (hi : RS P G.Y S w s.heap ρ si (a.eval i)) {e : Eff} (he : (indexAddrD P t s.heap sx si).run id = some e) :
    o.wp P a w (SRL P N G o s e) Q := by
  unfold indexAddrD at he
  split at he
  case h_2 => cases he
  rename_i k n
  have ei := RC_int hi
  split at he
  · rename_i el hu
    split at he
    · -- a row that may be written
      rename_i id ver
      split at he
      case h_2 => cases he
      rename_i cur T τ sl c ho hsz
      split at he
      case h_2 => cases he
      rename_i hc
      simp only [Bool.and_eq_true] at hc
      have hcv := Nat.eq_of_beq_eq_true hc.2
      have hc := Nat.eq_of_beq_eq_true hc.1
      simp only [Br.run, eff, bad] at he
      cases hb : decide (0 ≤ (show Int from n) ∧ (show Int from n) < sl.n) with
      | false => simp only [hb, cond_false] at he; cases he
      | true =>
        simp only [hb, cond_true, _root_.id] at he
        cases he
        have hbb : 0 ≤ (show Int from n) ∧ (show Int from n) < sl.n := of_decide_eq_true hb
        obtain ⟨h1, _, h3⟩ := hx
        have hnn : (show Int from n).toNat < sl.n := by omega
        obtain ⟨h0, _⟩ | ⟨b, cap, hb1, hv, _, _⟩ := (h3 _ _ _ _ ho).2 hcv
        · omega
        refine fin_val h hd (v := .pointer (some ⟨b, (show Int from n).toNat * τ.cells, none⟩)) ?_ ⟨h1, ⟨_, rfl⟩, fun cu' T' e' s' ho' => ?_⟩
        · simp only [execOp, hop, ei, hv, Instr.indexAt, asIntOf, Sem.run_bind, Sem.run_pure, Result.andThen_ok, run_underlying hu, if_pos hbb, size_run hsz, Addr.add_lit, hc, Nat.zero_add]
        · rw [ho] at ho'; cases ho'
          exact ⟨by omega, fun _ => ⟨b, hb1, rfl, hnn⟩⟩
    split at he
    case h_2 => cases he
    rename_i τ sl c hrow hsz
    split at he
    case h_2 => cases he
    rename_i hc
    have hc := Nat.eq_of_beq_eq_true hc
    simp only [okIf, Br.run, eff, bad] at he
    cases hb : decide (0 ≤ (show Int from n) ∧ (show Int from n) < sl.n) with
    | false => simp only [hb, cond_false] at he; cases he
    | true =>
      simp only [hb, cond_true, id] at he
      cases he
      have hbb : 0 ≤ (show Int from n) ∧ (show Int from n) < sl.n := of_decide_eq_true hb
      have hR := rowOf_R hx hrow
      have hnn : (show Int from n).toNat < sl.n := by omega
      rcases hR with ⟨hv, h0⟩ | ⟨b, off, cap, hv, h1, h2, h3⟩
      · omega
      · obtain ⟨us, u1, u2, u3⟩ := h3 _ hnn
        have hv : a.eval x = .slice (some ⟨b, off, none⟩) sl.n cap := by simpa using hv
        refine fin_val h hd (v := .pointer (some ⟨b, off + (show Int from n).toNat * τ.cells, none⟩)) ?_ ⟨rfl, b, _, us, rfl, u1, u2, u3⟩
        simp only [execOp, hop, ei, hv, Instr.indexAt, asIntOf, Sem.run_bind, Sem.run_pure, Result.andThen_ok, run_underlying hu, if_pos hbb, size_run hsz, Addr.add_lit, hc]
  · rename_i len el hu
    have key : ∀ (id off c : Nat), PtrOk s.heap ρ id off (a.eval x) → sizeD P el = some c → (okIf (decide (0 ≤ (show Int from n) ∧ (show Int from n) < len)) (.v (.pix id (off + (show Int from n).toNat * c))) []).run _root_.id = some e →
        o.wp P a w (SRL P N G o s e) Q := by
      intro id off c hx hsz he
      simp only [okIf, Br.run, eff, bad] at he
      cases hb : decide (0 ≤ (show Int from n) ∧ (show Int from n) < len) with
      | false => simp only [hb, cond_false] at he; cases he
      | true =>
        simp only [hb, cond_true, _root_.id] at he
        cases he
        have hbb : 0 ≤ (show Int from n) ∧ (show Int from n) < len := of_decide_eq_true hb
        obtain ⟨ad, hv, hp⟩ := hx.add ((show Int from n).toNat * c)
        refine fin_val h hd (v := .pointer (some (ad.add ((show Int from n).toNat * c)))) ?_ hp
        simp only [execOp, hop, ei, hv, Instr.indexAt, asIntOf, Sem.run_bind, Sem.run_pure, Result.andThen_ok, run_underlying hu, if_pos hbb, size_run hsz, Instr.sureAddr]
    split at he
    · rename_i id off c hsz; exact key id off c hx hsz he
    · rename_i id off c hsz; exact key id off c hx hsz he
    · rename_i τ x' c hsz
      split at he
      case h_2 => cases he
      rename_i hc
      simp only [Bool.and_eq_true, Nat.blt_eq] at hc
      obtain ⟨mm, hmm⟩ : ∃ mm, mm = (show Int from n).toNat * c := ⟨_, rfl⟩
      rw [← hmm] at hc he
      simp only [okIf, Br.run, eff, bad] at he
      cases hb : decide (0 ≤ (show Int from n) ∧ (show Int from n) < len) with
      | false => simp only [hb, cond_false] at he; cases he
      | true =>
        simp only [hb, cond_true, _root_.id] at he
        cases he
        have hbb : 0 ≤ (show Int from n) ∧ (show Int from n) < len := of_decide_eq_true hb
        obtain ⟨b, off, us, hv, u1, u2, u3⟩ := vals_R1 hx
        have hv : a.eval x = .pointer (some ⟨b, off, none⟩) := by simpa using hv
        have hmm' : Int.toNat n * c = mm := hmm.symm
        obtain ⟨q1, q2, q3⟩ := dropT_R (n := mm) hc.1 (by omega) u1
        refine fin_val h hd (v := .pointer (some ⟨b, off + mm, none⟩)) ?_ ⟨rfl, b, off + mm, us.drop mm, rfl, q1, by simp; omega, fun j v hj => ?_⟩
        · simp only [execOp, hop, ei, hv, Instr.indexAt, asIntOf, Sem.run_bind, Sem.run_pure, Result.andThen_ok, run_underlying hu, if_pos hbb, size_run hsz, Instr.sureAddr, Addr.add_lit, hmm']
        · rw [List.getElem?_drop] at hj
          have := u3 _ _ hj
          rwa [← Nat.add_assoc] at this
    · cases he
  · cases he

theorem fieldAddr_sound {o : Oper} {Q : Exit → Act → World → Prop} (h : SR P N G s a w ρ S F) (hd : o.dst.all (Nat.blt · N) = true) {t : TypeId} {x : Operand} {f : Nat} (hop : o.op = .fieldAddr t x f)
    {fs : Array Field} (hu : P.underlying t = some (.struct fs)) {fd : Field} (hf : fs[f]? = some fd) {n : Nat} (hn : sizeD P fd.type = some (n + 1))
    {sx : Slot} (hx : RS P G.Y S w s.heap ρ sx (a.eval x)) {e : Eff}
    (he : (fieldAddrD fd.offset sx).run id = some e) :
    o.wp P a w (SRL P N G o s e) Q := by
  have hrun : ∀ ad, a.eval x = .pointer (some ad) → (execOp a.eval o).run P w = .ok (.value (.pointer (some (ad.add fd.offset)))) w := fun ad hv => by
    simp only [execOp, hop, hv, Sem.run_bind, fieldAt_run hu hf hn, Result.andThen_ok, Sem.run_pure]
  cases sx with
  | v d =>
    cases d with
    | ptr id off =>
      cases he
      obtain ⟨ad, hv, hp⟩ := PtrOk.add hx fd.offset
      exact fin_val h hd (hrun ad hv) hp
    | pix id off =>
      cases he
      obtain ⟨ad, hv, hp⟩ := PtrOk.add hx fd.offset
      exact fin_val h hd (hrun ad hv) hp
    | elt id ver i off =>
      cases he
      obtain ⟨h1, ⟨ad, hv⟩, h3⟩ := hx
      refine fin_val h hd (hrun ad hv) ⟨h1, ⟨_, rfl⟩, fun cu T e s' ho => ?_⟩
      obtain ⟨q0, h3⟩ := h3 _ _ _ _ ho
      refine ⟨q0, fun hve => ?_⟩
      obtain ⟨b, q1, q2, q3⟩ := h3 hve
      rw [hv] at q2
      cases q2
      exact ⟨b, q1, by rw [Addr.add_lit, Nat.add_assoc], q3⟩
    | pc τ x' =>
      cases τ with
      | ptr el =>
        simp only [fieldAddrD] at he
        cases hc : (Nat.blt fd.offset el.cells && el.flat) with
        | false => rw [hc] at he; cases he
        | true =>
        rw [hc] at he
        cases he
        simp only [Bool.and_eq_true, Nat.blt_eq] at hc
        obtain ⟨b, off, us, hv, u1, u2, u3⟩ := vals_R1 hx
        have hv : a.eval x = .pointer (some ⟨b, off, none⟩) := by simpa using hv
        obtain ⟨q1, q2, q3⟩ := dropT_R (n := fd.offset) hc.2 (by omega) u1
        refine fin_val h hd (hrun _ hv) ⟨rfl, b, off + fd.offset, us.drop fd.offset, by rw [Addr.add_lit], q1, by simp; omega, fun j v hj => ?_⟩
        rw [List.getElem?_drop] at hj
        have := u3 _ _ hj
        rwa [← Nat.add_assoc] at this
      | _ => cases he
    | _ => cases he
  | _ => cases he

theorem index_sound {o : Oper} {Q : Exit → Act → World → Prop} (h : SR P N G s a w ρ S F) (hd : o.dst.all (Nat.blt · N) = true) {t : TypeId} {x i : Operand} (hop : o.op = .index t x i)
    {len : Nat} {el : TypeId} (hu : P.underlying t = some (.array len el)) {ds : List DC} (hx : RS P G.Y S w s.heap ρ (.agg ds) (a.eval x)) {k : IntKind} {n : Int} (hi : a.eval i = .int k n)
    {c : Nat} (hsz : sizeD P el = some c) (hb : 0 ≤ n ∧ n < len) {e : Eff} (he : (viewAt P el ds (n.toNat * c) []).run id = some e) :
    o.wp P a w (SRL P N G o s e) Q := by
  obtain ⟨us, hv, hr⟩ := hx
  have hrun : ∀ v, (part el us.toArray (n.toNat * c)).run P w = .ok v w → (execOp a.eval o).run P w = .ok (.value v) w := fun v hp => by
    simp only [execOp, hop, hv, hi, Instr.index, asIntOf, Sem.run_bind, Sem.run_pure, Result.andThen_ok, run_underlying hu, if_pos hb, size_run hsz, hp]
  obtain ⟨sl, rfl, m, hm, ⟨ha, _, hs⟩ | ⟨ha, u, hu', hs⟩⟩ := viewAt_spec hr he
  · exact fin_val h hd (hrun _ (part_agg ha hm)) hs
  · exact fin_val h hd (hrun _ (part_one ha hu')) hs

theorem field_sound {o : Oper} {Q : Exit → Act → World → Prop} (h : SR P N G s a w ρ S F) (hd : o.dst.all (Nat.blt · N) = true) {t : TypeId} {x : Operand} {f : Nat} (hop : o.op = .field t x f)
    {fs : Array Field} (hu : P.underlying t = some (.struct fs)) {fd : Field} (hf : fs[f]? = some fd) {ds : List DC} (hx : RS P G.Y S w s.heap ρ (.agg ds) (a.eval x)) {e : Eff}
    (he : (viewAt P fd.type ds fd.offset []).run id = some e) :
    o.wp P a w (SRL P N G o s e) Q := by
  obtain ⟨us, hv, hr⟩ := hx
  have hrun : ∀ v, (part fd.type us.toArray fd.offset).run P w = .ok v w → (execOp a.eval o).run P w = .ok (.value v) w := fun v hp => by
    simp only [execOp, hop, hv, Instr.field, asAgg, Sem.run_bind, Sem.run_pure, Result.andThen_ok, run_underlying hu, hf, hp]
  obtain ⟨sl, rfl, m, hm, ⟨ha, _, hs⟩ | ⟨ha, u, hu', hs⟩⟩ := viewAt_spec hr he
  · exact fin_val h hd (hrun _ (part_agg ha hm)) hs
  · exact fin_val h hd (hrun _ (part_one ha hu')) hs


/-! ### Stores -/

theorem splice_get {α : Type} {L vs : List α} {p : Nat} (h : p + vs.length ≤ L.length) (k : Nat) :
    (L.take p ++ vs ++ L.drop (p + vs.length))[k]? = if k < p then L[k]? else if k < p + vs.length then vs[k - p]? else L[k]? := by
  have hl : (L.take p).length = p := by simp; omega
  split
  · rename_i hk
    rw [List.append_assoc, List.getElem?_append_left (by omega), List.getElem?_take, if_pos hk]
  · rename_i hk
    rw [List.append_assoc, List.getElem?_append_right (by omega), hl]
    split
    · rename_i hk2
      rw [List.getElem?_append_left (by omega)]
    · rename_i hk2
      rw [List.getElem?_append_right (by omega), List.getElem?_drop]
      congr 1; omega

theorem RL.splice {rc : DC → Value → Prop} {ds cs : List DC} {us vs : List Value} (h : RL rc ds us) (hc : RL rc cs vs) (off : Nat) :
    RL rc (splice ds off cs) (us.take off ++ vs ++ us.drop (off + vs.length)) := by
  unfold Go.Dm.splice
  rw [hc.1]
  exact ((h.take off).append hc).append (h.drop _)

theorem uni_len {τ : Ty} : ∀ {ds : List DC} {xs : List τ.den}, uni τ ds = some xs → xs.length = ds.length
  | [], xs, h => by cases h; rfl
  | d :: ds, xs, h => by
    cases d with
    | pc σ x =>
      simp only [uni] at h
      cases h1 : castTy τ x with
      | none => rw [h1] at h; simp at h
      | some y1 =>
        cases h2 : uni τ ds with
        | none => rw [h1, h2] at h; simp at h
        | some ys =>
          rw [h1, h2] at h
          simp only [Option.some.injEq] at h
          subst h
          simp [uni_len h2]
    | _ => cases h

theorem RL.spliceU {rc : DC → Value → Prop} {ds cs : List DC} {us vs : List Value} (h : RL rc ds us) (hc : RL rc cs vs) {off : Nat} (hle : off + cs.length ≤ ds.length) :
    RL rc (spliceU ds off cs) (us.take off ++ vs ++ us.drop (off + vs.length)) := by
  unfold Go.Dm.spliceU
  split
  · rename_i τ x r
    split
    · rename_i xs ys hxs hys
      refine ⟨by have := h.1; have := hc.1; simp at *; omega, fun j d u h1 h2 => ?_⟩
      have hle' : off + vs.length ≤ us.length := by rw [← h.1, ← hc.1]; exact hle
      rw [splice_get hle'] at h2
      rw [List.getElem?_map] at h1
      cases hr : (List.range (DC.pc τ x :: r).length)[j]? with
      | none => rw [hr] at h1; cases h1
      | some j' =>
        rw [hr] at h1
        obtain ⟨hj, rfl⟩ : j < (DC.pc τ x :: r).length ∧ j' = j := by
          by_cases hj : j < (DC.pc τ x :: r).length
          · rw [List.getElem?_range hj] at hr; cases hr; exact ⟨hj, rfl⟩
          · rw [List.getElem?_eq_none (by simp at hj ⊢; omega)] at hr; cases hr
        simp only [Option.map_some, Option.some.injEq] at h1
        subst h1
        by_cases c1 : j' < off
        · rw [if_pos c1] at h2
          have hb : Nat.ble off j' = false := by rw [← Bool.not_eq_true, Nat.ble_eq]; omega
          simp only [hb, Bool.false_and, cond_false]
          exact h.2 j' _ _ (uni_get hxs j' hj x) h2
        · rw [if_neg c1] at h2
          have hb : Nat.ble off j' = true := by rw [Nat.ble_eq]; omega
          by_cases c2 : j' < off + vs.length
          · rw [if_pos c2] at h2
            have hb2 : Nat.blt j' (off + cs.length) = true := by rw [Nat.blt_eq, hc.1]; exact c2
            simp only [hb, hb2, Bool.and_self, cond_true]
            exact hc.2 (j' - off) _ _ (uni_get hys (j' - off) (by rw [hc.1]; omega) x) h2
          · rw [if_neg c2] at h2
            have hb2 : Nat.blt j' (off + cs.length) = false := by rw [← Bool.not_eq_true, Nat.blt_eq, hc.1]; exact c2
            simp only [hb, hb2, Bool.and_false, cond_false]
            exact h.2 j' _ _ (uni_get hxs j' hj x) h2
    · exact h.splice hc off
  · exact h.splice hc off

theorem store_run {o : Oper} {t : TypeId} {x y : Operand} (hop : o.op = .store t x y) {b off : Nat} (hv : a.eval x = .pointer (some ⟨b, off, none⟩)) {arr : Array Value} {T : TypeId}
    (hh : w.heap[b]? = some (.cells arr T (0, 0))) {n : Nat} (hn : sizeD P t = some n) (hcl : (a.eval y).cells.size = n) (hle : off + n ≤ arr.size) (ho1 : ∀ v ∈ (a.eval y).cells.toList, v.oneCell' = true) :
    (execOp a.eval o).run P w = .ok .skip (w.setRow b (arr.toList.take off ++ (a.eval y).cells.toList ++ arr.toList.drop (off + (a.eval y).cells.toList.length)).toArray) := by
  have hrun := run_storeCells_at (P := P) b off T (a.eval y).cells.toList 0 arr w hh (by simp; omega) ho1
  have hne : ¬ (a.eval y).cells.size ≠ n := by simp [hcl]
  simp only [execOp, hop, hv, Instr.storeAt, Instr.sureAddr, storeVar, Sem.run_bind, Sem.run_pure, Result.andThen_ok, size_run hn, Sem.run_ite, if_neg hne, Nat.add_zero] at hrun ⊢
  rw [hrun]; rfl

theorem store_sound (hG : G.Ok P) {o : Oper} {Q : Exit → Act → World → Prop} (h : SR P N G s a w ρ S F) (hd : o.dst.all (Nat.blt · N) = true) {t : TypeId} {x y : Operand} (hop : o.op = .store t x y)
    {id off : Nat} (hx : PtrOk s.heap ρ id off (a.eval x)) {sy : Slot} (hy : RS P G.Y S w s.heap ρ sy (a.eval y)) {cs ds ds' : List DC} (hc : slotCells sy = some cs)
    (ho : s.heap id = .box ds) {n : Nat} (hn : sizeD P t = some n) (hl : cs.length = n) (hle : off + cs.length ≤ ds.length)
    (hds : ∀ {us vs : List Value}, RL (RC P G.Y S w s.heap ρ) ds us → RL (RC P G.Y S w s.heap ρ) cs vs → RL (RC P G.Y S w s.heap ρ) ds' (us.take off ++ vs ++ us.drop (off + vs.length))) {rh : List Nat} :
    o.wp P a w (SRL P N G o s ⟨some .top, [(id, .box ds')], rh, true, none⟩) Q := by
  obtain ⟨b, arr, T, hb, hv, hh, hr⟩ := box_obj h ho hx
  have hcr := slotCells_RL G.Y_one hy hc
  have hcl : (a.eval y).cells.size = n := by rw [← hl, hcr.1]; simp
  have hex := store_run (P := P) hop hv hh hn hcl (by have := hr.1; have := hcr.1; simp at *; omega) (RL.oneCell G.Y_one hcr)
  unfold Oper.wp
  rw [hex]
  have q := h.store hG ho hb hh (by have := hr.1; have := hcr.1; simp at *; omega) (ds' := ds') (arr' := (arr.toList.take off ++ (a.eval y).cells.toList ++ arr.toList.drop (off + (a.eval y).cells.toList.length)).toArray) (by simpa using hds hr hcr)
  exact ⟨rfl, ρ, S, F, (q.put_skip hd).of_eq rfl rfl rfl rfl⟩

theorem toCells_len : ∀ {e : Ty} {x : e.den}, e.flat = true → (toCells e x).length = e.cells
  | .nil, _, _ => rfl
  | .cons h t, x, hf => by
    simp only [Ty.flat, Bool.and_eq_true] at hf
    simp only [toCells, List.length_cons, Ty.cells]
    rw [toCells_len (e := t) hf.2]

/-- A store into an element of a row. -/
theorem storeElt_sound (hG : G.Ok P) {o : Oper} {Q : Exit → Act → World → Prop} (h : SR P N G s a w ρ S F) (hd : o.dst.all (Nat.blt · N) = true) {t : TypeId} {x y : Operand} (hop : o.op = .store t x y)
    {id ver i off : Nat} (hx : RC P G.Y S w s.heap ρ (.elt id ver i off) (a.eval x)) {sy : Slot} (hy : RS P G.Y S w s.heap ρ sy (a.eval y)) {cs : List DC} (hc : slotCells sy = some cs)
    {T : TypeId} {e : Ty} {sl : Sl e.den} (ho : s.heap id = .row ver T e sl) {n : Nat} (hn : sizeD P t = some n) {x' : e.den} (hx' : ofCells e (splice (toCells e (sl.g i)) off cs) = some x')
    (hl : cs.length = n) (hle : off + cs.length ≤ e.cells) {rh : List Nat} :
    o.wp P a w (SRL P N G o s ⟨some .top, [(id, .row ver T e (setSl sl i x'))], rh, true, none⟩) Q := by
  have hobj := h.obj id
  rw [ho] at hobj
  obtain ⟨_, _, h3⟩ := hx
  obtain ⟨b', hb', hv, hi⟩ := (h3 _ _ _ _ ho).2 rfl
  obtain ⟨⟨hfl, hpos⟩, ⟨hb, _⟩ | ⟨b, arr, hb, halw, hh, hsz, hcells, hS⟩⟩ := hobj
  · rw [hb] at hb'; cases hb'
  have hbb : b = b' := by rw [hb] at hb'; injection hb'
  subst hbb
  have hcr := slotCells_RL G.Y_one hy hc
  have hcl : (a.eval y).cells.size = n := by rw [← hl, hcr.1]; simp
  obtain ⟨us0, hus, hel, hus3⟩ := hcells i hi
  have hile : i * e.cells + e.cells ≤ sl.n * e.cells := by rw [← Nat.succ_mul]; exact Nat.mul_le_mul_right _ hi
  have hvl : (a.eval y).cells.toList.length = n := by simpa using hcl
  have hex := store_run (P := P) hop hv hh hn hcl (by omega) (RL.oneCell G.Y_one hcr)
  unfold Oper.wp
  rw [hex]
  -- the new element
  have hR : R P e S w x' (us0.take off ++ (a.eval y).cells.toList ++ us0.drop (off + (a.eval y).cells.toList.length)) :=
    ofCells_R (Y := G.Y) (heap := s.heap) (ρ := ρ) (RL.splice (toCells_RL hfl hus) hcr off) hx'
  have hlt := (Array.getElem?_eq_some_iff.1 hh).1
  generalize hL : (arr.toList.take (i * e.cells + off) ++ (a.eval y).cells.toList ++ arr.toList.drop (i * e.cells + off + (a.eval y).cells.toList.length)) = L
  have hLg : ∀ k, L[k]? = if k < i * e.cells + off then arr.toList[k]? else if k < i * e.cells + off + (a.eval y).cells.toList.length then (a.eval y).cells.toList[k - (i * e.cells + off)]? else arr.toList[k]? := fun k => by
    rw [← hL]; exact splice_get (by simp; omega) k
  have hLl : L.length = arr.size := by rw [← hL]; simp; omega
  have hoth : ∀ k, k ≠ b → (w.setRow b L.toArray).heap[k]? = w.heap[k]? := fun k hk => setRow_other w b k _ hk
  have hsz' : (w.setRow b L.toArray).heap.size = w.heap.size := by simp [World.setRow]
  have ex : Ext0 S w S (w.setRow b L.toArray) := ⟨by omega, fun _ _ x => x, fun b' o hS' => World.cell?_of_block (a := ⟨b', o, none⟩) (hoth b' (fun e => hS o (e ▸ hS'))), fun b' o es c hS' hm => (hoth b' (fun e => hS o (e ▸ hS'))).trans hm, fun b' o hS' => by rw [hsz']; exact h.bd b' o hS', .setRow hh (by simp [hLl])⟩
  have hbW := setRow_heap w b arr L.toArray T _ hh
  have q := h.turn hG (id := id) (o := .row ver T e (setSl sl i x')) (by rw [ho]; trivial) hb ex ⟨rfl, rfl, rfl, by omega, fun k hk => hoth k hk.2⟩ hsz' (fun _ _ q => .inl q)
    (by rw [ho]; exact .inr ⟨_, _, rfl, Nat.le_refl _, fun _ => ⟨rfl, .inl rfl⟩⟩)
    ⟨⟨hfl, hpos⟩, .inr ⟨b, L.toArray, hb, halw, hbW, by simpa [hLl, setSl] using hsz, fun k hk => by
      have hk : k < sl.n := hk
      by_cases hki : k = i
      · subst hki
        refine ⟨us0.take off ++ (a.eval y).cells.toList ++ us0.drop (off + (a.eval y).cells.toList.length), by simp only [setSl, Nat.beq_refl, cond_true]; exact hR.mono ex, by simp; omega, fun j v hj => ?_⟩
        have hjl : j < e.cells := by
          have := (List.getElem?_eq_some_iff.1 hj).1
          simp at this; omega
        rw [List.getElem?_toArray, hLg]
        rw [splice_get (by omega)] at hj
        by_cases c1 : j < off
        · rw [if_pos (by omega), Array.getElem?_toList]
          rw [if_pos c1] at hj
          exact hus3 j v hj
        · rw [if_neg c1] at hj
          rw [if_neg (by omega)]
          by_cases c2 : j < off + (a.eval y).cells.toList.length
          · rw [if_pos c2] at hj
            rw [if_pos (by omega), show k * e.cells + j - (k * e.cells + off) = j - off by omega]
            exact hj
          · rw [if_neg c2] at hj
            rw [if_neg (by omega), Array.getElem?_toList]
            exact hus3 j v hj
      · obtain ⟨us1, v1, v2, v3⟩ := hcells k hk
        refine ⟨us1, by simp only [setSl, beq_ne hki, cond_false]; exact v1.mono ex, v2, fun j v hj => ?_⟩
        have hjl : j < e.cells := by
          have := (List.getElem?_eq_some_iff.1 hj).1
          omega
        rw [List.getElem?_toArray, hLg]
        rcases Nat.lt_or_gt_of_ne hki with hlt' | hgt
        · have : k * e.cells + e.cells ≤ i * e.cells := by rw [← Nat.succ_mul]; exact Nat.mul_le_mul_right _ hlt'
          rw [if_pos (by omega), Array.getElem?_toList]; exact v3 j v hj
        · have : i * e.cells + e.cells ≤ k * e.cells := by rw [← Nat.succ_mul]; exact Nat.mul_le_mul_right _ hgt
          rw [if_neg (by omega), if_neg (by omega), Array.getElem?_toList]; exact v3 j v hj, hS⟩⟩
  exact ⟨rfl, ρ, S, F, (q.put_skip hd).of_eq rfl rfl rfl rfl⟩

/-- What an element of a row holds. -/
theorem load_elt (h : SR P N G s a w ρ S F) {id ver i off : Nat} {v : Value} (hx : RC P G.Y S w s.heap ρ (.elt id ver i off) v) {T : TypeId} {e : Ty} {sl : Sl e.den} (ho : s.heap id = .row ver T e sl) :
    ∃ b us, v = .pointer (some ⟨b, i * e.cells + off, none⟩) ∧ RL (RC P G.Y S w s.heap ρ) (toCells e (sl.g i)) us ∧
      ∀ (j : Nat) (u : Value), us[j]? = some u → w.cell? ⟨b, i * e.cells + j, none⟩ = some u := by
  have hobj := h.obj id
  rw [ho] at hobj
  obtain ⟨_, _, h3⟩ := hx
  obtain ⟨b', hb', hv, hi⟩ := (h3 _ _ _ _ ho).2 rfl
  obtain ⟨⟨hfl, hpos⟩, ⟨hb, _⟩ | ⟨b, arr, hb, halw, hh, hsz, hcells, hS⟩⟩ := hobj
  · rw [hb] at hb'; cases hb'
  have hbb : b = b' := by rw [hb] at hb'; injection hb'
  subst hbb
  obtain ⟨us, u1, u2, u3⟩ := hcells i hi
  exact ⟨b, us, hv, toCells_RL hfl u1, fun j u hj => by rw [cell_of_row w b _ arr T _ hh]; exact u3 j u hj⟩

end Go.Dm

namespace Go.Dm
open Go.RowKit
variable {P : Program} {N : Nat} {G : Gh} {S S' : CS} {w w' : World} {s : St} {a : Act} {ρ ρ' : Rho} {F F' : Nat → Prop} {heap heap' : Nat → DObj} {Y : Value} {E : TCtx} {Γ : Ctx}

theorem makeSlice_sound (hG : G.Ok P) {o : Oper} {Q : Exit → Act → World → Prop} (h : SR P N G s a w ρ S F) (hd : o.dst.all (Nat.blt · N) = true) {t : TypeId} {l c : Operand} (hop : o.op = .makeSlice t l c)
    {id0 : Nat} (hlo : G.lo ≤ id0) {ls : Slot} (hl : RS P G.Y S w s.heap ρ ls (a.eval l)) {e : Eff} (he : (makeSliceD P t id0 s.heap l c ls).run id = some e) :
    o.wp P a w (SRL P N G o s e) Q := by
  unfold makeSliceD at he
  split at he
  case h_2 => cases he
  rename_i el n hu hsame hn
  split at he
  case h_2 => cases he
  rename_i i cs hi hz
  split at he
  case h_2 => cases he
  rename_i τ hτ
  split at he
  case h_2 => cases he
  rename_i z hz'
  split at he
  case h_2 => cases he
  rename_i hcond
  simp only [Bool.and_eq_true, Nat.blt_eq] at hcond
  obtain ⟨⟨⟨c1, c2⟩, c3⟩, c4⟩ := hcond
  have c1 := Nat.eq_of_beq_eq_true c1
  simp only [Br.run, eff, bad] at he
  cases hb : decide (0 ≤ (show Int from n) ∧ (show Int from n) ≤ 281474976710656 ∧ (show Int from n) * i.bytes ≤ 281474976710656) with
  | false => simp only [hb, cond_false] at he; cases he
  | true =>
    simp only [hb, cond_true, _root_.id] at he
    cases he
    obtain ⟨b1, b2, b3⟩ := of_decide_eq_true hb
    have el1 := RC_int hl
    have el2 : a.eval c = .int .i64 n := by
      unfold sameOpd at hsame
      split at hsame
      · rename_i t1 t2
        have := Nat.eq_of_beq_eq_true hsame
        subst this
        exact el1
      · cases hsame
    obtain ⟨i', zv, hi', hzv, hzr⟩ := run_zero hz
    rw [hi] at hi'; cases hi'
    have hrun := run_make (P := P) w t el i zv hu hi hzv .i64 .i64 n n b1 (Int.le_refl _) (by rw [Int.mul_comm]; exact b3) (Int.le_trans b2 (by decide))
    have hex : (execOp a.eval o).run P w = .ok (.value (.slice (some ⟨w.heap.size, 0, none⟩) (show Int from n).toNat (show Int from n).toNat)) (w.alloc (.cells (madeCells zv.cells ((show Int from n).toNat * i.size)) el)) := by
      simp only [execOp, hop, el1, el2, Sem.run_bind, hrun, Result.andThen_ok, Sem.run_pure]
    have hzl : zv.cells.toList = encs τ z := (R.plain (P := P) (S := S) (w := w) c3).1 (ofCells_R (Y := G.Y) (heap := s.heap) (ρ := ρ) (hzr G.Y_one) hz')
    have hzsz : zv.cells.size = τ.cells := by have := congrArg List.length hzl; rw [encs_len _ _ c3] at this; simpa using this
    have hlen : (show Int from n).toNat ≤ maxLen := by unfold maxLen; omega
    refine fin_alloc hG h hd hn hlo (dc := .row id0 0) (v := .slice (some ⟨w.heap.size, 0, none⟩) (show Int from n).toNat (show Int from n).toNat) (dob := .row 0 el τ ⟨(show Int from n).toNat, fun _ => z⟩)
      (fun h1 r1 w1 h2 h3 h4 => ⟨by rw [h2]; simp, ⟨_, _, _, rfl⟩, fun cu T e s' he => ?_⟩) ?_ hex
    · rw [h2] at he; cases he
      exact ⟨Nat.le_refl _, fun _ => .inr ⟨w.heap.size, _, h3, rfl, Nat.le_refl _, hlen, (Array.getElem?_eq_some_iff.1 h4).1, fun arr T f ha => by rw [h4] at ha; cases ha; rw [size_madeCells, c1]⟩⟩
    · refine ⟨⟨c4, by omega⟩, .inr ⟨w.heap.size, _, by simp, Alw.new h, heap_alloc_new w _, by rw [size_madeCells, c1]; exact Nat.le_refl _, fun j hj => ⟨encs τ z, (R.plain c3).2 rfl, encs_len _ _ c3, fun k v hk => ?_⟩, fun o hS => absurd (h.bd _ _ hS) (by omega)⟩⟩
      have hkl : k < τ.cells := by
        have := (List.getElem?_eq_some_iff.1 hk).1
        rwa [encs_len _ _ c3] at this
      have hjk : j * τ.cells + k < (show Int from n).toNat * i.size := by
        rw [c1]
        have : j * τ.cells + τ.cells ≤ (show Int from n).toNat * τ.cells := by rw [← Nat.succ_mul]; exact Nat.mul_le_mul_right _ hj
        omega
      unfold madeCells
      rw [Array.getElem?_map, Array.getElem?_range, if_pos hjk]
      simp only [Option.map_some]
      have hmod : (j * τ.cells + k) % zv.cells.size = k := by
        rw [hzsz, Nat.add_comm, Nat.add_mul_mod_self_right, Nat.mod_eq_of_lt hkl]
      have hk' : zv.cells.toList[k]? = some v := by rw [hzl]; exact hk
      have hk2 : zv.cells[k]? = some v := by simpa using hk'
      rw [hmod]
      congr 1
      rw [getElem!_def, hk2]

theorem makeMap_sound (hG : G.Ok P) {o : Oper} {Q : Exit → Act → World → Prop} (h : SR P N G s a w ρ S F) (hd : o.dst.all (Nat.blt · N) = true) {t : TypeId} (hop : o.op = .makeMap t none)
    {id0 : Nat} (hlo : G.lo ≤ id0) {e : Eff} (he : (makeMapD P t id0 s.heap).run id = some e) :
    o.wp P a w (SRL P N G o s e) Q := by
  unfold makeMapD at he
  split at he
  case h_2 => cases he
  rename_i kt vt hu hn
  split at he
  case h_2 => cases he
  rename_i k v hk hv
  split at he
  case h_2 => cases he
  rename_i hc
  simp only [Bool.and_eq_true] at hc
  cases he
  have hex : (execOp a.eval o).run P w = .ok (.value (.map (some w.heap.size))) (w.alloc (.map #[] 0)) := by
    simp only [execOp, hop, Instr.makeMap]
    rfl
  refine fin_alloc hG h hd hn hlo (dc := .mp id0) (v := .map (some w.heap.size)) (dob := .mp k v fun _ => none)
    (fun h1 r1 w1 h2 h3 _ => ⟨by rw [h2]; simp, ⟨_, rfl⟩, fun k e m _ => ⟨_, h3, rfl⟩⟩) ?_ hex
  exact ⟨w.heap.size, #[], 0, by simp, Alw.new h, heap_alloc_new w _, ⟨hc.1.1.1, hc.1.1.2, hc.1.2, hc.2⟩, ⟨[], rfl, by simp, by simp, fun x y hx => by cases hx⟩, fun o hS => absurd (h.bd _ _ hS) (by omega)⟩

theorem slice_run {t el : TypeId} (hu : P.underlying t = some (.slice el)) {sz : Nat} (hn : sizeD P el = some sz) (ad : Option Addr) (n cap : Nat) {lo hi : Option Value} {p q : Nat}
    (hlo : (lo = none ∧ p = 0) ∨ ∃ k, lo = some (.int k p)) (hhi : (hi = none ∧ q = n) ∨ ∃ k, hi = some (.int k q)) (h1 : p ≤ q) (h2 : q ≤ n) (h3 : n ≤ cap) :
    (Instr.sliceAt t (.slice ad n cap) lo hi none).run P w = .ok (.slice (if cap = p then ad else ad.map (·.add (p * sz))) (q - p) (cap - p)) w := by
  have sb : ∀ (k : IntKind) (i : Nat) (y : Nat) (code : BoundsCode), i ≤ y → (Instr.sliceBound (.int k (i : Int)) y code).run P w = .ok i w := fun k i y code hle => by
    simp [Instr.sliceBound, asIntOf, hle]
  have hb : (Instr.sliceBounds true n cap lo hi none).run P w = .ok (p, q, cap) w := by
    rcases hlo with ⟨rfl, rfl⟩ | ⟨k, rfl⟩ <;> rcases hhi with ⟨rfl, rfl⟩ | ⟨k', rfl⟩
    · simp [Instr.sliceBounds]
    · simp [Instr.sliceBounds, sb k' q cap _ (by omega)]
    · simp [Instr.sliceBounds, sb k p q _ h1]
    · simp [Instr.sliceBounds, sb k' q cap _ (by omega), sb k p q _ h1]
  simp [Instr.sliceAt, Instr.slice, run_underlying hu, hb, size_run hn]

theorem slice_sound {o : Oper} {Q : Exit → Act → World → Prop} (h : SR P N G s a w ρ S F) (hd : o.dst.all (Nat.blt · N) = true) {t : TypeId} {x : Operand} {lo hi : Option Operand} (hop : o.op = .slice t x lo hi none)
    {sx : Slot} (hx : RS P G.Y S w s.heap ρ sx (a.eval x)) (hv : ∀ y : Operand, RS P G.Y S w s.heap ρ (val Γ s.env y) (a.eval y)) {e : Eff} (he : (sliceD P t sx (lo.map (val Γ s.env)) (hi.map (val Γ s.env))).run id = some e) :
    o.wp P a w (SRL P N G o s e) Q := by
  unfold sliceD at he
  split at he
  case h_2 => cases he
  rename_i el el' sl hu hrow
  split at he
  case h_2 => cases he
  rename_i k hk
  split at he
  case h_2 => cases he
  rename_i hke
  have hke := Nat.eq_of_beq_eq_true hke
  have key : ∀ (p q : Int), ((lo.map a.eval = none ∧ p = 0) ∨ ∃ k, lo.map a.eval = some (.int k p)) → ((hi.map a.eval = none ∧ q = sl.n) ∨ ∃ k, hi.map a.eval = some (.int k q)) →
      (okIf (decide (0 ≤ p ∧ p ≤ q ∧ q ≤ sl.n)) (.v (.pc (.sl el') ⟨(q - p).toNat, fun i => sl.g (i + p.toNat)⟩)) []).run id = some e → o.wp P a w (SRL P N G o s e) Q := by
    intro p q hp hq he
    simp only [okIf, Br.run, eff, bad] at he
    cases hb : decide (0 ≤ p ∧ p ≤ q ∧ q ≤ sl.n) with
    | false => simp only [hb, cond_false] at he; cases he
    | true =>
      simp only [hb, cond_true, id] at he
      cases he
      obtain ⟨b1, b2, b3⟩ := of_decide_eq_true hb
      obtain ⟨p, rfl⟩ := Int.eq_ofNat_of_zero_le b1
      obtain ⟨q, rfl⟩ := Int.eq_ofNat_of_zero_le (Int.le_trans b1 b2)
      have b2 : p ≤ q := by omega
      have b3 : q ≤ sl.n := by omega
      have hp' : (lo.map a.eval = none ∧ p = 0) ∨ ∃ k, lo.map a.eval = some (.int k (p : Int)) := hp.imp (fun x => ⟨x.1, by have := x.2; omega⟩) (fun x => x)
      have hq' : (hi.map a.eval = none ∧ q = sl.n) ∨ ∃ k, hi.map a.eval = some (.int k (q : Int)) := hq.imp (fun x => ⟨x.1, by have := x.2; omega⟩) (fun x => x)
      have hsub : ((q : Int) - (p : Int)).toNat = q - p := by omega
      rcases rowOf_R hx hrow with ⟨h0, ad, cap, hv1⟩ | ⟨b, off, cap, hv1, h1, h2, h3⟩
      · have hv1 : a.eval x = .slice ad 0 cap := by simpa using hv1
        have hrun := slice_run (P := P) (w := w) hu hk ad 0 cap hp' (by rw [h0] at hq'; exact hq') b2 (by omega) (Nat.zero_le _)
        refine fin_val h hd (v := .slice (if cap = p then ad else ad.map (·.add (p * k))) (q - p) (cap - p)) ?_ ⟨rfl, .inl ⟨by show ((q : Int) - (p : Int)).toNat = 0; omega, _, _, by rw [show q - p = 0 by omega]⟩⟩
        simp only [execOp, hop, hv1, Option.map_none, Sem.run_bind, hrun, Result.andThen_ok, Sem.run_pure]
      · have hv1 : a.eval x = .slice (some ⟨b, off, none⟩) sl.n cap := by simpa using hv1
        have hrun := slice_run (P := P) (w := w) hu hk (some ⟨b, off, none⟩) sl.n cap hp' hq' b2 b3 h1
        refine fin_val h hd (v := .slice (if cap = p then some ⟨b, off, none⟩ else (some (⟨b, off, none⟩ : Addr)).map (·.add (p * k))) (q - p) (cap - p)) ?_ ⟨rfl, ?_⟩
        · simp only [execOp, hop, hv1, Option.map_none, Sem.run_bind, hrun, Result.andThen_ok, Sem.run_pure]
        · by_cases hz : q - p = 0
          · exact .inl ⟨by show ((q : Int) - (p : Int)).toNat = 0; omega, _, _, by rw [hz]⟩
          · have hcp : ¬ cap = p := by omega
            rw [if_neg hcp]
            refine .inr ⟨b, off + p * k, cap - p, by simp only [Option.map_some, Addr.add_lit]; show _ = [Value.slice _ ((q : Int) - (p : Int)).toNat _]; rw [hsub], by show ((q : Int) - (p : Int)).toNat ≤ _; omega, by omega, fun i hi => ?_⟩
            have hi : i < ((q : Int) - (p : Int)).toNat := hi
            obtain ⟨us, r1, r2, r3⟩ := h3 (i + p) (by omega)
            refine ⟨us, r1, r2, ?_⟩
            rw [hke] at *
            rwa [show off + p * el'.cells + i * el'.cells = off + (i + p) * el'.cells by rw [Nat.add_mul]; omega]
  have iv : ∀ (y : Operand) (k : IntKind) (n : Int), val Γ s.env y = .v (.pc (.int k) n) → a.eval y = .int k n := fun y k n hy => by
    have := hv y
    rw [hy] at this
    exact RC_int this
  simp only at he
  cases lo with
  | none =>
    cases hi with
    | none => exact key 0 sl.n (.inl ⟨rfl, rfl⟩) (.inl ⟨rfl, rfl⟩) he
    | some y =>
      simp only [Option.map_none, Option.map_some] at he
      split at he
      · rename_i h1 h2; cases h2
      · rename_i h1 h2; cases h1
      · rename_i k' n h1 h2
        exact key 0 n (.inl ⟨rfl, rfl⟩) (.inr ⟨k', by rw [Option.map_some, iv y k' n (by injection h2)]⟩) he
      · rename_i h1 h2; cases h1
      · cases he
  | some z =>
    cases hi with
    | none =>
      simp only [Option.map_none, Option.map_some] at he
      split at he
      · rename_i h1 h2; cases h1
      · rename_i k' n h1 h2
        exact key n sl.n (.inr ⟨k', by rw [Option.map_some, iv z k' n (by injection h1)]⟩) (.inl ⟨rfl, rfl⟩) he
      · rename_i h1 h2; cases h2
      · rename_i h1 h2; cases h2
      · cases he
    | some y =>
      simp only [Option.map_some] at he
      split at he
      · rename_i h1 h2; cases h1
      · rename_i h1 h2; cases h2
      · rename_i h1 h2; cases h1
      · rename_i k1 n1 k2 n2 h1 h2
        exact key n1 n2 (.inr ⟨k1, by rw [Option.map_some, iv z k1 n1 (by injection h1)]⟩) (.inr ⟨k2, by rw [Option.map_some, iv y k2 n2 (by injection h2)]⟩) he
      · cases he

end Go.Dm

/- Maps whose keys are structs of integers and bools. -/
namespace Go.Dm
open Go.RowKit
variable {P : Program} {N : Nat} {G : Gh} {S S' : CS} {w w' : World} {s : St} {a : Act} {ρ ρ' : Rho} {F F' : Nat → Prop} {heap heap' : Nat → DObj} {Y : Value} {E : TCtx} {Γ : Ctx}

/-- Keys that are found by ==. -/
structure KeyAt (P : Program) (kt : TypeId) (k : Ty) : Prop where
  eq : ∀ (x y : k.den) (w : World), (Op.equal kt (pack (encs k x)) (pack (encs k y))).run P w = .ok (eqD k x y) w
  check : ∀ (em : Bool) (x : k.den) (w : World), (Instr.checkKey em 10000 kt (pack (encs k x))).run P w = .ok () w
  wide : ∃ fs, P.underlying kt = some (.struct fs)
  same : ∀ x y : k.den, eqD k x y = true ↔ x = y
  bits : ∀ x : k.den, Instr.sameBits 10000 (pack (encs k x)) (pack (encs k x)) = true

def KeySound (P : Program) (K : TypeId → Bool) : Prop := ∀ kt k, K kt = true → plainTy P kt = some k → KeyAt P kt k

theorem eqD_iff : ∀ {τ : Ty}, τ.plain = true → ∀ x y : τ.den, eqD τ x y = true ↔ x = y
  | .int _, _, x, y => by simp [eqD]
  | .bool, _, x, y => by simp [eqD]
  | .nil, _, x, y => by simp [eqD]
  | .agg e, h, x, y => eqD_iff (τ := e) h x y
  | .cons a b, h, x, y => by
    simp only [Ty.plain, Bool.and_eq_true] at h
    obtain ⟨x1, x2⟩ := x
    obtain ⟨y1, y2⟩ := y
    simp only [eqD, Bool.and_eq_true, eqD_iff h.2.1, eqD_iff h.2.2, Prod.mk.injEq]

def IB (σ : Ty) : Prop := σ = .bool ∨ ∃ k, σ = .int k

theorem encs_typed : ∀ {l : List Ty}, (∀ σ ∈ l, IB σ) → ∀ x : (listTy l).den, Typed l (encs (listTy l) x)
  | [], _, _ => ⟨rfl, fun j τ u q => by simp at q⟩
  | σ :: l, h, x => by
    have ih := encs_typed (l := l) (fun σ hm => h σ (List.mem_cons_of_mem _ hm)) x.2
    rcases h σ (List.mem_cons_self ..) with rfl | ⟨k, rfl⟩
    · exact ih.cons ⟨_, rfl⟩
    · exact ih.cons ⟨_, rfl⟩

theorem encs_eqVals : ∀ {l : List Ty}, (∀ σ ∈ l, IB σ) → ∀ x y : (listTy l).den, eqVals (encs (listTy l) x) (encs (listTy l) y) = some (eqD (listTy l) x y)
  | [], _, _, _ => rfl
  | σ :: l, h, x, y => by
    have ih := encs_eqVals (l := l) (fun σ hm => h σ (List.mem_cons_of_mem _ hm)) x.2 y.2
    rcases h σ (List.mem_cons_self ..) with rfl | ⟨k, rfl⟩
    · show (eqVals (encs (listTy l) x.2) (encs (listTy l) y.2)).map _ = _
      rw [ih]; rfl
    · show (if k = k then (eqVals (encs (listTy l) x.2) (encs (listTy l) y.2)).map _ else none) = _
      rw [if_pos rfl, ih]; rfl

theorem sameBits_cells (n : Nat) : ∀ {l : List Ty}, (∀ σ ∈ l, IB σ) → ∀ x : (listTy l).den, ((encs (listTy l) x).zip (encs (listTy l) x)).all (fun (p : Value × Value) => Instr.sameBits n p.1 p.2) = true
  | [], _, _ => rfl
  | σ :: l, h, x => by
    have ih := sameBits_cells n (l := l) (fun σ hm => h σ (List.mem_cons_of_mem _ hm)) x.2
    rcases h σ (List.mem_cons_self ..) with rfl | ⟨k, rfl⟩
    · have h0 : ∀ b : Bool, Instr.sameBits n (.bool b) (.bool b) = true := fun b => by cases n <;> simp [Instr.sameBits]
      exact Bool.and_eq_true_iff.2 ⟨h0 _, ih⟩
    · have h0 : ∀ b : Int, Instr.sameBits n (.int k b) (.int k b) = true := fun b => by cases n <;> simp [Instr.sameBits]
      exact Bool.and_eq_true_iff.2 ⟨h0 _, ih⟩

theorem checkKey_fields {em : Bool} {n : Nat} {cs : Array Value} : ∀ (fs : List Field), (∀ f ∈ fs, (∃ d, P.underlying f.type = some d ∧ ((∃ k, d = .int k) ∨ d = .bool)) ∧ ∃ v, cs.toList[f.offset]? = some v) →
    (forIn fs PUnit.unit (fun f _ => if f.name ≠ "_" then do
        Instr.checkKey em (n + 1) f.type (← part f.type cs f.offset)
        pure (ForInStep.yield PUnit.unit) else pure (ForInStep.yield PUnit.unit)) : Sem PUnit).run P w = .ok PUnit.unit w
  | [], _ => rfl
  | f :: fs, h => by
    obtain ⟨⟨d, hu, hd⟩, v, hv⟩ := h f (List.mem_cons_self ..)
    have ih := checkKey_fields (em := em) (n := n) (cs := cs) fs (fun f hm => h f (List.mem_cons_of_mem _ hm))
    have ha : isAggD P f.type = some false := by
      rcases hd with ⟨k, rfl⟩ | rfl <;> simp [isAggD, hu]
    have hp : (part f.type cs f.offset).run P w = .ok v w := part_one (cs := cs.toList) ha hv
    have hck : (Instr.checkKey em (n + 1) f.type v).run P w = .ok () w := by
      unfold Instr.checkKey
      rw [Sem.run_bind, run_underlying hu]
      rcases hd with ⟨k, rfl⟩ | rfl <;> rfl
    simp only [List.forIn_cons, Sem.run_bind, Sem.run_ite]
    split
    · simp only [Sem.run_bind, hp, hck, Result.andThen_ok, Sem.run_pure]
      exact ih
    · simp only [Sem.run_pure, Result.andThen_ok]
      exact ih

/-- The structs that serve as keys. -/
def keyTy (P : Program) (kt : TypeId) : Bool :=
  match eqShape P 8 kt, P.underlying kt with
  | some l, some (.struct fs) => decide (plainTy P kt = some (.agg (listTy l))) && (l.all fun σ => match σ with | .int _ | .bool => true | _ => false) &&
      fs.toList.all (fun f => Nat.blt f.offset l.length && match P.underlying f.type with | some (.int _) | some .bool => true | _ => false)
  | _, _ => false

theorem keyTy_sound : KeySound P (keyTy P) := by
  intro kt k hK hk
  unfold keyTy at hK
  split at hK
  case h_2 => cases hK
  rename_i l fs hl hu
  simp only [Bool.and_eq_true, decide_eq_true_eq] at hK
  obtain ⟨⟨h1, h2⟩, h3⟩ := hK
  rw [h1] at hk
  cases hk
  have hib : ∀ σ ∈ l, IB σ := fun σ hm => by
    rw [List.all_eq_true] at h2
    have := h2 σ hm
    cases σ with
    | int k => exact .inr ⟨k, rfl⟩
    | bool => exact .inl rfl
    | _ => cases this
  have ha : isAggD P kt = some true := by simp [isAggD, hu]
  have hpl : (Ty.agg (listTy l)).plain = true := by
    show (listTy l).plain = true
    clear h1 hl h3 h2 ha
    induction l with
    | nil => rfl
    | cons σ l ih =>
      have := ih fun σ hm => hib σ (List.mem_cons_of_mem _ hm)
      rcases hib σ (List.mem_cons_self ..) with rfl | ⟨k, rfl⟩ <;> exact this
  refine ⟨fun x y w => ?_, fun em x w => ?_, ⟨fs, hu⟩, eqD_iff hpl, fun x => ?_⟩
  · exact eqShape_run 8 kt l hl 9992 w _ _ _ _ _ (encs_typed hib x) (encs_typed hib y) (.inl ⟨ha, rfl⟩) (.inl ⟨ha, rfl⟩) (encs_eqVals hib x y)
  · show (Instr.checkKey em (9998 + 1 + 1) kt (.agg (encs (listTy l) x).toArray)).run P w = _
    rw [Instr.checkKey]
    simp only [Sem.run_bind, run_underlying hu, Result.andThen_ok]
    rw [← Array.forIn_toList]
    have := checkKey_fields (P := P) (w := w) (em := em) (n := 9998) (cs := (encs (listTy l) x).toArray) fs.toList (fun f hf => by
      rw [List.all_eq_true] at h3
      have := h3 f hf
      simp only [Bool.and_eq_true, Nat.blt_eq] at this
      refine ⟨?_, _, List.getElem?_eq_getElem (by simpa [(encs_typed hib x).1] using this.1)⟩
      split at this
      · rename_i k hk; exact ⟨_, hk, .inl ⟨k, rfl⟩⟩
      · rename_i hk; exact ⟨_, hk, .inr rfl⟩
      · exact absurd this.2 (by simp))
    rw [this]; rfl
  · have := sameBits_cells 9999 hib x
    show Instr.sameBits (9999 + 1) (.agg _) (.agg _) = true
    simp only [Instr.sameBits]
    simpa using this

/-- Where a key stands among entries. -/
def findL {k v : Ty} (x : k.den) : List (k.den × v.den) → Nat → Option (Nat × v.den)
  | [], _ => none
  | p :: l, i => bif eqD k x p.1 then some (i, p.2) else findL x l (i + 1)

theorem findAsking_run {kt : TypeId} {k v : Ty} (hK : KeyAt P kt k) (x : k.den) : ∀ (l : List (k.den × v.den)) (es : List MapEntry) (i : Nat),
    es.map (fun e => (e.key, e.val)) = l.map (fun p => (pack (encs k p.1), pack (encs v p.2))) →
    (Instr.findAsking kt (pack (encs k x)) es i).run P w = .ok ((findL x l i).map fun r => (r.1, pack (encs v r.2))) w
  | [], [], i, _ => rfl
  | [], _ :: _, _, h => by simp at h
  | _ :: _, [], _, h => by simp at h
  | p :: l, e :: es, i, h => by
    simp only [List.map_cons, List.cons.injEq, Prod.mk.injEq] at h
    obtain ⟨⟨h1, h2⟩, h3⟩ := h
    simp only [Instr.findAsking, Sem.run_bind, h1, hK.eq x p.1 w, Result.andThen_ok, findL, Sem.run_ite]
    cases he : eqD k x p.1 with
    | true => simp [h2]
    | false => simpa using findAsking_run hK x l es (i + 1) h3

theorem findKey_run {kt : TypeId} {k v : Ty} (hK : KeyAt P kt k) (x : k.den) (l : List (k.den × v.den)) (es : List MapEntry)
    (h : es.map (fun e => (e.key, e.val)) = l.map (fun p => (pack (encs k p.1), pack (encs v p.2)))) :
    (Instr.findKey kt (pack (encs k x)) es).run P w = .ok ((findL x l 0).map fun r => (r.1, pack (encs v r.2))) w := by
  obtain ⟨fs, hu⟩ := hK.wide
  unfold Instr.findKey
  simp only [Sem.run_bind, run_underlying hu, Result.andThen_ok]
  cases es with
  | nil =>
    cases l with
    | nil => rfl
    | cons p l => simp at h
  | cons e es =>
    have : Instr.findNow (.struct fs) (pack (encs k x)) (e :: es) 0 = none := by
      simp [Instr.findNow, Instr.sameNow]
    rw [this]
    exact findAsking_run hK x l (e :: es) 0 h

theorem findL_none {k v : Ty} (hs : ∀ x y : k.den, eqD k x y = true ↔ x = y) {x : k.den} : ∀ {l : List (k.den × v.den)} {i : Nat}, findL x l i = none → ∀ p ∈ l, p.1 ≠ x
  | [], _, _, p, hp => by simp at hp
  | q :: l, i, h, p, hp => by
    simp only [findL] at h
    cases he : eqD k x q.1 with
    | true => rw [he] at h; cases h
    | false =>
      rw [he] at h
      rcases List.mem_cons.1 hp with rfl | hp
      · intro e
        have := (hs x p.1).2 e.symm
        rw [he] at this; cases this
      · exact findL_none hs h p hp

theorem findL_some {k v : Ty} (hs : ∀ x y : k.den, eqD k x y = true ↔ x = y) {x : k.den} : ∀ {l : List (k.den × v.den)} {i j : Nat} {y : v.den}, findL x l i = some (j, y) → i ≤ j ∧ l[j - i]? = some (x, y)
  | [], _, _, _, h => by cases h
  | q :: l, i, j, y, h => by
    simp only [findL] at h
    cases he : eqD k x q.1 with
    | true =>
      rw [he] at h
      simp only [cond_true, Option.some.injEq, Prod.mk.injEq] at h
      obtain ⟨rfl, rfl⟩ := h
      have := (hs x q.1).1 he
      exact ⟨Nat.le_refl _, by rw [Nat.sub_self, this]; rfl⟩
    | false =>
      rw [he] at h
      simp only [cond_false] at h
      obtain ⟨h1, h2⟩ := findL_some hs h
      refine ⟨by omega, ?_⟩
      rw [show j - i = (j - (i + 1)) + 1 by omega]
      simpa using h2

/-- What a map has at a key. -/
theorem MapRep.at {k v : Ty} (hs : ∀ x y : k.den, eqD k x y = true ↔ x = y) {m : k.den → Option v.den} {l : List (k.den × v.den)} (h1 : ∀ p ∈ l, m p.1 = some p.2) (h2 : ∀ x y, m x = some y → (x, y) ∈ l) (x : k.den) :
    m x = (findL x l 0).map (·.2) := by
  cases hf : findL x l 0 with
  | none =>
    cases hm : m x with
    | none => rfl
    | some y => exact absurd rfl (findL_none hs hf _ (h2 _ _ hm))
  | some r =>
    obtain ⟨j, y⟩ := r
    obtain ⟨_, h⟩ := findL_some hs hf
    exact h1 _ (List.mem_of_getElem? h)

theorem ofSlot_plain {τ : Ty} (hp : τ.plain = true) (hs : τ.single = true) {sl : Slot} {v : Value} {x : τ.den} (h : RS P Y S w heap ρ sl v) (hx : ofSlot τ sl = some x) : v = pack (encs τ x) := by
  have := (R.plain hp).1 (ofSlot_R h hx)
  rw [← this]; rfl

theorem plain_R1 {τ : Ty} (hp : τ.plain = true) (hs : τ.single = true) (x : τ.den) : R P τ S w x [pack (encs τ x)] := by
  have hl := encs_len τ x hp
  have hc : τ.cells = 1 := by cases τ <;> first | rfl | cases hs
  rw [hc] at hl
  obtain ⟨u, hu⟩ := List.length_eq_one_iff.1 hl
  rw [R.plain hp, hu]; rfl

/-- A lookup in entries that hold this map. -/
theorem lookup_run {t kt vt : TypeId} {k v : Ty} (hu : P.underlying t = some (.map kt vt)) (hK : KeyAt P kt k) {m : k.den → Option v.den} {x : Value} {es : Array MapEntry}
    (hx : (x = .map none ∧ es = #[]) ∨ ∃ b c, x = .map (some b) ∧ w.heap[b]? = some (.map es c)) (hm : MapRep k v m es) (key : k.den) {i : TypeInfo} (hi : P.info? vt = some i) {zv : Value} (hz : i.zero = some zv) {z : v.den} (hzv : zv = pack (encs v z)) (ok : Bool) :
    (Instr.lookup t x (pack (encs k key)) ok).run P w = .ok (match ok with | true => .tuple #[pack (encs v ((m key).getD z)), .bool (m key).isSome] | false => pack (encs v ((m key).getD z))) w := by
  obtain ⟨l, h1, h2, h3, h4⟩ := hm
  have hat := MapRep.at hK.same h3 h4 key
  have fin : ∀ r : Option (Nat × v.den), findL key l 0 = r → 
      ((match r.map fun r => (r.1, pack (encs v r.2)) with
        | some (_, v) => (do let __x ← pure (v, true); pure (if ok = true then Value.tuple #[__x.fst, Value.bool __x.snd] else __x.fst) : Sem Value)
        | none => do let __do_lift ← zeroValue vt; let __x ← pure (__do_lift, false); pure (if ok = true then Value.tuple #[__x.fst, Value.bool __x.snd] else __x.fst)) : Sem Value).run P w =
      .ok (match ok with | true => .tuple #[pack (encs v ((m key).getD z)), .bool (m key).isSome] | false => pack (encs v ((m key).getD z))) w := by
    intro r hf
    rw [hf] at hat
    cases r with
    | none =>
      simp only [Option.map_none] at hat ⊢
      simp only [Sem.run_bind, Sem.run_pure, Result.andThen_ok, zeroValue, typeInfo, run_program, hi, hz, hzv, hat]
      cases ok <;> rfl
    | some r =>
      simp only [Option.map_some] at hat ⊢
      simp only [Sem.run_bind, Sem.run_pure, Result.andThen_ok, hat]
      cases ok <;> rfl
  unfold Instr.lookup
  rcases hx with ⟨rfl, rfl⟩ | ⟨b, c, rfl, hb⟩
  · simp only [Sem.run_bind, run_underlying hu, Result.andThen_ok, Sem.run_pure, hK.check, findKey_run hK key l _ h1]
    exact fin _ rfl
  · have hg : (getObj b).run P w = .ok (.map es c) w := by simp [getObj, Sem.run, hb]
    simp only [Sem.run_bind, run_underlying hu, Result.andThen_ok, Sem.run_pure, hg, hK.check, findKey_run hK key l _ h1]
    exact fin _ rfl

theorem zero_plain {t : TypeId} {τ : Ty} (hp : τ.plain = true) (hs : τ.single = true) {d : DC} {z : τ.den} (hz : zeroOneD P t = some d) (hd : ofDC τ d = some z) : ∃ i zv, P.info? t = some i ∧ i.zero = some zv ∧ zv = pack (encs τ z) := by
  unfold zeroOneD at hz
  split at hz
  case h_2 => cases hz
  rename_i zv hzv
  split at hz
  case h_2 => cases hz
  rename_i hone
  cases hz
  obtain ⟨i, hi, hiz⟩ := Option.bind_eq_some_iff.1 hzv
  have := (R.plain (P := P) (S := fun _ _ => False) (w := default) hp).1 (ofDC_R (Y := .nilFunc) (heap := fun _ => .none) (ρ := fun _ => none) (constDC_RC zv hone) hd)
  exact ⟨i, zv, hi, hiz, by rw [← this]; rfl⟩

theorem single_of_one {τ : Ty} (h : τ.one = true) : τ.single = true := by cases τ <;> first | rfl | cases h

theorem lookup_sound {K : TypeId → Bool} (hKS : KeySound P K) {o : Oper} {Q : Exit → Act → World → Prop} (h : SR P N G s a w ρ S F) (hd : o.dst.all (Nat.blt · N) = true) {t : TypeId} {x i : Operand} {ok : Bool} (hop : o.op = .lookup t x i ok)
    {sx si : Slot} (hx : RS P G.Y S w s.heap ρ sx (a.eval x)) (hi : RS P G.Y S w s.heap ρ si (a.eval i)) {e : Eff} (he : (lookupD P K t s.heap sx si ok).run id = some e) :
    o.wp P a w (SRL P N G o s e) Q := by
  unfold lookupD at he
  split at he
  case h_2 => cases he
  rename_i kt vt hu
  split at he
  case h_2 => cases he
  rename_i k v z hK hk hv hz
  split at he
  case h_2 => cases he
  rename_i key zd hvo hkey hzd
  have hKA := hKS kt k hK hk
  have fin : ∀ (m : k.den → Option v.den) (rh : List Nat) (es : Array MapEntry), (k.plain = true ∧ v.plain = true ∧ k.single = true) → ((a.eval x = .map none ∧ es = #[]) ∨ ∃ b c, a.eval x = .map (some b) ∧ w.heap[b]? = some (.map es c)) → MapRep k v m es →
      o.wp P a w (SRL P N G o s ⟨some (lookOut v ok (m key) zd), [], rh, true, none⟩) Q := by
    intro m rh es ⟨hkp, hvp, hks⟩ hxm hm
    obtain ⟨ti, zv, hti, htz, hzv⟩ := zero_plain hvp (single_of_one hvo) hz hzd
    have hkv := ofSlot_plain hkp hks hi hkey
    have hrun := lookup_run (P := P) (w := w) hu hKA hxm hm key hti htz hzv ok
    cases ok with
    | true =>
      refine fin_val h hd (v := .tuple #[pack (encs v ((m key).getD zd)), .bool (m key).isSome]) ?_ ⟨[_, _], rfl, _, _, rfl, plain_R1 hvp (single_of_one hvo) _, _, _, rfl, rfl, rfl⟩
      simp only [execOp, hop, hkv, Sem.run_bind, hrun, Result.andThen_ok, Sem.run_pure]
    | false =>
      refine fin_val h hd (v := pack (encs v ((m key).getD zd))) ?_ ⟨hvo, plain_R1 hvp (single_of_one hvo) _⟩
      simp only [execOp, hop, hkv, Sem.run_bind, hrun, Result.andThen_ok, Sem.run_pure]
  simp only at he
  split at he
  · rename_i id
    cases ho : s.heap id <;> rw [ho] at he <;> try (cases he; done)
    rename_i k' v' m'
    simp only at he
    cases hcast : castTy (σ := .map k' v') (.map k v) m' <;> rw [hcast] at he <;> try (cases he; done)
    rename_i m
    simp only [Br.run, eff, _root_.id, Option.some.injEq] at he
    subst he
    obtain ⟨e1, hm'⟩ := castTy_some hcast
    obtain ⟨rfl, rfl⟩ : k' = k ∧ v' = v := by injection e1 with a b; exact ⟨a, b⟩
    obtain rfl : m = m' := hm'
    have hobj := h.obj id
    rw [ho] at hobj
    obtain ⟨b, es, c, q1, q2, q3, ⟨p1, p2, p3, p4⟩, q5, q6⟩ := hobj
    obtain ⟨_, _, hx3⟩ := hx
    obtain ⟨b', hb', hxv⟩ := hx3 _ _ _ ho
    rw [q1] at hb'; cases hb'
    exact fin m [id] es ⟨p1, p2, p3⟩ (.inr ⟨b, c, hxv, q3⟩) q5
  · rename_i k' v' m'
    cases hcast : castTy (σ := .map k' v') (.map k v) m' <;> rw [hcast] at he <;> try (cases he; done)
    rename_i m
    simp only [Br.run, eff, _root_.id, Option.some.injEq] at he
    subst he
    obtain ⟨e1, hm'⟩ := castTy_some hcast
    obtain ⟨rfl, rfl⟩ : k' = k ∧ v' = v := by injection e1 with a b; exact ⟨a, b⟩
    obtain rfl : m = m' := hm'
    obtain ⟨_, p1, p2, p3, p4, hr⟩ := hx
    rcases hr with ⟨r, hr1, hr2, hr3⟩ | ⟨b, es, c, hr1, hr2, hr3, hr4⟩
    · subst hr2
      exact fin m [] #[] ⟨p1, p2, p3⟩ (.inl ⟨by simpa using hr1, rfl⟩) ⟨[], rfl, by simp, by simp, fun x y q => by rw [show m x = none from hr3 x] at q; cases q⟩
    · exact fin m [] es ⟨p1, p2, p3⟩ (.inr ⟨b, c, by simpa using hr1, hr3⟩) hr4
  · cases he

theorem modify_get {α : Type} (es : Array α) (i j : Nat) (f : α → α) : (es.modify i f).toList[j]? = if i = j then es.toList[j]?.map f else es.toList[j]? := by
  rw [Array.getElem?_toList, Array.getElem?_toList, Array.getElem?_modify]

/-- The entries behind a store into a map. -/
theorem mapUpdate_run {t kt vt : TypeId} {k v : Ty} (hu : P.underlying t = some (.map kt vt)) (hK : KeyAt P kt k) {m : k.den → Option v.den} {b c : Nat} {es : Array MapEntry}
    (hb : w.heap[b]? = some (.map es c)) (hm : MapRep k v m es) (key : k.den) (val : v.den) :
    ∃ es' c', (Instr.mapUpdate t (.map (some b)) (pack (encs k key)) (pack (encs v val))).run P w = .ok () (w.putObj b (.map es' c')) ∧ MapRep k v (setMap (eqD k) m key val) es' := by
  obtain ⟨l, h1, h2, h3, h4⟩ := hm
  have hat := MapRep.at hK.same h3 h4 key
  have hg : (getObj b).run P w = .ok (.map es c) w := by simp [getObj, Sem.run, hb]
  have hset : ∀ o, (setObj b o).run P w = .ok () (w.putObj b o) := fun o => by simp [setObj, Sem.run, hb, World.putObj]
  have hfk := findKey_run (P := P) (w := w) hK key l es.toList h1
  have heq : ∀ z, eqD k z key = true ↔ z = key := fun z => hK.same z key
  cases hf : findL key l 0 with
  | none =>
    have hnin := findL_none hK.same hf
    rw [hf] at hfk hat
    refine ⟨es.push { key := pack (encs k key), val := pack (encs v val), born := c }, c + 1, ?_, l ++ [(key, val)], by simp [h1], ?_, ?_, ?_⟩
    · unfold Instr.mapUpdate
      simp only [Sem.run_bind, run_underlying hu, Result.andThen_ok, hg, hK.check, hfk, Option.map_none, hset]
    · rw [List.map_append, List.nodup_append]
      refine ⟨h2, by simp, fun a ha b' hb' => ?_⟩
      obtain ⟨p, hp, rfl⟩ := List.mem_map.1 ha
      simp at hb'
      subst hb'
      exact hnin p hp
    · intro p hp
      rcases List.mem_append.1 hp with hp | hp
      · have hne := hnin p hp
        have : eqD k p.1 key = false := by rw [← Bool.not_eq_true, heq]; exact hne
        simp only [setMap, this, cond_false]; exact h3 p hp
      · simp at hp
        subst hp
        have : eqD k key key = true := (heq key).2 rfl
        simp only [setMap, this, cond_true]
    · intro x y hx
      simp only [setMap] at hx
      cases he : eqD k x key with
      | true =>
        rw [he] at hx
        simp only [cond_true, Option.some.injEq] at hx
        rw [(heq x).1 he, ← hx]; simp
      | false => rw [he] at hx; exact List.mem_append.2 (.inl (h4 x y hx))
  | some r =>
    obtain ⟨i, y0⟩ := r
    obtain ⟨_, hli⟩ := findL_some hK.same hf
    rw [Nat.sub_zero] at hli
    rw [hf] at hfk
    have hei : ∃ e, es.toList[i]? = some e ∧ e.key = pack (encs k key) ∧ e.val = pack (encs v y0) := by
      have := congrArg (fun z => z[i]?) h1
      simp only [List.getElem?_map, hli, Option.map_some] at this
      cases he : es.toList[i]? with
      | none => rw [he] at this; cases this
      | some e =>
        rw [he] at this
        simp only [Option.map_some, Option.some.injEq, Prod.mk.injEq] at this
        exact ⟨e, rfl, this.1, this.2⟩
    obtain ⟨e, he, hek, hev⟩ := hei
    have he' : es[i]? = some e := by simpa using he
    refine ⟨es.modify i fun e => { e with key := pack (encs k key), val := pack (encs v val) }, c, ?_, l.set i (key, val), ?_, ?_, ?_, ?_⟩
    · unfold Instr.mapUpdate
      simp only [Sem.run_bind, run_underlying hu, Result.andThen_ok, hg, hK.check, hfk, Option.map_some, he', Option.getD_some, hek, Instr.keyThatStays, hK.bits, if_true, Sem.run_pure, hset]
    · apply List.ext_getElem?
      intro j
      rw [List.getElem?_map, List.getElem?_map, modify_get, List.getElem?_set]
      have hj := congrArg (fun z => z[j]?) h1
      simp only [List.getElem?_map] at hj
      have hlen : i < l.length := (List.getElem?_eq_some_iff.1 hli).1
      by_cases hij : i = j
      · subst hij
        rw [if_pos rfl, if_pos rfl, if_pos hlen, he]
        rfl
      · rw [if_neg hij, if_neg hij]; exact hj
    · have : (l.set i (key, val)).map (·.1) = l.map (·.1) := by
        apply List.ext_getElem?
        intro j
        rw [List.getElem?_map, List.getElem?_map, List.getElem?_set]
        by_cases hij : i = j
        · subst hij
          have hlen : i < l.length := (List.getElem?_eq_some_iff.1 hli).1
          rw [if_pos rfl, if_pos hlen, hli]; rfl
        · rw [if_neg hij]
      rw [this]; exact h2
    · intro p hp
      obtain ⟨j, hj, hpj⟩ := List.getElem_of_mem hp
      have hpj' : (l.set i (key, val))[j]? = some p := by rw [List.getElem?_eq_getElem hj, hpj]
      rw [List.getElem?_set] at hpj'
      by_cases hij : i = j
      · subst hij
        have hlen : i < l.length := (List.getElem?_eq_some_iff.1 hli).1
        rw [if_pos rfl, if_pos hlen] at hpj'
        simp only [Option.some.injEq] at hpj'
        subst hpj'
        have : eqD k key key = true := (heq key).2 rfl
        simp only [setMap, this, cond_true]
      · rw [if_neg hij] at hpj'
        have hne : p.1 ≠ key := fun e => by
          have hj1 : (l.map (·.1))[j]? = some key := by rw [List.getElem?_map, hpj', ← e]; rfl
          have hi1 : (l.map (·.1))[i]? = some key := by rw [List.getElem?_map, hli]; rfl
          have hlj := (List.getElem?_eq_some_iff.1 hj1).1
          rw [List.getElem?_eq_some_iff] at hi1 hj1
          obtain ⟨l1, q1⟩ := hi1
          obtain ⟨l2, q2⟩ := hj1
          have hpw := List.pairwise_iff_getElem.1 h2
          rcases Nat.lt_or_gt_of_ne hij with hlt | hgt
          · exact hpw i j l1 l2 hlt (by rw [q1, q2])
          · exact hpw j i l2 l1 hgt (by rw [q1, q2])
        have : eqD k p.1 key = false := by rw [← Bool.not_eq_true, heq]; exact hne
        simp only [setMap, this, cond_false]; exact h3 p (List.mem_of_getElem? hpj')
    · intro x y hx
      simp only [setMap] at hx
      have hlen : i < l.length := (List.getElem?_eq_some_iff.1 hli).1
      cases hek' : eqD k x key with
      | true =>
        rw [hek'] at hx
        simp only [cond_true, Option.some.injEq] at hx
        rw [(heq x).1 hek', ← hx]
        exact List.mem_of_getElem? (i := i) (by rw [List.getElem?_set, if_pos rfl, if_pos hlen])
      | false =>
        rw [hek'] at hx
        obtain ⟨j, hj, hpj⟩ := List.getElem_of_mem (h4 x y hx)
        have hpj' : l[j]? = some (x, y) := by rw [List.getElem?_eq_getElem hj, hpj]
        refine List.mem_of_getElem? (i := j) ?_
        have hij : i ≠ j := fun e => by
          subst e
          rw [hli] at hpj'
          cases hpj'
          rw [(heq _).2 rfl] at hek'; cases hek'
        rw [List.getElem?_set, if_neg hij]; exact hpj'

theorem mapUpdate_sound {K : TypeId → Bool} (hKS : KeySound P K) (hG : G.Ok P) {o : Oper} {Q : Exit → Act → World → Prop} (h : SR P N G s a w ρ S F) (hd : o.dst.all (Nat.blt · N) = true) {t : TypeId} {x i y : Operand} (hop : o.op = .mapUpdate t x i y)
    {sx si sy : Slot} (hx : RS P G.Y S w s.heap ρ sx (a.eval x)) (hi : RS P G.Y S w s.heap ρ si (a.eval i)) (hy : RS P G.Y S w s.heap ρ sy (a.eval y)) {e : Eff} (he : (mapUpdateD P K t s.heap sx si sy).run id = some e) :
    o.wp P a w (SRL P N G o s e) Q := by
  unfold mapUpdateD at he
  split at he
  case h_2 => cases he
  rename_i kt vt hu
  split at he
  case h_2 => cases he
  rename_i k v id hK hk hv
  split at he
  case h_2 => cases he
  rename_i k' v' m' ho
  split at he
  case h_2 => cases he
  rename_i m key val hcast hkey hval hvo
  cases he
  obtain ⟨e1, hm'⟩ := castTy_some hcast
  obtain ⟨rfl, rfl⟩ : k' = k ∧ v' = v := by injection e1 with a b; exact ⟨a, b⟩
  obtain rfl : m = m' := hm'
  have hobj := h.obj id
  rw [ho] at hobj
  obtain ⟨b, es, c, q1, q2, q3, ⟨p1, p2, p3, p4⟩, q5, q6⟩ := hobj
  obtain ⟨_, _, hx3⟩ := hx
  obtain ⟨b', hb', hxv⟩ := hx3 _ _ _ ho
  rw [q1] at hb'; cases hb'
  obtain ⟨es', c', hrun, hrep⟩ := mapUpdate_run (P := P) hu (hKS kt _ hK hk) q3 q5 key val
  have hkv := ofSlot_plain p1 p3 hi hkey
  have hvv := ofSlot_plain p2 p4 hy hval
  have hlt := (Array.getElem?_eq_some_iff.1 q3).1
  have hex : (execOp a.eval o).run P w = .ok .skip (w.putObj b (.map es' c')) := by
    simp only [execOp, hop, hkv, hvv, hxv, Sem.run_bind, hrun, Result.andThen_ok, Sem.run_pure]
  unfold Oper.wp
  rw [hex]
  have hoth : ∀ j, j ≠ b → (w.putObj b (.map es' c')).heap[j]? = w.heap[j]? := fun j hj => World.putObj_heap_other hj
  have hsz : (w.putObj b (.map es' c')).heap.size = w.heap.size := by simp [World.putObj]
  have ex : Ext0 S w S (w.putObj b (.map es' c')) := ⟨by omega, fun _ _ x => x, fun b' o hS => World.cell?_of_block (a := ⟨b', o, none⟩) (hoth b' (fun e => q6 o (e ▸ hS))), fun b' o es c hS hm => (hoth b' (fun e => q6 o (e ▸ hS))).trans hm, fun b' o hS => by rw [hsz]; exact h.bd b' o hS, .putObj hlt (fun _ _ _ => by simp)⟩
  have q := h.turn hG (id := id) (o := .mp k' v' (setMap (eqD k') m key val)) (by rw [ho]; trivial) q1 ex ⟨rfl, rfl, rfl, by omega, fun j hj => hoth j hj.2⟩ hsz (fun _ _ q => .inl q) (by rw [ho]; exact .inr ⟨⟨_, rfl⟩, rfl⟩)
    ⟨b, es', c', q1, q2, World.putObj_heap_same hlt, ⟨p1, p2, p3, p4⟩, hrep, q6⟩
  exact ⟨rfl, ρ, S, F, (q.put_skip hd).of_eq rfl rfl rfl rfl⟩

end Go.Dm

namespace Go.Dm
open Go.RowKit
variable {P : Program} {N : Nat} {G : Gh} {S S' : CS} {w w' : World} {s : St} {a : Act} {ρ ρ' : Rho} {F F' : Nat → Prop} {heap heap' : Nat → DObj} {Y : Value} {E : TCtx} {Γ : Ctx}

theorem join_R : ∀ {m : Nat} {τ : Ty} {y : (takeTy m τ).den} {z : (dropTy m τ).den} {us zs : List Value}, R P (takeTy m τ) S w y us → R P (dropTy m τ) S w z zs → R P τ S w (joinD m τ y z) (us ++ zs)
  | 0, τ, y, z, us, zs, h, h' => by
    rw [show us = [] from h]; exact h'
  | m + 1, .cons hd t, y, z, us, zs, h, h' => by
    obtain ⟨u, ws, rfl, h1, h2⟩ := h
    exact ⟨u, ws ++ zs, rfl, h1, join_R (m := m) (τ := t) h2 h'⟩
  | _ + 1, .int _, y, z, us, zs, h, h' => by rw [show us = [] from h]; exact h'
  | _ + 1, .bool, y, z, us, zs, h, h' => by rw [show us = [] from h]; exact h'
  | _ + 1, .sl _, y, z, us, zs, h, h' => by rw [show us = [] from h]; exact h'
  | _ + 1, .ptr _, y, z, us, zs, h, h' => by rw [show us = [] from h]; exact h'
  | _ + 1, .agg _, y, z, us, zs, h, h' => by rw [show us = [] from h]; exact h'
  | _ + 1, .nil, y, z, us, zs, h, h' => by rw [show us = [] from h]; exact h'
  | _ + 1, .fn _ _, y, z, us, zs, h, h' => by rw [show us = [] from h]; exact h'
  | _ + 1, .seq _, y, z, us, zs, h, h' => by rw [show us = [] from h]; exact h'
  | _ + 1, .map _ _, y, z, us, zs, h, h' => by rw [show us = [] from h]; exact h'

def HoldsAt (P : Program) (f : FuncId) (c : Con) (us : List Value) (S : CS) (w : World) : Prop :=
  ∀ S' w', Ext0 S w S' w' → ∀ (x : c.args.den) vs, c.pre x = true → R P c.args S' w' x vs →
    Calls P f (us ++ vs).toArray w' (fun e w'' => ∃ S'' rs, e = .returned (pack rs) ∧ R P c.res S'' w'' (c.fn x) rs ∧ Ext S' w' S'' w'' ∧ Below w'.heap.size w' w'')

theorem firstD_holds {f : FuncId} : ∀ {ss : List Slot} {vs us : List Value} {c c' : Con}, firstD c ss = some c' → ss.length = vs.length →
    (∀ (j : Nat) (d : Slot) (u : Value), ss[j]? = some d → vs[j]? = some u → RS P Y S w heap ρ d u) → HoldsAt P f c us S w → HoldsAt P f c' (us ++ vs) S w
  | [], [], us, c, c', h, _, _, hc => by
    simp only [firstD, Option.some.injEq] at h
    subst h
    rw [List.append_nil]; exact hc
  | [], _ :: _, _, _, _, _, hl, _, _ => by simp at hl
  | _ :: _, [], _, _, _, _, hl, _, _ => by simp at hl
  | d :: ss, v :: vs, us, c, c', h, hl, hr, hc => by
    obtain ⟨τ, res, pre, fn⟩ := c
    cases τ <;> try (simp only [firstD] at h; cases h; done)
    rename_i hd t
    simp only [firstD] at h
    cases hx : ofSlot hd d with
    | none => rw [hx] at h; cases h
    | some x =>
      rw [hx] at h
      have h1 := ofSlot_R (hr 0 d v rfl rfl) hx
      have := firstD_holds (us := us ++ [v]) (vs := vs) h (by simpa using hl) (fun j d u q1 q2 => hr (j + 1) d u (by simpa using q1) (by simpa using q2)) (fun S' w' ex y ws hp hy => by
        have := hc S' w' ex (x, y) (v :: ws) hp ⟨v, ws, rfl, h1.mono ex, hy⟩
        rw [List.append_assoc]; exact this)
      rw [List.append_assoc] at this
      exact this

theorem boxPtrs_spec : ∀ {sl : List Slot} {us : List Value} {ids : List Nat}, boxPtrs sl = some ids → sl.length = us.length → (∀ (j : Nat) (d : Slot) (u : Value), sl[j]? = some d → us[j]? = some u → RS P Y S w heap ρ d u) → PtrsOk heap ρ ids us
  | [], [], ids, h, _, _ => by cases h; trivial
  | [], _ :: _, _, _, hl, _ => by simp at hl
  | _ :: _, [], _, _, hl, _ => by simp at hl
  | d :: r, u :: us, ids, h, hl, hr => by
    unfold boxPtrs at h
    split at h
    · rename_i hh; cases hh
    · rename_i id r' hh
      cases hh
      cases hb : boxPtrs r with
      | none => rw [hb] at h; cases h
      | some is =>
        rw [hb] at h
        cases h
        exact ⟨hr 0 _ _ rfl rfl, boxPtrs_spec hb (by simpa using hl) fun j d u h1 h2 => hr (j + 1) d u (by simpa using h1) (by simpa using h2)⟩
    · cases h

theorem makeFunc_sound (hΓ : Sound P Γ) {o : Oper} {Q : Exit → Act → World → Prop} (h : SR P N G s a w ρ S F) (hd : o.dst.all (Nat.blt · N) = true) {f : FuncId} {first caps : Array Operand}
    (hop : o.op = .makeFunc (.func f) first caps) {e : Eff} (he : (makeFuncD Γ f (first.toList.map (val Γ s.env)) (caps.toList.map (val Γ s.env))).run id = some e) :
    o.wp P a w (SRL P N G o s e) Q := by
  have hex : (execOp a.eval o).run P w = .ok (.value (.func (.func f) (first.map a.eval) (caps.map a.eval))) w := by simp [execOp, hop, Instr.makeFunc]
  unfold makeFuncD at he
  split at he
  · rename_i c hf
    obtain ⟨hcl, hho⟩ := hΓ f _ hf
    unfold mkFnD at he
    split at he
    case h_2 => cases he
    rename_i c' h1
    split at he
    case h_2 => cases he
    rename_i z hz
    cases he
    have hat := firstD_holds (P := P) (Y := G.Y) (S := S) (w := w) (heap := s.heap) (ρ := ρ) (f := f) (us := []) (vs := first.toList.map a.eval) h1 (by simp) (args_RS hΓ h first.toList) (fun S' w' ex x vs hp hx => hho S' w' ex.bd x vs hp hx)
    have hzr := ofSlots_R (us := caps.toList.map a.eval) (by simp) (args_RS hΓ h caps.toList) hz
    refine fin_val h hd hex ⟨rfl, f, first.map a.eval, caps.map a.eval, rfl, hcl, fun S' w' ex y us hp hy => ?_⟩
    have := hat S' w' ex _ _ hp (join_R hy (hzr.mono ex))
    have e1 : first.map a.eval ++ us.toArray ++ caps.map a.eval = ([] ++ first.toList.map a.eval ++ (us ++ caps.toList.map a.eval)).toArray := by apply Array.ext'; simp
    rw [e1]
    exact this
  · rename_i c hf
    obtain ⟨hcl, hho⟩ := hΓ f _ hf
    split at he
    case h_2 => cases he
    rename_i x y hx hy
    simp only [okIf, Br.run, eff, bad] at he
    cases hb : c.pre x y with
    | false => rw [hb] at he; cases he
    | true =>
      rw [hb] at he
      cases he
      have hxr := ofSlots_R (us := first.toList.map a.eval) (by simp) (args_RS hΓ h first.toList) hx
      have hyr := ofSlots_R (us := caps.toList.map a.eval) (by simp) (args_RS hΓ h caps.toList) hy
      refine fin_val h hd hex ⟨rfl, f, first.map a.eval, caps.map a.eval, rfl, hcl, fun S' w' ex => ?_⟩
      have := hho S' w' ex.bd x y _ _ hb (hxr.mono ex) (hyr.mono ex)
      rw [show first.map a.eval = (first.toList.map a.eval).toArray by apply Array.ext'; simp, show caps.map a.eval = (caps.toList.map a.eval).toArray by apply Array.ext'; simp]
      exact this
  · rename_i app hf
    obtain ⟨hcl, _⟩ := hΓ f _ hf
    split at he
    case h_2 => cases he
    rename_i ids hfirst hids
    cases he
    have hemp : first = #[] := by
      have : first.toList = [] := by simpa using hfirst
      simpa using this
    refine fin_val h hd hex ⟨hcl, caps.toList.map a.eval, ?_, boxPtrs_spec hids (by simp) (args_RS hΓ h caps.toList)⟩
    rw [hemp, show caps.map a.eval = (caps.toList.map a.eval).toArray by apply Array.ext'; simp, Array.map_empty]
  · cases he
  · cases he

end Go.Dm

namespace Go.Dm
open Go.RowKit
variable {P : Program} {N : Nat} {G : Gh} {S S' : CS} {w w' : World} {s : St} {a : Act} {ρ ρ' : Rho} {F F' : Nat → Prop} {heap heap' : Nat → DObj} {Y : Value} {E : TCtx} {Γ : Ctx}

theorem append_sound (hG : G.Ok P) {o : Oper} {Q : Exit → Act → World → Prop} (h : SR P N G s a w ρ S F) (hd : o.dst.all (Nat.blt · N) = true) {T : TypeId} {sx x : Operand}
    (hop : o.op = .call { callee := .builtin .append, args := #[sx, x], argTypes := #[T, T] }) {id0 : Nat} (hlo : G.lo ≤ id0)
    {ss xs : Slot} (hs : RS P G.Y S w s.heap ρ ss (a.eval sx)) (hx : RS P G.Y S w s.heap ρ xs (a.eval x)) {rw : Bool} {e : Eff} (he : (appendD P rw G.lo id0 s.heap T ss xs).run id = some e) :
    o.wp P a w (SRL P N G o s e) Q := by
  unfold appendD at he
  split at he
  case h_2 => cases he
  rename_i El τ y hu hrow
  split at he
  case h_2 => cases he
  rename_i i hi
  split at he
  · -- no cells yet
    rename_i hc
    simp only [Bool.and_eq_true, Nat.blt_eq] at hc
    obtain ⟨⟨⟨⟨c1, c2⟩, c3⟩, c4⟩, c5⟩ := hc
    have c1 := Nat.eq_of_beq_eq_true c1
    obtain ⟨z, hz, hzs⟩ : ∃ z, i.zero = some z ∧ z.cells.size = i.size := by
      have c4 := of_decide_eq_true c4
      cases hq : i.zero with
      | none => rw [hq] at c4; cases c4
      | some z => rw [hq] at c4; exact ⟨z, rfl, by simpa using c4⟩
    split at he
    case h_2 => cases he
    rename_i hn
    simp only [Br.run, eff, bad] at he
    cases hb : decide (y.n * i.bytes ≤ 140737488355328) with
    | false => simp only [hb, cond_false] at he; cases he
    | true =>
      simp only [hb, cond_true, id] at he
      have hb := of_decide_eq_true hb
      obtain ⟨a0, hnil⟩ : ∃ a0, a.eval sx = .slice a0 0 0 := hs
      have hy := rowOf_R hx hrow
      have hcat : catSl (⟨0, y.g⟩ : Sl τ.den) y = y := by
        unfold catSl
        cases y
        simp only [Nat.zero_add, Sl.mk.injEq, true_and]
        funext i
        have : Nat.blt i 0 = false := by rw [← Bool.not_eq_true, Nat.blt_eq]; omega
        simp [this]
      cases rw with
      | true =>
        cases he
        have key := fin_row (P := P) (Q := Q) hG h hd hop hu hi hz c1 c2 c3 hzs c5 (r := ⟨0, y.g⟩) (y := y) hy (by simpa using hb)
          (id := id0) (cur' := 0) hlo (.inl hn) (xs := []) (by simp) (fun j hj => absurd hj (Nat.not_lt_zero _)) (p := true) (.inl ⟨rfl, ⟨a0, hnil⟩, rfl⟩) (rh := [id0])
        rw [hcat] at key
        exact key
      | false =>
      cases he
      have key := fin_chain (P := P) (Q := Q) hG h hd hop hu hi hz c1 c2 c3 hzs c5 (r := ⟨0, y.g⟩) (y := y) (by rw [hnil]; exact .inl ⟨rfl, _, _, rfl⟩) hy (by simpa using hb)
        (id := id0) (cur' := 0) (.inl ⟨hn, hlo⟩) (p := true) (.inl ⟨rfl, ⟨a0, hnil⟩, rfl⟩) (rh := [id0])
      rw [hcat, Nat.zero_add] at key
      exact key
  · rename_i id ver e' r hc
    simp only [Bool.and_eq_true, Nat.blt_eq] at hc
    obtain ⟨⟨⟨⟨c1, c2⟩, c3⟩, c4⟩, c5⟩ := hc
    have c1 := Nat.eq_of_beq_eq_true c1
    obtain ⟨z, hz, hzs⟩ : ∃ z, i.zero = some z ∧ z.cells.size = i.size := by
      have c4 := of_decide_eq_true c4
      cases hq : i.zero with
      | none => rw [hq] at c4; cases c4
      | some z => rw [hq] at c4; exact ⟨z, rfl, by simpa using c4⟩
    split at he
    case h_2 => cases he
    rename_i ver' E' k n r' ho hcast
    obtain ⟨heq, hr'⟩ := castTy_some hcast
    have he' : e' = τ := by injection heq
    subst he'
    obtain rfl : r' = r := hr'
    split at he
    case h_2 => cases he
    rename_i hcc
    simp only [Bool.and_eq_true] at hcc
    obtain ⟨⟨d1, d2⟩, d3⟩ := hcc
    have d1 := Nat.eq_of_beq_eq_true d1
    have d2 := Nat.eq_of_beq_eq_true d2
    have d3 := Nat.eq_of_beq_eq_true d3
    subst d1 d2 d3
    simp only [Br.run, eff, bad] at he
    cases hb : decide ((r'.n + y.n) * i.bytes ≤ 140737488355328) with
    | false => simp only [hb, cond_false] at he; cases he
    | true =>
      simp only [hb, cond_true, _root_.id] at he
      cases he
      have hb := of_decide_eq_true hb
      have hy := rowOf_R hx hrow
      obtain ⟨hr, hf, cur, T', k', n', q1, q2, q3⟩ := hs
      rw [ho] at q1
      cases q1
      obtain ⟨p0, p1, p3⟩ := q3 rfl
      subst p0
      have hobj := h.obj id
      rw [ho] at hobj
      rcases p3 with ⟨p3, p4, a0, p5⟩ | ⟨b, cap, cur, p3, p4, p5, p6, p7, p8⟩
      · exact fin_chain (P := P) (Q := Q) hG h hd hop hu hi hz c1 c2 c3 hzs c5 (r := r') (y := y) hr hy hb (id := id) (cur' := ver + 1) (.inr ⟨ver, _, ho, by omega⟩) (p := true) (.inl ⟨rfl, ⟨a0, p5⟩, p4⟩)
      · rcases hobj with ⟨hn, _⟩ | ⟨b', hb', hb2, hb3, _, hb4⟩
        · rw [p3] at hn; cases hn
        · rw [p3] at hb'; cases hb'
          exact fin_chain (P := P) (Q := Q) hG h hd hop hu hi hz c1 c2 c3 hzs c5 (r := r') (y := y) hr hy hb (id := id) (cur' := ver + 1) (.inr ⟨ver, _, ho, by omega⟩) (p := false)
            (.inr ⟨rfl, b, cap, cur, by rw [ho]; trivial, p3, p4, p5, p6, p7, p8, hb4⟩)
  · -- a row that may be written
    rename_i id ver hc
    simp only [Bool.and_eq_true, Nat.blt_eq] at hc
    obtain ⟨⟨⟨⟨c1, c2⟩, c3⟩, c4⟩, c5⟩ := hc
    have c1 := Nat.eq_of_beq_eq_true c1
    obtain ⟨z, hz, hzs⟩ : ∃ z, i.zero = some z ∧ z.cells.size = i.size := by
      have c4 := of_decide_eq_true c4
      cases hq : i.zero with
      | none => rw [hq] at c4; cases c4
      | some z => rw [hq] at c4; exact ⟨z, rfl, by simpa using c4⟩
    split at he
    case h_2 => cases he
    rename_i ver' E' e' r ho
    split at he
    case h_2 => cases he
    rename_i r' hcast
    obtain ⟨heq, hr'⟩ := castTy_some hcast
    have he' : e' = τ := by injection heq
    subst he'
    obtain rfl : r' = r := hr'
    split at he
    case h_2 => cases he
    rename_i hcc
    simp only [Bool.and_eq_true] at hcc
    obtain ⟨⟨d0, d1⟩, d2⟩ := hcc
    have d1 := Nat.eq_of_beq_eq_true d1
    have d2 := Nat.eq_of_beq_eq_true d2
    subst d1 d2
    simp only [Br.run, eff, bad] at he
    cases hb : decide ((r'.n + y.n) * i.bytes ≤ 140737488355328) with
    | false => simp only [hb, cond_false] at he; cases he
    | true =>
      simp only [hb, cond_true, _root_.id] at he
      cases he
      have hb := of_decide_eq_true hb
      have hy := rowOf_R hx hrow
      obtain ⟨_, _, h3⟩ := hs
      have hobj := h.obj id
      rw [ho] at hobj
      obtain ⟨⟨hfl, hpos⟩, hobj⟩ := hobj
      rcases (h3 _ _ _ _ ho).2 rfl with ⟨p2, a0, p3⟩ | ⟨b, cap, p1, p2, p3, p4, _, p5⟩
      · exact fin_row (P := P) (Q := Q) hG h hd hop hu hi hz c1 c2 c3 hzs c5 (r := r') (y := y) hy hb (id := id) (cur' := ver + 1) (Nat.le_of_ble_eq_true d0) (.inr ⟨ver, _, ho, by omega⟩)
          (xs := []) (by rw [p2]; simp) (fun j hj => by omega) (p := true) (.inl ⟨rfl, ⟨a0, p3⟩, p2⟩)
      · rcases hobj with ⟨q1, _⟩ | ⟨b', arr, q1, q2, q3, q4, q5, q6⟩
        · rw [p1] at q1; cases q1
        rw [p1] at q1; cases q1
        have hlen : (arr.toList.take (r'.n * e'.cells)).length = r'.n * e'.cells := by simp; omega
        refine fin_row (P := P) (Q := Q) hG h hd hop hu hi hz c1 c2 c3 hzs c5 (r := r') (y := y) hy hb (id := id) (cur' := ver + 1) (Nat.le_of_ble_eq_true d0) (.inr ⟨ver, _, ho, by omega⟩)
          (xs := arr.toList.take (r'.n * e'.cells)) hlen (fun j hj => ?_) (p := false) (.inr ⟨rfl, b, cap, arr, by rw [ho]; trivial, p1, q6, p2, p3, p4, q3, p5 _ _ _ q3, rfl⟩)
        obtain ⟨us, u1, u2, u3⟩ := q5 j hj
        have hjle : j * e'.cells + e'.cells ≤ r'.n * e'.cells := by rw [← Nat.succ_mul]; exact Nat.mul_le_mul_right _ hj
        have : chunk e'.cells j (arr.toList.take (r'.n * e'.cells)) = us := by
          apply List.ext_getElem?
          intro q
          unfold chunk
          rw [List.getElem?_take]
          split
          · rename_i hq
            rw [List.getElem?_drop, List.getElem?_take, if_pos (by omega), Array.getElem?_toList]
            rw [u3 q us[q] (List.getElem?_eq_getElem (by omega)), List.getElem?_eq_getElem (by omega)]
          · rw [List.getElem?_eq_none (by omega)]
        rw [this]; exact u1
  · cases he

theorem minMax_sound {o : Oper} {Q : Exit → Act → World → Prop} (h : SR P N G s a w ρ S F) (hd : o.dst.all (Nat.blt · N) = true) {x y : Operand} {least : Bool}
    {sx sy : Slot} (hx : RS P G.Y S w s.heap ρ sx (a.eval x)) (hy : RS P G.Y S w s.heap ρ sy (a.eval y))
    (hrun : ∀ k k' (m n : Int), a.eval x = .int k m → a.eval y = .int k' n → (execOp a.eval o).run P w = .ok (.value (.int k (match least with | true => if n < m then n else m | false => if n > m then n else m))) w)
    {e : Eff} (he : (minMaxD least sx sy).run id = some e) :
    o.wp P a w (SRL P N G o s e) Q := by
  unfold minMaxD at he
  split at he
  · rename_i k m k' n
    cases he
    exact fin_val h hd (hrun _ _ _ _ (RC_int hx) (RC_int hy)) (mk_int _ _)
  · cases he

theorem opT_sound (hΓ : Sound P Γ) (hE : EqSound P E.eq) (hKS : KeySound P E.key) (hG : G.Ok P) {o : Oper} {Q : Exit → Act → World → Prop} (h : SR P N G s a w ρ S F) (hd : o.dst.all (Nat.blt · N) = true)
    {base : Nat} {e : Eff} (he : (opT P E Γ G.lo base o s.env s.heap).run id = some e) :
    o.wp P a w (SRL P N G o s e) Q := by
  have hv := val_RS hΓ h
  unfold opT at he
  dsimp only at he
  split at he
  · rename_i x hop
    cases he
    exact fin_val h hd (by simp only [execOp, hop]; rfl) (hv x)
  · rename_i x hop
    cases he
    exact fin_val h hd (by simp only [execOp, hop]; rfl) (hv x)
  · rename_i c x y hop
    split at he
    case h_2 => cases he
    rename_i t hc
    have hcv := hv c
    rw [hc] at hcv
    have hcv := RC_bool hcv
    cases t with
    | true =>
      simp only [Br.run, retS, eff, cond_true, id] at he
      cases he
      exact fin_val h hd (v := a.eval x) (by simp [execOp, hop, hcv, asBool]) (hv x)
    | false =>
      simp only [Br.run, retS, eff, cond_false, id] at he
      cases he
      exact fin_val h hd (v := a.eval y) (by simp [execOp, hop, hcv, asBool]) (hv y)
  · rename_i t x hop
    split at he
    case h_2 => cases he
    rename_i cs hlo hcs hn
    cases he
    exact fin_box hG h hd hn (Nat.le_of_ble_eq_true hlo) (arr := (a.eval x).cells) (T := t) (slotCells_RL G.Y_one (hv x) hcs) (by simp [execOp, hop, Instr.box, newVar, newRow])
  · rename_i t hop
    split at he
    case h_2 => cases he
    rename_i cs hlo hcs hn
    cases he
    obtain ⟨i, z, hi, hz, hr⟩ := run_zero hcs
    exact fin_box hG h hd hn (Nat.le_of_ble_eq_true hlo) (arr := z.cells) (T := t) (hr G.Y_one) (by simp [execOp, hop, Instr.alloc, zeroValue, typeInfo, hi, hz, newVar, newRow])
  · rename_i t ps hop
    split at he
    case h_2 => cases he
    rename_i cs hcs
    cases he
    obtain ⟨arr, hrun, hr⟩ := build_run (P := P) (w := w) (S := S) (heap := s.heap) (ρ := ρ) G.Y_one (vs := ps.map fun (i, x) => (i, a.eval x)) (by simp) (parts_RS hΓ h ps) hcs
    exact fin_val h hd (v := .agg arr) (by simp only [execOp, hop, Sem.run_bind, hrun, Result.andThen_ok, Sem.run_pure]) ⟨arr.toList, by simp, hr⟩
  · rename_i t n ps hop
    split at he
    case h_2 => cases he
    rename_i hlo hno
    exact fin_buildSlice hΓ hG h hd hop (Nat.le_of_ble_eq_true hlo) hno he
  · rename_i t x hop
    have hxv := hv x
    unfold loadD at he
    have bx : ∀ (id off : Nat), PtrOk s.heap ρ id off (a.eval x) → (match s.heap id with | .box ds => viewAt P t ds off [id] | _ => bad).run _root_.id = some e → o.wp P a w (SRL P N G o s e) Q := by
      intro id off hxv he
      split at he
      case h_2 => cases he
      rename_i ds ho
      obtain ⟨b, arr, T, hb, hvx, hh, hr⟩ := box_obj h ho hxv
      exact fin_load h hd hop hvx hr (b0 := 0) (by simp) (fun j v hj => by rw [Nat.zero_add]; exact RL_block hh j v hj) he
    split at he
    · rename_i id off hx
      rw [hx] at hxv
      exact bx id off hxv he
    · rename_i id off hx
      rw [hx] at hxv
      exact bx id off hxv he
    · rename_i id ver i off hx
      rw [hx] at hxv
      split at he
      case h_2 => cases he
      rename_i cur T el sl ho
      split at he
      case h_2 => cases he
      rename_i hve
      cases Nat.eq_of_beq_eq_true hve
      obtain ⟨b, us, hvx, hr, hm⟩ := load_elt h hxv ho
      exact fin_load h hd hop hvx hr rfl hm he
    · rename_i el x' hx
      rw [hx] at hxv
      split at he
      case h_2 => cases he
      rename_i hf
      obtain ⟨b, off, us, hvx, u1, u2, u3⟩ := vals_R1 hxv
      have hvx : a.eval x = .pointer (some ⟨b, off, none⟩) := by simpa using hvx
      exact fin_load h hd hop hvx (toCells_RL hf u1) (b0 := off) (by simp) (fun j v hj => (u3 j v hj).2) he
    · cases he
  · rename_i t x y hop
    split at he
    case h_2 => cases he
    rename_i cs hcs
    have hxv := hv x
    unfold storeD at he
    split at he
    · rename_i id off hx
      rw [hx] at hxv
      split at he
      case h_2 => cases he
      rename_i ds n ho hn
      simp only [Br.run, eff, bad] at he
      cases hb : decide (cs.length = n ∧ off + cs.length ≤ ds.length) with
      | false => simp only [hb, cond_false] at he; cases he
      | true =>
        simp only [hb, cond_true, _root_.id] at he
        cases he
        obtain ⟨h1, h2⟩ := of_decide_eq_true hb
        exact store_sound hG h hd hop hxv (hv y) hcs ho hn h1 h2 (fun hr hc => hr.splice hc off)
    · rename_i id off hx
      rw [hx] at hxv
      split at he
      case h_2 => cases he
      rename_i ds n ho hn
      simp only [Br.run, eff, bad] at he
      cases hb : decide (cs.length = n ∧ off + cs.length ≤ ds.length) with
      | false => simp only [hb, cond_false] at he; cases he
      | true =>
        simp only [hb, cond_true, _root_.id] at he
        cases he
        obtain ⟨h1, h2⟩ := of_decide_eq_true hb
        exact store_sound hG h hd hop hxv (hv y) hcs ho hn h1 h2 (fun hr hc => hr.spliceU hc h2)
    · rename_i id ver i off hx
      rw [hx] at hxv
      split at he
      case h_2 => cases he
      rename_i cur T el sl n ho hn
      split at he
      case h_2 => cases he
      rename_i x' hx'
      simp only [Br.run, eff, bad] at he
      cases hb : (Nat.beq ver cur && decide (cs.length = n ∧ off + cs.length ≤ el.cells)) with
      | false => simp only [hb, cond_false] at he; cases he
      | true =>
        simp only [hb, cond_true, _root_.id] at he
        cases he
        simp only [Bool.and_eq_true] at hb
        cases Nat.eq_of_beq_eq_true hb.1
        obtain ⟨h1, h2⟩ := of_decide_eq_true hb.2
        exact storeElt_sound hG h hd hop hxv (hv y) hcs ho hn hx' h1 h2
    · cases he
  · rename_i t x f hop
    split at he
    case h_2 => cases he
    rename_i fs hu
    split at he
    case h_2 => cases he
    rename_i fd hf
    split at he
    case h_2 => cases he
    rename_i n hn
    exact fieldAddr_sound h hd hop hu hf hn (hv x) he
  · rename_i t x f hop
    split at he
    case h_2 => cases he
    rename_i fs hu
    split at he
    case h_2 => cases he
    rename_i fd ds hf hx
    have hxv := hv x
    rw [hx] at hxv
    exact field_sound h hd hop hu hf hxv he
  · rename_i t x i hop
    exact indexAddr_sound h hd hop (hv x) (hv i) he
  · rename_i t x i hop
    split at he
    case h_2 => cases he
    rename_i len el ds k n hu hx hi
    have hxv := hv x
    rw [hx] at hxv
    have hiv := hv i
    rw [hi] at hiv
    split at he
    case h_2 => cases he
    rename_i c hsz
    simp only [Br.run, bad] at he
    cases hb : decide ((show Int from n) < len ∧ 0 ≤ (show Int from n)) with
    | false => simp only [hb, cond_false] at he; cases he
    | true =>
      simp only [hb, cond_true] at he
      obtain ⟨b1, b2⟩ := of_decide_eq_true hb
      exact index_sound h hd hop hu hxv (RC_int hiv) hsz ⟨b2, b1⟩ he
  · rename_i t n hop
    split at he
    · rename_i τ x ht
      have htv := hv t
      rw [ht] at htv
      obtain ⟨us, hus, hr⟩ := htv
      cases hu : us[n]? with
      | some u =>
        split at he
        · cases he
          exact fin_val h hd (v := u) (by simp [execOp, hop, hus, Instr.extract, hu]) (nth_RS hr hu)
        · cases he
      | none =>
        have hnt := nth_len hr hu
        rw [hnt] at he
        cases he
    · rename_i b ht
      have htv := hv t
      rw [ht] at htv
      obtain ⟨u, hus⟩ := htv
      split at he
      · cases he
        exact fin_val h hd (v := u) (by simp [execOp, hop, hus, Instr.extract]) trivial
      · cases he
        exact fin_val h hd (v := .bool b) (by simp [execOp, hop, hus, Instr.extract]) (mk_bool _)
      · cases he
    · cases he
  · rename_i op t x y t' hop
    exact binOp_sound hE h hd hop (hv x) (hv y) he
  · rename_i op t x hop
    have hxv := hv x
    unfold unOpD at he
    split at he
    · rename_i k n hx
      rw [hx] at hxv
      cases he
      exact fin_val h hd (v := .int k (k.wrap (0 - n))) (by simp [execOp, hop, RC_int hxv, Op.unary, Op.intArith]) (mk_int _ _)
    · rename_i b hx
      rw [hx] at hxv
      cases he
      exact fin_val h hd (v := .bool (!b)) (by simp [execOp, hop, RC_bool hxv, Op.unary]) (mk_bool _)
    · cases he
  · rename_i src dst x hop
    split at he
    case h_2 => cases he
    rename_i d k k' n hs hu hx
    have hxv := hv x
    rw [hx] at hxv
    cases he
    refine fin_val h hd (v := .int k (k.wrap n)) ?_ (mk_int _ _)
    have hc : (convert src dst (.int k' n)).run P w = .ok (.int k (k.wrap n)) w := by
      unfold convert
      simp only [Sem.run_bind, run_underlying hs, run_underlying hu, Result.andThen_ok]
      cases d <;> simp [Conv.intToInt]
    simp only [execOp, hop, RC_int hxv, Sem.run_bind, hc, Result.andThen_ok, Sem.run_pure]
  · rename_i t l c hop
    split at he
    case h_2 => cases he
    rename_i hlo
    exact makeSlice_sound hG h hd hop (Nat.le_of_ble_eq_true hlo) (hv l) he
  · rename_i t r hop
    split at he
    case h_2 => cases he
    rename_i hlo
    exact makeMap_sound hG h hd hop (Nat.le_of_ble_eq_true hlo) he
  · rename_i t x l hi m hop
    split at he
    case h_2 => cases he
    exact slice_sound h hd hop (hv x) hv he
  · rename_i t x i ok hop
    exact lookup_sound hKS h hd hop (hv x) (hv i) he
  · rename_i t x i y hop
    exact mapUpdate_sound hKS hG h hd hop (hv x) (hv i) (hv y) he
  · rename_i t x hop
    split at he
    · cases he
    · rename_i dsc hni hu
      split at he
      case h_2 => cases he
      rename_i τ hτ
      split at he
      case h_2 => cases he
      rename_i d hd'
      cases he
      refine fin_val h hd (v := .iface t (a.eval x)) ?_ ⟨_, rfl, ofSlot_R (hv x) hd'⟩
      simp only [execOp, hop, Instr.makeInterface, Sem.run_bind, run_underlying hu, Result.andThen_ok]
      cases dsc <;> first | rfl | (exact absurd rfl (hni _))
    · cases he
  · rename_i x hop
    have hxv := hv x
    unfold nilCheckD at he
    split at he
    · rename_i el d hx
      rw [hx] at hxv
      cases he
      obtain ⟨b, off, us, hvx, _⟩ := vals_R1 hxv
      have hvx : a.eval x = .pointer (some ⟨b, off, none⟩) := by simpa using hvx
      exact fin_val h hd (v := .pointer (some ⟨b, off, none⟩)) (by simp [execOp, hop, hvx]) (hvx ▸ hxv)
    · rename_i a' r d hx
      rw [hx] at hxv
      cases he
      obtain ⟨f, first, caps, hvx, _⟩ := vals_R1 hxv
      have hvx : a.eval x = .func (.func f) first caps := by simpa using hvx
      exact fin_val h hd (v := .func (.func f) first caps) (by simp [execOp, hop, hvx]) (hvx ▸ hxv)
    · rename_i el d hx
      rw [hx] at hxv
      cases he
      obtain ⟨f, first, caps, hvx, _⟩ := vals_R1 hxv
      have hvx : a.eval x = .func (.func f) first caps := by simpa using hvx
      exact fin_val h hd (v := .func (.func f) first caps) (by simp [execOp, hop, hvx]) (hvx ▸ hxv)
    · rename_i id off hx
      rw [hx] at hxv
      cases he
      obtain ⟨_, ⟨ad, hvx⟩, _⟩ := hxv
      have hxv := hv x
      rw [hx] at hxv
      exact fin_val h hd (v := .pointer (some ad)) (by simp [execOp, hop, hvx]) (hvx ▸ hxv)
    · rename_i id off hx
      rw [hx] at hxv
      cases he
      obtain ⟨_, ⟨ad, hvx⟩, _⟩ := hxv
      have hxv := hv x
      rw [hx] at hxv
      exact fin_val h hd (v := .pointer (some ad)) (by simp [execOp, hop, hvx]) (hvx ▸ hxv)
    · rename_i id i off hx
      rw [hx] at hxv
      cases he
      obtain ⟨_, ⟨ad, hvx⟩, _⟩ := hxv
      have hxv := hv x
      rw [hx] at hxv
      exact fin_val h hd (v := .pointer (some ad)) (by simp [execOp, hop, hvx]) (hvx ▸ hxv)
    · rename_i f ids hx
      rw [hx] at hxv
      cases he
      obtain ⟨_, us, hvx, _⟩ := hxv
      have hxv := hv x
      rw [hx] at hxv
      exact fin_val h hd (v := .func (.func f) #[] us.toArray) (by simp [execOp, hop, hvx]) (hvx ▸ hxv)
    · cases he
  · rename_i x xt as ok hop
    have hxv := hv x
    unfold typeAssertD at he
    split at he
    · cases he
    · rename_i dsc z hni hu hz
      obtain ⟨ti, hti, hiz⟩ := Option.bind_eq_some_iff.1 hz
      split at he
      · rename_i T τ d hx
        rw [hx] at hxv
        obtain ⟨u, hvx, hr⟩ := hxv
        split at he
        · rename_i hT
          have hT := Nat.eq_of_beq_eq_true hT
          subst hT
          cases he
          refine fin_val h hd (v := .tuple #[u, .bool true]) ?_ ⟨[_, _], rfl, _, _, rfl, hr, _, _, rfl, rfl, rfl⟩
          simp only [execOp, hop, hvx, Instr.typeAssert, Sem.run_bind, run_underlying hu, Result.andThen_ok]
          cases dsc <;> first | (exact absurd rfl (hni _)) | simp
        · rename_i hT
          have hT : ¬ T = as := fun e => by rw [e, Nat.beq_refl] at hT; cases hT
          cases he
          refine fin_val h hd (v := .tuple #[z, .bool false]) ?_ ⟨_, rfl⟩
          simp only [execOp, hop, hvx, Instr.typeAssert, Sem.run_bind, run_underlying hu, Result.andThen_ok]
          cases dsc <;> first | (exact absurd rfl (hni _)) | simp [hT, zeroValue, typeInfo, hti, hiz]
      · rename_i hx
        rw [hx] at hxv
        have hvx : a.eval x = .nilIface := hxv
        cases he
        refine fin_val h hd (v := .tuple #[z, .bool false]) ?_ ⟨_, rfl⟩
        simp only [execOp, hop, hvx, Instr.typeAssert, Sem.run_bind, run_underlying hu, Result.andThen_ok]
        cases dsc <;> first | (exact absurd rfl (hni _)) | simp [zeroValue, typeInfo, hti, hiz]
      · cases he
    · cases he
  · rename_i c hop
    obtain ⟨callee, args, argTypes⟩ := c
    simp only at he
    split at he
    · -- len
      split at he
      case h_2 => cases he
      rename_i x ha
      split at he
      case h_2 => cases he
      rename_i t hT
      split at he
      case h_2 => cases he
      rename_i el hu
      obtain ⟨args⟩ := args
      obtain ⟨argTypes⟩ := argTypes
      simp only at ha hT
      subst ha hT
      have hxv := hv x
      have run : ∀ ad n c, a.eval x = .slice ad n c → (execOp a.eval o).run P w = .ok (.value (.int .i64 n)) w := fun ad n c hx => by
        simp only [execOp, hop, resolve, invoke, builtin, Sem.run_bind, Sem.run_pure, Result.andThen_ok, List.map_toArray, List.map_cons, List.map_nil, hx, len_run hu]
      unfold lenD at he
      split at he
      · rename_i hx
        rw [hx] at hxv
        cases he
        obtain ⟨a0, hxv⟩ := hxv
        exact fin_val h hd (run a0 0 0 hxv) (mk_int _ _)
      · rename_i id ver hx
        rw [hx] at hxv
        split at he
        case h_2 => cases he
        rename_i cur T el' sl ho
        split at he
        case h_2 => cases he
        rename_i hve
        cases he
        obtain ⟨_, _, h3⟩ := hxv
        rcases (h3 _ _ _ _ ho).2 (Nat.eq_of_beq_eq_true hve) with ⟨hn, a0, hvx⟩ | ⟨b, cap, _, hvx, _⟩
        · refine fin_val h hd (run _ _ _ hvx) ?_
          rw [hn]; exact mk_int _ _
        · exact fin_val h hd (run _ _ _ hvx) (mk_int _ _)
      · split at he
        case h_2 => cases he
        rename_i τ r hr
        cases he
        obtain ⟨ad, c, hx⟩ := R_sl_len (rowOf_R hxv hr)
        exact fin_val h hd (run _ _ _ hx) (mk_int _ _)
    · -- append
      split at he
      case h_2 => cases he
      rename_i sx x T T' ha hT
      split at he
      case h_2 => cases he
      rename_i hTT
      simp only [Bool.and_eq_true] at hTT
      have hlo := Nat.le_of_ble_eq_true hTT.1.1
      have hTT := Nat.eq_of_beq_eq_true hTT.1.2
      subst hTT
      obtain ⟨args⟩ := args
      obtain ⟨argTypes⟩ := argTypes
      simp only at ha hT
      subst ha hT
      exact append_sound hG h hd hop hlo (hv sx) (hv x) he
    · split at he
      case h_2 => cases he
      rename_i x y ha
      obtain ⟨args⟩ := args
      simp only at ha
      subst ha
      exact minMax_sound (least := true) h hd (hv x) (hv y) (fun k k' m n hx hy => by
        simp [execOp, hop, resolve, invoke, builtin, hx, hy, Builtin.min_, Builtin.min2]) he
    · split at he
      case h_2 => cases he
      rename_i x y ha
      obtain ⟨args⟩ := args
      simp only at ha
      subst ha
      exact minMax_sound (least := false) h hd (hv x) (hv y) (fun k k' m n hx hy => by
        simp [execOp, hop, resolve, invoke, builtin, hx, hy, Builtin.max_, Builtin.max2]) he
    · rename_i x
      unfold callValD at he
      split at he
      · rename_i f
        split at he
        case h_3 => cases he
        case h_2 =>
          rename_i wr n τa T el R hf
          obtain ⟨hcl, hho⟩ := hΓ f _ hf
          split at he
          case h_2 => cases he
          rename_i hlo
          have hlo := Nat.le_of_ble_eq_true hlo
          unfold rowCallD at he
          split at he
          case h_2 => cases he
          rename_i y h1 h2 h3
          simp only [Br.run, eff, bad] at he
          cases hs : (R y).isSome with
          | false => simp only [hs, cond_false] at he; cases he
          | true =>
            simp only [hs, cond_true, id] at he
            cases he
            have happ : chainD wr n τa T el R (args.toList.map (val Γ s.env)) s.heap s.tr (base + o.dst.getD 0) = .br true (.leaf (.ok ⟨some (freshS wr (base + o.dst.getD 0) el ((R y).getD ⟨0, fun _ => el.dflt⟩)), [(base + o.dst.getD 0, freshO wr T el ((R y).getD ⟨0, fun _ => el.dflt⟩))], [base + o.dst.getD 0], false, none⟩)) (.leaf .bad) := by
              unfold chainD
              simp only [h1, h2, h3, hs]
            have hcalls := hho N G s a w ρ S F hG h (args.toList.map (val Γ s.env)) (args.toList.map a.eval) (base + o.dst.getD 0) (by simp) (args_RS hΓ h args.toList) hlo (by rw [happ]; intro r hr; rw [show r = _ from hr]; simp)
            have hrun := resolve_func (P := P) a.eval ⟨.value (.func f), args, argTypes⟩ o.type (x := .func f) rfl (f := f) (first := #[]) (caps := #[]) rfl hcl w
            unfold Oper.wp
            have hex : (execOp a.eval o) = (do let d ← resolve a.eval ⟨.value (.func f), args, argTypes⟩ o.type; invoke d.target d.args : Sem Next) := by simp only [execOp, hop]
            rw [hex, hrun]
            rw [show (#[] ++ (⟨.value (.func f), args, argTypes⟩ : Call).args.map a.eval ++ #[]) = (args.toList.map a.eval).toArray by apply Array.ext'; simp]
            refine hcalls.mono ?_
            rintro en w1 ⟨rr, hr1, hr2⟩
            rw [happ] at hr1
            have hr1 : rr = _ := hr1
            subst hr1
            obtain ⟨v, ρ', S', F', rfl, q1, q2⟩ := hr2
            exact ⟨rfl, ρ', S', F', (q1.put hd q2).of_eq rfl rfl rfl rfl⟩
        rename_i c' hf
        obtain ⟨hcl, hho⟩ := hΓ f _ hf
        unfold callD at he
        split at he
        case h_2 => cases he
        rename_i x hx
        simp only [okIf, Br.run, eff, bad] at he
        cases hp : c'.pre x with
        | false => simp only [hp, cond_false] at he; cases he
        | true =>
          simp only [hp, cond_true, id] at he
          cases he
          have hargs := ofSlots_R (us := args.toList.map a.eval) (by simp) (args_RS hΓ h args.toList) hx
          refine fin_call hG h hd hop (c := ⟨.value (.func f), args, argTypes⟩) rfl (f := f) (first := #[]) (caps := #[]) rfl hcl (y := c'.fn x) ?_
          have := hho S w h.bd x _ hp hargs
          rw [show (args.map a.eval) = (args.toList.map a.eval).toArray by apply Array.ext'; simp]
          simpa using this
      · split at he
        case h_2 => cases he
        rename_i hnf _ at' rt F hx
        have hxv := hv x
        rw [hx] at hxv
        obtain ⟨f, first, caps, hfv, hcl, hF⟩ := vals_R1 hxv
        unfold fnD at he
        split at he
        case h_2 => cases he
        rename_i y hy
        simp only [okIf, Br.run, eff, bad] at he
        cases hp : (F y).1 with
        | false => simp only [hp, cond_false] at he; cases he
        | true =>
          simp only [hp, cond_true, id] at he
          cases he
          have hargs := ofSlots_R (us := args.toList.map a.eval) (by simp) (args_RS hΓ h args.toList) hy
          refine fin_call hG h hd hop (c := ⟨.value x, args, argTypes⟩) rfl (by simpa using hfv) hcl (y := (F y).2) ?_
          have := hF S w (Ext0.refl h.bd) y _ hp hargs
          rw [show (args.map a.eval) = (args.toList.map a.eval).toArray by apply Array.ext'; simp]
          exact this
    · cases he
  · rename_i fn first caps hop
    split at he
    case h_2 => cases he
    exact makeFunc_sound hΓ h hd hop he
  · cases he

end Go.Dm

/- Operations that look further; one operation inside a fence. -/
namespace Go.Dm
open Go.RowKit
variable {P : Program} {N : Nat} {G : Gh} {S S' : CS} {w w' : World} {s : St} {a : Act} {ρ ρ' : Rho} {F F' : Nat → Prop} {heap heap' : Nat → DObj} {Y : Value} {E : TCtx} {Γ : Ctx} {Fw : Fence} {r : Nat} {ops : Array Oper}

theorem opIn_of_op (hF : Wide Fw) {o : Oper} (hd : ∀ c, o.op ≠ .defer c) {K : Act → World → Prop} {Q : Exit → Act → World → Prop} (h : o.wp P a w K Q) : o.wpIn Fw r P a w K Q := by
  refine ⟨fun f _ => hF.fn f, ?_⟩
  rw [Oper.semAt_eq _ _ _ hd]
  unfold Oper.wp at h
  generalize (execOp a.eval o).run P w = res at h
  cases res with
  | ok nx w' =>
    cases nx <;> first
      | exact h
      | exact ⟨hF.noDepth, hF.calls h⟩
      | exact h.elim
      | exact ⟨hF.noDepth, fun c cs _ => let ⟨v, w', q, s⟩ := h c cs; ⟨v, w', q, hF.steps s⟩⟩
      | skip
  | halt k w' => cases k <;> exact h

theorem opT_noDefer {lo base : Nat} {o : Oper} {env : Nat → Slot} {heap : Nat → DObj} {e : Eff} (h : (opT P E Γ lo base o env heap).run id = some e) : ∀ c, o.op ≠ .defer c := fun c hc => by
  unfold opT at h
  rw [hc] at h
  cases h

theorem list_append {α : Type} (x : Sl α) (y : α) : (catSl x ⟨1, fun _ => y⟩).list = x.list ++ [y] := by
  unfold Sl.list catSl
  simp only [List.range_succ, List.map_append, List.map_cons, List.map_nil]
  congr 1
  · apply List.map_congr_left
    intro i hi
    have : Nat.blt i x.n = true := by rw [Nat.blt_eq]; simpa using hi
    simp [this]
  · have : Nat.blt x.n x.n = false := by rw [← Bool.not_eq_true, Nat.blt_eq]; omega
    simp [this]

theorem SR.fw (h : SR P N G s a w ρ S F) : FW G F w := ⟨h.ext.kps, h.same, h.fb, h.f0, h.sub⟩

/-- A round has gone by. -/
theorem SR.round (h : SR P N G s a w ρ S F) (hg : Grew F w F' w') (hs : Same (fun b => b < w.heap.size ∧ ¬ F b) w w') (hk : Kps S w w') {t : Tr} (ht : TrOk G t F' S w') :
    SR P N G { s with tr := t } a w' ρ S F' := by
  have ex : Ext0 S w S w' := ⟨hs.size, fun _ _ x => x, hk.cell, hk.maps, fun b o x => Nat.lt_of_lt_of_le (h.bd b o x) hs.size, hk.pl⟩
  have hblk : ∀ id b, live (s.heap id) → ρ id = some b → w'.heap[b]? = w.heap[b]? := fun id b hl hb => hs.block b ⟨(h.blk_lt hl hb).1, (h.blk_lt hl hb).2.1.2⟩
  have hnf : ∀ b, b < w.heap.size → F' b → F b := fun b hb hf => (hg.new b hf).elim (fun x => x) (fun x => absurd hb (by omega))
  have hkp : ∀ id, Kept w w' ρ ρ id (s.heap id) (s.heap id) := fun id => .refl rfl fun b hb hl => hblk id b hl hb
  refine ⟨h.size, h.dfr.tr hkp (fun D hF hD => ⟨(hs.block D ⟨(Array.getElem?_eq_some_iff.1 hD).1, hF⟩).trans hD, fun q => hF (hnf D (Array.getElem?_eq_some_iff.1 hD).1 q)⟩), fun t => (h.env t).tr ex hkp,
    fun id => (h.obj id).tr ex hkp rfl fun b hb hl => ⟨hblk id b hl hb, fun i q => q, hnf b (h.blk_lt hl hb).1⟩, h.inj, h.ext.trans ex, h.new, h.same.trans (hs.mono fun b hb => ⟨Nat.lt_of_lt_of_le hb.1 h.ext.size, fun q => hb.2.2 (h.f0 b hb.1 q)⟩), ht,
    hg.bd, fun b hb hf => h.f0 b hb (hnf b (Nat.lt_of_lt_of_le hb h.ext.size) hf), fun b hb => hg.sub b (h.sub b hb), fun b o hS hf => h.fs b o hS (hnf b (h.bd b o hS) hf), h.pins⟩

theorem FW.round (h : FW G F w) (hsz : G.w0.heap.size ≤ w.heap.size) (hkS : Kps G.S0 w w') (hg : Grew F w F' w') (hs : Same (fun b => b < w.heap.size ∧ ¬ F b) w w') : FW G F' w' :=
  ⟨h.kps.trans hkS, h.same.trans (hs.mono fun b hb => ⟨Nat.lt_of_lt_of_le hb.1 hsz, fun q => hb.2.2 (h.f0 b hb.1 q)⟩), hg.bd,
   fun b hb hf => h.f0 b hb ((hg.new b hf).elim (fun x => x) (fun x => absurd hb (by omega))), fun b hb => hg.sub b (h.sub b hb)⟩

theorem ofSlots_args (hΓ : Sound P Γ) (h : SR P N G s a w ρ S F) (args : Array Operand) {τ : Ty} {x : τ.den} (hx : ofSlots τ (args.toList.map (val Γ s.env)) = some x) : R P τ S w x (args.map a.eval).toList := by
  have := ofSlots_R (P := P) (Y := G.Y) (heap := s.heap) (ρ := ρ) (us := args.toList.map a.eval) (by simp) (args_RS hΓ h args.toList) hx
  simpa using this

/-- What holds behind a panic. -/
def PanE (P : Program) (N : Nat) (G : Gh) (s : St) (a : Act) (d : DC) (e : Eff) (w' : World) (ch : List PanicEntry) : Prop := PanP P N G (s.eff none e) a w' d ch

theorem opX_sound (hFw : Wide Fw) (hΓ : Sound P Γ) (hG : G.Ok P) (h : SR P N G s a w ρ S F) {o : Oper} (hd : o.dst.all (Nat.blt · N) = true) {base : Nat} {t : Tree OR} (ht : opX P Γ G.lo base o s.env s.heap s.tr = some t)
    (hnb : ∀ r, t.Has r → r ≠ .bad) (hyg : ∀ e, t.Has (.pan .yld e) → YG G (s.eff none e)) {K : Act → World → Prop} {Q : Exit → Act → World → Prop} (hK : ∀ a' w' e, t.Has (.ok e) → SRE P N G o s e a' w' → K a' w')
    (hQ : ∀ w' d e ch, t.Has (.pan d e) → PanE P N G s a d e w' ch → Q (.panic ch) a w') : o.wpIn Fw r P a w K Q := by
  have hv := val_RS hΓ h
  unfold opX at ht
  split at ht
  · rename_i c hop
    have hnd : ∀ c, o.op ≠ .defer c := fun c e => by rw [hop] at e; cases e
    split at ht
    case h_2 => cases ht
    rename_i x hcal
    split at ht
    case h_2 => cases ht
    rename_i hlo
    have hlo := Nat.le_of_ble_eq_true hlo
    -- calls of functions
    have gen : ∀ (f : FuncId) (app : List Slot → (Nat → DObj) → Tr → Nat → Tree OR) (first caps : Array Value) (args : List Slot) (us : List Value), Γ f = some (.gen app) → a.eval x = .func (.func f) first caps →
        (first ++ c.args.map a.eval ++ caps) = us.toArray → args.length = us.length → (∀ (j : Nat) (d : Slot) (u : Value), args[j]? = some d → us[j]? = some u → RS P G.Y S w s.heap ρ d u) → t = app args s.heap s.tr (base + o.dst.getD 0) → o.wpIn Fw r P a w K Q := by
      intro f app first caps args us hf hx hus hl hargs htt
      obtain ⟨hcl, hho⟩ := hΓ f _ hf
      have hcalls := hho N G s a w ρ S F hG h args us (base + o.dst.getD 0) hl hargs hlo (by rw [← htt]; exact hnb)
      refine opIn_of_op hFw hnd ?_
      have hrun := resolve_func (P := P) a.eval c o.type hcal hx hcl w
      unfold Oper.wp
      have : (execOp a.eval o) = (do let d ← resolve a.eval c o.type; invoke d.target d.args : Sem Next) := by simp only [execOp, hop]
      rw [this, hrun, hus]
      refine hcalls.mono ?_
      rintro e w1 ⟨rr, hr1, hr2⟩
      rw [← htt] at hr1
      cases rr with
      | bad => exact hr2.elim
      | ok e' =>
        obtain ⟨v, ρ', S', F', rfl, q1, q2⟩ := hr2
        refine hK _ _ e' hr1 ⟨ρ', S', F', (q1.put hd q2).of_eq rfl rfl rfl rfl⟩
      | pan d e' =>
        obtain ⟨ch, rfl, hp⟩ := hr2
        exact hQ _ d e' ch hr1 hp
    unfold callGenD at ht
    split at ht
    · rename_i f
      split at ht
      case h_2 => cases ht
      rename_i app hf
      cases ht
      refine gen f app #[] #[] _ (c.args.toList.map a.eval) hf rfl (by apply Array.ext'; simp) (by simp) (args_RS hΓ h c.args.toList) rfl
    · rename_i hnf
      split at ht
      · rename_i f ids hx
        split at ht
        case h_2 => cases ht
        rename_i app hf
        cases ht
        have hxv := hv x
        rw [hx] at hxv
        obtain ⟨_, us, hxv, hus⟩ := hxv
        refine gen f app #[] us.toArray _ (c.args.toList.map a.eval ++ us) hf hxv (by apply Array.ext'; simp) ?_ ?_ rfl
        · have : ∀ {ids : List Nat} {us : List Value}, PtrsOk s.heap ρ ids us → ids.length = us.length := by
            intro ids
            induction ids with
            | nil => intro us hp; cases us <;> first | rfl | exact hp.elim
            | cons i ids ih => intro us hp; cases us <;> first | exact hp.elim | simp [ih hp.2]
          simp [this hus]
        · intro j d u h1 h2
          by_cases hj : j < c.args.toList.length
          · rw [List.getElem?_append_left (by simpa using hj)] at h1 h2
            exact args_RS hΓ h c.args.toList j d u h1 h2
          · rw [List.getElem?_append_right (by simpa using hj)] at h1 h2
            simp only [List.length_map] at h1 h2
            have : ∀ {ids : List Nat} {us : List Value} {j : Nat} {d : Slot} {u : Value}, PtrsOk s.heap ρ ids us → (ids.map fun i => Slot.v (.ptr i 0))[j]? = some d → us[j]? = some u → RS P G.Y S w s.heap ρ d u := by
              intro ids
              induction ids with
              | nil => intro us j d u hp h1; simp at h1
              | cons i ids ih =>
                intro us j d u hp h1 h2
                cases us with
                | nil => exact hp.elim
                | cons v us =>
                  cases j with
                  | zero => simp at h1 h2; subst h1 h2; exact hp.1
                  | succ j => exact ih hp.2 (by simpa using h1) (by simpa using h2)
            exact this hus h1 h2
      · rename_i hx
        cases ht
        have hxv := hv x
        rw [hx] at hxv
        have hxv : a.eval x = .func (.yield G.l) #[] #[] := hxv
        obtain ⟨lv, xs, htr, hcj⟩ := h.tr
        have hlv : lv = true := by
          cases lv with
          | true => rfl
          | false => exact absurd rfl (hnb .bad (by unfold yieldD; rw [htr]; rfl))
        subst hlv
        cases hargs : ofSlots G.e (c.args.toList.map (val Γ s.env)) with
        | none => exact absurd rfl (hnb .bad (by unfold yieldD; rw [htr]; simp only [hargs]; rfl))
        | some y =>
          have hY : yieldD s.tr (c.args.toList.map (val Γ s.env)) = .any
              (okT (.v (.pc .bool true)) (some ⟨G.e, true, catSl xs ⟨1, fun _ => y⟩⟩))
              (.any (okT (.v (.pc .bool false)) (some ⟨G.e, false, catSl xs ⟨1, fun _ => y⟩⟩))
                (.leaf (.pan .yld ⟨none, [], [], false, some ⟨G.e, false, catSl xs ⟨1, fun _ => y⟩⟩⟩))) := by
            unfold yieldD; rw [htr]; simp only [hargs]
          rw [hY] at hK hQ hyg
          have hpre : xs.list ++ [y] <+: G.items := by rw [← list_append]; exact hyg _ (.inr (.inr rfl)) _ rfl
          obtain ⟨fn, tmps, assign, body, hyr, hR⟩ := hG.y xs.list F S w y _ hpre hcj h.fb h.bd h.fs (ofSlots_args hΓ h c.args hargs)
          refine ⟨fun f _ => hFw.fn f, ?_⟩
          rw [Oper.semAt_eq _ _ _ hnd]
          have hrun : (execOp a.eval o).run P w = .ok (.round G.l fn tmps assign body) w := by
            simp only [execOp, hop, resolve, hcal, hxv, Deferred.ofValue, Sem.run_bind, Sem.run_pure, Result.andThen_ok, invoke]
            have e1 : (#[] : Array Value) ++ c.args.map a.eval = (c.args.map a.eval).toList.toArray := by apply Array.ext'; simp
            rw [e1]; exact hyr
          rw [hrun, Oper.uponIn_round]
          refine ⟨hFw.noDepth, (Wide.wide.round hFw hR Wide.wide).mono ?_⟩
          rintro e w1 ⟨F', hg, hs, hk, hcase⟩
          have hkS : Kps G.S0 w w1 := hk.mono h.ext.sub
          rcases hcase with ⟨rfl, hJ⟩ | ⟨rfl, hJ⟩ | ⟨ch, rfl, hJ⟩
          · refine hK _ _ _ (.inl rfl) ⟨ρ, S, F', ((h.round hg hs hk (t := ⟨G.e, true, catSl xs ⟨1, fun _ => y⟩⟩) ⟨true, _, rfl, by rw [list_append]; exact hJ⟩).put hd (mk_bool true)).of_eq rfl rfl rfl rfl⟩
          · refine hK _ _ _ (.inr (.inl rfl)) ⟨ρ, S, F', ((h.round hg hs hk (t := ⟨G.e, false, catSl xs ⟨1, fun _ => y⟩⟩) ⟨false, _, rfl, xs.list ++ [y], by rw [list_append]; exact List.prefix_refl _, hJ⟩).put hd (mk_bool false)).of_eq rfl rfl rfl rfl⟩
          · refine hQ _ _ _ ch (.inr (.inr rfl)) ⟨F', S, catSl xs ⟨1, fun _ => y⟩, xs.list ++ [y], rfl, by rw [list_append]; exact List.prefix_refl _, hJ, h.fw.round h.ext.size hkS hg hs, fun q => by have hd := h.dfr; have q : s.dfr = [] := q; rw [q] at hd; cases hdd : a.defers with
            | nil => rfl
            | cons d ds => rw [hdd] at hd; exact hd.elim⟩
      · cases ht
  · rename_i x hop
    have hnd : ∀ c, o.op ≠ .defer c := fun c e => by rw [hop] at e; cases e
    split at ht
    case h_2 => cases ht
    rename_i T τ d hx
    cases ht
    have hxv := hv x
    rw [hx] at hxv
    obtain ⟨u, hxv, hr⟩ := hxv
    refine opIn_of_op hFw hnd ?_
    unfold Oper.wp
    have : (execOp a.eval o).run P w = .halt (.panic (.iface T u)) w := by simp [execOp, hop, hxv, Instr.panic, goPanic]
    rw [this, Oper.upon_panic]
    exact hQ _ _ _ _ rfl ⟨_, ρ, S, F, rfl, h.of_eq rfl rfl rfl rfl, u, rfl, hr⟩
  · rename_i op tt x y yt hop
    have hnd : ∀ c, o.op ≠ .defer c := fun c e => by rw [hop] at e; cases e
    have hyn : isNilSlice y = true → a.eval y = .slice none 0 0 := fun hn => by
      unfold isNilSlice at hn
      split at hn
      · rfl
      · cases hn
    have main : ∀ (want : Bool) (el : TypeId), isNilSlice y = true → P.underlying tt = some (.slice el) → t = nilCmp want (val Γ s.env x) → (∀ (ad : Option Addr) (n c : Nat), a.eval x = .slice ad n c → (execOp a.eval o).run P w = .ok (.value (.bool (if want then ad.isNone else !ad.isNone))) w) → o.wpIn Fw r P a w K Q := by
      intro want el hn hu htt hrun
      have fin : ∀ (ad : Option Addr) (n c : Nat) (b : Bool), a.eval x = .slice ad n c → (if want then ad.isNone else !ad.isNone) = b → t.Has (.ok ⟨some (.v (.pc .bool b)), [], [], false, none⟩) → o.wpIn Fw r P a w K Q := by
        intro ad n c b hx hb hh
        refine opIn_of_op hFw hnd (Oper.wp_mono (K := SRE P N G o s ⟨some (.v (.pc .bool b)), [], [], false, none⟩) (fun a' w' q => hK a' w' _ hh q) ?_)
        unfold Oper.wp
        rw [hrun ad n c hx, hb]
        exact ⟨ρ, S, F, (h.put hd (mk_bool b)).of_eq rfl rfl rfl rfl⟩
      have hxv := hv x
      subst htt
      unfold nilCmp at hnb
      split at hnb
      · rename_i hx
        rw [hx] at hxv
        obtain ⟨a0, hxv⟩ := hxv
        cases hb : (if want then a0.isNone else !a0.isNone) with
        | true => exact fin a0 0 0 true hxv hb (by unfold nilCmp; rw [hx]; cases want <;> simp [Tree.Has, okT])
        | false => exact fin a0 0 0 false hxv hb (by unfold nilCmp; rw [hx]; cases want <;> simp [Tree.Has, okT])
      · rename_i hx
        split at hnb
        · rename_i el' sl hrow
          have hT : nilCmp want (val Γ s.env x) = .br (Nat.blt 0 sl.n) (okT (.v (.pc .bool (!want))) none) (.any (okT (.v (.pc .bool want)) none) (okT (.v (.pc .bool (!want))) none)) := by
            unfold nilCmp
            split
            · rename_i hq; exact absurd hq (hx)
            · rw [hrow]
          rcases rowOf_R hxv hrow with ⟨h0, ad, cap, hv1⟩ | ⟨b, off, cap, hv1, _⟩
          · have hv1 : a.eval x = .slice ad 0 cap := by simpa using hv1
            have hz : Nat.blt 0 sl.n = false := by rw [h0]; rfl
            cases hb : (if want then ad.isNone else !ad.isNone) with
            | true => exact fin ad 0 cap true hv1 hb (by rw [hT, hz]; cases want <;> simp [Tree.Has, okT])
            | false => exact fin ad 0 cap false hv1 hb (by rw [hT, hz]; cases want <;> simp [Tree.Has, okT])
          · have hv1 : a.eval x = .slice (some ⟨b, off, none⟩) sl.n cap := by simpa using hv1
            refine fin _ _ _ (!want) hv1 (by cases want <;> rfl) ?_
            rw [hT]
            cases Nat.blt 0 sl.n <;> simp [Tree.Has, okT]
        · exact absurd rfl (hnb .bad rfl)
    split at ht
    · rename_i _ el hn hu
      cases ht
      refine main true el hn hu rfl fun ad n c hx => ?_
      have hy := hyn hn
      have hg : eqGuard .eql tt x y (.slice ad n c) (.slice none 0 0) = pure () := rfl
      simp only [execOp, hop, hx, hy, hg, Sem.run_bind, Sem.run_pure, Result.andThen_ok, binOp, run_equal_slice_nil w tt el ad n c hu]
      rfl
    · rename_i _ el hn hu
      cases ht
      refine main false el hn hu rfl fun ad n c hx => ?_
      have hy := hyn hn
      have hg : eqGuard .neq tt x y (.slice ad n c) (.slice none 0 0) = pure () := rfl
      simp only [execOp, hop, hx, hy, hg, Sem.run_bind, Sem.run_pure, Result.andThen_ok, binOp, run_equal_slice_nil w tt el ad n c hu]
      rfl
    · cases ht
  · cases ht

end Go.Dm

/- Regions that do not draw their order. -/
namespace Go.Dm
open Go.RowKit
variable {P : Program} {N : Nat} {G : Gh} {S S' : CS} {w w' : World} {s : St} {a : Act} {ρ ρ' : Rho} {F F' : Nat → Prop} {heap heap' : Nat → DObj} {Y : Value} {E : TCtx} {Γ : Ctx} {Fw : Fence} {r : Nat} {ops : Array Oper}

def SX (P : Program) (N : Nat) (G : Gh) (s : St) (a : Act) (w : World) : Prop := ∃ ρ S F, SR P N G s a w ρ S F

theorem SX.of_eq {s' : St} (h : SX P N G s a w) (he : s'.env = s.env) (hh : s'.heap = s.heap) (ht : s'.tr = s.tr) (hd : s'.dfr = s.dfr) : SX P N G s' a w := by
  obtain ⟨ρ, S, F, h⟩ := h; exact ⟨ρ, S, F, h.of_eq he hh ht hd⟩

theorem setEnv_self (env : Nat → Slot) (t : Nat) (sl : Slot) (h : env t = sl) : setEnv env t sl = env := by
  funext u
  unfold setEnv
  by_cases hu : u = t
  · subst hu; simp [h]
  · simp [beq_ne hu]

/-- What is presupposed throughout. -/
structure Env (P : Program) (E : TCtx) (Γ : Ctx) (G : Gh) (Fw : Fence) : Prop where
  mixed : P.follows .mixedOrders = true
  fns : Sound P Γ
  eq : EqSound P E.eq
  key : KeySound P E.key
  gh : G.Ok P
  wide : Wide Fw
  dfr : E.dfr = true → Fw.round = none

theorem br_has {β : Type} {T : β → Prop} {K : Option Eff → β} {b : Br} (h : T (b.run K)) : T (K (b.run id)) := (Br.run_eq K b) ▸ h

theorem oneS_sound (hE : Env P E Γ G Fw) {β : Type} {T : β → Prop} {ch : β → β → β} (hch : ∀ a b, T (ch a b) → T a ∧ T b) {K : Stp → β} (hbad : ¬ T (K .bad) ∧ ∀ s', T (K (.pan .yld s')) → YG G s') {o : Oper} (hd : o.dst.all (Nat.blt · N) = true) (h : SX P N G s a w)
    (hT : T (oneS P E Γ G.lo ch o s K)) {Q : Exit → Act → World → Prop} (hQ : ∀ d s' ch w', T (K (.pan d s')) → PanP P N G s' a w' d ch → Q (.panic ch) a w') :
    o.wpIn Fw r P a w (fun a' w' => ∃ s', SX P N G s' a' w' ∧ T (K (.ok s'))) Q := by
  obtain ⟨ρ, S, F, h⟩ := h
  unfold oneS at hT
  split at hT
  · rename_i c hop
    split at hT
    · rename_i d hdf hdd
      refine ⟨fun f _ => hE.wide.fn f, ?_⟩
      rw [hE.dfr hdf, Oper.semAt_none]
      unfold deferD at hdd
      split at hdd
      case h_2 => cases hdd
      rename_i t hcal hargs
      split at hdd
      case h_2 => cases hdd
      rename_i f ids ht
      split at hdd
      case h_2 => cases hdd
      cases hdd
      have hargs : c.args = #[] := by simpa using hargs
      have hv := h.env t
      rw [ht] at hv
      obtain ⟨_, us, hv, hus⟩ := hv
      have hv : a.eval (.tmp t) = .func (.func f) #[] us.toArray := hv
      have hrun : (execOp a.eval o).run P w = .ok (.defer { target := .fn (.func f) us.toArray, args := #[] }) w := by
        simp [execOp, hop, resolve, hcal, hv, hargs, Deferred.ofValue]
      rw [hrun, Oper.uponIn_defer]
      have h2 : SR P N G { s with dfr := .clo f ids :: s.dfr } { a with defers := { target := .fn (.func f) us.toArray, args := #[] } :: a.defers } w ρ S F :=
        ⟨h.size, ⟨⟨us, rfl, hus⟩, h.dfr⟩, h.env, h.obj, h.inj, h.ext, h.new, h.same, h.tr, h.fb, h.f0, h.sub, h.fs, h.pins⟩
      exact ⟨_, ⟨ρ, S, F, (h2.put_skip hd).of_eq rfl rfl rfl rfl⟩, hT⟩
    · exact absurd hT hbad.1
  · split at hT
    · rename_i t ht
      have hall := Tree.run_has hch hT
      refine opX_sound hE.wide hE.fns hE.gh h hd ht (fun r hr e => ?_) (fun e hr => hbad.2 _ (hall _ hr)) (fun a' w' e hr he => ?_) (fun w' d e ch hr he => ?_)
      · subst e; exact hbad.1 (hall _ hr)
      · obtain ⟨ρ', S', F', q⟩ := he
        exact ⟨_, ⟨ρ', S', F', q⟩, hall _ hr⟩
      · exact hQ d _ ch w' (hall _ hr) he
    · have hT := br_has hT
      cases he : (opT P E Γ G.lo s.base o s.env s.heap).run id with
      | none => rw [he] at hT; exact absurd hT hbad.1
      | some e =>
        rw [he] at hT
        refine opIn_of_op hE.wide (opT_noDefer he) (Oper.wp_mono (fun a' w' q => ?_) (opT_sound hE.fns hE.eq hE.key hE.gh h hd he))
        obtain ⟨_, ρ', S', F', q⟩ := q
        exact ⟨_, ⟨ρ', S', F', q⟩, hT⟩

/-- A guard that is known. -/
theorem guard_wanted (h : SX P N G s a w) {o : Oper} {j : Nat} {want : Bool} (hg : o.guard = some (j, want)) {t : Nat} (ht : (ops[j]?).bind (·.dst) = some t) {b : Bool} (hb : s.env t = .v (.pc .bool b)) :
    Region.wanted o (yielded ops a.tmps) = (b == want) := by
  obtain ⟨ρ, S, F, h⟩ := h
  unfold Region.wanted
  simp only [hg]
  have := h.env t
  rw [hb] at this
  have hv := RC_bool this
  have hty : a.tmps[t]? = some (.bool b) := by
    rw [Array.getD_eq_getD_getElem?] at hv
    cases hq : a.tmps[t]? with
    | none => rw [hq] at hv; cases hv
    | some v => rw [hq] at hv; simpa using hv
  have : yielded ops a.tmps j = some b := by simp [yielded, ht, hty]
  rw [this]
  rfl

/-- A guard that was not carried out. -/
theorem guard_unwanted (h : SX P N G s a w) {o : Oper} {j : Nat} {want : Bool} (hg : o.guard = some (j, want)) {t : Nat} (ht : (ops[j]?).bind (·.dst) = some t) (hb : s.env t = .un) :
    Region.wanted o (yielded ops a.tmps) = false := by
  obtain ⟨ρ, S, F, h⟩ := h
  unfold Region.wanted
  simp only [hg]
  have := h.env t
  rw [hb] at this
  have hv : a.tmps.getD t undef = undef := this
  have : yielded ops a.tmps j = none := by
    simp only [yielded, ht, Option.bind_some]
    rw [Array.getD_eq_getD_getElem?] at hv
    cases hq : a.tmps[t]? with
    | none => rfl
    | some v => rw [hq] at hv; rw [show v = undef from hv]; rfl
  rw [this]
  rfl

theorem stepS_sound (hE : Env P E Γ G Fw) {β : Type} {T : β → Prop} {ch : β → β → β} (hch : ∀ a b, T (ch a b) → T a ∧ T b) {K : Stp → β} (hbad : ¬ T (K .bad) ∧ ∀ s', T (K (.pan .yld s')) → YG G s') {i : Nat} {o : Oper} (ho : ops[i]? = some o) (h : SX P N G s a w)
    (hT : T (stepS P E Γ G.lo N ch ops o s K)) {Q : Exit → Act → World → Prop} (hQ : ∀ d s' ch w', T (K (.pan d s')) → PanP P N G s' a w' d ch → Q (.panic ch) a w') :
    wpOpIn Fw r P ops Q i (fun a' w' => ∃ s', SX P N G s' a' w' ∧ T (K (.ok s'))) a w := by
  unfold stepS at hT
  unfold wpOpIn
  simp only [ho]
  split at hT
  · exact absurd hT hbad.1
  · rename_i hd
    split at hT
    · rename_i hg
      have hw : Region.wanted o (yielded ops a.tmps) = true := by simp [Region.wanted, hg]
      rw [if_pos hw]
      exact oneS_sound hE hch hbad hd h hT hQ
    · rename_i j want hg
      split at hT
      · exact absurd hT hbad.1
      · rename_i t ht
        split at hT
        · rename_i b hb
          have hw := guard_wanted h hg ht hb
          have hse : ∀ b' : Bool, b = b' → setEnv s.env t (.v (.pc .bool b')) = s.env := fun b' e => by subst e; exact setEnv_self _ _ _ hb
          have skip : ∀ b' : Bool, b = b' → (b == want) = false → T (K (.ok { s with env := putD (setEnv s.env t (.v (.pc .bool b'))) o.dst .un })) →
              (if Region.wanted o (yielded ops a.tmps) = true then o.wpIn Fw r P a w (fun a' w' => ∃ s', SX P N G s' a' w' ∧ T (K (.ok s'))) Q else (∀ f, o.about P w a.eval = some f → Fw.fn f) ∧ ∃ s', SX P N G s' (a.put o.dst undef) w ∧ T (K (.ok s'))) := by
            intro b' e hne hT
            rw [hw, hne, if_neg (by simp)]
            refine ⟨fun f _ => hE.wide.fn f, _, ?_, hT⟩
            rw [hse b' e]
            obtain ⟨ρ, S, F, h⟩ := h
            exact ⟨ρ, S, F, h.put_un hd⟩
          have go : ∀ b' : Bool, b = b' → (b == want) = true → T (oneS P E Γ G.lo ch o { s with env := setEnv s.env t (.v (.pc .bool b')) } K) →
              (if Region.wanted o (yielded ops a.tmps) = true then o.wpIn Fw r P a w (fun a' w' => ∃ s', SX P N G s' a' w' ∧ T (K (.ok s'))) Q else (∀ f, o.about P w a.eval = some f → Fw.fn f) ∧ ∃ s', SX P N G s' (a.put o.dst undef) w ∧ T (K (.ok s'))) := by
            intro b' e hne hT
            rw [hw, hne, if_pos rfl]
            rw [hse b' e] at hT
            exact oneS_sound hE hch hbad hd (s := { s with env := s.env }) (h.of_eq rfl rfl rfl rfl) hT hQ
          obtain hb' | hb' : (show Bool from b) = true ∨ (show Bool from b) = false := by cases (show Bool from b) <;> simp
          · have hb' : b = true := hb'
            subst hb'
            cases want with
            | true => exact go true rfl rfl hT
            | false => exact skip true rfl rfl hT
          · have hb' : b = false := hb'
            subst hb'
            cases want with
            | true => exact skip false rfl rfl hT
            | false => exact go false rfl rfl hT
        · rename_i hun
          rw [guard_unwanted h hg ht hun, if_neg (by simp)]
          refine ⟨fun f _ => hE.wide.fn f, _, ?_, hT⟩
          obtain ⟨ρ, S, F, h⟩ := h
          exact ⟨ρ, S, F, h.put_un hd⟩
        · exact absurd hT hbad.1

theorem wpOpIn_mono {Q : Exit → Act → World → Prop} {i : Nat} {K K' : Act → World → Prop} (hk : ∀ a w, K a w → K' a w) (h : wpOpIn Fw r P ops Q i K a w) : wpOpIn Fw r P ops Q i K' a w := by
  unfold wpOpIn at h ⊢
  split
  · rename_i h0
    rw [h0] at h
    exact hk _ _ h
  · rename_i o h0
    rw [h0] at h
    simp only at h
    split
    · rename_i hw
      rw [if_pos hw] at h
      exact Oper.wpIn_mono hk h
    · rename_i hw
      rw [if_neg hw] at h
      exact ⟨h.1, hk _ _ h.2⟩

theorem opsS_sound (hE : Env P E Γ G Fw) {β : Type} {T : β → Prop} {ch : β → β → β} (hch : ∀ a b, T (ch a b) → T a ∧ T b) {K : Out → β} (hbad : ¬ T (K .bad) ∧ ∀ s', T (K (.pan .yld s')) → YG G s') {Q : Exit → Act → World → Prop}
    (hN : ∀ s' a' w', T (K (.norm s')) → SX P N G s' a' w' → Q .normal a' w') (hQ : ∀ d s' ch a' w', T (K (.pan d s')) → PanP P N G s' a' w' d ch → Q (.panic ch) a' w') :
    ∀ {l : List Oper} {i : Nat} {s : St} {a : Act} {w : World}, (∀ j, l[j]? = ops[i + j]?) → SX P N G s a w → T (opsS P E Γ G.lo N ch ops l s K) → wpOpsIn Fw r P ops Q (List.range' i l.length) a w
  | [], i, s, a, w, _, h, hT => hN _ a w hT (h.of_eq rfl rfl rfl rfl)
  | o :: l, i, s, a, w, hl, h, hT => by
    have h0 : ops[i]? = some o := by simpa using (hl 0).symm
    rw [List.length_cons, List.range'_succ, wpOpsIn_cons]
    refine wpOpIn_mono ?_ (stepS_sound (K := fun
      | .ok s' => opsS P E Γ G.lo N ch ops l s' K
      | .pan d s' => K (.pan d s')
      | .bad => K .bad) hE hch hbad h0 h hT (fun d s' c w' q1 q2 => hQ d s' c a w' q1 q2))
    rintro a' w' ⟨s', q1, q2⟩
    exact opsS_sound hE hch hbad hN hQ (l := l) (i := i + 1) (fun j => by have := hl (j + 1); simpa [Nat.add_assoc, Nat.add_comm 1 j] using this) q1 q2

end Go.Dm

/- Regions that draw their order: what an operation depends on. -/
namespace Go.Dm
open Go.RowKit
variable {P : Program} {N : Nat} {G : Gh} {S S' : CS} {w w' : World} {s : St} {a : Act} {ρ ρ' : Rho} {F F' : Nat → Prop} {heap heap' : Nat → DObj} {Y : Value} {E : TCtx} {Γ : Ctx} {Fw : Fence} {r : Nat} {ops : Array Oper}

abbrev X := (Nat → Slot) × (Nat → DObj) × Tr
def X.st (x : X) (base : Nat) (dfr : List Dfr) : St := ⟨x.1, x.2.1, x.2.2, base, dfr⟩
def St.x (s : St) : X := (s.env, s.heap, s.tr)

def guardOk (ops : Array Oper) (o : Oper) (env : Nat → Slot) : Option Bool :=
  match o.guard with
  | none => some true
  | some (j, want) => match (ops[j]?).bind (·.dst) with
    | none => none
    | some t => match env t with
      | .v (.pc .bool b) => some ((show Bool from b) == want)
      | .un => some false
      | _ => none

/-- What an operation comes to, and whether by what it names alone. -/
def opY (P : Program) (E : TCtx) (Γ : Ctx) (lo base : Nat) (o : Oper) (x : X) : Option (Eff × Bool) :=
  match opX P Γ lo base o x.1 x.2.1 x.2.2 with
  | some t => t.det.map (·, false)
  | none => ((opT P E Γ lo base o x.1 x.2.1).run id).map fun e => ({ e with tr := none }, true)

def stepX (P : Program) (E : TCtx) (Γ : Ctx) (lo base N : Nat) (ops : Array Oper) (i : Nat) (o : Oper) (x : X) : Option (X × FP) :=
  match o.dst.all (Nat.blt · N), guardOk ops o x.1 with
  | true, some true => (opY P E Γ lo base o x).map fun e => ((putD x.1 o.dst (e.1.wt.getD .top), putH x.2.1 e.1.wh, putT x.2.2 e.1.tr), ⟨i, e.1.rh, e.1.wh.map (·.1), e.2⟩)
  | true, some false => some ((putD x.1 o.dst .un, x.2.1, x.2.2), ⟨i, [], [], true⟩)
  | _, _ => none

theorem stepX_true {lo base i : Nat} {o : Oper} {x : X} (hd : o.dst.all (Nat.blt · N) = true) (hg : guardOk ops o x.1 = some true) :
    stepX P E Γ lo base N ops i o x = (opY P E Γ lo base o x).map fun e => ((putD x.1 o.dst (e.1.wt.getD .top), putH x.2.1 e.1.wh, putT x.2.2 e.1.tr), ⟨i, e.1.rh, e.1.wh.map (·.1), e.2⟩) := by
  unfold stepX; rw [hd, hg]
theorem stepX_false {lo base i : Nat} {o : Oper} {x : X} (hd : o.dst.all (Nat.blt · N) = true) (hg : guardOk ops o x.1 = some false) :
    stepX P E Γ lo base N ops i o x = some ((putD x.1 o.dst .un, x.2.1, x.2.2), ⟨i, [], [], true⟩) := by
  unfold stepX; rw [hd, hg]

theorem Tree.run_any {β : Type} (K : OR → β) (z : β) : ∀ (t : Tree OR), (∃ e, t.det = some e ∧ t.run (fun _ _ => z) (fun | .ok e => K (.ok e) | _ => z) = K (.ok e)) ∨ t.run (fun _ _ => z) (fun | .ok e => K (.ok e) | _ => z) = z
  | .leaf r => by
    cases r with
    | ok e => exact .inl ⟨e, rfl, rfl⟩
    | pan d e => exact .inr rfl
    | bad => exact .inr rfl
  | .br b l r => by
    cases b
    · exact Tree.run_any K z r
    · exact Tree.run_any K z l
  | .any l r => .inr rfl

theorem Tree.det_has : ∀ {t : Tree OR} {e : Eff}, t.det = some e → ∀ r, t.Has r ↔ r = .ok e
  | .leaf q, e, h, r => by
    cases q <;> cases h
    exact Iff.rfl
  | .br b l r0, e, h, r => by
    cases b
    · simpa [Tree.Has] using Tree.det_has (t := r0) (e := e) h r
    · simpa [Tree.Has] using Tree.det_has (t := l) (e := e) h r
  | .any l r0, e, h, r => by cases h

/-- The interpreter's step, and what goes on behind it. -/
theorem stepK_spec {β : Type} {lo : Nat} (i : Nat) (o : Oper) (s : St) (K : Option (St × FP) → β) :
    (∃ s' fp, stepX P E Γ lo s.base N ops i o s.x = some (s'.x, fp) ∧ s'.base = s.base ∧ s'.dfr = s.dfr ∧ stepK P E Γ lo N ops i o s K = K (some (s', fp))) ∨ stepK P E Γ lo N ops i o s K = K none := by
  cases hd : o.dst.all (Nat.blt · N) with
  | false => right; unfold stepK; rw [hd]
  | true =>
    have main : ∀ (s1 : St), s1.env = s.env → s1.heap = s.heap → s1.tr = s.tr → s1.base = s.base → s1.dfr = s.dfr → guardOk ops o s.env = some true →
        stepK P E Γ lo N ops i o s K = (match opX P Γ lo s1.base o s1.env s1.heap s1.tr with
          | some t => t.run (fun _ _ => K none) fun
            | .ok e => K (some (s1.eff o.dst e, ⟨i, e.rh, e.wh.map (·.1), false⟩))
            | _ => K none
          | none => (opT P E Γ lo s1.base o s1.env s1.heap).run fun
            | some e => K (some (s1.eff o.dst { e with tr := none }, ⟨i, e.rh, e.wh.map (·.1), true⟩))
            | none => K none) →
        (∃ s' fp, stepX P E Γ lo s.base N ops i o s.x = some (s'.x, fp) ∧ s'.base = s.base ∧ s'.dfr = s.dfr ∧ stepK P E Γ lo N ops i o s K = K (some (s', fp))) ∨ stepK P E Γ lo N ops i o s K = K none := by
      intro s1 h1 h2 h3 h4 h5 hg hK
      rw [h1, h2, h3, h4] at hK
      rw [stepX_true hd hg]
      unfold opY
      simp only [St.x]
      cases ht : opX P Γ lo s.base o s.env s.heap s.tr with
      | some t =>
        rw [ht] at hK
        rcases Tree.run_any (fun | .ok e => K (some (s1.eff o.dst e, ⟨i, e.rh, e.wh.map (·.1), false⟩)) | _ => K none) (K none) t with ⟨e, q1, q2⟩ | q
        · left
          refine ⟨s1.eff o.dst e, ⟨i, e.rh, e.wh.map (·.1), false⟩, ?_, h4, h5, hK.trans q2⟩
          simp only [q1, Option.map_some, St.eff, h1, h2, h3]
        · right; exact hK.trans q
      | none =>
        rw [ht] at hK
        simp only at hK
        rw [Br.run_eq] at hK
        cases hr : (opT P E Γ lo s.base o s.env s.heap).run id with
        | none => right; rw [hK, hr]
        | some e =>
          left
          refine ⟨s1.eff o.dst { e with tr := none }, ⟨i, e.rh, e.wh.map (·.1), true⟩, ?_, h4, h5, by rw [hK, hr]⟩
          simp only [Option.map_some, St.eff, h1, h2, h3]
    cases hg : o.guard with
    | none =>
      exact main s rfl rfl rfl rfl rfl (by simp [guardOk, hg]) (by unfold stepK; rw [hd, hg]; rfl)
    | some jw =>
      obtain ⟨j, want⟩ := jw
      cases hj : (ops[j]?).bind (·.dst) with
      | none => right; unfold stepK; rw [hd, hg]; simp only [hj]
      | some t =>
        cases henv : s.env t with
        | v d =>
          cases d with
          | pc τ b =>
            cases τ with
            | bool =>
              have hgo : guardOk ops o s.env = some ((show Bool from b) == want) := by simp [guardOk, hg, hj, henv]
              have hse : setEnv s.env t (.v (.pc .bool b)) = s.env := setEnv_self _ _ _ henv
              obtain hb | hb : (show Bool from b) = true ∨ (show Bool from b) = false := by cases (show Bool from b) <;> simp
              · have hb : b = true := hb
                subst hb
                cases want with
                | true => exact main { s with env := setEnv s.env t (.v (.pc .bool true)) } hse rfl rfl rfl rfl hgo (by unfold stepK; rw [hd, hg]; simp only [hj, henv]; rfl)
                | false =>
                  left
                  refine ⟨{ s with env := putD (setEnv s.env t (.v (.pc .bool true))) o.dst .un }, ⟨i, [], [], true⟩, ?_, rfl, rfl, by unfold stepK; rw [hd, hg]; simp only [hj, henv]; rfl⟩
                  rw [stepX_false hd hgo]
                  simp only [St.x, hse]
              · have hb : b = false := hb
                subst hb
                cases want with
                | false => exact main { s with env := setEnv s.env t (.v (.pc .bool false)) } hse rfl rfl rfl rfl hgo (by unfold stepK; rw [hd, hg]; simp only [hj, henv]; rfl)
                | true =>
                  left
                  refine ⟨{ s with env := putD (setEnv s.env t (.v (.pc .bool false))) o.dst .un }, ⟨i, [], [], true⟩, ?_, rfl, rfl, by unfold stepK; rw [hd, hg]; simp only [hj, henv]; rfl⟩
                  rw [stepX_false hd hgo]
                  simp only [St.x, hse]
            | _ => right; unfold stepK; rw [hd, hg]; simp only [hj, henv]
          | _ => right; unfold stepK; rw [hd, hg]; simp only [hj, henv]
        | un =>
          left
          have hgo : guardOk ops o s.env = some false := by simp [guardOk, hg, hj, henv]
          refine ⟨{ s with env := putD s.env o.dst .un }, ⟨i, [], [], true⟩, ?_, rfl, rfl, by unfold stepK; rw [hd, hg]; simp only [hj, henv]⟩
          rw [stepX_false hd hgo]
          rfl
        | _ => right; unfold stepK; rw [hd, hg]; simp only [hj, henv]

/-- One step, where it is carried out. -/
theorem stepX_sound (hE : Env P E Γ G Fw) {Q : Exit → Act → World → Prop} {i base : Nat} {dfr : List Dfr} {o : Oper} (ho : ops[i]? = some o) (hnd : ∀ c, o.op ≠ .defer c) {x x' : X} {fp : FP}
    (hs : stepX P E Γ G.lo base N ops i o x = some (x', fp)) (h : SX P N G (x.st base dfr) a w) : wpOpIn Fw r P ops Q i (SX P N G (x'.st base dfr)) a w := by
  unfold stepX at hs
  split at hs
  · rename_i hd hg
    simp only [Option.map_eq_some_iff] at hs
    obtain ⟨e, he, hs⟩ := hs
    simp only [Prod.mk.injEq] at hs
    obtain ⟨rfl, rfl⟩ := hs
    have hw : Region.wanted o (yielded ops a.tmps) = true := by
      unfold guardOk at hg
      split at hg
      · rename_i hg'; simp [Region.wanted, hg']
      · rename_i j want hg'
        split at hg
        · cases hg
        · rename_i t ht
          split at hg
          · rename_i b hb
            rw [guard_wanted (s := x.st base dfr) h hg' ht hb]
            simpa using hg
          · cases hg
          · cases hg
    unfold wpOpIn
    simp only [ho, hw, if_true]
    unfold opY at he
    obtain ⟨ρ, S, F, h⟩ := h
    cases ht : opX P Γ G.lo base o x.1 x.2.1 x.2.2 with
    | some t =>
      rw [ht] at he
      simp only [Option.map_eq_some_iff] at he
      obtain ⟨e0, he0, rfl⟩ := he
      have hall := Tree.det_has he0
      refine opX_sound (s := x.st base dfr) hE.wide hE.fns hE.gh h hd ht (fun r hr e => ?_) (fun e hr => ?_) (fun a' w' e hr he => ?_) (fun w' d e ch hr he => ?_)
      · rw [(hall r).1 hr] at e; cases e
      · have := (hall _).1 hr; cases this
      · have := (hall _).1 hr
        cases this
        exact he
      · have := (hall _).1 hr; cases this
    | none =>
      rw [ht] at he
      simp only [Option.map_eq_some_iff] at he
      obtain ⟨e0, he0, rfl⟩ := he
      refine opIn_of_op hE.wide (opT_noDefer he0) (Oper.wp_mono (fun a' w' q => ?_) (opT_sound (s := x.st base dfr) hE.fns hE.eq hE.key hE.gh h hd he0))
      obtain ⟨htr, ρ', S', F', q⟩ := q
      exact ⟨ρ', S', F', q.of_eq rfl rfl (by simp [St.eff, X.st, htr, putT]) rfl⟩
  · rename_i hd hg
    cases hs
    have hw : Region.wanted o (yielded ops a.tmps) = false := by
      unfold guardOk at hg
      split at hg
      · cases hg
      · rename_i j want hg'
        split at hg
        · cases hg
        · rename_i t ht
          split at hg
          · rename_i b hb
            rw [guard_wanted (s := x.st base dfr) h hg' ht hb]
            simpa using hg
          · rename_i hb
            exact guard_unwanted (s := x.st base dfr) h hg' ht hb
          · cases hg
    unfold wpOpIn
    simp only [ho, hw, Bool.false_eq_true, if_false]
    obtain ⟨ρ, S, F, h⟩ := h
    exact ⟨fun f _ => hE.wide.fn f, ρ, S, F, (h.put_un hd).of_eq rfl rfl rfl rfl⟩
  · cases hs

/-! ### Operations that touch different things -/

theorem val_congr {env env' : Nat → Slot} {x : Operand} (h : ∀ t, x = .tmp t → env' t = env t) : val Γ env' x = val Γ env x := by
  cases x with
  | tmp t => exact h t rfl
  | _ => rfl

theorem list_val {env env' : Nat → Slot} {l : List Operand} (h : ∀ x ∈ l, val Γ env' x = val Γ env x) : l.map (val Γ env') = l.map (val Γ env) := List.map_congr_left h

theorem op_env {o : Oper} {env env' : Nat → Slot} (hl : ∀ t, Operand.tmp t ∈ o.op.operands → env' t = env t) : ∀ x ∈ o.op.operands, val Γ env' x = val Γ env x := fun x hx => val_congr fun t ht => hl t (ht ▸ hx)

theorem opT_env {lo base : Nat} {o : Oper} {env env' : Nat → Slot} {heap : Nat → DObj} (hl : ∀ t, Operand.tmp t ∈ o.op.operands → env' t = env t) : opT P E Γ lo base o env' heap = opT P E Γ lo base o env heap := by
  have hv := op_env (Γ := Γ) hl
  obtain ⟨dst, op, type, pos, after, guard⟩ := o
  have pairs : ∀ ps : Array (Nat × Operand), (∀ x ∈ (ps.toList.map (·.2)).toArray, val Γ env' x = val Γ env x) →
      (ps.toList.map fun p => (p.1, val Γ env' p.2)) = (ps.toList.map fun p => (p.1, val Γ env p.2)) := fun ps hp =>
    List.map_congr_left fun p hm => by
      rw [hp p.2 (by simpa using ⟨p.1, Array.mem_toList_iff.1 hm⟩)]
  cases op <;> simp only [Op.operands] at hv <;> simp only [opT]
  case build t ps => rw [pairs ps hv]
  case buildSlice t n ps => rw [pairs ps hv]
  case slice t x l h m =>
    have hx : val Γ env' x = val Γ env x := hv x (by simp)
    have hl : l.map (val Γ env') = l.map (val Γ env) := by
      cases l with
      | none => rfl
      | some y => simp only [Option.map_some]; rw [hv y (by simp)]
    have hh : h.map (val Γ env') = h.map (val Γ env) := by
      cases h with
      | none => rfl
      | some y => simp only [Option.map_some]; rw [hv y (by simp)]
    rw [hx, hl, hh]
  case call c =>
    have hargs : ∀ x ∈ c.args, val Γ env' x = val Γ env x := fun x hx => hv x (by simp [Call.operands, hx])
    have hl : c.args.toList.map (val Γ env') = c.args.toList.map (val Γ env) := List.map_congr_left fun x hx => hargs x (by simpa using hx)
    cases hc : c.callee with
    | value f =>
      have hf : val Γ env' f = val Γ env f := hv f (by simp [Call.operands, hc])
      simp only [hl, hf]
    | invoke r m => rfl
    | builtin b =>
      cases b <;> first
        | rfl
        | (simp only
           split <;> first
             | (rename_i x y z u hx hy; rw [hargs x (by rw [← Array.mem_toList_iff, hx]; simp), hargs y (by rw [← Array.mem_toList_iff, hx]; simp)]; done)
             | (rename_i x y hx; rw [hargs x (by rw [← Array.mem_toList_iff, hx]; simp), hargs y (by rw [← Array.mem_toList_iff, hx]; simp)]; done)
             | (rename_i x hx; rw [hargs x (by rw [← Array.mem_toList_iff, hx]; simp)]; done)
             | rfl)
  case makeFunc fn first caps =>
    have h1 : first.toList.map (val Γ env') = first.toList.map (val Γ env) := List.map_congr_left fun x hx => hv x (by simp [Array.mem_toList_iff.1 hx])
    have h2 : caps.toList.map (val Γ env') = caps.toList.map (val Γ env) := List.map_congr_left fun x hx => hv x (by simp [Array.mem_toList_iff.1 hx])
    rw [h1, h2]
  all_goals (first | rfl | (simp_all; done) | skip)

theorem opX_none {lo base : Nat} {o : Oper} {env env' : Nat → Slot} {heap heap' : Nat → DObj} {tr tr' : Tr} (hl : ∀ t, Operand.tmp t ∈ o.op.operands → env' t = env t) (h : opX P Γ lo base o env heap tr = none) : opX P Γ lo base o env' heap' tr' = none := by
  have hv := op_env (Γ := Γ) hl
  obtain ⟨dst, op, type, pos, after, guard⟩ := o
  cases op
  case call c =>
    have hargs : ∀ x ∈ c.args, val Γ env' x = val Γ env x := fun x hx => hv x (by simp [Op.operands, Call.operands, hx])
    have hl : c.args.toList.map (val Γ env') = c.args.toList.map (val Γ env) := List.map_congr_left fun x hx => hargs x (by simpa using hx)
    simp only [opX] at h ⊢
    cases hc : c.callee with
    | value f =>
      have hf : val Γ env' f = val Γ env f := hv f (by simp [Op.operands, Call.operands, hc])
      rw [hc] at h
      simp only [hl, hf] at h ⊢
      split at h
      · unfold callGenD at h ⊢
        split at h
        · split at h
          · cases h
          · rename_i hne
            rfl
        · rename_i hnf
          split at h
          · split at h
            · cases h
            · rename_i hne
              rfl
          · cases h
          · rfl
      · rfl
    | invoke r m => rfl
    | builtin b => rfl
  case panic x =>
    have hx : val Γ env' x = val Γ env x := hv x (by simp [Op.operands])
    simp only [opX] at h ⊢
    rw [hx]
    exact h
  case binOp op t x y yt =>
    simp only [opX] at h ⊢
    split at h
    · cases h
    · cases h
    · rfl
  all_goals rfl

theorem br_some {b : Bool} {x y : Br} {e : Eff} (h : (Br.br b x y).run id = some e) : (b = true ∧ x.run id = some e) ∨ (b = false ∧ y.run id = some e) := by
  cases b
  · exact .inr ⟨rfl, h⟩
  · exact .inl ⟨rfl, h⟩

theorem viewAt_rh {t : TypeId} {ds : List DC} {o : Nat} {rh : List Nat} {e : Eff} (h : (viewAt P t ds o rh).run id = some e) : e.rh = rh := by
  unfold viewAt at h
  split at h
  case h_2 => cases h
  split at h
  · rcases br_some h with ⟨_, hx⟩ | ⟨_, hx⟩
    · cases hx; rfl
    · cases hx
  · rcases br_some h with ⟨_, hx⟩ | ⟨_, hx⟩
    · cases hx; rfl
    · cases hx
  · cases h

theorem append_heap {rw : Bool} {lo id0 : Nat} {heap heap' : Nat → DObj} {T : TypeId} {s x : Slot} {e : Eff} (h : (appendD P rw lo id0 heap T s x).run id = some e) (hh : ∀ i ∈ e.rh, heap' i = heap i) :
    (appendD P rw lo id0 heap' T s x).run id = some e := by
  unfold appendD at h ⊢
  split at h
  case h_2 => cases h
  split at h
  case h_2 => cases h
  split at h
  · rename_i hc
    split at h
    case h_2 => cases h
    rename_i hn
    rcases br_some h with ⟨hb, hx⟩ | ⟨_, hx⟩
    · have hrh : id0 ∈ e.rh := by cases rw <;> (cases hx; simp)
      rw [hh id0 hrh, hn]
      exact h
    · cases hx
  · rename_i id ver e' r hc
    split at h
    case h_2 => cases h
    rename_i ver' E' k n r' ho hcast
    split at h
    case h_2 => cases h
    rename_i hcc
    rcases br_some h with ⟨hb, hx⟩ | ⟨_, hx⟩
    · cases hx
      rw [hh id (by simp), ho, hcast]
      simp only [hcc]
      exact h
    · cases hx
  · rename_i id ver hc
    split at h
    case h_2 => cases h
    rename_i ver' E' e' r ho
    split at h
    case h_2 => cases h
    rename_i r' hcast
    split at h
    case h_2 => cases h
    rename_i hcc
    rcases br_some h with ⟨hb, hx⟩ | ⟨_, hx⟩
    · cases hx
      rw [hh id (by simp), ho]
      simp only [hcast, hcc]
      exact h
    · cases hx
  · cases h

theorem opT_heap {lo base : Nat} {o : Oper} {env : Nat → Slot} {heap heap' : Nat → DObj} {e : Eff} (h : (opT P E Γ lo base o env heap).run id = some e) (hh : ∀ i ∈ e.rh, heap' i = heap i) :
    (opT P E Γ lo base o env heap').run id = some e := by
  obtain ⟨dst, op, type, pos, after, guard⟩ := o
  cases op
  case box t x =>
    simp only [opT] at h ⊢
    split at h
    case h_2 => cases h
    rename_i cs h1 h2 h3
    cases h
    rw [hh _ (by simp), h1, h2, h3]; rfl
  case alloc t =>
    simp only [opT] at h ⊢
    split at h
    case h_2 => cases h
    rename_i cs h1 h2 h3
    cases h
    rw [hh _ (by simp), h1, h2, h3]; rfl
  case load t x =>
    simp only [opT, loadD] at h ⊢
    split at h
    · rename_i id off hx
      split at h
      case h_2 => cases h
      rename_i ds ho
      have h1 := viewAt_rh h
      rw [hh id (by rw [h1]; simp), ho]
      exact h
    · rename_i id off hx
      split at h
      case h_2 => cases h
      rename_i ds ho
      have h1 := viewAt_rh h
      rw [hh id (by rw [h1]; simp), ho]
      exact h
    · rename_i id ver i off hx
      split at h
      case h_2 => cases h
      rename_i cur T el sl ho
      split at h
      case h_2 => cases h
      rename_i hve
      have h1 := viewAt_rh h
      rw [hh id (by rw [h1]; simp), ho]
      simp only [hve]
      exact h
    · exact h
    · cases h
  case store t x y =>
    simp only [opT] at h ⊢
    split at h
    case h_2 => cases h
    rename_i cs hcs
    unfold storeD at h ⊢
    split at h
    · rename_i id off hx
      split at h
      case h_2 => cases h
      rename_i ds n ho hn
      rcases br_some h with ⟨hb, hxx⟩ | ⟨_, hxx⟩
      · cases hxx
        rw [hh id (by simp), ho, hn]
        exact h
      · cases hxx
    · rename_i id off hx
      split at h
      case h_2 => cases h
      rename_i ds n ho hn
      rcases br_some h with ⟨hb, hxx⟩ | ⟨_, hxx⟩
      · cases hxx
        rw [hh id (by simp), ho, hn]
        exact h
      · cases hxx
    · rename_i id ver i off hx
      split at h
      case h_2 => cases h
      rename_i cur T el sl n ho hn
      split at h
      case h_2 => cases h
      rename_i x' hx'
      rcases br_some h with ⟨hb, hxx⟩ | ⟨_, hxx⟩
      · cases hxx
        rw [hh id (by simp), ho, hn]
        simp only [hx']
        exact h
      · cases hxx
    · cases h
  case indexAddr t x i =>
    simp only [opT, indexAddrD] at h ⊢
    split at h
    case h_2 => cases h
    split at h
    · split at h
      · rename_i id ver hidx
        split at h
        case h_2 => cases h
        rename_i cur T τ sl k ho hk
        split at h
        case h_2 => cases h
        rename_i hkc
        rcases br_some h with ⟨hb, hxx⟩ | ⟨_, hxx⟩
        · cases hxx
          rw [hh id (by simp), ho, hk]
          simp only [hkc]
          exact h
        · cases hxx
      · exact h
    · exact h
    · cases h
  case buildSlice t n ps =>
    simp only [opT] at h ⊢
    split at h
    case h_2 => cases h
    rename_i h1 h2
    have hrh : e.rh = [base + dst.getD 0] := by
      unfold buildSliceD at h
      repeat' (first | (cases h; rfl) | (cases h; done) | split at h)
    rw [hh _ (by rw [hrh]; simp), h1, h2]
    exact h
  case makeSlice t l c =>
    simp only [opT, makeSliceD] at h ⊢
    split at h
    case h_2 => cases h
    rename_i hlo
    split at h
    case h_2 => cases h
    rename_i el n h1 h2 h3 h4
    split at h
    case h_2 => cases h
    rename_i i cs h5 h6
    split at h
    case h_2 => cases h
    rename_i τ h7
    split at h
    case h_2 => cases h
    rename_i z h8
    split at h
    case h_2 => cases h
    rename_i h9
    rcases br_some h with ⟨hb, hxx⟩ | ⟨_, hxx⟩
    · cases hxx
      rw [hh _ (by simp), h1, h2, h3, h4]
      simp only [h5, h6, h7, h8, h9]
      exact h
    · cases hxx
  case makeMap t r =>
    simp only [opT, makeMapD] at h ⊢
    split at h
    case h_2 => cases h
    split at h
    case h_2 => cases h
    rename_i kt vt h1 h2
    split at h
    case h_2 => cases h
    rename_i k v h3 h4
    split at h
    case h_2 => cases h
    rename_i h5
    cases h
    rw [hh _ (by simp), h1, h2]
    simp only [h3, h4, h5]
    rfl
  case lookup t x i ok =>
    simp only [opT, lookupD] at h ⊢
    split at h
    case h_2 => cases h
    split at h
    case h_2 => cases h
    split at h
    case h_2 => cases h
    split at h
    · rename_i id hidx
      split at h
      case h_2 => cases h
      rename_i k' v' m ho
      split at h
      case h_2 => cases h
      rename_i m' hm
      cases h
      rw [hh id (by simp), ho]
      simp only [hm]
      rfl
    · exact h
    · cases h
  case mapUpdate t x i y =>
    simp only [opT, mapUpdateD] at h ⊢
    split at h
    case h_2 => cases h
    split at h
    case h_2 => cases h
    rename_i k v id h1 h2 h3 h4
    split at h
    case h_2 => cases h
    rename_i k' v' m ho
    split at h
    case h_2 => cases h
    rename_i m' key val q1 q2 q3 q4
    cases h
    rw [hh id (by simp), ho]
    simp only [q1, q2, q3, q4]
    rfl
  case call c =>
    obtain ⟨callee, args, argTypes⟩ := c
    cases callee with
    | builtin b =>
      cases b
      case append =>
        simp only [opT] at h ⊢
        split at h
        case h_2 => cases h
        split at h
        case h_2 => cases h
        exact append_heap h hh
      case len =>
        simp only [opT] at h ⊢
        split at h
        case h_2 => cases h
        split at h
        case h_2 => cases h
        split at h
        case h_2 => cases h
        unfold lenD at h ⊢
        split at h
        · exact h
        · rename_i id ver hidx
          split at h
          case h_2 => cases h
          rename_i cur T el sl ho
          split at h
          case h_2 => cases h
          rename_i hve
          cases h
          rw [hh id (by simp), ho]
          simp only [hve]; rfl
        · exact h
      all_goals exact h
    | value x =>
      simp only [opT] at h ⊢
      cases x with
      | func f =>
        simp only [callValD] at h ⊢
        cases hf : Γ f with
        | none => rw [hf] at h; exact h
        | some en =>
          rw [hf] at h
          cases en with
          | row w n τa T e R =>
            simp only at h ⊢
            split at h
            · unfold rowCallD at h ⊢
              split at h
              case h_2 => cases h
              rename_i y h1 h2 h3
              simp only [Br.run, eff, bad] at h
              cases hs : (R y).isSome with
              | false => simp only [hs, cond_false] at h; cases h
              | true =>
                simp only [hs, cond_true, id] at h
                cases h
                rw [hh _ (by simp), h3]
                simp only [h1, h2, hs, Br.run, eff, cond_true, id]
            · cases h
          | _ => exact h
      | _ => exact h
    | invoke r m => cases h
  all_goals exact h

theorem guardOk_local {o : Oper} {env env' : Nat → Slot} {b : Bool} (h : guardOk ops o env = some b) (hl : ∀ t, t ∈ o.looksAt ops → env' t = env t) : guardOk ops o env' = some b := by
  unfold guardOk at h ⊢
  cases hg : o.guard with
  | none => rw [hg] at h; exact h
  | some jw =>
    obtain ⟨j, want⟩ := jw
    rw [hg] at h
    simp only at h ⊢
    cases ht : (ops[j]?).bind (·.dst) with
    | none => rw [ht] at h; cases h
    | some t =>
      rw [ht] at h
      simp only at h ⊢
      rw [hl t (List.mem_append_right _ (by rw [hg]; simp only [ht]; simp))]
      exact h

/-- A step's effect is the same wherever what it looks at is the same. -/
theorem stepX_local {lo base i : Nat} {o : Oper} {x y : X} {fp : FP} (h : stepX P E Γ lo base N ops i o x = some (y, fp)) (hloc : fp.loc = true) :
    ∃ sl hw, y = (putD x.1 o.dst sl, putH x.2.1 hw, x.2.2) ∧ fp.wh = hw.map (·.1) ∧ ∀ x' : X, (∀ t, t ∈ o.looksAt ops → x'.1 t = x.1 t) → (∀ i ∈ fp.rh, x'.2.1 i = x.2.1 i) →
      stepX P E Γ lo base N ops i o x' = some ((putD x'.1 o.dst sl, putH x'.2.1 hw, x'.2.2), fp) := by
  cases hd : o.dst.all (Nat.blt · N) with
  | false => unfold stepX at h; rw [hd] at h; cases h
  | true =>
    cases hg : guardOk ops o x.1 with
    | none => unfold stepX at h; rw [hd, hg] at h; cases h
    | some b =>
      cases b with
      | true =>
        rw [stepX_true hd hg] at h
        simp only [Option.map_eq_some_iff] at h
        obtain ⟨⟨e, l⟩, he, hy⟩ := h
        simp only [Prod.mk.injEq] at hy
        obtain ⟨rfl, rfl⟩ := hy
        have hloc : l = true := hloc
        subst hloc
        unfold opY at he
        have ht : opX P Γ lo base o x.1 x.2.1 x.2.2 = none := by
          cases ht : opX P Γ lo base o x.1 x.2.1 x.2.2 with
          | none => rfl
          | some t =>
            rw [ht] at he
            simp only [Option.map_eq_some_iff] at he
            obtain ⟨e', _, q⟩ := he
            cases q
        rw [ht] at he
        simp only [Option.map_eq_some_iff] at he
        obtain ⟨e', he, q⟩ := he
        cases q
        refine ⟨_, _, rfl, rfl, fun x' h1 h2 => ?_⟩
        have hops : ∀ t, Operand.tmp t ∈ o.op.operands → x'.1 t = x.1 t := fun t ht => h1 t (List.mem_append_left _ (List.mem_filterMap.2 ⟨.tmp t, by simpa using ht, rfl⟩))
        rw [stepX_true hd (guardOk_local hg h1)]
        unfold opY
        rw [opX_none hops ht]
        simp only
        rw [opT_env (env := x.1) hops, opT_heap he h2]
        rfl
      | false =>
        rw [stepX_false hd hg] at h
        cases h
        refine ⟨.un, [], rfl, rfl, fun x' h1 h2 => ?_⟩
        rw [stepX_false hd (guardOk_local hg h1)]
        rfl

theorem putD_other {env : Nat → Slot} {d : Option Nat} {sl : Slot} {t : Nat} (h : d ≠ some t) : putD env d sl t = env t := by
  cases d with
  | none => rfl
  | some d => simp only [putD, setEnv]; rw [beq_ne (fun e => h (by rw [e]))]; rfl
theorem putH_other : ∀ {hw : List (Nat × DObj)} {heap : Nat → DObj} {i : Nat}, i ∉ hw.map (·.1) → putH heap hw i = heap i
  | [], _, _, _ => rfl
  | (j, o) :: hw, heap, i, h => by
    simp only [List.map_cons, List.mem_cons, not_or] at h
    rw [putH, putH_other h.2]
    simp only [setHeap, beq_ne h.1, cond_false]
theorem putD_comm {env : Nat → Slot} {d d' : Option Nat} {sl sl' : Slot} (h : ∀ t, d = some t → d' ≠ some t) : putD (putD env d sl) d' sl' = putD (putD env d' sl') d sl := by
  funext t
  by_cases h1 : d = some t
  · have h2 := h t h1
    rw [putD_other h2]
    subst h1
    simp [putD, setEnv]
  · by_cases h2 : d' = some t
    · rw [putD_other (env := putD env d' sl') h1]
      subst h2
      simp [putD, setEnv]
    · rw [putD_other h2, putD_other h1, putD_other h1, putD_other h2]
theorem putH_same : ∀ {hw : List (Nat × DObj)} {heap heap' : Nat → DObj} {i : Nat}, heap i = heap' i → putH heap hw i = putH heap' hw i
  | [], _, _, _, h => h
  | (j, o) :: hw, heap, heap', i, h => by
    rw [putH, putH]
    refine putH_same ?_
    simp only [setHeap]
    cases Nat.beq i j <;> simp [h]
theorem putH_comm {heap : Nat → DObj} {hw hw' : List (Nat × DObj)} (h : ∀ i, i ∈ hw.map (·.1) → i ∉ hw'.map (·.1)) : putH (putH heap hw) hw' = putH (putH heap hw') hw := by
  funext i
  by_cases h1 : i ∈ hw.map (·.1)
  · rw [putH_other (h i h1)]
    exact putH_same (putH_other (h i h1)).symm
  · rw [putH_other (heap := putH heap hw') h1]
    exact putH_same (putH_other h1)

theorem meets_false {a b : List Nat} (h : meets a b = false) : ∀ i, i ∈ a → i ∉ b := fun i hi hb => by
  have : meets a b = true := List.any_eq_true.2 ⟨i, hi, List.any_eq_true.2 ⟨i, hb, Nat.beq_refl i⟩⟩
  rw [h] at this; cases this


/-- Two operations that touch different things may change places. -/
theorem stepX_swap {lo base i j : Nat} {oi oj : Oper} {x x1 x2 : X} {fi fj : FP} (h1 : stepX P E Γ lo base N ops i oi x = some (x1, fi)) (h2 : stepX P E Γ lo base N ops j oj x1 = some (x2, fj)) (hli : fi.loc = true) (hlj : fj.loc = true)
    (ha : oi.apart ops oj = true) (hb : oj.apart ops oi = true) (hi : indepH fi fj = true) :
    ∃ y, stepX P E Γ lo base N ops j oj x = some (y, fj) ∧ stepX P E Γ lo base N ops i oi y = some (x2, fi) := by
  obtain ⟨sl1, hw1, rfl, w1, l1⟩ := stepX_local h1 hli
  obtain ⟨sl2, hw2, rfl, w2, l2⟩ := stepX_local h2 hlj
  obtain ⟨a1, a2, a3⟩ := Oper.apart_spec ha
  simp only [indepH, Bool.and_eq_true, Bool.not_eq_true'] at hi
  obtain ⟨⟨i1, i2⟩, i3⟩ := hi
  have i1 := meets_false i1
  have i2 := meets_false i2
  have i3 := meets_false i3
  rw [w1] at i1 i3
  rw [w2] at i2 i3
  have q := l2 x (fun t ht => (putD_other (fun e => a1 t e ht)).symm) (fun k hk => (putH_other (fun e => i1 k e hk)).symm)
  refine ⟨_, q, ?_⟩
  have q2 := l1 (putD x.1 oj.dst sl2, putH x.2.1 hw2, x.2.2) (fun t ht => putD_other (fun e => a3 t e ht)) (fun k hk => putH_other (fun e => i2 k e hk))
  rw [q2]
  simp only
  rw [putD_comm (fun t ht => (a2 t ht)), putH_comm i3]

end Go.Dm

/- Regions in whatever order; freezing; code. -/
namespace Go.Dm
open Go.RowKit
variable {P : Program} {N : Nat} {G : Gh} {S S' : CS} {w w' : World} {s : St} {a : Act} {ρ ρ' : Rho} {F F' : Nat → Prop} {heap heap' : Nat → DObj} {Y : Value} {E : TCtx} {Γ : Ctx} {Fw : Fence} {r : Nat} {ops : Array Oper} {lo base : Nat} {dfr : List Dfr}

def XRun (P : Program) (E : TCtx) (Γ : Ctx) (lo base N : Nat) (ops : Array Oper) : List FP → X → X → Prop
  | [], x, y => x = y
  | f :: l, x, y => ∃ o x1, ops[f.i]? = some o ∧ stepX P E Γ lo base N ops f.i o x = some (x1, f) ∧ XRun P E Γ lo base N ops l x1 y

theorem stepX_i {i : Nat} {o : Oper} {x y : X} {fp : FP} (h : stepX P E Γ lo base N ops i o x = some (y, fp)) : fp.i = i := by
  unfold stepX at h
  split at h
  · simp only [Option.map_eq_some_iff] at h
    obtain ⟨e, _, h⟩ := h
    cases h; rfl
  · cases h; rfl
  · cases h

theorem opsK_spec {β : Type} {K : Option (St × List FP) → β} : ∀ {l : List Oper} {i : Nat} {log : List FP} {s : St}, (∀ j, l[j]? = ops[i + j]?) →
    (∃ s' fps, XRun P E Γ lo s.base N ops fps s.x s'.x ∧ s'.base = s.base ∧ s'.dfr = s.dfr ∧ fps.map (·.i) = List.range' i l.length ∧ opsK P E Γ lo N ops l i log s K = K (some (s', fps.reverse ++ log))) ∨ opsK P E Γ lo N ops l i log s K = K none
  | [], i, log, s, _ => .inl ⟨s, [], rfl, rfl, rfl, rfl, rfl⟩
  | o :: l, i, log, s, h => by
    have h0 : ops[i]? = some o := by simpa using (h 0).symm
    let K' : Option (St × FP) → β := fun
      | some (s', fp) => opsK P E Γ lo N ops l (i + 1) (fp :: log) s' K
      | none => K none
    have hK : opsK P E Γ lo N ops (o :: l) i log s K = stepK P E Γ lo N ops i o s K' := rfl
    rcases stepK_spec (P := P) (E := E) (Γ := Γ) (N := N) (ops := ops) (lo := lo) i o s K' with ⟨s', fp, h1, hb, hd, h2⟩ | h2
    · have hi : fp.i = i := stepX_i h1
      rcases opsK_spec (K := K) (l := l) (i := i + 1) (log := fp :: log) (s := s') (fun j => by have := h (j + 1); simpa [Nat.add_assoc, Nat.add_comm 1 j] using this) with ⟨s2, fps, q1, qb, qd, q2, q3⟩ | q
      · refine .inl ⟨s2, fp :: fps, ⟨o, s'.x, by rw [hi]; exact h0, by rw [hi]; exact h1, by rw [hb] at q1; exact q1⟩, qb.trans hb, qd.trans hd, ?_, ?_⟩
        · simp [hi, q2, List.range'_succ]
        · refine (hK.trans h2).trans (q3.trans ?_)
          simp
      · exact .inr ((hK.trans h2).trans q)
    · exact .inr (hK.trans h2)

/-- An operation that waits for none of those before it may come first. -/
theorem XRun_first {g : FP} {y : X} {l2 : List FP} : ∀ {l1 : List FP} {x : X}, XRun P E Γ lo base N ops (l1 ++ g :: l2) x y →
    (∀ f ∈ l1, ∃ of og, ops[f.i]? = some of ∧ ops[g.i]? = some og ∧ f.loc = true ∧ g.loc = true ∧ of.apart ops og = true ∧ og.apart ops of = true ∧ indepH f g = true) →
    XRun P E Γ lo base N ops (g :: l1 ++ l2) x y
  | [], x, h, _ => h
  | f :: l1, x, h, hf => by
    obtain ⟨o, x1, h1, h2, h3⟩ := h
    have ih := XRun_first h3 (fun f hm => hf f (List.mem_cons_of_mem _ hm))
    obtain ⟨og, x2, g1, g2, g3⟩ := ih
    obtain ⟨of, og', e1, e2, l1', l2', e3, e4, e5⟩ := hf f (List.mem_cons_self ..)
    rw [h1] at e1; cases e1
    rw [g1] at e2; cases e2
    obtain ⟨z, z1, z2⟩ := stepX_swap h2 g2 l1' l2' e3 e4 e5
    exact ⟨og, z, g1, z1, o, x2, h1, z2, g3⟩

theorem edgesOk_spec (h : edgesOk ops = true) {i : Nat} {o : Oper} (ho : ops[i]? = some o) : ∀ e ∈ o.after, Region.binds .any e = true → e.on < i := fun e he hb => by
  unfold edgesOk at h
  rw [List.all_eq_true] at h
  have hm : (o, i) ∈ ops.toList.zipIdx := by
    rw [List.mem_zipIdx_iff_getElem?]; simpa using ho
  have := h _ hm
  rw [List.all_eq_true] at this
  have := this e (by simpa using he)
  simpa [hb] using this

/-- What is listed stands behind what it waits for. -/
def Closed (ops : Array Oper) (listed : Array Bool) : Prop := ∀ i o, ops[i]? = some o → listed.getD i false = true → ∀ e ∈ o.after, Region.binds .any e = true → listed.getD e.on false = true

theorem waitsT_listed {listed : Array Bool} (hc : Closed ops listed) : ∀ (n j i : Nat), waitsT ops n j i = true → (∀ o, ops[j]? = some o → ∀ e ∈ o.after, Region.binds .any e = true → listed.getD e.on false = true) → listed.getD i false = true
  | 0, _, _, h, _ => by cases h
  | n + 1, j, i, h, hj => by
    unfold waitsT at h
    split at h
    · rename_i o ho
      rw [List.any_eq_true] at h
      obtain ⟨e, he, h⟩ := h
      simp only [Bool.and_eq_true, Bool.or_eq_true] at h
      have hl := hj o ho e (by simpa using he) h.1
      rcases h.2 with q | q
      · have := Nat.eq_of_beq_eq_true q
        rw [← this]; exact hl
      · exact waitsT_listed hc n e.on i q (fun o' ho' => hc e.on o' ho' hl)
    · cases h

theorem wpOpsIn_of_XRun (hE : Env P E Γ G Fw) (hnd : ∀ (i : Nat) (o : Oper), ops[i]? = some o → ∀ c, o.op ≠ .defer c) {Q : Exit → Act → World → Prop} : ∀ {fps : List FP} {x y : X} {a : Act} {w : World}, XRun P E Γ G.lo base N ops fps x y → SX P N G (x.st base dfr) a w →
    (∀ a w, SX P N G (y.st base dfr) a w → Q .normal a w) → wpOpsIn Fw r P ops Q (fps.map (·.i)) a w
  | [], x, y, a, w, h, hs, hQ => by cases h; exact hQ _ _ hs
  | f :: l, x, y, a, w, h, hs, hQ => by
    obtain ⟨o, x1, h1, h2, h3⟩ := h
    rw [List.map_cons, wpOpsIn_cons]
    exact wpOpIn_mono (fun a w hx => wpOpsIn_of_XRun hE hnd h3 hx hQ) (stepX_sound hE h1 (hnd _ _ h1) h2 hs)

theorem wpAnyIn_of_XRun (hE : Env P E Γ G Fw) (hnd : ∀ (i : Nat) (o : Oper), ops[i]? = some o → ∀ c, o.op ≠ .defer c) (hed : edgesOk ops = true) {Q : Exit → Act → World → Prop} {y : X} (hQ : ∀ a w, SX P N G (y.st base dfr) a w → Q .normal a w) :
    ∀ (n : Nat) {l : List FP} {listed : Array Bool} {x : X} {a : Act} {w : World}, l.length = n → (l.map (·.i)).Pairwise (· < ·) → (∀ f ∈ l, f.i < ops.size) → (∀ i, i < ops.size → (listed.getD i true = false ↔ i ∈ l.map (·.i))) → listed.size = ops.size → Closed ops listed →
      l.Pairwise (fun f g => pairOk ops g f = true) → XRun P E Γ G.lo base N ops l x y → SX P N G (x.st base dfr) a w → wpAnyIn Fw r P .any ops Q n listed a w
  | 0, l, listed, x, a, w, hl, hs, hb, hu, hsz, hcl, hp, hr, hx => by
    have : l = [] := List.eq_nil_of_length_eq_zero hl
    subst this
    cases hr
    refine ⟨?_, hQ _ _ hx⟩
    refine List.eq_nil_iff_forall_not_mem.2 fun i hi => ?_
    obtain ⟨h1, o, h2, _⟩ := mem_ready.1 hi
    have := (hu i (Array.getElem?_eq_some_iff.1 h2).1).1 h1
    cases this
  | n + 1, l, listed, x, a, w, hl, hs, hb, hu, hsz, hcl, hp, hr, hx => by
    have listedOf : ∀ i, i < ops.size → i ∉ l.map (·.i) → listed.getD i false = true := fun i hi hn => by
      have h1 : ¬ listed.getD i true = false := fun e => hn ((hu i hi).1 e)
      have hlt : i < listed.size := by omega
      simp [Array.getD_eq_getD_getElem?, hlt] at h1 ⊢
      exact h1
    refine ⟨fun h0 => ?_, fun i hi => ?_⟩
    · exfalso
      cases l with
      | nil => cases hl
      | cons f l =>
        have hf : f.i < ops.size := hb f (List.mem_cons_self ..)
        have : f.i ∈ Region.ready .any ops listed := mem_ready.2 ⟨(hu _ hf).2 (by simp), ops[f.i], Array.getElem?_eq_getElem hf, fun e he hbd => by
          have hlt := edgesOk_spec hed (Array.getElem?_eq_getElem hf) e he hbd
          refine listedOf e.on (by omega) fun hm => ?_
          rw [List.map_cons, List.pairwise_cons] at hs
          rw [List.map_cons, List.mem_cons] at hm
          rcases hm with hm | hm
          · omega
          · have := hs.1 _ hm; omega⟩
        rw [h0] at this; cases this
    · obtain ⟨h1, o, h2, h3⟩ := mem_ready.1 hi
      have him := (hu i (Array.getElem?_eq_some_iff.1 h2).1).1 h1
      obtain ⟨g, hg, rfl⟩ := List.mem_map.1 him
      obtain ⟨l1, l2, rfl⟩ := List.append_of_mem hg
      have hr' := XRun_first hr (fun f hf => by
        have hpf : pairOk ops g f = true := by
          rw [List.pairwise_append] at hp
          exact hp.2.2 f hf g (List.mem_cons_self ..)
        unfold pairOk at hpf
        rw [h2] at hpf
        have hfs : f.i < ops.size := hb f (by simp [hf])
        rw [Array.getElem?_eq_getElem hfs] at hpf
        simp only at hpf
        have hw : waitsT ops ops.size g.i f.i = false := by
          cases hq : waitsT ops ops.size g.i f.i with
          | false => rfl
          | true =>
            have := waitsT_listed hcl _ _ _ hq (fun o' ho' e he hbd => by rw [h2] at ho'; cases ho'; exact h3 e he hbd)
            have h4 := (hu f.i hfs).2 (by simp only [List.map_append, List.mem_append]; exact .inl (List.mem_map.2 ⟨f, hf, rfl⟩))
            have hlt : f.i < listed.size := by omega
            simp [Array.getD_eq_getD_getElem?, hlt] at this h4
            rw [this] at h4; cases h4
        rw [hw] at hpf
        simp only [Bool.or_false, Bool.and_eq_true] at hpf
        exact ⟨_, o, Array.getElem?_eq_getElem hfs, h2, hpf.1.2, hpf.1.1, hpf.2.1.1, hpf.2.1.2, hpf.2.2⟩)
      obtain ⟨o', x1, q1, q2, q3⟩ := hr'
      rw [h2] at q1; cases q1
      refine wpOpIn_mono (fun a' w' hx' => ?_) (stepX_sound hE h2 (hnd _ _ h2) q2 hx)
      have hsub : (l1 ++ l2).Sublist (l1 ++ g :: l2) := List.Sublist.append_left (List.sublist_cons_self _ _) _
      refine wpAnyIn_of_XRun hE hnd hed hQ n (l := l1 ++ l2) (by simp at hl ⊢; omega) (hs.sublist (hsub.map _)) (fun f hf => hb f (hsub.subset hf)) (fun i hi' => ?_) (by simpa using hsz) ?_ (hp.sublist hsub) q3 hx'
      · have hgn : g.i ∉ (l1 ++ l2).map (·.i) := by
          have := hs.imp (fun {a b} (h : a < b) => Nat.ne_of_lt h)
          rw [List.map_append, List.map_cons, List.pairwise_append, List.pairwise_cons] at this
          rw [List.map_append, List.mem_append]
          rintro (hm | hm)
          · exact this.2.2 _ hm _ (List.mem_cons_self ..) rfl
          · exact this.2.1.1 _ hm rfl
        by_cases hig : g.i = i
        · subst hig
          have hlt : g.i < listed.size := by omega
          simp only [hgn, iff_false]
          simp [Array.getD_eq_getD_getElem?, hlt]
        · rw [getD_set_ne true hig, hu i hi']
          simp only [List.map_append, List.map_cons, List.mem_append, List.mem_cons]
          constructor
          · rintro (h | h | h)
            · exact .inl h
            · exact absurd h.symm hig
            · exact .inr h
          · rintro (h | h)
            · exact .inl h
            · exact .inr (.inr h)
      · intro i' o' ho' hli e he hbd
        have keep : ∀ k, listed.getD k false = true → (listed.setIfInBounds g.i true).getD k false = true := fun k hk => by
          by_cases hgk : g.i = k
          · subst hgk
            have hgs : g.i < listed.size := by
              rw [hsz]; exact (Array.getElem?_eq_some_iff.1 h2).1
            simp [Array.getD_eq_getD_getElem?, hgs]
          · rw [getD_set_ne false hgk]; exact hk
        by_cases hgi : g.i = i'
        · subst hgi
          rw [h2] at ho'; cases ho'
          exact keep _ (h3 e he hbd)
        · rw [getD_set_ne false hgi] at hli
          exact keep _ (hcl i' o' ho' hli e he hbd)

theorem logOk_pairwise : ∀ {l : List FP}, logOk ops l = true → l.Pairwise (fun f g => pairOk ops f g = true)
  | [], _ => .nil
  | f :: l, h => by
    simp only [logOk, Bool.and_eq_true, List.all_eq_true] at h
    exact .cons h.1 (logOk_pairwise h.2)

end Go.Dm

/- The kit's rules of the walk, for frames of one function. -/
namespace Go.Dm
variable {P : Program} {F : Fence} {n : Nat} {fid : FuncId} {Q Q' : Exit → Act → World → Prop} {a : Act} {w : World}

/-- Code of a frame of this function. -/
def wpB (fid : FuncId) (F : Fence) (n : Nat) (P : Program) (c : Code) (Q : Exit → Act → World → Prop) (a : Act) (w : World) : Prop :=
  ∀ (b : Frame) (k : List Item) (cs : List Frame), b.fn = fid → b.roundOf = F.round → F.fn b.fn → F.room (cs.length + 1 + n) →
    ∃ e a' w', Q e a' w' ∧ ArrivesIn (Machine.fenced P F) P (lone (b.atR a (.code c :: k)) cs w) b k cs e a' w'

theorem wpB_of {c : Code} (h : c.wpIn F n P Q a w) : wpB fid F n P c Q a w := fun b k cs _ => h b k cs

theorem wpB_mono {c : Code} (h : wpB fid F n P c Q a w) (hq : ∀ e a w, Q e a w → Q' e a w) : wpB fid F n P c Q' a w :=
  fun b k cs hf hro hb hr => let ⟨e, a', w', q, r⟩ := h b k cs hf hro hb hr; ⟨e, a', w', hq _ _ _ q, r⟩

theorem wpB_seq {x y : Code} (h : wpB fid F n P x (Exit.then (wpB fid F n P y Q) Q) a w) : wpB fid F n P (.seq x y) Q a w := by
  intro b k cs hf hro hb hr
  have h0 : (lone (b.atR a (.code (.seq x y) :: k)) cs w).fenced P F := fenced_calm hb hr rfl
  obtain ⟨e, a₁, w₁, hq, harr⟩ := h b (.code y :: k) cs hf hro hb hr
  cases e with
  | normal =>
    obtain ⟨e₂, a₂, w₂, hq₂, harr₂⟩ := hq b k cs hf hro hb hr
    exact ⟨e₂, a₂, w₂, hq₂, .of_steps (.head h0 stepR_seq harr) harr₂⟩
  | exit id => exact ⟨_, a₁, w₁, hq, .of_steps (.one h0 stepR_seq) (.pass (x := .code y) rfl (fun _ _ => .inl (by simp)) harr)⟩
  | goto l => exact ⟨_, a₁, w₁, hq, .of_steps (.one h0 stepR_seq) (.pass (x := .code y) rfl (fun _ _ => .inl (by simp)) harr)⟩
  | ret => exact ⟨_, a₁, w₁, hq, .of_steps (.one h0 stepR_seq) (.pass (x := .code y) rfl (fun _ _ => .inl (by simp)) harr)⟩
  | panic ch => exact ⟨_, a₁, w₁, hq, .of_steps (.one h0 stepR_seq) (.pass (x := .code y) rfl (fun _ _ => .inl (by simp)) harr)⟩
  | outgrown => exact ⟨_, a₁, w₁, hq, .of_steps (.one h0 stepR_seq) (.pass (x := .code y) rfl (fun _ _ => .inl (by simp)) harr)⟩

theorem wpB_cond {c : Operand} {x y : Code} {t : Bool} (hc : a.eval c = .bool t) (h : wpB fid F n P (if t then x else y) Q a w) : wpB fid F n P (.cond c x y) Q a w :=
  fun b k cs hf hro hb hr => let ⟨e, a', w', q, r⟩ := h b k cs hf hro hb hr; ⟨e, a', w', q, .of_steps (.one (fenced_calm hb hr rfl) (stepR_cond hc)) r⟩
theorem wpB_cond_true {c : Operand} {x y : Code} (hc : a.eval c = .bool true) (h : wpB fid F n P x Q a w) : wpB fid F n P (.cond c x y) Q a w := wpB_cond hc h
theorem wpB_cond_false {c : Operand} {x y : Code} (hc : a.eval c = .bool false) (h : wpB fid F n P y Q a w) : wpB fid F n P (.cond c x y) Q a w := wpB_cond hc h

theorem wpB_block {id : Nat} {c : Code} (h : wpB fid F n P c (Exit.inBlock id Q) a w) : wpB fid F n P (.block id c) Q a w := by
  intro b k cs hf hro hb hr
  have h0 : (lone (b.atR a (.code (.block id c) :: k)) cs w).fenced P F := fenced_calm hb hr rfl
  obtain ⟨e, a₁, w₁, hq, harr⟩ := h b (.inBlock id :: k) cs hf hro hb hr
  cases e with
  | normal => exact ⟨.normal, a₁, w₁, hq, .head h0 stepR_block (StepsIn.trans harr (.one (fenced_calm hb hr rfl) stepR_inBlock))⟩
  | exit id' =>
    by_cases hid : id' = id
    · simp only [Exit.inBlock, hid, if_true] at hq
      exact ⟨.normal, a₁, w₁, hq, .head h0 stepR_block (harr.1 k (by simp [exitTo, hid]))⟩
    · simp only [Exit.inBlock, hid, if_false] at hq
      have this : (id == id') = false := by simp; exact fun h => hid h.symm
      have hx : exitTo id' (.inBlock id :: k) = exitTo id' k := by simp [exitTo, this]
      exact ⟨.exit id', a₁, w₁, hq, fun k' hk => .head h0 stepR_block (harr.1 k' (by rw [hx]; exact hk)),
        fun hr' hk => let ⟨k₁, h1, h2⟩ := harr.2 hr' (by rw [hx]; exact hk); ⟨k₁, h1, .head h0 stepR_block h2⟩⟩
  | goto l =>
    have hx : gotoIn l (.inBlock id :: k) = gotoIn l k := by simp [gotoIn]
    exact ⟨_, a₁, w₁, hq, fun k' hk => .head h0 stepR_block (harr.1 k' (by rw [hx]; exact hk)),
      fun hr' hk => let ⟨k₁, h1, h2⟩ := harr.2 hr' (by rw [hx]; exact hk); ⟨k₁, h1, .head h0 stepR_block h2⟩⟩
  | ret => exact ⟨_, a₁, w₁, hq, .of_steps (.one h0 stepR_block) harr⟩
  | panic ch => exact ⟨_, a₁, w₁, hq, .of_steps (.one h0 stepR_block) harr⟩
  | outgrown => exact ⟨_, a₁, w₁, hq, .of_steps (.one h0 stepR_block) harr⟩

theorem stepR_scope {b : Frame} {k : List Item} {cs : List Frame} {c : Code} : step P (lone (b.atR a (.code (.scope c) :: k)) cs w) = .next (lone (b.atR a (.code c :: .inScope c :: k)) cs w) :=
  step_lone_go (by simp [stepG, stepG.exec, Frame.atR])
theorem stepR_inScope {b : Frame} {k : List Item} {cs : List Frame} {c : Code} : step P (lone (b.atR a (.inScope c :: k)) cs w) = .next (lone (b.atR a k) cs w) :=
  step_lone_go (by simp [stepG, stepG.exec, Frame.atR])

theorem wpB_scope_straight {c : Code} (h : wpB fid F n P c (Exit.noGoto Q) a w) : wpB fid F n P (.scope c) Q a w := by
  intro b k cs hf hro hb hr
  have h0 : (lone (b.atR a (.code (.scope c) :: k)) cs w).fenced P F := fenced_calm hb hr rfl
  obtain ⟨e, a₁, w₁, hq, harr⟩ := h b (.inScope c :: k) cs hf hro hb hr
  cases e with
  | normal =>
    exact ⟨.normal, a₁, w₁, hq, .head h0 stepR_scope (StepsIn.trans harr (.one (fenced_calm hb hr rfl) stepR_inScope))⟩
  | exit id =>
    have hx : exitTo id (.inScope c :: k) = exitTo id k := by simp [exitTo]
    exact ⟨.exit id, a₁, w₁, hq, fun k' hk => .head h0 stepR_scope (harr.1 k' (by rw [hx]; exact hk)),
        fun hr' hk => let ⟨k₁, h1, h2⟩ := harr.2 hr' (by rw [hx]; exact hk); ⟨k₁, h1, .head h0 stepR_scope h2⟩⟩
  | goto l => exact hq.elim
  | ret => exact ⟨_, a₁, w₁, hq, .of_steps (.one h0 stepR_scope) harr⟩
  | panic ch => exact ⟨_, a₁, w₁, hq, .of_steps (.one h0 stepR_scope) harr⟩
  | outgrown => exact ⟨_, a₁, w₁, hq, .of_steps (.one h0 stepR_scope) harr⟩

def roundsB (fid : FuncId) (F : Fence) (n : Nat) (P : Program) (c : Code) (Q : Exit → Act → World → Prop) : Nat → Act → World → Prop
  | 0, _, _ => False
  | m + 1, a, w => wpB fid F n P c (Exit.then (roundsB fid F n P c Q m) Q) a w

theorem wpB_loop_rounds {c : Code} (m : Nat) (h : roundsB fid F n P c Q m a w) : wpB fid F n P (.loop c) Q a w := by
  intro b k cs hf hro hb hr
  have key : ∀ m a w, roundsB fid F n P c Q m a w →
      ∃ e a' w', Q e a' w' ∧ ArrivesIn (Machine.fenced P F) P (lone (b.atR a (.code c :: .inLoop c :: k)) cs w) b k cs e a' w' := by
    intro m
    induction m with
    | zero => intro a w h; exact h.elim
    | succ m ih =>
      intro a w h
      obtain ⟨e, a₁, w₁, hq, harr⟩ := h b (.inLoop c :: k) cs hf hro hb hr
      cases e with
      | normal =>
        obtain ⟨e₂, a₂, w₂, hq₂, harr₂⟩ := ih a₁ w₁ hq
        exact ⟨e₂, a₂, w₂, hq₂, .of_steps (StepsIn.trans harr (.one (fenced_calm hb hr rfl) stepR_inLoop)) harr₂⟩
      | exit id => exact ⟨_, a₁, w₁, hq, .pass (x := .inLoop c) rfl (fun _ _ => .inl (by simp)) harr⟩
      | goto l => exact ⟨_, a₁, w₁, hq, .pass (x := .inLoop c) rfl (fun _ _ => .inl (by simp)) harr⟩
      | ret => exact ⟨_, a₁, w₁, hq, .pass (x := .inLoop c) rfl (fun _ _ => .inl (by simp)) harr⟩
      | panic ch => exact ⟨_, a₁, w₁, hq, .pass (x := .inLoop c) rfl (fun _ _ => .inl (by simp)) harr⟩
      | outgrown => exact ⟨_, a₁, w₁, hq, .pass (x := .inLoop c) rfl (fun _ _ => .inl (by simp)) harr⟩
  obtain ⟨e, a', w', hq, harr⟩ := key m a w h
  exact ⟨e, a', w', hq, .of_steps (.one (fenced_calm hb hr rfl) stepR_loop) harr⟩

theorem callsIn_of_wpB {fn : Func} {c : Code} {args : Array Value} {w : World} {R : Ending → World → Prop}
    (hf : P.funcs[fid]? = some fn) (hb : fn.body = some c) (hF : F.fn fid)
    (h : wpB fid F n P c (bodyPostM F n P fn R) { tmps := args ++ Array.replicate (fn.ntmps - args.size) undef, defers := [] } w) (hro : F.round = none := by rfl) : CallsIn F n P fid args w R := by
  refine ⟨hF, fun cs hr => ?_⟩
  let b : Frame := { (default : Frame) with fn := fid, kind := .normal, roundOf := none }
  have henter : Frame.enter P fid args .normal =
      b.atR { tmps := args ++ Array.replicate (fn.ntmps - args.size) undef, defers := [] } [.code c] := by
    simp [Frame.enter, Frame.atR, hf, hb, b]
  obtain ⟨e, a', w', hq, harr⟩ := h b [] cs rfl hro.symm hF hr
  rw [← henter] at harr
  cases e with
  | normal =>
    obtain ⟨e', w'', fr', hR, hs, hfn, hl⟩ := leaves_stepsInM a'.defers .returning w' { b.atR a' [] with mode := .returning } cs rfl rfl rfl hf rfl hF hr hq
    exact ⟨e', w'', fr', hR, ComesIn.of_steps (StepsIn.trans harr (.one (fenced_calm (fr := b.atR a' []) hF hr rfl) (stepR_end rfl))) hs, hfn, hl⟩
  | ret =>
    obtain ⟨todo, hs₀⟩ := harr.1 rfl
    obtain ⟨e', w'', fr', hR, hs, hfn, hl⟩ := leaves_stepsInM a'.defers .returning w' { b.atR a' todo with mode := .returning } cs rfl rfl rfl hf rfl hF hr hq
    exact ⟨e', w'', fr', hR, ComesIn.of_steps hs₀ hs, hfn, hl⟩
  | panic chain =>
    obtain ⟨todo, hs₀⟩ := harr
    obtain ⟨e', w'', fr', hR, hs, hfn, hl⟩ := leaves_stepsInM a'.defers (.panicking chain) w' { b.atR a' todo with mode := .panicking chain } cs rfl rfl rfl hf rfl hF hr hq
    exact ⟨e', w'', fr', hR, ComesIn.of_steps hs₀ hs, hfn, hl⟩
  | exit id => exact hq.elim
  | goto l => exact hq.elim
  | outgrown => exact ⟨.outgrown, w', b, hq, harr.resolve_left (by simp [b]), rfl, trivial⟩

end Go.Dm

/- What nobody turns any more becomes stable. -/
namespace Go.Dm
open Go.RowKit
variable {P : Program} {N : Nat} {G : Gh} {S S' : CS} {w w' : World} {s : St} {a : Act} {ρ ρ' : Rho} {F F' : Nat → Prop} {heap heap' : Nat → DObj} {Y : Value} {E : TCtx} {Γ : Ctx} {Fw : Fence} {r : Nat} {ops : Array Oper} {lo base : Nat} {dfr : List Dfr}

/-- An object's block becomes stable, so far as m says. -/
theorem SR.gone (hG : G.Ok P) (h : SR P N G s a w ρ S F) {id b m : Nat} (hl : live (s.heap id)) (hc : isChain (s.heap id) = false) (hb : ρ id = some b) :
    SR P N G { s with heap := setHeap s.heap id .gone } a w ρ (fun b' o => S b' o ∨ (b' = b ∧ o < m)) F := by
  have hlt := (h.blk_lt hl hb).1
  have ex : Ext0 S w (fun b' o => S b' o ∨ (b' = b ∧ o < m)) w := ⟨Nat.le_refl _, fun _ _ q => .inl q, fun _ _ _ => rfl, fun _ _ _ _ _ q => q, fun b' o q => by
    rcases q with q | q
    · exact h.bd b' o q
    · omega, .refl w⟩
  refine h.turn hG hl hb ex (Same.refl _ _) rfl (fun k i q => q.imp (fun x => x) (fun x => x.1)) ?_ trivial
  cases ho : s.heap id with
  | none => rw [ho] at hl; exact hl.elim
  | gone => rw [ho] at hl; exact hl.elim
  | box ds => exact .inl rfl
  | chain _ _ _ _ => rw [ho] at hc; cases hc
  | row cur T e s' => exact .inl rfl
  | mp k v m => exact .inl rfl

/-- A row that has no place yet. -/
theorem SR.goneN (hG : G.Ok P) (h : SR P N G s a w ρ S F) {id cur : Nat} {T : TypeId} {e : Ty} {x : Sl e.den} (ho : s.heap id = .row cur T e x) (hb : ρ id = none) :
    SR P N G { s with heap := setHeap s.heap id .gone } a w ρ S F := by
  have hk : ∀ j, Kept w w ρ ρ j (s.heap j) (setHeap s.heap id .gone j) := fun j => by
    by_cases hj : j = id
    · subst hj; simp only [setHeap, Nat.beq_refl, cond_true]; rw [ho]; exact .inl rfl
    · simp only [setHeap, beq_ne hj, cond_false]
      exact .refl rfl fun b hb hl => rfl
  have hl : ∀ j, live (setHeap s.heap id .gone j) → live (s.heap j) := fun j hj => by
    by_cases hjd : j = id
    · subst hjd; simp only [setHeap, Nat.beq_refl, cond_true] at hj; exact hj.elim
    · simpa only [setHeap, beq_ne hjd, cond_false] using hj
  refine ⟨h.size, h.dfr.tr hk (fun D hF hD => ⟨hD, hF⟩), fun t => (h.env t).tr (.refl h.bd) hk, fun j => ?_, fun i j b hi hj h1 h2 => h.inj i j b (hl i hi) (hl j hj) h1 h2, h.ext, h.new, h.same, h.tr, h.fb, h.f0, h.sub, h.fs, fun j b hj => ⟨(h.pins j b hj).1, ?_⟩⟩
  · by_cases hj : j = id
    · subst hj; simp only [setHeap, Nat.beq_refl, cond_true]; trivial
    · simp only [setHeap, beq_ne hj, cond_false]
      exact (h.obj j).tr (.refl h.bd) hk rfl fun b hb hl => ⟨rfl, fun i q => q, fun x => x⟩
  · by_cases hjd : j = id
    · subst hjd; simp only [setHeap, Nat.beq_refl, cond_true]; rfl
    · simp only [setHeap, beq_ne hjd, cond_false]; exact (h.pins j b hj).2

/-- A row becomes stable: the object is gone, and each value that is this row is data. -/
theorem SR.freeze (hG : G.Ok P) (h : SR P N G s a w ρ S F) {id cur : Nat} {T : TypeId} {e : Ty} {x : Sl e.den} (ho : s.heap id = .row cur T e x) :
    ∃ S', SR P N G { s with heap := setHeap s.heap id .gone } a w ρ S' F ∧ Ext0 S w S' w ∧ (∀ id', Kept w w ρ ρ id' (s.heap id') (setHeap s.heap id .gone id')) ∧
      ∀ v, RC P G.Y S w s.heap ρ (.row id cur) v → RC P G.Y S' w (setHeap s.heap id .gone) ρ (.pc (.sl e) x) v := by
  have hkp : ∀ id', Kept w w ρ ρ id' (s.heap id') (setHeap s.heap id .gone id') := fun j => by
    by_cases hj : j = id
    · subst hj; simp only [setHeap, Nat.beq_refl, cond_true]; rw [ho]; exact .inl rfl
    · simp only [setHeap, beq_ne hj, cond_false]; exact .refl rfl fun b hb hl => rfl
  have hobj := h.obj id
  rw [ho] at hobj
  obtain ⟨⟨hfl, hpos⟩, ⟨hb, hn⟩ | ⟨b, arr, hb, halw, hh, hsz, hcells, hS⟩⟩ := hobj
  · refine ⟨S, h.goneN hG ho hb, .refl h.bd, hkp, fun v hv => ⟨rfl, ?_⟩⟩
    obtain ⟨_, _, hv⟩ := hv
    rcases (hv _ _ _ _ ho).2 rfl with ⟨_, a0, q⟩ | ⟨b, cap, q, _⟩
    · exact .inl ⟨hn, a0, 0, by rw [q]⟩
    · rw [hb] at q; cases q
  · have q := h.gone hG (m := arr.size) (by rw [ho]; trivial) (by rw [ho]; rfl) hb
    have ex : Ext0 S w (fun b' o => S b' o ∨ (b' = b ∧ o < arr.size)) w := ⟨Nat.le_refl _, fun _ _ q => .inl q, fun _ _ _ => rfl, fun _ _ _ _ _ q => q, q.bd, .refl w⟩
    refine ⟨_, q, ex, hkp, fun v hv => ⟨rfl, ?_⟩⟩
    obtain ⟨_, _, hv⟩ := hv
    rcases (hv _ _ _ _ ho).2 rfl with ⟨hn, a0, q⟩ | ⟨b', cap, q1, q2, q3, q4, _, _⟩
    · exact .inl ⟨hn, a0, 0, by rw [q]⟩
    rw [hb] at q1; cases q1
    refine .inr ⟨b, 0, cap, by rw [q2], q3, q4, fun i hi => ?_⟩
    obtain ⟨us, u1, u2, u3⟩ := hcells i hi
    refine ⟨us, u1.mono ex, u2, fun j v hj => ?_⟩
    have hjl : j < e.cells := by
      have := (List.getElem?_eq_some_iff.1 hj).1
      omega
    have hile : i * e.cells + e.cells ≤ x.n * e.cells := by rw [← Nat.succ_mul]; exact Nat.mul_le_mul_right _ hi
    refine ⟨.inr ⟨rfl, by omega⟩, ?_⟩
    rw [cell_of_row w b _ arr T _ hh, Nat.zero_add]
    exact u3 j v hj

theorem SR.setEnv (h : SR P N G s a w ρ S F) {t : Nat} {sl : Slot} (hr : RS P G.Y S w s.heap ρ sl (a.tmps.getD t undef)) : SR P N G { s with env := setEnv s.env t sl } a w ρ S F := by
  refine ⟨h.size, h.dfr, fun u => ?_, h.obj, h.inj, h.ext, h.new, h.same, h.tr, h.fb, h.f0, h.sub, h.fs, h.pins⟩
  by_cases hu : u = t
  · subst hu; simpa only [Go.Dm.setEnv, Nat.beq_refl, cond_true] using hr
  · simpa only [Go.Dm.setEnv, beq_ne hu, cond_false] using h.env u

theorem SX.frz1 (hG : G.Ok P) (h : SX P N G s a w) (t : Nat) : SX P N G (frz1 s t) a w := by
  unfold Go.Dm.frz1
  split
  · rename_i id ht
    split
    · rename_i ds ho
      split
      · rename_i τ hc
        split
        · rename_i x hx
          obtain ⟨ρ, S, F, h⟩ := h
          have hp := h.env t
          rw [ht] at hp
          obtain ⟨b, arr, T, hb, hv, hh, hr⟩ := box_obj h ho hp
          have q := h.gone hG (m := arr.size) (by rw [ho]; trivial) (by rw [ho]; rfl) hb
          refine ⟨ρ, _, F, (q.setEnv (t := t) (sl := .v (.pc (.ptr τ) x)) ⟨rfl, b, 0, arr.toList, by rw [hv], ?_, ?_, fun j v hj => ?_⟩).of_eq rfl rfl rfl rfl⟩
          · exact (ofCells_R hr hx).mono ⟨Nat.le_refl _, fun _ _ q => .inl q, fun _ _ _ => rfl, fun _ _ _ _ _ q => q, q.bd, .refl w⟩
          · exact R.len (ofCells_R hr hx)
          · have hj' : j < arr.size := by have := (List.getElem?_eq_some_iff.1 hj).1; simpa using this
            refine ⟨.inr ⟨rfl, by omega⟩, ?_⟩
            rw [cell_of_row w b (0 + j) arr T _ hh, Nat.zero_add, ← Array.getElem?_toList]
            exact hj
        · exact h
      · exact h
    · exact h
  · exact h

theorem SX.frzRow (hG : G.Ok P) (h : SX P N G s a w) (t : Nat) : SX P N G (frzRow s t) a w := by
  unfold Go.Dm.frzRow
  split
  · rename_i id ver ht
    split
    · rename_i cur T e x ho
      split
      · rename_i hve
        cases Nat.eq_of_beq_eq_true hve
        obtain ⟨ρ, S, F, h⟩ := h
        have hp := h.env t
        rw [ht] at hp
        obtain ⟨S', q, _, _, hq⟩ := h.freeze hG ho
        exact ⟨ρ, S', F, (q.setEnv (t := t) (sl := .v (.pc (.sl e) x)) (hq _ hp)).of_eq rfl rfl rfl rfl⟩
      · exact h
    · exact h
  · rename_i id ht
    split
    · rename_i k v m ho
      obtain ⟨ρ, S, F, h⟩ := h
      have hp := h.env t
      rw [ht] at hp
      obtain ⟨_, _, hp⟩ := hp
      obtain ⟨b, hb, hv⟩ := hp _ _ _ ho
      have hobj := h.obj id
      rw [ho] at hobj
      obtain ⟨b', es, c, hb', halw, hh, ⟨p1, p2, p3, p4⟩, hm, hS⟩ := hobj
      rw [hb] at hb'; cases hb'
      have q := h.gone hG (m := 1) (by rw [ho]; trivial) (by rw [ho]; rfl) hb
      exact ⟨ρ, _, F, (q.setEnv (t := t) (sl := .v (.pc (.map k v) m)) ⟨rfl, p1, p2, p3, p4, .inr ⟨b, es, c, by rw [hv], .inr ⟨rfl, by omega⟩, hh, hm⟩⟩).of_eq rfl rfl rfl rfl⟩
    · exact h
  · exact h

theorem Kept.trans {w1 w2 w3 : World} {ρ1 ρ2 ρ3 : Rho} {id : Nat} {o1 o2 o3 : DObj} (h : Kept w1 w2 ρ1 ρ2 id o1 o2) (h' : Kept w2 w3 ρ2 ρ3 id o2 o3) : Kept w1 w3 ρ1 ρ3 id o1 o3 := by
  cases o1 with
  | none => trivial
  | gone => rw [show o2 = _ from h] at h'; exact h'
  | box ds =>
    rcases h with rfl | ⟨⟨ds', rfl⟩, e⟩
    · exact .inl h'
    · rcases h' with rfl | ⟨⟨ds', rfl⟩, e'⟩
      · exact .inl rfl
      · exact .inr ⟨⟨_, rfl⟩, e'.trans e⟩
  | chain cur T k n =>
    obtain ⟨c2, n2, rfl, l2, q2⟩ := h
    obtain ⟨c3, n3, rfl, l3, q3⟩ := h'
    refine ⟨c3, n3, rfl, by omega, fun e => ?_⟩
    obtain ⟨a1, a2, a3⟩ := q2 (by omega)
    obtain ⟨b1, b2, b3⟩ := q3 (by omega)
    refine ⟨by omega, b2.trans a2, fun b hb arr T hh => ?_⟩
    have h2 := a3 b hb arr T hh
    exact (b3 b (a2.trans hb) arr T (h2.trans hh)).trans h2
  | row cur T e s =>
    rcases h with rfl | ⟨c2, s2, rfl, l2, q2⟩
    · exact .inl h'
    rcases h' with rfl | ⟨c3, s3, rfl, l3, q3⟩
    · exact .inl rfl
    refine .inr ⟨c3, s3, rfl, by omega, fun e => ?_⟩
    obtain ⟨a1, a2⟩ := q2 (by omega)
    obtain ⟨b1, b2⟩ := q3 (by omega)
    refine ⟨by omega, ?_⟩
    rcases a2 with a2 | ⟨a2, a3⟩
    · rcases b2 with b2 | ⟨b2, b3⟩
      · exact .inl (b2.trans a2)
      · exact .inr ⟨by omega, a2.symm.trans b3⟩
    · exact .inr ⟨a2, a3⟩
  | mp k v m =>
    rcases h with rfl | ⟨⟨m', rfl⟩, e⟩
    · exact .inl h'
    · rcases h' with rfl | ⟨⟨m', rfl⟩, e'⟩
      · exact .inl rfl
      · exact .inr ⟨⟨_, rfl⟩, e'.trans e⟩

theorem frzCells_box : ∀ {ds : List DC} {h : Nat → DObj} {id : Nat} {ds0 : List DC}, h id = .box ds0 → (frzCells ds h).2 id = .box ds0
  | [], _, _, _, hb => hb
  | d :: ds, h, id, ds0, hb => by
    cases d with
    | row i ver =>
      cases ho : h i with
      | row cur T e x =>
        cases hve : Nat.beq ver cur with
        | true =>
          simp only [frzCells, ho, hve]
          refine frzCells_box (ds := ds) ?_
          have : id ≠ i := fun e => by subst e; rw [hb] at ho; cases ho
          simp only [setHeap, beq_ne this, cond_false]; exact hb
        | false => simp only [frzCells, ho, hve]; exact frzCells_box hb
      | _ => simp only [frzCells, ho]; exact frzCells_box hb
    | _ => simp only [frzCells]; exact frzCells_box hb

theorem frzCells_SR (hG : G.Ok P) : ∀ {ds : List DC} {s : St} {S : CS} {us : List Value}, SR P N G s a w ρ S F → RL (RC P G.Y S w s.heap ρ) ds us →
    ∃ S', SR P N G { s with heap := (frzCells ds s.heap).2 } a w ρ S' F ∧ Ext0 S w S' w ∧ (∀ id, Kept w w ρ ρ id (s.heap id) ((frzCells ds s.heap).2 id)) ∧ RL (RC P G.Y S' w (frzCells ds s.heap).2 ρ) (frzCells ds s.heap).1 us
  | [], s, S, us, h, hr => ⟨S, h.of_eq rfl rfl rfl rfl, .refl h.bd, fun id => .refl rfl fun _ _ _ => rfl, hr⟩
  | d :: ds, s, S, us, h, hr => by
    cases us with
    | nil => have := hr.1; cases this
    | cons u us =>
    obtain ⟨r1, r2⟩ := hr.of_cons
    have keep : ∃ S', SR P N G { s with heap := (frzCells ds s.heap).2 } a w ρ S' F ∧ Ext0 S w S' w ∧ (∀ id, Kept w w ρ ρ id (s.heap id) ((frzCells ds s.heap).2 id)) ∧ RL (RC P G.Y S' w (frzCells ds s.heap).2 ρ) (d :: (frzCells ds s.heap).1) (u :: us) := by
      obtain ⟨S', q1, q2, q3, q4⟩ := frzCells_SR hG h r2
      exact ⟨S', q1, q2, q3, .cons (r1.tr q2 q3) q4⟩
    cases d with
    | row id ver =>
      cases ho : s.heap id with
      | row cur T e x =>
        cases hve : Nat.beq ver cur with
        | true =>
          simp only [frzCells, ho, hve]
          cases Nat.eq_of_beq_eq_true hve
          obtain ⟨S1, q1, q2, q3, q4⟩ := h.freeze hG ho
          obtain ⟨S', p1, p2, p3, p4⟩ := frzCells_SR (s := { s with heap := setHeap s.heap id .gone }) hG q1 (r2.imp fun d u hd => hd.tr q2 q3)
          refine ⟨S', p1, q2.trans p2, fun i => ?_, .cons ((q4 _ r1).tr p2 p3) p4⟩
          exact Kept.trans (q3 i) (p3 i)
        | false => simp only [frzCells, ho, hve]; exact keep
      | _ => simp only [frzCells, ho]; exact keep
    | _ => simp only [frzCells]; exact keep

theorem SX.frzBox (hG : G.Ok P) (h : SX P N G s a w) (t : Nat) : SX P N G (frzBox s t) a w := by
  unfold Go.Dm.frzBox
  split
  · rename_i id ht
    split
    · rename_i ds ho
      split
      · obtain ⟨ρ, S, F, h⟩ := h
        have hobj := h.obj id
        rw [ho] at hobj
        obtain ⟨b, arr, T, hb, halw, hh, hr, hS⟩ := hobj
        obtain ⟨S', q1, q2, q3, q4⟩ := frzCells_SR hG h hr
        have hk := q3 id
        rw [ho] at hk
        rcases hk with hk | ⟨⟨ds', hk⟩, _⟩
        · -- the box itself is no row
          exfalso
          have := frzCells_box (ds := ds) (h := s.heap) (id := id) (ds0 := ds) ho
          rw [this] at hk; cases hk
        · have hb' := frzCells_box (ds := ds) (h := s.heap) (id := id) (ds0 := ds) ho
          have hS' : ∀ o, ¬ S' b o := by
            have := q1.obj id
            have h3 : ({ s with heap := (frzCells ds s.heap).2 } : St).heap id = .box ds := hb'
            rw [h3] at this
            obtain ⟨b2, _, _, e1, _, _, _, e2⟩ := this
            rw [hb] at e1; cases e1; exact e2
          have q := q1.turn hG (id := id) (b := b) (o := .box (frzCells ds s.heap).1) (by show live ((frzCells ds s.heap).2 id); rw [hb']; trivial) hb (.refl q1.bd) (Same.refl _ _) rfl (fun _ _ q => .inl q)
            (by show Kept w w ρ ρ id ((frzCells ds s.heap).2 id) _; rw [hb']; exact .inr ⟨⟨_, rfl⟩, rfl⟩)
            (by
              refine ⟨b, arr, T, hb, halw, hh, q4.imp fun d u hd => hd.tr (.refl q1.bd) fun j => ?_, hS'⟩
              show Kept w w ρ ρ j ((frzCells ds s.heap).2 j) (setHeap (frzCells ds s.heap).2 id (.box (frzCells ds s.heap).1) j)
              by_cases hj : j = id
              · subst hj; simp only [setHeap, Nat.beq_refl, cond_true]; rw [hb']; exact .inr ⟨⟨_, rfl⟩, rfl⟩
              · simp only [setHeap, beq_ne hj, cond_false]; exact .refl rfl fun _ _ _ => rfl)
          exact ⟨ρ, S', F, q.of_eq rfl rfl rfl rfl⟩
      · exact h
    · exact h
  · exact h

theorem SX.frzBoxes (hG : G.Ok P) : ∀ (ts : List Nat) {s : St}, SX P N G s a w → SX P N G (frzBoxes s ts) a w
  | [], _, h => h
  | t :: ts, _, h => SX.frzBoxes hG ts (h.frzBox hG t)

theorem SX.frzTmps (hG : G.Ok P) : ∀ (ts : List Nat) {s : St}, SX P N G s a w → SX P N G (frzTmps s ts) a w
  | [], _, h => h
  | t :: ts, _, h => SX.frzTmps hG ts (h.frz1 hG t)
theorem SX.frzRows (hG : G.Ok P) : ∀ (ts : List Nat) {s : St}, SX P N G s a w → SX P N G (frzRows s ts) a w
  | [], _, h => h
  | t :: ts, _, h => SX.frzRows hG ts (h.frzRow hG t)
theorem SX.prep (hG : G.Ok P) (h : SX P N G s a w) : SX P N G (prep P E Γ s ops) a w := SX.frzTmps hG _ (SX.frzBoxes hG _ (SX.frzBoxes hG _ (SX.frzRows hG _ h)))

/-! ### Code -/

def OutOk (P : Program) (N : Nat) (G : Gh) : Out → Exit → Act → World → Prop
  | .norm s, .normal, a, w => SX P N G s a w
  | .exit id s, .exit id', a, w => id = id' ∧ SX P N G s a w
  | .ret s, .ret, a, w => SX P N G s a w
  | .pan d s, .panic ch, a, w => PanP P N G s a w d ch
  | _, _, _, _ => False

def Out.fine (G : Gh) : Out → Prop
  | .bad => False
  | .pan .yld s => YG G s
  | _ => True

/-- A loop comes to what its summary says. -/
def LoopOK (P : Program) (N : Nat) (G : Gh) (fid : FuncId) (Fw : Fence) (r : Nat) (c : Code) (f : St → Tree Out) : Prop :=
  ∀ (s : St) (a : Act) (w : World), SX P N G s a w → (∀ o, (f s).Has o → o.fine G) → wpB fid Fw r P c (fun e a' w' => ∃ o, (f s).Has o ∧ OutOk P N G o e a' w') a w

def LsOK (P : Program) (N : Nat) (G : Gh) (fid : FuncId) (Fw : Fence) (r : Nat) : Code → List Loop → Prop
  | .seq a b, ls => LsOK P N G fid Fw r a (ls.take (Code.loops a)) ∧ LsOK P N G fid Fw r b (ls.drop (Code.loops a))
  | .cond _ a b, ls => LsOK P N G fid Fw r a (ls.take (Code.loops a)) ∧ LsOK P N G fid Fw r b (ls.drop (Code.loops a))
  | .block _ b, ls => LsOK P N G fid Fw r b ls
  | .scope b, ls => LsOK P N G fid Fw r b ls
  | .loop b, ls => match ls with
    | .unroll _ inner :: _ => LsOK P N G fid Fw r b inner
    | .known f :: _ => LoopOK P N G fid Fw r (.loop b) f
    | [] => True
  | .rangeFunc g ps as b, ls => match ls with
    | .known f :: _ => LoopOK P N G fid Fw r (.rangeFunc g ps as b) f
    | _ => True
  | _, _ => True

theorem region_sound (hE : Env P E Γ G Fw) {β : Type} {T : β → Prop} {ch : β → β → β} (hch : ∀ a b, T (ch a b) → T a ∧ T b) {K : Out → β} (hbad : ¬ T (K .bad) ∧ ∀ s', T (K (.pan .yld s')) → YG G s') {id : Nat} {draw : Bool} {ls : List Loop}
    (hT : T (execK P E Γ G.lo N ch (.region id ops draw) ls s K)) (h : SX P N G s a w) :
    (Code.region id ops draw).wpIn Fw r P (fun e a' w' => ∃ o, OutOk P N G o e a' w' ∧ T (K o)) a w := by
  have h := h.prep (E := E) (Γ := Γ) (ops := ops) hE.gh
  cases draw with
  | false =>
    have hT : T (opsS P E Γ G.lo N ch ops ops.toList (prep P E Γ s ops) K) := hT
    refine wpIn_region ?_
    have := opsS_sound (Fw := Fw) (r := r) (ops := ops) hE hch hbad (Q := fun e a' w' => ∃ o, OutOk P N G o e a' w' ∧ T (K o)) (fun s' a' w' q1 q2 => ⟨.norm s', q2, q1⟩) (fun d s' c a' w' q1 q2 => ⟨.pan d s', q2, q1⟩) (l := ops.toList) (i := 0) (by simp) h hT
    rw [List.range_eq_range']
    simpa using this
  | true =>
    have hT : T (opsK P E Γ G.lo N ops ops.toList 0 [] (prep P E Γ s ops) (regK N ops K)) := hT
    generalize prep P E Γ s ops = s at hT h
    rcases opsK_spec (P := P) (E := E) (Γ := Γ) (N := N) (ops := ops) (lo := G.lo) (K := regK N ops K) (l := ops.toList) (i := 0) (log := []) (s := s) (by simp) with ⟨s', fps, h1, hb, hd, h2, h3⟩ | h3
    · rw [h3] at hT
      rw [List.append_nil] at hT
      have hlen : fps.length = ops.size := by have := congrArg List.length h2; simpa using this
      have hT : T (match edgesOk ops && logOk ops fps.reverse && noSel ops with
        | true => K (.norm (nextRegion N s'))
        | false => K .bad) := hT
      cases hc : (edgesOk ops && logOk ops fps.reverse && noSel ops) with
      | false => rw [hc] at hT; exact absurd hT hbad.1
      | true =>
        rw [hc] at hT
        simp only [Bool.and_eq_true] at hc
        obtain ⟨⟨c1, c2⟩, c3⟩ := hc
        have hnd : ∀ (i : Nat) (o : Oper), ops[i]? = some o → ∀ c, o.op ≠ .defer c := fun i o ho c e => by
          unfold noSel at c3
          rw [List.all_eq_true] at c3
          have := c3 o (Array.mem_toList_iff.2 (Array.mem_of_getElem? ho))
          rw [e] at this; cases this
        refine wpIn_region_any hE.mixed ?_
        have hdr : SX P N G (s.x.st s.base s.dfr) a { w with drawn := w.drawn + 1 } := by obtain ⟨ρ, S, F, q⟩ := h; exact ⟨ρ, S, F, (q.drew hE.gh.c).of_eq rfl rfl rfl rfl⟩
        refine wpAnyIn_of_XRun hE hnd c1 (y := s'.x) (base := s.base) (dfr := s.dfr) (fun a' w' q => ⟨.norm (nextRegion N s'), q.of_eq rfl rfl rfl hd, hT⟩) ops.size hlen ?_ ?_ ?_ (by simp) ?_ ?_ h1 hdr
        · rw [h2]; exact List.pairwise_lt_range' ..
        · intro f hf
          have : f.i ∈ List.range' 0 ops.toList.length := by rw [← h2]; exact List.mem_map.2 ⟨f, hf, rfl⟩
          rw [List.mem_range'_1] at this
          simpa using this.2
        · intro i hi
          rw [h2]
          simp [Array.getD_eq_getD_getElem?, hi, List.mem_range'_1]
        · intro i o ho hli
          have : i < ops.size := (Array.getElem?_eq_some_iff.1 ho).1
          simp [Array.getD_eq_getD_getElem?, this] at hli
        · have := logOk_pairwise c2
          rwa [List.pairwise_reverse] at this
    · rw [h3] at hT
      exact absurd hT hbad.1

end Go.Dm

/- Code does what its run over data comes to. -/
namespace Go.Dm
open Go.RowKit
variable {P : Program} {N : Nat} {G : Gh} {S S' : CS} {w w' : World} {s : St} {a : Act} {ρ ρ' : Rho} {F F' : Nat → Prop} {heap heap' : Nat → DObj} {Y : Value} {E : TCtx} {Γ : Ctx} {Fw : Fence} {r : Nat} {ops : Array Oper} {lo base : Nat} {dfr : List Dfr} {fid : FuncId}

theorem exec_sound (hE : Env P E Γ G Fw) : ∀ {c : Code} {ls : List Loop} {β : Type} {T : β → Prop} {ch : β → β → β} {K : Out → β} {s : St} {a : Act} {w : World}, (∀ a b, T (ch a b) → T a ∧ T b) → (¬ T (K .bad) ∧ ∀ s', T (K (.pan .yld s')) → YG G s') →
    T (execK P E Γ G.lo N ch c ls s K) → LsOK P N G fid Fw r c ls → SX P N G s a w → wpB fid Fw r P c (fun e a' w' => ∃ o, OutOk P N G o e a' w' ∧ T (K o)) a w
  | .skip, ls, β, T, ch, K, s, a, w, hch, hbad, hT, _, h => wpB_of <| wpIn_skip ⟨.norm s, h, hT⟩
  | .region id ops draw, ls, β, T, ch, K, s, a, w, hch, hbad, hT, _, h => wpB_of <| region_sound hE hch hbad hT h
  | .seq x y, ls, β, T, ch, K, s, a, w, hch, hbad, hT, hl, h => by
    refine wpB_seq (wpB_mono (exec_sound hE (K := seqK (fun s' => execK P E Γ G.lo N ch y (ls.drop (Code.loops x)) s' K) K) hch hbad hT hl.1 h) ?_)
    rintro e a' w' ⟨o, ho, hTo⟩
    cases o with
    | norm s' =>
      cases e <;> first | exact (ho.elim) | skip
      exact exec_sound hE hch hbad hTo hl.2 ho
    | exit id s' => cases e <;> first | exact ho.elim | exact ⟨_, ho, hTo⟩
    | ret s' => cases e <;> first | exact ho.elim | exact ⟨_, ho, hTo⟩
    | pan d s' => cases e <;> first | exact ho.elim | exact ⟨_, ho, hTo⟩
    | bad => cases e <;> exact ho.elim
  | .cond c x y, ls, β, T, ch, K, s, a, w, hch, hbad, hT, hl, h => by
    simp only [execK] at hT
    split at hT
    · rename_i t hc
      have h0 := h
      obtain ⟨ρ, S, F, hs⟩ := h
      have hcv := val_RS hE.fns hs c
      rw [hc] at hcv
      have hcb := RC_bool hcv
      have henv : ∀ u, c = .tmp u → ∀ b : Bool, t = b → setEnv s.env u (.v (.pc .bool b)) = s.env := fun u hu b hb => by
        subst hu hb; exact setEnv_self _ _ _ hc
      obtain hb | hb : t = true ∨ t = false := by
        have : (show Bool from t) = true ∨ (show Bool from t) = false := by cases (show Bool from t) <;> simp
        exact this
      · subst hb
        simp only [cond_true] at hT
        refine wpB_cond_true hcb (exec_sound hE hch hbad hT hl.1 ?_)
        cases c with
        | tmp u => exact h0.of_eq (henv u rfl true rfl) rfl rfl rfl
        | _ => exact h0
      · subst hb
        simp only [cond_false] at hT
        refine wpB_cond_false hcb (exec_sound hE hch hbad hT hl.2 ?_)
        cases c with
        | tmp u => exact h0.of_eq (henv u rfl false rfl) rfl rfl rfl
        | _ => exact h0
    · exact absurd hT hbad.1
  | .block id x, ls, β, T, ch, K, s, a, w, hch, hbad, hT, hl, h => by
    refine wpB_block (wpB_mono (exec_sound hE (K := blockK id K) hch hbad hT hl h) ?_)
    rintro e a' w' ⟨o, ho, hTo⟩
    cases o with
    | norm s' => cases e <;> first | exact ho.elim | exact ⟨_, ho, hTo⟩
    | exit id' s' =>
      cases e <;> first | exact ho.elim | skip
      rename_i id2
      obtain ⟨rfl, ho⟩ := ho
      simp only [Exit.inBlock]
      by_cases hid : id' = id
      · rw [if_pos hid]
        subst hid
        simp only [blockK, Nat.beq_refl] at hTo
        exact ⟨.norm s', ho, hTo⟩
      · rw [if_neg hid]
        simp only [blockK, beq_ne hid] at hTo
        exact ⟨.exit id' s', ⟨rfl, ho⟩, hTo⟩
    | ret s' => cases e <;> first | exact ho.elim | exact ⟨_, ho, hTo⟩
    | pan d s' => cases e <;> first | exact ho.elim | exact ⟨_, ho, hTo⟩
    | bad => cases e <;> exact ho.elim
  | .exit id, ls, β, T, ch, K, s, a, w, hch, hbad, hT, _, h => wpB_of <| wpIn_exit ⟨.exit id s, ⟨rfl, h⟩, hT⟩
  | .ret, ls, β, T, ch, K, s, a, w, hch, hbad, hT, _, h => wpB_of <| wpIn_ret ⟨.ret s, h, hT⟩
  | .label l, ls, β, T, ch, K, s, a, w, hch, hbad, hT, _, h => wpB_of <| wpIn_label ⟨.norm s, h, hT⟩
  | .scope x, ls, β, T, ch, K, s, a, w, hch, hbad, hT, hl, h => by
    refine wpB_scope_straight (wpB_mono (exec_sound hE hch hbad hT hl h) ?_)
    rintro e a' w' ⟨o, ho, hTo⟩
    cases e <;> first | exact ⟨o, ho, hTo⟩ | (cases o <;> exact ho.elim)
  | .rangeFunc g ps as b, ls, β, T, ch, K, s, a, w, hch, hbad, hT, hl, h => by
    cases ls with
    | nil => exact absurd hT hbad.1
    | cons l ls =>
      cases l with
      | known f =>
        have hT : T ((f s).run ch K) := hT
        have hall := Tree.run_has hch hT
        exact wpB_mono (hl s a w h (fun o ho => by
          cases o with
          | bad => exact absurd (hall _ ho) hbad.1
          | pan d s' => cases d <;> first | exact hbad.2 _ (hall _ ho) | trivial
          | _ => trivial)) (fun e a' w' ⟨o, q1, q2⟩ => ⟨o, q2, hall o q1⟩)
      | unroll n inner => exact absurd hT hbad.1
  | .loop b, ls, β, T, ch, K, s, a, w, hch, hbad, hT, hl, h => by
    cases ls with
    | nil => exact absurd hT hbad.1
    | cons l ls =>
      cases l with
      | known f =>
        have hT : T ((f s).run ch K) := hT
        have hall := Tree.run_has hch hT
        exact wpB_mono (hl s a w h (fun o ho => by
          cases o with
          | bad => exact absurd (hall _ ho) hbad.1
          | pan d s' => cases d <;> first | exact hbad.2 _ (hall _ ho) | trivial
          | _ => trivial)) (fun e a' w' ⟨o, q1, q2⟩ => ⟨o, q2, hall o q1⟩)
      | unroll n inner =>
        refine wpB_loop_rounds n ?_
        have key : ∀ (n : Nat) (s : St) (a : Act) (w : World), T (iterK (fun s' K' => execK P E Γ G.lo N ch b inner s' K') n s K) → SX P N G s a w →
            roundsB fid Fw r P b (fun e a' w' => ∃ o, OutOk P N G o e a' w' ∧ T (K o)) n a w := by
          intro n
          induction n with
          | zero => intro s a w hT _; exact absurd hT hbad.1
          | succ n ih =>
            intro s a w hT h
            unfold roundsB
            refine wpB_mono (exec_sound hE (K := seqK (fun s' => iterK (fun s' K' => execK P E Γ G.lo N ch b inner s' K') n s' K) K) hch hbad hT hl h) ?_
            rintro e a' w' ⟨o, ho, hTo⟩
            cases o with
            | norm s' =>
              cases e <;> first | exact ho.elim | skip
              exact ih s' a' w' hTo ho
            | exit id s' => cases e <;> first | exact ho.elim | exact ⟨_, ho, hTo⟩
            | ret s' => cases e <;> first | exact ho.elim | exact ⟨_, ho, hTo⟩
            | pan d s' => cases e <;> first | exact ho.elim | exact ⟨_, ho, hTo⟩
            | bad => cases e <;> exact ho.elim
        exact key n s a w hT h
  | .goto _, ls, β, T, ch, K, s, a, w, hch, hbad, hT, _, h => absurd hT hbad.1
  | .refuse _, ls, β, T, ch, K, s, a, w, hch, hbad, hT, _, h => absurd hT hbad.1

end Go.Dm

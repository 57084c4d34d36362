/-
 The framework: an interpreter over typed data, and why what it says of a call is true.
-/
import Derived.Test.YtadkaccpacpklaaFwB
set_option linter.unusedVariables false
set_option linter.unusedSimpArgs false
namespace Go.Dm
open Go.RowKit
variable {P : Program} {N : Nat} {G : Gh} {S S' : CS} {w w' : World} {s : St} {a : Act} {ρ ρ' : Rho} {F F' : Nat → Prop} {heap heap' : Nat → DObj} {Y : Value} {E : TCtx} {Γ : Ctx} {Fw : Fence} {r : Nat} {ops : Array Oper}
def SX (P : Program) (N : Nat) (G : Gh) (s : St) (a : Act) (w : World) : Prop := ∃ ρ S F, SR P N G s a w ρ S F
theorem SX.of_eq {s' : St} (h : SX P N G s a w) (he : s'.env = s.env) (hh : s'.heap = s.heap) (ht : s'.tr = s.tr) (hd : s'.dfr = s.dfr) : SX P N G s' a w := by
 obtain ⟨ρ, S, F, h⟩ := h; exact ⟨ρ, S, F, h.of_eq he hh ht hd⟩
theorem setEnv_self (env : Nat → Slot) (t : Nat) (sl : Slot) (h : env t = sl) : setEnv env t sl = env := by
 funext u
 unfold setEnv
 by_cases hu : u = t
 ·subst hu; simp [h]
 ·simp [beq_ne hu]
structure Env (P : Program) (E : TCtx) (Γ : Ctx) (G : Gh) (Fw : Fence) : Prop where
 mixed : P.follows .mixedOrders = true
 fns : Sound P Γ
 eq : EqSound P E.eq
 key : KeySound P E.key
 gh : G.Ok P
 wide : Wide Fw
 dfr : E.dfr = true → Fw.round = none
theorem br_has {β : Type} {T : β → Prop} {K : Option Eff → β} {b : Br} (h : T (b.run K)) : T (K (b.run id)) := (Br.run_eq K b) ▸ h
theorem oneS_sound (hE : Env P E Γ G Fw) {β : Type} {T : β → Prop} {ch : β → β → β} (hch : ∀ a b, T (ch a b) → T a ∧ T b) {K : Stp → β} (hbad : ¬ T (K .bad) ∧ ∀ s', T (K (.pan .yld s')) → YG G s') {o : Oper} (hd : o.dst.all (Nat.blt · N) = true) (h : SX P N G s a w)
  (hT : T (oneS P E Γ G.lo ch o s K)) {Q : Exit → Act → World → Prop} (hQ : ∀ d s' ch w', T (K (.pan d s')) → PanP P N G s' a w' d ch → Q (.panic ch) a w') :
  o.wpIn Fw r P a w (fun a' w' => ∃ s', SX P N G s' a' w' ∧ T (K (.ok s'))) Q := by
 obtain ⟨ρ, S, F, h⟩ := h
 unfold oneS at hT
 split at hT
 ·rename_i c hop
  split at hT
  ·rename_i d hdf hdd
   refine ⟨fun f _ => hE.wide.fn f, ?_⟩
   rw [hE.dfr hdf, Oper.semAt_none]
   unfold deferD at hdd
   split at hdd
   case h_2 => cases hdd
   rename_i t hcal hargs
   split at hdd
   case h_2 => cases hdd
   rename_i f ids ht
   split at hdd
   case h_2 => cases hdd
   cases hdd
   have hargs : c.args = #[] := by simpa using hargs
   have hv := h.env t
   rw [ht] at hv
   obtain ⟨_, us, hv, hus⟩ := hv
   have hv : a.eval (.tmp t) = .func (.func f) #[] us.toArray := hv
   have hrun : (execOp a.eval o).run P w = .ok (.defer { target := .fn (.func f) us.toArray, args := #[] }) w := by
    simp [execOp, hop, resolve, hcal, hv, hargs, Deferred.ofValue]
   rw [hrun, Oper.uponIn_defer]
   have h2 : SR P N G { s with dfr := .clo f ids :: s.dfr } { a with defers := { target := .fn (.func f) us.toArray, args := #[] } :: a.defers } w ρ S F :=
    ⟨h.size, ⟨⟨us, rfl, hus⟩, h.dfr⟩, h.env, h.obj, h.inj, h.ext, h.new, h.same, h.tr, h.fb, h.f0, h.sub, h.fs, h.pins⟩
   exact ⟨_, ⟨ρ, S, F, (h2.put_skip hd).of_eq rfl rfl rfl rfl⟩, hT⟩
  ·exact absurd hT hbad.1
 ·split at hT
  ·rename_i t ht
   have hall := Tree.run_has hch hT
   refine opX_sound hE.wide hE.fns hE.gh h hd ht (fun r hr e => ?_) (fun e hr => hbad.2 _ (hall _ hr)) (fun a' w' e hr he => ?_) (fun w' d e ch hr he => ?_)
   ·subst e; exact hbad.1 (hall _ hr)
   ·obtain ⟨ρ', S', F', q⟩ := he
    exact ⟨_, ⟨ρ', S', F', q⟩, hall _ hr⟩
   ·exact hQ d _ ch w' (hall _ hr) he
  ·have hT := br_has hT
   cases he : (opT P E Γ G.lo s.base o s.env s.heap).run id with
   | none => rw [he] at hT; exact absurd hT hbad.1
   | some e =>
    rw [he] at hT
    refine opIn_of_op hE.wide (opT_noDefer he) (Oper.wp_mono (fun a' w' q => ?_) (opT_sound hE.fns hE.eq hE.key hE.gh h hd he))
    obtain ⟨_, ρ', S', F', q⟩ := q
    exact ⟨_, ⟨ρ', S', F', q⟩, hT⟩
theorem guard_wanted (h : SX P N G s a w) {o : Oper} {j : Nat} {want : Bool} (hg : o.guard = some (j, want)) {t : Nat} (ht : (ops[j]?).bind (·.dst) = some t) {b : Bool} (hb : s.env t = .v (.pc .bool b)) :
  Region.wanted o (yielded ops a.tmps) = (b == want) := by
 obtain ⟨ρ, S, F, h⟩ := h
 unfold Region.wanted
 simp only [hg]
 have := h.env t
 rw [hb] at this
 have hv := RC_bool this
 have hty : a.tmps[t]? = some (.bool b) := by
  rw [Array.getD_eq_getD_getElem?] at hv
  cases hq : a.tmps[t]? with
  | none => rw [hq] at hv; cases hv
  | some v => rw [hq] at hv; simpa using hv
 have : yielded ops a.tmps j = some b := by simp [yielded, ht, hty]
 rw [this]
 rfl
theorem guard_unwanted (h : SX P N G s a w) {o : Oper} {j : Nat} {want : Bool} (hg : o.guard = some (j, want)) {t : Nat} (ht : (ops[j]?).bind (·.dst) = some t) (hb : s.env t = .un) :
  Region.wanted o (yielded ops a.tmps) = false := by
 obtain ⟨ρ, S, F, h⟩ := h
 unfold Region.wanted
 simp only [hg]
 have := h.env t
 rw [hb] at this
 have hv : a.tmps.getD t undef = undef := this
 have : yielded ops a.tmps j = none := by
  simp only [yielded, ht, Option.bind_some]
  rw [Array.getD_eq_getD_getElem?] at hv
  cases hq : a.tmps[t]? with
  | none => rfl
  | some v => rw [hq] at hv; rw [show v = undef from hv]; rfl
 rw [this]
 rfl
theorem stepS_sound (hE : Env P E Γ G Fw) {β : Type} {T : β → Prop} {ch : β → β → β} (hch : ∀ a b, T (ch a b) → T a ∧ T b) {K : Stp → β} (hbad : ¬ T (K .bad) ∧ ∀ s', T (K (.pan .yld s')) → YG G s') {i : Nat} {o : Oper} (ho : ops[i]? = some o) (h : SX P N G s a w)
  (hT : T (stepS P E Γ G.lo N ch ops o s K)) {Q : Exit → Act → World → Prop} (hQ : ∀ d s' ch w', T (K (.pan d s')) → PanP P N G s' a w' d ch → Q (.panic ch) a w') :
  wpOpIn Fw r P ops Q i (fun a' w' => ∃ s', SX P N G s' a' w' ∧ T (K (.ok s'))) a w := by
 unfold stepS at hT
 unfold wpOpIn
 simp only [ho]
 split at hT
 ·exact absurd hT hbad.1
 ·rename_i hd
  split at hT
  ·rename_i hg
   have hw : Region.wanted o (yielded ops a.tmps) = true := by simp [Region.wanted, hg]
   rw [if_pos hw]
   exact oneS_sound hE hch hbad hd h hT hQ
  ·rename_i j want hg
   split at hT
   ·exact absurd hT hbad.1
   ·rename_i t ht
    split at hT
    ·rename_i b hb
     have hw := guard_wanted h hg ht hb
     have hse : ∀ b' : Bool, b = b' → setEnv s.env t (.v (.pc .bool b')) = s.env := fun b' e => by subst e; exact setEnv_self _ _ _ hb
     have skip : ∀ b' : Bool, b = b' → (b == want) = false → T (K (.ok { s with env := putD (setEnv s.env t (.v (.pc .bool b'))) o.dst .un })) →
       (if Region.wanted o (yielded ops a.tmps) = true then o.wpIn Fw r P a w (fun a' w' => ∃ s', SX P N G s' a' w' ∧ T (K (.ok s'))) Q else (∀ f, o.about P w a.eval = some f → Fw.fn f) ∧ ∃ s', SX P N G s' (a.put o.dst undef) w ∧ T (K (.ok s'))) := by
      intro b' e hne hT
      rw [hw, hne, if_neg (by simp)]
      refine ⟨fun f _ => hE.wide.fn f, _, ?_, hT⟩
      rw [hse b' e]
      obtain ⟨ρ, S, F, h⟩ := h
      exact ⟨ρ, S, F, h.put_un hd⟩
     have go : ∀ b' : Bool, b = b' → (b == want) = true → T (oneS P E Γ G.lo ch o { s with env := setEnv s.env t (.v (.pc .bool b')) } K) →
       (if Region.wanted o (yielded ops a.tmps) = true then o.wpIn Fw r P a w (fun a' w' => ∃ s', SX P N G s' a' w' ∧ T (K (.ok s'))) Q else (∀ f, o.about P w a.eval = some f → Fw.fn f) ∧ ∃ s', SX P N G s' (a.put o.dst undef) w ∧ T (K (.ok s'))) := by
      intro b' e hne hT
      rw [hw, hne, if_pos rfl]
      rw [hse b' e] at hT
      exact oneS_sound hE hch hbad hd (s := { s with env := s.env }) (h.of_eq rfl rfl rfl rfl) hT hQ
     obtain hb' | hb' : (show Bool from b) = true ∨ (show Bool from b) = false := by cases (show Bool from b) <;> simp
     ·have hb' : b = true := hb'
      subst hb'
      cases want with
      | true => exact go true rfl rfl hT
      | false => exact skip true rfl rfl hT
     ·have hb' : b = false := hb'
      subst hb'
      cases want with
      | true => exact skip false rfl rfl hT
      | false => exact go false rfl rfl hT
    ·rename_i hun
     rw [guard_unwanted h hg ht hun, if_neg (by simp)]
     refine ⟨fun f _ => hE.wide.fn f, _, ?_, hT⟩
     obtain ⟨ρ, S, F, h⟩ := h
     exact ⟨ρ, S, F, h.put_un hd⟩
    ·exact absurd hT hbad.1
theorem wpOpIn_mono {Q : Exit → Act → World → Prop} {i : Nat} {K K' : Act → World → Prop} (hk : ∀ a w, K a w → K' a w) (h : wpOpIn Fw r P ops Q i K a w) : wpOpIn Fw r P ops Q i K' a w := by
 unfold wpOpIn at h ⊢
 split
 ·rename_i h0
  rw [h0] at h
  exact hk _ _ h
 ·rename_i o h0
  rw [h0] at h
  simp only at h
  split
  ·rename_i hw
   rw [if_pos hw] at h
   exact Oper.wpIn_mono hk h
  ·rename_i hw
   rw [if_neg hw] at h
   exact ⟨h.1, hk _ _ h.2⟩
theorem opsS_sound (hE : Env P E Γ G Fw) {β : Type} {T : β → Prop} {ch : β → β → β} (hch : ∀ a b, T (ch a b) → T a ∧ T b) {K : Out → β} (hbad : ¬ T (K .bad) ∧ ∀ s', T (K (.pan .yld s')) → YG G s') {Q : Exit → Act → World → Prop}
  (hN : ∀ s' a' w', T (K (.norm s')) → SX P N G s' a' w' → Q .normal a' w') (hQ : ∀ d s' ch a' w', T (K (.pan d s')) → PanP P N G s' a' w' d ch → Q (.panic ch) a' w') :
  ∀ {l : List Oper} {i : Nat} {s : St} {a : Act} {w : World}, (∀ j, l[j]? = ops[i + j]?) → SX P N G s a w → T (opsS P E Γ G.lo N ch ops l s K) → wpOpsIn Fw r P ops Q (List.range' i l.length) a w
 | [], i, s, a, w, _, h, hT => hN _ a w hT (h.of_eq rfl rfl rfl rfl)
 | o :: l, i, s, a, w, hl, h, hT => by
  have h0 : ops[i]? = some o := by simpa using (hl 0).symm
  rw [List.length_cons, List.range'_succ, wpOpsIn_cons]
  refine wpOpIn_mono ?_ (stepS_sound (K := fun
   | .ok s' => opsS P E Γ G.lo N ch ops l s' K
   | .pan d s' => K (.pan d s')
   | .bad => K .bad) hE hch hbad h0 h hT (fun d s' c w' q1 q2 => hQ d s' c a w' q1 q2))
  rintro a' w' ⟨s', q1, q2⟩
  exact opsS_sound hE hch hbad hN hQ (l := l) (i := i + 1) (fun j => by have := hl (j + 1); simpa [Nat.add_assoc, Nat.add_comm 1 j] using this) q1 q2
end Go.Dm
namespace Go.Dm
open Go.RowKit
variable {P : Program} {N : Nat} {G : Gh} {S S' : CS} {w w' : World} {s : St} {a : Act} {ρ ρ' : Rho} {F F' : Nat → Prop} {heap heap' : Nat → DObj} {Y : Value} {E : TCtx} {Γ : Ctx} {Fw : Fence} {r : Nat} {ops : Array Oper}
abbrev X := (Nat → Slot) × (Nat → DObj) × Tr
def X.st (x : X) (base : Nat) (dfr : List Dfr) : St := ⟨x.1, x.2.1, x.2.2, base, dfr⟩
def St.x (s : St) : X := (s.env, s.heap, s.tr)
def guardOk (ops : Array Oper) (o : Oper) (env : Nat → Slot) : Option Bool :=
 match o.guard with
 | none => some true
 | some (j, want) => match (ops[j]?).bind (·.dst) with
  | none => none
  | some t => match env t with
   | .v (.pc .bool b) => some ((show Bool from b) == want)
   | .un => some false
   | _ => none
def opY (P : Program) (E : TCtx) (Γ : Ctx) (lo base : Nat) (o : Oper) (x : X) : Option (Eff × Bool) :=
 match opX P Γ lo base o x.1 x.2.1 x.2.2 with
 | some t => t.det.map (·, false)
 | none => ((opT P E Γ lo base o x.1 x.2.1).run id).map fun e => ({ e with tr := none }, true)
def stepX (P : Program) (E : TCtx) (Γ : Ctx) (lo base N : Nat) (ops : Array Oper) (i : Nat) (o : Oper) (x : X) : Option (X × FP) :=
 match o.dst.all (Nat.blt · N), guardOk ops o x.1 with
 | true, some true => (opY P E Γ lo base o x).map fun e => ((putD x.1 o.dst (e.1.wt.getD .top), putH x.2.1 e.1.wh, putT x.2.2 e.1.tr), ⟨i, e.1.rh, e.1.wh.map (·.1), e.2⟩)
 | true, some false => some ((putD x.1 o.dst .un, x.2.1, x.2.2), ⟨i, [], [], true⟩)
 | _, _ => none
theorem stepX_true {lo base i : Nat} {o : Oper} {x : X} (hd : o.dst.all (Nat.blt · N) = true) (hg : guardOk ops o x.1 = some true) :
  stepX P E Γ lo base N ops i o x = (opY P E Γ lo base o x).map fun e => ((putD x.1 o.dst (e.1.wt.getD .top), putH x.2.1 e.1.wh, putT x.2.2 e.1.tr), ⟨i, e.1.rh, e.1.wh.map (·.1), e.2⟩) := by
 unfold stepX; rw [hd, hg]
theorem stepX_false {lo base i : Nat} {o : Oper} {x : X} (hd : o.dst.all (Nat.blt · N) = true) (hg : guardOk ops o x.1 = some false) :
  stepX P E Γ lo base N ops i o x = some ((putD x.1 o.dst .un, x.2.1, x.2.2), ⟨i, [], [], true⟩) := by
 unfold stepX; rw [hd, hg]
theorem Tree.run_any {β : Type} (K : OR → β) (z : β) : ∀ (t : Tree OR), (∃ e, t.det = some e ∧ t.run (fun _ _ => z) (fun | .ok e => K (.ok e) | _ => z) = K (.ok e)) ∨ t.run (fun _ _ => z) (fun | .ok e => K (.ok e) | _ => z) = z
 | .leaf r => by
  cases r with
  | ok e => exact .inl ⟨e, rfl, rfl⟩
  | pan d e => exact .inr rfl
  | bad => exact .inr rfl
 | .br b l r => by
  cases b
  ·exact Tree.run_any K z r
  ·exact Tree.run_any K z l
 | .any l r => .inr rfl
theorem Tree.det_has : ∀ {t : Tree OR} {e : Eff}, t.det = some e → ∀ r, t.Has r ↔ r = .ok e
 | .leaf q, e, h, r => by
  cases q <;> cases h
  exact Iff.rfl
 | .br b l r0, e, h, r => by
  cases b
  ·simpa [Tree.Has] using Tree.det_has (t := r0) (e := e) h r
  ·simpa [Tree.Has] using Tree.det_has (t := l) (e := e) h r
 | .any l r0, e, h, r => by cases h
theorem stepK_spec {β : Type} {lo : Nat} (i : Nat) (o : Oper) (s : St) (K : Option (St × FP) → β) :
  (∃ s' fp, stepX P E Γ lo s.base N ops i o s.x = some (s'.x, fp) ∧ s'.base = s.base ∧ s'.dfr = s.dfr ∧ stepK P E Γ lo N ops i o s K = K (some (s', fp))) ∨ stepK P E Γ lo N ops i o s K = K none := by
 cases hd : o.dst.all (Nat.blt · N) with
 | false => right; unfold stepK; rw [hd]
 | true =>
  have main : ∀ (s1 : St), s1.env = s.env → s1.heap = s.heap → s1.tr = s.tr → s1.base = s.base → s1.dfr = s.dfr → guardOk ops o s.env = some true →
    stepK P E Γ lo N ops i o s K = (match opX P Γ lo s1.base o s1.env s1.heap s1.tr with
     | some t => t.run (fun _ _ => K none) fun
      | .ok e => K (some (s1.eff o.dst e, ⟨i, e.rh, e.wh.map (·.1), false⟩))
      | _ => K none
     | none => (opT P E Γ lo s1.base o s1.env s1.heap).run fun
      | some e => K (some (s1.eff o.dst { e with tr := none }, ⟨i, e.rh, e.wh.map (·.1), true⟩))
      | none => K none) →
    (∃ s' fp, stepX P E Γ lo s.base N ops i o s.x = some (s'.x, fp) ∧ s'.base = s.base ∧ s'.dfr = s.dfr ∧ stepK P E Γ lo N ops i o s K = K (some (s', fp))) ∨ stepK P E Γ lo N ops i o s K = K none := by
   intro s1 h1 h2 h3 h4 h5 hg hK
   rw [h1, h2, h3, h4] at hK
   rw [stepX_true hd hg]
   unfold opY
   simp only [St.x]
   cases ht : opX P Γ lo s.base o s.env s.heap s.tr with
   | some t =>
    rw [ht] at hK
    rcases Tree.run_any (fun | .ok e => K (some (s1.eff o.dst e, ⟨i, e.rh, e.wh.map (·.1), false⟩)) | _ => K none) (K none) t with ⟨e, q1, q2⟩ | q
    ·left
     refine ⟨s1.eff o.dst e, ⟨i, e.rh, e.wh.map (·.1), false⟩, ?_, h4, h5, hK.trans q2⟩
     simp only [q1, Option.map_some, St.eff, h1, h2, h3]
    ·right; exact hK.trans q
   | none =>
    rw [ht] at hK
    simp only at hK
    rw [Br.run_eq] at hK
    cases hr : (opT P E Γ lo s.base o s.env s.heap).run id with
    | none => right; rw [hK, hr]
    | some e =>
     left
     refine ⟨s1.eff o.dst { e with tr := none }, ⟨i, e.rh, e.wh.map (·.1), true⟩, ?_, h4, h5, by rw [hK, hr]⟩
     simp only [Option.map_some, St.eff, h1, h2, h3]
  cases hg : o.guard with
  | none =>
   exact main s rfl rfl rfl rfl rfl (by simp [guardOk, hg]) (by unfold stepK; rw [hd, hg]; rfl)
  | some jw =>
   obtain ⟨j, want⟩ := jw
   cases hj : (ops[j]?).bind (·.dst) with
   | none => right; unfold stepK; rw [hd, hg]; simp only [hj]
   | some t =>
    cases henv : s.env t with
    | v d =>
     cases d with
     | pc τ b =>
      cases τ with
      | bool =>
       have hgo : guardOk ops o s.env = some ((show Bool from b) == want) := by simp [guardOk, hg, hj, henv]
       have hse : setEnv s.env t (.v (.pc .bool b)) = s.env := setEnv_self _ _ _ henv
       obtain hb | hb : (show Bool from b) = true ∨ (show Bool from b) = false := by cases (show Bool from b) <;> simp
       ·have hb : b = true := hb
        subst hb
        cases want with
        | true => exact main { s with env := setEnv s.env t (.v (.pc .bool true)) } hse rfl rfl rfl rfl hgo (by unfold stepK; rw [hd, hg]; simp only [hj, henv]; rfl)
        | false =>
         left
         refine ⟨{ s with env := putD (setEnv s.env t (.v (.pc .bool true))) o.dst .un }, ⟨i, [], [], true⟩, ?_, rfl, rfl, by unfold stepK; rw [hd, hg]; simp only [hj, henv]; rfl⟩
         rw [stepX_false hd hgo]
         simp only [St.x, hse]
       ·have hb : b = false := hb
        subst hb
        cases want with
        | false => exact main { s with env := setEnv s.env t (.v (.pc .bool false)) } hse rfl rfl rfl rfl hgo (by unfold stepK; rw [hd, hg]; simp only [hj, henv]; rfl)
        | true =>
         left
         refine ⟨{ s with env := putD (setEnv s.env t (.v (.pc .bool false))) o.dst .un }, ⟨i, [], [], true⟩, ?_, rfl, rfl, by unfold stepK; rw [hd, hg]; simp only [hj, henv]; rfl⟩
         rw [stepX_false hd hgo]
         simp only [St.x, hse]
      | _ => right; unfold stepK; rw [hd, hg]; simp only [hj, henv]
     | _ => right; unfold stepK; rw [hd, hg]; simp only [hj, henv]
    | un =>
     left
     have hgo : guardOk ops o s.env = some false := by simp [guardOk, hg, hj, henv]
     refine ⟨{ s with env := putD s.env o.dst .un }, ⟨i, [], [], true⟩, ?_, rfl, rfl, by unfold stepK; rw [hd, hg]; simp only [hj, henv]⟩
     rw [stepX_false hd hgo]
     rfl
    | _ => right; unfold stepK; rw [hd, hg]; simp only [hj, henv]
theorem stepX_sound (hE : Env P E Γ G Fw) {Q : Exit → Act → World → Prop} {i base : Nat} {dfr : List Dfr} {o : Oper} (ho : ops[i]? = some o) (hnd : ∀ c, o.op ≠ .defer c) {x x' : X} {fp : FP}
  (hs : stepX P E Γ G.lo base N ops i o x = some (x', fp)) (h : SX P N G (x.st base dfr) a w) : wpOpIn Fw r P ops Q i (SX P N G (x'.st base dfr)) a w := by
 unfold stepX at hs
 split at hs
 ·rename_i hd hg
  simp only [Option.map_eq_some_iff] at hs
  obtain ⟨e, he, hs⟩ := hs
  simp only [Prod.mk.injEq] at hs
  obtain ⟨rfl, rfl⟩ := hs
  have hw : Region.wanted o (yielded ops a.tmps) = true := by
   unfold guardOk at hg
   split at hg
   ·rename_i hg'; simp [Region.wanted, hg']
   ·rename_i j want hg'
    split at hg
    ·cases hg
    ·rename_i t ht
     split at hg
     ·rename_i b hb
      rw [guard_wanted (s := x.st base dfr) h hg' ht hb]
      simpa using hg
     ·cases hg
     ·cases hg
  unfold wpOpIn
  simp only [ho, hw, if_true]
  unfold opY at he
  obtain ⟨ρ, S, F, h⟩ := h
  cases ht : opX P Γ G.lo base o x.1 x.2.1 x.2.2 with
  | some t =>
   rw [ht] at he
   simp only [Option.map_eq_some_iff] at he
   obtain ⟨e0, he0, rfl⟩ := he
   have hall := Tree.det_has he0
   refine opX_sound (s := x.st base dfr) hE.wide hE.fns hE.gh h hd ht (fun r hr e => ?_) (fun e hr => ?_) (fun a' w' e hr he => ?_) (fun w' d e ch hr he => ?_)
   ·rw [(hall r).1 hr] at e; cases e
   ·have := (hall _).1 hr; cases this
   ·have := (hall _).1 hr
    cases this
    exact he
   ·have := (hall _).1 hr; cases this
  | none =>
   rw [ht] at he
   simp only [Option.map_eq_some_iff] at he
   obtain ⟨e0, he0, rfl⟩ := he
   refine opIn_of_op hE.wide (opT_noDefer he0) (Oper.wp_mono (fun a' w' q => ?_) (opT_sound (s := x.st base dfr) hE.fns hE.eq hE.key hE.gh h hd he0))
   obtain ⟨htr, ρ', S', F', q⟩ := q
   exact ⟨ρ', S', F', q.of_eq rfl rfl (by simp [St.eff, X.st, htr, putT]) rfl⟩
 ·rename_i hd hg
  cases hs
  have hw : Region.wanted o (yielded ops a.tmps) = false := by
   unfold guardOk at hg
   split at hg
   ·cases hg
   ·rename_i j want hg'
    split at hg
    ·cases hg
    ·rename_i t ht
     split at hg
     ·rename_i b hb
      rw [guard_wanted (s := x.st base dfr) h hg' ht hb]
      simpa using hg
     ·rename_i hb
      exact guard_unwanted (s := x.st base dfr) h hg' ht hb
     ·cases hg
  unfold wpOpIn
  simp only [ho, hw, Bool.false_eq_true, if_false]
  obtain ⟨ρ, S, F, h⟩ := h
  exact ⟨fun f _ => hE.wide.fn f, ρ, S, F, (h.put_un hd).of_eq rfl rfl rfl rfl⟩
 ·cases hs
theorem val_congr {env env' : Nat → Slot} {x : Operand} (h : ∀ t, x = .tmp t → env' t = env t) : val Γ env' x = val Γ env x := by
 cases x with
 | tmp t => exact h t rfl
 | _ => rfl
theorem op_env {o : Oper} {env env' : Nat → Slot} (hl : ∀ t, Operand.tmp t ∈ o.op.operands → env' t = env t) : ∀ x ∈ o.op.operands, val Γ env' x = val Γ env x := fun x hx => val_congr fun t ht => hl t (ht ▸ hx)
theorem opT_env {lo base : Nat} {o : Oper} {env env' : Nat → Slot} {heap : Nat → DObj} (hl : ∀ t, Operand.tmp t ∈ o.op.operands → env' t = env t) : opT P E Γ lo base o env' heap = opT P E Γ lo base o env heap := by
  have hv := op_env (Γ := Γ) hl
  obtain ⟨dst, op, type, pos, after, guard⟩ := o
  have pairs : ∀ ps : Array (Nat × Operand), (∀ x ∈ (ps.toList.map (·.2)).toArray, val Γ env' x = val Γ env x) →
      (ps.toList.map fun p => (p.1, val Γ env' p.2)) = (ps.toList.map fun p => (p.1, val Γ env p.2)) := fun ps hp =>
    List.map_congr_left fun p hm => by
      rw [hp p.2 (by simpa using ⟨p.1, Array.mem_toList_iff.1 hm⟩)]
  cases op <;> simp only [Op.operands] at hv <;> simp only [opT]
  case build t ps => rw [pairs ps hv]
  case buildSlice t n ps => rw [pairs ps hv]
  case slice t x l h m =>
    have hx : val Γ env' x = val Γ env x := hv x (by simp)
    have hl : l.map (val Γ env') = l.map (val Γ env) := by
      cases l with
      | none => rfl
      | some y => simp only [Option.map_some]; rw [hv y (by simp)]
    have hh : h.map (val Γ env') = h.map (val Γ env) := by
      cases h with
      | none => rfl
      | some y => simp only [Option.map_some]; rw [hv y (by simp)]
    rw [hx, hl, hh]
  case call c =>
    have hargs : ∀ x ∈ c.args, val Γ env' x = val Γ env x := fun x hx => hv x (by simp [Call.operands, hx])
    have hl : c.args.toList.map (val Γ env') = c.args.toList.map (val Γ env) := List.map_congr_left fun x hx => hargs x (by simpa using hx)
    cases hc : c.callee with
    | value f =>
      have hf : val Γ env' f = val Γ env f := hv f (by simp [Call.operands, hc])
      simp only [hl, hf]
    | invoke r m => rfl
    | builtin b =>
      cases b <;> first
        | rfl
        | (simp only
           split <;> first
             | (rename_i x y z u hx hy; rw [hargs x (by rw [← Array.mem_toList_iff, hx]; simp), hargs y (by rw [← Array.mem_toList_iff, hx]; simp)]; done)
             | (rename_i x y hx; rw [hargs x (by rw [← Array.mem_toList_iff, hx]; simp), hargs y (by rw [← Array.mem_toList_iff, hx]; simp)]; done)
             | (rename_i x hx; rw [hargs x (by rw [← Array.mem_toList_iff, hx]; simp)]; done)
             | rfl)
  case makeFunc fn first caps =>
    have h1 : first.toList.map (val Γ env') = first.toList.map (val Γ env) := List.map_congr_left fun x hx => hv x (by simp [Array.mem_toList_iff.1 hx])
    have h2 : caps.toList.map (val Γ env') = caps.toList.map (val Γ env) := List.map_congr_left fun x hx => hv x (by simp [Array.mem_toList_iff.1 hx])
    rw [h1, h2]
  all_goals (first | rfl | (simp_all; done) | skip)
theorem opX_none {lo base : Nat} {o : Oper} {env env' : Nat → Slot} {heap heap' : Nat → DObj} {tr tr' : Tr} (hl : ∀ t, Operand.tmp t ∈ o.op.operands → env' t = env t) (h : opX P Γ lo base o env heap tr = none) : opX P Γ lo base o env' heap' tr' = none := by
 have hv := op_env (Γ := Γ) hl
 obtain ⟨dst, op, type, pos, after, guard⟩ := o
 cases op
 case call c =>
  have hargs : ∀ x ∈ c.args, val Γ env' x = val Γ env x := fun x hx => hv x (by simp [Op.operands, Call.operands, hx])
  have hl : c.args.toList.map (val Γ env') = c.args.toList.map (val Γ env) := List.map_congr_left fun x hx => hargs x (by simpa using hx)
  simp only [opX] at h ⊢
  cases hc : c.callee with
  | value f =>
   have hf : val Γ env' f = val Γ env f := hv f (by simp [Op.operands, Call.operands, hc])
   rw [hc] at h
   simp only [hl, hf] at h ⊢
   split at h
   ·unfold callGenD at h ⊢
    split at h
    ·split at h
     ·cases h
     ·rename_i hne
      rfl
    ·rename_i hnf
     split at h
     ·split at h
      ·cases h
      ·rename_i hne
       rfl
     ·split at h
      ·cases h
      ·rename_i hne
       rfl
     ·cases h
     ·rfl
   ·rfl
  | invoke r m => rfl
  | builtin b => rfl
 case panic x =>
  have hx : val Γ env' x = val Γ env x := hv x (by simp [Op.operands])
  simp only [opX] at h ⊢
  rw [hx]
  exact h
 case binOp op t x y yt =>
  simp only [opX] at h ⊢
  split at h
  ·cases h
  ·cases h
  ·rfl
 all_goals rfl
theorem br_some {b : Bool} {x y : Br} {e : Eff} (h : (Br.br b x y).run id = some e) : (b = true ∧ x.run id = some e) ∨ (b = false ∧ y.run id = some e) := by
 cases b
 ·exact .inr ⟨rfl, h⟩
 ·exact .inl ⟨rfl, h⟩
theorem viewAt_rh {t : TypeId} {ds : List DC} {o : Nat} {rh : List Nat} {e : Eff} (h : (viewAt P t ds o rh).run id = some e) : e.rh = rh := by
 unfold viewAt at h
 split at h
 case h_2 => cases h
 split at h
 ·rcases br_some h with ⟨_, hx⟩ | ⟨_, hx⟩
  ·cases hx; rfl
  ·cases hx
 ·rcases br_some h with ⟨_, hx⟩ | ⟨_, hx⟩
  ·cases hx; rfl
  ·cases hx
 ·cases h
theorem append_heap {rw : Bool} {lo id0 : Nat} {heap heap' : Nat → DObj} {T : TypeId} {s x : Slot} {e : Eff} (h : (appendD P rw lo id0 heap T s x).run id = some e) (hh : ∀ i ∈ e.rh, heap' i = heap i) :
  (appendD P rw lo id0 heap' T s x).run id = some e := by
 unfold appendD at h ⊢
 split at h
 case h_2 => cases h
 split at h
 case h_2 => cases h
 split at h
 ·rename_i hc
  split at h
  case h_2 => cases h
  rename_i hn
  rcases br_some h with ⟨hb, hx⟩ | ⟨_, hx⟩
  ·have hrh : id0 ∈ e.rh := by cases rw <;> (cases hx; simp)
   rw [hh id0 hrh, hn]
   exact h
  ·cases hx
 ·rename_i id ver e' r hc
  split at h
  case h_2 => cases h
  rename_i ver' E' k n r' ho hcast
  split at h
  case h_2 => cases h
  rename_i hcc
  rcases br_some h with ⟨hb, hx⟩ | ⟨_, hx⟩
  ·cases hx
   rw [hh id (by simp), ho, hcast]
   simp only [hcc]
   exact h
  ·cases hx
 ·rename_i id ver hc
  split at h
  case h_2 => cases h
  rename_i ver' E' e' r ho
  split at h
  case h_2 => cases h
  rename_i r' hcast
  split at h
  case h_2 => cases h
  rename_i hcc
  rcases br_some h with ⟨hb, hx⟩ | ⟨_, hx⟩
  ·cases hx
   rw [hh id (by simp), ho]
   simp only [hcast, hcc]
   exact h
  ·cases hx
 ·cases h
theorem lendS_heap {heap heap' : Nat → DObj} : ∀ {l : List Slot}, (∀ i ∈ subIds l, heap' i = heap i) → l.map (lendS heap') = l.map (lendS heap)
 | [], _ => rfl
 | sl :: r, h => by
  have ih : r.map (lendS heap') = r.map (lendS heap) := lendS_heap fun i hi => h i (by
   unfold subIds
   split
   ·rename_i q; cases q
   ·rename_i q; injection q with q1 q2; subst q2; exact .tail _ hi
   ·rename_i q; injection q with q1 q2; subst q2; exact hi)
  rw [List.map_cons, List.map_cons, ih]
  congr 1
  unfold lendS
  split
  ·rename_i id ver i n
   rw [h id (.head _)]
  ·rfl
theorem opT_heap {lo base : Nat} {o : Oper} {env : Nat → Slot} {heap heap' : Nat → DObj} {e : Eff} (h : (opT P E Γ lo base o env heap).run id = some e) (hh : ∀ i ∈ e.rh, heap' i = heap i) :
  (opT P E Γ lo base o env heap').run id = some e := by
 obtain ⟨dst, op, type, pos, after, guard⟩ := o
 cases op
 case box t x =>
  simp only [opT] at h ⊢
  split at h
  case h_2 => cases h
  rename_i cs h1 h2 h3
  cases h
  rw [hh _ (by simp), h1, h2, h3]; rfl
 case alloc t =>
  simp only [opT] at h ⊢
  split at h
  case h_2 => cases h
  rename_i cs h1 h2 h3
  cases h
  rw [hh _ (by simp), h1, h2, h3]; rfl
 case load t x =>
  simp only [opT, loadD] at h ⊢
  split at h
  ·rename_i id off hx
   split at h
   case h_2 => cases h
   rename_i ds ho
   have h1 := viewAt_rh h
   rw [hh id (by rw [h1]; simp), ho]
   exact h
  ·rename_i id off hx
   split at h
   case h_2 => cases h
   rename_i ds ho
   have h1 := viewAt_rh h
   rw [hh id (by rw [h1]; simp), ho]
   exact h
  ·rename_i id ver i off hx
   split at h
   case h_2 => cases h
   rename_i cur T el sl ho
   split at h
   case h_2 => cases h
   rename_i hve
   have h1 := viewAt_rh h
   rw [hh id (by rw [h1]; simp), ho]
   simp only [hve]
   exact h
  ·rename_i id i hx
   split at h
   case h_2 => cases h
   rename_i cur T el d ho
   have h1 := viewAt_rh h
   rw [hh id (by rw [h1]; simp), ho]
   exact h
  ·rename_i id ver i j off hx
   split at h
   case h_2 => cases h
   rename_i cur T el d ho
   split at h
   case h_2 => cases h
   rename_i hve
   have h1 := viewAt_rh h
   rw [hh id (by rw [h1]; simp), ho]
   simp only [hve]
   exact h
  ·exact h
  ·cases h
 case store t x y =>
  simp only [opT] at h ⊢
  split at h
  case h_2 => cases h
  rename_i cs hcs
  unfold storeD at h ⊢
  split at h
  ·rename_i id off hx
   split at h
   case h_2 => cases h
   rename_i ds n ho hn
   rcases br_some h with ⟨hb, hxx⟩ | ⟨_, hxx⟩
   ·cases hxx
    rw [hh id (by simp), ho, hn]
    exact h
   ·cases hxx
  ·rename_i id off hx
   split at h
   case h_2 => cases h
   rename_i ds n ho hn
   rcases br_some h with ⟨hb, hxx⟩ | ⟨_, hxx⟩
   ·cases hxx
    rw [hh id (by simp), ho, hn]
    exact h
   ·cases hxx
  ·rename_i id ver i off hx
   split at h
   case h_2 => cases h
   rename_i cur T el sl n ho hn
   split at h
   case h_2 => cases h
   rename_i x' hx'
   rcases br_some h with ⟨hb, hxx⟩ | ⟨_, hxx⟩
   ·cases hxx
    rw [hh id (by simp), ho, hn]
    simp only [hx']
    exact h
   ·cases hxx
  ·rename_i id ver i j off hx
   split at h
   case h_2 => cases h
   rename_i cur T el sl n ho hn
   split at h
   case h_2 => cases h
   rename_i x' hx'
   rcases br_some h with ⟨hb, hxx⟩ | ⟨_, hxx⟩
   ·cases hxx
    rw [hh id (by simp), ho, hn]
    simp only [hx']
    exact h
   ·cases hxx
  ·rename_i id i hx
   split at h
   case h_2 => cases h
   rename_i id2 ver cur T el d n ho hn
   split at h
   case h_2 => cases h
   rename_i cur2 T2 e2 s2 ho2
   split at h
   case h_2 => cases h
   rename_i s3 hcast hcc
   have hrh : e.rh = [id, id2] := by cases h; rfl
   rw [hh id (by rw [hrh]; simp), ho, hn]
   simp only
   rw [hh id2 (by rw [hrh]; simp), ho2]
   simp only [hcast, hcc]
   exact h
  ·cases h
 case indexAddr t x i =>
  simp only [opT, indexAddrD] at h ⊢
  split at h
  case h_2 => cases h
  split at h
  ·split at h
   ·rename_i id ver hidx
    split at h
    case h_2 => cases h
    rename_i cur T τ sl k ho hk
    split at h
    case h_2 => cases h
    rename_i hkc
    rcases br_some h with ⟨hb, hxx⟩ | ⟨_, hxx⟩
    ·cases hxx
     rw [hh id (by simp), ho, hk]
     simp only [hkc]
     exact h
    ·cases hxx
   ·rename_i id hidx
    split at h
    case h_2 => cases h
    rename_i cur T τ d k ho hk
    split at h
    case h_2 => cases h
    rename_i hkc
    rcases br_some h with ⟨hb, hxx⟩ | ⟨_, hxx⟩
    ·cases hxx
     rw [hh id (by simp), ho, hk]
     simp only [hkc]
     exact h
    ·cases hxx
   ·rename_i id ver i m hidx
    split at h
    case h_2 => cases h
    rename_i cur T τ d k ho hk
    split at h
    case h_2 => cases h
    rename_i hkc
    rcases br_some h with ⟨hb, hxx⟩ | ⟨_, hxx⟩
    ·cases hxx
     rw [hh id (by simp), ho, hk]
     simp only [hkc]
     exact h
    ·cases hxx
   ·exact h
  ·exact h
  ·cases h
 case slice t x l hi m =>
  simp only [opT] at h ⊢
  split at h
  case h_2 => exact h
  split at h
  case h_2 => exact h
  rename_i id ver i n hx
  unfold subSliceD at h ⊢
  split at h
  case h_2 => cases h
  rename_i el k b cur T τ d h1 h2 h3 h4
  split at h
  case h_2 => cases h
  rename_i sz h5 h6
  rcases br_some h with ⟨hb, hxx⟩ | ⟨_, hxx⟩
  ·cases hxx
   rw [hh id (by simp), h1, h2, h3, h4]
   simp only [h5, h6]
   exact h
  ·cases hxx
 case buildSlice t n ps =>
  simp only [opT] at h ⊢
  split at h
  case h_2 => cases h
  rename_i h1 h2
  have hrh : e.rh = [base + dst.getD 0] := by
   unfold buildSliceD at h
   repeat' (first | (cases h; rfl) | (cases h; done) | split at h)
  rw [hh _ (by rw [hrh]; simp), h1, h2]
  exact h
 case makeSlice t l c =>
  simp only [opT, makeSliceD] at h ⊢
  split at h
  case h_2 => cases h
  rename_i hlo
  split at h
  case h_2 => cases h
  rename_i el n h1 h2 h3 h4
  split at h
  case h_2 => cases h
  rename_i i cs h5 h6
  split at h
  case h_2 =>
   rename_i h7
   have hrh : e.rh = [base + dst.getD 0] := by
    unfold makeRowsD at h
    split at h
    case h_2 => cases h
    split at h
    case h_2 => cases h
    split at h
    case h_2 => cases h
    rcases br_some h with ⟨hb, hxx⟩ | ⟨_, hxx⟩ <;> cases hxx
    rfl
   rw [hh _ (by rw [hrh]; simp), h1, h2, h3, h4]
   simp only [h5, h6, h7]
   exact h
  rename_i τ h7
  split at h
  case h_2 => cases h
  rename_i z h8
  split at h
  case h_2 => cases h
  rename_i h9
  rcases br_some h with ⟨hb, hxx⟩ | ⟨_, hxx⟩
  ·cases hxx
   rw [hh _ (by simp), h1, h2, h3, h4]
   simp only [h5, h6, h7, h8, h9]
   exact h
  ·cases hxx
 case makeMap t r =>
  simp only [opT, makeMapD] at h ⊢
  split at h
  case h_2 => cases h
  split at h
  case h_2 => cases h
  rename_i kt vt h1 h2
  split at h
  case h_2 => cases h
  rename_i k v h3 h4
  split at h
  case h_2 => cases h
  rename_i h5
  cases h
  rw [hh _ (by simp), h1, h2]
  simp only [h3, h4, h5]
  rfl
 case lookup t x i ok =>
  simp only [opT, lookupD] at h ⊢
  split at h
  case h_2 => cases h
  split at h
  case h_2 => cases h
  split at h
  case h_2 => cases h
  split at h
  ·rename_i id hidx
   split at h
   case h_2 => cases h
   rename_i k' v' m ho
   split at h
   case h_2 => cases h
   rename_i m' hm
   cases h
   rw [hh id (by simp), ho]
   simp only [hm]
   rfl
  ·exact h
  ·cases h
 case mapUpdate t x i y =>
  simp only [opT, mapUpdateD] at h ⊢
  split at h
  case h_2 => cases h
  split at h
  case h_2 => cases h
  rename_i k v id h1 h2 h3 h4
  split at h
  case h_2 => cases h
  rename_i k' v' m ho
  split at h
  case h_2 => cases h
  rename_i m' key val q1 q2 q3 q4
  cases h
  rw [hh id (by simp), ho]
  simp only [q1, q2, q3, q4]
  rfl
 case call c =>
  obtain ⟨callee, args, argTypes⟩ := c
  cases callee with
  | builtin b =>
   cases b
   case append =>
    simp only [opT] at h ⊢
    split at h
    case h_2 => cases h
    split at h
    case h_2 => cases h
    exact append_heap h hh
   case len =>
    simp only [opT] at h ⊢
    split at h
    case h_2 => cases h
    split at h
    case h_2 => cases h
    split at h
    case h_2 => cases h
    unfold lenD at h ⊢
    split at h
    ·exact h
    ·rename_i id ver hidx
     split at h
     case h_2 => cases h
     rename_i cur T el sl ho
     split at h
     case h_2 => cases h
     rename_i hve
     cases h
     rw [hh id (by simp), ho]
     simp only [hve]; rfl
    ·rename_i id hidx
     split at h
     case h_2 => cases h
     rename_i cur T el d ho
     cases h
     rw [hh id (by simp), ho]
     rfl
    ·rename_i id ver i n hidx
     split at h
     case h_2 => cases h
     rename_i cur T el d ho
     split at h
     case h_2 => cases h
     rename_i hve
     cases h
     rw [hh id (by simp), ho]
     simp only [hve]; rfl
    ·exact h
   all_goals exact h
  | value x =>
   simp only [opT] at h ⊢
   cases x with
   | func f =>
    simp only [callValD] at h ⊢
    cases hf : Γ f with
    | none => rw [hf] at h; exact h
    | some en =>
     rw [hf] at h
     cases en with
     | row w n τa T e R =>
      simp only at h ⊢
      split at h
      ·split at h
       ·unfold rowLendD at h ⊢
        split at h
        case h_2 => cases h
        rename_i x0 τh R0 hpn hargs hno
        split at h
        case h_2 => cases h
        rename_i τy y0 hle
        split at h
        case h_2 => cases h
        rename_i y hcast
        rcases br_some h with ⟨hb, hxx⟩ | ⟨_, hxx⟩
        ·cases hxx
         have hl := lendS_heap (heap := heap) (heap' := heap') (l := args.toList.map (val Γ env)) (fun i hi => hh i (.tail _ hi))
         have hh0 := hh _ (List.Mem.head _)
         rw [hargs] at hl hpn h ⊢
         have hl : lendS heap' x0 = lendS heap x0 := by simpa using hl
         simp only [hpn, hl, hle, hcast, hh0, hno]
         exact h
        ·cases hxx
       unfold rowCallD at h ⊢
       split at h
       case h_2 => cases h
       rename_i y h1 h2 h3
       simp only [Br.run, eff, bad] at h
       cases hs : (R y).isSome with
       | false => simp only [hs, cond_false] at h; cases h
       | true =>
        simp only [hs, cond_true, id] at h
        cases h
        rw [hh _ (by simp), h3]
        simp only [h1, h2, hs, Br.run, eff, cond_true, id]
      ·cases h
     | pure cc =>
      simp only at h ⊢
      split at h
      ·unfold lendD at h ⊢
       split at h
       case h_2 => cases h
       rename_i y h1 h2
       rcases br_some h with ⟨hb, hxx⟩ | ⟨_, hxx⟩
       ·cases hxx
        rw [lendS_heap (heap := heap) hh]
        simp only [h1, h2]
        exact h
       ·cases hxx
      ·exact h
     | _ => exact h
   | _ => exact h
  | invoke r m => cases h
 all_goals exact h
theorem guardOk_local {o : Oper} {env env' : Nat → Slot} {b : Bool} (h : guardOk ops o env = some b) (hl : ∀ t, t ∈ o.looksAt ops → env' t = env t) : guardOk ops o env' = some b := by
 unfold guardOk at h ⊢
 cases hg : o.guard with
 | none => rw [hg] at h; exact h
 | some jw =>
  obtain ⟨j, want⟩ := jw
  rw [hg] at h
  simp only at h ⊢
  cases ht : (ops[j]?).bind (·.dst) with
  | none => rw [ht] at h; cases h
  | some t =>
   rw [ht] at h
   simp only at h ⊢
   rw [hl t (List.mem_append_right _ (by rw [hg]; simp only [ht]; simp))]
   exact h
theorem stepX_local {lo base i : Nat} {o : Oper} {x y : X} {fp : FP} (h : stepX P E Γ lo base N ops i o x = some (y, fp)) (hloc : fp.loc = true) :
  ∃ sl hw, y = (putD x.1 o.dst sl, putH x.2.1 hw, x.2.2) ∧ fp.wh = hw.map (·.1) ∧ ∀ x' : X, (∀ t, t ∈ o.looksAt ops → x'.1 t = x.1 t) → (∀ i ∈ fp.rh, x'.2.1 i = x.2.1 i) →
   stepX P E Γ lo base N ops i o x' = some ((putD x'.1 o.dst sl, putH x'.2.1 hw, x'.2.2), fp) := by
 cases hd : o.dst.all (Nat.blt · N) with
 | false => unfold stepX at h; rw [hd] at h; cases h
 | true =>
  cases hg : guardOk ops o x.1 with
  | none => unfold stepX at h; rw [hd, hg] at h; cases h
  | some b =>
   cases b with
   | true =>
    rw [stepX_true hd hg] at h
    simp only [Option.map_eq_some_iff] at h
    obtain ⟨⟨e, l⟩, he, hy⟩ := h
    simp only [Prod.mk.injEq] at hy
    obtain ⟨rfl, rfl⟩ := hy
    have hloc : l = true := hloc
    subst hloc
    unfold opY at he
    have ht : opX P Γ lo base o x.1 x.2.1 x.2.2 = none := by
     cases ht : opX P Γ lo base o x.1 x.2.1 x.2.2 with
     | none => rfl
     | some t =>
      rw [ht] at he
      simp only [Option.map_eq_some_iff] at he
      obtain ⟨e', _, q⟩ := he
      cases q
    rw [ht] at he
    simp only [Option.map_eq_some_iff] at he
    obtain ⟨e', he, q⟩ := he
    cases q
    refine ⟨_, _, rfl, rfl, fun x' h1 h2 => ?_⟩
    have hops : ∀ t, Operand.tmp t ∈ o.op.operands → x'.1 t = x.1 t := fun t ht => h1 t (List.mem_append_left _ (List.mem_filterMap.2 ⟨.tmp t, by simpa using ht, rfl⟩))
    rw [stepX_true hd (guardOk_local hg h1)]
    unfold opY
    rw [opX_none hops ht]
    simp only
    rw [opT_env (env := x.1) hops, opT_heap he h2]
    rfl
   | false =>
    rw [stepX_false hd hg] at h
    cases h
    refine ⟨.un, [], rfl, rfl, fun x' h1 h2 => ?_⟩
    rw [stepX_false hd (guardOk_local hg h1)]
    rfl
theorem putD_other {env : Nat → Slot} {d : Option Nat} {sl : Slot} {t : Nat} (h : d ≠ some t) : putD env d sl t = env t := by
 cases d with
 | none => rfl
 | some d => simp only [putD, setEnv]; rw [beq_ne (fun e => h (by rw [e]))]; rfl
theorem putH_other : ∀ {hw : List (Nat × DObj)} {heap : Nat → DObj} {i : Nat}, i ∉ hw.map (·.1) → putH heap hw i = heap i
 | [], _, _, _ => rfl
 | (j, o) :: hw, heap, i, h => by
  simp only [List.map_cons, List.mem_cons, not_or] at h
  rw [putH, putH_other h.2]
  simp only [setHeap, beq_ne h.1, cond_false]
theorem putD_comm {env : Nat → Slot} {d d' : Option Nat} {sl sl' : Slot} (h : ∀ t, d = some t → d' ≠ some t) : putD (putD env d sl) d' sl' = putD (putD env d' sl') d sl := by
 funext t
 by_cases h1 : d = some t
 ·have h2 := h t h1
  rw [putD_other h2]
  subst h1
  simp [putD, setEnv]
 ·by_cases h2 : d' = some t
  ·rw [putD_other (env := putD env d' sl') h1]
   subst h2
   simp [putD, setEnv]
  ·rw [putD_other h2, putD_other h1, putD_other h1, putD_other h2]
theorem putH_same : ∀ {hw : List (Nat × DObj)} {heap heap' : Nat → DObj} {i : Nat}, heap i = heap' i → putH heap hw i = putH heap' hw i
 | [], _, _, _, h => h
 | (j, o) :: hw, heap, heap', i, h => by
  rw [putH, putH]
  refine putH_same ?_
  simp only [setHeap]
  cases Nat.beq i j <;> simp [h]
theorem putH_comm {heap : Nat → DObj} {hw hw' : List (Nat × DObj)} (h : ∀ i, i ∈ hw.map (·.1) → i ∉ hw'.map (·.1)) : putH (putH heap hw) hw' = putH (putH heap hw') hw := by
 funext i
 by_cases h1 : i ∈ hw.map (·.1)
 ·rw [putH_other (h i h1)]
  exact putH_same (putH_other (h i h1)).symm
 ·rw [putH_other (heap := putH heap hw') h1]
  exact putH_same (putH_other h1)
theorem meets_false {a b : List Nat} (h : meets a b = false) : ∀ i, i ∈ a → i ∉ b := fun i hi hb => by
 have : meets a b = true := List.any_eq_true.2 ⟨i, hi, List.any_eq_true.2 ⟨i, hb, Nat.beq_refl i⟩⟩
 rw [h] at this; cases this
theorem stepX_swap {lo base i j : Nat} {oi oj : Oper} {x x1 x2 : X} {fi fj : FP} (h1 : stepX P E Γ lo base N ops i oi x = some (x1, fi)) (h2 : stepX P E Γ lo base N ops j oj x1 = some (x2, fj)) (hli : fi.loc = true) (hlj : fj.loc = true)
  (ha : oi.apart ops oj = true) (hb : oj.apart ops oi = true) (hi : indepH fi fj = true) :
  ∃ y, stepX P E Γ lo base N ops j oj x = some (y, fj) ∧ stepX P E Γ lo base N ops i oi y = some (x2, fi) := by
 obtain ⟨sl1, hw1, rfl, w1, l1⟩ := stepX_local h1 hli
 obtain ⟨sl2, hw2, rfl, w2, l2⟩ := stepX_local h2 hlj
 obtain ⟨a1, a2, a3⟩ := Oper.apart_spec ha
 simp only [indepH, Bool.and_eq_true, Bool.not_eq_true'] at hi
 obtain ⟨⟨i1, i2⟩, i3⟩ := hi
 have i1 := meets_false i1
 have i2 := meets_false i2
 have i3 := meets_false i3
 rw [w1] at i1 i3
 rw [w2] at i2 i3
 have q := l2 x (fun t ht => (putD_other (fun e => a1 t e ht)).symm) (fun k hk => (putH_other (fun e => i1 k e hk)).symm)
 refine ⟨_, q, ?_⟩
 have q2 := l1 (putD x.1 oj.dst sl2, putH x.2.1 hw2, x.2.2) (fun t ht => putD_other (fun e => a3 t e ht)) (fun k hk => putH_other (fun e => i2 k e hk))
 rw [q2]
 simp only
 rw [putD_comm (fun t ht => (a2 t ht)), putH_comm i3]
end Go.Dm
namespace Go.Dm
open Go.RowKit
variable {P : Program} {N : Nat} {G : Gh} {S S' : CS} {w w' : World} {s : St} {a : Act} {ρ ρ' : Rho} {F F' : Nat → Prop} {heap heap' : Nat → DObj} {Y : Value} {E : TCtx} {Γ : Ctx} {Fw : Fence} {r : Nat} {ops : Array Oper} {lo base : Nat} {dfr : List Dfr}
def XRun (P : Program) (E : TCtx) (Γ : Ctx) (lo base N : Nat) (ops : Array Oper) : List FP → X → X → Prop
 | [], x, y => x = y
 | f :: l, x, y => ∃ o x1, ops[f.i]? = some o ∧ stepX P E Γ lo base N ops f.i o x = some (x1, f) ∧ XRun P E Γ lo base N ops l x1 y
theorem stepX_i {i : Nat} {o : Oper} {x y : X} {fp : FP} (h : stepX P E Γ lo base N ops i o x = some (y, fp)) : fp.i = i := by
 unfold stepX at h
 split at h
 ·simp only [Option.map_eq_some_iff] at h
  obtain ⟨e, _, h⟩ := h
  cases h; rfl
 ·cases h; rfl
 ·cases h
theorem opsK_spec {β : Type} {K : Option (St × List FP) → β} : ∀ {l : List Oper} {i : Nat} {log : List FP} {s : St}, (∀ j o, l[j]? = some o → ops[i + j]? = some o) →
  (∃ s' fps, XRun P E Γ lo s.base N ops fps s.x s'.x ∧ s'.base = s.base ∧ s'.dfr = s.dfr ∧ fps.map (·.i) = List.range' i l.length ∧ opsK P E Γ lo N ops l i log s K = K (some (s', fps.reverse ++ log))) ∨ opsK P E Γ lo N ops l i log s K = K none
 | [], i, log, s, _ => .inl ⟨s, [], rfl, rfl, rfl, rfl, rfl⟩
 | o :: l, i, log, s, h => by
  have h0 : ops[i]? = some o := by simpa using h 0 o (by simp)
  let K' : Option (St × FP) → β := fun
   | some (s', fp) => opsK P E Γ lo N ops l (i + 1) (fp :: log) s' K
   | none => K none
  have hK : opsK P E Γ lo N ops (o :: l) i log s K = stepK P E Γ lo N ops i o s K' := rfl
  rcases stepK_spec (P := P) (E := E) (Γ := Γ) (N := N) (ops := ops) (lo := lo) i o s K' with ⟨s', fp, h1, hb, hd, h2⟩ | h2
  ·have hi : fp.i = i := stepX_i h1
   rcases opsK_spec (K := K) (l := l) (i := i + 1) (log := fp :: log) (s := s') (fun j o' hj => by have := h (j + 1) o' (by simpa using hj); simpa [Nat.add_assoc, Nat.add_comm 1 j] using this) with ⟨s2, fps, q1, qb, qd, q2, q3⟩ | q
   ·refine .inl ⟨s2, fp :: fps, ⟨o, s'.x, by rw [hi]; exact h0, by rw [hi]; exact h1, by rw [hb] at q1; exact q1⟩, qb.trans hb, qd.trans hd, ?_, ?_⟩
    ·simp [hi, q2, List.range'_succ]
    ·refine (hK.trans h2).trans (q3.trans ?_)
     simp
   ·exact .inr ((hK.trans h2).trans q)
  ·exact .inr (hK.trans h2)
theorem XRun_first {g : FP} {y : X} {l2 : List FP} : ∀ {l1 : List FP} {x : X}, XRun P E Γ lo base N ops (l1 ++ g :: l2) x y →
  (∀ f ∈ l1, ∃ of og, ops[f.i]? = some of ∧ ops[g.i]? = some og ∧ f.loc = true ∧ g.loc = true ∧ of.apart ops og = true ∧ og.apart ops of = true ∧ indepH f g = true) →
  XRun P E Γ lo base N ops (g :: l1 ++ l2) x y
 | [], x, h, _ => h
 | f :: l1, x, h, hf => by
  obtain ⟨o, x1, h1, h2, h3⟩ := h
  have ih := XRun_first h3 (fun f hm => hf f (List.mem_cons_of_mem _ hm))
  obtain ⟨og, x2, g1, g2, g3⟩ := ih
  obtain ⟨of, og', e1, e2, l1', l2', e3, e4, e5⟩ := hf f (List.mem_cons_self ..)
  rw [h1] at e1; cases e1
  rw [g1] at e2; cases e2
  obtain ⟨z, z1, z2⟩ := stepX_swap h2 g2 l1' l2' e3 e4 e5
  exact ⟨og, z, g1, z1, o, x2, h1, z2, g3⟩
theorem edgesOk_spec (h : edgesOk ops = true) {i : Nat} {o : Oper} (ho : ops[i]? = some o) : ∀ e ∈ o.after, Region.binds .any e = true → e.on < i := fun e he hb => by
 unfold edgesOk at h
 rw [List.all_eq_true] at h
 have hm : (o, i) ∈ ops.toList.zipIdx := by
  rw [List.mem_zipIdx_iff_getElem?]; simpa using ho
 have := h _ hm
 rw [List.all_eq_true] at this
 have := this e (by simpa using he)
 simpa [hb] using this
def Closed (ops : Array Oper) (listed : Array Bool) : Prop := ∀ i o, ops[i]? = some o → listed.getD i false = true → ∀ e ∈ o.after, Region.binds .any e = true → listed.getD e.on false = true
theorem waitsT_listed {listed : Array Bool} (hc : Closed ops listed) : ∀ (n j i : Nat), waitsT ops n j i = true → (∀ o, ops[j]? = some o → ∀ e ∈ o.after, Region.binds .any e = true → listed.getD e.on false = true) → listed.getD i false = true
 | 0, _, _, h, _ => by cases h
 | n + 1, j, i, h, hj => by
  unfold waitsT at h
  split at h
  ·rename_i o ho
   rw [List.any_eq_true] at h
   obtain ⟨e, he, h⟩ := h
   simp only [Bool.and_eq_true, Bool.or_eq_true] at h
   have hl := hj o ho e (by simpa using he) h.1
   rcases h.2 with q | q
   ·have := Nat.eq_of_beq_eq_true q
    rw [← this]; exact hl
   ·exact waitsT_listed hc n e.on i q (fun o' ho' => hc e.on o' ho' hl)
  ·cases h
theorem wpAnyIn_of_XRun (hE : Env P E Γ G Fw) (hnd : ∀ (i : Nat) (o : Oper), ops[i]? = some o → ∀ c, o.op ≠ .defer c) (hed : edgesOk ops = true) {Q : Exit → Act → World → Prop} {y : X} (hQ : ∀ a w, SX P N G (y.st base dfr) a w → Q .normal a w) :
  ∀ (n : Nat) {l : List FP} {listed : Array Bool} {x : X} {a : Act} {w : World}, l.length = n → (l.map (·.i)).Pairwise (· < ·) → (∀ f ∈ l, f.i < ops.size) → (∀ i, i < ops.size → (listed.getD i true = false ↔ i ∈ l.map (·.i))) → listed.size = ops.size → Closed ops listed →
   l.Pairwise (fun f g => pairOk ops g f = true) → XRun P E Γ G.lo base N ops l x y → SX P N G (x.st base dfr) a w → wpAnyIn Fw r P .any ops Q n listed a w
 | 0, l, listed, x, a, w, hl, hs, hb, hu, hsz, hcl, hp, hr, hx => by
  have : l = [] := List.eq_nil_of_length_eq_zero hl
  subst this
  cases hr
  refine ⟨?_, hQ _ _ hx⟩
  refine List.eq_nil_iff_forall_not_mem.2 fun i hi => ?_
  obtain ⟨h1, o, h2, _⟩ := mem_ready.1 hi
  have := (hu i (Array.getElem?_eq_some_iff.1 h2).1).1 h1
  cases this
 | n + 1, l, listed, x, a, w, hl, hs, hb, hu, hsz, hcl, hp, hr, hx => by
  have listedOf : ∀ i, i < ops.size → i ∉ l.map (·.i) → listed.getD i false = true := fun i hi hn => by
   have h1 : ¬ listed.getD i true = false := fun e => hn ((hu i hi).1 e)
   have hlt : i < listed.size := by omega
   simp [Array.getD_eq_getD_getElem?, hlt] at h1 ⊢
   exact h1
  refine ⟨fun h0 => ?_, fun i hi => ?_⟩
  ·exfalso
   cases l with
   | nil => cases hl
   | cons f l =>
    have hf : f.i < ops.size := hb f (List.mem_cons_self ..)
    have : f.i ∈ Region.ready .any ops listed := mem_ready.2 ⟨(hu _ hf).2 (by simp), ops[f.i], Array.getElem?_eq_getElem hf, fun e he hbd => by
     have hlt := edgesOk_spec hed (Array.getElem?_eq_getElem hf) e he hbd
     refine listedOf e.on (by omega) fun hm => ?_
     rw [List.map_cons, List.pairwise_cons] at hs
     rw [List.map_cons, List.mem_cons] at hm
     rcases hm with hm | hm
     ·omega
     ·have := hs.1 _ hm; omega⟩
    rw [h0] at this; cases this
  ·obtain ⟨h1, o, h2, h3⟩ := mem_ready.1 hi
   have him := (hu i (Array.getElem?_eq_some_iff.1 h2).1).1 h1
   obtain ⟨g, hg, rfl⟩ := List.mem_map.1 him
   obtain ⟨l1, l2, rfl⟩ := List.append_of_mem hg
   have hr' := XRun_first hr (fun f hf => by
    have hpf : pairOk ops g f = true := by
     rw [List.pairwise_append] at hp
     exact hp.2.2 f hf g (List.mem_cons_self ..)
    unfold pairOk at hpf
    rw [h2] at hpf
    have hfs : f.i < ops.size := hb f (by simp [hf])
    rw [Array.getElem?_eq_getElem hfs] at hpf
    simp only at hpf
    have hw : waitsT ops ops.size g.i f.i = false := by
     cases hq : waitsT ops ops.size g.i f.i with
     | false => rfl
     | true =>
      have := waitsT_listed hcl _ _ _ hq (fun o' ho' e he hbd => by rw [h2] at ho'; cases ho'; exact h3 e he hbd)
      have h4 := (hu f.i hfs).2 (by simp only [List.map_append, List.mem_append]; exact .inl (List.mem_map.2 ⟨f, hf, rfl⟩))
      have hlt : f.i < listed.size := by omega
      simp [Array.getD_eq_getD_getElem?, hlt] at this h4
      rw [this] at h4; cases h4
    rw [hw] at hpf
    simp only [Bool.or_false, Bool.and_eq_true] at hpf
    exact ⟨_, o, Array.getElem?_eq_getElem hfs, h2, hpf.1.2, hpf.1.1, hpf.2.1.1, hpf.2.1.2, hpf.2.2⟩)
   obtain ⟨o', x1, q1, q2, q3⟩ := hr'
   rw [h2] at q1; cases q1
   refine wpOpIn_mono (fun a' w' hx' => ?_) (stepX_sound hE h2 (hnd _ _ h2) q2 hx)
   have hsub : (l1 ++ l2).Sublist (l1 ++ g :: l2) := List.Sublist.append_left (List.sublist_cons_self _ _) _
   refine wpAnyIn_of_XRun hE hnd hed hQ n (l := l1 ++ l2) (by simp at hl ⊢; omega) (hs.sublist (hsub.map _)) (fun f hf => hb f (hsub.subset hf)) (fun i hi' => ?_) (by simpa using hsz) ?_ (hp.sublist hsub) q3 hx'
   ·have hgn : g.i ∉ (l1 ++ l2).map (·.i) := by
     have := hs.imp (fun {a b} (h : a < b) => Nat.ne_of_lt h)
     rw [List.map_append, List.map_cons, List.pairwise_append, List.pairwise_cons] at this
     rw [List.map_append, List.mem_append]
     rintro (hm | hm)
     ·exact this.2.2 _ hm _ (List.mem_cons_self ..) rfl
     ·exact this.2.1.1 _ hm rfl
    by_cases hig : g.i = i
    ·subst hig
     have hlt : g.i < listed.size := by omega
     simp only [hgn, iff_false]
     simp [Array.getD_eq_getD_getElem?, hlt]
    ·rw [getD_set_ne true hig, hu i hi']
     simp only [List.map_append, List.map_cons, List.mem_append, List.mem_cons]
     constructor
     ·rintro (h | h | h)
      ·exact .inl h
      ·exact absurd h.symm hig
      ·exact .inr h
     ·rintro (h | h)
      ·exact .inl h
      ·exact .inr (.inr h)
   ·intro i' o' ho' hli e he hbd
    have keep : ∀ k, listed.getD k false = true → (listed.setIfInBounds g.i true).getD k false = true := fun k hk => by
     by_cases hgk : g.i = k
     ·subst hgk
      have hgs : g.i < listed.size := by
       rw [hsz]; exact (Array.getElem?_eq_some_iff.1 h2).1
      simp [Array.getD_eq_getD_getElem?, hgs]
     ·rw [getD_set_ne false hgk]; exact hk
    by_cases hgi : g.i = i'
    ·subst hgi
     rw [h2] at ho'; cases ho'
     exact keep _ (h3 e he hbd)
    ·rw [getD_set_ne false hgi] at hli
     exact keep _ (hcl i' o' ho' hli e he hbd)
theorem wpAnyIn_pre (hE : Env P E Γ G Fw) (hnd : ∀ (i : Nat) (o : Oper), ops[i]? = some o → ∀ c, o.op ≠ .defer c) (hed : edgesOk ops = true) {Q : Exit → Act → World → Prop} {y : X} {k m : Nat} (hks : k ≤ ops.size)
  (hk : ∀ j, k ≤ j → j < ops.size → (∀ i, i < k → waitsT ops ops.size j i = true) ∨ ∃ i, k ≤ i ∧ i < ops.size ∧ waitsT ops ops.size j i = true)
  (hQ : ∀ (listed : Array Bool) a w, (∀ i, i < ops.size → (listed.getD i true = false ↔ k ≤ i)) → listed.size = ops.size → Closed ops listed → SX P N G (y.st base dfr) a w → wpAnyIn Fw r P .any ops Q m listed a w) :
  ∀ (n : Nat) {l : List FP} {listed : Array Bool} {x : X} {a : Act} {w : World}, l.length = n → (l.map (·.i)).Pairwise (· < ·) → (∀ f ∈ l, f.i < k) → (∀ i, i < ops.size → (listed.getD i true = false ↔ i ∈ l.map (·.i) ∨ k ≤ i)) → listed.size = ops.size → Closed ops listed →
   l.Pairwise (fun f g => pairOk ops g f = true) → XRun P E Γ G.lo base N ops l x y → SX P N G (x.st base dfr) a w → wpAnyIn Fw r P .any ops Q (m + n) listed a w
 | 0, l, listed, x, a, w, hl, hs, hb, hu, hsz, hcl, hp, hr, hx => by
  have : l = [] := List.eq_nil_of_length_eq_zero hl
  subst this
  cases hr
  exact hQ _ _ _ (fun i hi => (hu i hi).trans (by simp)) hsz hcl hx
 | n + 1, l, listed, x, a, w, hl, hs, hb, hu, hsz, hcl, hp, hr, hx => by
  have listedOf : ∀ i, i < k → i ∉ l.map (·.i) → listed.getD i false = true := fun i hi hn => by
   have h1 : ¬ listed.getD i true = false := fun e => by
    rcases (hu i (by omega)).1 e with q | q
    ·exact hn q
    ·omega
   have hlt : i < listed.size := by omega
   simp [Array.getD_eq_getD_getElem?, hlt] at h1 ⊢
   exact h1
  have unl : ∀ i, i < ops.size → listed.getD i true = false → listed.getD i false = true → False := fun i hi h1 h2 => by
   have hlt : i < listed.size := by omega
   simp [Array.getD_eq_getD_getElem?, hlt] at h1 h2
   rw [h1] at h2; cases h2
  refine ⟨fun h0 => ?_, fun i hi => ?_⟩
  ·exfalso
   cases l with
   | nil => cases hl
   | cons f l =>
    have hfk : f.i < k := hb f (List.mem_cons_self ..)
    have hf : f.i < ops.size := by omega
    have : f.i ∈ Region.ready .any ops listed := mem_ready.2 ⟨(hu _ hf).2 (.inl (by simp)), ops[f.i], Array.getElem?_eq_getElem hf, fun e he hbd => by
     have hlt := edgesOk_spec hed (Array.getElem?_eq_getElem hf) e he hbd
     refine listedOf e.on (by omega) fun hm => ?_
     rw [List.map_cons, List.pairwise_cons] at hs
     rw [List.map_cons, List.mem_cons] at hm
     rcases hm with hm | hm
     ·omega
     ·have := hs.1 _ hm; omega⟩
    rw [h0] at this; cases this
  ·obtain ⟨h1, o, h2, h3⟩ := mem_ready.1 hi
   have his : i < ops.size := (Array.getElem?_eq_some_iff.1 h2).1
   have him : i ∈ l.map (·.i) := by
    rcases (hu i his).1 h1 with q | q
    ·exact q
    exfalso
    rcases hk i q his with hw | ⟨j, j1, j2, hw⟩
    ·cases l with
     | nil => cases hl
     | cons f l =>
      have hfk : f.i < k := hb f (List.mem_cons_self ..)
      have := waitsT_listed hcl _ _ _ (hw f.i hfk) (fun o' ho' e he hbd => by rw [h2] at ho'; cases ho'; exact h3 e he hbd)
      exact unl f.i (by omega) ((hu f.i (by omega)).2 (.inl (by simp))) this
    ·have := waitsT_listed hcl _ _ _ hw (fun o' ho' e he hbd => by rw [h2] at ho'; cases ho'; exact h3 e he hbd)
     exact unl j j2 ((hu j j2).2 (.inr j1)) this
   obtain ⟨g, hg, rfl⟩ := List.mem_map.1 him
   obtain ⟨l1, l2, rfl⟩ := List.append_of_mem hg
   have hr' := XRun_first hr (fun f hf => by
    have hpf : pairOk ops g f = true := by
     rw [List.pairwise_append] at hp
     exact hp.2.2 f hf g (List.mem_cons_self ..)
    unfold pairOk at hpf
    rw [h2] at hpf
    have hfs : f.i < ops.size := by have := hb f (by simp [hf]); omega
    rw [Array.getElem?_eq_getElem hfs] at hpf
    simp only at hpf
    have hw : waitsT ops ops.size g.i f.i = false := by
     cases hq : waitsT ops ops.size g.i f.i with
     | false => rfl
     | true =>
      have := waitsT_listed hcl _ _ _ hq (fun o' ho' e he hbd => by rw [h2] at ho'; cases ho'; exact h3 e he hbd)
      exact (unl f.i hfs ((hu f.i hfs).2 (.inl (by simp only [List.map_append, List.mem_append]; exact .inl (List.mem_map.2 ⟨f, hf, rfl⟩)))) this).elim
    rw [hw] at hpf
    simp only [Bool.or_false, Bool.and_eq_true] at hpf
    exact ⟨_, o, Array.getElem?_eq_getElem hfs, h2, hpf.1.2, hpf.1.1, hpf.2.1.1, hpf.2.1.2, hpf.2.2⟩)
   obtain ⟨o', x1, q1, q2, q3⟩ := hr'
   rw [h2] at q1; cases q1
   refine wpOpIn_mono (fun a' w' hx' => ?_) (stepX_sound hE h2 (hnd _ _ h2) q2 hx)
   have hsub : (l1 ++ l2).Sublist (l1 ++ g :: l2) := List.Sublist.append_left (List.sublist_cons_self _ _) _
   refine wpAnyIn_pre hE hnd hed hks hk hQ n (l := l1 ++ l2) (by simp at hl ⊢; omega) (hs.sublist (hsub.map _)) (fun f hf => hb f (hsub.subset hf)) (fun i hi' => ?_) (by simpa using hsz) ?_ (hp.sublist hsub) q3 hx'
   ·have hgk : g.i < k := hb g hg
    have hgn : g.i ∉ (l1 ++ l2).map (·.i) := by
     have := hs.imp (fun {a b} (h : a < b) => Nat.ne_of_lt h)
     rw [List.map_append, List.map_cons, List.pairwise_append, List.pairwise_cons] at this
     rw [List.map_append, List.mem_append]
     rintro (hm | hm)
     ·exact this.2.2 _ hm _ (List.mem_cons_self ..) rfl
     ·exact this.2.1.1 _ hm rfl
    by_cases hig : g.i = i
    ·subst hig
     have hlt : g.i < listed.size := by omega
     simp only [hgn, false_or]
     simp [Array.getD_eq_getD_getElem?, hlt]
     omega
    ·rw [getD_set_ne true hig, hu i hi']
     simp only [List.map_append, List.map_cons, List.mem_append, List.mem_cons]
     constructor
     ·rintro ((h | h | h) | h)
      ·exact .inl (.inl h)
      ·exact absurd h.symm hig
      ·exact .inl (.inr h)
      ·exact .inr h
     ·rintro ((h | h) | h)
      ·exact .inl (.inl h)
      ·exact .inl (.inr (.inr h))
      ·exact .inr h
   ·intro i' o' ho' hli e he hbd
    have keep : ∀ k, listed.getD k false = true → (listed.setIfInBounds g.i true).getD k false = true := fun k hk => by
     by_cases hgk : g.i = k
     ·subst hgk
      have hgs : g.i < listed.size := by
       rw [hsz]; exact (Array.getElem?_eq_some_iff.1 h2).1
      simp [Array.getD_eq_getD_getElem?, hgs]
     ·rw [getD_set_ne false hgk]; exact hk
    by_cases hgi : g.i = i'
    ·subst hgi
     rw [h2] at ho'; cases ho'
     exact keep _ (h3 e he hbd)
    ·rw [getD_set_ne false hgi] at hli
     exact keep _ (hcl i' o' ho' hli e he hbd)
theorem logOk_pairwise : ∀ {l : List FP}, logOk ops l = true → l.Pairwise (fun f g => pairOk ops f g = true)
 | [], _ => .nil
 | f :: l, h => by
  simp only [logOk, Bool.and_eq_true, List.all_eq_true] at h
  exact .cons h.1 (logOk_pairwise h.2)
end Go.Dm
namespace Go.Dm
open Go.RowKit
variable {P : Program} {N : Nat} {G : Gh} {S S' : CS} {w w' : World} {s s2 : St} {a : Act} {ρ ρ' : Rho} {F F' : Nat → Prop} {heap heap' : Nat → DObj} {Y : Value} {E : TCtx} {Γ : Ctx} {Fw : Fence} {r : Nat} {ops : Array Oper} {lo base : Nat} {dfr : List Dfr}
theorem opDst_some {i : Nat} {p : Op × Option Nat} (h : opDst ops i = some p) : ∃ o, ops[i]? = some o ∧ o.guard = none ∧ o.op = p.1 ∧ o.dst = p.2 := by
 unfold opDst at h
 split at h
 ·rename_i o ho
  split at h
  ·rename_i hg
   cases h
   exact ⟨o, ho, hg, rfl, rfl⟩
  ·cases h
 ·cases h
theorem lkOp_some {o : Op} {T : TypeId} {m x : Nat} (h : lkOp o = some (T, m, x)) : o = .lookup T (.tmp m) (.tmp x) false := by
 unfold lkOp at h
 split at h
 ·cases h; rfl
 ·cases h
theorem adOp_some {o : Op} {x : Nat} {y : Operand} (h : adOp o = some (x, y)) : ∃ t z, o = .binOp .add t (.tmp x) y z := by
 unfold adOp at h
 split at h
 ·cases h; exact ⟨_, _, rfl⟩
 ·cases h
theorem enOp_some {o : Op} {T : TypeId} {m x : Nat} (h : enOp o = some (T, m, x)) : o = .mapEntry T (.tmp m) (.tmp x) := by
 unfold enOp at h
 split at h
 ·cases h; rfl
 ·cases h
theorem exOp_some {o : Op} {t i : Nat} (h : exOp o = some (t, i)) : o = .extract (.tmp t) i := by
 unfold exOp at h
 split at h
 ·cases h; rfl
 ·cases h
theorem esOp_some {o : Op} {m t y : Nat} (h : esOp o = some (m, t, y)) : ∃ T, o = .entryStore T (.tmp m) (.tmp t) (.tmp y) := by
 unfold esOp at h
 split at h
 ·cases h; exact ⟨_, rfl⟩
 ·cases h
structure CntAt (ops : Array Oper) (k : Nat) (c : Cnt) (o0 o1 o2 o3 o4 : Oper) : Prop where
 h0 : ops[k]? = some o0
 h1 : ops[k + 1]? = some o1
 h2 : ops[k + 2]? = some o2
 h3 : ops[k + 3]? = some o3
 h4 : ops[k + 4]? = some o4
 g0 : o0.guard = none
 g1 : o1.guard = none
 g2 : o2.guard = none
 g3 : o3.guard = none
 g4 : o4.guard = none
 p0 : o0.op = .lookup c.T (.tmp c.m) (.tmp c.x) false
 p1 : ∃ t z, o1.op = .binOp .add t (.tmp c.d0) c.y z
 p2 : o2.op = .mapEntry c.T (.tmp c.m) (.tmp c.x)
 p3 : o3.op = .extract (.tmp c.d2) 1
 p4 : ∃ T, o4.op = .entryStore T (.tmp c.m) (.tmp c.d3) (.tmp c.d1)
 d0 : o0.dst = some c.d0
 d1 : o1.dst = some c.d1
 d2 : o2.dst = some c.d2
 d3 : o3.dst = some c.d3
 d4 : o4.dst = none
 y : noTmp c.y = true
theorem cntPat_some {k : Nat} {c : Cnt} (h : cntPat ops k = some c) : ∃ o0 o1 o2 o3 o4, CntAt ops k c o0 o1 o2 o3 o4 := by
 unfold cntPat at h
 split at h
 case h_2 => cases h
 rename_i o0 d0 o1 d1 o2 d2 o3 d3 o4 e0 e1 e2 e3 e4
 split at h
 case h_2 => cases h
 rename_i T m x x1 y T2 m2 x2 t3 i3 m4 t4 y4 l0 l1 l2 l3 l4
 split at h
 case h_2 => cases h
 rename_i hb
 cases h
 simp only [Bool.and_eq_true] at hb
 obtain ⟨⟨⟨⟨⟨⟨⟨⟨⟨b1, b2⟩, b3⟩, b4⟩, b5⟩, b6⟩, b7⟩, b8⟩, b9⟩, b10⟩ := hb
 cases Nat.eq_of_beq_eq_true b1
 cases Nat.eq_of_beq_eq_true b3
 cases Nat.eq_of_beq_eq_true b4
 cases Nat.eq_of_beq_eq_true b5
 cases Nat.eq_of_beq_eq_true b6
 cases Nat.eq_of_beq_eq_true b7
 cases Nat.eq_of_beq_eq_true b8
 cases Nat.eq_of_beq_eq_true b9
 cases Nat.eq_of_beq_eq_true b10
 obtain ⟨p0, q01, q02, q03, q04⟩ := opDst_some e0
 obtain ⟨p1, q11, q12, q13, q14⟩ := opDst_some e1
 obtain ⟨p2, q21, q22, q23, q24⟩ := opDst_some e2
 obtain ⟨p3, q31, q32, q33, q34⟩ := opDst_some e3
 obtain ⟨p4, q41, q42, q43, q44⟩ := opDst_some e4
 obtain ⟨t1, z1, r1⟩ := adOp_some l1
 obtain ⟨T4, r4⟩ := esOp_some l4
 exact ⟨p0, p1, p2, p3, p4, q01, q11, q21, q31, q41, q02, q12, q22, q32, q42, q03.trans (lkOp_some l0), ⟨t1, z1, q13.trans r1⟩, q23.trans (enOp_some l2), q33.trans (exOp_some l3), ⟨T4, q43.trans r4⟩, q04, q14, q24, q34, q44, b2⟩
theorem wpOpIn_run (hE : Env P E Γ G Fw) {i : Nat} {o : Oper} (ho : ops[i]? = some o) (hg : o.guard = none) (hnd : ∀ c, o.op ≠ .defer c) {Q : Exit → Act → World → Prop} {K : Act → World → Prop} {v : Value}
  (hr : (execOp a.eval o).run P w = .ok (.value v) w' ∨ (execOp a.eval o).run P w = .ok .skip w' ∧ v = undef) (hK : K (a.put o.dst v) w') : wpOpIn Fw r P ops Q i K a w := by
 unfold wpOpIn
 simp only [ho]
 have hw : Region.wanted o (yielded ops a.tmps) = true := by simp [Region.wanted, hg]
 rw [if_pos hw]
 refine opIn_of_op hE.wide hnd ?_
 unfold Oper.wp
 rcases hr with hr | ⟨hr, rfl⟩
 ·rw [hr]; exact hK
 ·rw [hr]; exact hK
def putIf (l : Bool) (a : Act) (d : Nat) (v : Value) : Act := bif l then a.put (some d) v else a
theorem putIf_eval {l : Bool} {d : Nat} {v : Value} {x : Operand} (h : x ≠ .tmp d) : (putIf l a d v).eval x = a.eval x := by
 cases l
 ·rfl
 ·exact Act.eval_put (dst := some d) (fun d' hd' => by cases hd'; exact h)
theorem putIf_size {l : Bool} {d : Nat} {v : Value} : (putIf l a d v).tmps.size = a.tmps.size := by
 cases l
 ·rfl
 ·show (a.tmps.setIfInBounds d v).size = _
  simp
theorem put_eval {d : Nat} {v : Value} (h : d < a.tmps.size) : (putIf true a d v).eval (.tmp d) = v := by
 show (a.tmps.setIfInBounds d v).getD d undef = v
 simp [Array.getD_eq_getD_getElem?, h]
theorem put_putIf {l : Bool} {d e : Nat} {v u : Value} (h : d ≠ e) : (putIf l a e u).put (some d) v = putIf l (a.put (some d) v) e u := by
 cases l
 ·rfl
 ·show ({ a with tmps := (a.tmps.setIfInBounds e u).setIfInBounds d v } : Act) = { a with tmps := (a.tmps.setIfInBounds d v).setIfInBounds e u }
  rw [Array.setIfInBounds_comm _ _ (Ne.symm h)]
def cA (a : Act) (c : Cnt) (v0 v1 v2 v3 : Value) (l0 l1 l2 l3 : Bool) : Act := putIf l3 (putIf l2 (putIf l1 (putIf l0 a c.d0 v0) c.d1 v1) c.d2 v2) c.d3 v3
theorem cA_eval {c : Cnt} {v0 v1 v2 v3 : Value} {l0 l1 l2 l3 : Bool} {x : Operand} (h0 : x ≠ .tmp c.d0) (h1 : x ≠ .tmp c.d1) (h2 : x ≠ .tmp c.d2) (h3 : x ≠ .tmp c.d3) : (cA a c v0 v1 v2 v3 l0 l1 l2 l3).eval x = a.eval x := by
 unfold cA
 rw [putIf_eval h3, putIf_eval h2, putIf_eval h1, putIf_eval h0]
theorem setD_iff {listed : Array Bool} {i j : Nat} (hj : j < listed.size) : (listed.setIfInBounds j true).getD i true = false ↔ i ≠ j ∧ listed.getD i true = false := by
 by_cases h : j = i
 ·subst h
  simp [Array.getD_eq_getD_getElem?, hj]
 ·rw [getD_set_ne true h]
  exact ⟨fun q => ⟨fun e => h e.symm, q⟩, fun q => q.2⟩
theorem closed_set {listed : Array Bool} {j : Nat} {o : Oper} (hc : Closed ops listed) (ho : ops[j]? = some o) (hl : ∀ e ∈ o.after, Region.binds .any e = true → listed.getD e.on false = true) (hj : j < listed.size) : Closed ops (listed.setIfInBounds j true) := by
 intro i' o' ho' hli e he hbd
 have keep : ∀ k, listed.getD k false = true → (listed.setIfInBounds j true).getD k false = true := fun k hk => by
  by_cases hgk : j = k
  ·subst hgk
   simp [Array.getD_eq_getD_getElem?, hj]
  ·rw [getD_set_ne false hgk]; exact hk
 by_cases hgi : j = i'
 ·subst hgi
  rw [ho] at ho'; cases ho'
  exact keep _ (hl e he hbd)
 ·rw [getD_set_ne false hgi] at hli
  exact keep _ (hc i' o' ho' hli e he hbd)
theorem listed_not {listed : Array Bool} {i : Nat} (hi : i < listed.size) : listed.getD i false = true ↔ ¬ listed.getD i true = false := by
 simp [Array.getD_eq_getD_getElem?, hi]
def left (l : Bool) : Nat := bif l then 0 else 1
theorem left_t : left true = 0 := rfl
theorem left_f : left false = 1 := rfl
theorem left_0 {l : Bool} (h : left l = 0) : l = true := by
 cases l
 ·cases h
 ·rfl
theorem cnt_any (hE : Env P E Γ G Fw) {k : Nat} {c : Cnt} {o0 o1 o2 o3 o4 : Oper} (hc : CntAt ops k c o0 o1 o2 o3 o4) (hed : edgesOk ops = true) (hw : cntWaits ops k = true) (hf : Cnt.fine c N = true) {Q : Exit → Act → World → Prop}
  {b : Nat} {kv : Value} {ki : IntKind} {x0 n : Int} {v0 : Value} {st : Int} {w1 w2 : World}
  (hsz : a.tmps.size = N) (hm : a.eval (.tmp c.m) = .map (some b)) (hk : a.eval (.tmp c.x) = kv) (hy : a.eval c.y = .int ki n)
  (hl0 : (Instr.lookup c.T (.map (some b)) kv false).run P w = .ok (.int ki x0) w) (hl1 : (Instr.lookup c.T (.map (some b)) kv false).run P w1 = .ok (.int ki x0) w1)
  (hen : (Instr.mapEntry c.T (.map (some b)) kv).run P w = .ok (.tuple #[v0, goInt st]) w1)
  (hes : ∀ T, (Instr.entryStore T (.map (some b)) (goInt st) (.int ki (ki.wrap (x0 + n)))).run P w1 = .ok () w2)
  (hQ : Q .normal (cA a c (.int ki x0) (.int ki (ki.wrap (x0 + n))) (.tuple #[v0, goInt st]) (goInt st) true true true true) w2) :
  ∀ (z : Nat) (l0 l1 l2 l3 : Bool) (listed : Array Bool), z = left l0 + left l1 + left l2 + left l3 → (l1 = true → l0 = true) → (l3 = true → l2 = true) → listed.size = ops.size → Closed ops listed →
   (∀ i, i < ops.size → (listed.getD i true = false ↔ (i = k ∧ l0 = false) ∨ (i = k + 1 ∧ l1 = false) ∨ (i = k + 2 ∧ l2 = false) ∨ (i = k + 3 ∧ l3 = false) ∨ i = k + 4)) →
   wpAnyIn Fw r P .any ops Q (z + 1) listed (cA a c (.int ki x0) (.int ki (ki.wrap (x0 + n))) (.tuple #[v0, goInt st]) (goInt st) l0 l1 l2 l3) (bif l2 then w1 else w) := by
 have hsize : ops.size = k + 5 := by
  unfold cntWaits at hw
  simp only [Bool.and_eq_true] at hw
  exact Nat.eq_of_beq_eq_true hw.1.1.1.1.1
 have hwt : waitsT ops ops.size (k + 1) k = true ∧ waitsT ops ops.size (k + 3) (k + 2) = true ∧ waitsT ops ops.size (k + 4) (k + 1) = true ∧ waitsT ops ops.size (k + 4) (k + 3) = true := by
  unfold cntWaits at hw
  simp only [Bool.and_eq_true] at hw
  exact ⟨hw.1.1.1.2, hw.1.1.2, hw.1.2, hw.2⟩
 unfold Cnt.fine at hf
 simp only [Bool.and_eq_true, Bool.not_eq_true', Nat.blt_eq] at hf
 have bne : ∀ {x y : Nat}, Nat.beq x y = false → x ≠ y := fun h e => by subst e; rw [Nat.beq_refl] at h; cases h
 have tne : ∀ {x y : Nat}, Nat.beq x y = false → Operand.tmp x ≠ .tmp y := fun h e => by cases e; rw [Nat.beq_refl] at h; cases h
 obtain ⟨⟨⟨⟨⟨⟨⟨⟨⟨⟨⟨⟨⟨⟨⟨⟨⟨f0, f1⟩, f2⟩, f3⟩, f01⟩, f02⟩, f03⟩, f12⟩, f13⟩, f23⟩, m0⟩, m1⟩, m2⟩, m3⟩, x0'⟩, x1'⟩, x2'⟩, x3'⟩ := hf
 have yne : ∀ d, c.y ≠ .tmp d := fun d e => by have := hc.y; rw [e] at this; cases this
 intro z
 induction z with
 | zero =>
  intro l0 l1 l2 l3 listed hz hi1 hi2 hls hcl hu
  have e0 : l0 = true := left_0 (by omega)
  have e1 : l1 = true := left_0 (by omega)
  have e2 : l2 = true := left_0 (by omega)
  have e3 : l3 = true := left_0 (by omega)
  subst e0 e1 e2 e3
  have hrd : k + 4 ∈ Region.ready .any ops listed := mem_ready.2 ⟨(hu (k + 4) (by omega)).2 (by simp), o4, hc.h4, fun e he hbd => by
   have hlt := edgesOk_spec hed hc.h4 e he hbd
   rw [listed_not (by omega), hu _ (by omega)]
   rintro (h | h | h | h | h)
   ·cases h.2
   ·cases h.2
   ·cases h.2
   ·cases h.2
   ·omega⟩
  refine ⟨fun h0 => (by rw [h0] at hrd; cases hrd), fun i hi => ?_⟩
  obtain ⟨i1, oi, i2, i3⟩ := mem_ready.1 hi
  have his : i < ops.size := (Array.getElem?_eq_some_iff.1 i2).1
  have hik : i = k + 4 := by
   rcases (hu i his).1 i1 with h | h | h | h | h
   ·cases h.2
   ·cases h.2
   ·cases h.2
   ·cases h.2
   ·exact h
  subst hik
  rw [hc.h4] at i2; cases i2
  obtain ⟨T4, p4⟩ := hc.p4
  have ev1 : (cA a c (.int ki x0) (.int ki (ki.wrap (x0 + n))) (.tuple #[v0, goInt st]) (goInt st) true true true true).eval (.tmp c.m) = .map (some b) := by
   rw [cA_eval (tne m0) (tne m1) (tne m2) (tne m3), hm]
  have ev2 : (cA a c (.int ki x0) (.int ki (ki.wrap (x0 + n))) (.tuple #[v0, goInt st]) (goInt st) true true true true).eval (.tmp c.d3) = goInt st := by
   unfold cA
   exact put_eval (by rw [putIf_size, putIf_size, putIf_size, hsz]; exact f3)
  have ev3 : (cA a c (.int ki x0) (.int ki (ki.wrap (x0 + n))) (.tuple #[v0, goInt st]) (goInt st) true true true true).eval (.tmp c.d1) = .int ki (ki.wrap (x0 + n)) := by
   unfold cA
   rw [putIf_eval (tne f13), putIf_eval (tne f12)]
   exact put_eval (by rw [putIf_size, hsz]; exact f1)
  refine wpOpIn_run hE hc.h4 hc.g4 (fun c' e => by rw [p4] at e; cases e) (v := undef) (w' := w2) (.inr ⟨?_, rfl⟩) ?_
  ·show (execOp _ o4).run P w1 = _
   simp only [execOp, p4, ev1, ev2, ev3, Sem.run_bind, hes, Result.andThen_ok, Sem.run_pure]
  ·rw [hc.d4]
   refine ⟨List.eq_nil_iff_forall_not_mem.2 fun i hi => ?_, hQ⟩
   obtain ⟨j1, oj, j2, _⟩ := mem_ready.1 hi
   have hjs : i < ops.size := (Array.getElem?_eq_some_iff.1 j2).1
   obtain ⟨j3, j4⟩ := (setD_iff (by omega)).1 j1
   rcases (hu i hjs).1 j4 with h | h | h | h | h
   ·cases h.2
   ·cases h.2
   ·cases h.2
   ·cases h.2
   ·exact j3 h
 | succ z ih =>
  intro l0 l1 l2 l3 listed hz hi1 hi2 hls hcl hu
  have mkU : ∀ (j : Nat) (m0 m1 m2 m3 : Bool), j < ops.size → (∀ i, ((i = k ∧ m0 = false) ∨ (i = k + 1 ∧ m1 = false) ∨ (i = k + 2 ∧ m2 = false) ∨ (i = k + 3 ∧ m3 = false) ∨ i = k + 4) ↔ i ≠ j ∧ ((i = k ∧ l0 = false) ∨ (i = k + 1 ∧ l1 = false) ∨ (i = k + 2 ∧ l2 = false) ∨ (i = k + 3 ∧ l3 = false) ∨ i = k + 4)) →
    ∀ i, i < ops.size → ((listed.setIfInBounds j true).getD i true = false ↔ (i = k ∧ m0 = false) ∨ (i = k + 1 ∧ m1 = false) ∨ (i = k + 2 ∧ m2 = false) ∨ (i = k + 3 ∧ m3 = false) ∨ i = k + 4) := fun j m0 m1 m2 m3 hj h i hi => by
   rw [setD_iff (by omega), h i, hu i hi]
  refine ⟨fun h0 => ?_, fun i hi => ?_⟩
  ·exfalso
   have mk : ∀ (j : Nat) (o : Oper), ops[j]? = some o → listed.getD j true = false → (∀ i, i < j → ¬ listed.getD i true = false) → False := fun j o ho hj hlt => by
    have hjs : j < ops.size := (Array.getElem?_eq_some_iff.1 ho).1
    have : j ∈ Region.ready .any ops listed := mem_ready.2 ⟨hj, o, ho, fun e he hbd => by
     have := edgesOk_spec hed ho e he hbd
     rw [listed_not (by omega)]
     exact hlt _ this⟩
    rw [h0] at this; cases this
   cases l0 with
   | false => exact mk k o0 hc.h0 ((hu k (by omega)).2 (by simp)) fun i hi => by rw [hu i (by omega)]; omega
   | true =>
    cases l1 with
    | false => exact mk (k + 1) o1 hc.h1 ((hu (k + 1) (by omega)).2 (by simp)) fun i hi => by rw [hu i (by omega)]; simp; omega
    | true =>
     cases l2 with
     | false => exact mk (k + 2) o2 hc.h2 ((hu (k + 2) (by omega)).2 (by simp)) fun i hi => by rw [hu i (by omega)]; simp; omega
     | true =>
      cases l3 with
      | false => exact mk (k + 3) o3 hc.h3 ((hu (k + 3) (by omega)).2 (by simp)) fun i hi => by rw [hu i (by omega)]; simp; omega
      | true => exact mk (k + 4) o4 hc.h4 ((hu (k + 4) (by omega)).2 (by simp)) fun i hi => by rw [hu i (by omega)]; simp; omega
  ·obtain ⟨i1, oi, i2, i3⟩ := mem_ready.1 hi
   have his : i < ops.size := (Array.getElem?_eq_some_iff.1 i2).1
   have hcl2 := closed_set hcl i2 i3 (by omega)
   have wl : ∀ j, waitsT ops ops.size i j = true → j < ops.size → ¬ listed.getD j true = false := fun j hj hjs => by
    rw [← listed_not (by omega)]
    exact waitsT_listed hcl _ _ _ hj (fun o' ho' e he hbd => by rw [i2] at ho'; cases ho'; exact i3 e he hbd)
   rcases (hu i his).1 i1 with ⟨rfl, rfl⟩ | ⟨rfl, rfl⟩ | ⟨rfl, rfl⟩ | ⟨rfl, rfl⟩ | rfl
   ·-- lookup
    have e1 : l1 = false := by
     cases l1 with
     | false => rfl
     | true => exact absurd (hi1 rfl) (by simp)
    subst e1
    have hz' : z = left true + left false + left l2 + left l3 := by rw [left_t]; rw [left_f] at *; omega
    have := ih true false l2 l3 (listed.setIfInBounds i true) hz' (by simp) hi2 (by simpa using hls) hcl2 (mkU i _ _ _ _ his fun j => by clear hu hcl2 hz' hz hi2; cases l2 <;> cases l3 <;> simp <;> omega)
    rw [hc.h0] at i2; cases i2
    refine wpOpIn_run hE hc.h0 hc.g0 (fun c' e => by rw [hc.p0] at e; cases e) (v := .int ki x0) (w' := bif l2 then w1 else w) (.inl ?_) ?_
    ·simp only [execOp, hc.p0, cA_eval (tne m0) (tne m1) (tne m2) (tne m3), cA_eval (tne x0') (tne x1') (tne x2') (tne x3'), hm, hk]
     cases l2
     ·simp only [cond_false, Sem.run_bind, hl0, Result.andThen_ok, Sem.run_pure]
     ·simp only [cond_true, Sem.run_bind, hl1, Result.andThen_ok, Sem.run_pure]
    ·rw [hc.d0]
     have e : (cA a c (.int ki x0) (.int ki (ki.wrap (x0 + n))) (.tuple #[v0, goInt st]) (goInt st) false false l2 l3).put (some c.d0) (.int ki x0) = cA a c (.int ki x0) (.int ki (ki.wrap (x0 + n))) (.tuple #[v0, goInt st]) (goInt st) true false l2 l3 := by
      unfold cA
      rw [put_putIf (bne f03), put_putIf (bne f02), put_putIf (bne f01)]
      rfl
     rw [e]; exact this
   ·-- add
    have e0 : l0 = true := by
     cases l0 with
     | true => rfl
     | false => exact absurd ((hu k (by omega)).2 (by simp)) (wl k hwt.1 (by omega))
    subst e0
    have hz' : z = left true + left true + left l2 + left l3 := by rw [left_t] at *; rw [left_f] at hz; omega
    have := ih true true l2 l3 (listed.setIfInBounds (k + 1) true) hz' (by simp) hi2 (by simpa using hls) hcl2 (mkU (k + 1) _ _ _ _ his fun j => by clear hu hcl2 hz' hz hi2; cases l2 <;> cases l3 <;> simp <;> omega)
    rw [hc.h1] at i2; cases i2
    obtain ⟨t1, z1, p1⟩ := hc.p1
    have ev : (cA a c (.int ki x0) (.int ki (ki.wrap (x0 + n))) (.tuple #[v0, goInt st]) (goInt st) true false l2 l3).eval (.tmp c.d0) = .int ki x0 := by
     unfold cA
     rw [putIf_eval (tne f03), putIf_eval (tne f02), putIf_eval (tne f01)]
     exact put_eval (by rw [hsz]; exact f0)
    refine wpOpIn_run hE hc.h1 hc.g1 (fun c' e => by rw [p1] at e; cases e) (v := .int ki (ki.wrap (x0 + n))) (w' := bif l2 then w1 else w) (.inl ?_) ?_
    ·simp only [execOp, p1, ev, cA_eval (yne _) (yne _) (yne _) (yne _), hy]
     simp [eqGuard, binOp, Op.intArith]
    ·rw [hc.d1]
     have e : (cA a c (.int ki x0) (.int ki (ki.wrap (x0 + n))) (.tuple #[v0, goInt st]) (goInt st) true false l2 l3).put (some c.d1) (.int ki (ki.wrap (x0 + n))) = cA a c (.int ki x0) (.int ki (ki.wrap (x0 + n))) (.tuple #[v0, goInt st]) (goInt st) true true l2 l3 := by
      unfold cA
      rw [put_putIf (bne f13), put_putIf (bne f12)]
      rfl
     rw [e]; exact this
   ·-- the entry
    have e3 : l3 = false := by
     cases l3 with
     | false => rfl
     | true => exact absurd (hi2 rfl) (by simp)
    subst e3
    have hz' : z = left l0 + left l1 + left true + left false := by rw [left_t]; rw [left_f] at *; omega
    have := ih l0 l1 true false (listed.setIfInBounds (k + 2) true) hz' hi1 (by simp) (by simpa using hls) hcl2 (mkU (k + 2) _ _ _ _ his fun j => by clear hu hcl2 hz' hz hi1; cases l0 <;> cases l1 <;> simp <;> omega)
    rw [hc.h2] at i2; cases i2
    refine wpOpIn_run hE hc.h2 hc.g2 (fun c' e => by rw [hc.p2] at e; cases e) (v := .tuple #[v0, goInt st]) (w' := w1) (.inl ?_) ?_
    ·simp only [execOp, hc.p2, cA_eval (tne m0) (tne m1) (tne m2) (tne m3), cA_eval (tne x0') (tne x1') (tne x2') (tne x3'), hm, hk, cond_false, Sem.run_bind, hen, Result.andThen_ok, Sem.run_pure]
    ·rw [hc.d2]
     have e : (cA a c (.int ki x0) (.int ki (ki.wrap (x0 + n))) (.tuple #[v0, goInt st]) (goInt st) l0 l1 false false).put (some c.d2) (.tuple #[v0, goInt st]) = cA a c (.int ki x0) (.int ki (ki.wrap (x0 + n))) (.tuple #[v0, goInt st]) (goInt st) l0 l1 true false := by
      unfold cA
      rw [put_putIf (bne f23)]
      rfl
     rw [e]; exact this
   ·-- its stamp
    have e2 : l2 = true := by
     cases l2 with
     | true => rfl
     | false => exact absurd ((hu (k + 2) (by omega)).2 (by simp)) (wl (k + 2) hwt.2.1 (by omega))
    subst e2
    have hz' : z = left l0 + left l1 + left true + left true := by rw [left_t] at *; rw [left_f] at hz; omega
    have := ih l0 l1 true true (listed.setIfInBounds (k + 3) true) hz' hi1 (by simp) (by simpa using hls) hcl2 (mkU (k + 3) _ _ _ _ his fun j => by clear hu hcl2 hz' hz hi1; cases l0 <;> cases l1 <;> simp <;> omega)
    rw [hc.h3] at i2; cases i2
    have ev : (cA a c (.int ki x0) (.int ki (ki.wrap (x0 + n))) (.tuple #[v0, goInt st]) (goInt st) l0 l1 true false).eval (.tmp c.d2) = .tuple #[v0, goInt st] := by
     unfold cA
     rw [putIf_eval (tne f23)]
     exact put_eval (by rw [putIf_size, putIf_size, hsz]; exact f2)
    refine wpOpIn_run hE hc.h3 hc.g3 (fun c' e => by rw [hc.p3] at e; cases e) (v := goInt st) (w' := w1) (.inl ?_) ?_
    ·simp only [execOp, hc.p3, ev, cond_true]
     simp [Instr.extract]
    ·rw [hc.d3]
     exact this
   ·-- the store waits for all
    exfalso
    have a1 := wl (k + 1) hwt.2.2.1 (by omega)
    have a2 := wl (k + 3) hwt.2.2.2 (by omega)
    rw [hu _ (by omega)] at a1 a2
    have e1 : l1 = true := by cases l1 <;> simp at a1 ⊢
    have e3 : l3 = true := by cases l3 <;> simp at a2 ⊢
    have e0 := hi1 e1
    have e2 := hi2 e3
    subst e0 e1 e2 e3
    simp only [left_t] at hz; omega
theorem SR.setTop (h : SR P N G s a w ρ S F) {d : Nat} (hd : d < N) (v : Value) : SR P N G { s with env := setEnv s.env d .top } (a.put (some d) v) w ρ S F :=
 h.put (dst := some d) (by simpa [Nat.blt_eq] using hd) (sl := .top) trivial
theorem cnt_sound (hE : Env P E Γ G Fw) {k : Nat} {c : Cnt} (hp : cntPat ops k = some c) (hed : edgesOk ops = true) (hw : cntWaits ops k = true) (hd : cntD P E Γ N c s = some s2) {Q : Exit → Act → World → Prop}
  (hQ : ∀ a' w', SX P N G s2 a' w' → Q .normal a' w') {listed : Array Bool} (hu : ∀ i, i < ops.size → (listed.getD i true = false ↔ k ≤ i)) (hls : listed.size = ops.size) (hcl : Closed ops listed) (h : SX P N G s a w) :
  wpAnyIn Fw r P .any ops Q 5 listed a w := by
 obtain ⟨o0, o1, o2, o3, o4, hc⟩ := cntPat_some hp
 obtain ⟨ρ, S, F, h⟩ := h
 unfold cntD at hd
 split at hd
 case h_2 => cases hd
 rename_i kt vt hut
 split at hd
 case h_2 => cases hd
 rename_i kk ki z id kj n hK hk hv hz hem hey hfine
 split at hd
 case h_2 => cases hd
 rename_i k' v' m' key zd ho hkey hzd hkij
 split at hd
 case h_2 => cases hd
 rename_i m hcast
 cases hd
 obtain rfl := of_decide_eq_true hkij
 obtain ⟨e1, hm'⟩ := castTy_some hcast
 obtain ⟨rfl, rfl⟩ : k' = kk ∧ v' = .int ki := by injection e1 with a b; exact ⟨a, b⟩
 obtain rfl : m = m' := hm'
 have hsize : ops.size = k + 5 := by
  unfold cntWaits at hw
  simp only [Bool.and_eq_true] at hw
  exact Nat.eq_of_beq_eq_true hw.1.1.1.1.1
 have hobj := h.obj id
 rw [ho] at hobj
 obtain ⟨b, es, cc, q1, q2, q3, ⟨p1, p2, p3, p4⟩, q5, q6⟩ := hobj
 have hx := h.env c.m
 rw [hem] at hx
 obtain ⟨_, _, hx3⟩ := hx
 obtain ⟨b', hb', hxv⟩ := hx3 _ _ _ ho
 rw [q1] at hb'; cases hb'
 have hKA := hE.key kt k' hK hk
 have hvone : (Ty.int ki).one = true := rfl
 obtain ⟨ti, zv, hti, htz, hzv⟩ := zero_plain p2 (single_of_one hvone) hz hzd
 have hkv := ofSlot_plain p1 p3 (h.env c.x) hkey
 have hyv : a.eval c.y = .int ki n := by
  have := val_RS hE.fns h c.y
  rw [hey] at this
  exact RC_int this
 have hlt := (Array.getElem?_eq_some_iff.1 q3).1
 obtain ⟨es1, c1, st, v0, m1, r1, r2, r3, r4⟩ := entry_run (P := P) hut hKA q3 q5 key hti htz hzv
 obtain ⟨es', c', r5, r6⟩ := r4 (ki.wrap ((show Int from (m key).getD zd) + (show Int from n)))
 have hl0 := lookup_run (P := P) (w := w) hut hKA (.inr ⟨b, cc, rfl, q3⟩) q5.1 key hti htz hzv false
 have hl1 := lookup_run (P := P) (w := w.putObj b (.map es1 c1)) hut hKA (.inr ⟨b, c1, rfl, World.putObj_heap_same hlt⟩) r2 key hti htz hzv false
 rw [r3] at hl1
 have hf := hfine
 unfold Cnt.fine at hf
 simp only [Bool.and_eq_true, Bool.not_eq_true', Nat.blt_eq] at hf
 obtain ⟨⟨⟨⟨⟨⟨⟨⟨⟨⟨⟨⟨⟨⟨⟨⟨⟨f0, f1⟩, f2⟩, f3⟩, f01⟩, f02⟩, f03⟩, f12⟩, f13⟩, f23⟩, m0⟩, m1'⟩, m2⟩, m3⟩, x0'⟩, x1'⟩, x2'⟩, x3'⟩ := hf
 have hput2 : (w.putObj b (.map es1 c1)).putObj b (.map es' c') = w.putObj b (.map es' c') := by simp [World.putObj]
 have key2 := cnt_any (Fw := Fw) (r := r) (a := a) (w := w) (w1 := w.putObj b (.map es1 c1)) (w2 := w.putObj b (.map es' c')) hE hc hed hw hfine (Q := Q) (b := b) (kv := pack (encs k' key)) (ki := ki) (x0 := (m key).getD zd) (n := n) (v0 := v0) (st := st) h.size hxv hkv hyv hl0 hl1 r1 (fun T => by
   have := r5 (w.putObj b (.map es1 c1)) (World.putObj_heap_same hlt)
   rw [hput2] at this
   exact this) ?_ 4 false false false false listed rfl (by simp) (by simp) hls hcl (fun i hi => by rw [hu i hi]; simp; omega)
 ·exact key2
 ·refine hQ _ _ ?_
  have h2 := (((h.setTop f0 (.int ki ((m key).getD zd))).setTop f1 (.int ki (ki.wrap ((show Int from (m key).getD zd) + (show Int from n))))).setTop f2 (.tuple #[v0, goInt st])).setTop f3 (goInt st)
  obtain ⟨es2, c2, g1, g2⟩ := mapUpdate_run (P := P) (w := w) hut hKA q3 q5 key (v := .int ki) (ki.wrap ((show Int from (m key).getD zd) + (show Int from n)))
  rw [r6] at g1
  injection g1 with _ g1
  have e1 : (w.putObj b (.map es' c')).heap[b]? = some (.map es' c') := World.putObj_heap_same hlt
  rw [g1, World.putObj_heap_same hlt] at e1
  injection e1 with e1
  injection e1 with e1 e2
  subst e1 e2
  have hoth : ∀ j, j ≠ b → (w.putObj b (.map es2 c2)).heap[j]? = w.heap[j]? := fun j hj => World.putObj_heap_other hj
  have hsz : (w.putObj b (.map es2 c2)).heap.size = w.heap.size := by simp [World.putObj]
  have ex : Ext0 S w S (w.putObj b (.map es2 c2)) := ⟨by omega, fun _ _ x => x, fun b' o hS => World.cell?_of_block (a := ⟨b', o, none⟩) (hoth b' (fun e => q6 o (e ▸ hS))), fun b' o es c hS hm => (hoth b' (fun e => q6 o (e ▸ hS))).trans hm, fun b' o hS => by rw [hsz]; exact h.bd b' o hS, .putObj hlt (fun _ _ _ => by simp)⟩
  have q := h2.turn hE.gh (id := id) (o := .mp k' (.int ki) (setMap (eqD k') m key (ki.wrap ((show Int from (m key).getD zd) + (show Int from n))))) (by show live (s.heap id); rw [ho]; trivial) q1 ex ⟨rfl, rfl, rfl, by omega, fun j hj => hoth j hj.2⟩ hsz (fun _ _ q => .inl q) (by show Kept _ _ _ _ _ (s.heap id) _; rw [ho]; exact .inr ⟨⟨_, rfl⟩, rfl⟩)
   ⟨b, es2, c2, q1, q2, World.putObj_heap_same hlt, ⟨p1, p2, p3, p4⟩, g2, q6⟩
  exact ⟨ρ, S, F, q.of_eq rfl rfl rfl rfl⟩
end Go.Dm
namespace Go.Dm
variable {P : Program} {F : Fence} {n : Nat} {fid : FuncId} {Q Q' : Exit → Act → World → Prop} {a : Act} {w : World}
def wpB (fid : FuncId) (F : Fence) (n : Nat) (P : Program) (c : Code) (Q : Exit → Act → World → Prop) (a : Act) (w : World) : Prop :=
 ∀ (b : Frame) (k : List Item) (cs : List Frame), b.fn = fid → b.roundOf = F.round → F.fn b.fn → F.room (cs.length + 1 + n) →
  ∃ e a' w', Q e a' w' ∧ ArrivesIn (Machine.fenced P F) P (lone (b.atR a (.code c :: k)) cs w) b k cs e a' w'
theorem wpB_of {c : Code} (h : c.wpIn F n P Q a w) : wpB fid F n P c Q a w := fun b k cs _ => h b k cs
theorem wpB_mono {c : Code} (h : wpB fid F n P c Q a w) (hq : ∀ e a w, Q e a w → Q' e a w) : wpB fid F n P c Q' a w :=
 fun b k cs hf hro hb hr => let ⟨e, a', w', q, r⟩ := h b k cs hf hro hb hr; ⟨e, a', w', hq _ _ _ q, r⟩
theorem wpB_seq {x y : Code} (h : wpB fid F n P x (Exit.then (wpB fid F n P y Q) Q) a w) : wpB fid F n P (.seq x y) Q a w := by
 intro b k cs hf hro hb hr
 have h0 : (lone (b.atR a (.code (.seq x y) :: k)) cs w).fenced P F := fenced_calm hb hr rfl
 obtain ⟨e, a₁, w₁, hq, harr⟩ := h b (.code y :: k) cs hf hro hb hr
 cases e with
 | normal =>
  obtain ⟨e₂, a₂, w₂, hq₂, harr₂⟩ := hq b k cs hf hro hb hr
  exact ⟨e₂, a₂, w₂, hq₂, .of_steps (.head h0 stepR_seq harr) harr₂⟩
 | exit id => exact ⟨_, a₁, w₁, hq, .of_steps (.one h0 stepR_seq) (.pass (x := .code y) rfl (fun _ _ => .inl (by simp)) harr)⟩
 | goto l => exact ⟨_, a₁, w₁, hq, .of_steps (.one h0 stepR_seq) (.pass (x := .code y) rfl (fun _ _ => .inl (by simp)) harr)⟩
 | ret => exact ⟨_, a₁, w₁, hq, .of_steps (.one h0 stepR_seq) (.pass (x := .code y) rfl (fun _ _ => .inl (by simp)) harr)⟩
 | panic ch => exact ⟨_, a₁, w₁, hq, .of_steps (.one h0 stepR_seq) (.pass (x := .code y) rfl (fun _ _ => .inl (by simp)) harr)⟩
 | outgrown => exact ⟨_, a₁, w₁, hq, .of_steps (.one h0 stepR_seq) (.pass (x := .code y) rfl (fun _ _ => .inl (by simp)) harr)⟩
theorem wpB_cond {c : Operand} {x y : Code} {t : Bool} (hc : a.eval c = .bool t) (h : wpB fid F n P (if t then x else y) Q a w) : wpB fid F n P (.cond c x y) Q a w :=
 fun b k cs hf hro hb hr => let ⟨e, a', w', q, r⟩ := h b k cs hf hro hb hr; ⟨e, a', w', q, .of_steps (.one (fenced_calm hb hr rfl) (stepR_cond hc)) r⟩
theorem wpB_cond_true {c : Operand} {x y : Code} (hc : a.eval c = .bool true) (h : wpB fid F n P x Q a w) : wpB fid F n P (.cond c x y) Q a w := wpB_cond hc h
theorem wpB_cond_false {c : Operand} {x y : Code} (hc : a.eval c = .bool false) (h : wpB fid F n P y Q a w) : wpB fid F n P (.cond c x y) Q a w := wpB_cond hc h
theorem wpB_block {id : Nat} {c : Code} (h : wpB fid F n P c (Exit.inBlock id Q) a w) : wpB fid F n P (.block id c) Q a w := by
 intro b k cs hf hro hb hr
 have h0 : (lone (b.atR a (.code (.block id c) :: k)) cs w).fenced P F := fenced_calm hb hr rfl
 obtain ⟨e, a₁, w₁, hq, harr⟩ := h b (.inBlock id :: k) cs hf hro hb hr
 cases e with
 | normal => exact ⟨.normal, a₁, w₁, hq, .head h0 stepR_block (StepsIn.trans harr (.one (fenced_calm hb hr rfl) stepR_inBlock))⟩
 | exit id' =>
  by_cases hid : id' = id
  ·simp only [Exit.inBlock, hid, if_true] at hq
   exact ⟨.normal, a₁, w₁, hq, .head h0 stepR_block (harr.1 k (by simp [exitTo, hid]))⟩
  ·simp only [Exit.inBlock, hid, if_false] at hq
   have this : (id == id') = false := by simp; exact fun h => hid h.symm
   have hx : exitTo id' (.inBlock id :: k) = exitTo id' k := by simp [exitTo, this]
   exact ⟨.exit id', a₁, w₁, hq, fun k' hk => .head h0 stepR_block (harr.1 k' (by rw [hx]; exact hk)),
    fun hr' hk => let ⟨k₁, h1, h2⟩ := harr.2 hr' (by rw [hx]; exact hk); ⟨k₁, h1, .head h0 stepR_block h2⟩⟩
 | goto l =>
  have hx : gotoIn l (.inBlock id :: k) = gotoIn l k := by simp [gotoIn]
  exact ⟨_, a₁, w₁, hq, fun k' hk => .head h0 stepR_block (harr.1 k' (by rw [hx]; exact hk)),
   fun hr' hk => let ⟨k₁, h1, h2⟩ := harr.2 hr' (by rw [hx]; exact hk); ⟨k₁, h1, .head h0 stepR_block h2⟩⟩
 | ret => exact ⟨_, a₁, w₁, hq, .of_steps (.one h0 stepR_block) harr⟩
 | panic ch => exact ⟨_, a₁, w₁, hq, .of_steps (.one h0 stepR_block) harr⟩
 | outgrown => exact ⟨_, a₁, w₁, hq, .of_steps (.one h0 stepR_block) harr⟩
theorem stepR_scope {b : Frame} {k : List Item} {cs : List Frame} {c : Code} : step P (lone (b.atR a (.code (.scope c) :: k)) cs w) = .next (lone (b.atR a (.code c :: .inScope c :: k)) cs w) :=
 step_lone_go (by simp [stepG, stepG.exec, Frame.atR])
theorem stepR_inScope {b : Frame} {k : List Item} {cs : List Frame} {c : Code} : step P (lone (b.atR a (.inScope c :: k)) cs w) = .next (lone (b.atR a k) cs w) :=
 step_lone_go (by simp [stepG, stepG.exec, Frame.atR])
theorem wpB_scope_straight {c : Code} (h : wpB fid F n P c (Exit.noGoto Q) a w) : wpB fid F n P (.scope c) Q a w := by
 intro b k cs hf hro hb hr
 have h0 : (lone (b.atR a (.code (.scope c) :: k)) cs w).fenced P F := fenced_calm hb hr rfl
 obtain ⟨e, a₁, w₁, hq, harr⟩ := h b (.inScope c :: k) cs hf hro hb hr
 cases e with
 | normal =>
  exact ⟨.normal, a₁, w₁, hq, .head h0 stepR_scope (StepsIn.trans harr (.one (fenced_calm hb hr rfl) stepR_inScope))⟩
 | exit id =>
  have hx : exitTo id (.inScope c :: k) = exitTo id k := by simp [exitTo]
  exact ⟨.exit id, a₁, w₁, hq, fun k' hk => .head h0 stepR_scope (harr.1 k' (by rw [hx]; exact hk)),
   fun hr' hk => let ⟨k₁, h1, h2⟩ := harr.2 hr' (by rw [hx]; exact hk); ⟨k₁, h1, .head h0 stepR_scope h2⟩⟩
 | goto l => exact hq.elim
 | ret => exact ⟨_, a₁, w₁, hq, .of_steps (.one h0 stepR_scope) harr⟩
 | panic ch => exact ⟨_, a₁, w₁, hq, .of_steps (.one h0 stepR_scope) harr⟩
 | outgrown => exact ⟨_, a₁, w₁, hq, .of_steps (.one h0 stepR_scope) harr⟩
def roundsB (fid : FuncId) (F : Fence) (n : Nat) (P : Program) (c : Code) (Q : Exit → Act → World → Prop) : Nat → Act → World → Prop
 | 0, _, _ => False
 | m + 1, a, w => wpB fid F n P c (Exit.then (roundsB fid F n P c Q m) Q) a w
theorem wpB_loop_rounds {c : Code} (m : Nat) (h : roundsB fid F n P c Q m a w) : wpB fid F n P (.loop c) Q a w := by
 intro b k cs hf hro hb hr
 have key : ∀ m a w, roundsB fid F n P c Q m a w →
   ∃ e a' w', Q e a' w' ∧ ArrivesIn (Machine.fenced P F) P (lone (b.atR a (.code c :: .inLoop c :: k)) cs w) b k cs e a' w' := by
  intro m
  induction m with
  | zero => intro a w h; exact h.elim
  | succ m ih =>
   intro a w h
   obtain ⟨e, a₁, w₁, hq, harr⟩ := h b (.inLoop c :: k) cs hf hro hb hr
   cases e with
   | normal =>
    obtain ⟨e₂, a₂, w₂, hq₂, harr₂⟩ := ih a₁ w₁ hq
    exact ⟨e₂, a₂, w₂, hq₂, .of_steps (StepsIn.trans harr (.one (fenced_calm hb hr rfl) stepR_inLoop)) harr₂⟩
   | exit id => exact ⟨_, a₁, w₁, hq, .pass (x := .inLoop c) rfl (fun _ _ => .inl (by simp)) harr⟩
   | goto l => exact ⟨_, a₁, w₁, hq, .pass (x := .inLoop c) rfl (fun _ _ => .inl (by simp)) harr⟩
   | ret => exact ⟨_, a₁, w₁, hq, .pass (x := .inLoop c) rfl (fun _ _ => .inl (by simp)) harr⟩
   | panic ch => exact ⟨_, a₁, w₁, hq, .pass (x := .inLoop c) rfl (fun _ _ => .inl (by simp)) harr⟩
   | outgrown => exact ⟨_, a₁, w₁, hq, .pass (x := .inLoop c) rfl (fun _ _ => .inl (by simp)) harr⟩
 obtain ⟨e, a', w', hq, harr⟩ := key m a w h
 exact ⟨e, a', w', hq, .of_steps (.one (fenced_calm hb hr rfl) stepR_loop) harr⟩
theorem callsIn_of_wpB {fn : Func} {c : Code} {args : Array Value} {w : World} {R : Ending → World → Prop}
  (hf : P.funcs[fid]? = some fn) (hb : fn.body = some c) (hF : F.fn fid)
  (h : wpB fid F n P c (bodyPostM F n P fn R) { tmps := args ++ Array.replicate (fn.ntmps - args.size) undef, defers := [] } w) (hro : F.round = none := by rfl) : CallsIn F n P fid args w R := by
 refine ⟨hF, fun cs hr => ?_⟩
 let b : Frame := { (default : Frame) with fn := fid, kind := .normal, roundOf := none }
 have henter : Frame.enter P fid args .normal =
   b.atR { tmps := args ++ Array.replicate (fn.ntmps - args.size) undef, defers := [] } [.code c] := by
  simp [Frame.enter, Frame.atR, hf, hb, b]
 obtain ⟨e, a', w', hq, harr⟩ := h b [] cs rfl hro.symm hF hr
 rw [← henter] at harr
 cases e with
 | normal =>
  obtain ⟨e', w'', fr', hR, hs, hfn, hl⟩ := leaves_stepsInM a'.defers .returning w' { b.atR a' [] with mode := .returning } cs rfl rfl rfl hf rfl hF hr hq
  exact ⟨e', w'', fr', hR, ComesIn.of_steps (StepsIn.trans harr (.one (fenced_calm (fr := b.atR a' []) hF hr rfl) (stepR_end rfl))) hs, hfn, hl⟩
 | ret =>
  obtain ⟨todo, hs₀⟩ := harr.1 rfl
  obtain ⟨e', w'', fr', hR, hs, hfn, hl⟩ := leaves_stepsInM a'.defers .returning w' { b.atR a' todo with mode := .returning } cs rfl rfl rfl hf rfl hF hr hq
  exact ⟨e', w'', fr', hR, ComesIn.of_steps hs₀ hs, hfn, hl⟩
 | panic chain =>
  obtain ⟨todo, hs₀⟩ := harr
  obtain ⟨e', w'', fr', hR, hs, hfn, hl⟩ := leaves_stepsInM a'.defers (.panicking chain) w' { b.atR a' todo with mode := .panicking chain } cs rfl rfl rfl hf rfl hF hr hq
  exact ⟨e', w'', fr', hR, ComesIn.of_steps hs₀ hs, hfn, hl⟩
 | exit id => exact hq.elim
 | goto l => exact hq.elim
 | outgrown => exact ⟨.outgrown, w', b, hq, harr.resolve_left (by simp [b]), rfl, trivial⟩
end Go.Dm
namespace Go.Dm
open Go.RowKit
variable {P : Program} {N : Nat} {G : Gh} {S S' : CS} {w w' : World} {s : St} {a : Act} {ρ ρ' : Rho} {F F' : Nat → Prop} {heap heap' : Nat → DObj} {Y : Value} {E : TCtx} {Γ : Ctx} {Fw : Fence} {r : Nat} {ops : Array Oper} {lo base : Nat} {dfr : List Dfr}
theorem SR.gone (hG : G.Ok P) (h : SR P N G s a w ρ S F) {id b m : Nat} (hl : live (s.heap id)) (hc : isChain (s.heap id) = false) (hb : ρ id = some b) :
  SR P N G { s with heap := setHeap s.heap id .gone } a w ρ (fun b' o => S b' o ∨ (b' = b ∧ o < m)) F := by
 have hlt := (h.blk_lt hl hb).1
 have ex : Ext0 S w (fun b' o => S b' o ∨ (b' = b ∧ o < m)) w := ⟨Nat.le_refl _, fun _ _ q => .inl q, fun _ _ _ => rfl, fun _ _ _ _ _ q => q, fun b' o q => by
  rcases q with q | q
  ·exact h.bd b' o q
  ·omega, .refl w⟩
 refine h.turn hG hl hb ex (Same.refl _ _) rfl (fun k i q => q.imp (fun x => x) (fun x => x.1)) ?_ trivial
 cases ho : s.heap id with
 | none => rw [ho] at hl; exact hl.elim
 | gone => rw [ho] at hl; exact hl.elim
 | box ds => exact .inl rfl
 | chain _ _ _ _ => rw [ho] at hc; cases hc
 | row cur T e s' => exact .inl rfl
 | mp k v m => exact .inl rfl
 | rows cur T e d => exact .inl rfl
theorem SR.goneN (hG : G.Ok P) (h : SR P N G s a w ρ S F) {id cur : Nat} {T : TypeId} {e : Ty} {x : Sl e.den} (ho : s.heap id = .row cur T e x) (hb : ρ id = none) :
  SR P N G { s with heap := setHeap s.heap id .gone } a w ρ S F := by
 have hk : ∀ j, Kept w w ρ ρ j (s.heap j) (setHeap s.heap id .gone j) := fun j => by
  by_cases hj : j = id
  ·subst hj; simp only [setHeap, Nat.beq_refl, cond_true]; rw [ho]; exact .inl rfl
  ·simp only [setHeap, beq_ne hj, cond_false]
   exact .refl rfl fun b hb hl => rfl
 have hl : ∀ j, live (setHeap s.heap id .gone j) → live (s.heap j) := fun j hj => by
  by_cases hjd : j = id
  ·subst hjd; simp only [setHeap, Nat.beq_refl, cond_true] at hj; exact hj.elim
  ·simpa only [setHeap, beq_ne hjd, cond_false] using hj
 refine ⟨h.size, h.dfr.tr hk (fun D hF hD => ⟨hD, hF⟩), fun t => (h.env t).tr (.refl h.bd) hk, fun j => ?_, h.injStep (fun _ _ => rfl) (fun _ _ _ _ _ => rfl) (fun _ q => q.elim), h.ext, h.new, h.same, h.tr, h.fb, h.f0, h.sub, h.fs, fun j b hj => ⟨(h.pins j b hj).1, ?_⟩⟩
 ·by_cases hj : j = id
  ·subst hj; simp only [setHeap, Nat.beq_refl, cond_true]; trivial
  ·simp only [setHeap, beq_ne hj, cond_false]
   exact (h.obj j).tr (.refl h.bd) hk rfl fun b hb => ⟨rfl, fun i q => q, fun x => x⟩
 ·by_cases hjd : j = id
  ·subst hjd; simp only [setHeap, Nat.beq_refl, cond_true]; rfl
  ·simp only [setHeap, beq_ne hjd, cond_false]; exact (h.pins j b hj).2
theorem SR.freeze (hG : G.Ok P) (h : SR P N G s a w ρ S F) {id cur : Nat} {T : TypeId} {e : Ty} {x : Sl e.den} (ho : s.heap id = .row cur T e x) :
  ∃ S', SR P N G { s with heap := setHeap s.heap id .gone } a w ρ S' F ∧ Ext0 S w S' w ∧ (∀ id', Kept w w ρ ρ id' (s.heap id') (setHeap s.heap id .gone id')) ∧
   ∀ v, RC P G.Y S w s.heap ρ (.row id cur) v → RC P G.Y S' w (setHeap s.heap id .gone) ρ (.pc (.sl e) x) v := by
 have hkp : ∀ id', Kept w w ρ ρ id' (s.heap id') (setHeap s.heap id .gone id') := fun j => by
  by_cases hj : j = id
  ·subst hj; simp only [setHeap, Nat.beq_refl, cond_true]; rw [ho]; exact .inl rfl
  ·simp only [setHeap, beq_ne hj, cond_false]; exact .refl rfl fun b hb hl => rfl
 have hobj := h.obj id
 rw [ho] at hobj
 obtain ⟨⟨hfl, hpos⟩, ⟨hb, hn⟩ | ⟨b, arr, hb, halw, hh, hsz, hcells, hS⟩⟩ := hobj
 ·refine ⟨S, h.goneN hG ho hb, .refl h.bd, hkp, fun v hv => ⟨rfl, ?_⟩⟩
  obtain ⟨_, _, hv⟩ := hv
  rcases (hv _ _ _ _ ho).2 rfl with ⟨_, a0, q⟩ | ⟨b, cap, q, _⟩
  ·exact .inl ⟨hn, a0, 0, by rw [q]⟩
  ·rw [hb] at q; cases q
 ·have q := h.gone hG (m := arr.size) (by rw [ho]; trivial) (by rw [ho]; rfl) hb
  have ex : Ext0 S w (fun b' o => S b' o ∨ (b' = b ∧ o < arr.size)) w := ⟨Nat.le_refl _, fun _ _ q => .inl q, fun _ _ _ => rfl, fun _ _ _ _ _ q => q, q.bd, .refl w⟩
  refine ⟨_, q, ex, hkp, fun v hv => ⟨rfl, ?_⟩⟩
  obtain ⟨_, _, hv⟩ := hv
  rcases (hv _ _ _ _ ho).2 rfl with ⟨hn, a0, q⟩ | ⟨b', cap, q1, q2, q3, q4, _, _⟩
  ·exact .inl ⟨hn, a0, 0, by rw [q]⟩
  rw [hb] at q1; cases q1
  refine .inr ⟨b, 0, cap, by rw [q2], q3, q4, fun i hi => ?_⟩
  obtain ⟨us, u1, u2, u3⟩ := hcells i hi
  refine ⟨us, u1.mono ex, u2, fun j v hj => ?_⟩
  have hjl : j < e.cells := by
   have := (List.getElem?_eq_some_iff.1 hj).1
   omega
  have hile : i * e.cells + e.cells ≤ x.n * e.cells := by rw [← Nat.succ_mul]; exact Nat.mul_le_mul_right _ hi
  refine ⟨.inr ⟨rfl, by omega⟩, ?_⟩
  rw [cell_of_row w b _ arr T _ hh, Nat.zero_add]
  exact u3 j v hj
theorem SR.setEnv (h : SR P N G s a w ρ S F) {t : Nat} {sl : Slot} (hr : RS P G.Y S w s.heap ρ sl (a.tmps.getD t undef)) : SR P N G { s with env := setEnv s.env t sl } a w ρ S F := by
 refine ⟨h.size, h.dfr, fun u => ?_, h.obj, h.inj, h.ext, h.new, h.same, h.tr, h.fb, h.f0, h.sub, h.fs, h.pins⟩
 by_cases hu : u = t
 ·subst hu; simpa only [Go.Dm.setEnv, Nat.beq_refl, cond_true] using hr
 ·simpa only [Go.Dm.setEnv, beq_ne hu, cond_false] using h.env u
theorem SX.frz1 (hG : G.Ok P) (h : SX P N G s a w) (t : Nat) : SX P N G (frz1 s t) a w := by
 unfold Go.Dm.frz1
 split
 ·rename_i id ht
  split
  ·rename_i ds ho
   split
   ·rename_i τ hc
    split
    ·rename_i x hx
     obtain ⟨ρ, S, F, h⟩ := h
     have hp := h.env t
     rw [ht] at hp
     obtain ⟨b, arr, T, hb, hv, hh, hr⟩ := box_obj h ho hp
     have q := h.gone hG (m := arr.size) (by rw [ho]; trivial) (by rw [ho]; rfl) hb
     refine ⟨ρ, _, F, (q.setEnv (t := t) (sl := .v (.pc (.ptr τ) x)) ⟨rfl, b, 0, arr.toList, by rw [hv], ?_, ?_, fun j v hj => ?_⟩).of_eq rfl rfl rfl rfl⟩
     ·exact (ofCells_R hr hx).mono ⟨Nat.le_refl _, fun _ _ q => .inl q, fun _ _ _ => rfl, fun _ _ _ _ _ q => q, q.bd, .refl w⟩
     ·exact R.len (ofCells_R hr hx)
     ·have hj' : j < arr.size := by have := (List.getElem?_eq_some_iff.1 hj).1; simpa using this
      refine ⟨.inr ⟨rfl, by omega⟩, ?_⟩
      rw [cell_of_row w b (0 + j) arr T _ hh, Nat.zero_add, ← Array.getElem?_toList]
      exact hj
    ·exact h
   ·exact h
  ·exact h
 ·exact h
theorem SX.frzRow (hG : G.Ok P) (h : SX P N G s a w) (t : Nat) : SX P N G (frzRow s t) a w := by
 unfold Go.Dm.frzRow
 split
 ·rename_i id ver ht
  split
  ·rename_i cur T e x ho
   split
   ·rename_i hve
    cases Nat.eq_of_beq_eq_true hve
    obtain ⟨ρ, S, F, h⟩ := h
    have hp := h.env t
    rw [ht] at hp
    obtain ⟨S', q, _, _, hq⟩ := h.freeze hG ho
    exact ⟨ρ, S', F, (q.setEnv (t := t) (sl := .v (.pc (.sl e) x)) (hq _ hp)).of_eq rfl rfl rfl rfl⟩
   ·exact h
  ·exact h
 ·rename_i id ht
  split
  ·rename_i k v m ho
   obtain ⟨ρ, S, F, h⟩ := h
   have hp := h.env t
   rw [ht] at hp
   obtain ⟨_, _, hp⟩ := hp
   obtain ⟨b, hb, hv⟩ := hp _ _ _ ho
   have hobj := h.obj id
   rw [ho] at hobj
   obtain ⟨b', es, c, hb', halw, hh, ⟨p1, p2, p3, p4⟩, hm, hS⟩ := hobj
   rw [hb] at hb'; cases hb'
   have q := h.gone hG (m := 1) (by rw [ho]; trivial) (by rw [ho]; rfl) hb
   exact ⟨ρ, _, F, (q.setEnv (t := t) (sl := .v (.pc (.map k v) m)) ⟨rfl, p1, p2, p3, p4, .inr ⟨b, es, c, by rw [hv], .inr ⟨rfl, by omega⟩, hh, hm.1⟩⟩).of_eq rfl rfl rfl rfl⟩
  ·exact h
 ·exact h
theorem Kept.trans {w1 w2 w3 : World} {ρ1 ρ2 ρ3 : Rho} {id : Nat} {o1 o2 o3 : DObj} (h : Kept w1 w2 ρ1 ρ2 id o1 o2) (h' : Kept w2 w3 ρ2 ρ3 id o2 o3) : Kept w1 w3 ρ1 ρ3 id o1 o3 := by
 cases o1 with
 | none => trivial
 | gone => rw [show o2 = _ from h] at h'; exact h'
 | box ds =>
  rcases h with rfl | ⟨⟨ds', rfl⟩, e⟩
  ·exact .inl h'
  ·rcases h' with rfl | ⟨⟨ds', rfl⟩, e'⟩
   ·exact .inl rfl
   ·exact .inr ⟨⟨_, rfl⟩, e'.trans e⟩
 | chain cur T k n =>
  obtain ⟨c2, n2, rfl, l2, q2⟩ := h
  obtain ⟨c3, n3, rfl, l3, q3⟩ := h'
  refine ⟨c3, n3, rfl, by omega, fun e => ?_⟩
  obtain ⟨a1, a2, a3⟩ := q2 (by omega)
  obtain ⟨b1, b2, b3⟩ := q3 (by omega)
  refine ⟨by omega, b2.trans a2, fun b hb arr T hh => ?_⟩
  have h2 := a3 b hb arr T hh
  exact (b3 b (a2.trans hb) arr T (h2.trans hh)).trans h2
 | row cur T e s =>
  rcases h with rfl | ⟨c2, s2, rfl, l2, q2⟩
  ·exact .inl h'
  rcases h' with rfl | ⟨c3, s3, rfl, l3, q3⟩
  ·exact .inl rfl
  refine .inr ⟨c3, s3, rfl, by omega, fun e => ?_⟩
  obtain ⟨a1, a2⟩ := q2 (by omega)
  obtain ⟨b1, b2⟩ := q3 (by omega)
  refine ⟨by omega, ?_⟩
  rcases a2 with a2 | ⟨a2, a3⟩
  ·rcases b2 with b2 | ⟨b2, b3⟩
   ·exact .inl (b2.trans a2)
   ·exact .inr ⟨by omega, a2.symm.trans b3⟩
  ·exact .inr ⟨a2, a3⟩
 | mp k v m =>
  rcases h with rfl | ⟨⟨m', rfl⟩, e⟩
  ·exact .inl h'
  ·rcases h' with rfl | ⟨⟨m', rfl⟩, e'⟩
   ·exact .inl rfl
   ·exact .inr ⟨⟨_, rfl⟩, e'.trans e⟩
 | rows cur T e d =>
  rcases h with rfl | ⟨c2, d2, rfl, l2, n2, r2, q2⟩
  ·exact .inl h'
  rcases h' with rfl | ⟨c3, d3, rfl, l3, n3, r3, q3⟩
  ·exact .inl rfl
  refine .inr ⟨c3, d3, rfl, by omega, n3.trans n2, r3.trans r2, fun e => ?_⟩
  obtain ⟨a1, a2⟩ := q2 (by omega)
  obtain ⟨b1, b2⟩ := q3 (by omega)
  exact ⟨fun i hi => (b1 i (by omega)).trans (a1 i hi), fun b hb => (b2 b (r2.trans hb)).trans (a2 b hb)⟩
theorem frzCells_box : ∀ {ds : List DC} {h : Nat → DObj} {id : Nat} {ds0 : List DC}, h id = .box ds0 → (frzCells ds h).2 id = .box ds0
 | [], _, _, _, hb => hb
 | d :: ds, h, id, ds0, hb => by
  cases d with
  | row i ver =>
   cases ho : h i with
   | row cur T e x =>
    cases hve : Nat.beq ver cur with
    | true =>
     simp only [frzCells, ho, hve]
     refine frzCells_box (ds := ds) ?_
     have : id ≠ i := fun e => by subst e; rw [hb] at ho; cases ho
     simp only [setHeap, beq_ne this, cond_false]; exact hb
    | false => simp only [frzCells, ho, hve]; exact frzCells_box hb
   | _ => simp only [frzCells, ho]; exact frzCells_box hb
  | _ => simp only [frzCells]; exact frzCells_box hb
theorem frzCells_SR (hG : G.Ok P) : ∀ {ds : List DC} {s : St} {S : CS} {us : List Value}, SR P N G s a w ρ S F → RL (RC P G.Y S w s.heap ρ) ds us →
  ∃ S', SR P N G { s with heap := (frzCells ds s.heap).2 } a w ρ S' F ∧ Ext0 S w S' w ∧ (∀ id, Kept w w ρ ρ id (s.heap id) ((frzCells ds s.heap).2 id)) ∧ RL (RC P G.Y S' w (frzCells ds s.heap).2 ρ) (frzCells ds s.heap).1 us
 | [], s, S, us, h, hr => ⟨S, h.of_eq rfl rfl rfl rfl, .refl h.bd, fun id => .refl rfl fun _ _ _ => rfl, hr⟩
 | d :: ds, s, S, us, h, hr => by
  cases us with
  | nil => have := hr.1; cases this
  | cons u us =>
  obtain ⟨r1, r2⟩ := hr.of_cons
  have keep : ∃ S', SR P N G { s with heap := (frzCells ds s.heap).2 } a w ρ S' F ∧ Ext0 S w S' w ∧ (∀ id, Kept w w ρ ρ id (s.heap id) ((frzCells ds s.heap).2 id)) ∧ RL (RC P G.Y S' w (frzCells ds s.heap).2 ρ) (d :: (frzCells ds s.heap).1) (u :: us) := by
   obtain ⟨S', q1, q2, q3, q4⟩ := frzCells_SR hG h r2
   exact ⟨S', q1, q2, q3, .cons (r1.tr q2 q3) q4⟩
  cases d with
  | row id ver =>
   cases ho : s.heap id with
   | row cur T e x =>
    cases hve : Nat.beq ver cur with
    | true =>
     simp only [frzCells, ho, hve]
     cases Nat.eq_of_beq_eq_true hve
     obtain ⟨S1, q1, q2, q3, q4⟩ := h.freeze hG ho
     obtain ⟨S', p1, p2, p3, p4⟩ := frzCells_SR (s := { s with heap := setHeap s.heap id .gone }) hG q1 (r2.imp fun d u hd => hd.tr q2 q3)
     refine ⟨S', p1, q2.trans p2, fun i => ?_, .cons ((q4 _ r1).tr p2 p3) p4⟩
     exact Kept.trans (q3 i) (p3 i)
    | false => simp only [frzCells, ho, hve]; exact keep
   | _ => simp only [frzCells, ho]; exact keep
  | _ => simp only [frzCells]; exact keep
theorem SX.frzBox (hG : G.Ok P) (h : SX P N G s a w) (t : Nat) : SX P N G (frzBox s t) a w := by
  unfold Go.Dm.frzBox
  split
  · rename_i id ht
    split
    · rename_i ds ho
      split
      · obtain ⟨ρ, S, F, h⟩ := h
        have hobj := h.obj id
        rw [ho] at hobj
        obtain ⟨b, arr, T, hb, halw, hh, hr, hS⟩ := hobj
        obtain ⟨S', q1, q2, q3, q4⟩ := frzCells_SR hG h hr
        have hk := q3 id
        rw [ho] at hk
        rcases hk with hk | ⟨⟨ds', hk⟩, _⟩
        · -- the box itself is no row
          exfalso
          have := frzCells_box (ds := ds) (h := s.heap) (id := id) (ds0 := ds) ho
          rw [this] at hk; cases hk
        · have hb' := frzCells_box (ds := ds) (h := s.heap) (id := id) (ds0 := ds) ho
          have hS' : ∀ o, ¬ S' b o := by
            have := q1.obj id
            have h3 : ({ s with heap := (frzCells ds s.heap).2 } : St).heap id = .box ds := hb'
            rw [h3] at this
            obtain ⟨b2, _, _, e1, _, _, _, e2⟩ := this
            rw [hb] at e1; cases e1; exact e2
          have q := q1.turn hG (id := id) (b := b) (o := .box (frzCells ds s.heap).1) (by show live ((frzCells ds s.heap).2 id); rw [hb']; trivial) hb (.refl q1.bd) (Same.refl _ _) rfl (fun _ _ q => .inl q)
            (by show Kept w w ρ ρ id ((frzCells ds s.heap).2 id) _; rw [hb']; exact .inr ⟨⟨_, rfl⟩, rfl⟩)
            (by
              refine ⟨b, arr, T, hb, halw, hh, q4.imp fun d u hd => hd.tr (.refl q1.bd) fun j => ?_, hS'⟩
              show Kept w w ρ ρ j ((frzCells ds s.heap).2 j) (setHeap (frzCells ds s.heap).2 id (.box (frzCells ds s.heap).1) j)
              by_cases hj : j = id
              · subst hj; simp only [setHeap, Nat.beq_refl, cond_true]; rw [hb']; exact .inr ⟨⟨_, rfl⟩, rfl⟩
              · simp only [setHeap, beq_ne hj, cond_false]; exact .refl rfl fun _ _ _ => rfl)
          exact ⟨ρ, S', F, q.of_eq rfl rfl rfl rfl⟩
      · exact h
    · exact h
  · exact h
theorem SX.frzBoxes (hG : G.Ok P) : ∀ (ts : List Nat) {s : St}, SX P N G s a w → SX P N G (frzBoxes s ts) a w
 | [], _, h => h
 | t :: ts, _, h => SX.frzBoxes hG ts (h.frzBox hG t)
theorem SX.frzTmps (hG : G.Ok P) : ∀ (ts : List Nat) {s : St}, SX P N G s a w → SX P N G (frzTmps s ts) a w
 | [], _, h => h
 | t :: ts, _, h => SX.frzTmps hG ts (h.frz1 hG t)
theorem SX.frzRows (hG : G.Ok P) : ∀ (ts : List Nat) {s : St}, SX P N G s a w → SX P N G (frzRows s ts) a w
 | [], _, h => h
 | t :: ts, _, h => SX.frzRows hG ts (h.frzRow hG t)
theorem SX.prep (hG : G.Ok P) (h : SX P N G s a w) : SX P N G (prep P E Γ s ops) a w := SX.frzTmps hG _ (SX.frzBoxes hG _ (SX.frzBoxes hG _ (SX.frzRows hG _ h)))
def OutOk (P : Program) (N : Nat) (G : Gh) : Out → Exit → Act → World → Prop
 | .norm s, .normal, a, w => SX P N G s a w
 | .exit id s, .exit id', a, w => id = id' ∧ SX P N G s a w
 | .ret s, .ret, a, w => SX P N G s a w
 | .pan d s, .panic ch, a, w => PanP P N G s a w d ch
 | _, _, _, _ => False
def Out.fine (G : Gh) : Out → Prop
 | .bad => False
 | .pan .yld s => YG G s
 | _ => True
def LoopOK (P : Program) (N : Nat) (G : Gh) (fid : FuncId) (Fw : Fence) (r : Nat) (c : Code) (f : St → Tree Out) : Prop :=
 ∀ (s : St) (a : Act) (w : World), SX P N G s a w → (∀ o, (f s).Has o → o.fine G) → wpB fid Fw r P c (fun e a' w' => ∃ o, (f s).Has o ∧ OutOk P N G o e a' w') a w
def LsOK (P : Program) (N : Nat) (G : Gh) (fid : FuncId) (Fw : Fence) (r : Nat) : Code → List Loop → Prop
 | .seq a b, ls => LsOK P N G fid Fw r a (ls.take (Code.loops a)) ∧ LsOK P N G fid Fw r b (ls.drop (Code.loops a))
 | .cond _ a b, ls => LsOK P N G fid Fw r a (ls.take (Code.loops a)) ∧ LsOK P N G fid Fw r b (ls.drop (Code.loops a))
 | .block _ b, ls => LsOK P N G fid Fw r b ls
 | .scope b, ls => LsOK P N G fid Fw r b ls
 | .loop b, ls => match ls with
  | .unroll _ inner :: _ => LsOK P N G fid Fw r b inner
  | .known f :: _ => LoopOK P N G fid Fw r (.loop b) f
  | [] => True
 | .rangeFunc g ps as b, ls => match ls with
  | .known f :: _ => LoopOK P N G fid Fw r (.rangeFunc g ps as b) f
  | _ => True
 | _, _ => True
theorem region_sound (hE : Env P E Γ G Fw) {β : Type} {T : β → Prop} {ch : β → β → β} (hch : ∀ a b, T (ch a b) → T a ∧ T b) {K : Out → β} (hbad : ¬ T (K .bad) ∧ ∀ s', T (K (.pan .yld s')) → YG G s') {id : Nat} {draw : Bool} {ls : List Loop}
  (hT : T (execK P E Γ G.lo N ch (.region id ops draw) ls s K)) (h : SX P N G s a w) :
  (Code.region id ops draw).wpIn Fw r P (fun e a' w' => ∃ o, OutOk P N G o e a' w' ∧ T (K o)) a w := by
 have h := h.prep (E := E) (Γ := Γ) (ops := ops) hE.gh
 cases draw with
 | false =>
  have hT : T (opsS P E Γ G.lo N ch ops ops.toList (prep P E Γ s ops) K) := hT
  refine wpIn_region ?_
  have := opsS_sound (Fw := Fw) (r := r) (ops := ops) hE hch hbad (Q := fun e a' w' => ∃ o, OutOk P N G o e a' w' ∧ T (K o)) (fun s' a' w' q1 q2 => ⟨.norm s', q2, q1⟩) (fun d s' c a' w' q1 q2 => ⟨.pan d s', q2, q1⟩) (l := ops.toList) (i := 0) (by simp) h hT
  rw [List.range_eq_range']
  simpa using this
 | true =>
  have hT : T (match cntOf E ops with
   | some k => opsK P E Γ G.lo N ops (ops.toList.take k) 0 [] (prep P E Γ s ops) (cntK P E Γ N ops k K)
   | none => match barr E ops with
    | none => opsK P E Γ G.lo N ops ops.toList 0 [] (prep P E Γ s ops) (regK N ops K)
    | some k => opsK P E Γ G.lo N ops (ops.toList.take k) 0 [] (prep P E Γ s ops) (barK P E Γ G.lo N ch ops k K)) := hT
  generalize prep P E Γ s ops = s at hT h
  have noDef : noSel ops = true → ∀ (i : Nat) (o : Oper), ops[i]? = some o → ∀ c, o.op ≠ .defer c := fun c3 i o ho c e => by
   unfold noSel at c3
   rw [List.all_eq_true] at c3
   have := c3 o (Array.mem_toList_iff.2 (Array.mem_of_getElem? ho))
   rw [e] at this; cases this
  have hdr : SX P N G (s.x.st s.base s.dfr) a { w with drawn := w.drawn + 1 } := by obtain ⟨ρ, S, F, q⟩ := h; exact ⟨ρ, S, F, (q.drew hE.gh.c).of_eq rfl rfl rfl rfl⟩
  cases hcn : cntOf E ops with
  | some k =>
   rw [hcn] at hT
   simp only at hT
   have hbk : isCnt ops k = true := by
    unfold cntOf at hcn
    split at hcn
    ·exact List.find?_some hcn
    ·cases hcn
   unfold isCnt at hbk
   split at hbk
   case h_2 => cases hbk
   rename_i c hpat
   have hsize : ops.size = k + 5 := by
    unfold cntWaits at hbk
    simp only [Bool.and_eq_true] at hbk
    exact Nat.eq_of_beq_eq_true hbk.1.1.1.1.1
   have hwait : ∀ j, k ≤ j → j < ops.size → (∀ i, i < k → waitsT ops ops.size j i = true) ∨ ∃ i, k ≤ i ∧ i < ops.size ∧ waitsT ops ops.size j i = true := fun j hj hjs => by
    have hb := hbk
    unfold cntWaits at hb
    simp only [Bool.and_eq_true, List.all_eq_true, List.mem_range] at hb
    obtain ⟨⟨⟨⟨⟨_, w0⟩, w1⟩, w3⟩, w4⟩, _⟩ := hb
    have : j = k ∨ j = k + 1 ∨ j = k + 2 ∨ j = k + 3 ∨ j = k + 4 := by omega
    rcases this with rfl | rfl | rfl | rfl | rfl
    ·exact .inl fun i hi => (w0 i hi).1
    ·exact .inr ⟨k, Nat.le_refl _, by omega, w1⟩
    ·exact .inl fun i hi => (w0 i hi).2
    ·exact .inr ⟨k + 2, by omega, by omega, w3⟩
    ·exact .inr ⟨k + 1, by omega, by omega, w4⟩
   rcases opsK_spec (P := P) (E := E) (Γ := Γ) (N := N) (ops := ops) (lo := G.lo) (K := cntK P E Γ N ops k K) (l := ops.toList.take k) (i := 0) (log := []) (s := s) (fun j o h => by
     rw [List.getElem?_take] at h
     split at h
     ·simpa using h
     ·cases h) with ⟨s', fps, h1, hb, hd, h2, h3⟩ | h3
   ·rw [h3] at hT
    rw [List.append_nil] at hT
    have h2 : fps.map (·.i) = List.range' 0 k := by rw [h2, List.length_take, Array.length_toList, Nat.min_eq_left (by omega)]
    have hlen : fps.length = k := by have := congrArg List.length h2; simpa using this
    have hT : T (match edgesOk ops && logOk ops fps.reverse && noSel ops, cntPat ops k with
     | true, some c => match cntD P E Γ N c s' with
      | some s2 => K (.norm (nextRegion N s2))
      | none => K .bad
     | _, _ => K .bad) := hT
    rw [hpat] at hT
    cases hc : (edgesOk ops && logOk ops fps.reverse && noSel ops) with
    | false => rw [hc] at hT; exact absurd hT hbad.1
    | true =>
     rw [hc] at hT
     simp only [Bool.and_eq_true] at hc hT
     obtain ⟨⟨c1, c2⟩, c3⟩ := hc
     cases hcd : cntD P E Γ N c s' with
     | none => rw [hcd] at hT; exact absurd hT hbad.1
     | some s2 =>
      rw [hcd] at hT
      have hT : T (K (.norm (nextRegion N s2))) := hT
      refine wpIn_region_any hE.mixed ?_
      have hsz : ops.size = 5 + k := by omega
      rw [hsz]
      refine wpAnyIn_pre hE (noDef c3) c1 (y := s'.x) (base := s.base) (dfr := s.dfr) (by omega) hwait ?_ k hlen ?_ ?_ ?_ (by simp; omega) ?_ ?_ h1 hdr
      ·intro listed a' w' hu hls hcl hx
       have hx : SX P N G s' a' w' := hx.of_eq rfl rfl rfl hd
       exact cnt_sound hE hpat c1 hbk hcd (fun a2 w2 q => ⟨.norm (nextRegion N s2), q.of_eq rfl rfl rfl rfl, hT⟩) hu hls hcl hx
      ·rw [h2]; exact List.pairwise_lt_range' ..
      ·intro f hf
       have : f.i ∈ List.range' 0 k := by rw [← h2]; exact List.mem_map.2 ⟨f, hf, rfl⟩
       rw [List.mem_range'_1] at this
       omega
      ·intro i hi
       rw [h2]
       have : i < 5 + k := by omega
       simp [Array.getD_eq_getD_getElem?, this, List.mem_range'_1]
       omega
      ·intro i o ho hli
       have : i < ops.size := (Array.getElem?_eq_some_iff.1 ho).1
       have : i < 5 + k := by omega
       simp [Array.getD_eq_getD_getElem?, this] at hli
      ·have := logOk_pairwise c2
       rwa [List.pairwise_reverse] at this
   ·rw [h3] at hT
    exact absurd hT hbad.1
  | none =>
  rw [hcn] at hT
  simp only at hT
  cases hbar : barr E ops with
  | none =>
   rw [hbar] at hT
   simp only at hT
   rcases opsK_spec (P := P) (E := E) (Γ := Γ) (N := N) (ops := ops) (lo := G.lo) (K := regK N ops K) (l := ops.toList) (i := 0) (log := []) (s := s) (fun j o h => by simpa using h) with ⟨s', fps, h1, hb, hd, h2, h3⟩ | h3
   ·rw [h3] at hT
    rw [List.append_nil] at hT
    have hlen : fps.length = ops.size := by have := congrArg List.length h2; simpa using this
    have hT : T (match edgesOk ops && logOk ops fps.reverse && noSel ops with
     | true => K (.norm (nextRegion N s'))
     | false => K .bad) := hT
    cases hc : (edgesOk ops && logOk ops fps.reverse && noSel ops) with
    | false => rw [hc] at hT; exact absurd hT hbad.1
    | true =>
     rw [hc] at hT
     simp only [Bool.and_eq_true] at hc
     obtain ⟨⟨c1, c2⟩, c3⟩ := hc
     refine wpIn_region_any hE.mixed ?_
     refine wpAnyIn_of_XRun hE (noDef c3) c1 (y := s'.x) (base := s.base) (dfr := s.dfr) (fun a' w' q => ⟨.norm (nextRegion N s'), q.of_eq rfl rfl rfl hd, hT⟩) ops.size hlen ?_ ?_ ?_ (by simp) ?_ ?_ h1 hdr
     ·rw [h2]; exact List.pairwise_lt_range' ..
     ·intro f hf
      have : f.i ∈ List.range' 0 ops.toList.length := by rw [← h2]; exact List.mem_map.2 ⟨f, hf, rfl⟩
      rw [List.mem_range'_1] at this
      simpa using this.2
     ·intro i hi
      rw [h2]
      simp [Array.getD_eq_getD_getElem?, hi, List.mem_range'_1]
     ·intro i o ho hli
      have : i < ops.size := (Array.getElem?_eq_some_iff.1 ho).1
      simp [Array.getD_eq_getD_getElem?, this] at hli
     ·have := logOk_pairwise c2
      rwa [List.pairwise_reverse] at this
   ·rw [h3] at hT
    exact absurd hT hbad.1
  | some k =>
   rw [hbar] at hT
   simp only at hT
   have hbk : isBar E ops k = true := by
    unfold barr at hbar
    split at hbar
    ·exact List.find?_some hbar
    ·cases hbar
   unfold isBar at hbk
   simp only [Bool.and_eq_true, List.all_eq_true, List.mem_range, Bool.or_eq_true] at hbk
   obtain ⟨⟨b1, b2⟩, b3⟩ := hbk
   have hks : k < ops.size := by
    cases ho : ops[k]? with
    | none => rw [ho] at b1; cases b1
    | some o => exact (Array.getElem?_eq_some_iff.1 ho).1
   have b3 : ∀ j, k < j → j < ops.size → waitsT ops ops.size j k = true := fun j hj hs => by
    rcases b3 j hs with q | q
    ·have := Nat.le_of_ble_eq_true q; omega
    ·exact q
   rcases opsK_spec (P := P) (E := E) (Γ := Γ) (N := N) (ops := ops) (lo := G.lo) (K := barK P E Γ G.lo N ch ops k K) (l := ops.toList.take k) (i := 0) (log := []) (s := s) (fun j o h => by
     rw [List.getElem?_take] at h
     split at h
     ·simpa using h
     ·cases h) with ⟨s', fps, h1, hb, hd, h2, h3⟩ | h3
   ·rw [h3] at hT
    rw [List.append_nil] at hT
    have h2 : fps.map (·.i) = List.range' 0 k := by rw [h2, List.length_take, Array.length_toList, Nat.min_eq_left (Nat.le_of_lt hks)]
    have hlen : fps.length = k := by have := congrArg List.length h2; simpa using this
    have hT : T (match edgesOk ops && logOk ops fps.reverse && noSel ops, ops[k]? with
     | true, some o => stepS P E Γ G.lo N ch ops o s' fun
      | .ok s2 => opsK P E Γ G.lo N ops (ops.toList.drop (k + 1)) (k + 1) [] s2 (regK N ops K)
      | .pan d s2 => K (.pan d s2)
      | .bad => K .bad
     | _, _ => K .bad) := hT
    have hok : ops[k]? = some ops[k] := Array.getElem?_eq_getElem hks
    generalize ops[k] = o at hok
    rw [hok] at hT
    cases hc : (edgesOk ops && logOk ops fps.reverse && noSel ops) with
    | false => rw [hc] at hT; exact absurd hT hbad.1
    | true =>
     rw [hc] at hT
     simp only [Bool.and_eq_true] at hc hT
     obtain ⟨⟨c1, c2⟩, c3⟩ := hc
     refine wpIn_region_any hE.mixed ?_
     have hsz : ops.size = (ops.size - k) + k := by omega
     rw [hsz]
     refine wpAnyIn_pre hE (noDef c3) c1 (y := s'.x) (base := s.base) (dfr := s.dfr) (Nat.le_of_lt hks) (fun j hj hjs => by
      rcases Nat.lt_or_eq_of_le hj with q | q
      ·exact .inr ⟨k, Nat.le_refl _, hks, b3 j q hjs⟩
      ·subst q; exact .inl b2) ?_ k hlen ?_ ?_ ?_ (by simp; omega) ?_ ?_ h1 hdr
     ·intro listed a' w' hu hls hcl hx
      have hx : SX P N G s' a' w' := hx.of_eq rfl rfl rfl hd
      have hm : ops.size - k = (ops.size - (k + 1)) + 1 := by omega
      rw [hm]
      have hrd : k ∈ Region.ready .any ops listed := mem_ready.2 ⟨(hu k hks).2 (Nat.le_refl _), o, hok, fun e he hbd => by
       have hlt := edgesOk_spec c1 hok e he hbd
       have h1 : ¬ listed.getD e.on true = false := fun q => by have := (hu e.on (by omega)).1 q; omega
       have hl : e.on < listed.size := by omega
       simp [Array.getD_eq_getD_getElem?, hl] at h1 ⊢
       exact h1⟩
      refine ⟨fun h0 => (by rw [h0] at hrd; cases hrd), fun i hi => ?_⟩
      obtain ⟨i1, oi, i2, i3⟩ := mem_ready.1 hi
      have his : i < ops.size := (Array.getElem?_eq_some_iff.1 i2).1
      have hik : i = k := by
       rcases Nat.lt_or_eq_of_le ((hu i his).1 i1) with q | q
       ·exfalso
        have := waitsT_listed hcl _ _ _ (b3 i q his) (fun o' ho' e he hbd => by rw [i2] at ho'; cases ho'; exact i3 e he hbd)
        have h4 := (hu k hks).2 (Nat.le_refl _)
        have hl : k < listed.size := by omega
        simp [Array.getD_eq_getD_getElem?, hl] at this h4
        rw [this] at h4; cases h4
       ·exact q.symm
      subst hik
      refine wpOpIn_mono ?_ (stepS_sound (K := fun
       | .ok s2 => opsK P E Γ G.lo N ops (ops.toList.drop (i + 1)) (i + 1) [] s2 (regK N ops K)
       | .pan d s2 => K (.pan d s2)
       | .bad => K .bad) hE hch hbad hok hx hT (fun d s2 c w2 q1 q2 => ⟨.pan d s2, q2, q1⟩))
      rintro a2 w2 ⟨s2, q1, q2⟩
      have q2 : T (opsK P E Γ G.lo N ops (ops.toList.drop (i + 1)) (i + 1) [] s2 (regK N ops K)) := q2
      rcases opsK_spec (P := P) (E := E) (Γ := Γ) (N := N) (ops := ops) (lo := G.lo) (K := regK N ops K) (l := ops.toList.drop (i + 1)) (i := i + 1) (log := []) (s := s2) (fun j o h => by
        rw [List.getElem?_drop] at h
        simpa using h) with ⟨s3, fps2, g1, gb, gd, g2, g3⟩ | g3
      ·rw [g3] at q2
       rw [List.append_nil] at q2
       have g2 : fps2.map (·.i) = List.range' (i + 1) (ops.size - (i + 1)) := by rw [g2, List.length_drop, Array.length_toList]
       have glen : fps2.length = ops.size - (i + 1) := by have := congrArg List.length g2; simpa using this
       have q2 : T (match edgesOk ops && logOk ops fps2.reverse && noSel ops with
        | true => K (.norm (nextRegion N s3))
        | false => K .bad) := q2
       cases hc : (edgesOk ops && logOk ops fps2.reverse && noSel ops) with
       | false => rw [hc] at q2; exact absurd q2 hbad.1
       | true =>
        rw [hc] at q2
        simp only [Bool.and_eq_true] at hc
        refine wpAnyIn_of_XRun hE (noDef c3) c1 (y := s3.x) (base := s2.base) (dfr := s2.dfr) (fun a' w' q => ⟨.norm (nextRegion N s3), q.of_eq rfl rfl rfl gd, q2⟩) _ glen ?_ ?_ ?_ (by simpa using hls) ?_ ?_ g1 (q1.of_eq rfl rfl rfl rfl)
        ·rw [g2]; exact List.pairwise_lt_range' ..
        ·intro f hf
         have : f.i ∈ List.range' (i + 1) (ops.size - (i + 1)) := by rw [← g2]; exact List.mem_map.2 ⟨f, hf, rfl⟩
         rw [List.mem_range'_1] at this
         omega
        ·intro j hj
         rw [g2, List.mem_range'_1]
         by_cases hji : i = j
         ·subst hji
          have hl : i < listed.size := by omega
          simp [Array.getD_eq_getD_getElem?, hl]
          try omega
         ·rw [getD_set_ne true hji, hu j hj]
          omega
        ·intro i' o' ho' hli e he hbd
         have keep : ∀ k, listed.getD k false = true → (listed.setIfInBounds i true).getD k false = true := fun k hk => by
          by_cases hgk : i = k
          ·subst hgk
           have hl : i < listed.size := by omega
           simp [Array.getD_eq_getD_getElem?, hl]
          ·rw [getD_set_ne false hgk]; exact hk
         by_cases hgi : i = i'
         ·subst hgi
          rw [i2] at ho'; cases ho'
          exact keep _ (i3 e he hbd)
         ·rw [getD_set_ne false hgi] at hli
          exact keep _ (hcl i' o' ho' hli e he hbd)
        ·have := logOk_pairwise hc.1.2
         rwa [List.pairwise_reverse] at this
      ·rw [g3] at q2
       exact absurd q2 hbad.1
     ·rw [h2]; exact List.pairwise_lt_range' ..
     ·intro f hf
      have : f.i ∈ List.range' 0 k := by rw [← h2]; exact List.mem_map.2 ⟨f, hf, rfl⟩
      rw [List.mem_range'_1] at this
      omega
     ·intro i hi
      rw [h2]
      have : i < ops.size - k + k := by omega
      simp [Array.getD_eq_getD_getElem?, this, List.mem_range'_1]
      omega
     ·intro i o ho hli
      have : i < ops.size := (Array.getElem?_eq_some_iff.1 ho).1
      have : i < ops.size - k + k := by omega
      simp [Array.getD_eq_getD_getElem?, this] at hli
     ·have := logOk_pairwise c2
      rwa [List.pairwise_reverse] at this
   ·rw [h3] at hT
    exact absurd hT hbad.1
end Go.Dm
namespace Go.Dm
open Go.RowKit
variable {P : Program} {N : Nat} {G : Gh} {S S' : CS} {w w' : World} {s : St} {a : Act} {ρ ρ' : Rho} {F F' : Nat → Prop} {heap heap' : Nat → DObj} {Y : Value} {E : TCtx} {Γ : Ctx} {Fw : Fence} {r : Nat} {ops : Array Oper} {lo base : Nat} {dfr : List Dfr} {fid : FuncId}
theorem exec_sound (hE : Env P E Γ G Fw) : ∀ {c : Code} {ls : List Loop} {β : Type} {T : β → Prop} {ch : β → β → β} {K : Out → β} {s : St} {a : Act} {w : World}, (∀ a b, T (ch a b) → T a ∧ T b) → (¬ T (K .bad) ∧ ∀ s', T (K (.pan .yld s')) → YG G s') →
  T (execK P E Γ G.lo N ch c ls s K) → LsOK P N G fid Fw r c ls → SX P N G s a w → wpB fid Fw r P c (fun e a' w' => ∃ o, OutOk P N G o e a' w' ∧ T (K o)) a w
 | .skip, ls, β, T, ch, K, s, a, w, hch, hbad, hT, _, h => wpB_of <| wpIn_skip ⟨.norm s, h, hT⟩
 | .region id ops draw, ls, β, T, ch, K, s, a, w, hch, hbad, hT, _, h => wpB_of <| region_sound hE hch hbad hT h
 | .seq x y, ls, β, T, ch, K, s, a, w, hch, hbad, hT, hl, h => by
  refine wpB_seq (wpB_mono (exec_sound hE (K := seqK (fun s' => execK P E Γ G.lo N ch y (ls.drop (Code.loops x)) s' K) K) hch hbad hT hl.1 h) ?_)
  rintro e a' w' ⟨o, ho, hTo⟩
  cases o with
  | norm s' =>
   cases e <;> first | exact (ho.elim) | skip
   exact exec_sound hE hch hbad hTo hl.2 ho
  | exit id s' => cases e <;> first | exact ho.elim | exact ⟨_, ho, hTo⟩
  | ret s' => cases e <;> first | exact ho.elim | exact ⟨_, ho, hTo⟩
  | pan d s' => cases e <;> first | exact ho.elim | exact ⟨_, ho, hTo⟩
  | bad => cases e <;> exact ho.elim
 | .cond c x y, ls, β, T, ch, K, s, a, w, hch, hbad, hT, hl, h => by
  simp only [execK] at hT
  split at hT
  ·rename_i t hc
   have h0 := h
   obtain ⟨ρ, S, F, hs⟩ := h
   have hcv := val_RS hE.fns hs c
   rw [hc] at hcv
   have hcb := RC_bool hcv
   have henv : ∀ u, c = .tmp u → ∀ b : Bool, t = b → setEnv s.env u (.v (.pc .bool b)) = s.env := fun u hu b hb => by
    subst hu hb; exact setEnv_self _ _ _ hc
   obtain hb | hb : t = true ∨ t = false := by
    have : (show Bool from t) = true ∨ (show Bool from t) = false := by cases (show Bool from t) <;> simp
    exact this
   ·subst hb
    simp only [cond_true] at hT
    refine wpB_cond_true hcb (exec_sound hE hch hbad hT hl.1 ?_)
    cases c with
    | tmp u => exact h0.of_eq (henv u rfl true rfl) rfl rfl rfl
    | _ => exact h0
   ·subst hb
    simp only [cond_false] at hT
    refine wpB_cond_false hcb (exec_sound hE hch hbad hT hl.2 ?_)
    cases c with
    | tmp u => exact h0.of_eq (henv u rfl false rfl) rfl rfl rfl
    | _ => exact h0
  ·exact absurd hT hbad.1
 | .block id x, ls, β, T, ch, K, s, a, w, hch, hbad, hT, hl, h => by
  refine wpB_block (wpB_mono (exec_sound hE (K := blockK id K) hch hbad hT hl h) ?_)
  rintro e a' w' ⟨o, ho, hTo⟩
  cases o with
  | norm s' => cases e <;> first | exact ho.elim | exact ⟨_, ho, hTo⟩
  | exit id' s' =>
   cases e <;> first | exact ho.elim | skip
   rename_i id2
   obtain ⟨rfl, ho⟩ := ho
   simp only [Exit.inBlock]
   by_cases hid : id' = id
   ·rw [if_pos hid]
    subst hid
    simp only [blockK, Nat.beq_refl] at hTo
    exact ⟨.norm s', ho, hTo⟩
   ·rw [if_neg hid]
    simp only [blockK, beq_ne hid] at hTo
    exact ⟨.exit id' s', ⟨rfl, ho⟩, hTo⟩
  | ret s' => cases e <;> first | exact ho.elim | exact ⟨_, ho, hTo⟩
  | pan d s' => cases e <;> first | exact ho.elim | exact ⟨_, ho, hTo⟩
  | bad => cases e <;> exact ho.elim
 | .exit id, ls, β, T, ch, K, s, a, w, hch, hbad, hT, _, h => wpB_of <| wpIn_exit ⟨.exit id s, ⟨rfl, h⟩, hT⟩
 | .ret, ls, β, T, ch, K, s, a, w, hch, hbad, hT, _, h => wpB_of <| wpIn_ret ⟨.ret s, h, hT⟩
 | .label l, ls, β, T, ch, K, s, a, w, hch, hbad, hT, _, h => wpB_of <| wpIn_label ⟨.norm s, h, hT⟩
 | .scope x, ls, β, T, ch, K, s, a, w, hch, hbad, hT, hl, h => by
  refine wpB_scope_straight (wpB_mono (exec_sound hE hch hbad hT hl h) ?_)
  rintro e a' w' ⟨o, ho, hTo⟩
  cases e <;> first | exact ⟨o, ho, hTo⟩ | (cases o <;> exact ho.elim)
 | .rangeFunc g ps as b, ls, β, T, ch, K, s, a, w, hch, hbad, hT, hl, h => by
  cases ls with
  | nil => exact absurd hT hbad.1
  | cons l ls =>
   cases l with
   | known f =>
    have hT : T ((f s).run ch K) := hT
    have hall := Tree.run_has hch hT
    exact wpB_mono (hl s a w h (fun o ho => by
     cases o with
     | bad => exact absurd (hall _ ho) hbad.1
     | pan d s' => cases d <;> first | exact hbad.2 _ (hall _ ho) | trivial
     | _ => trivial)) (fun e a' w' ⟨o, q1, q2⟩ => ⟨o, q2, hall o q1⟩)
   | unroll n inner => exact absurd hT hbad.1
 | .loop b, ls, β, T, ch, K, s, a, w, hch, hbad, hT, hl, h => by
  cases ls with
  | nil => exact absurd hT hbad.1
  | cons l ls =>
   cases l with
   | known f =>
    have hT : T ((f s).run ch K) := hT
    have hall := Tree.run_has hch hT
    exact wpB_mono (hl s a w h (fun o ho => by
     cases o with
     | bad => exact absurd (hall _ ho) hbad.1
     | pan d s' => cases d <;> first | exact hbad.2 _ (hall _ ho) | trivial
     | _ => trivial)) (fun e a' w' ⟨o, q1, q2⟩ => ⟨o, q2, hall o q1⟩)
   | unroll n inner =>
    refine wpB_loop_rounds n ?_
    have key : ∀ (n : Nat) (s : St) (a : Act) (w : World), T (iterK (fun s' K' => execK P E Γ G.lo N ch b inner s' K') n s K) → SX P N G s a w →
      roundsB fid Fw r P b (fun e a' w' => ∃ o, OutOk P N G o e a' w' ∧ T (K o)) n a w := by
     intro n
     induction n with
     | zero => intro s a w hT _; exact absurd hT hbad.1
     | succ n ih =>
      intro s a w hT h
      unfold roundsB
      refine wpB_mono (exec_sound hE (K := seqK (fun s' => iterK (fun s' K' => execK P E Γ G.lo N ch b inner s' K') n s' K) K) hch hbad hT hl h) ?_
      rintro e a' w' ⟨o, ho, hTo⟩
      cases o with
      | norm s' =>
       cases e <;> first | exact ho.elim | skip
       exact ih s' a' w' hTo ho
      | exit id s' => cases e <;> first | exact ho.elim | exact ⟨_, ho, hTo⟩
      | ret s' => cases e <;> first | exact ho.elim | exact ⟨_, ho, hTo⟩
      | pan d s' => cases e <;> first | exact ho.elim | exact ⟨_, ho, hTo⟩
      | bad => cases e <;> exact ho.elim
    exact key n s a w hT h
 | .goto _, ls, β, T, ch, K, s, a, w, hch, hbad, hT, _, h => absurd hT hbad.1
 | .refuse _, ls, β, T, ch, K, s, a, w, hch, hbad, hT, _, h => absurd hT hbad.1
end Go.Dm
namespace Go.Dm
open Go.RowKit
variable {P : Program} {N : Nat} {G : Gh} {S S' : CS} {w w' : World} {s : St} {a : Act} {ρ ρ' : Rho} {F F' : Nat → Prop} {heap heap' : Nat → DObj} {Y : Value} {E : TCtx} {Γ : Ctx} {Fw : Fence} {r : Nat} {ops : Array Oper} {lo base : Nat} {dfr : List Dfr}
inductive CPat where
 | pc (τ : Ty)
 | own (id : Nat) (T : TypeId) (e : Ty)
 | rw (id : Nat) (T : TypeId) (e : Ty)
 | ptr (id : Nat)
 | row (id : Nat)
 | mp (id : Nat)
 | rows (id : Nat)
 | clo (f : FuncId) (ids : List Nat)
 | clod (f : FuncId) (τ : Ty) (ids : List Nat)
 | yld
 | top
 | k (n : Int)
inductive Pat where
 | slot (t : Nat) (c : CPat)
 | agg (t : Nat) (τ : Ty)
 | box (id : Nat) (cs : List CPat)
 | row (id : Nat) (T : TypeId) (e : Ty)
 | mp (id : Nat) (k v : Ty)
 | rows (id : Nat) (T : TypeId) (e : Ty)
 | tr (e : Ty)
@[reducible] def CPat.ty : CPat → Ty
 | .pc τ => τ
 | .own _ _ e => .sl e
 | .rw _ _ e => .sl e
 | .clod _ τ _ => τ
 | _ => .nil
@[reducible] def cellsTy : List CPat → Ty
 | [] => .nil
 | c :: cs => .cons c.ty (cellsTy cs)
@[reducible] def Pat.ty : Pat → Ty
 | .slot _ c => c.ty
 | .agg _ τ => .agg τ
 | .box _ cs => cellsTy cs
 | .row _ _ e => .sl e
 | .mp _ k v => .map k v
 | .rows _ _ e => .sl (.sl e)
 | .tr e => .sl e
@[reducible] def patsTy : List Pat → Ty
 | [] => .nil
 | p :: ps => .cons p.ty (patsTy ps)
def isBox : DObj → Bool
 | .box _ => true
 | _ => false
def isRow (ver : Nat) : DObj → Bool
 | .row cur _ _ _ => Nat.beq ver cur
 | _ => false
def isMp : DObj → Bool
 | .mp _ _ _ => true
 | _ => false
def natsEq : List Nat → List Nat → Bool
 | [], [] => true
 | a :: as, b :: bs => Nat.beq a b && natsEq as bs
 | _, _ => false
def rdC (lo : Nat) (heap : Nat → DObj) : (c : CPat) → DC → Option c.ty.den
 | .pc τ, d => match τ.one with
  | true => ofDC τ d
  | false => none
 | .own id T e, .own id' v e' s => match heap id' with
  | .chain v' T' k _ => match Nat.beq id id' && Nat.beq v v' && Nat.beq T T' && Nat.beq k e.cells with
   | true => castTy (σ := .sl e') (.sl e) s
   | false => none
  | _ => none
 | .own id _ e, .nils => match heap id, e.flat && Nat.ble lo id with
  | .none, true => some ⟨0, fun _ => e.dflt⟩
  | _, _ => none
 | .rw id T e, .row id' ver => match heap id' with
  | .row cur T' e' s => match Nat.beq id id' && Nat.beq ver cur && Nat.beq T T' with
   | true => castTy (σ := .sl e') (.sl e) s
   | false => none
  | _ => none
 | .rw id _ e, .nils => match heap id, e.flat && Nat.blt 0 e.cells && Nat.ble lo id with
  | .none, true => some ⟨0, fun _ => e.dflt⟩
  | _, _ => none
 | .ptr id, .ptr id' off => match Nat.beq id id' && Nat.beq off 0 && isBox (heap id') with
  | true => some ()
  | false => none
 | .row id, .row id' ver => match Nat.beq id id' && isRow ver (heap id') with
  | true => some ()
  | false => none
 | .mp id, .mp id' => match Nat.beq id id' && isMp (heap id') with
  | true => some ()
  | false => none
 | .rows id, .rows id' => match Nat.beq id id' && isRows (heap id') with
  | true => some ()
  | false => none
 | .clo f ids, .clo f' ids' => match Nat.beq f f' && natsEq ids ids' && ids'.all fun i => isBox (heap i) with
  | true => some ()
  | false => none
 | .clod f τ ids, .clod f' τ' x ids' => match Nat.beq f f' && natsEq ids ids' && ids'.all fun i => isBox (heap i) with
  | true => castTy (σ := τ') τ x
  | false => none
 | .yld, .yld => some ()
 | .top, .top => some ()
 | .k n, .pc (.int .i64) m => match decide ((show Int from m) = n) with
  | true => some ()
  | false => none
 | _, _ => none
def rdCs (lo : Nat) (heap : Nat → DObj) : (cs : List CPat) → List DC → Option (cellsTy cs).den
 | [], [] => some ()
 | c :: cs, d :: ds => match rdC lo heap c d, rdCs lo heap cs ds with
  | some x, some y => some (x, y)
  | _, _ => none
 | _, _ => none
def rdP (lo : Nat) (s : St) : (p : Pat) → Option p.ty.den
 | .slot t c => match s.env t with
  | .v d => rdC lo s.heap c d
  | _ => none
 | .agg t τ => match s.env t, τ.flat with
  | .agg ds, true => ofCells τ ds
  | _, _ => none
 | .box id cs => match s.heap id with
  | .box ds => rdCs lo s.heap cs ds
  | _ => none
 | .row id T e => match s.heap id with
  | .row _ T' e' x => match Nat.beq T T' with
   | true => castTy (σ := .sl e') (.sl e) x
   | false => none
  | _ => none
 | .mp id k v => match s.heap id with
  | .mp k' v' m => castTy (σ := .map k' v') (.map k v) m
  | _ => none
 | .rows id T e => match s.heap id with
  | .rows _ T' e' x => match Nat.beq T T' with
   | true => castTy (σ := .sl (.sl e')) (.sl (.sl e)) x
   | false => none
  | _ => none
 | .tr e => match s.tr with
  | ⟨e', true, x⟩ => castTy (σ := .sl e') (.sl e) x
  | _ => none
def rd (lo : Nat) (s : St) : (ps : List Pat) → Option (patsTy ps).den
 | [] => some ()
 | p :: ps => match rdP lo s p, rd lo s ps with
  | some x, some y => some (x, y)
  | _, _ => none
def wrC (ver : Nat → Nat) : (c : CPat) → c.ty.den → DC
 | .pc τ, x => .pc τ x
 | .own id _ e, x => .own id (ver id) e x
 | .rw id _ _, _ => .row id (ver id)
 | .ptr id, _ => .ptr id 0
 | .row id, _ => .row id (ver id)
 | .mp id, _ => .mp id
 | .rows id, _ => .rows id
 | .clo f ids, _ => .clo f ids
 | .clod f τ ids, x => .clod f τ x ids
 | .yld, _ => .yld
 | .top, _ => .top
 | .k n, _ => .pc (.int .i64) n
def wrCs (ver : Nat → Nat) : (cs : List CPat) → (cellsTy cs).den → List DC
 | [], _ => []
 | c :: cs, x => wrC ver c (show c.ty.den × (cellsTy cs).den from x).1 :: wrCs ver cs (show c.ty.den × (cellsTy cs).den from x).2
def wrEnv (ver : Nat → Nat) : (ps : List Pat) → (patsTy ps).den → Nat → Slot
 | [], _ => fun _ => .top
 | .slot t c :: ps, x => setEnv (wrEnv ver ps (show c.ty.den × (patsTy ps).den from x).2) t (.v (wrC ver c (show c.ty.den × (patsTy ps).den from x).1))
 | .agg t τ :: ps, x => setEnv (wrEnv ver ps (show τ.den × (patsTy ps).den from x).2) t (.agg (toCells τ (show τ.den × (patsTy ps).den from x).1))
 | .box _ cs :: ps, x => wrEnv ver ps (show (cellsTy cs).den × (patsTy ps).den from x).2
 | .row _ _ e :: ps, x => wrEnv ver ps (show Sl e.den × (patsTy ps).den from x).2
 | .mp _ k v :: ps, x => wrEnv ver ps (show (k.den → Option v.den) × (patsTy ps).den from x).2
 | .rows _ _ e :: ps, x => wrEnv ver ps (show Sl (Sl e.den) × (patsTy ps).den from x).2
 | .tr e :: ps, x => wrEnv ver ps (show Sl e.den × (patsTy ps).den from x).2
def objC (ver : Nat → Nat) : (c : CPat) → c.ty.den → List (Nat × DObj)
 | .own id T e, x => [(id, .chain (ver id) T e.cells (show Sl e.den from x).n)]
 | .rw id T e, x => [(id, .row (ver id) T e (show Sl e.den from x))]
 | _, _ => []
def objCs (ver : Nat → Nat) : (cs : List CPat) → (cellsTy cs).den → List (Nat × DObj)
 | [], _ => []
 | c :: cs, x => objC ver c (show c.ty.den × (cellsTy cs).den from x).1 ++ objCs ver cs (show c.ty.den × (cellsTy cs).den from x).2
def objs (ver : Nat → Nat) : (ps : List Pat) → (patsTy ps).den → List (Nat × DObj)
 | [], _ => []
 | .slot _ c :: ps, x => objC ver c (show c.ty.den × (patsTy ps).den from x).1 ++ objs ver ps (show c.ty.den × (patsTy ps).den from x).2
 | .agg _ τ :: ps, x => objs ver ps (show τ.den × (patsTy ps).den from x).2
 | .box id cs :: ps, x => (id, .box (wrCs ver cs (show (cellsTy cs).den × (patsTy ps).den from x).1)) :: objCs ver cs (show (cellsTy cs).den × (patsTy ps).den from x).1 ++ objs ver ps (show (cellsTy cs).den × (patsTy ps).den from x).2
 | .row id T e :: ps, x => (id, .row (ver id) T e (show Sl e.den × (patsTy ps).den from x).1) :: objs ver ps (show Sl e.den × (patsTy ps).den from x).2
 | .mp id k v :: ps, x => (id, .mp k v (show (k.den → Option v.den) × (patsTy ps).den from x).1) :: objs ver ps (show (k.den → Option v.den) × (patsTy ps).den from x).2
 | .rows id T e :: ps, x => (id, .rows (ver id + 1) T e (show Sl (Sl e.den) × (patsTy ps).den from x).1) :: objs ver ps (show Sl (Sl e.den) × (patsTy ps).den from x).2
 | .tr e :: ps, x => objs ver ps (show Sl e.den × (patsTy ps).den from x).2
def findO : List (Nat × DObj) → Nat → DObj
 | [], _ => .none
 | p :: l, i => bif Nat.beq i p.1 then p.2 else findO l i
def wrTr (t : Tr) : (ps : List Pat) → (patsTy ps).den → Tr
 | [], _ => t
 | .tr e :: _, x => ⟨e, true, (show Sl e.den × _ from x).1⟩
 | .slot _ c :: ps, x => wrTr t ps (show c.ty.den × (patsTy ps).den from x).2
 | .agg _ τ :: ps, x => wrTr t ps (show τ.den × (patsTy ps).den from x).2
 | .box _ cs :: ps, x => wrTr t ps (show (cellsTy cs).den × (patsTy ps).den from x).2
 | .row _ _ e :: ps, x => wrTr t ps (show Sl e.den × (patsTy ps).den from x).2
 | .mp _ k v :: ps, x => wrTr t ps (show (k.den → Option v.den) × (patsTy ps).den from x).2
 | .rows _ _ e :: ps, x => wrTr t ps (show Sl (Sl e.den) × (patsTy ps).den from x).2
def idsC : List CPat → List Nat
 | [] => []
 | .own id _ _ :: cs => id :: idsC cs
 | .rw id _ _ :: cs => id :: idsC cs
 | _ :: cs => idsC cs
def objIds : List Pat → List Nat
 | [] => []
 | .slot _ c :: ps => idsC [c] ++ objIds ps
 | .box id cs :: ps => id :: idsC cs ++ objIds ps
 | .row id _ _ :: ps => id :: objIds ps
 | .mp id _ _ :: ps => id :: objIds ps
 | .rows id _ _ :: ps => id :: objIds ps
 | _ :: ps => objIds ps
def maxL : List Nat → Nat
 | [] => 0
 | i :: l => bif Nat.blt i (maxL l) then maxL l else i
def psBase (lo : Nat) (ps : List Pat) : Nat := maxL [lo, maxL (objIds ps) + 1]
def wrV (ver : Nat → Nat) (lo : Nat) (t : Tr) (dfr : List Dfr) (ps : List Pat) (x : (patsTy ps).den) : St := ⟨wrEnv ver ps x, findO (objs ver ps x), wrTr t ps x, psBase lo ps, dfr⟩
def wr (lo : Nat) (t : Tr) (dfr : List Dfr) (ps : List Pat) (x : (patsTy ps).den) : St := wrV (fun _ => 0) lo t dfr ps x
def boxIds : List Pat → List Nat
 | [] => []
 | .box id _ :: ps => id :: boxIds ps
 | _ :: ps => boxIds ps
def rwIds : List CPat → List Nat
 | [] => []
 | .rw id _ _ :: cs => id :: rwIds cs
 | _ :: cs => rwIds cs
def rowIds : List Pat → List Nat
 | [] => []
 | .slot _ c :: ps => rwIds [c] ++ rowIds ps
 | .box _ cs :: ps => rwIds cs ++ rowIds ps
 | .row id _ _ :: ps => id :: rowIds ps
 | _ :: ps => rowIds ps
def mpIds : List Pat → List Nat
 | [] => []
 | .mp id _ _ :: ps => id :: mpIds ps
 | .rows id _ _ :: ps => id :: mpIds ps
 | _ :: ps => mpIds ps
def nodupB : List Nat → Bool
 | [] => true
 | i :: l => !(l.any (Nat.beq i)) && nodupB l
def wfC (bs rs ms : List Nat) : CPat → Bool
 | .ptr id => bs.any (Nat.beq id)
 | .row id => rs.any (Nat.beq id)
 | .mp id => ms.any (Nat.beq id)
 | .rows id => ms.any (Nat.beq id)
 | .clo _ ids => ids.all fun id => bs.any (Nat.beq id)
 | .clod _ _ ids => ids.all fun id => bs.any (Nat.beq id)
 | _ => true
def wfPats (ps : List Pat) : Bool := nodupB (objIds ps) && ps.all fun
 | .slot _ c => wfC (boxIds ps) (rowIds ps) (mpIds ps) c
 | .box _ cs => cs.all (wfC (boxIds ps) (rowIds ps) (mpIds ps))
 | _ => true
def rho' (pin : Nat → Option Nat) (heap : Nat → DObj) (ρ : Rho) : Rho := fun id => match pin id with
 | some b => some b
 | none => bif isNone (heap id) then none else ρ id
theorem any_beq {i : Nat} {l : List Nat} : l.any (Nat.beq i) = true ↔ i ∈ l := by
 rw [List.any_eq_true]
 constructor
 ·rintro ⟨j, hj, hb⟩; exact Nat.eq_of_beq_eq_true hb ▸ hj
 ·intro h; exact ⟨i, h, Nat.beq_refl i⟩
theorem nodupB_spec : ∀ {l : List Nat}, nodupB l = true → l.Nodup
 | [], _ => .nil
 | i :: l, h => by
  simp only [nodupB, Bool.and_eq_true, Bool.not_eq_true'] at h
  refine .cons (fun j hj e => ?_) (nodupB_spec h.2)
  have : l.any (Nat.beq i) = true := any_beq.2 (e ▸ hj)
  rw [h.1] at this; cases this
theorem objCs_ids {ver : Nat → Nat} : ∀ {cs : List CPat} {x : (cellsTy cs).den}, (objCs ver cs x).map (·.1) = idsC cs
 | [], _ => rfl
 | c :: cs, x => by
  have ih := objCs_ids (ver := ver) (cs := cs) (x := x.2)
  simp only [objCs, List.map_append, ih]
  cases c <;> rfl
theorem objs_ids {ver : Nat → Nat} : ∀ {ps : List Pat} {x : (patsTy ps).den}, (objs ver ps x).map (·.1) = objIds ps
 | [], _ => rfl
 | p :: ps, x => by
  have ih := objs_ids (ver := ver) (ps := ps) (x := x.2)
  cases p with
  | slot t c => simp only [objs, List.map_append, ih, objIds]; cases c <;> rfl
  | agg t τ => exact ih
  | box id cs => simp only [objs, List.map_append, List.map_cons, ih, objCs_ids, objIds, List.cons_append]
  | row id T e => simp only [objs, List.map_cons, ih, objIds]
  | mp id k v => simp only [objs, List.map_cons, ih, objIds]
  | rows id T e => simp only [objs, List.map_cons, ih, objIds]
  | tr e => exact ih
theorem findO_mem : ∀ {l : List (Nat × DObj)}, (l.map (·.1)).Nodup → ∀ p ∈ l, findO l p.1 = p.2
 | [], _, p, hp => by simp at hp
 | q :: l, hn, p, hp => by
  rw [List.map_cons, List.nodup_cons] at hn
  simp only [findO]
  rcases List.mem_cons.1 hp with rfl | hp
  ·simp
  ·have : p.1 ≠ q.1 := fun e => hn.1 (e ▸ List.mem_map.2 ⟨p, hp, rfl⟩)
   rw [beq_ne this, cond_false]
   exact findO_mem hn.2 p hp
theorem findO_some : ∀ {l : List (Nat × DObj)} {i : Nat}, findO l i ≠ .none → (i, findO l i) ∈ l
 | [], _, h => absurd rfl h
 | q :: l, i, h => by
  simp only [findO] at h ⊢
  by_cases e : i = q.1
  ·subst e; simp
  ·rw [beq_ne e, cond_false] at h ⊢
   exact List.mem_cons_of_mem _ (findO_some h)
theorem natsEq_spec : ∀ {a b : List Nat}, natsEq a b = true → a = b
 | [], [], _ => rfl
 | x :: xs, y :: ys, h => by
  simp only [natsEq, Bool.and_eq_true] at h
  rw [Nat.eq_of_beq_eq_true h.1, natsEq_spec h.2]
 | [], _ :: _, h => by cases h
 | _ :: _, [], h => by cases h
end Go.Dm
namespace Go.Dm
open Go.RowKit
variable {P : Program} {N : Nat} {G : Gh} {S S' : CS} {w w' : World} {s : St} {a : Act} {ρ ρ' : Rho} {F F' : Nat → Prop} {heap heap' H' : Nat → DObj} {Y : Value} {E : TCtx} {Γ : Ctx} {Fw : Fence} {r : Nat} {ops : Array Oper} {lo base : Nat} {dfr : List Dfr} {vr : Nat → Nat}
def Like (lo : Nat) (heap : Nat → DObj) (id : Nat) : DObj → Prop
 | .none => False
 | .gone => False
 | .box _ => ∃ ds, heap id = .box ds
 | .row _ T e x => (∃ v, heap id = .row v T e x) ∨ (heap id = .none ∧ x.n = 0 ∧ lo ≤ id)
 | .mp k v m => heap id = .mp k v m
 | .rows _ T e d => ∃ v, heap id = .rows v T e d
 | .chain _ T k n => (∃ v, heap id = .chain v T k n) ∨ (heap id = .none ∧ n = 0 ∧ lo ≤ id)
structure RhoOk (lo : Nat) (heap : Nat → DObj) (ρ ρ' : Rho) : Prop where
 r1 : ∀ id, heap id ≠ .none → ρ' id = ρ id
 r2 : ∀ id b, ρ' id = some b → ρ id = some b
 r3 : ∀ id, heap id = .none → lo ≤ id → ρ' id = none
theorem SR.rho (hG : G.Ok P) (h : SR P N G s a w ρ S F) : RhoOk G.lo s.heap ρ (rho' G.pin s.heap ρ) := by
 refine ⟨fun id hn => ?_, fun id b hb => ?_, fun id hn hlo => ?_⟩
 ·unfold rho'
  split
  ·rename_i b hb; exact (h.pins id b hb).1.symm
  ·cases ho : s.heap id with
   | none => exact absurd ho hn
   | _ => rfl
 ·unfold rho' at hb
  split at hb
  ·rename_i b' hp; cases hb; exact (h.pins id b hp).1
  ·cases hi : isNone (s.heap id) with
   | true => rw [hi] at hb; cases hb
   | false => rw [hi] at hb; exact hb
 ·unfold rho'
  split
  ·rename_i b hp; have := hG.pin id b hp; omega
  ·rw [hn]; rfl
theorem rdC_own {id : Nat} {T : TypeId} {e : Ty} {d : DC} {v : Value} {x : Sl e.den} (hr : RC P Y S w heap ρ d v) (hx : rdC lo heap (.own id T e) d = some x) :
  R P (.sl e) S w x [v] ∧ e.flat = true ∧ ((∃ ver, heap id = .chain ver T e.cells x.n ∧ Strong w ρ id T e.cells e x.n v) ∨ (heap id = .none ∧ lo ≤ id ∧ x.n = 0 ∧ ∃ a, v = .slice a 0 0)) := by
 cases d with
 | own id' v' e' s' =>
  simp only [rdC] at hx
  split at hx
  case h_2 => cases hx
  rename_i v2 T2 k n ho
  split at hx
  case h_2 => cases hx
  rename_i hb
  simp only [Bool.and_eq_true] at hb
  obtain ⟨⟨⟨b1, b2⟩, b3⟩, b4⟩ := hb
  cases Nat.eq_of_beq_eq_true b1
  cases Nat.eq_of_beq_eq_true b2
  cases Nat.eq_of_beq_eq_true b3
  cases Nat.eq_of_beq_eq_true b4
  obtain ⟨he, hx⟩ := castTy_some hx
  cases he
  cases hx
  obtain ⟨h1, hf, cur, T', k', n', h2, h3, h4⟩ := hr
  rw [ho] at h2
  cases h2
  obtain ⟨hn, hs⟩ := h4 rfl
  subst hn
  exact ⟨h1, hf, .inl ⟨v', ho, hs⟩⟩
 | nils =>
  simp only [rdC] at hx
  split at hx
  case h_2 => cases hx
  rename_i ho hb
  simp only [Bool.and_eq_true] at hb
  cases hx
  obtain ⟨a, rfl⟩ := hr
  exact ⟨.inl ⟨rfl, a, 0, rfl⟩, hb.1, .inr ⟨ho, Nat.le_of_ble_eq_true hb.2, rfl, a, rfl⟩⟩
 | _ => simp only [rdC] at hx; cases hx
theorem rdC_rw {id : Nat} {T : TypeId} {e : Ty} {d : DC} {v : Value} {x : Sl e.den} (hr : RC P Y S w heap ρ d v) (hx : rdC lo heap (.rw id T e) d = some x) :
  (∃ a n c, v = .slice a n c) ∧ ((∃ ver, heap id = .row ver T e x ∧ RowAt w ρ id e x.n v) ∨ (heap id = .none ∧ lo ≤ id ∧ x.n = 0 ∧ (∃ a, v = .slice a 0 0) ∧ e.flat = true ∧ 0 < e.cells)) := by
 cases d with
 | row id' ver =>
  simp only [rdC] at hx
  split at hx
  case h_2 => cases hx
  rename_i cur T2 e2 s2 ho
  split at hx
  case h_2 => cases hx
  rename_i hb
  simp only [Bool.and_eq_true] at hb
  obtain ⟨⟨b1, b2⟩, b3⟩ := hb
  cases Nat.eq_of_beq_eq_true b1
  cases Nat.eq_of_beq_eq_true b2
  cases Nat.eq_of_beq_eq_true b3
  obtain ⟨he, hx⟩ := castTy_some hx
  cases he
  cases hx
  obtain ⟨_, h2, h3⟩ := hr
  exact ⟨h2, .inl ⟨ver, ho, (h3 _ _ _ _ ho).2 rfl⟩⟩
 | nils =>
  simp only [rdC] at hx
  split at hx
  case h_2 => cases hx
  rename_i ho hb
  simp only [Bool.and_eq_true, Nat.blt_eq] at hb
  cases hx
  obtain ⟨a, rfl⟩ := hr
  exact ⟨⟨_, _, _, rfl⟩, .inr ⟨ho, Nat.le_of_ble_eq_true hb.2, rfl, ⟨a, rfl⟩, hb.1.1, hb.1.2⟩⟩
 | _ => simp only [rdC] at hx; cases hx
theorem objC_like {c : CPat} {d : DC} {v : Value} {x : c.ty.den} (hr : RC P Y S w heap ρ d v) (hx : rdC lo heap c d = some x) : ∀ p ∈ objC vr c x, Like lo heap p.1 p.2 := by
 cases c with
 | own id T e =>
  intro p hp
  simp only [objC, List.mem_singleton] at hp
  subst hp
  obtain ⟨_, _, ⟨ver, h, _⟩ | ⟨h1, h2, h3, _⟩⟩ := rdC_own hr hx
  ·exact .inl ⟨ver, h⟩
  ·exact .inr ⟨h1, h3, h2⟩
 | rw id T e =>
  intro p hp
  simp only [objC, List.mem_singleton] at hp
  subst hp
  obtain ⟨_, ⟨ver, h, _⟩ | ⟨h1, h2, h3, _⟩⟩ := rdC_rw hr hx
  ·exact .inl ⟨ver, h⟩
  ·exact .inr ⟨h1, h3, h2⟩
 | _ => intro p hp; simp [objC] at hp
theorem rdCs_cons {c : CPat} {cs : List CPat} {ds : List DC} {x : (cellsTy (c :: cs)).den} (hx : rdCs lo heap (c :: cs) ds = some x) : ∃ d ds', ds = d :: ds' ∧ rdC lo heap c d = some x.1 ∧ rdCs lo heap cs ds' = some x.2 := by
 cases ds with
 | nil => cases hx
 | cons d ds =>
  simp only [rdCs] at hx
  split at hx
  ·rename_i y z h1 h2
   cases hx
   exact ⟨d, ds, rfl, h1, h2⟩
  ·cases hx
theorem objCs_like : ∀ {cs : List CPat} {ds : List DC} {us : List Value} {x : (cellsTy cs).den}, RL (RC P Y S w heap ρ) ds us → rdCs lo heap cs ds = some x → ∀ p ∈ objCs vr cs x, Like lo heap p.1 p.2
 | [], _, _, _, _, _ => fun p hp => by simp [objCs] at hp
 | c :: cs, ds, us, x, hr, hx => by
  obtain ⟨d, ds', rfl, h1, h2⟩ := rdCs_cons hx
  cases us with
  | nil => have := hr.1; cases this
  | cons u us =>
   obtain ⟨r1, r2⟩ := hr.of_cons
   intro p hp
   rcases List.mem_append.1 hp with hp | hp
   ·exact objC_like r1 h1 p hp
   ·exact objCs_like r2 h2 p hp
theorem rd_cons {p : Pat} {ps : List Pat} {x : (patsTy (p :: ps)).den} (hx : rd lo s (p :: ps) = some x) : rdP lo s p = some x.1 ∧ rd lo s ps = some x.2 := by
 simp only [rd] at hx
 split at hx
 ·rename_i y z h1 h2
  cases hx
  exact ⟨h1, h2⟩
 ·cases hx
theorem slot_rc (h : SR P N G s a w ρ S F) {t : Nat} {c : CPat} {x : c.ty.den} (hx : rdP lo s (.slot t c) = some x) : ∃ d, s.env t = .v d ∧ rdC lo s.heap c d = some x ∧ RC P G.Y S w s.heap ρ d (a.tmps.getD t undef) := by
 simp only [rdP] at hx
 split at hx
 ·rename_i d hd
  have := h.env t
  rw [hd] at this
  exact ⟨d, hd, hx, this⟩
 ·cases hx
theorem box_rc (h : SR P N G s a w ρ S F) {id : Nat} {cs : List CPat} {x : (cellsTy cs).den} (hx : rdP lo s (.box id cs) = some x) : ∃ ds, s.heap id = .box ds ∧ rdCs lo s.heap cs ds = some x ∧
  ∃ b arr T, ρ id = some b ∧ Alw G F b ∧ w.heap[b]? = some (.cells arr T (0, 0)) ∧ RL (RC P G.Y S w s.heap ρ) ds arr.toList ∧ ∀ o, ¬ S b o := by
 simp only [rdP] at hx
 split at hx
 ·rename_i ds hd
  have := h.obj id
  rw [hd] at this
  exact ⟨ds, hd, hx, this⟩
 ·cases hx
theorem row_rd {id : Nat} {T : TypeId} {e : Ty} {x : Sl e.den} (hx : rdP lo s (.row id T e) = some x) : ∃ v, s.heap id = .row v T e x := by
 simp only [rdP] at hx
 split at hx
 ·rename_i v T' e' y ho
  split at hx
  ·rename_i hb
   cases Nat.eq_of_beq_eq_true hb
   obtain ⟨he, hx⟩ := castTy_some hx
   cases he; cases hx
   exact ⟨v, ho⟩
  ·cases hx
 ·cases hx
theorem mp_rd {id : Nat} {k v : Ty} {x : k.den → Option v.den} (hx : rdP lo s (.mp id k v) = some x) : s.heap id = .mp k v x := by
 simp only [rdP] at hx
 split at hx
 ·rename_i k' v' y ho
  obtain ⟨he, hx⟩ := castTy_some hx
  cases he; cases hx
  exact ho
 ·cases hx
theorem rows_rd {id : Nat} {T : TypeId} {e : Ty} {x : Sl (Sl e.den)} (hx : rdP lo s (.rows id T e) = some x) : ∃ v, s.heap id = .rows v T e x := by
 simp only [rdP] at hx
 split at hx
 ·rename_i v T' e' y ho
  split at hx
  ·rename_i hb
   cases Nat.eq_of_beq_eq_true hb
   obtain ⟨he, hx⟩ := castTy_some hx
   cases he; cases hx
   exact ⟨v, ho⟩
  ·cases hx
 ·cases hx
theorem tr_rd {e : Ty} {x : Sl e.den} (hx : rdP lo s (.tr e) = some x) : s.tr = ⟨e, true, x⟩ := by
 simp only [rdP] at hx
 split at hx
 ·rename_i e' y ho
  obtain ⟨he, hx⟩ := castTy_some hx
  cases he; cases hx
  exact ho
 ·cases hx
theorem objs_like (h : SR P N G s a w ρ S F) : ∀ {ps : List Pat} {x : (patsTy ps).den}, rd lo s ps = some x → ∀ p ∈ objs vr ps x, Like lo s.heap p.1 p.2
 | [], _, _ => fun p hp => by simp [objs] at hp
 | q :: ps, x, hx => by
  obtain ⟨h1, h2⟩ := rd_cons hx
  have ih := objs_like h h2
  intro p hp
  cases q with
  | slot t c =>
   obtain ⟨d, _, hc, hr⟩ := slot_rc h h1
   rcases List.mem_append.1 hp with hp | hp
   ·exact objC_like hr hc p hp
   ·exact ih p hp
  | agg t τ => exact ih p hp
  | box id cs =>
   obtain ⟨ds, ho, hc, b, arr, T, _, _, _, hr, _⟩ := box_rc h h1
   simp only [objs, List.cons_append, List.mem_cons, List.mem_append] at hp
   rcases hp with rfl | hp | hp
   ·exact ⟨ds, ho⟩
   ·exact objCs_like hr hc p hp
   ·exact ih p hp
  | row id T e =>
   rcases List.mem_cons.1 hp with rfl | hp
   ·exact .inl (row_rd h1)
   ·exact ih p hp
  | mp id k v =>
   rcases List.mem_cons.1 hp with rfl | hp
   ·exact mp_rd h1
   ·exact ih p hp
  | rows id T e =>
   rcases List.mem_cons.1 hp with rfl | hp
   ·exact rows_rd h1
   ·exact ih p hp
  | tr e => exact ih p hp
structure Cmp (vr : Nat → Nat) (lo : Nat) (heap H' : Nat → DObj) (ρ ρ' : Rho) : Prop where
 like : ∀ id, H' id ≠ .none → Like lo heap id (H' id)
 rho : RhoOk lo heap ρ ρ'
 ver : ∀ id v T e s, H' id = .row v T e s → v = vr id
theorem PtrOk.cmp (hc : Cmp vr lo heap H' ρ ρ') {id off : Nat} {v : Value} (h : PtrOk heap ρ id off v) (hn : H' id ≠ .none) : PtrOk H' ρ' id off v := by
 obtain ⟨h1, h2, h3⟩ := h
 refine ⟨hn, h2, fun ds hd => ?_⟩
 have := hc.like id hn
 rw [hd] at this
 obtain ⟨ds0, h4⟩ := this
 obtain ⟨b, h5, h6⟩ := h3 ds0 h4
 exact ⟨b, (hc.rho.r1 id h1).trans h5, h6⟩
theorem PtrsOk.cmp (hc : Cmp vr lo heap H' ρ ρ') : ∀ {ids : List Nat} {us : List Value}, PtrsOk heap ρ ids us → (∀ id ∈ ids, H' id ≠ .none) → PtrsOk H' ρ' ids us
 | [], [], _, _ => trivial
 | _ :: _, _ :: _, h, hn => ⟨h.1.cmp hc (hn _ (.head _)), PtrsOk.cmp hc h.2 fun id hid => hn id (.tail _ hid)⟩
 | [], _ :: _, h, _ => h.elim
 | _ :: _, [], h, _ => h.elim
def namedC (H' : Nat → DObj) : CPat → Prop
 | .ptr id => H' id ≠ .none
 | .row id => H' id ≠ .none
 | .mp id => H' id ≠ .none
 | .rows id => H' id ≠ .none
 | .clo _ ids => ∀ id ∈ ids, H' id ≠ .none
 | .clod _ _ ids => ∀ id ∈ ids, H' id ≠ .none
 | _ => True
theorem rdC_RC (hc : Cmp vr lo heap H' ρ ρ') {c : CPat} {d : DC} {v : Value} {x : c.ty.den} (hr : RC P Y S w heap ρ d v) (hx : rdC lo heap c d = some x) (hn : namedC H' c) (ho : ∀ p ∈ objC vr c x, H' p.1 = p.2) :
  RC P Y S w H' ρ' (wrC vr c x) v := by
 cases c with
 | pc τ =>
  have hx : (match τ.one with | true => ofDC τ d | false => none) = some x := by cases d <;> exact hx
  cases h1 : τ.one with
  | false => rw [h1] at hx; cases hx
  | true => rw [h1] at hx; exact ⟨h1, ofDC_R hr hx⟩
 | own id T e =>
  have h := rdC_own hr hx
  have hh : H' id = .chain (vr id) T e.cells (show Sl e.den from x).n := ho (id, .chain (vr id) T e.cells (show Sl e.den from x).n) (List.mem_singleton.2 rfl)
  obtain ⟨h1, h2, h3⟩ := h
  refine ⟨h1, h2, vr id, T, e.cells, _, hh, Nat.le_refl _, fun _ => ⟨rfl, rfl, ?_⟩⟩
  rcases h3 with ⟨ver, h4, h5⟩ | ⟨h4, h5, h6, h7⟩
  ·have hρ := hc.rho.r1 id (by rw [h4]; simp)
   rw [hρ]
   exact h5.2
  ·exact .inl ⟨hc.rho.r3 id h4 h5, h6, h7⟩
 | ptr id =>
  cases d with
  | ptr id' off =>
   simp only [rdC] at hx
   split at hx
   case h_2 => cases hx
   rename_i hb
   simp only [Bool.and_eq_true] at hb
   cases Nat.eq_of_beq_eq_true hb.1.1
   cases Nat.eq_of_beq_eq_true hb.1.2
   exact PtrOk.cmp hc hr hn
  | _ => simp only [rdC] at hx; cases hx
 | rw id T e =>
  obtain ⟨h2, h3⟩ := rdC_rw hr hx
  have hh : H' id = .row (vr id) T e (show Sl e.den from x) := ho (id, .row (vr id) T e (show Sl e.den from x)) (List.mem_singleton.2 rfl)
  refine ⟨by rw [hh]; simp, h2, fun cu T' e' s' hd => ?_⟩
  rw [hh] at hd; cases hd
  refine ⟨Nat.le_refl _, fun _ => ?_⟩
  rcases h3 with ⟨ver, h4, h5⟩ | ⟨h4, h5, h6, h7, _⟩
  ·have hρ := hc.rho.r1 id (by rw [h4]; simp)
   unfold RowAt at h5 ⊢
   rw [hρ]; exact h5
  ·exact .inl ⟨h6, h7⟩
 | row id =>
  cases d with
  | row id' ver =>
   simp only [rdC] at hx
   split at hx
   case h_2 => cases hx
   rename_i hb
   simp only [Bool.and_eq_true] at hb
   cases Nat.eq_of_beq_eq_true hb.1
   obtain ⟨h1, h2, h3⟩ := hr
   have hcur : ∃ T e s0, heap id = .row ver T e s0 := by
    have := hb.2
    unfold isRow at this
    split at this
    ·rename_i cur T e s0 hh; cases Nat.eq_of_beq_eq_true this; exact ⟨T, e, s0, hh⟩
    ·cases this
   obtain ⟨T0, e0, s0, hcur⟩ := hcur
   refine ⟨hn, h2, fun cu T e s' hd => ?_⟩
   have hl := hc.like id hn
   rw [hd] at hl
   obtain ⟨v0, hl⟩ | ⟨hl, _⟩ := hl
   ·rw [hcur] at hl
    cases hl
    have h5 := (h3 _ _ _ _ hcur).2 rfl
    refine ⟨Nat.le_of_eq (hc.ver _ _ _ _ _ hd).symm, fun _ => ?_⟩
    unfold RowAt at h5 ⊢
    rw [hc.rho.r1 id h1]; exact h5
   ·rw [hcur] at hl; cases hl
  | _ => simp only [rdC] at hx; cases hx
 | mp id =>
  cases d with
  | mp id' =>
   simp only [rdC] at hx
   split at hx
   case h_2 => cases hx
   rename_i hb
   simp only [Bool.and_eq_true] at hb
   cases Nat.eq_of_beq_eq_true hb.1
   obtain ⟨h1, h2, h3⟩ := hr
   refine ⟨hn, h2, fun k e m hd => ?_⟩
   have := hc.like id hn
   rw [hd] at this
   obtain ⟨b, h4, h5⟩ := h3 k e m this
   exact ⟨b, (hc.rho.r1 id h1).trans h4, h5⟩
  | _ => simp only [rdC] at hx; cases hx
 | rows id =>
  cases d with
  | rows id' =>
   simp only [rdC] at hx
   split at hx
   case h_2 => cases hx
   rename_i hb
   simp only [Bool.and_eq_true] at hb
   cases Nat.eq_of_beq_eq_true hb.1
   obtain ⟨h1, h2, h3⟩ := hr
   refine ⟨hn, h2, fun cur T e d hd => ?_⟩
   have := hc.like id hn
   rw [hd] at this
   obtain ⟨v0, this⟩ := this
   obtain ⟨b, cap, q1, q2⟩ := h3 _ _ _ _ this
   exact ⟨b, cap, (hc.rho.r1 id h1).trans q1, q2⟩
  | _ => simp only [rdC] at hx; cases hx
 | clo f ids =>
  cases d with
  | clo f' ids' =>
   simp only [rdC] at hx
   split at hx
   case h_2 => cases hx
   rename_i hb
   simp only [Bool.and_eq_true] at hb
   cases Nat.eq_of_beq_eq_true hb.1.1
   cases natsEq_spec hb.1.2
   obtain ⟨h1, us, h2, h3⟩ := hr
   exact ⟨h1, us, h2, h3.cmp hc hn⟩
  | _ => simp only [rdC] at hx; cases hx
 | clod f τ ids =>
  cases d with
  | clod f' τ' x' ids' =>
   simp only [rdC] at hx
   split at hx
   case h_2 => cases hx
   rename_i hb
   simp only [Bool.and_eq_true] at hb
   cases Nat.eq_of_beq_eq_true hb.1.1
   cases natsEq_spec hb.1.2
   obtain ⟨e1, e2⟩ := castTy_some hx
   cases e1
   have e2 : x = x' := e2
   subst e2
   obtain ⟨h1, u, us, h2, h3, h4⟩ := hr
   exact ⟨h1, u, us, h2, h3, h4.cmp hc hn⟩
  | _ => simp only [rdC] at hx; cases hx
 | yld =>
  cases d with
  | yld => exact hr
  | _ => simp only [rdC] at hx; cases hx
 | top =>
  cases d with
  | top => exact hr
  | _ => simp only [rdC] at hx; cases hx
 | k n =>
  cases d with
  | pc τ m =>
   cases τ with
   | int kk =>
    cases kk with
    | i64 =>
     simp only [rdC] at hx
     split at hx
     ·rename_i hd
      have hd := of_decide_eq_true hd
      subst hd
      exact hr
     ·cases hx
    | _ => simp only [rdC] at hx; cases hx
   | _ => simp only [rdC] at hx; cases hx
  | _ => simp only [rdC] at hx; cases hx
theorem rdCs_RL (hc : Cmp vr lo heap H' ρ ρ') : ∀ {cs : List CPat} {ds : List DC} {us : List Value} {x : (cellsTy cs).den}, RL (RC P Y S w heap ρ) ds us → rdCs lo heap cs ds = some x → (∀ c ∈ cs, namedC H' c) → (∀ p ∈ objCs vr cs x, H' p.1 = p.2) →
  RL (RC P Y S w H' ρ') (wrCs vr cs x) us
 | [], ds, us, x, hr, hx, _, _ => by
  cases ds with
  | cons d ds => cases hx
  | nil =>
   have := hr.1
   cases us with
   | nil => exact .nil
   | cons u us => cases this
 | c :: cs, ds, us, x, hr, hx, hn, ho => by
  obtain ⟨d, ds', rfl, h1, h2⟩ := rdCs_cons hx
  cases us with
  | nil => have := hr.1; cases this
  | cons u us =>
   obtain ⟨r1, r2⟩ := hr.of_cons
   exact .cons (rdC_RC hc r1 h1 (hn c (.head _)) fun p hp => ho p (List.mem_append_left _ hp)) (rdCs_RL hc r2 h2 (fun c hc => hn c (.tail _ hc)) fun p hp => ho p (List.mem_append_right _ hp))
theorem objC_OI (hc : Cmp vr G.lo heap H' ρ ρ') (hobj : ∀ id, OI P G S w heap ρ F id (heap id)) {c : CPat} {d : DC} {v : Value} {x : c.ty.den} (hr : RC P Y S w heap ρ d v) (hx : rdC G.lo heap c d = some x) :
  ∀ p ∈ objC vr c x, OI P G S w H' ρ' F p.1 p.2 := by
 cases c with
 | own id T e =>
  intro p hp
  simp only [objC, List.mem_singleton] at hp
  subst hp
  obtain ⟨_, _, ⟨ver, h, _⟩ | ⟨h1, h2, h3, _⟩⟩ := rdC_own hr hx
  ·have := hobj id
   rw [h] at this
   have hρ := hc.rho.r1 id (by rw [h]; simp)
   rcases this with ⟨q1, q2⟩ | ⟨b, q1, q2⟩
   ·exact .inl ⟨hρ.trans q1, q2⟩
   ·exact .inr ⟨b, hρ.trans q1, q2⟩
  ·exact .inl ⟨hc.rho.r3 id h1 h2, h3⟩
 | rw id T e =>
  intro p hp
  simp only [objC, List.mem_singleton] at hp
  subst hp
  obtain ⟨_, ⟨ver, h, _⟩ | ⟨h1, h2, h3, _, h5⟩⟩ := rdC_rw hr hx
  ·have := hobj id
   rw [h] at this
   have hρ := hc.rho.r1 id (by rw [h]; simp)
   obtain ⟨q0, ⟨q1, q2⟩ | ⟨b, arr, q1, q2⟩⟩ := this
   ·exact ⟨q0, .inl ⟨hρ.trans q1, q2⟩⟩
   ·exact ⟨q0, .inr ⟨b, arr, hρ.trans q1, q2⟩⟩
  ·exact ⟨h5, .inl ⟨hc.rho.r3 id h1 h2, h3⟩⟩
 | _ => intro p hp; simp [objC] at hp
theorem objCs_OI (hc : Cmp vr G.lo heap H' ρ ρ') (hobj : ∀ id, OI P G S w heap ρ F id (heap id)) : ∀ {cs : List CPat} {ds : List DC} {us : List Value} {x : (cellsTy cs).den}, RL (RC P Y S w heap ρ) ds us → rdCs G.lo heap cs ds = some x →
  ∀ p ∈ objCs vr cs x, OI P G S w H' ρ' F p.1 p.2
 | [], _, _, _, _, _ => fun p hp => by simp [objCs] at hp
 | c :: cs, ds, us, x, hr, hx => by
  obtain ⟨d, ds', rfl, h1, h2⟩ := rdCs_cons hx
  cases us with
  | nil => have := hr.1; cases this
  | cons u us =>
   obtain ⟨r1, r2⟩ := hr.of_cons
   intro p hp
   rcases List.mem_append.1 hp with hp | hp
   ·exact objC_OI hc hobj r1 h1 p hp
   ·exact objCs_OI hc hobj r2 h2 p hp
def namedP (H' : Nat → DObj) : Pat → Prop
 | .slot _ c => namedC H' c
 | .box _ cs => ∀ c ∈ cs, namedC H' c
 | _ => True
theorem objs_OI (h : SR P N G s a w ρ S F) (hc : Cmp vr G.lo s.heap H' ρ ρ') : ∀ {ps : List Pat} {x : (patsTy ps).den}, rd G.lo s ps = some x → (∀ p ∈ ps, namedP H' p) → (∀ p ∈ objs vr ps x, H' p.1 = p.2) → ∀ p ∈ objs vr ps x, OI P G S w H' ρ' F p.1 p.2
 | [], _, _, _, _ => fun p hp => by simp [objs] at hp
 | q :: ps, x, hx, hn, hall => by
  obtain ⟨h1, h2⟩ := rd_cons hx
  have ih : (∀ p ∈ objs vr ps x.2, H' p.1 = p.2) → ∀ p ∈ objs vr ps x.2, OI P G S w H' ρ' F p.1 p.2 := objs_OI h hc h2 fun p hp => hn p (.tail _ hp)
  intro p hp
  cases q with
  | slot t c =>
   obtain ⟨d, _, hcc, hr⟩ := slot_rc h h1
   rcases List.mem_append.1 hp with hp | hp
   ·exact objC_OI hc h.obj hr hcc p hp
   ·exact ih (fun p hp => hall p (List.mem_append_right _ hp)) p hp
  | agg t τ => exact ih hall p hp
  | box id cs =>
   obtain ⟨ds, ho, hcc, b, arr, T, q1, q2, q3, hr, q5⟩ := box_rc h h1
   have hall' : ∀ p ∈ objCs vr cs (show (cellsTy cs).den from x.1), H' p.1 = p.2 := fun p hp => hall p (by simp [objs]; exact .inr (.inl hp))
   simp only [objs, List.cons_append, List.mem_cons, List.mem_append] at hp
   rcases hp with rfl | hp | hp
   ·exact ⟨b, arr, T, (hc.rho.r1 id (by rw [ho]; simp)).trans q1, q2, q3, rdCs_RL hc hr hcc (hn _ (.head _)) hall', q5⟩
   ·exact objCs_OI hc h.obj hr hcc p hp
   ·exact ih (fun p hp => hall p (by simp [objs]; exact .inr (.inr hp))) p hp
  | row id T e =>
   rcases List.mem_cons.1 hp with rfl | hp
   ·have := h.obj id
    obtain ⟨v0, ho⟩ := row_rd h1
    rw [ho] at this
    have hρ := hc.rho.r1 id (by rw [ho]; simp)
    obtain ⟨q0, ⟨q1, q2⟩ | ⟨b, arr, q1, q2⟩⟩ := this
    ·exact ⟨q0, .inl ⟨hρ.trans q1, q2⟩⟩
    ·exact ⟨q0, .inr ⟨b, arr, hρ.trans q1, q2⟩⟩
   ·exact ih (fun p hp => hall p (.tail _ hp)) p hp
  | mp id k v =>
   rcases List.mem_cons.1 hp with rfl | hp
   ·have := h.obj id
    have ho := mp_rd h1
    rw [ho] at this
    obtain ⟨b, es, c, q1, q2⟩ := this
    exact ⟨b, es, c, (hc.rho.r1 id (by rw [ho]; simp)).trans q1, q2⟩
   ·exact ih (fun p hp => hall p (.tail _ hp)) p hp
  | rows id T e =>
   rcases List.mem_cons.1 hp with rfl | hp
   ·have := h.obj id
    obtain ⟨v0, ho⟩ := rows_rd h1
    rw [ho] at this
    obtain ⟨q0, b, arr, T', q1, q2⟩ := this
    exact ⟨q0, b, arr, T', (hc.rho.r1 id (by rw [ho]; simp)).trans q1, q2⟩
   ·exact ih (fun p hp => hall p (.tail _ hp)) p hp
  | tr e => exact ih hall p hp
theorem env_OK (h : SR P N G s a w ρ S F) (hc : Cmp vr G.lo s.heap H' ρ ρ') : ∀ {ps : List Pat} {x : (patsTy ps).den}, rd G.lo s ps = some x → (∀ p ∈ ps, namedP H' p) → (∀ p ∈ objs vr ps x, H' p.1 = p.2) →
  ∀ t, RS P G.Y S w H' ρ' (wrEnv vr ps x t) (a.tmps.getD t undef)
 | [], _, _, _, _ => fun t => trivial
 | q :: ps, x, hx, hn, hall => by
  obtain ⟨h1, h2⟩ := rd_cons hx
  have ih : (∀ p ∈ objs vr ps x.2, H' p.1 = p.2) → ∀ t, RS P G.Y S w H' ρ' (wrEnv vr ps x.2 t) (a.tmps.getD t undef) := env_OK h hc h2 fun p hp => hn p (.tail _ hp)
  intro t
  cases q with
  | slot u c =>
   obtain ⟨d, _, hcc, hr⟩ := slot_rc h h1
   simp only [wrEnv, setEnv]
   by_cases hu : t = u
   ·subst hu
    simp only [Nat.beq_refl, cond_true]
    exact rdC_RC hc hr hcc (hn _ (.head _)) fun p hp => hall p (List.mem_append_left _ hp)
   ·simp only [beq_ne hu, cond_false]
    exact ih (fun p hp => hall p (List.mem_append_right _ hp)) t
  | agg u τ =>
   simp only [wrEnv, setEnv]
   by_cases hu : t = u
   ·subst hu
    simp only [Nat.beq_refl, cond_true]
    simp only [rdP] at h1
    split at h1
    ·rename_i ds hd hf
     have := h.env t
     rw [hd] at this
     obtain ⟨us, h3, h4⟩ := this
     exact ⟨us, h3, toCells_RL hf (ofCells_R h4 h1)⟩
    ·cases h1
   ·simp only [beq_ne hu, cond_false]
    exact ih hall t
  | box id cs => exact ih (fun p hp => hall p (by simp [objs]; exact .inr (.inr hp))) t
  | row id T e => exact ih (fun p hp => hall p (.tail _ hp)) t
  | mp id k v => exact ih (fun p hp => hall p (.tail _ hp)) t
  | rows id T e => exact ih (fun p hp => hall p (.tail _ hp)) t
  | tr e => exact ih hall t
def hasTr : List Pat → Bool
 | [] => false
 | .tr _ :: _ => true
 | _ :: ps => hasTr ps
theorem wrTr_eq : ∀ {ps : List Pat} {x : (patsTy ps).den} {t : Tr}, rd lo s ps = some x → hasTr ps = true → wrTr t ps x = s.tr
 | [], _, _, _, h => by cases h
 | q :: ps, x, t, hx, hh => by
  obtain ⟨h1, h2⟩ := rd_cons hx
  cases q with
  | tr e => exact (tr_rd h1).symm
  | slot _ _ => exact wrTr_eq (ps := ps) h2 hh
  | agg _ _ => exact wrTr_eq (ps := ps) h2 hh
  | box _ _ => exact wrTr_eq (ps := ps) h2 hh
  | row _ _ _ => exact wrTr_eq (ps := ps) h2 hh
  | mp _ _ _ => exact wrTr_eq (ps := ps) h2 hh
  | rows _ _ _ => exact wrTr_eq (ps := ps) h2 hh
theorem wrTr_no : ∀ {ps : List Pat} {x : (patsTy ps).den} {t : Tr}, hasTr ps = false → wrTr t ps x = t
 | [], _, _, _ => rfl
 | q :: ps, x, t, hh => by
  cases q with
  | tr e => cases hh
  | slot _ _ => exact wrTr_no (ps := ps) hh
  | agg _ _ => exact wrTr_no (ps := ps) hh
  | box _ _ => exact wrTr_no (ps := ps) hh
  | row _ _ _ => exact wrTr_no (ps := ps) hh
  | mp _ _ _ => exact wrTr_no (ps := ps) hh
  | rows _ _ _ => exact wrTr_no (ps := ps) hh
theorem boxIds_mem : ∀ {ps : List Pat} {x : (patsTy ps).den} {id : Nat}, id ∈ boxIds ps → ∃ ds, (id, DObj.box ds) ∈ objs vr ps x
 | [], _, _, h => by simp [boxIds] at h
 | q :: ps, x, id, h => by
  cases q with
  | box i cs =>
   rcases List.mem_cons.1 h with rfl | h
   ·exact ⟨_, by simp only [objs, List.cons_append]; exact .head _⟩
   ·obtain ⟨ds, hd⟩ := boxIds_mem (x := x.2) h
    exact ⟨ds, by simp only [objs, List.cons_append]; exact .tail _ (List.mem_append_right _ hd)⟩
  | slot t c => obtain ⟨ds, hd⟩ := boxIds_mem (ps := ps) (x := x.2) h; exact ⟨ds, List.mem_append_right _ hd⟩
  | agg t τ => exact boxIds_mem (ps := ps) (x := x.2) h
  | row _ _ _ => obtain ⟨ds, hd⟩ := boxIds_mem (ps := ps) (x := x.2) h; exact ⟨ds, .tail _ hd⟩
  | mp _ _ _ => obtain ⟨ds, hd⟩ := boxIds_mem (ps := ps) (x := x.2) h; exact ⟨ds, .tail _ hd⟩
  | rows _ _ _ => obtain ⟨ds, hd⟩ := boxIds_mem (ps := ps) (x := x.2) h; exact ⟨ds, .tail _ hd⟩
  | tr e => exact boxIds_mem (ps := ps) (x := x.2) h
theorem rwIds_mem : ∀ {cs : List CPat} {x : (cellsTy cs).den} {id : Nat}, id ∈ rwIds cs → ∃ v T e y, (id, DObj.row v T e y) ∈ objCs vr cs x
 | [], _, _, h => by simp [rwIds] at h
 | c :: cs, x, id, h => by
  cases c with
  | rw i T e =>
   rcases List.mem_cons.1 h with rfl | h
   ·exact ⟨_, _, _, _, List.mem_append_left _ (List.mem_singleton.2 rfl)⟩
   ·obtain ⟨v, T, e, y, hd⟩ := rwIds_mem (x := x.2) h; exact ⟨v, T, e, y, List.mem_append_right _ hd⟩
  | _ => obtain ⟨v, T, e, y, hd⟩ := rwIds_mem (cs := cs) (x := x.2) h; exact ⟨v, T, e, y, List.mem_append_right _ hd⟩
theorem rowIds_mem : ∀ {ps : List Pat} {x : (patsTy ps).den} {id : Nat}, id ∈ rowIds ps → ∃ v T e y, (id, DObj.row v T e y) ∈ objs vr ps x
 | [], _, _, h => by simp [rowIds] at h
 | q :: ps, x, id, h => by
  cases q with
  | box i cs =>
   rcases List.mem_append.1 h with h | h
   ·obtain ⟨v, T, e, y, hd⟩ := rwIds_mem (vr := vr) (x := (show (cellsTy cs).den from x.1)) h
    exact ⟨v, T, e, y, by simp only [objs, List.cons_append]; exact .tail _ (List.mem_append_left _ hd)⟩
   ·obtain ⟨v, T, e, y, hd⟩ := rowIds_mem (ps := ps) (x := x.2) h
    exact ⟨v, T, e, y, by simp only [objs, List.cons_append]; exact .tail _ (List.mem_append_right _ hd)⟩
  | slot t c =>
   rcases List.mem_append.1 h with h | h
   ·cases c with
    | rw i T e =>
     rcases List.mem_cons.1 h with rfl | h
     ·exact ⟨_, _, _, _, List.mem_append_left _ (List.mem_singleton.2 rfl)⟩
     ·simp [rwIds] at h
    | _ => simp [rwIds] at h
   ·obtain ⟨v, T, e, y, hd⟩ := rowIds_mem (ps := ps) (x := x.2) h; exact ⟨v, T, e, y, List.mem_append_right _ hd⟩
  | agg t τ => exact rowIds_mem (ps := ps) (x := x.2) h
  | row i T e =>
   rcases List.mem_cons.1 h with rfl | h
   ·exact ⟨_, _, _, _, .head _⟩
   ·obtain ⟨v, T, e, y, hd⟩ := rowIds_mem (x := x.2) h; exact ⟨v, T, e, y, .tail _ hd⟩
  | mp _ _ _ => obtain ⟨v, T, e, y, hd⟩ := rowIds_mem (ps := ps) (x := x.2) h; exact ⟨v, T, e, y, .tail _ hd⟩
  | rows _ _ _ => obtain ⟨v, T, e, y, hd⟩ := rowIds_mem (ps := ps) (x := x.2) h; exact ⟨v, T, e, y, .tail _ hd⟩
  | tr e => exact rowIds_mem (ps := ps) (x := x.2) h
theorem objC_ver {c : CPat} {x : c.ty.den} : ∀ p ∈ objC vr c x, ∀ v T e s, p.2 = DObj.row v T e s → v = vr p.1 := by
 cases c with
 | own id T e => intro p hp v T e s h; rw [List.mem_singleton.1 hp] at h; cases h
 | rw id T e => intro p hp v T e s h; rw [List.mem_singleton.1 hp] at h ⊢; cases h; rfl
 | _ => intro p hp; simp [objC] at hp
theorem objCs_ver : ∀ {cs : List CPat} {x : (cellsTy cs).den}, ∀ p ∈ objCs vr cs x, ∀ v T e s, p.2 = DObj.row v T e s → v = vr p.1
 | [], _, p, hp => by simp [objCs] at hp
 | c :: cs, x, p, hp => by
  rcases List.mem_append.1 hp with hp | hp
  ·exact objC_ver p hp
  ·exact objCs_ver p hp
theorem objs_ver : ∀ {ps : List Pat} {x : (patsTy ps).den}, ∀ p ∈ objs vr ps x, ∀ v T e s, p.2 = DObj.row v T e s → v = vr p.1
 | [], _, p, hp => by simp [objs] at hp
 | q :: ps, x, p, hp => by
  cases q with
  | slot t c =>
   rcases List.mem_append.1 hp with hp | hp
   ·exact objC_ver p hp
   ·exact objs_ver (ps := ps) p hp
  | agg t τ => exact objs_ver (ps := ps) p hp
  | box id cs =>
   simp only [objs, List.cons_append, List.mem_cons, List.mem_append] at hp
   rcases hp with rfl | hp | hp
   ·intro v T e s h; cases h
   ·exact objCs_ver p hp
   ·exact objs_ver (ps := ps) p hp
  | row id T e =>
   rcases List.mem_cons.1 hp with rfl | hp
   ·intro v T e s h; cases h; rfl
   ·exact objs_ver (ps := ps) p hp
  | mp id k v =>
   rcases List.mem_cons.1 hp with rfl | hp
   ·intro v T e s h; cases h
   ·exact objs_ver (ps := ps) p hp
  | rows id T e =>
   rcases List.mem_cons.1 hp with rfl | hp
   ·intro v T e s h; cases h
   ·exact objs_ver (ps := ps) p hp
  | tr e => exact objs_ver (ps := ps) p hp
theorem mpIds_mem : ∀ {ps : List Pat} {x : (patsTy ps).den} {id : Nat}, id ∈ mpIds ps → ∃ o, o ≠ DObj.none ∧ (id, o) ∈ objs vr ps x
 | [], _, _, h => by simp [mpIds] at h
 | q :: ps, x, id, h => by
  cases q with
  | box i cs =>
   obtain ⟨o, ho, hd⟩ := mpIds_mem (ps := ps) (x := x.2) h
   exact ⟨o, ho, by simp only [objs, List.cons_append]; exact .tail _ (List.mem_append_right _ hd)⟩
  | slot t c => obtain ⟨o, ho, hd⟩ := mpIds_mem (ps := ps) (x := x.2) h; exact ⟨o, ho, List.mem_append_right _ hd⟩
  | agg t τ => exact mpIds_mem (ps := ps) (x := x.2) h
  | mp i T e =>
   rcases List.mem_cons.1 h with rfl | h
   ·exact ⟨_, by simp, .head _⟩
   ·obtain ⟨o, ho, hd⟩ := mpIds_mem (x := x.2) h; exact ⟨o, ho, .tail _ hd⟩
  | rows i T e =>
   rcases List.mem_cons.1 h with rfl | h
   ·exact ⟨_, by simp, .head _⟩
   ·obtain ⟨o, ho, hd⟩ := mpIds_mem (x := x.2) h; exact ⟨o, ho, .tail _ hd⟩
  | row _ _ _ => obtain ⟨o, ho, hd⟩ := mpIds_mem (ps := ps) (x := x.2) h; exact ⟨o, ho, .tail _ hd⟩
  | tr e => exact mpIds_mem (ps := ps) (x := x.2) h
theorem wf_named {ps : List Pat} {x : (patsTy ps).den} (hwf : wfPats ps = true) : ∀ p ∈ ps, namedP (findO (objs vr ps x)) p := by
 simp only [wfPats, Bool.and_eq_true] at hwf
 obtain ⟨hn, hall⟩ := hwf
 have hn : (objs vr ps x |>.map (·.1)).Nodup := by rw [objs_ids]; exact nodupB_spec hn
 have hb : ∀ id ∈ boxIds ps, findO (objs vr ps x) id ≠ .none := fun id hid => by
  obtain ⟨ds, hd⟩ := boxIds_mem (vr := vr) (x := x) hid; rw [findO_mem hn _ hd]; simp
 have hr : ∀ id ∈ rowIds ps, findO (objs vr ps x) id ≠ .none := fun id hid => by
  obtain ⟨_, _, _, ds, hd⟩ := rowIds_mem (vr := vr) (x := x) hid; rw [findO_mem hn _ hd]; simp
 have hm : ∀ id ∈ mpIds ps, findO (objs vr ps x) id ≠ .none := fun id hid => by
  obtain ⟨o, ho, hd⟩ := mpIds_mem (vr := vr) (x := x) hid; rw [findO_mem hn _ hd]; exact ho
 have hcell : ∀ c, wfC (boxIds ps) (rowIds ps) (mpIds ps) c = true → namedC (findO (objs vr ps x)) c := fun c hc => by
  cases c with
  | ptr id => exact hb id (any_beq.1 hc)
  | row id => exact hr id (any_beq.1 hc)
  | mp id => exact hm id (any_beq.1 hc)
  | rows id => exact hm id (any_beq.1 hc)
  | clo f ids => exact fun id hid => hb id (any_beq.1 (by simp only [wfC, List.all_eq_true] at hc; exact hc id hid))
  | clod f τ ids => exact fun id hid => hb id (any_beq.1 (by simp only [wfC, List.all_eq_true] at hc; exact hc id hid))
  | pc τ => trivial
  | own _ _ _ => trivial
  | rw _ _ _ => trivial
  | yld => trivial
  | top => trivial
  | k n => trivial
 intro p hp
 rw [List.all_eq_true] at hall
 have := hall p hp
 cases p with
 | slot t c => exact hcell c this
 | box id cs =>
  intro c hc
  simp only [List.all_eq_true] at this
  exact hcell c (this c hc)
 | _ => trivial
def dfrWf (bs : List Nat) (l : List Dfr) : Bool := l.all fun
 | .mark => true
 | .clo _ ids => ids.all fun id => bs.any (Nat.beq id)
theorem DfrOk.cmp (hc : Cmp vr lo heap H' ρ ρ') {n0 : Nat} : ∀ {ds : List Dfr} {dd : List Deferred}, DfrOk n0 w heap ρ F ds dd → (∀ f ids, .clo f ids ∈ ds → ∀ id ∈ ids, H' id ≠ .none) → DfrOk n0 w H' ρ' F ds dd
 | [], [], _, _ => trivial
 | .mark :: r, d :: ds, ⟨h1, h⟩, hn => ⟨h1, DfrOk.cmp hc h fun f ids hm => hn f ids (.tail _ hm)⟩
 | .clo f ids :: r, d :: ds, ⟨⟨us, h1, h2⟩, h⟩, hn => ⟨⟨us, h1, h2.cmp hc (hn f ids (.head _))⟩, DfrOk.cmp hc h fun f ids hm => hn f ids (.tail _ hm)⟩
 | [], _ :: _, h, _ => h.elim
 | .mark :: _, [], h, _ => h.elim
 | .clo _ _ :: _, [], h, _ => h.elim
def Gh.Free (G : Gh) : Prop := ∀ F S w, TrOk G .none F S w
theorem wr_SR (hG : G.Ok P) (h : SR P N G s a w ρ S F) {ps : List Pat} {x : (patsTy ps).den} {t : Tr} (hwf : wfPats ps = true) (hd : dfrWf (boxIds ps) s.dfr = true) (ht : hasTr ps = true ∨ TrOk G t F S w) (hx : rd G.lo s ps = some x) :
  SR P N G (wrV vr G.lo t s.dfr ps x) a w (rho' G.pin s.heap ρ) S F := by
 have hnm := wf_named (vr := vr) (x := x) hwf
 have hwf' := hwf
 simp only [wfPats, Bool.and_eq_true] at hwf
 have hnd : (objs vr ps x |>.map (·.1)).Nodup := by rw [objs_ids]; exact nodupB_spec hwf.1
 have hc : Cmp vr G.lo s.heap (findO (objs vr ps x)) ρ (rho' G.pin s.heap ρ) := ⟨fun id hn => objs_like h hx _ (findO_some hn), h.rho hG, fun id v T e s hh => objs_ver _ (findO_some (i := id) (by rw [hh]; simp)) v T e s hh⟩
 have hall : ∀ p ∈ objs vr ps x, findO (objs vr ps x) p.1 = p.2 := findO_mem hnd
 have hlive : ∀ i b, live (findO (objs vr ps x) i) → rho' G.pin s.heap ρ i = some b → live (s.heap i) ∧ ρ i = some b := fun i b hl hb => by
  refine ⟨?_, hc.rho.r2 i b hb⟩
  have hn : findO (objs vr ps x) i ≠ .none := fun e => by rw [e] at hl; exact hl
  have := hc.like i hn
  cases ho : findO (objs vr ps x) i with
  | none => exact absurd ho hn
  | gone => rw [ho] at hl; exact hl.elim
  | box ds => rw [ho] at this; obtain ⟨_, e⟩ := this; rw [e]; trivial
  | row v T e y =>
   rw [ho] at this
   obtain ⟨v, e⟩ | ⟨e1, e2, e3⟩ := this
   ·rw [e]; trivial
   ·rw [hc.rho.r3 i e1 e3] at hb; cases hb
  | mp k v m => rw [ho] at this; rw [show s.heap i = _ from this]; trivial
  | rows _ T e d => rw [ho] at this; obtain ⟨_, e⟩ := this; rw [e]; trivial
  | chain ver T k n =>
   rw [ho] at this
   obtain ⟨v, e⟩ | ⟨e1, e2, e3⟩ := this
   ·rw [e]; trivial
   ·rw [hc.rho.r3 i e1 e3] at hb; cases hb
 have hown : ∀ i b, Own w (rho' G.pin s.heap ρ) i (findO (objs vr ps x) i) b → Own w ρ i (s.heap i) b := fun i b hi => by
  by_cases hr : isRows (findO (objs vr ps x) i) = false
  ·obtain ⟨l1, r1⟩ := hlive i b hi.lv (hi.flat hr)
   exact .of l1 r1
  ·have hn : findO (objs vr ps x) i ≠ .none := fun e => by rw [e] at hi; exact hi
   have hlk := hc.like i hn
   cases ho : findO (objs vr ps x) i with
   | rows v T e d =>
    rw [ho] at hi hlk
    obtain ⟨v0, e0⟩ := hlk
    rw [e0]
    rcases hi with q | ⟨k, n, cap, b0, arr, T0, q1, q2⟩
    ·exact .inl (hc.rho.r2 i b q)
    ·exact .inr ⟨k, n, cap, b0, arr, T0, hc.rho.r2 i b0 q1, q2⟩
   | _ => rw [ho] at hr; exact absurd rfl hr
 refine ⟨h.size, h.dfr.cmp hc fun f ids hm id hid => ?_, env_OK h hc hx hnm hall, fun id => ?_, fun i j b hi hj => h.inj i j b (hown i b hi) (hown j b hj), h.ext, h.new, h.same, ?_, h.fb, h.f0, h.sub, h.fs, fun id b hb => ?_⟩
 ·simp only [dfrWf, List.all_eq_true] at hd
  have := hd _ hm
  simp only [List.all_eq_true] at this
  obtain ⟨ds, hds⟩ := boxIds_mem (vr := vr) (x := x) (any_beq.1 (this id hid))
  show findO (objs vr ps x) id ≠ .none
  rw [hall _ hds]; simp
 ·show OI P G S w (findO (objs vr ps x)) _ F id (findO (objs vr ps x) id)
  by_cases hn : findO (objs vr ps x) id = .none
  ·rw [hn]; trivial
  ·exact objs_OI h hc hx hnm hall _ (findO_some hn)
 ·show TrOk G (wrTr t ps x) F S w
  cases hh : hasTr ps with
  | true => rw [wrTr_eq hx hh]; exact h.tr
  | false => rw [wrTr_no hh]; exact ht.resolve_left (by rw [hh]; simp)
 ·obtain ⟨p1, p2⟩ := h.pins id b hb
  refine ⟨by unfold rho'; rw [hb], ?_⟩
  show isChain (findO (objs vr ps x) id) = false
  by_cases hn : findO (objs vr ps x) id = .none
  ·rw [hn]; rfl
  ·have := hc.like id hn
   cases ho : findO (objs vr ps x) id with
   | chain ver T k n =>
    rw [ho] at this
    obtain ⟨v, e⟩ | ⟨e1, e2, e3⟩ := this
    ·rw [e] at p2; cases p2
    ·have := hG.pin id b hb; omega
   | _ => rfl
theorem wr_SX (hG : G.Ok P) (h : SX P N G s a w) {ps : List Pat} {x : (patsTy ps).den} (hwf : wfPats ps = true) (hd : dfrWf (boxIds ps) s.dfr = true) (ht : hasTr ps = true ∨ G.Free) (hx : rd G.lo s ps = some x) :
  SX P N G (wr G.lo .none s.dfr ps x) a w := by
 obtain ⟨ρ, S, F, h⟩ := h
 exact ⟨_, S, F, wr_SR hG h hwf hd (ht.imp id fun q => q F S w) hx⟩
end Go.Dm
namespace Go.Dm
open Go.RowKit
variable {P : Program} {N : Nat} {G : Gh} {S S' : CS} {w w' : World} {s : St} {a : Act} {ρ ρ' : Rho} {F F' : Nat → Prop} {heap heap' H' : Nat → DObj} {Y : Value} {E : TCtx} {Γ : Ctx} {Fw : Fence} {r : Nat} {ops : Array Oper} {lo base : Nat} {dfr : List Dfr} {fid : FuncId}
inductive LO where
 | exit (id : Nat) (qs : List Pat) (y : (patsTy qs).den)
 | ret (qs : List Pat) (y : (patsTy qs).den)
 | stop (e : Ty) (x : Sl e.den)
 | stopR (e : Ty) (x : Sl e.den) (qs : List Pat) (y : (patsTy qs).den)
 | pan (T : TypeId) (τ : Ty) (x : τ.den) (qs : List Pat) (y : (patsTy qs).den)
 | foreign (e : Ty) (x : Sl e.den)
 | bad
def LO.out (lo : Nat) (dfr : List Dfr) : LO → Out
 | .exit id qs y => .exit id (wr lo .none dfr qs y)
 | .ret qs y => .ret (wr lo .none dfr qs y)
 | .stop e x => .ret (wr lo ⟨e, false, x⟩ dfr [] ())
 | .stopR e x qs y => .ret (wr lo ⟨e, false, x⟩ dfr qs y)
 | .pan T τ x qs y => .pan (.ifc T τ x) (wr lo .none dfr qs y)
 | .foreign e x => .pan .yld (wr lo ⟨e, false, x⟩ dfr [] ())
 | .bad => .bad
inductive LO.le : LO → LO → Prop
 | refl {o : LO} (h : o ≠ .bad) : LO.le o o
 | stop {e : Ty} {x y : Sl e.den} (h : x.list <+: y.list) : LO.le (.stop e x) (.stop e y)
 | stopR {e : Ty} {x y : Sl e.den} {qs : List Pat} {z : (patsTy qs).den} (hn : hasTr qs = false) (h : x.list <+: y.list) : LO.le (.stopR e x qs z) (.stopR e y qs z)
 | foreign {e : Ty} {x y : Sl e.den} (h : x.list <+: y.list) : LO.le (.foreign e x) (.foreign e y)
theorem LO.le_trans {a b c : LO} (h : LO.le a b) (h' : LO.le b c) : LO.le a c := by
 cases h with
 | refl _ => exact h'
 | stop h1 => cases h' with
  | refl _ => exact .stop h1
  | stop h2 => exact .stop (h1.trans h2)
 | stopR hn h1 => cases h' with
  | refl _ => exact .stopR hn h1
  | stopR _ h2 => exact .stopR hn (h1.trans h2)
 | foreign h1 => cases h' with
  | refl _ => exact .foreign h1
  | foreign h2 => exact .foreign (h1.trans h2)
theorem LO.le_ok {o o' : LO} {e : Exit} (h : LO.le o o') (ho : OutOk P N G (o.out lo dfr) e a w) : OutOk P N G (o'.out lo dfr) e a w := by
 cases h with
 | refl _ => exact ho
 | stop h =>
  rename_i e0 x y
  cases e <;> try exact ho.elim
  obtain ⟨ρ, S, F, q⟩ := ho
  refine ⟨ρ, S, F, q.size, q.dfr, q.env, q.obj, q.inj, q.ext, q.new, q.same, ?_, q.fb, q.f0, q.sub, q.fs, q.pins⟩
  obtain ⟨lv, z, hz, hJ⟩ := q.tr
  have hz : (⟨e0, false, x⟩ : Tr) = ⟨G.e, lv, z⟩ := hz
  cases hz
  obtain ⟨l', h1, h2⟩ := hJ
  exact ⟨false, y, rfl, l', h1.trans h, h2⟩
 | stopR hn h =>
  rename_i e0 x y qs zz
  cases e <;> try exact ho.elim
  obtain ⟨ρ, S, F, q⟩ := ho
  refine ⟨ρ, S, F, q.size, q.dfr, q.env, q.obj, q.inj, q.ext, q.new, q.same, ?_, q.fb, q.f0, q.sub, q.fs, q.pins⟩
  obtain ⟨lv, z, hz, hJ⟩ := q.tr
  have hz : wrTr (⟨e0, false, x⟩ : Tr) qs zz = ⟨G.e, lv, z⟩ := hz
  rw [wrTr_no hn] at hz
  cases hz
  obtain ⟨l', h1, h2⟩ := hJ
  exact ⟨false, y, wrTr_no hn, l', h1.trans h, h2⟩
 | foreign h =>
  rename_i e0 x y
  cases e <;> try exact ho.elim
  obtain ⟨F, S, z, l', hz, h1, h2, h3⟩ := ho
  have hz : (⟨e0, false, x⟩ : Tr) = ⟨G.e, false, z⟩ := hz
  cases hz
  exact ⟨F, S, y, l', rfl, h1.trans h, h2, h3⟩
def Cov (t : Tree LO) (o : LO) : Prop := ∃ o', t.Has o' ∧ LO.le o o'
def Fine (t : Tree LO) : Prop := ∀ o, t.Has o → o ≠ .bad
theorem Cov.ne {t : Tree LO} {o : LO} (h : Cov t o) : o ≠ .bad := by
 obtain ⟨o', _, h⟩ := h
 cases h with
 | refl h => exact h
 | stop _ => simp
 | stopR _ _ => simp
 | foreign _ => simp
theorem Cov.trans {t t' : Tree LO} {o : LO} (h : Cov t o) (h' : ∀ o, t.Has o → Cov t' o) : Cov t' o := by
 obtain ⟨o', h1, h2⟩ := h
 obtain ⟨o'', h3, h4⟩ := h' o' h1
 exact ⟨o'', h3, LO.le_trans h2 h4⟩
inductive Res (ps : List Pat) where
 | next (x : (patsTy ps).den)
 | out (o : LO)
 | bad
def Dfr.beq : Dfr → Dfr → Bool
 | .mark, .mark => true
 | .clo f ids, .clo f' ids' => Nat.beq f f' && natsEq ids ids'
 | _, _ => false
def dfrEq : List Dfr → List Dfr → Bool
 | [], [] => true
 | a :: as, b :: bs => a.beq b && dfrEq as bs
 | _, _ => false
theorem dfrEq_spec : ∀ {a b : List Dfr}, dfrEq a b = true → a = b
 | [], [], _ => rfl
 | x :: xs, y :: ys, h => by
  simp only [dfrEq, Bool.and_eq_true] at h
  rw [dfrEq_spec h.2]
  congr 1
  cases x with
  | mark => cases y with
   | mark => rfl
   | clo _ _ => cases h.1
  | clo f ids => cases y with
   | mark => cases h.1
   | clo f' ids' =>
    have := h.1
    simp only [Dfr.beq, Bool.and_eq_true] at this
    rw [Nat.eq_of_beq_eq_true this.1, natsEq_spec this.2]
 | [], _ :: _, h => by cases h
 | _ :: _, [], h => by cases h
structure Ways where
 exits : List (Nat × List Pat)
 ret : List Pat
 pan : List Pat
def lookupP : List (Nat × List Pat) → Nat → Option (List Pat)
 | [], _ => none
 | (i, p) :: l, j => bif Nat.beq j i then some p else lookupP l j
def noTr : List Pat → List Pat
 | [] => []
 | .tr _ :: ps => noTr ps
 | p :: ps => p :: noTr ps
def rdOut (tr : Bool) (lo : Nat) (dfr : List Dfr) (wy : Ways) : Out → LO
 | .exit id s => match dfrEq s.dfr dfr, lookupP wy.exits id with
  | true, some qs => match rd lo s qs with
   | some y => .exit id qs y
   | none => .bad
  | _, _ => .bad
 | .ret s => match dfrEq s.dfr dfr with
  | true => match !tr || s.tr.live with
   | true => match rd lo s wy.ret with
    | some y => .ret wy.ret y
    | none => .bad
   | false => match noTr wy.ret with
    | [] => match dfrWf [] dfr with
     | true => .stop s.tr.e s.tr.s
     | false => .bad
    | q :: qs => match wfPats (q :: qs) && dfrWf (boxIds (q :: qs)) dfr && !hasTr (q :: qs), rd lo s (q :: qs) with
     | true, some y => .stopR s.tr.e s.tr.s (q :: qs) y
     | _, _ => .bad
  | false => .bad
 | .pan (.ifc T τ x) s => match dfrEq s.dfr dfr with
  | true => match rd lo s wy.pan with
   | some y => .pan T τ x wy.pan y
   | none => .bad
  | false => .bad
 | .pan .yld s => match dfrEq s.dfr dfr with
  | true => .foreign s.tr.e s.tr.s
  | false => .bad
 | _ => .bad
def rdRes (tr : Bool) (lo : Nat) (dfr : List Dfr) (ps : List Pat) (wy : Ways) : Out → Res ps
 | .norm s => match dfrEq s.dfr dfr with
  | true => match rd lo s ps with
   | some x => .next x
   | none => .bad
  | false => .bad
 | o => .out (rdOut tr lo dfr wy o)
def wfQ (dfr : List Dfr) (tr : Bool) (qs : List Pat) : Bool := wfPats qs && dfrWf (boxIds qs) dfr && (!tr || hasTr qs)
def Ways.wf (dfr : List Dfr) (tr : Bool) (wy : Ways) : Bool := (wy.exits.all fun p => wfQ dfr tr p.2) && wfQ dfr tr wy.ret && wfQ dfr tr wy.pan
theorem lookupP_mem : ∀ {l : List (Nat × List Pat)} {i : Nat} {p : List Pat}, lookupP l i = some p → (i, p) ∈ l
 | (j, q) :: l, i, p, h => by
  simp only [lookupP] at h
  by_cases e : i = j
  ·subst e; simp at h; subst h; exact .head _
  ·rw [beq_ne e, cond_false] at h; exact .tail _ (lookupP_mem h)
theorem wfQ_SX (hG : G.Ok P) (h : SX P N G s a w) {tr : Bool} (ht : tr = true ∨ G.Free) {qs : List Pat} {y : (patsTy qs).den} (hw : wfQ dfr tr qs = true) (hd : s.dfr = dfr) (hy : rd G.lo s qs = some y) : SX P N G (wr G.lo .none dfr qs y) a w := by
 simp only [wfQ, Bool.and_eq_true, Bool.or_eq_true, Bool.not_eq_true'] at hw
 obtain ⟨⟨h1, h2⟩, h3⟩ := hw
 subst hd
 refine wr_SX hG h h1 h2 ?_ hy
 rcases ht with rfl | ht
 ·exact .inl (h3.resolve_left (by simp))
 ·exact .inr ht
theorem rdOut_ok (hG : G.Ok P) {tr : Bool} (ht : tr = true ∨ G.Free) {wy : Ways} (hwf : wy.wf dfr tr = true) {o : Out} {e : Exit} (h : OutOk P N G o e a w) (hb : rdOut tr G.lo dfr wy o ≠ .bad) :
  OutOk P N G ((rdOut tr G.lo dfr wy o).out G.lo dfr) e a w := by
 simp only [Ways.wf, Bool.and_eq_true] at hwf
 obtain ⟨⟨w1, w2⟩, w3⟩ := hwf
 cases o with
 | norm s => exact absurd rfl hb
 | bad => exact absurd rfl hb
 | exit id s =>
  cases e <;> try exact h.elim
  obtain ⟨rfl, h⟩ := h
  simp only [rdOut] at hb ⊢
  split at hb
  case h_2 => exact absurd rfl hb
  rename_i qs hd hq
  split at hb
  case h_2 => exact absurd rfl hb
  rename_i y hy
  try simp only [hd, hq, hy]
  have := List.all_eq_true.1 w1 _ (lookupP_mem hq)
  exact ⟨rfl, wfQ_SX hG h ht this (dfrEq_spec hd) hy⟩
 | ret s =>
  cases e <;> try exact h.elim
  simp only [rdOut] at hb ⊢
  split at hb
  case h_2 => exact absurd rfl hb
  rename_i hd
  try simp only [hd]
  split at hb
  ·rename_i hl
   try simp only [hl]
   split at hb
   case h_2 => exact absurd rfl hb
   rename_i y hy
   try simp only [hy]
   exact wfQ_SX hG h ht w2 (dfrEq_spec hd) hy
  ·rename_i hl
   try simp only [hl]
   obtain ⟨ρ, S, F, h⟩ := h
   have hd := dfrEq_spec hd
   subst hd
   have htr := h.tr
   have hst : (⟨s.tr.e, false, s.tr.s⟩ : Tr) = s.tr := by
    cases ht : s.tr with
    | mk e lv x => rw [ht] at hl; simp only [Bool.or_eq_false_iff] at hl; obtain ⟨_, rfl⟩ := hl; rfl
   split at hb
   ·rename_i hnt
    try simp only [hnt]
    split at hb
    case h_2 => exact absurd rfl hb
    rename_i hdw
    try simp only [hdw]
    refine ⟨_, S, F, wr_SR hG h (ps := []) (x := ()) (t := ⟨s.tr.e, false, s.tr.s⟩) rfl hdw (.inr ?_) rfl⟩
    rw [hst]; exact htr
   ·rename_i q0 qs0 hnt
    try simp only [hnt]
    split at hb
    case h_2 => exact absurd rfl hb
    rename_i y hdw hy
    try simp only [hdw, hy]
    simp only [Bool.and_eq_true] at hdw
    exact ⟨_, S, F, wr_SR hG h (ps := q0 :: qs0) (x := y) (t := ⟨s.tr.e, false, s.tr.s⟩) hdw.1.1 hdw.1.2 (.inr (by rw [hst]; exact htr)) hy⟩
 | pan d s =>
  cases e <;> try exact h.elim
  cases d with
  | ifc T τ x =>
   simp only [rdOut] at hb ⊢
   split at hb
   case h_2 => exact absurd rfl hb
   rename_i hd
   try simp only [hd]
   split at hb
   case h_2 => exact absurd rfl hb
   rename_i y hy
   try simp only [hy]
   obtain ⟨u, ρ, S, F, h1, h2, h3⟩ := h
   simp only [wfQ, Bool.and_eq_true, Bool.or_eq_true, Bool.not_eq_true'] at w3
   obtain ⟨⟨q1, q2⟩, q3⟩ := w3
   have hd := dfrEq_spec hd
   subst hd
   refine ⟨u, _, S, F, h1, wr_SR hG h2 q1 q2 ?_ hy, h3⟩
   rcases ht with rfl | ht
   ·exact .inl (q3.resolve_left (by simp))
   ·exact .inr (ht F S w)
  | yld =>
   simp only [rdOut] at hb ⊢
   split at hb
   case h_2 => exact absurd rfl hb
   rename_i hd
   have hd := dfrEq_spec hd
   obtain ⟨F, S, x, l', h1, h2, h3, h4, h5⟩ := h
   refine ⟨F, S, x, l', ?_, h2, h3, h4, fun q => h5 (hd.trans q)⟩
   show (⟨s.tr.e, false, s.tr.s⟩ : Tr) = _
   rw [h1]
  | _ => exact absurd rfl hb
def ResOk {ps : List Pat} (μ : (patsTy ps).den → Nat) (f : (patsTy ps).den → Tree LO) (x : (patsTy ps).den) : Res ps → Prop
 | .next x' => μ x' < μ x ∧ ∀ o, (f x').Has o → Cov (f x) o
 | .out o => Cov (f x) o
 | .bad => False
def loopF (lo : Nat) (dfr : List Dfr) (ps : List Pat) (f : (patsTy ps).den → Tree LO) (s : St) : Tree Out :=
 match dfrEq s.dfr dfr with
 | true => match rd lo s ps with
  | some x => (f x).map (LO.out lo dfr)
  | none => .leaf .bad
 | false => .leaf .bad
def roundT (tr : Bool) (P : Program) (E : TCtx) (Γ : Ctx) (lo N : Nat) (dfr : List Dfr) (ps : List Pat) (wy : Ways) (body : Code) (ls : List Loop) (x : (patsTy ps).den) : Tree (Res ps) :=
 execK P E Γ lo N .any body ls (wr lo .none dfr ps x) fun o => .leaf (rdRes tr lo dfr ps wy o)
theorem Tree.has_map' {α β : Type} {f : α → β} {a : α} : ∀ {t : Tree α}, t.Has a → (t.map f).Has (f a)
 | .leaf b, h => by rw [show a = b from h]; rfl
 | .br b l r0, h => by
  cases b with
  | true => have := Tree.has_map' (f := f) (t := l) (a := a) (by simpa [Tree.Has] using h); simpa [Tree.map, Tree.Has] using this
  | false => have := Tree.has_map' (f := f) (t := r0) (a := a) (by simpa [Tree.Has] using h); simpa [Tree.map, Tree.Has] using this
 | .any l r0, h => h.elim (fun h => .inl (Tree.has_map' h)) (fun h => .inr (Tree.has_map' h))
theorem LO.le_foreign {e : Ty} {x : Sl e.den} {o : LO} (h : LO.le (.foreign e x) o) : ∃ y, o = .foreign e y ∧ x.list <+: y.list := by
 cases h with
 | refl _ => exact ⟨x, rfl, List.prefix_refl _⟩
 | foreign h => exact ⟨_, rfl, h⟩
theorem yl_aux {e1 : Ty} {x1 y : Sl e1.den} {e2 : Ty} {z : Sl e2.den} {items : List e2.den} (hp : x1.list <+: y.list) (h3 : (⟨e1, false, x1⟩ : Tr) = ⟨e2, false, z⟩) (hy : ∀ z' : Sl e2.den, (⟨e1, false, y⟩ : Tr) = ⟨e2, false, z'⟩ → z'.list <+: items) : z.list <+: items := by
 cases h3
 exact hp.trans (hy y rfl)
theorem loop_ok (hE : Env P E Γ G Fw) {tr : Bool} (ht : tr = true ∨ G.Free) {ps : List Pat} {wy : Ways} {body : Code} {ls : List Loop} (hls : LsOK P N G fid Fw r body ls)
  (hps : wfQ dfr tr ps = true) (hwy : wy.wf dfr tr = true) (f : (patsTy ps).den → Tree LO) (μ : (patsTy ps).den → Nat)
  (hround : ∀ x, Fine (f x) → (roundT tr P E Γ G.lo N dfr ps wy body ls x).All (ResOk μ f x)) : LoopOK P N G fid Fw r (.loop body) (loopF G.lo dfr ps f) := by
 intro s a w h hfine
 unfold loopF at hfine ⊢
 split at hfine
 case h_2 => exact (hfine .bad rfl).elim
 rename_i hd
 try simp only [hd]
 split at hfine
 case h_2 => exact (hfine .bad rfl).elim
 rename_i x hx
 try simp only [hx]
 have hfx : Fine (f x) := fun o ho e => by subst e; exact (hfine _ (Tree.has_map' (f := LO.out G.lo dfr) ho)).elim
 have h0 := wfQ_SX hE.gh h ht hps (dfrEq_spec hd) hx
 have hyl : ∀ e z, (f x).Has (.foreign e z) → ∀ z' : Sl G.e.den, (⟨e, false, z⟩ : Tr) = ⟨G.e, false, z'⟩ → z'.list <+: G.items := fun e z ho => hfine _ (Tree.has_map' (f := LO.out G.lo dfr) ho)
 -- in terms of f alone
 suffices key : ∀ (n : Nat) (x : (patsTy ps).den) (a : Act) (w : World), μ x = n → Fine (f x) → (∀ e z, (f x).Has (.foreign e z) → ∀ z' : Sl G.e.den, (⟨e, false, z⟩ : Tr) = ⟨G.e, false, z'⟩ → z'.list <+: G.items) → SX P N G (wr G.lo .none dfr ps x) a w →
   wpB fid Fw r P (.loop body) (fun e a' w' => ∃ o, (f x).Has o ∧ OutOk P N G (o.out G.lo dfr) e a' w') a w from
  wpB_mono (key _ x a w rfl hfx hyl h0) fun e a' w' ⟨o, h1, h2⟩ => ⟨_, Tree.has_map' h1, h2⟩
 intro n x0 a w hn hf0 hyl hs0
 have hyg : ∀ (x : (patsTy ps).den), (∀ o, (f x).Has o → Cov (f x0) o) → ∀ s', Tree.All (ResOk μ f x) (.leaf (rdRes tr G.lo dfr ps wy (.pan .yld s'))) → YG G s' := fun x hc s' q z hz => by
  have q : Cov (f x) (rdOut tr G.lo dfr wy (.pan .yld s')) := q
  simp only [rdOut] at q
  split at q
  case h_2 => exact (q.ne rfl).elim
  obtain ⟨o', h1, h2⟩ := q.trans hc
  have h3 : (⟨s'.tr.e, false, s'.tr.s⟩ : Tr) = ⟨G.e, false, z⟩ := by rw [hz]
  obtain ⟨y, rfl, hp⟩ := LO.le_foreign h2
  exact yl_aux hp h3 (hyl _ _ h1)
 have key : ∀ (m : Nat) (x : (patsTy ps).den) (a : Act) (w : World), μ x < m → (∀ o, (f x).Has o → Cov (f x0) o) → SX P N G (wr G.lo .none dfr ps x) a w →
   roundsB fid Fw r P body (fun e a' w' => ∃ o, Cov (f x0) o ∧ OutOk P N G (o.out G.lo dfr) e a' w') m a w := by
  intro m
  induction m with
  | zero => intro x a w hm; omega
  | succ m ih =>
   intro x a w hm hc hs
   unfold roundsB
   have hT := hround x fun o ho => (hc o ho).ne
   refine wpB_mono (exec_sound (T := fun t : Tree (Res ps) => t.All (ResOk μ f x)) (ch := Tree.any) (K := fun o => .leaf (rdRes tr G.lo dfr ps wy o)) hE (fun a b q => q) ⟨fun q => Cov.ne (o := .bad) q rfl, hyg x hc⟩ hT hls hs) ?_
   rintro e a' w' ⟨o, ho, hTo⟩
   have out : ∀ l, rdRes tr G.lo dfr ps wy o = .out l → e ≠ .normal → l = rdOut tr G.lo dfr wy o → ∃ o, Cov (f x0) o ∧ OutOk P N G (o.out G.lo dfr) e a' w' := fun l hl _ e => by
    have hTo : ResOk μ f x (rdRes tr G.lo dfr ps wy o) := hTo
    rw [hl] at hTo
    have hcov : Cov (f x) l := hTo
    subst e
    exact ⟨_, hcov.trans hc, rdOut_ok hE.gh ht hwy ho hcov.ne⟩
   cases o with
   | norm s' =>
    cases e <;> try exact ho.elim
    have hTo : ResOk μ f x (rdRes tr G.lo dfr ps wy (.norm s')) := hTo
    simp only [rdRes] at hTo
    split at hTo
    case h_2 => exact hTo.elim
    rename_i hd
    split at hTo
    case h_2 => exact hTo.elim
    rename_i x' hx'
    obtain ⟨h1, h2⟩ := hTo
    exact ih x' a' w' (by omega) (fun o ho => (h2 o ho).trans hc) (wfQ_SX hE.gh ho ht hps (dfrEq_spec hd) hx')
   | exit id s' => cases e <;> first | exact ho.elim | exact out _ rfl (by simp) rfl
   | ret s' => cases e <;> first | exact ho.elim | exact out _ rfl (by simp) rfl
   | pan d s' => cases e <;> first | exact ho.elim | exact out _ rfl (by simp) rfl
   | bad => cases e <;> exact ho.elim
 refine wpB_mono (wpB_loop_rounds _ (key (μ x0 + 1) x0 a w (by omega) (fun o ho => ⟨o, ho, .refl (hf0 o ho)⟩) hs0)) ?_
 rintro e a' w' ⟨o, ⟨o', h1, h2⟩, h3⟩
 exact ⟨o', h1, LO.le_ok h2 h3⟩
end Go.Dm
namespace Go.Dm
open Go.RowKit
variable {P : Program} {N : Nat} {G : Gh} {S S' : CS} {w w' : World} {s : St} {a : Act} {ρ ρ' : Rho} {F F' : Nat → Prop} {heap heap' H' : Nat → DObj} {Y : Value} {E : TCtx} {Γ : Ctx} {Fw : Fence} {r : Nat} {ops : Array Oper} {lo base : Nat} {dfr : List Dfr}
def Gh.start (S : CS) (w : World) : Gh := Gh.inner (fun _ => False) S w 0 0 fun _ => none
theorem inner_free {M : Nat → Prop} {l lo : Nat} {pin : Nat → Option Nat} : (Gh.inner M S w l lo pin).Free := fun _ _ _ => ⟨false, ⟨0, fun _ => ()⟩, rfl, [], List.nil_prefix, trivial⟩
theorem inner_ok {M : Nat → Prop} {l lo : Nat} {pin : Nat → Option Nat} (hp : ∀ id b, pin id = some b → id < lo) : (Gh.inner M S w l lo pin).Ok P := ⟨Cons.dead_ok _, dead_yield, hp⟩
theorem start_ok : (Gh.start S w).Ok P := inner_ok fun _ _ h => by cases h
def argSlots : (τ : Ty) → τ.den → List Slot
 | .cons h t, x => toSlot h (show h.den × t.den from x).1 :: argSlots t (show h.den × t.den from x).2
 | _, _ => []
def initSt (τ : Ty) (x : τ.den) : St := ⟨fun t => (argSlots τ x).getD t .top, fun _ => .none, .none, 0, []⟩
def resTmps : List ResultVar → List Nat
 | [] => []
 | .tmp t :: rs => t :: resTmps rs
 | .cell _ _ :: rs => resTmps rs
def rdRet (P : Program) : List ResultVar → (τ : Ty) → St → Option τ.den
 | [], .nil, _ => some ()
 | .tmp t :: rs, .cons h tl, s => match ofSlot h (s.env t), rdRet P rs tl s with
  | some x, some y => some (x, y)
  | _, _ => none
 | .cell t T :: rs, .cons h tl, s => match s.env t with
  | .v (.ptr id 0) => match s.heap id, sizeD P T with
   | .box ds, some n => match decide (ds.length = n) with
    | true => match ofSlot h (match isAggD P T, ds with | some true, ds => .agg ds | some false, [d] => .v d | _, _ => .top), rdRet P rs tl s with
     | some x, some y => some (x, y)
     | _, _ => none
    | false => none
   | _, _ => none
  | _ => none
 | _, _, _ => none
def finSt (fn : Func) (s : St) : St := frzRows s (resTmps fn.results.toList)
theorem argSlots_RS : ∀ {τ : Ty} {x : τ.den} {vs : List Value}, R P τ S w x vs → ∀ t, RS P Y S w heap ρ ((argSlots τ x).getD t .top) (vs.getD t undef)
 | .cons h t, x, vs, hr, k => by
  obtain ⟨u, ws, rfl, h2, h3⟩ := hr
  cases k with
  | zero => exact toSlot_RS h2
  | succ k => simpa [argSlots] using argSlots_RS (τ := t) h3 k
 | .int _, _, _, _, _ => trivial
 | .bool, _, _, _, _ => trivial
 | .sl _, _, _, _, _ => trivial
 | .ptr _, _, _, _, _ => trivial
 | .agg _, _, _, _, _ => trivial
 | .nil, _, _, _, _ => trivial
 | .fn _ _, _, _, _, _ => trivial
 | .seq _, _, _, _, _ => trivial
 | .map _ _, _, _, _, _ => trivial
 | .opq, _, _, _, _ => trivial
def actOf (N : Nat) (vs : List Value) : Act := { tmps := vs.toArray ++ Array.replicate (N - vs.toArray.size) undef, defers := [] }
theorem actOf_get (vs : List Value) (t : Nat) : (actOf N vs).tmps.getD t undef = vs.getD t undef := by
 unfold actOf
 rw [Array.getD_eq_getD_getElem?, List.getD_eq_getElem?_getD, Array.getElem?_append]
 split
 ·simp
 ·rename_i ht
  rw [List.getElem?_eq_none (by simpa using ht), Array.getElem?_replicate]
  split <;> rfl
theorem actOf_size {vs : List Value} (hn : vs.length ≤ N) : (actOf N vs).tmps.size = N := by
 unfold actOf; simp; omega
theorem init_SR {τ : Ty} {x : τ.den} {vs : List Value} (hb : Bd S w) (hr : R P τ S w x vs) (hn : vs.length ≤ N) :
  SR P N (Gh.start S w) (initSt τ x) (actOf N vs) w (fun _ => none) S (fun _ => False) := by
 refine ⟨actOf_size hn, trivial, fun t => ?_, fun id => trivial, fun i j b hi => hi.elim, .refl hb, fun _ _ q => .inl q, .refl _ _, inner_free _ _ _, fun _ q => q.elim, fun _ _ q => q, fun _ q => q, fun _ _ _ _ => trivial, fun _ _ q => by cases q⟩
 rw [actOf_get]
 exact argSlots_RS hr t
def resG (tmps : Array Value) : ResultVar → Sem Value
 | .tmp t => pure (tmps.getD t undef)
 | .cell c t => do loadVar t (← asAddr (tmps.getD c undef))
theorem rdRet_R (h : SR P N G s a w ρ S F) : ∀ {rs : List ResultVar} {τ : Ty} {y : τ.den}, rdRet P rs τ s = some y →
    ∃ us, (rs.mapM (m := Sem) (resG a.tmps)).run P w = .ok us w ∧ R P τ S w y us
  | [], τ, y, hy => by
    cases τ with
    | nil => exact ⟨[], rfl, rfl⟩
    | _ => cases hy
  | .tmp t :: rs, τ, y, hy => by
    cases τ with
    | cons h1 tl =>
      simp only [rdRet] at hy
      cases h2 : ofSlot h1 (s.env t) with
      | none => rw [h2] at hy; simp at hy
      | some x =>
        cases h3 : rdRet P rs tl s with
        | none => rw [h2, h3] at hy; simp at hy
        | some z =>
          rw [h2, h3] at hy
          simp only [Option.some.injEq] at hy
          subst hy
          obtain ⟨us, q1, q2⟩ := rdRet_R h h3
          exact ⟨_ :: us, by simp only [List.mapM_cons, Sem.run_bind, resG, Sem.run_pure, Result.andThen_ok] at q1 ⊢; rw [q1]; rfl, _, us, rfl, ofSlot_R (h.env t) h2, q2⟩
    | _ => cases hy
  | .cell c t :: rs, τ, y, hy => by
    cases τ with
    | cons h1 tl =>
      simp only [rdRet] at hy
      cases hs : s.env c with
      | v d =>
        cases d with
        | ptr id off =>
          rw [hs] at hy
          cases off with
          | succ off => simp at hy
          | zero =>
          simp only at hy
          cases ho : s.heap id with
          | box ds =>
            cases hn : sizeD P t with
            | none => rw [ho, hn] at hy; simp at hy
            | some n =>
              rw [ho, hn] at hy
              simp only at hy
              cases hc : decide (ds.length = n) with
              | false => rw [hc] at hy; simp at hy
              | true =>
                rw [hc] at hy
                simp only [decide_eq_true_eq] at hc
                simp only at hy
                have hp := h.env c
                rw [hs] at hp
                obtain ⟨b, arr, T, hb, hv, hh, hr⟩ := box_obj h ho hp
                have hal : arr.toList.length = n := by rw [← hr.1]; exact hc
                have main : ∀ (sl : Slot) (v : Value), RS P G.Y S w s.heap ρ sl v → (Instr.loadAt t (.pointer (some ⟨b, 0, none⟩))).run P w = .ok v w →
                    (match ofSlot h1 sl, rdRet P rs tl s with
                      | some x, some y => some (x, y)
                      | _, _ => none) = some y → ∃ us, ((ResultVar.cell c t :: rs).mapM (m := Sem) (resG a.tmps)).run P w = .ok us w ∧ R P (.cons h1 tl) S w y us := by
                  intro sl v hsl hload hy
                  cases h2 : ofSlot h1 sl with
                  | none => rw [h2] at hy; simp at hy
                  | some x =>
                    cases h3 : rdRet P rs tl s with
                    | none => rw [h2, h3] at hy; simp at hy
                    | some z =>
                      rw [h2, h3] at hy
                      simp only [Option.some.injEq] at hy
                      subst hy
                      obtain ⟨us, q1, q2⟩ := rdRet_R h h3
                      refine ⟨v :: us, ?_, v, us, rfl, ofSlot_R hsl h2, q2⟩
                      have hl : (loadVar t ⟨b, 0, none⟩).run P w = .ok v w := by
                        simpa [Instr.loadAt, Instr.sureAddr] using hload
                      have hg : (resG a.tmps (.cell c t)).run P w = .ok v w := by
                        simp only [resG, Sem.run_bind, hv, asAddr, Sem.run_pure, Result.andThen_ok, hl]
                      simp only [List.mapM_cons, Sem.run_bind, hg, Result.andThen_ok, q1, Sem.run_pure]
                cases ha : isAggD P t with
                | none => rw [ha] at hy; simp only at hy; cases h1 <;> simp [ofSlot] at hy
                | some ag =>
                  rw [ha] at hy
                  cases ag with
                  | true =>
                    exact main (.agg ds) (.agg arr.toList.toArray) ⟨arr.toList, rfl, hr⟩ (load_agg ha hn (fun j v hj => by rw [Nat.zero_add]; exact RL_block hh j v hj) hal) hy
                  | false =>
                    cases ds with
                    | nil => simp only at hy; cases h1 <;> simp [ofSlot] at hy
                    | cons d ds =>
                      cases ds with
                      | nil =>
                        obtain ⟨u, hu⟩ : ∃ u, arr.toList = [u] := by
                          have := hr.1
                          cases hq : arr.toList with
                          | nil => rw [hq] at this; simp at this
                          | cons u us =>
                            cases us with
                            | nil => exact ⟨u, rfl⟩
                            | cons _ _ => rw [hq] at this; simp at this
                        rw [hu] at hr
                        exact main (.v d) u (hr.of_cons.1) (load_one ha (RL_block hh 0 u (by rw [hu]; rfl))) hy
                      | cons d2 ds => simp only at hy; cases h1 <;> simp [ofSlot] at hy
          | none => rw [ho] at hy; simp at hy
          | gone => rw [ho] at hy; simp at hy
          | chain _ _ _ _ => rw [ho] at hy; simp at hy
          | row _ _ _ _ => rw [ho] at hy; simp at hy
          | mp _ _ _ => rw [ho] at hy; simp at hy
          | rows _ _ _ _ => rw [ho] at hy; simp at hy
        | _ => rw [hs] at hy; simp at hy
      | _ => rw [hs] at hy; simp at hy
    | _ => cases hy
theorem results_run {fn : Func} (h : SR P N G s a w ρ S F) {τ : Ty} {y : τ.den} (hy : rdRet P fn.results.toList τ s = some y) :
  ∃ us, (results fn a.tmps).run P w = .ok (pack us) w ∧ R P τ S w y us := by
 obtain ⟨us, h1, h2⟩ := rdRet_R h hy
 refine ⟨us, ?_, h2⟩
 have hfun : results fn a.tmps = (do let vs ← fn.results.mapM (resG a.tmps); pure (if h : vs.size = 1 then vs[0] else .tuple vs)) := by
  unfold results
  congr 2
 rw [hfun, Array.mapM_eq_mapM_toList, Sem.run_bind, Sem.run_map, h1]
 simp only [Result.andThen_ok, Sem.run_pure]
 cases us with
 | nil => rfl
 | cons u us => cases us <;> rfl
theorem DfrOk.put {n0 D : Nat} : ∀ {ds : List Dfr} {dd : List Deferred}, DfrOk n0 w heap ρ F ds dd → D ∉ marksOf dd → DfrOk n0 (w.putObj D (.deferred none)) heap ρ F ds dd
 | [], [], _, _ => trivial
 | .mark :: r, d :: ds, ⟨⟨D', h1, h2, h3, h4, h5⟩, h⟩, hn => by
  subst h1
  simp only [marksOf, List.filterMap_cons, List.mem_cons, not_or] at hn
  exact ⟨⟨D', rfl, h2, h3, (World.putObj_heap_other (fun e => hn.1 e.symm)).trans h4, h5⟩, DfrOk.put h hn.2⟩
 | .clo f ids :: r, d :: ds, ⟨⟨us, h1, h2⟩, h⟩, hn => by
  subst h1
  exact ⟨⟨us, rfl, h2⟩, DfrOk.put h (by simpa [marksOf] using hn)⟩
 | [], _ :: _, h, _ => h.elim
 | .mark :: _, [], h, _ => h.elim
 | .clo _ _ :: _, [], h, _ => h.elim
theorem SR.take (hG : G.Ok P) (h : SR P N G s a w ρ S F) {D : Nat} (h0 : G.w0.heap.size ≤ D) (hF : ¬ F D) (hD : w.heap[D]? = some (.deferred (some []))) {r : List Dfr} {ds : List Deferred} (hd : DfrOk G.w0.heap.size (w.putObj D (.deferred none)) s.heap ρ F r ds) :
  SR P N G { s with dfr := r } { a with defers := ds } (w.putObj D (.deferred none)) ρ S F := by
 have hlt := (Array.getElem?_eq_some_iff.1 hD).1
 have hne : ∀ b, w.heap[b]? ≠ some (Obj.deferred (some [])) → (w.putObj D (.deferred none)).heap[b]? = w.heap[b]? := fun b hb => World.putObj_heap_other fun e => hb (e ▸ hD)
 have hsz : (w.putObj D (.deferred none)).heap.size = w.heap.size := by simp [World.putObj]
 have hcell : ∀ b o, (w.putObj D (.deferred none)).cell? ⟨b, o, none⟩ = w.cell? ⟨b, o, none⟩ := fun b o => by
  by_cases hb : b = D
  ·subst hb
   have h2 : (w.putObj b (.deferred none)).heap[b]? = some (.deferred none) := World.putObj_heap_same hlt
   simp [World.cell?, h2, hD]
  ·exact World.cell?_of_block (a := ⟨b, o, none⟩) (World.putObj_heap_other hb)
 have hsame : ∀ Dm : Nat → Prop, ¬ Dm D → Same Dm w (w.putObj D (.deferred none)) := fun Dm hn => ⟨rfl, rfl, rfl, by omega, fun k hk => World.putObj_heap_other fun e => hn (e ▸ hk)⟩
 have ex : Ext0 S w S (w.putObj D (.deferred none)) := ⟨by omega, fun _ _ q => q, fun b o _ => hcell b o, fun b o es c _ q => (hne b (by rw [q]; simp)).trans q, fun b o q => by rw [hsz]; exact h.bd b o q, .putObj hlt (fun _ _ _ => by simp)⟩
 have hk : ∀ id, Kept w (w.putObj D (.deferred none)) ρ ρ id (s.heap id) (s.heap id) := fun id => .refl rfl fun b hb hl => hne b (h.blk_lt hl hb).2.2
 refine ⟨h.size, hd, fun t => (h.env t).tr ex hk, fun id => (h.obj id).tr ex hk rfl fun b hb => ⟨hne b (h.blkO hb).2.2, fun i q => q, fun x => x⟩, fun i j b hi hj => h.inj i j b (hi.back rfl fun b q1 q2 => hne b (h.blk_lt q2 q1).2.2) (hj.back rfl fun b q1 q2 => hne b (h.blk_lt q2 q1).2.2), h.ext.trans ex, h.new,
  h.same.trans (hsame _ fun q => by omega), h.tr.tr hG.c h.fb (hsame _ hF) ex, fun b x => by rw [hsz]; exact h.fb b x, h.f0, h.sub, h.fs, h.pins⟩
def allMark : List Dfr → Bool
 | [] => true
 | .mark :: r => allMark r
 | _ :: _ => false
theorem leaves_marks (hG : G.Ok P) {fn : Func} {n : Nat} {K : Ending → World → Prop} {u : FrameMode} (hu : u ≠ .run) : ∀ (r : List Dfr) {s : St} {a : Act} {w : World}, s.dfr = r → allMark r = true → SR P N G s a w ρ S F →
  (∀ w', SR P N G { s with dfr := [] } { a with defers := [] } w' ρ S F → (∀ τ x v, R P τ S w x v → R P τ S w' x v) → LeavesInM Fence.wide n P fn a.tmps K [] u w') → LeavesInM Fence.wide n P fn a.tmps K a.defers u w
 | [], s, a, w, hr, _, h, hK => by
  have hd := h.dfr
  rw [hr] at hd
  cases hdd : a.defers with
  | cons d ds => rw [hdd] at hd; exact hd.elim
  | nil =>
   refine hK w ?_ fun _ _ _ q => q
   have : ({ a with defers := [] } : Act) = a := by cases a; simp only at hdd; subst hdd; rfl
   rw [this]
   exact h.of_eq rfl rfl rfl hr.symm
 | .clo f ids :: r, s, a, w, hr, hm, h, hK => by cases hm
 | .mark :: r, s, a, w, hr, hm, h, hK => by
  have hd := h.dfr
  rw [hr] at hd
  cases hdd : a.defers with
  | nil => rw [hdd] at hd; exact hd.elim
  | cons d ds =>
   rw [hdd] at hd
   obtain ⟨⟨D, rfl, h2, h3, h4, h5⟩, hrest⟩ := hd
   have ht := h.take hG h2 h3 h4 (hrest.put h5)
   refine ⟨hu, .inl ⟨D, _, rfl, run_takeDeferred h4, ?_⟩⟩
   refine leaves_marks hG hu r (s := { s with dfr := r }) (a := { a with defers := ds }) rfl hm ht fun w' q1 q2 => hK w' q1 fun τ x v q => q2 τ x v (q.mono ?_)
   have hlt := (Array.getElem?_eq_some_iff.1 h4).1
   have hsz : (w.putObj D (.deferred none)).heap.size = w.heap.size := by simp [World.putObj]
   refine ⟨by omega, fun _ _ q => q, fun b o _ => ?_, fun b o es c _ q => (World.putObj_heap_other fun e => by rw [e, h4] at q; cases q).trans q, fun b o q => by rw [hsz]; exact h.bd b o q, .putObj hlt (fun _ _ _ => by simp)⟩
   by_cases hb : b = D
   ·subst hb
    have h2 : (w.putObj b (.deferred none)).heap[b]? = some (.deferred none) := World.putObj_heap_same hlt
    simp [World.cell?, h2, h4]
   ·exact World.cell?_of_block (a := ⟨b, o, none⟩) (World.putObj_heap_other hb)
def outRet (P : Program) (fn : Func) (τ : Ty) : Out → Tree (Option τ.den)
 | .ret s | .norm s => match allMark s.dfr with
  | true => .leaf (rdRet P fn.results.toList τ (finSt fn s))
  | false => .leaf none
 | _ => .leaf none
def runFn (P : Program) (E : TCtx) (Γ : Ctx) (fn : Func) (ls : List Loop) (τa τr : Ty) (x : τa.den) : Tree (Option τr.den) :=
 match fn.body with
 | some c => execK P E Γ 0 fn.ntmps .any c ls (initSt τa x) (outRet P fn τr)
 | none => .leaf none
theorem frzRow_dfr (s : St) (t : Nat) : (frzRow s t).dfr = s.dfr := by
 unfold frzRow; split
 ·split
  ·split <;> rfl
  ·rfl
 ·split <;> rfl
 ·rfl
theorem frzRows_dfr : ∀ (ts : List Nat) (s : St), (frzRows s ts).dfr = s.dfr
 | [], _ => rfl
 | t :: ts, s => (frzRows_dfr ts _).trans (frzRow_dfr s t)
theorem SR.pure_end {M : Nat → Prop} (h : SR P N (Gh.start S w) s a w' ρ S' F) : Ext S w S' w' ∧ Below w.heap.size w w' :=
 ⟨⟨h.ext, fun b o q => (h.new b o q).elim .inl fun q => q.elim .inr fun q => q.elim⟩, ((show Same _ w w' from h.same).mono fun k hk => ⟨hk, fun q => q, fun q => q⟩).below⟩
theorem rdRet_dfr : ∀ (rs : List ResultVar) (τ : Ty) (s : St) (d : List Dfr), rdRet P rs τ { s with dfr := d } = rdRet P rs τ s
 | [], .nil, _, _ => rfl
 | .tmp t :: rs, .cons h tl, s, d => by simp only [rdRet, rdRet_dfr rs tl s d]
 | .cell t T :: rs, .cons h tl, s, d => by simp only [rdRet, rdRet_dfr rs tl s d]
 | [], .cons _ _, _, _ => rfl
 | [], .int _, _, _ => rfl
 | [], .bool, _, _ => rfl
 | [], .sl _, _, _ => rfl
 | [], .ptr _, _, _ => rfl
 | [], .agg _, _, _ => rfl
 | [], .fn _ _, _, _ => rfl
 | [], .seq _, _, _ => rfl
 | [], .map _ _, _, _ => rfl
 | [], .opq, _, _ => rfl
 | r :: _, .nil, _, _ => by cases r <;> rfl
 | r :: _, .int _, _, _ => by cases r <;> rfl
 | r :: _, .bool, _, _ => by cases r <;> rfl
 | r :: _, .sl _, _, _ => by cases r <;> rfl
 | r :: _, .ptr _, _, _ => by cases r <;> rfl
 | r :: _, .agg _, _, _ => by cases r <;> rfl
 | r :: _, .fn _ _, _, _ => by cases r <;> rfl
 | r :: _, .seq _, _, _ => by cases r <;> rfl
 | r :: _, .map _ _, _, _ => by cases r <;> rfl
 | r :: _, .opq, _, _ => by cases r <;> rfl
theorem holds_of_runT {S : CS} {w : World} (hm : P.follows .mixedOrders = true) (hΓ : Sound P Γ) (hE : EqSound P E.eq) (hK : KeySound P E.key) {f : FuncId} {fn : Func} {c : Code} (hf : P.funcs[f]? = some fn) (hb : fn.body = some c) {ls : List Loop}
    (hl : LsOK P fn.ntmps (Gh.start S w) f Fence.wide 0 c ls)
    (con : Con) (hn : con.args.cells ≤ fn.ntmps) (h : ∀ x, con.pre x = true → (runFn P E Γ fn ls con.args con.res x).All (· = some (con.fn x))) (hbd : Bd S w) : ∀ (x : con.args.den) (vs : List Value), con.pre x = true → R P con.args S w x vs →
    Calls P f vs.toArray w (fun e w' => ∃ S' rs, e = .returned (pack rs) ∧ R P con.res S' w' (con.fn x) rs ∧ Ext S w S' w' ∧ Below w.heap.size w w') := by
  intro x vs hp hr
  have hx := h x hp
  unfold runFn at hx
  rw [hb] at hx
  refine (callsIn_wide (n := 0)).1 (callsIn_of_wpB hf hb trivial ?_)
  have hi := init_SR (N := fn.ntmps) hbd hr (by rw [hr.len]; exact hn)
  have hEnv : Env P E Γ (Gh.start S w) Fence.wide := ⟨hm, hΓ, hE, hK, start_ok, .wide, fun _ => rfl⟩
  refine wpB_mono (exec_sound (G := Gh.start S w) (K := outRet P fn con.res) (ch := Tree.any) (T := fun t : Tree (Option con.res.den) => t.All (· = some (con.fn x))) hEnv (fun a b q => q) ⟨(fun q => by cases (show none = some _ from q)), (fun s' q => by cases (show none = some _ from q))⟩ hx hl ⟨_, _, _, hi⟩) ?_
  rintro e a' w' ⟨o, ho, hT⟩
  have fin : ∀ s, SX P fn.ntmps (Gh.start S w) s a' w' → (match allMark s.dfr with
        | true => Tree.leaf (rdRet P fn.results.toList con.res (finSt fn s))
        | false => .leaf none).All (· = some (con.fn x)) →
      LeavesInM Fence.wide 0 P fn a'.tmps (fun e w' => ∃ S' rs, e = .returned (pack rs) ∧ R P con.res S' w' (con.fn x) rs ∧ Ext S w S' w' ∧ Below w.heap.size w w') a'.defers .returning w' := by
    intro s hs hT
    cases hall : allMark s.dfr with
    | false => rw [hall] at hT; cases (show none = some _ from hT)
    | true =>
      rw [hall] at hT
      have hT : rdRet P fn.results.toList con.res (finSt fn s) = some (con.fn x) := hT
      obtain ⟨ρ, S', F, hs⟩ := hs.frzRows start_ok (resTmps fn.results.toList)
      refine leaves_marks start_ok (by simp) _ rfl (by rw [frzRows_dfr]; exact hall) hs fun w'' q1 _ => ?_
      obtain ⟨us, r1, r2⟩ := results_run (s := { finSt fn s with dfr := [] }) (fn := fn) (τ := con.res) (y := con.fn x) q1 ((rdRet_dfr ..).trans hT)
      obtain ⟨e1, e2⟩ := q1.pure_end (M := fun _ => False)
      exact ⟨_, r1, S', us, rfl, r2, e1, e2⟩
  cases o with
  | norm s => cases e <;> first | exact ho.elim | exact fin s ho hT
  | ret s => cases e <;> first | exact ho.elim | exact fin s ho hT
  | exit id s => cases (show none = some _ from hT)
  | pan d s => cases (show none = some _ from hT)
  | bad => cases (show none = some _ from hT)
theorem holds_of_run (hm : P.follows .mixedOrders = true) (hΓ : Sound P Γ) (hE : EqSound P E.eq) (hK : KeySound P E.key) {f : FuncId} {fn : Func} {c : Code} (hf : P.funcs[f]? = some fn) (hb : fn.body = some c) {ls : List Loop}
  (hl : ∀ S w, LsOK P fn.ntmps (Gh.start S w) f Fence.wide 0 c ls)
  (con : Con) (hn : con.args.cells ≤ fn.ntmps) (h : ∀ x, con.pre x = true → (runFn P E Γ fn ls con.args con.res x).All (· = some (con.fn x))) : Holds P f con :=
 fun _ _ hbd => holds_of_runT hm hΓ hE hK hf hb (hl _ _) con hn h hbd
end Go.Dm

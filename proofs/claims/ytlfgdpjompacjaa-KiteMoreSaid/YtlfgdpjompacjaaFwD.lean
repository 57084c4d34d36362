/-
  The framework: an interpreter over typed data, and why what it says of a call is true.
-/
import Derived.Test.YtlfgdpjompacjaaFwC
set_option linter.unusedVariables false
set_option linter.unusedSimpArgs false
/-
  Functions that defer calls that may recover.
-/
namespace Go.Dm
open Go.RowKit
variable {P : Program} {N N' : Nat} {G : Gh} {S S' S2 : CS} {w w' w2 : World} {s s' s2 : St} {a a2 : Act} {ρ ρ' ρ2 : Rho} {F F' F2 : Nat → Prop} {heap heap' H' H2 : Nat → DObj} {Y : Value} {E : TCtx} {Γ : Ctx} {Fw : Fence} {r : Nat} {ops : Array Oper} {lo lo' base : Nat} {dfr : List Dfr} {vr vr' : Nat → Nat} {n : Nat} {fid : FuncId} {mps : List Pat} {e : Ty}

abbrev DCtx := FuncId → Option DApp
def DSound (P : Program) (Δ : DCtx) : Prop := ∀ f app, Δ f = some app → Callable P f ∧ DHolds P f app

/-- A frame is left: what it has deferred. -/
def leaveD (Δ : DCtx) : List Dfr → Md → St → Option St
  | [], .ret, s => some { s with dfr := [] }
  | [], .pan _ _ _, _ => none
  | .mark :: r, m, s => leaveD Δ r m s
  | .clo f ids :: r, m, s => match Δ f with
    | some app => match app ids m s.heap with
      | some wh => leaveD Δ r .ret { s with heap := putH s.heap wh }
      | none => none
    | none => none

theorem ModeOk.mono {m : Md} {u : FrameMode} (h : ModeOk P S w m u) (ex : Ext0 S w S' w') : ModeOk P S' w' m u := by
  cases m with
  | ret => exact h
  | pan T τ d => obtain ⟨u0, h1, h2⟩ := h; exact ⟨u0, h1, h2.mono ex⟩
theorem ModeOk.ne {m : Md} {u : FrameMode} (h : ModeOk P S w m u) : u ≠ .run := by
  cases m with
  | ret => rw [show u = _ from h]; simp
  | pan T τ d => obtain ⟨u0, h1, _⟩ := h; rw [h1]; simp

theorem leaves_all (hG : G.Ok P) (hG0 : G.lo = 0) {Δ : DCtx} (hΔ : DSound P Δ) {fn : Func} {K : Ending → World → Prop} : ∀ (r : List Dfr) {m : Md} {u : FrameMode} {s s' : St} {a : Act} {w : World} {ρ : Rho} {S : CS}, s.dfr = r → SR P N G s a w ρ S F → ModeOk P S w m u → leaveD Δ r m s = some s' →
    (∀ w' ρ' S', SR P N G s' { a with defers := [] } w' ρ' S' F → LeavesInM Fence.wide 0 P fn a.tmps K [] .returning w') → LeavesInM Fence.wide 0 P fn a.tmps K a.defers u w
  | [], m, u, s, s', a, w, ρ, S, hr, h, hm, hl, hK => by
    have hd := h.dfr
    rw [hr] at hd
    cases hdd : a.defers with
    | cons d ds => rw [hdd] at hd; exact hd.elim
    | nil =>
      cases m with
      | pan T τ d => cases hl
      | ret =>
        cases hl
        rw [show u = .returning from hm]
        refine hK w ρ S ?_
        have : ({ a with defers := [] } : Act) = a := by cases a; simp only at hdd; subst hdd; rfl
        rw [this]
        exact h.of_eq rfl rfl rfl hr.symm
  | .mark :: r, m, u, s, s', a, w, ρ, S, hr, h, hm, hl, hK => by
    have hd := h.dfr
    rw [hr] at hd
    cases hdd : a.defers with
    | nil => rw [hdd] at hd; exact hd.elim
    | cons d ds =>
      rw [hdd] at hd
      obtain ⟨⟨D, rfl, h2, h3, h4, h5⟩, hrest⟩ := hd
      have ht := h.take hG h2 h3 h4 (hrest.put h5)
      refine ⟨hm.ne, .inl ⟨D, _, rfl, run_takeDeferred h4, ?_⟩⟩
      have hlt := (Array.getElem?_eq_some_iff.1 h4).1
      have hsz : (w.putObj D (.deferred none)).heap.size = w.heap.size := by simp [World.putObj]
      have ex : Ext0 S w S (w.putObj D (.deferred none)) := by
        refine ⟨by omega, fun _ _ q => q, fun b o _ => ?_, fun b o es c _ q => (World.putObj_heap_other fun e => by rw [e, h4] at q; cases q).trans q, fun b o q => by rw [hsz]; exact h.bd b o q, .putObj hlt (fun _ _ _ => by simp)⟩
        by_cases hb : b = D
        · subst hb
          have h2 : (w.putObj b (.deferred none)).heap[b]? = some (.deferred none) := World.putObj_heap_same hlt
          simp [World.cell?, h2, h4]
        · exact World.cell?_of_block (a := ⟨b, o, none⟩) (World.putObj_heap_other hb)
      have hdi : ∀ (r : List Dfr) (m : Md) (s : St) (d : List Dfr), leaveD Δ r m { s with dfr := d } = leaveD Δ r m s := by
        intro r
        induction r with
        | nil => intro m s d; cases m <;> rfl
        | cons x r ih =>
          intro m s d
          cases x with
          | mark => exact ih m s d
          | clo f ids =>
            simp only [leaveD]
            cases Δ f with
            | none => rfl
            | some app =>
              simp only
              cases app ids m s.heap with
              | none => rfl
              | some wh => exact ih .ret { s with heap := putH s.heap wh } d
      exact leaves_all hG hG0 hΔ r (s := { s with dfr := r }) (a := { a with defers := ds }) rfl ht (hm.mono ex) ((hdi r m s r).trans hl) hK
  | .clo f ids :: r, m, u, s, s', a, w, ρ, S, hr, h, hm, hl, hK => by
    have hd := h.dfr
    rw [hr] at hd
    cases hdd : a.defers with
    | nil => rw [hdd] at hd; exact hd.elim
    | cons d ds =>
      rw [hdd] at hd
      obtain ⟨⟨us, rfl, hus⟩, hrest⟩ := hd
      simp only [leaveD] at hl
      split at hl
      case h_2 => cases hl
      rename_i app happ
      split at hl
      case h_2 => cases hl
      rename_i wh hwh
      obtain ⟨hcl, hdh⟩ := hΔ f app happ
      have hinv : (invoke (.fn (.func f) us.toArray) #[]).run P w = .ok (.enter f us.toArray) w := by
        have := hcl us.toArray w
        simpa [invoke] using this
      refine ⟨hm.ne, .inr ⟨fun q => (by cases q), .func f, us.toArray, f, us.toArray, rfl, hinv, fun _ _ => trivial, ?_⟩⟩
      refine (hdh N G s a w ρ S F hG hG0 h ids us m u wh hus hm hwh).mono ?_
      rintro en u' w1 ⟨⟨v, rfl⟩, hset, ρ1, S1, h1⟩
      show LeavesInM Fence.wide 0 P fn a.tmps K ds (settle u') w1
      have hd1 := h1.dfr
      have hd1 : DfrOk G.w0.heap.size w1 (putH s.heap wh) ρ1 F s.dfr a.defers := hd1
      rw [hr, hdd] at hd1
      have h2 : SR P N G { s with heap := putH s.heap wh, dfr := r } { a with defers := ds } w1 ρ1 S1 F :=
        ⟨h1.size, hd1.2, h1.env, h1.obj, h1.inj, h1.ext, h1.new, h1.same, h1.tr, h1.fb, h1.f0, h1.sub, h1.fs, h1.pins⟩
      have hdi : ∀ (r : List Dfr) (m : Md) (s : St) (d : List Dfr), leaveD Δ r m { s with dfr := d } = leaveD Δ r m s := by
        intro r
        induction r with
        | nil => intro m s d; cases m <;> rfl
        | cons x r ih =>
          intro m s d
          cases x with
          | mark => exact ih m s d
          | clo f ids =>
            simp only [leaveD]
            cases Δ f with
            | none => rfl
            | some app =>
              simp only
              cases app ids m s.heap with
              | none => rfl
              | some wh => exact ih .ret { s with heap := putH s.heap wh } d
      exact leaves_all hG hG0 hΔ r (m := .ret) (s := { s with heap := putH s.heap wh, dfr := r }) (a := { a with defers := ds }) rfl h2 hset ((hdi r .ret { s with heap := putH s.heap wh } r).trans hl) hK

def retD (P : Program) (Δ : DCtx) (fn : Func) (τ : Ty) (m : Md) (s : St) : Option τ.den :=
  match leaveD Δ s.dfr m s with
  | some s' => rdRet P fn.results.toList τ (finSt fn s')
  | none => none

def outRetD (P : Program) (Δ : DCtx) (fn : Func) (τ : Ty) : Out → Tree (Option τ.den)
  | .ret s | .norm s => .leaf (retD P Δ fn τ .ret s)
  | .pan (.ifc T σ d) s => .leaf (retD P Δ fn τ (.pan T σ d) s)
  | _ => .leaf none

/-- A function's run over data, with what it defers. -/
def runFnD (P : Program) (E : TCtx) (Γ : Ctx) (Δ : DCtx) (fn : Func) (ls : List Loop) (τa τr : Ty) (x : τa.den) : Tree (Option τr.den) :=
  match fn.body with
  | some c => execK P E Γ 0 fn.ntmps .any c ls (initSt τa x) (outRetD P Δ fn τr)
  | none => .leaf none

/-- **A function that defers does what its run over data comes to.** -/
theorem holds_of_runD (hm : P.follows .mixedOrders = true) (hΓ : Sound P Γ) {Δ : DCtx} (hΔ : DSound P Δ) (hE : EqSound P E.eq) (hK : KeySound P E.key) {f : FuncId} {fn : Func} {c : Code} (hf : P.funcs[f]? = some fn) (hb : fn.body = some c) {ls : List Loop}
    (hl : ∀ S w, LsOK P fn.ntmps (Gh.start S w) f Fence.wide 0 c ls)
    (con : Con) (hn : con.args.cells ≤ fn.ntmps) (h : ∀ x, con.pre x = true → (runFnD P E Γ Δ fn ls con.args con.res x).All (· = some (con.fn x))) : Holds P f con := by
  intro S w hbd x vs hp hr
  have hx := h x hp
  unfold runFnD at hx
  rw [hb] at hx
  refine (callsIn_wide (n := 0)).1 (callsIn_of_wpB hf hb trivial ?_)
  have hi := init_SR (N := fn.ntmps) hbd hr (by rw [hr.len]; exact hn)
  have hEnv : Env P E Γ (Gh.start S w) Fence.wide := ⟨hm, hΓ, hE, hK, start_ok, .wide, fun _ => rfl⟩
  refine wpB_mono (exec_sound (G := Gh.start S w) (K := outRetD P Δ fn con.res) (ch := Tree.any) (T := fun t : Tree (Option con.res.den) => t.All (· = some (con.fn x))) hEnv (fun a b q => q) ⟨(fun q => by cases (show none = some _ from q)), (fun s' q => by cases (show none = some _ from q))⟩ hx (hl S w) ⟨_, _, _, hi⟩) ?_
  rintro e a' w' ⟨o, ho, hT⟩
  have fin : ∀ (s : St) (m : Md) (u : FrameMode) (ρ : Rho) (S' : CS) (F : Nat → Prop), SR P fn.ntmps (Gh.start S w) s a' w' ρ S' F → ModeOk P S' w' m u → retD P Δ fn con.res m s = some (con.fn x) →
      LeavesInM Fence.wide 0 P fn a'.tmps (fun e w' => ∃ S' rs, e = .returned (pack rs) ∧ R P con.res S' w' (con.fn x) rs ∧ Ext S w S' w' ∧ Below w.heap.size w w') a'.defers u w' := by
    intro s m u ρ S' F hs hmode hret
    unfold retD at hret
    split at hret
    case h_2 => cases hret
    rename_i s1 hl1
    refine leaves_all start_ok rfl hΔ _ rfl hs hmode hl1 fun w'' ρ' S'' q1 => ?_
    obtain ⟨ρ2, S2, F2, q2⟩ := SX.frzRows start_ok (resTmps fn.results.toList) ⟨ρ', S'', F, q1⟩
    obtain ⟨us, r1, r2⟩ := results_run (fn := fn) (τ := con.res) (y := con.fn x) q2 hret
    obtain ⟨e1, e2⟩ := q2.pure_end (M := fun _ => False)
    exact ⟨_, r1, S2, us, rfl, r2, e1, e2⟩
  cases o with
  | norm s => cases e <;> first | exact ho.elim | exact (let ⟨ρ, S', F, q⟩ := ho; fin s .ret .returning ρ S' F q rfl hT)
  | ret s => cases e <;> first | exact ho.elim | exact (let ⟨ρ, S', F, q⟩ := ho; fin s .ret .returning ρ S' F q rfl hT)
  | exit id s => cases (show none = some _ from hT)
  | bad => cases (show none = some _ from hT)
  | pan d s =>
    cases e <;> try exact ho.elim
    cases d with
    | ifc T τ d =>
      obtain ⟨u, ρ, S', F, hch, q, u0, hu, hR⟩ := ho
      subst hch hu
      exact fin s (.pan T τ d) _ ρ S' F q ⟨u0, rfl, hR⟩ hT
    | _ => cases (show none = some _ from hT)

end Go.Dm

/-
  A function that returns a row that is new.
-/
namespace Go.Dm
open Go.RowKit
variable {P : Program} {N N' : Nat} {G : Gh} {S S' S2 : CS} {w w' w2 : World} {s s' s2 : St} {a a2 : Act} {ρ ρ' ρ2 : Rho} {F F' F2 : Nat → Prop} {heap heap' H' H2 : Nat → DObj} {Y : Value} {E : TCtx} {Γ : Ctx} {Fw : Fence} {r : Nat} {ops : Array Oper} {lo lo' base : Nat} {dfr : List Dfr} {vr vr' : Nat → Nat} {n : Nat} {fid : FuncId} {mps : List Pat} {e : Ty}

/-- A row: its element's type number, its element's type, its elements. -/
structure FR where
  T : TypeId
  e : Ty
  s : Sl e.den

def outF (t : Nat) : Out → Tree (Option FR)
  | .ret s | .norm s => match allMark s.dfr, s.env t with
    | true, .v (.own id v e sl) => match s.heap id with
      | .chain v' T _ _ => match Nat.beq v v' && e.plain && e.flat && Nat.blt 0 e.cells with
        | true => .leaf (some ⟨T, e, sl⟩)
        | false => .leaf none
      | _ => .leaf none
    | _, _ => .leaf none
  | _ => .leaf none

def runF (P : Program) (E : TCtx) (Γ : Ctx) (fn : Func) (ls : List Loop) (t : Nat) (τa : Ty) (x : τa.den) : Tree (Option FR) :=
  match fn.body with
  | some c => execK P E Γ 0 fn.ntmps .any c ls (initSt τa x) (outF t)
  | none => .leaf none

def rowOR (id0 : Nat) : Option FR → Tree OR
  | some ⟨T, e, s⟩ => .br (Nat.blt 0 s.n) (.leaf (.ok ⟨some (.v (.row id0 0)), [(id0, .row 0 T e s)], [id0], false, none⟩)) (.leaf .bad)
  | none => .leaf .bad

/-- What the callers know: a row that they may write. -/
def fapp (n : Nat) (τa : Ty) (run : τa.den → Tree (Option FR)) (args : List Slot) (heap : Nat → DObj) (_ : Tr) (id0 : Nat) : Tree OR :=
  match Nat.ble args.length n, ofSlots τa args, heap id0 with
  | true, some x, .none => match (run x).sure with
    | some fr => rowOR id0 (some fr)
    | none => .leaf .bad
  | _, _, _ => .leaf .bad

theorem init_SRl {τ : Ty} {x : τ.den} {vs : List Value} {l : Nat} (hb : Bd S w) (hr : R P τ S w x vs) (hn : vs.length ≤ N) :
    SR P N (Gh.inner (fun _ => False) S w l 0 fun _ => none) (initSt τ x) (actOf N vs) w (fun _ => none) S (fun _ => False) := by
  refine ⟨actOf_size hn, trivial, fun t => ?_, fun id => trivial, fun i j b hi => hi.elim, .refl hb, fun _ _ q => .inl q, .refl _ _, inner_free _ _ _, fun _ q => q.elim, fun _ _ q => q, fun _ q => q, fun _ _ _ _ => trivial, fun _ _ q => by cases q⟩
  rw [actOf_get]
  exact argSlots_RS hr t

theorem fapp_holds (hm : P.follows .mixedOrders = true) (hΓ : Sound P Γ) (hE : EqSound P E.eq) (hK : KeySound P E.key) {f : FuncId} {fn : Func} {c : Code} (hf : P.funcs[f]? = some fn) (hb : fn.body = some c) {ls : List Loop}
    {t : Nat} (hres : fn.results = #[.tmp t]) {τa : Ty} (hl : ∀ G' : Gh, G'.lo = 0 → G'.Free → G'.Ok P → LsOK P fn.ntmps G' f Fence.wide 0 c ls) :
    GHolds P f (fapp fn.ntmps τa (runF P E Γ fn ls t τa)) := by
  intro N G s a w ρ S F hG h args us id0 hlen hargs hlo hall
  unfold fapp at hall ⊢
  split at hall
  case h_2 => exact (hall .bad rfl rfl).elim
  rename_i x hn hx hno
  split at hall
  case h_2 => exact (hall .bad rfl rfl).elim
  rename_i fr hfr
  obtain ⟨T, e, sl⟩ := fr
  have hpos : Nat.blt 0 sl.n = true := by
    cases hb : Nat.blt 0 sl.n with
    | true => rfl
    | false => exact (hall .bad (by show (Tree.br (Nat.blt 0 sl.n) _ _).Has _; rw [hb]; rfl) rfl).elim
  have hR := ofSlots_R hlen hargs hx
  have hus : us.length ≤ fn.ntmps := by rw [← hlen]; exact Nat.le_of_ble_eq_true hn
  have h0 := init_SRl (N := fn.ntmps) (l := G.l) h.bd hR hus
  have hGc : (Gh.inner (fun _ => False) S w G.l 0 fun _ => none).Ok P := inner_ok fun _ _ q => by cases q
  have hEnv : Env P E Γ (Gh.inner (fun _ => False) S w G.l 0 fun _ => none) Fence.wide := ⟨hm, hΓ, hE, hK, hGc, .wide, fun _ => rfl⟩
  have hx := Tree.sure_all hfr
  unfold runF at hx
  rw [hb] at hx
  refine (callsIn_wide (n := 0)).1 (callsIn_of_wpB hf hb trivial ?_)
  refine wpB_mono (exec_sound (G := Gh.inner (fun _ => False) S w G.l 0 fun _ => none) (K := outF t) (ch := Tree.any) (T := fun tt : Tree (Option FR) => tt.All (fun z => z = some (⟨T, e, sl⟩ : FR))) hEnv (fun a b q => q) ⟨(fun q => by cases (show none = some _ from q)), (fun s' q => by cases (show none = some _ from q))⟩ hx (hl _ rfl inner_free hGc) ⟨_, _, _, h0⟩) ?_
  rintro en a' w' ⟨o, ho, hT⟩
  have fin : ∀ s', SX P fn.ntmps (Gh.inner (fun _ => False) S w G.l 0 fun _ => none) s' a' w' → (outF t (.ret s')).All (· = some ⟨T, e, sl⟩) →
      LeavesInM Fence.wide 0 P fn a'.tmps (fun en w' => ∃ r, (rowOR id0 (some ⟨T, e, sl⟩)).Has r ∧ CallPost P N G s a r en w') a'.defers .returning w' := by
    rintro s' ⟨ρ', S', F', hs⟩ hT
    simp only [outF] at hT
    split at hT
    case h_2 => cases (show none = some _ from hT)
    rename_i id v e' sl' hmk hse
    split at hT
    case h_2 => cases (show none = some _ from hT)
    rename_i v' T' k n hse2
    split at hT
    case h_2 => cases (show none = some _ from hT)
    rename_i hc
    have hT : some (⟨T', e', sl'⟩ : FR) = some ⟨T, e, sl⟩ := hT
    cases hT
    simp only [Bool.and_eq_true, Nat.blt_eq] at hc
    obtain ⟨⟨⟨c1, c2⟩, c3⟩, c4⟩ := hc
    cases Nat.eq_of_beq_eq_true c1
    refine leaves_marks hGc (by simp) _ rfl hmk hs fun w'' q1 _ => ?_
    have hrc := q1.env t
    have hse : ({ s' with dfr := [] } : St).env t = .v (.own id v e sl) := hse
    have hse2 : ({ s' with dfr := [] } : St).heap id = .chain v T k n := hse2
    rw [hse] at hrc
    obtain ⟨r1, _, cur, T0, k0, n0, r2, _, r4⟩ := hrc
    rw [hse2] at r2
    cases r2
    obtain ⟨r5, r6, r7⟩ := r4 rfl
    subst r5 r6
    rw [Nat.blt_eq] at hpos
    rcases r7 with ⟨_, r7, _⟩ | ⟨b, cap, arr, g1, g2, g3, g4, g5, g6⟩
    · omega
    have halw := (q1.blk_lt (id := id) (by rw [hse2]; trivial) g1).2.1
    have hbw : w.heap.size ≤ b := halw.1.elim (fun x => x) (fun x => x.elim)
    have hval : a'.tmps.getD t undef = .slice (some ⟨b, 0, none⟩) sl.n cap := g2
    have hcells : ∀ i, i < sl.n → ∀ j u, (encs e (sl.g i))[j]? = some u → arr[i * e.cells + j]? = some u := fun i hi j u hu => by
      rcases r1 with ⟨r0, _⟩ | ⟨b', o', cap', m1, m2, m3, m4⟩
      · omega
      · have m1 := (List.cons.inj m1).1
        rw [show ({ a' with defers := [] } : Act).tmps.getD t undef = _ from hval] at m1
        cases m1
        obtain ⟨us', m5, m6, m7⟩ := m4 i hi
        rw [(R.plain c2).1 m5] at m7
        obtain ⟨_, m8⟩ := m7 j u hu
        rw [cell_of_row w'' b _ arr T _ g5] at m8
        rw [← m8]; congr 1; omega
    have hS2 : SR P fn.ntmps (Gh.inner (fun _ => False) S w G.l 0 fun _ => none) ⟨fun _ => .top, fun i => bif Nat.beq i id0 then .row 0 T e sl else .none, .none, 0, []⟩ { a' with defers := [] } w''
        (fun i => bif Nat.beq i id0 then some b else none) (fun b' o => S' b' o ∧ b' ≠ b) (fun _ => False) := by
      refine ⟨q1.size, trivial, fun _ => trivial, fun i => ?_, fun i j b' hi hj h1 h2 => ?_, ⟨q1.ext.size, fun b' o q => ⟨q1.ext.sub b' o q, fun e => by have := h.bd b' o q; omega⟩, q1.ext.same, q1.ext.maps, fun b' o q => q1.ext.bd b' o q.1, q1.ext.pl⟩, fun b' o q => q1.new b' o q.1,
        q1.same.mono fun b' q => ⟨q.1, q.2.1, q.2.2⟩, inner_free _ _ _, fun _ q => q.elim, fun _ _ q => q, fun _ q => q, fun _ _ _ _ => trivial, fun _ _ q => by cases q⟩
      · by_cases hi : i = id0
        · subst hi
          simp only [Nat.beq_refl, cond_true]
          refine ⟨⟨c3, c4⟩, .inr ⟨b, arr, by simp, ⟨.inl hbw, fun q => q⟩, g5, by rw [g6]; exact Nat.mul_le_mul_right _ g3, fun i hi => ⟨encs e (sl.g i), (R.plain c2).2 rfl, encs_len _ _ c2, hcells i hi⟩, fun o q => q.2 rfl⟩⟩
        · simp only [beq_ne hi, cond_false]; trivial
      · by_cases hi' : i = id0
        · by_cases hj' : j = id0
          · rw [hi', hj']
          · simp only [beq_ne hj', cond_false] at hj; exact hj.elim
        · simp only [beq_ne hi', cond_false] at hi; exact hi.elim
    have hback := h.back hG (D := fun i => Nat.beq i id0) hS2 (fun b hb => hb.elim) (fun id hn => by
        cases hb : Nat.beq id id0 with
        | true => rfl
        | false => simp only [hb, cond_false] at hn; exact absurd rfl hn)
      (fun id hid => by rw [Nat.eq_of_beq_eq_true hid, hno]; trivial) (fun id b hid hb => by have := hG.pin id b hb; have := Nat.eq_of_beq_eq_true hid; omega)
    have hr0 : (results fn a'.tmps).run P w'' = .ok (a'.tmps.getD t undef) w'' := by
      simp [results, hres]
    refine ⟨_, hr0, .ok ⟨some (.v (.row id0 0)), [(id0, .row 0 T e sl)], [id0], false, none⟩, ?_, _, _, _, _, rfl, hback.of_eq rfl ?_ rfl rfl, ?_⟩
    · show (Tree.br (Nat.blt 0 sl.n) _ _).Has _
      rw [show Nat.blt 0 sl.n = true from by rw [Nat.blt_eq]; exact hpos]
      rfl
    · funext i
      show putH s.heap [(id0, .row 0 T e sl)] i = over (fun i => Nat.beq i id0) (fun i => bif Nat.beq i id0 then .row 0 T e sl else .none) s.heap i
      by_cases hi : i = id0
      · subst hi; simp [putH, setHeap, over]
      · simp [putH, setHeap, over, beq_ne hi]
    · show RC P G.Y (fun b' o => S' b' o ∧ b' ≠ b) w'' (putH s.heap [(id0, .row 0 T e sl)]) (overR (fun i => Nat.beq i id0) (fun i => bif Nat.beq i id0 then some b else none) ρ) (.row id0 0) (a'.tmps.getD t undef)
      have hh : putH s.heap [(id0, .row 0 T e sl)] id0 = .row 0 T e sl := by simp [putH, setHeap]
      refine ⟨by rw [hh]; simp, ⟨_, _, _, hval⟩, fun cu1 T1 e1 s1 hd => ?_⟩
      rw [hh] at hd
      cases hd
      exact ⟨Nat.le_refl _, fun _ => .inr ⟨b, cap, by simp [overR], hval, g3, g4, (Array.getElem?_eq_some_iff.1 g5).1, fun arr1 T1 f1 ha => by rw [g5] at ha; cases ha; exact g6⟩⟩
  cases o with
  | norm s => cases en <;> first | exact ho.elim | exact fin s ho hT
  | ret s => cases en <;> first | exact ho.elim | exact fin s ho hT
  | exit id s => cases (show none = some _ from hT)
  | pan d s => cases (show none = some _ from hT)
  | bad => cases (show none = some _ from hT)

end Go.Dm

/- Code with one loop. -/
namespace Go.Dm
open Go.RowKit
variable {P : Program} {N : Nat} {G : Gh} {Fw : Fence} {r : Nat} {fid : FuncId}

/-- The body of the first loop. -/
def bodyOf : Code → Option Code
  | .seq a b => match bodyOf a with
    | some c => some c
    | none => bodyOf b
  | .cond _ a b => match bodyOf a with
    | some c => some c
    | none => bodyOf b
  | .block _ b => bodyOf b
  | .scope b => bodyOf b
  | .loop b => some b
  | _ => none

theorem LsOK_nil : ∀ {c : Code}, LsOK P N G fid Fw r c []
  | .seq a b => ⟨by simpa using LsOK_nil (c := a), by simpa using LsOK_nil (c := b)⟩
  | .cond _ a b => ⟨by simpa using LsOK_nil (c := a), by simpa using LsOK_nil (c := b)⟩
  | .block _ b => LsOK_nil (c := b)
  | .scope b => LsOK_nil (c := b)
  | .loop b => trivial
  | .rangeFunc _ _ _ _ => trivial
  | .skip => trivial
  | .region _ _ _ => trivial
  | .exit _ => trivial
  | .ret => trivial
  | .label _ => trivial
  | .goto _ => trivial
  | .refuse _ => trivial

theorem bodyOf_none : ∀ {c : Code}, Code.loops c = 0 → bodyOf c = none
  | .seq a b, h => by
    have h : Code.loops a + Code.loops b = 0 := h
    simp only [bodyOf, bodyOf_none (c := a) (by omega), bodyOf_none (c := b) (by omega)]
  | .cond _ a b, h => by
    have h : Code.loops a + Code.loops b = 0 := h
    simp only [bodyOf, bodyOf_none (c := a) (by omega), bodyOf_none (c := b) (by omega)]
  | .block _ b, h => bodyOf_none (c := b) h
  | .scope b, h => bodyOf_none (c := b) h
  | .loop b, h => by cases h
  | .rangeFunc _ _ _ _, h => by cases h
  | .skip, _ => rfl
  | .region _ _ _, _ => rfl
  | .exit _, _ => rfl
  | .ret, _ => rfl
  | .label _, _ => rfl
  | .goto _, _ => rfl
  | .refuse _, _ => rfl

theorem LsOK_one {b : Code} {f : St → Tree Out} (hl : LoopOK P N G fid Fw r (.loop b) f) : ∀ {c : Code}, Code.loops c = 1 → bodyOf c = some b → LsOK P N G fid Fw r c [.known f]
  | .seq x y, h, hb => by
    have h : Code.loops x + Code.loops y = 1 := h
    rcases Nat.eq_zero_or_pos (Code.loops x) with h0 | h0
    · refine ⟨?_, ?_⟩
      · rw [h0]; exact LsOK_nil
      · rw [h0]
        refine LsOK_one hl (c := y) (by omega) ?_
        simpa [bodyOf, bodyOf_none h0] using hb
    · have hx : Code.loops x = 1 := by omega
      refine ⟨?_, ?_⟩
      · rw [hx]
        refine LsOK_one hl (c := x) hx ?_
        cases hq : bodyOf x with
        | some c => simpa [bodyOf, hq] using hb
        | none => simp [bodyOf, hq, bodyOf_none (c := y) (by omega)] at hb
      · rw [hx]; exact LsOK_nil
  | .cond _ x y, h, hb => by
    have h : Code.loops x + Code.loops y = 1 := h
    rcases Nat.eq_zero_or_pos (Code.loops x) with h0 | h0
    · refine ⟨?_, ?_⟩
      · rw [h0]; exact LsOK_nil
      · rw [h0]
        refine LsOK_one hl (c := y) (by omega) ?_
        simpa [bodyOf, bodyOf_none h0] using hb
    · have hx : Code.loops x = 1 := by omega
      refine ⟨?_, ?_⟩
      · rw [hx]
        refine LsOK_one hl (c := x) hx ?_
        cases hq : bodyOf x with
        | some c => simpa [bodyOf, hq] using hb
        | none => simp [bodyOf, hq, bodyOf_none (c := y) (by omega)] at hb
      · rw [hx]; exact LsOK_nil
  | .block _ c, h, hb => LsOK_one hl (c := c) h hb
  | .scope c, h, hb => LsOK_one hl (c := c) h hb
  | .loop c, _, hb => by
    have hb : some c = some b := hb
    cases hb
    exact hl
  | .rangeFunc _ _ _ _, _, hb => by cases hb
  | .skip, h, _ => by cases h
  | .region _ _ _, h, _ => by cases h
  | .exit _, h, _ => by cases h
  | .ret, h, _ => by cases h
  | .label _, h, _ => by cases h
  | .goto _, h, _ => by cases h
  | .refuse _, h, _ => by cases h

end Go.Dm

/-
  From the statement's readings to data: what an argument reads as is data of its type, and in range.
-/
namespace Go.Dm
open Go.ChangeShapes Go.WideShapes Go.ChangeAt Go.RowKit

/-- In range: what the statement's readings tell of data. -/
def Ty.wf : (τ : Ty) → τ.den → Bool
  | .int k, n => (Lit.int k n).wf
  | .bool, _ => true
  | .sl e, s => decide (s.n ≤ maxLen) && (List.range s.n).all fun i => e.wf (s.g i)
  | .ptr e, x => e.wf x
  | .agg e, x => e.wf x
  | .nil, _ => true
  | .cons h t, x => h.wf (show h.den × t.den from x).1 && t.wf (show h.den × t.den from x).2
  | .fn _ _, _ => true
  | .seq _, _ => true
  | .map _ _, _ => true

def flatFields (P : Program) (rec : TypeId → Option (List Ty)) : Nat → List Field → Option (List Ty)
  | _, [] => some []
  | off, f :: fs => match rec f.type with
    | some l => if f.offset = off ∧ P.cellsOf f.type = l.length then (flatFields P rec (off + l.length) fs).map (l ++ ·) else none
    | none => none

/-- The cells of a type, each by its own type. -/
def flatTy (P : Program) : Nat → TypeId → Option (List Ty)
  | 0, _ => none
  | n + 1, t => match P.underlying t with
    | some (.int k) => some [.int k]
    | some .bool => some [.bool]
    | some (.slice e) => match flatTy P n e with
      | some (l :: ls) => some [.sl (listTy (l :: ls))]
      | _ => none
    | some (.struct fs) => match flatFields P (flatTy P n) 0 fs.toList with
      | some l => if P.cellsOf t = l.length then some l else none
      | none => none
    | some (.array m e) => match flatTy P n e with
      | some l => if P.cellsOf e = l.length ∧ P.cellsOf t = m * l.length then some (List.replicate m l).flatten else none
      | none => none
    | _ => none

/-- A value's type: all cells of a struct or an array lie in one value. -/
def valTy (P : Program) (n : Nat) (t : TypeId) : Option Ty :=
  match flatTy P n t with
  | some l => match P.underlying t with
    | some (.struct _) | some (.array _ _) => some (.agg (listTy l))
    | _ => match l with
      | [τ] => some τ
      | _ => none
  | none => none

def argsTy (P : Program) (n : Nat) : List TypeId → Option Ty
  | [] => some .nil
  | t :: ts => match valTy P n t, argsTy P n ts with
    | some h, some l => some (.cons h l)
    | _, _ => none

variable {H : Type} {enc : TypeId × Value → H} {P : Program} {w : World}

abbrev old (w : World) : CS := fun b _ => b < w.heap.size

theorem old_bd : Bd (old w) w := fun _ _ h => h

theorem listTy_cells : ∀ l : List Ty, (listTy l).cells = l.length
  | [] => rfl
  | _ :: l => by simp [listTy, Ty.cells, listTy_cells l]

/-- Data of these cells. -/
def Reads (P : Program) (w : World) (l : List Ty) (cs : List Value) : Prop := ∃ y : (listTy l).den, R P (listTy l) (old w) w y cs ∧ (listTy l).wf y = true

theorem Reads.nil : Reads P w [] [] := ⟨(), rfl, rfl⟩

theorem Reads.append : ∀ {l l' : List Ty} {cs cs' : List Value}, Reads P w l cs → Reads P w l' cs' → Reads P w (l ++ l') (cs ++ cs')
  | [], _, cs, _, h, h' => by
    obtain ⟨y, h, _⟩ := h
    rw [show cs = [] from h]; exact h'
  | τ :: l, l', cs, cs', h, h' => by
    obtain ⟨y, ⟨u, ws, h1, h2, h3⟩, hw⟩ := h
    have hw : (Ty.wf τ y.1 && Ty.wf (listTy l) y.2) = true := hw
    rw [Bool.and_eq_true] at hw
    obtain ⟨z, h4, h5⟩ := Reads.append (l := l) (cs := ws) ⟨y.2, h3, hw.2⟩ h'
    exact ⟨(y.1, z), ⟨u, ws ++ cs', by rw [h1]; rfl, h2, h4⟩, by show (Ty.wf τ y.1 && Ty.wf (listTy (l ++ l')) z) = true; rw [hw.1, h5]; rfl⟩

theorem Reads.one {τ : Ty} {x : τ.den} {v : Value} (h : R P τ (old w) w x [v]) (hw : τ.wf x = true) : Reads P w [τ] [v] :=
  ⟨(x, ()), ⟨v, [], rfl, h, rfl⟩, by show (Ty.wf τ x && true) = true; rw [hw]; rfl⟩

theorem Reads.len {l : List Ty} {cs : List Value} (h : Reads P w l cs) : cs.length = l.length := by
  obtain ⟨y, h, _⟩ := h
  rw [R.len h, listTy_cells]

theorem cells?_get {base n : Nat} {a : Addr} {cs : List Value} (h : w.cells? base a n = some cs) : cs.length = n ∧ ∀ (i : Nat) (v : Value), cs[i]? = some v → w.cell? (a.add i) = some v := by
  unfold World.cells? at h
  split at h
  · refine ⟨by simpa using mapM_some_length h, fun i v hv => ?_⟩
    have hl : i < n := by
      have h1 := mapM_some_length h
      have h2 := (List.getElem?_eq_some_iff.1 hv).1
      simp at h1; omega
    have := mapM_some_get h i i (by simp [hl])
    rw [this, hv]
  · cases h

theorem cell_lt {a : Addr} {v : Value} (h : w.cell? a = some v) : a.block < w.heap.size := by
  unfold World.cell? at h
  cases hb : w.heap[a.block]? with
  | none => simp [hb] at h
  | some o => exact (Array.getElem?_eq_some_iff.1 hb).1

theorem fields_read {base : Nat} {sp : Nat → Bool} {hd : Bool} {n : Nat} {rec : TypeId → Option (List Ty)} {cs : List Value} :
    ∀ (fs : List Field) (off : Nat) (l : List Ty), flatFields P rec off fs = some l → off ≤ cs.length → (off + l.length = cs.length) →
      (∀ f ∈ fs, ∃ x, DataW.trod enc P w base sp hd n f.type ((cs.drop f.offset).take (P.cellsOf f.type)) = some x) →
      (∀ t l cs x, rec t = some l → DataW.trod enc P w base sp hd n t cs = some x → Reads P w l cs) → Reads P w l (cs.drop off)
  | [], off, l, h, hof, hlen, _, _ => by
    simp only [flatFields, Option.some.injEq] at h
    subst h
    rw [List.drop_eq_nil_of_le (by simp at hlen; omega)]
    exact .nil
  | f :: fs, off, l, h, hof, hlen, hx, ih => by
    unfold flatFields at h
    split at h
    · rename_i l0 hl0
      split at h
      · rename_i hc
        obtain ⟨ho, hn⟩ := hc
        rw [Option.map_eq_some_iff] at h
        obtain ⟨l1, h1, rfl⟩ := h
        obtain ⟨x, hx0⟩ := hx f (by simp)
        rw [ho, hn] at hx0
        have a := ih _ _ _ _ hl0 hx0
        rw [List.length_append] at hlen
        have b := fields_read fs (off + l0.length) l1 h1 (by omega) (by omega) (fun f hf => hx f (by simp [hf])) ih
        have := a.append b
        rw [← List.drop_drop, List.take_append_drop] at this
        exact this
      · cases h
    · cases h

theorem array_read {base : Nat} {sp : Nat → Bool} {hd : Bool} {n : Nat} {e : TypeId} {l : List Ty} (hc : P.cellsOf e = l.length)
    (ih : ∀ cs x, DataW.trod enc P w base sp hd n e cs = some x → Reads P w l cs) :
    ∀ (m : Nat) (cs : List Value), cs.length = m * l.length → (∀ i, i < m → ∃ x, DataW.trod enc P w base sp hd n e ((cs.drop (i * P.cellsOf e)).take (P.cellsOf e)) = some x) →
      Reads P w (List.replicate m l).flatten cs
  | 0, cs, h, _ => by
    have : cs = [] := List.eq_nil_of_length_eq_zero (by simpa using h)
    subst this; exact .nil
  | m + 1, cs, h, hx => by
    obtain ⟨x, hx0⟩ := hx 0 (by omega)
    simp only [Nat.zero_mul, List.drop_zero] at hx0
    have a := ih _ _ hx0
    have b := array_read hc ih m (cs.drop (P.cellsOf e)) (by rw [List.length_drop, h, hc, Nat.add_mul]; omega) (fun i hi => by
      obtain ⟨x, hx1⟩ := hx (i + 1) (by omega)
      refine ⟨x, ?_⟩
      rw [List.drop_drop, ← hx1, Nat.add_mul, Nat.one_mul, Nat.add_comm])
    have := a.append b
    rw [List.take_append_drop] at this
    rw [List.replicate_succ, List.flatten_cons]
    exact this

/-- THE READING OF CELLS. -/
theorem cells_read {base : Nat} {sp : Nat → Bool} {hd : Bool} : ∀ (m n : Nat) (t : TypeId) (l : List Ty) (cs : List Value) (x : DataW H × List MemPlace), flatTy P m t = some l →
    DataW.trod enc P w base sp hd n t cs = some x → Reads P w l cs
  | 0, _, _, _, _, _, h, _ => by cases h
  | m + 1, n, t, l, cs, x, h, hx => by
    unfold flatTy at h
    split at h
    · rename_i k hu
      cases h
      obtain ⟨i, rfl, _, hw⟩ := DataW.trod_int hu hx
      exact Reads.one (τ := .int k) (x := i) rfl hw
    · rename_i hu
      cases h
      obtain ⟨b, rfl, _⟩ := DataW.trod_bool hu hx
      exact Reads.one (τ := .bool) (x := b) rfl rfl
    · rename_i e hu
      split at h
      · rename_i l0 ls hl
        cases h
        rcases DataW.trod_slice hu hx with ⟨rfl, _⟩ | ⟨a, len, cap, elems, rest, n', _, rfl, _, _, hlc, hcm, hel, hrd, _⟩
        · exact Reads.one (τ := .sl (listTy (l0 :: ls))) (x := ⟨0, fun _ => Ty.dflt _⟩) (.inl ⟨rfl, _, _, rfl⟩) rfl
        · have each : ∀ i, i < len → ∃ us, w.cells? base (a.add (i * P.cellsOf e)) (P.cellsOf e) = some us ∧ Reads P w (l0 :: ls) us := fun i hi => by
            have := hrd i hi
            rw [List.getElem?_eq_getElem (by omega)] at this
            rw [Option.bind_eq_some_iff] at this
            obtain ⟨us, h1, h2⟩ := this
            exact ⟨us, h1, cells_read m n' e _ us _ hl h2⟩
          have : ∀ i, ∃ y : (listTy (l0 :: ls)).den, i < len → ∃ us, w.cells? base (a.add (i * P.cellsOf e)) (P.cellsOf e) = some us ∧ R P (listTy (l0 :: ls)) (old w) w y us ∧ (listTy (l0 :: ls)).wf y = true := fun i => by
            by_cases hi : i < len
            · obtain ⟨us, h1, y, h2, h3⟩ := each i hi
              exact ⟨y, fun _ => ⟨us, h1, h2, h3⟩⟩
            · exact ⟨Ty.dflt _, fun h => absurd h hi⟩
          let g := fun i => Classical.choose (this i)
          have hg := fun i => Classical.choose_spec (this i)
          refine Reads.one (τ := .sl (listTy (l0 :: ls))) (x := ⟨len, g⟩) ?_ ?_
          · by_cases h0 : len = 0
            · subst h0; exact .inl ⟨rfl, _, _, rfl⟩
            · have hcc : P.cellsOf e = (listTy (l0 :: ls)).cells := by
                obtain ⟨us, h1, h2, _⟩ := hg 0 (by omega)
                rw [← (cells?_get h1).1, R.len h2]
              have hs : a.spot = none := by
                obtain ⟨us, h1, h2, _⟩ := hg 0 (by omega)
                have hl' := R.len h2
                rw [listTy_cells] at hl'
                cases us with
                | nil => simp at hl'
                | cons u us =>
                  have := (cells?_get h1).2 0 u rfl
                  simp only [Nat.zero_mul, Addr.add, if_true] at this
                  exact World.cell?_spot this
              obtain ⟨b, o, spot⟩ := a
              simp only at hs
              subst hs
              refine .inr ⟨b, o, cap, rfl, hlc, hcm, fun i hi => ?_⟩
              obtain ⟨us, h1, h2, _⟩ := hg i hi
              refine ⟨us, h2, R.len h2, fun j v hv => ?_⟩
              have := (cells?_get h1).2 j v hv
              rw [Addr.add_lit, Addr.add_lit, hcc] at this
              exact ⟨cell_lt this, this⟩
          · show (decide (len ≤ maxLen) && (List.range len).all fun i => (listTy (l0 :: ls)).wf (g i)) = true
            rw [Bool.and_eq_true]
            refine ⟨decide_eq_true (by omega), ?_⟩
            rw [List.all_eq_true]
            intro i hi
            exact (hg i (by simpa using hi)).choose_spec.2.2
      · cases h
    · rename_i fs hu
      split at h
      · rename_i l0 hl
        split at h
        · rename_i hc
          cases h
          obtain ⟨xs, n', _, _, hcs, hlen, hrd⟩ := DataW.trod_struct hu hx
          have := fields_read (enc := enc) (P := P) (w := w) (base := base) (sp := sp) (hd := hd) (n := n') (cs := cs) fs.toList 0 l hl (by omega) (by omega) (fun f hf => by
            obtain ⟨i, hi, rfl⟩ := List.getElem_of_mem hf
            have hi' : i < fs.size := by simpa using hi
            have := hrd i fs[i] (by simp [hi'])
            refine ⟨xs[i]'(by omega), ?_⟩
            rw [List.getElem?_eq_getElem (by omega)] at this
            simpa using this) (fun t l cs x h1 h2 => cells_read m n' t l cs x h1 h2)
          simpa using this
        · cases h
      · cases h
    · rename_i k e hu
      split at h
      · rename_i l0 hl
        split at h
        · rename_i hc
          cases h
          obtain ⟨xs, n', _, _, hcs, hlen, hrd⟩ := DataW.trod_array hu hx
          refine array_read (enc := enc) (base := base) (sp := sp) (hd := hd) (n := n') hc.1 (fun cs x h2 => cells_read m n' e l0 cs x hl h2) k cs (by rw [hcs, hc.2]) (fun i hi => ?_)
          have := hrd i hi
          rw [List.getElem?_eq_getElem (by omega)] at this
          exact ⟨_, this⟩
        · cases h
      · cases h
    · cases h


theorem val_read {base base' m : Nat} {sp : Nat → Bool} {hd : Bool} {t : TypeId} {τ : Ty} {v : Value} {d : DataW H} {p : List MemPlace} (h : valTy P m t = some τ)
    (hv : Value.okWide P w .any base t v) (hx : DataW.Trod enc P w base' sp hd t v d p) : ∃ x : τ.den, R P τ (old w) w x [v] ∧ τ.wf x = true := by
  obtain ⟨fuel, hx⟩ := hx
  unfold valTy at h
  split at h
  · rename_i l hl
    have rd := cells_read m fuel t l _ _ hl hx
    have one : ∀ τ', l = [τ'] → v.cells.toList = [v] → some τ' = some τ → ∃ x : τ.den, R P τ (old w) w x [v] ∧ τ.wf x = true := fun τ' e1 e2 e3 => by
      cases e3; subst e1
      rw [e2] at rd
      obtain ⟨y, ⟨u, ws, h1, h2, h3⟩, hw⟩ := rd
      cases h1
      have hw : (Ty.wf τ y.1 && true) = true := hw
      rw [Bool.and_true] at hw
      exact ⟨y.1, h2, hw⟩
    have agg : (∃ cs, v = .agg cs) → some (Ty.agg (listTy l)) = some τ → ∃ x : τ.den, R P τ (old w) w x [v] ∧ τ.wf x = true := fun ⟨cs, e1⟩ e2 => by
      cases e2; subst e1
      obtain ⟨y, h1, h2⟩ := rd
      exact ⟨y, ⟨cs.toList, by simp, h1, R.len h1⟩, h2⟩
    split at h
    · rename_i fs hu
      simp only [Value.okWide, hu] at hv
      obtain ⟨cs, e, _⟩ := hv
      exact agg ⟨cs, e⟩ h
    · rename_i fs n hu
      simp only [Value.okWide, hu] at hv
      obtain ⟨cs, e, _⟩ := hv
      exact agg ⟨cs, e⟩ h
    · split at h
      · rename_i τ'
        refine one τ' rfl ?_ h
        cases m with
        | zero => cases hl
        | succ m =>
          unfold flatTy at hl
          split at hl
          · rename_i k hu
            obtain ⟨i, e, _⟩ := DataW.trod_int hu hx
            simp only [Value.okWide, hu, Cell.okWide, Cell.ok] at hv
            cases v <;> first | rfl | (simp at hv)
          · rename_i hu
            simp only [Value.okWide, hu, Cell.okWide, Cell.ok] at hv
            cases v <;> first | rfl | (simp at hv)
          · rename_i e hu
            simp only [Value.okWide, hu, Cell.okWide, Cell.ok] at hv
            cases v <;> first | rfl | (simp at hv)
          · rename_i n1 n2 _ _ fs hu
            first | exact absurd hu (n1 fs) | exact absurd hu (n2 fs)
          · rename_i n1 n2 _ _ k e hu
            first | exact absurd hu (n1 k e) | exact absurd hu (n2 k e)
          · cases hl
      · cases h
  · cases h

theorem args_read {base base' m : Nat} {sp : Nat → Bool} {hd : Bool} : ∀ (ts : List TypeId) (vs : List Value) (ds : List (DataW H)) (ps : List MemPlace) (τ : Ty), argsTy P m ts = some τ →
    (∀ (j : Nat) t v, ts[j]? = some t → vs[j]? = some v → Value.okWide P w .any base t v) → DataW.TrodAll enc P w base' sp hd ts vs ds ps → ∃ x : τ.den, R P τ (old w) w x vs ∧ τ.wf x = true
  | [], [], ds, ps, τ, h, _, _ => by cases h; exact ⟨(), rfl, rfl⟩
  | [], _ :: _, _, _, _, _, _, hx => by simp [DataW.TrodAll] at hx
  | t :: ts, [], _, _, _, _, _, hx => by simp [DataW.TrodAll] at hx
  | t :: ts, v :: vs, [], _, _, _, _, hx => by simp [DataW.TrodAll] at hx
  | t :: ts, v :: vs, d :: ds, ps, τ, h, hv, hx => by
    obtain ⟨p, q, h1, h2, _⟩ := hx
    unfold argsTy at h
    split at h
    · rename_i a b ha hb
      cases h
      obtain ⟨x, x1, x2⟩ := val_read ha (hv 0 t v rfl rfl) h1
      obtain ⟨y, y1, y2⟩ := args_read ts vs ds q b hb (fun j t v ht hv' => hv (j + 1) t v (by simpa using ht) (by simpa using hv')) h2
      exact ⟨(x, y), ⟨v, vs, rfl, x1, y1⟩, by show (Ty.wf a x && Ty.wf b y) = true; rw [x2, y2]; rfl⟩
    · cases h

theorem args_stay (hl : laidOutB P = true) {W W' : World} (hb : Below W.heap.size W W') {sp' : Nat → Bool} : ∀ (ts : List TypeId) (vs : List Value) (ds : List (DataW H)) (ps : List MemPlace),
    ts.all (fun t => P.readableRec t && decide (t < P.types.size)) = true → DataW.TrodAll enc P W 0 (fun _ => true) true ts vs ds ps → (∀ x ∈ ps, x.block < W.heap.size) → (∀ x ∈ ps, sp' x.block = true) →
    DataW.TrodAll enc P W' 0 sp' true ts vs ds ps
  | [], [], [], ps, _, h, _, _ => h
  | [], [], _ :: _, _, _, hx, _, _ => by simp [DataW.TrodAll] at hx
  | [], _ :: _, _, _, _, hx, _, _ => by simp [DataW.TrodAll] at hx
  | t :: ts, [], _, _, _, hx, _, _ => by simp [DataW.TrodAll] at hx
  | t :: ts, v :: vs, [], _, _, hx, _, _ => by simp [DataW.TrodAll] at hx
  | t :: ts, v :: vs, d :: ds, ps, hr, hx, hlt, hsp => by
    obtain ⟨p, q, h1, h2, rfl⟩ := hx
    rw [List.all_cons, Bool.and_eq_true, Bool.and_eq_true] at hr
    refine ⟨p, q, ?_, args_stay hl hb ts vs ds q hr.2 h2 (fun x hx => hlt x (by simp [hx])) (fun x hx => hsp x (by simp [hx])), rfl⟩
    exact WideElems.Trod_stays hl hr.1.1 (of_decide_eq_true hr.1.2) h1 (fun x hx => hb.same (hlt x (by simp [hx]))) (fun x hx => hsp x (by simp [hx]))

theorem trodAll_len {base : Nat} {sp : Nat → Bool} {hd : Bool} : ∀ {ts : List TypeId} {vs : List Value} {ds : List (DataW H)} {ps : List MemPlace}, DataW.TrodAll enc P w base sp hd ts vs ds ps → ds.length = ts.length
  | [], [], [], _, _ => rfl
  | [], [], _ :: _, _, hx => by simp [DataW.TrodAll] at hx
  | [], _ :: _, _, _, hx => by simp [DataW.TrodAll] at hx
  | t :: ts, [], _, _, hx => by simp [DataW.TrodAll] at hx
  | t :: ts, v :: vs, [], _, hx => by simp [DataW.TrodAll] at hx
  | t :: ts, v :: vs, d :: ds, ps, hx => by
    obtain ⟨p, q, h1, h2, rfl⟩ := hx
    simp [trodAll_len h2]

theorem post_of_below {f : Func} {s : ChangeSpec} {apart fresh handsOn again : Bool} {W W' : World} {args : Array Value} {v : Value} {ds gs : List (DataW H)} {before pa pv : List MemPlace}
    (hW : DataW.Whole enc P f.params.toList s.vars apart W args.toList ds gs before)
    (hres : ∀ (b : Nat) (sp : Nat → Bool) (hd : Bool), DataW.TrodAll enc P W' b sp hd f.resultTypes.toList (v.resultList f.resultTypes.size) (s.fn H (ds ++ gs)).results [])
    (hargs : ∀ sp : Nat → Bool, (∀ p ∈ before, sp p.block = true) → DataW.TrodAll enc P W' 0 sp true f.params.toList args.toList (s.fn H (ds ++ gs)).args pa)
    (hvars : ∀ sp : Nat → Bool, (∀ p ∈ before, sp p.block = true) → DataW.TrodVars enc P W' sp s.vars (s.fn H (ds ++ gs)).vars pv)
    (hps : before = pa ++ pv) (hb : Below W.heap.size W W')
    (hok : ∀ (j : Nat) (t : TypeId) (r : Value), f.resultTypes[j]? = some t → (v.resultList f.resultTypes.size)[j]? = some r → Value.okWide P W' .any 0 t r) :
    s.post enc P f apart fresh handsOn again W args v W' := by
  have hlt : ∀ p ∈ before, p.block < W.heap.size := fun p hp => hW.lt p hp
  have hold : ∀ p ∈ before, (fun b => decide (b < W.heap.size)) p.block = true := fun p hp => by simpa using hlt p hp
  refine ⟨ds, gs, before, [], pa, pv, hW, hres _ _ _, hargs _ hold, hvars _ hold, World.keptBut_mono (fun p hp => ⟨hp, ?_⟩) (hb.frame (· ∈ before)), fun _ => ?_⟩
  · rw [hps, List.mem_append] at hp
    exact Or.inr hp
  · obtain ⟨_, _, _, _, _, hz, hn⟩ := hW
    refine ⟨hok, _, _, ([] ++ pa) ++ pv, ⟨[] ++ pa, pv, trodAll_append (hargs _ (fun _ _ => rfl)) (hres _ _ _), hvars _ (fun _ _ => rfl), rfl, ?_, ?_⟩, ?_⟩
    · intro b off hp
      have hin : MemPlace.cell b off ∈ before := by rw [hps]; simpa using hp
      rw [hb.frozen (hlt _ hin)]
      exact hz b off hin
    · intro ha
      have := hn ha
      rw [hps] at this
      simpa using this
    · intro p hp _
      rw [hps]
      simpa using hp

/-- A law, of whose arguments something is known. -/
theorem holds_law {f : FuncId} {τa τr : Ty} {p : τa.den → Bool} {v : τa.den → τr.den} {M : τa.den → Option τr.den} {y : τr.den} (h : Holds P f ⟨τa, τr, p, v⟩) (hM : ∀ x, τa.wf x = true → M x = some y) (hp : ∀ x, p x = (M x).isSome := by intro _; rfl) (hv : ∀ x, v x = (M x).getD τr.dflt := by intro _; rfl) : Holds P f ⟨τa, τr, τa.wf, fun _ => y⟩ := by
  intro S w hb x vs hx hr
  have hm := hM x hx
  have h1 : p x = true := by rw [hp, hm]; rfl
  have h2 : v x = y := by rw [hv, hm]; rfl
  have := h S w hb x vs h1 hr
  simp only at this
  rw [h2] at this
  exact this

/-- THE LAST STEP: a law of which all is proved over data. -/
theorem law_calls {f : FuncId} {fn : Func} {s : ChangeSpec} {m : Nat} {τ : Ty} {tb : TypeId} (hl : laidOutB P = true)
    (hread : fn.params.toList.all (fun t => P.readableRec t && decide (t < P.types.size)) = true) (hargs : argsTy P m fn.params.toList = some τ)
    (hh : Holds P f ⟨τ, .cons .bool .nil, τ.wf, fun _ => (true, ())⟩) (hrt : fn.resultTypes = #[tb]) (hub : P.underlying tb = some .bool)
    (hvars : s.vars = []) (hs : ∀ (H : Type) (ds : List (DataW H)), ds.length = fn.params.toList.length → s.fn H ds = { results := [.lit (.bool true)], args := ds })
    {fresh handsOn again : Bool} (W : World) (base : Nat) (args : Array Value) (ds gs : List (DataW H)) (before : List MemPlace)
    (hval : ∀ (j : Nat) t v, fn.params[j]? = some t → args[j]? = some v → Value.okWide P W .any base t v)
    (hW : DataW.Whole enc P fn.params.toList s.vars false W args.toList ds gs before) :
    Calls P f args W fun e W' => ∃ v, e = .returned v ∧ s.post enc P fn false fresh handsOn again W args v W' := by
  have hW' := hW
  obtain ⟨p, q, hA, hV, rfl, hfz, hnd⟩ := hW
  rw [hvars] at hV
  obtain ⟨rfl, rfl⟩ := trodVars_none hV
  obtain ⟨x, hx, hwf⟩ := args_read (w := W) (base := base) _ _ _ _ τ hargs (fun j t v ht hv => hval j t v (by simpa using ht) (by simpa using hv)) hA
  have hlen := trodAll_len hA
  have hsd := hs H ds hlen
  refine (hh (old W) W old_bd x args.toList hwf hx).mono fun e W' ⟨S', rs, he, hr, _, hb⟩ => ?_
  obtain ⟨u, ws, rfl, h1, h2⟩ := hr
  cases h1
  rw [show ws = [] from h2] at he
  have he : e = .returned (.bool true) := he
  subst he
  refine ⟨_, rfl, ?_⟩
  simp only [List.append_nil] at hW'
  have hlt := hW'.lt
  refine post_of_below (pa := p) (pv := []) hW' (fun b sp hd => ?_) (fun sp hsp => ?_) (fun sp _ => ?_) (by simp) hb (ok_one hrt rfl (okWide_bool_mk hub true))
  · rw [List.append_nil, hsd, hrt]
    exact trodAll_mk1 (shut_bool hub true)
  · rw [List.append_nil, hsd]
    exact args_stay hl hb _ _ _ _ hread hA hlt hsp
  · rw [List.append_nil, hsd, hvars]
    rfl

end Go.Dm

/-
  Loops that are sure of what they come to: the rounds, one after the other, taken as the loop's summary.
-/
namespace Go.Dm
open Go.RowKit
variable {P : Program} {N : Nat} {G : Gh} {S S' : CS} {w w' : World} {s : St} {a : Act} {ρ ρ' : Rho} {F F' : Nat → Prop} {E : TCtx} {Γ : Ctx} {Fw : Fence} {r : Nat} {dfr : List Dfr} {fid : FuncId}

/-- What is live behind 'exit id'. -/
@[reducible] def wayP (wy : Ways) (id : Nat) : List Pat := (lookupP wy.exits id).getD []

/-- What a loop comes to. -/
inductive LQ (wy : Ways) where
  | exit (id : Nat) (y : (patsTy (wayP wy id)).den)
  | ret (y : (patsTy wy.ret).den)
  | pan (T : TypeId) (τ : Ty) (x : τ.den) (y : (patsTy wy.pan).den)
  | bad

/-- What a round comes to. -/
inductive RQ (ps : List Pat) (wy : Ways) where
  | next (x : (patsTy ps).den)
  | out (q : LQ wy)
  | bad

namespace LQ
variable {wy : Ways}
def isExit (q : LQ wy) (id : Nat) : Bool := match q with
  | .exit id' _ => Nat.beq id' id
  | _ => false
def getExit (q : LQ wy) (id : Nat) : (patsTy (wayP wy id)).den := match q with
  | .exit id' y => match Nat.decEq id' id with
    | isTrue h => h ▸ y
    | isFalse _ => (patsTy (wayP wy id)).dflt
  | _ => (patsTy (wayP wy id)).dflt
def isRet (q : LQ wy) : Bool := match q with
  | .ret _ => true
  | _ => false
def getRet (q : LQ wy) : (patsTy wy.ret).den := match q with
  | .ret y => y
  | _ => (patsTy wy.ret).dflt
def isPan (q : LQ wy) (T : TypeId) (τ : Ty) : Bool := match q with
  | .pan T' τ' _ _ => Nat.beq T' T && decide (τ' = τ)
  | _ => false
def getPan (q : LQ wy) (τ : Ty) : τ.den := match q with
  | .pan _ τ' x _ => (castTy τ x).getD τ.dflt
  | _ => τ.dflt
def getPanY (q : LQ wy) : (patsTy wy.pan).den := match q with
  | .pan _ _ _ y => y
  | _ => (patsTy wy.pan).dflt
@[simp] theorem isExit_exit (id id' : Nat) (y) : (exit (wy := wy) id y).isExit id' = Nat.beq id id' := rfl
@[simp] theorem isExit_ret (id' : Nat) (y) : (ret (wy := wy) y).isExit id' = false := rfl
@[simp] theorem isExit_bad (id' : Nat) : (bad (wy := wy)).isExit id' = false := rfl
@[simp] theorem isRet_exit (id : Nat) (y) : (exit (wy := wy) id y).isRet = false := rfl
@[simp] theorem isRet_ret (y) : (ret (wy := wy) y).isRet = true := rfl
@[simp] theorem isRet_bad : (bad (wy := wy)).isRet = false := rfl
@[simp] theorem getRet_ret (y) : (ret (wy := wy) y).getRet = y := rfl
@[simp] theorem getExit_exit (id : Nat) (y) : (exit (wy := wy) id y).getExit id = y := by
  simp only [getExit]
  cases Nat.decEq id id with
  | isTrue h => rfl
  | isFalse h => exact absurd rfl h
end LQ

/-- Slots that are read as data. -/
def pcSlots : List Pat → List Nat
  | [] => []
  | .slot t (.pc (.sl _)) :: ps => t :: pcSlots ps
  | .slot t (.pc (.map _ _)) :: ps => t :: pcSlots ps
  | _ :: ps => pcSlots ps

def rdQ (lo : Nat) (dfr : List Dfr) (ps : List Pat) (wy : Ways) : Out → RQ ps wy
  | .norm s => match dfrEq s.dfr dfr, rd lo (frzRows s (pcSlots ps)) ps with
    | true, some x => .next x
    | _, _ => .bad
  | .exit id s => match dfrEq s.dfr dfr, (lookupP wy.exits id).isSome, rd lo (frzRows s (pcSlots (wayP wy id))) (wayP wy id) with
    | true, true, some y => .out (.exit id y)
    | _, _, _ => .bad
  | .ret s => match dfrEq s.dfr dfr, rd lo (frzRows s (pcSlots wy.ret)) wy.ret with
    | true, some y => .out (.ret y)
    | _, _ => .bad
  | .pan (.ifc T τ x) s => match dfrEq s.dfr dfr, rd lo s wy.pan with
    | true, some y => .out (.pan T τ x y)
    | _, _ => .bad
  | _ => .bad

/-- A loop's summary; rows that are read as data are ones that nobody turns any more. -/
def loopZ (lo : Nat) (dfr : List Dfr) (ps : List Pat) (f : (patsTy ps).den → Tree LO) (s : St) : Tree Out := loopF lo dfr ps f (frzRows s (pcSlots ps))

/-- What is sure. -/
def detQ {ps : List Pat} {wy : Ways} : Tree (RQ ps wy) → RQ ps wy
  | .leaf r => r
  | .br b l r => bif b then detQ l else detQ r
  | .any _ _ => .bad

def roundQ (P : Program) (E : TCtx) (Γ : Ctx) (lo N : Nat) (dfr : List Dfr) (ps : List Pat) (wy : Ways) (body : Code) (ls : List Loop) (x : (patsTy ps).den) : Tree (RQ ps wy) :=
  execK P E Γ lo N .any body ls (wr lo .none dfr ps x) fun o => .leaf (rdQ lo dfr ps wy o)

/-- Rounds, n at most. -/
def iterQ {ps : List Pat} {wy : Ways} (step : (patsTy ps).den → RQ ps wy) : Nat → (patsTy ps).den → LQ wy
  | 0, _ => .bad
  | n + 1, x => match step x with
    | .next x' => iterQ step n x'
    | .out q => q
    | .bad => .bad

/-- More rounds than any loop can have. -/
def big : Nat := 4722366482869645213696

def LQ.out {wy : Ways} (lo : Nat) (dfr : List Dfr) : LQ wy → Out
  | .exit id y => .exit id (wr lo .none dfr (wayP wy id) y)
  | .ret y => .ret (wr lo .none dfr wy.ret y)
  | .pan T τ x y => .pan (.ifc T τ x) (wr lo .none dfr wy.pan y)
  | .bad => .bad

theorem Tree.has_br {α : Type} {b : Bool} {l r : Tree α} {a : α} : (Tree.br b l r).Has a ↔ (bif b then l else r).Has a := by
  cases b <;> simp [Tree.Has]

/-- **A loop comes to what its rounds come to, one after the other.** -/
theorem loopQ_ok (hE : Env P E Γ G Fw) (ht : G.Free) {ps : List Pat} {wy : Ways} {body : Code} {ls : List Loop} (hls : LsOK P N G fid Fw r body ls)
    (hps : wfQ dfr false ps = true) (hwy : wy.wf dfr false = true) {step : (patsTy ps).den → RQ ps wy} (hstep : ∀ x, detQ (roundQ P E Γ G.lo N dfr ps wy body ls x) = step x) (n : Nat) {f : (patsTy ps).den → Tree LO}
    (hf : ∀ x, (∀ o, ((f x).map (LO.out G.lo dfr)).Has o → o ≠ .bad) → iterQ step n x ≠ .bad ∧ ((f x).map (LO.out G.lo dfr)).Has ((iterQ step n x).out G.lo dfr)) :
    LoopOK P N G fid Fw r (.loop body) (loopZ G.lo dfr ps f) := by
  intro s a w h hfine
  replace h := SX.frzRows hE.gh (pcSlots ps) h
  unfold loopZ loopF at hfine ⊢
  split at hfine
  case h_2 => exact (hfine .bad rfl).elim
  rename_i hd
  try simp only [hd]
  split at hfine
  case h_2 => exact (hfine .bad rfl).elim
  rename_i x hx
  try simp only [hx]
  obtain ⟨hq, hhas⟩ := hf x fun o ho e => by subst e; exact hfine _ ho
  have h0 := wfQ_SX hE.gh h (.inr ht) hps (dfrEq_spec hd) hx
  have key : ∀ (n : Nat) (x : (patsTy ps).den) (a : Act) (w : World), iterQ step n x ≠ .bad → SX P N G (wr G.lo .none dfr ps x) a w →
      roundsB fid Fw r P body (fun e a' w' => OutOk P N G ((iterQ step n x).out G.lo dfr) e a' w') n a w := by
    intro n
    induction n with
    | zero => intro x a w hn; exact absurd rfl hn
    | succ n ih =>
      intro x a w hn hs
      unfold roundsB
      have hne : step x ≠ .bad := fun e => by simp only [iterQ, e] at hn; exact hn rfl
      refine wpB_mono (exec_sound (T := fun t : Tree (RQ ps wy) => detQ t = step x) (ch := Tree.any) (K := fun o => .leaf (rdQ G.lo dfr ps wy o)) hE (fun a b q => absurd q.symm hne) ⟨fun q => absurd q.symm hne, fun s' q => absurd q.symm hne⟩ (hstep x) hls hs) ?_
      rintro e a' w' ⟨o, ho, hTo⟩
      have hTo : rdQ G.lo dfr ps wy o = step x := hTo
      simp only [Ways.wf, Bool.and_eq_true] at hwy
      obtain ⟨⟨w1, w2⟩, w3⟩ := hwy
      cases o with
      | bad => exact absurd hTo.symm hne
      | pan d s' =>
        cases d with
        | ifc T τ v =>
          cases e <;> try exact ho.elim
          simp only [rdQ] at hTo
          split at hTo
          case h_2 => exact absurd hTo.symm hne
          rename_i y hd hy
          have e1 : iterQ step (n + 1) x = .pan T τ v y := by simp only [iterQ, ← hTo]
          rw [e1]
          obtain ⟨u, ρ, S, F, h1, h2, h3⟩ := ho
          simp only [wfQ, Bool.and_eq_true, Bool.or_eq_true, Bool.not_eq_true'] at w3
          obtain ⟨⟨q1, q2⟩, q3⟩ := w3
          have hd := dfrEq_spec hd
          subst hd
          exact ⟨u, _, S, F, h1, wr_SR hE.gh h2 q1 q2 (.inr (ht F S w')) hy, h3⟩
        | _ => exact absurd hTo.symm hne
      | norm s' =>
        cases e <;> try exact ho.elim
        simp only [rdQ] at hTo
        split at hTo
        case h_2 => exact absurd hTo.symm hne
        rename_i x' hd hx'
        have e1 : iterQ step (n + 1) x = iterQ step n x' := by simp only [iterQ, ← hTo]
        rw [e1] at hn ⊢
        exact ih x' a' w' hn (wfQ_SX hE.gh (SX.frzRows hE.gh (pcSlots ps) ho) (.inr ht) hps ((frzRows_dfr _ _).trans (dfrEq_spec hd)) hx')
      | exit id s' =>
        cases e <;> try exact ho.elim
        obtain ⟨rfl, ho⟩ := ho
        simp only [rdQ] at hTo
        split at hTo
        case h_2 => exact absurd hTo.symm hne
        rename_i y hd hid hy
        have e1 : iterQ step (n + 1) x = .exit id y := by simp only [iterQ, ← hTo]
        rw [e1]
        have hmem : (id, wayP wy id) ∈ wy.exits := by
          cases hl : lookupP wy.exits id with
          | none => rw [hl] at hid; cases hid
          | some p => have := lookupP_mem hl; rwa [show wayP wy id = p by simp [wayP, hl]]
        have := List.all_eq_true.1 w1 _ hmem
        exact ⟨rfl, wfQ_SX hE.gh (SX.frzRows hE.gh _ ho) (.inr ht) this ((frzRows_dfr _ _).trans (dfrEq_spec hd)) hy⟩
      | ret s' =>
        cases e <;> try exact ho.elim
        simp only [rdQ] at hTo
        split at hTo
        case h_2 => exact absurd hTo.symm hne
        rename_i y hd hy
        have e1 : iterQ step (n + 1) x = .ret y := by simp only [iterQ, ← hTo]
        rw [e1]
        exact wfQ_SX hE.gh (SX.frzRows hE.gh _ ho) (.inr ht) w2 ((frzRows_dfr _ _).trans (dfrEq_spec hd)) hy
  exact wpB_mono (wpB_loop_rounds n (key n x a w hq h0)) fun e a' w' ho => ⟨_, hhas, ho⟩

/-- The loops of code, in order. -/
def loopsOf : Code → List Code
  | .seq a b => loopsOf a ++ loopsOf b
  | .cond _ a b => loopsOf a ++ loopsOf b
  | .block _ b => loopsOf b
  | .scope b => loopsOf b
  | .loop b => [.loop b]
  | .rangeFunc g ps as b => [.rangeFunc g ps as b]
  | _ => []

theorem loopsOf_len : ∀ c : Code, (loopsOf c).length = Code.loops c
  | .seq a b => by simp [loopsOf, Code.loops, loopsOf_len a, loopsOf_len b]
  | .cond _ a b => by simp [loopsOf, Code.loops, loopsOf_len a, loopsOf_len b]
  | .block _ b => loopsOf_len b
  | .scope b => loopsOf_len b
  | .loop b => rfl
  | .rangeFunc g ps as b => rfl
  | .skip => rfl
  | .region _ _ _ => rfl
  | .exit _ => rfl
  | .ret => rfl
  | .label _ => rfl
  | .goto _ => rfl
  | .refuse _ => rfl

/-- Each loop by its summary. -/
inductive Kn (P : Program) (N : Nat) (G : Gh) (fid : FuncId) (Fw : Fence) (r : Nat) : List Code → List Loop → Prop
  | nil : Kn P N G fid Fw r [] []
  | cons {c : Code} {f : St → Tree Out} {cs : List Code} {ls : List Loop} (h : LoopOK P N G fid Fw r c f) (t : Kn P N G fid Fw r cs ls) : Kn P N G fid Fw r (c :: cs) (.known f :: ls)
  | unr {b : Code} {n : Nat} {inner : List Loop} {cs : List Code} {ls : List Loop} (h : LsOK P N G fid Fw r b inner) (t : Kn P N G fid Fw r cs ls) : Kn P N G fid Fw r (.loop b :: cs) (.unroll n inner :: ls)

theorem Kn.split : ∀ {as bs : List Code} {ls : List Loop}, Kn P N G fid Fw r (as ++ bs) ls → Kn P N G fid Fw r as (ls.take as.length) ∧ Kn P N G fid Fw r bs (ls.drop as.length)
  | [], _, _, h => ⟨by simpa using Kn.nil, by simpa using h⟩
  | a :: as, bs, ls, h => by
    cases h with
    | cons h1 t =>
      obtain ⟨q1, q2⟩ := Kn.split t
      exact ⟨.cons h1 q1, q2⟩
    | unr h1 t =>
      obtain ⟨q1, q2⟩ := Kn.split t
      exact ⟨.unr h1 q1, q2⟩

theorem LsOK_kn : ∀ {c : Code} {ls : List Loop}, Kn P N G fid Fw r (loopsOf c) ls → LsOK P N G fid Fw r c ls
  | .seq a b, ls, h => by
    obtain ⟨h1, h2⟩ := Kn.split h
    rw [loopsOf_len] at h1 h2
    exact ⟨LsOK_kn h1, LsOK_kn h2⟩
  | .cond _ a b, ls, h => by
    obtain ⟨h1, h2⟩ := Kn.split h
    rw [loopsOf_len] at h1 h2
    exact ⟨LsOK_kn h1, LsOK_kn h2⟩
  | .block _ b, ls, h => LsOK_kn (c := b) h
  | .scope b, ls, h => LsOK_kn (c := b) h
  | .loop b, ls, h => by cases h with
    | cons h1 _ => exact h1
    | unr h1 _ => exact h1
  | .rangeFunc g ps as b, ls, h => by cases h with | cons h1 _ => exact h1
  | .skip, _, _ => trivial
  | .region _ _ _, _, _ => trivial
  | .exit _, _, _ => trivial
  | .ret, _, _ => trivial
  | .label _, _, _ => trivial
  | .goto _, _, _ => trivial
  | .refuse _, _, _ => trivial

/-- The body of a loop. -/
def loopBody : Option Code → Code
  | some (.loop b) => b
  | _ => .skip

/-- **A function does what its run over data comes to**: where that is sure. -/
theorem holds_of_M (hm : P.follows .mixedOrders = true) (hΓ : Sound P Γ) (hE : EqSound P E.eq) (hK : KeySound P E.key) {f : FuncId} {fn : Func} {c : Code} (hf : P.funcs[f]? = some fn) (hb : fn.body = some c) {ls : List Loop}
    {τa τr : Ty} {M : τa.den → Option τr.den} (hn : Nat.ble τa.cells fn.ntmps = true) (hM : ∀ x, (runFn P E Γ fn ls τa τr x).sure = M x)
    (hl : ∀ S w, Env P E Γ (Gh.start S w) Fence.wide → (Gh.start S w).Free → Kn P fn.ntmps (Gh.start S w) f Fence.wide 0 (loopsOf c) ls) : Holds P f ⟨τa, τr, fun x => (M x).isSome, fun x => (M x).getD τr.dflt⟩ := by
  refine holds_of_run hm hΓ hE hK hf hb (fun S w => LsOK_kn (hl S w ⟨hm, hΓ, hE, hK, start_ok, .wide, fun _ => rfl⟩ inner_free)) ⟨τa, τr, fun x => (M x).isSome, fun x => (M x).getD τr.dflt⟩ (Nat.le_of_ble_eq_true hn) fun x hp => Tree.sure_all ?_
  show (runFn P E Γ fn ls τa τr x).sure = some ((M x).getD τr.dflt)
  rw [hM x]
  have hp : (M x).isSome = true := hp
  cases h : M x with
  | none => rw [h] at hp; cases hp
  | some y => rfl

theorem callable_of {f : FuncId} {fn : Func} (h : P.funcs[f]? = some fn) (hn : (fn.name == "runtime.NumGoroutine") = false) (hb : fn.body.isNone = false) : Callable P f := by
  intro args w
  have hn' : fn.name ≠ "runtime.NumGoroutine" := fun e => by rw [e] at hn; simp at hn
  have hb' : fn.body ≠ none := fun e => by rw [e] at hb; cases hb
  simp [callFunc, h, hn', hb']

theorem detQ_cond {ps : List Pat} {wy : Ways} (b : Bool) (l r : Tree (RQ ps wy)) : detQ (bif b then l else r) = bif b then detQ l else detQ r := by cases b <;> rfl
theorem sure_cond {α : Type} (b : Bool) (l r : Tree (Option α)) : (bif b then l else r).sure = bif b then l.sure else r.sure := by cases b <;> rfl

def W (n : Int) : Int := IntKind.i64.wrap n
def mn (a b : Int) : Int := if b < a then b else a
def mx (a b : Int) : Int := if b > a then b else a

/-- A loop that is come to with one of two numbers in a slot. -/
def altK (t : Nat) (n : Int) (f g : St → Tree Out) (s : St) : Tree Out := match s.env t with
  | .v (.pc (.int .i64) m) => match decide ((show Int from m) = n) with
    | true => f s
    | false => g s
  | _ => g s
theorem loop_alt {fid : FuncId} {Fw : Fence} {r : Nat} {c : Code} {t : Nat} {n : Int} {f g : St → Tree Out} (hf : LoopOK P N G fid Fw r c f) (hg : LoopOK P N G fid Fw r c g) : LoopOK P N G fid Fw r c (altK t n f g) := by
  intro s a w hs hfine
  have : altK t n f g s = f s ∨ altK t n f g s = g s := by
    unfold altK
    split
    · split
      · exact .inl rfl
      · exact .inr rfl
    · exact .inr rfl
  rcases this with e | e
  · rw [e] at hfine ⊢; exact hf s a w hs hfine
  · rw [e] at hfine ⊢; exact hg s a w hs hfine

end Go.Dm

/-
  Ranges over functions, calls that look at their caller's objects, functions that call themselves: where what they come to is sure.
-/
namespace Go.Dm
open Go.RowKit
variable {P : Program} {N : Nat} {G : Gh} {S S' : CS} {w w' : World} {s : St} {a : Act} {ρ ρ' : Rho} {F F' : Nat → Prop} {E : TCtx} {Γ : Ctx} {Fw : Fence} {r : Nat} {dfr : List Dfr} {fid : FuncId} {lo lo' : Nat} {mps : List Pat} {e : Ty}

/-- What is sure of a tree. -/
def Tree.detB {α : Type} (bad : α) : Tree α → α
  | .leaf r => r
  | .br b l r => bif b then l.detB bad else r.detB bad
  | .any _ _ => bad
theorem detB_cond {α : Type} (bad : α) (b : Bool) (l r : Tree α) : (bif b then l else r).detB bad = bif b then l.detB bad else r.detB bad := by cases b <;> rfl

theorem Tree.detB_has {α : Type} {bad : α} : ∀ {t : Tree α}, t.detB bad ≠ bad → ∀ o, t.Has o → o = t.detB bad
  | .leaf _, _, _, h => h
  | .br b l r, h, o, ho => by
    cases b with
    | true => exact Tree.detB_has (t := l) h o (by simpa [Tree.Has] using ho)
    | false => exact Tree.detB_has (t := r) h o (by simpa [Tree.Has] using ho)
  | .any _ _, h, _, _ => absurd rfl h

theorem LoopOK.mono {c : Code} {f f' : St → Tree Out} (h : LoopOK P N G fid Fw r c f') (hf : ∀ s, (∀ o, (f s).Has o → o.fine G) → ∀ o, (f' s).Has o → (f s).Has o) : LoopOK P N G fid Fw r c f := by
  intro s a w hs hfine
  exact wpB_mono (h s a w hs fun o ho => hfine o (hf s hfine o ho)) fun e a' w' ⟨o, h1, h2⟩ => ⟨o, hf s hfine o h1, h2⟩

namespace RO
def isNext (o : RO mps) : Bool := match o with
  | .next _ => true
  | _ => false
def isBrk (o : RO mps) (id : Nat) : Bool := match o with
  | .brk id' _ => Nat.beq id' id
  | _ => false
def isRet (o : RO mps) : Bool := match o with
  | .ret _ => true
  | _ => false
def isPan (o : RO mps) (T : TypeId) (τ : Ty) : Bool := match o with
  | .pan T' τ' _ _ => Nat.beq T' T && decide (τ' = τ)
  | _ => false
def getX (o : RO mps) : (patsTy mps).den := match o with
  | .next x => x
  | .brk _ x => x
  | .ret x => x
  | .pan _ _ _ x => x
  | .bad => (patsTy mps).dflt
def getPan (o : RO mps) (τ : Ty) : τ.den := match o with
  | .pan _ τ' d _ => (castTy τ d).getD τ.dflt
  | _ => τ.dflt
end RO

def spreadP (o : RO mps) : List (TypeId × Ty) → Tree (RO mps)
  | [] => .leaf .bad
  | (T, τ) :: l => .br (o.isPan T τ) (.leaf (.pan T τ (o.getPan τ) o.getX)) (spreadP o l)
def spreadR (o : RO mps) (pans : List (TypeId × Ty)) : List Nat → Tree (RO mps)
  | [] => .br o.isNext (.leaf (.next o.getX)) (.br o.isRet (.leaf (.ret o.getX)) (spreadP o pans))
  | id :: l => .br (o.isBrk id) (.leaf (.brk id o.getX)) (spreadR o pans l)

theorem castTy_self {τ : Ty} (x : τ.den) : castTy τ x = some x := by simp [castTy]

theorem spreadP_ok {o : RO mps} {β : Type} {K : RO mps → β} : ∀ {l : List (TypeId × Ty)}, (∀ q, ((spreadP o l).map K).Has q → q ≠ K .bad) → (o ≠ .bad) ∧ ((spreadP o l).map K).Has (K o)
  | [], h => absurd rfl (h _ rfl)
  | (T, τ) :: l, h => by
    simp only [spreadP, Tree.map] at h ⊢
    cases hb : o.isPan T τ with
    | true =>
      cases o with
      | pan T' τ' d x =>
        simp only [RO.isPan, Bool.and_eq_true, decide_eq_true_eq] at hb
        obtain ⟨h1, h2⟩ := hb
        cases Nat.eq_of_beq_eq_true h1
        subst h2
        refine ⟨by simp, ?_⟩
        show K _ = K _
        simp [RO.getPan, RO.getX, castTy_self]
      | _ => cases hb
    | false =>
      rw [hb] at h
      have := spreadP_ok (l := l) (fun q hq => h q (by simpa [Tree.Has] using hq))
      exact ⟨this.1, by simpa [Tree.Has] using this.2⟩

theorem spreadR_ok {o : RO mps} {pans : List (TypeId × Ty)} {β : Type} {K : RO mps → β} : ∀ {l : List Nat}, (∀ q, ((spreadR o pans l).map K).Has q → q ≠ K .bad) → (o ≠ .bad) ∧ ((spreadR o pans l).map K).Has (K o)
  | [], h => by
    simp only [spreadR, Tree.map] at h ⊢
    cases hb : o.isNext with
    | true =>
      cases o with
      | next x => exact ⟨by simp, rfl⟩
      | _ => cases hb
    | false =>
      rw [hb] at h
      cases hb' : o.isRet with
      | true =>
        cases o with
        | ret x => exact ⟨by simp, rfl⟩
        | _ => cases hb'
      | false =>
        rw [hb'] at h
        have := spreadP_ok (o := o) (l := pans) (fun q hq => h q (by simpa [Tree.Has] using hq))
        exact ⟨this.1, by simpa [Tree.Has] using this.2⟩
  | id :: l, h => by
    simp only [spreadR, Tree.map] at h ⊢
    cases hb : o.isBrk id with
    | true =>
      cases o with
      | brk id' x =>
        cases Nat.eq_of_beq_eq_true (show Nat.beq id' id = true from hb)
        exact ⟨by simp, rfl⟩
      | _ => cases hb
    | false =>
      rw [hb] at h
      have := spreadR_ok (l := l) (fun q hq => h q (by simpa [Tree.Has] using hq))
      exact ⟨this.1, by simpa [Tree.Has] using this.2⟩

/-- All rounds. -/
def runAllD {I : Type} (step : (patsTy mps).den → I → RO mps) : (patsTy mps).den → List I → RO mps
  | x, [] => .next x
  | x, i :: r => match step x i with
    | .next x' => runAllD step x' r
    | o => o

theorem runAllD_all {I : Type} {stepT : (patsTy mps).den → I → Tree (RO mps)} {step : (patsTy mps).den → I → RO mps} (hs : ∀ x i, (stepT x i).detB .bad = step x i) : ∀ (l : List I) (x : (patsTy mps).den), runAllD step x l ≠ .bad → ∀ o, (runAll stepT x l).Has o → o = runAllD step x l
  | [], x, _, o, ho => ho
  | i :: l, x, hn, o, ho => by
    simp only [runAll] at ho
    obtain ⟨o1, h1, h2⟩ : ∃ o1, (stepT x i).Has o1 ∧ (match o1 with
      | .next x' => runAll stepT x' l
      | .brk id x' => .leaf (.brk id x')
      | .ret x' => .leaf (.ret x')
      | .pan T τ d x' => .leaf (.pan T τ d x')
      | .bad => .leaf .bad : Tree (RO mps)).Has o := by
      have : ∀ (t : Tree (RO mps)) (K : RO mps → Tree (RO mps)), (t.run Tree.any K).Has o → ∃ o1, t.Has o1 ∧ (K o1).Has o := by
        intro t K
        induction t with
        | leaf a => exact fun h => ⟨a, rfl, h⟩
        | br b l r ihl ihr =>
          intro h
          cases b with
          | true => obtain ⟨o1, q1, q2⟩ := ihl h; exact ⟨o1, by simpa [Tree.Has] using q1, q2⟩
          | false => obtain ⟨o1, q1, q2⟩ := ihr h; exact ⟨o1, by simpa [Tree.Has] using q1, q2⟩
        | any l r ihl ihr =>
          intro h
          rcases h with h | h
          · obtain ⟨o1, q1, q2⟩ := ihl h; exact ⟨o1, .inl q1, q2⟩
          · obtain ⟨o1, q1, q2⟩ := ihr h; exact ⟨o1, .inr q1, q2⟩
      exact this _ _ ho
    have hne : step x i ≠ .bad := fun e => hn (by simp only [runAllD, e])
    have e1 := Tree.detB_has (bad := .bad) (by rw [hs]; exact hne) o1 h1
    rw [hs] at e1
    subst e1
    cases hst : step x i with
    | next x' =>
      rw [hst] at h2
      have e2 : runAllD step x (i :: l) = runAllD step x' l := by simp only [runAllD, hst]
      rw [e2] at hn ⊢
      exact runAllD_all hs l x' hn o h2
    | brk id x' => rw [hst] at h2; simp only [runAllD, hst]; exact h2
    | ret x' => rw [hst] at h2; simp only [runAllD, hst]; exact h2
    | pan T τ d x' => rw [hst] at h2; simp only [runAllD, hst]; exact h2
    | bad => exact absurd hst hne

/-- A range over a function, by what its rounds come to. -/
def rangeD (lo : Nat) (dfr : List Dfr) (t : Nat) (e : Ty) (mps : List Pat) (ids : List Nat) (pans : List (TypeId × Ty)) (L : (patsTy mps).den → List e.den → RO mps) (s : St) : Tree Out :=
  match dfrEq s.dfr dfr, s.env t, rd lo s mps with
  | true, .v (.pc (.seq e') its), some x => match castTy (σ := .seq e') (.seq e) its with
    | some its => (spreadR (L x (show Sl e.den from its).list) pans ids).map (RO.out lo (.mark :: dfr))
    | none => .leaf .bad
  | _, _, _ => .leaf .bad

theorem Env.round (hE : Env P E Γ G Fence.wide) {G' : Gh} (hok : G'.Ok P) (l : Nat) : Env P E.noDfr Γ G' (Fence.wide.inRound l) :=
  ⟨hE.mixed, hE.fns, hE.eq, hE.key, hok, Wide.wide.inRound l, fun q => by cases q⟩

theorem rangeD_ok (hE : Env P E Γ G Fence.wide) (hfree : G.Free) (hlo : G.lo = lo) {fd : Func} (hfd : P.funcs[fid]? = some fd) {t : Tmp} {ps : Array Tmp} (hps : ps.toList.all (Nat.blt · N) = true) (hpl : ps.size = e.cells) (heL : e.isL = true)
    (hw : wfG lo' mps = true) (hdw : dfrWf (boxIds mps) dfr = true) {as body : Code} {la lb : List Loop} {ids : List Nat} {pans : List (TypeId × Ty)}
    (hla : ∀ G' : Gh, G'.lo = lo' → G'.Free → ∀ l, Env P E.noDfr Γ G' (Fence.wide.inRound l) → LsOK P N G' fid (Fence.wide.inRound l) 0 as la) (hlb : ∀ G' : Gh, G'.lo = lo' → G'.Free → ∀ l, Env P E.noDfr Γ G' (Fence.wide.inRound l) → LsOK P N G' fid (Fence.wide.inRound l) 0 body lb)
    {step : (patsTy mps).den → e.den → RO mps} (hstep : ∀ x i, (stepR P E Γ lo lo' N ps.toList as body la lb e mps x i).detB .bad = step x i) :
    LoopOK P N G fid Fence.wide 0 (.rangeFunc (.tmp t) ps as body) (rangeD lo dfr t e mps ids pans (runAllD step)) := by
  subst hlo
  refine LoopOK.mono (rangeF_ok (la := la) (lb := lb) hE hfree hfd hps hpl heL hw hdw (fun G' h1 h2 h3 l => hla G' h1 h3 l (hE.round h2 l)) (fun G' h1 h2 h3 l => hlb G' h1 h3 l (hE.round h2 l))) ?_
  intro s hfine o ho
  unfold rangeD at hfine ⊢
  unfold rangeF at ho
  split at ho
  case h_2 =>
    rename_i hn
    exfalso
    have : (Tree.leaf Out.bad).Has Out.bad := rfl
    split at hfine
    · rename_i h1 h2 h3; exact hn _ _ _ h1 h2 h3
    · exact hfine .bad rfl
  rename_i e' its x0 hd hs hx
  simp only [hd, hs, hx] at hfine ⊢
  split at ho
  case h_2 =>
    rename_i hc
    simp only [hc] at hfine
    exact (hfine .bad rfl).elim
  rename_i its' hcast
  simp only [hcast] at hfine ⊢
  obtain ⟨hb, hh⟩ := spreadR_ok (K := RO.out G.lo (.mark :: dfr)) (l := ids) (fun q hq e => by subst e; exact hfine _ hq)
  have : ∀ (t : Tree (RO mps)), (t.map (RO.out G.lo (.mark :: dfr))).Has o → ∃ o1, t.Has o1 ∧ o = RO.out G.lo (.mark :: dfr) o1 := by
    intro t
    induction t with
    | leaf a => exact fun h => ⟨a, rfl, h⟩
    | br b l r ihl ihr =>
      intro h
      cases b with
      | true => obtain ⟨o1, q1, q2⟩ := ihl (by simpa [Tree.map, Tree.Has] using h); exact ⟨o1, by simpa [Tree.Has] using q1, q2⟩
      | false => obtain ⟨o1, q1, q2⟩ := ihr (by simpa [Tree.map, Tree.Has] using h); exact ⟨o1, by simpa [Tree.Has] using q1, q2⟩
    | any l r ihl ihr =>
      intro h
      rcases h with h | h
      · obtain ⟨o1, q1, q2⟩ := ihl h; exact ⟨o1, .inl q1, q2⟩
      · obtain ⟨o1, q1, q2⟩ := ihr h; exact ⟨o1, .inr q1, q2⟩
  obtain ⟨o1, h1, rfl⟩ := this _ ho
  rw [runAllD_all hstep _ _ hb o1 h1]
  exact hh

/-! ### Calls that look at their caller's objects -/

namespace GO
variable {τr : Ty} {qs : List Pat}
def isOk (g : GO τr qs) : Bool := match g with
  | .ok _ _ => true
  | _ => false
def isPan (g : GO τr qs) (T : TypeId) (τ : Ty) : Bool := match g with
  | .pan T' τ' _ _ => Nat.beq T' T && decide (τ' = τ)
  | _ => false
def getR (g : GO τr qs) : τr.den := match g with
  | .ok r _ => r
  | _ => τr.dflt
def getY (g : GO τr qs) : (patsTy qs).den := match g with
  | .ok _ y => y
  | .pan _ _ _ y => y
  | .bad => (patsTy qs).dflt
def getPan (g : GO τr qs) (τ : Ty) : τ.den := match g with
  | .pan _ τ' d _ => (castTy τ d).getD τ.dflt
  | _ => τ.dflt
end GO

def spreadG {τr : Ty} {qs : List Pat} (g : GO τr qs) : List (TypeId × Ty) → Tree (GO τr qs)
  | [] => .br g.isOk (.leaf (.ok g.getR g.getY)) (.leaf .bad)
  | (T, τ) :: l => .br (g.isPan T τ) (.leaf (.pan T τ (g.getPan τ) g.getY)) (spreadG g l)

theorem spreadG_ok {τr : Ty} {qs : List Pat} {g : GO τr qs} : ∀ {l : List (TypeId × Ty)}, (∀ q, (spreadG g l).Has q → q ≠ .bad) → g ≠ .bad ∧ (spreadG g l).Has g
  | [], h => by
    cases g with
    | ok r y => exact ⟨by simp, rfl⟩
    | pan T τ d y => exact absurd rfl (h .bad rfl)
    | bad => exact absurd rfl (h .bad rfl)
  | (T, τ) :: l, h => by
    simp only [spreadG] at h ⊢
    cases hb : g.isPan T τ with
    | true =>
      cases g with
      | pan T' τ' d x =>
        simp only [GO.isPan, Bool.and_eq_true, decide_eq_true_eq] at hb
        obtain ⟨h1, h2⟩ := hb
        cases Nat.eq_of_beq_eq_true h1
        subst h2
        refine ⟨by simp, ?_⟩
        show _ = _
        simp [GO.getPan, GO.getY, castTy_self]
      | _ => cases hb
    | false =>
      rw [hb] at h
      have := spreadG_ok (l := l) (fun q hq => h q (by simpa [Tree.Has] using hq))
      exact ⟨this.1, by simpa [Tree.Has] using this.2⟩

def gappD (n : Nat) (τr : Ty) (ps : List Pat) (pans : List (TypeId × Ty)) (R : (patsTy ps).den → GO τr (objPats ps)) : List Slot → (Nat → DObj) → Tr → Nat → Tree OR := gapp n τr ps fun x => spreadG (R x) pans

theorem gappD_holds (hm : P.follows .mixedOrders = true) (hΓ : Sound P Γ) (hE : EqSound P E.eq) (hK : KeySound P E.key) {f : FuncId} {fn : Func} {c : Code} (hf : P.funcs[f]? = some fn) (hb : fn.body = some c) {ls : List Loop}
    {τr : Ty} {ps : List Pat} (hw : wfG lo ps = true) (hl : ∀ G' : Gh, G'.lo = lo → G'.Free → Env P E Γ G' Fence.wide → LsOK P fn.ntmps G' f Fence.wide 0 c ls)
    {R : (patsTy ps).den → GO τr (objPats ps)} (pans : List (TypeId × Ty)) (hR : ∀ x, (runG P E Γ fn ls lo τr ps x).detB .bad = R x) : GHolds P f (gappD fn.ntmps τr ps pans R) := by
  refine gapp_holds (E := E) (ls := ls) hm hΓ hE hK hf hb hw (fun G' h1 h2 h3 => hl G' h1 h2 ⟨hm, hΓ, hE, hK, h3, .wide, fun _ => rfl⟩) fun x hfine go hgo => ?_
  obtain ⟨h1, h2⟩ := spreadG_ok hfine
  rw [← hR] at h1
  rw [Tree.detB_has h1 go hgo, hR]
  exact h2

/-! ### Functions that return a row that their caller may write -/

def rowD (n : Nat) (τa : Ty) (T : TypeId) (e : Ty) (R : τa.den → Option (Sl e.den)) (args : List Slot) (heap : Nat → DObj) (_ : Tr) (id0 : Nat) : Tree OR :=
  match Nat.ble args.length n, ofSlots τa args, heap id0 with
  | true, some x, .none => .br (R x).isSome (rowOR id0 (some ⟨T, e, (R x).getD ⟨0, fun _ => e.dflt⟩⟩)) (.leaf .bad)
  | _, _, _ => .leaf .bad

def frOf (T : TypeId) (e : Ty) : Option FR → Option (Sl e.den)
  | some ⟨T', e', s⟩ => match Nat.beq T' T, castTy (σ := .sl e') (.sl e) s with
    | true, some s => some s
    | _, _ => none
  | none => none

theorem rowD_holds (hm : P.follows .mixedOrders = true) (hΓ : Sound P Γ) (hE : EqSound P E.eq) (hK : KeySound P E.key) {f : FuncId} {fn : Func} {c : Code} (hf : P.funcs[f]? = some fn) (hb : fn.body = some c) {ls : List Loop}
    {t : Nat} (hres : fn.results = #[.tmp t]) {τa : Ty} {T : TypeId} {e : Ty} (hl : ∀ G' : Gh, G'.lo = 0 → G'.Free → Env P E Γ G' Fence.wide → LsOK P fn.ntmps G' f Fence.wide 0 c ls)
    {R : τa.den → Option (Sl e.den)} (hR : ∀ x, frOf T e (runF P E Γ fn ls t τa x).sure = R x) : GHolds P f (rowD fn.ntmps τa T e R) := by
  have h0 := fapp_holds (E := E) (ls := ls) (τa := τa) hm hΓ hE hK hf hb hres (fun G' h1 h2 h3 => hl G' h1 h2 ⟨hm, hΓ, hE, hK, h3, .wide, fun _ => rfl⟩)
  intro N G s a w ρ S F hG h args us id0 hlen hargs hlo hall
  have key : ∀ r, (fapp fn.ntmps τa (runF P E Γ fn ls t τa) args s.heap s.tr id0).Has r → (rowD fn.ntmps τa T e R args s.heap s.tr id0).Has r := by
    intro r hr
    unfold rowD at hall ⊢
    unfold fapp at hr
    split at hr
    case h_2 =>
      rename_i hn
      split at hall
      · rename_i h1 h2 h3; exact absurd h3 (fun h3 => hn _ h1 h2 h3)
      · exact absurd rfl (hall .bad rfl)
    rename_i x hn hx hh
    simp only [hn, hx, hh] at hall ⊢
    cases hs : R x with
    | none => rw [hs] at hall; exact absurd rfl (hall .bad rfl)
    | some sl =>
      have hf := hR x
      rw [hs] at hf
      cases hq : (runF P E Γ fn ls t τa x).sure with
      | none => rw [hq] at hf; cases hf
      | some fr =>
        rw [hq] at hf hr
        obtain ⟨T', e', s'⟩ := fr
        simp only [frOf] at hf
        split at hf
        case h_2 => cases hf
        rename_i s2 hT hc
        cases hf
        obtain ⟨heq, hsl⟩ := castTy_some hc
        cases Nat.eq_of_beq_eq_true hT
        cases heq
        have hsl : sl = s' := hsl
        subst hsl
        exact hr
  refine (h0 N G s a w ρ S F hG h args us id0 hlen hargs hlo fun r hr => hall r (key r hr)).mono fun e w' ⟨r, h1, h2⟩ => ⟨r, key r h1, h2⟩

/-! ### Functions that call themselves -/

/-- The contract of what a function comes to. -/
def conM {τa τr : Ty} (M : τa.den → Option τr.den) : Con := ⟨τa, τr, fun x => (M x).isSome, fun x => (M x).getD τr.dflt⟩

/-! ### Loops of which some of what lives never turns -/

/-- What a loop comes to, with what never turned. -/
def LQ.lift {C : Type} {wv wy : Ways} (je : (id : Nat) → C → (patsTy (wayP wv id)).den → (patsTy (wayP wy id)).den) (jr : C → (patsTy wv.ret).den → (patsTy wy.ret).den) (jp : C → (patsTy wv.pan).den → (patsTy wy.pan).den) (c : C) : LQ wv → LQ wy
  | .exit id y => .exit id (je id c y)
  | .ret y => .ret (jr c y)
  | .pan T τ x y => .pan T τ x (jp c y)
  | .bad => .bad
def RQ.lift {C : Type} {vs ps : List Pat} {wv wy : Ways} (join : C → (patsTy vs).den → (patsTy ps).den) (je : (id : Nat) → C → (patsTy (wayP wv id)).den → (patsTy (wayP wy id)).den) (jr : C → (patsTy wv.ret).den → (patsTy wy.ret).den) (jp : C → (patsTy wv.pan).den → (patsTy wy.pan).den) (c : C) : RQ vs wv → RQ ps wy
  | .next v => .next (join c v)
  | .out q => .out (q.lift je jr jp c)
  | .bad => .bad

/-- The ways in which it panics. -/
def spreadPan {C : Type} {wv : Ways} (wy : Ways) (jp : C → (patsTy wv.pan).den → (patsTy wy.pan).den) (c : C) (q : LQ wv) : List (TypeId × Ty) → Tree LO
  | [] => .leaf .bad
  | (T, τ) :: l => .br (q.isPan T τ) (.leaf (.pan T τ (q.getPan τ) wy.pan (jp c q.getPanY))) (spreadPan wy jp c q l)
def spreadV {C : Type} {wv : Ways} (wy : Ways) (je : (id : Nat) → C → (patsTy (wayP wv id)).den → (patsTy (wayP wy id)).den) (jr : C → (patsTy wv.ret).den → (patsTy wy.ret).den) (jp : C → (patsTy wv.pan).den → (patsTy wy.pan).den) (pans : List (TypeId × Ty)) (hasRet : Bool) (c : C) (q : LQ wv) : List (Nat × List Pat) → Tree LO
  | [] => match hasRet with
    | true => .br q.isRet (.leaf (.ret wy.ret (jr c q.getRet))) (spreadPan wy jp c q pans)
    | false => spreadPan wy jp c q pans
  | (id, _) :: l => .br (q.isExit id) (.leaf (.exit id (wayP wy id) (je id c (q.getExit id)))) (spreadV wy je jr jp pans hasRet c q l)

theorem spreadPan_ok {C : Type} {wv wy : Ways} {je : (id : Nat) → C → (patsTy (wayP wv id)).den → (patsTy (wayP wy id)).den} {jr : C → (patsTy wv.ret).den → (patsTy wy.ret).den} {jp : C → (patsTy wv.pan).den → (patsTy wy.pan).den} {c : C} {q : LQ wv} : ∀ {l : List (TypeId × Ty)}, (∀ o, ((spreadPan wy jp c q l).map (LO.out lo dfr)).Has o → o ≠ .bad) → q ≠ .bad ∧ ((spreadPan wy jp c q l).map (LO.out lo dfr)).Has ((q.lift je jr jp c).out lo dfr)
  | [], h => absurd rfl (h .bad rfl)
  | (T, τ) :: l, h => by
    simp only [spreadPan, Tree.map] at h ⊢
    cases hb : q.isPan T τ with
    | true =>
      cases q with
      | pan T' τ' x y =>
        simp only [LQ.isPan, Bool.and_eq_true, decide_eq_true_eq] at hb
        obtain ⟨h1, h2⟩ := hb
        have h1 := Nat.eq_of_beq_eq_true h1
        subst h1 h2
        refine ⟨by simp, ?_⟩
        show (LQ.pan T' τ' x (jp c y)).out lo dfr = _
        simp [LO.out, LQ.out, LQ.getPan, LQ.getPanY, castTy_self]
      | _ => cases hb
    | false =>
      rw [hb] at h
      have := spreadPan_ok (je := je) (jr := jr) (l := l) (fun o ho => h o (by simpa [Tree.Has] using ho))
      exact ⟨this.1, by simpa [Tree.Has] using this.2⟩

theorem spreadV_ok {C : Type} {wv wy : Ways} {je : (id : Nat) → C → (patsTy (wayP wv id)).den → (patsTy (wayP wy id)).den} {jr : C → (patsTy wv.ret).den → (patsTy wy.ret).den} {jp : C → (patsTy wv.pan).den → (patsTy wy.pan).den} {pans : List (TypeId × Ty)} {hr : Bool} {c : C} {q : LQ wv} : ∀ {l : List (Nat × List Pat)}, (∀ o, ((spreadV wy je jr jp pans hr c q l).map (LO.out lo dfr)).Has o → o ≠ .bad) → q ≠ .bad ∧ ((spreadV wy je jr jp pans hr c q l).map (LO.out lo dfr)).Has ((q.lift je jr jp c).out lo dfr)
  | [], h => by
    cases hr with
    | false => exact spreadPan_ok h
    | true =>
      simp only [spreadV, Tree.map] at h ⊢
      cases hb : q.isRet with
      | true =>
        cases q with
        | ret y => exact ⟨by simp, rfl⟩
        | _ => cases hb
      | false =>
        rw [hb] at h
        have := spreadPan_ok (je := je) (jr := jr) (l := pans) (fun o ho => h o (by simpa [Tree.Has] using ho))
        exact ⟨this.1, by simpa [Tree.Has] using this.2⟩
  | (id, p) :: l, h => by
    simp only [spreadV, Tree.map] at h ⊢
    cases hb : q.isExit id with
    | true =>
      cases q with
      | exit id' y =>
        have e : id' = id := Nat.eq_of_beq_eq_true hb
        subst e
        refine ⟨by simp, ?_⟩
        show (LQ.exit id' (je id' c y)).out lo dfr = _
        simp [LO.out, LQ.out]
      | _ => cases hb
    | false =>
      rw [hb] at h
      have := spreadV_ok (l := l) (fun o ho => h o (by simpa [Tree.Has] using ho))
      exact ⟨this.1, by simpa [Tree.Has] using this.2⟩

theorem lift_cond {C : Type} {vs ps : List Pat} {wv wy : Ways} {join : C → (patsTy vs).den → (patsTy ps).den} {je : (id : Nat) → C → (patsTy (wayP wv id)).den → (patsTy (wayP wy id)).den} {jr : C → (patsTy wv.ret).den → (patsTy wy.ret).den} {jp : C → (patsTy wv.pan).den → (patsTy wy.pan).den} {c : C} (b : Bool) (x y : RQ vs wv) : (bif b then x else y).lift join je jr jp c = bif b then x.lift join je jr jp c else y.lift join je jr jp c := by cases b <;> rfl
theorem lift_bad {C : Type} {vs ps : List Pat} {wv wy : Ways} {join : C → (patsTy vs).den → (patsTy ps).den} {je : (id : Nat) → C → (patsTy (wayP wv id)).den → (patsTy (wayP wy id)).den} {jr : C → (patsTy wv.ret).den → (patsTy wy.ret).den} {jp : C → (patsTy wv.pan).den → (patsTy wy.pan).den} {c : C} : (RQ.bad : RQ vs wv).lift join je jr jp c = .bad := rfl

theorem loopV_ok (hE : Env P E Γ G Fw) (ht : G.Free) (hlo : G.lo = lo) {C : Type} {vs ps : List Pat} {wv wy : Ways} {body : Code} {ls : List Loop} (hls : LsOK P N G fid Fw r body ls)
    (hps : wfQ dfr false ps = true) (hwy : wy.wf dfr false = true) {join : C → (patsTy vs).den → (patsTy ps).den} {je : (id : Nat) → C → (patsTy (wayP wv id)).den → (patsTy (wayP wy id)).den} {jr : C → (patsTy wv.ret).den → (patsTy wy.ret).den} {jp : C → (patsTy wv.pan).den → (patsTy wy.pan).den} {pans : List (TypeId × Ty)} {hr : Bool}
    (sp : (patsTy ps).den → C × (patsTy vs).den) (hsp : ∀ x, join (sp x).1 (sp x).2 = x) (hsp' : ∀ c v, sp (join c v) = (c, v))
    {step : C → (patsTy vs).den → RQ vs wv} (hstep : ∀ c v, detQ (roundQ P E Γ lo N dfr ps wy body ls (join c v)) = (step c v).lift join je jr jp c) (n : Nat) :
    LoopOK P N G fid Fw r (.loop body) (loopZ lo dfr ps fun x => spreadV wy je jr jp pans hr (sp x).1 (iterQ (step (sp x).1) n (sp x).2) wy.exits) := by
  subst hlo
  have key : ∀ (n : Nat) (c : C) (v : (patsTy vs).den), iterQ (fun x => (step (sp x).1 (sp x).2).lift join je jr jp (sp x).1) n (join c v) = (iterQ (step c) n v).lift je jr jp c := by
    intro n c
    induction n with
    | zero => intro v; rfl
    | succ n ih =>
      intro v
      simp only [iterQ, hsp']
      cases hs : step c v with
      | next v' => simp only [RQ.lift]; exact ih v'
      | out q => rfl
      | bad => rfl
  refine loopQ_ok hE ht hls hps hwy (step := fun x => (step (sp x).1 (sp x).2).lift join je jr jp (sp x).1) (fun x => by rw [← hstep, hsp]) n fun x hfine => ?_
  have e1 : iterQ (fun x => (step (sp x).1 (sp x).2).lift join je jr jp (sp x).1) n x = (iterQ (step (sp x).1) n (sp x).2).lift je jr jp (sp x).1 := by
    have := key n (sp x).1 (sp x).2
    rwa [hsp] at this
  rw [e1]
  obtain ⟨h1, h2⟩ := spreadV_ok hfine
  refine ⟨?_, h2⟩
  cases hq : iterQ (step (sp x).1) n (sp x).2 with
  | bad => exact absurd hq h1
  | _ => simp [LQ.lift]

/-- The parts of a range over a function. -/
def rangeAs : Option Code → Code
  | some (.rangeFunc _ _ as _) => as
  | _ => .skip
def rangeBody : Option Code → Code
  | some (.rangeFunc _ _ _ b) => b
  | _ => .skip

theorem holds_of_M' (hm : P.follows .mixedOrders = true) (hΓ : Sound P Γ) (hE : EqSound P E.eq) (hK : KeySound P E.key) {f : FuncId} {fn : Func} {c : Code} (hf : P.funcs[f]? = some fn) (hb : fn.body = some c) {ls : List Loop}
    {τa τr : Ty} {M : τa.den → Option τr.den} (hn : Nat.ble τa.cells fn.ntmps = true) (hM : ∀ x, (runFn P E Γ fn ls τa τr x).sure = M x)
    (hl : ∀ G' : Gh, G'.lo = 0 → G'.Free → Env P E Γ G' Fence.wide → LsOK P fn.ntmps G' f Fence.wide 0 c ls) : Holds P f (conM M) :=
  holds_of_run hm hΓ hE hK hf hb (fun S w => hl (Gh.start S w) rfl inner_free ⟨hm, hΓ, hE, hK, start_ok, .wide, fun _ => rfl⟩) (conM M) (Nat.le_of_ble_eq_true hn) fun x hp => Tree.sure_all (by
    show (runFn P E Γ fn ls τa τr x).sure = some ((M x).getD τr.dflt)
    rw [hM x]
    have hp : (M x).isSome = true := hp
    cases h : M x with
    | none => rw [h] at hp; cases hp
    | some y => rfl)

theorem conM_none {f : FuncId} {τa τr : Ty} : Holds P f (conM fun _ : τa.den => (none : Option τr.den)) := fun _ _ _ _ _ h => by cases h

theorem gappD_bad {f : FuncId} {n : Nat} {τr : Ty} {ps : List Pat} {pans : List (TypeId × Ty)} : GHolds P f (gappD n τr ps pans fun _ => .bad) := by
  intro N G s a w ρ S F hG h args us id0 hlen hargs hlo hall
  exfalso
  unfold gappD gapp at hall
  split at hall
  case h_2 => exact hall .bad rfl rfl
  have : ∀ (l : List (TypeId × Ty)), (spreadG (τr := τr) (qs := objPats ps) .bad l).Has .bad := by
    intro l
    induction l with
    | nil => rfl
    | cons p l ih => exact ih
  exact hall _ (Tree.has_map' (f := GO.or s.heap) (this pans)) rfl

def DCtx.of : List (FuncId × DApp) → DCtx
  | [], _ => none
  | p :: l, f => match Nat.beq f p.1 with
    | true => some p.2
    | false => DCtx.of l f
theorem dsound_of : ∀ {l : List (FuncId × DApp)}, (∀ p ∈ l, Callable P p.1 ∧ DHolds P p.1 p.2) → DSound P (DCtx.of l)
  | [], _, f, c, h => by cases h
  | p :: l, hl, f, c, h => by
    simp only [DCtx.of] at h
    split at h
    · rename_i hb
      cases h
      rw [Nat.eq_of_beq_eq_true hb]
      exact hl p (.head _)
    · exact dsound_of (fun p hp => hl p (.tail _ hp)) f c h

theorem holds_of_MD (hm : P.follows .mixedOrders = true) (hΓ : Sound P Γ) {Δ : DCtx} (hΔ : DSound P Δ) (hE : EqSound P E.eq) (hK : KeySound P E.key) {f : FuncId} {fn : Func} {c : Code} (hf : P.funcs[f]? = some fn) (hb : fn.body = some c) {ls : List Loop}
    {τa τr : Ty} {M : τa.den → Option τr.den} (hn : Nat.ble τa.cells fn.ntmps = true) (hM : ∀ x, (runFnD P E Γ Δ fn ls τa τr x).sure = M x)
    (hl : ∀ G' : Gh, G'.lo = 0 → G'.Free → Env P E Γ G' Fence.wide → LsOK P fn.ntmps G' f Fence.wide 0 c ls) : Holds P f (conM M) :=
  holds_of_runD hm hΓ hΔ hE hK hf hb (fun S w => hl (Gh.start S w) rfl inner_free ⟨hm, hΓ, hE, hK, start_ok, .wide, fun _ => rfl⟩) (conM M) (Nat.le_of_ble_eq_true hn) fun x hp => Tree.sure_all (by
    show (runFnD P E Γ Δ fn ls τa τr x).sure = some ((M x).getD τr.dflt)
    rw [hM x]
    have hp : (M x).isSome = true := hp
    cases h : M x with
    | none => rw [h] at hp; cases hp
    | some y => rfl)

end Go.Dm

/-
  A function that returns a row that its caller may append to.
-/
namespace Go.Dm
open Go.RowKit
variable {P : Program} {N N' : Nat} {G : Gh} {S S' S2 : CS} {w w' w2 : World} {s s' s2 : St} {a a2 : Act} {ρ ρ' ρ2 : Rho} {F F' F2 : Nat → Prop} {heap heap' H' H2 : Nat → DObj} {Y : Value} {E : TCtx} {Γ : Ctx} {Fw : Fence} {r : Nat} {ops : Array Oper} {lo lo' base : Nat} {dfr : List Dfr} {vr vr' : Nat → Nat} {n : Nat} {fid : FuncId} {mps : List Pat} {e : Ty}

def outC (t : Nat) (T0 : TypeId) (e0 : Ty) : Out → Tree (Option FR)
  | .ret s | .norm s => match allMark s.dfr, s.env t with
    | true, .v (.own id v e sl) => match s.heap id with
      | .chain v' T _ _ => match Nat.beq v v' with
        | true => .leaf (some ⟨T, e, sl⟩)
        | false => .leaf none
      | _ => .leaf none
    | true, .v .nils => .leaf (some ⟨T0, e0, ⟨0, fun _ => e0.dflt⟩⟩)
    | _, _ => .leaf none
  | _ => .leaf none

def runC (P : Program) (E : TCtx) (Γ : Ctx) (fn : Func) (ls : List Loop) (t : Nat) (T0 : TypeId) (e0 : Ty) (τa : Ty) (x : τa.den) : Tree (Option FR) :=
  match fn.body with
  | some c => execK P E Γ 0 fn.ntmps .any c ls (initSt τa x) (outC t T0 e0)
  | none => .leaf none

/-- Of two ways that are both open: rows that are empty. -/
def anC {e : Ty} : Option (Sl e.den) → Option (Sl e.den) → Option (Sl e.den)
  | some a, some b => bif Nat.beq a.n 0 && Nat.beq b.n 0 then some ⟨0, fun _ => e.dflt⟩ else none
  | _, _ => none
def Tree.sureC (T : TypeId) (e : Ty) : Tree (Option FR) → Option (Sl e.den)
  | .leaf a => frOf T e a
  | .br b l r => bif b then l.sureC T e else r.sureC T e
  | .any l r => anC (l.sureC T e) (r.sureC T e)
theorem sureC_cond {T : TypeId} {e : Ty} (b : Bool) (l r : Tree (Option FR)) : (bif b then l else r).sureC T e = bif b then l.sureC T e else r.sureC T e := by cases b <;> rfl
/-- It is this row; or both are empty. -/
def LikeC (T : TypeId) (e : Ty) (sl : Sl e.den) (z : Option FR) : Prop := ∃ s : Sl e.den, z = some ⟨T, e, s⟩ ∧ (s = sl ∨ s.n = 0 ∧ sl.n = 0)
theorem sureC_all {T : TypeId} {e : Ty} : ∀ {t : Tree (Option FR)} {sl : Sl e.den}, t.sureC T e = some sl → t.All (LikeC T e sl)
  | .leaf a, sl, h => by
    simp only [Tree.sureC] at h
    cases a with
    | none => cases h
    | some fr =>
      obtain ⟨T', e', s'⟩ := fr
      simp only [frOf] at h
      split at h
      case h_2 => cases h
      rename_i s2 hT hc
      cases h
      obtain ⟨heq, hsl⟩ := castTy_some hc
      cases Nat.eq_of_beq_eq_true hT
      cases heq
      have hsl : sl = s' := hsl
      exact ⟨s', rfl, .inl hsl.symm⟩
  | .br b l r, sl, h => by
    cases b with
    | true => have := sureC_all (t := l) (sl := sl) h; simpa [Tree.All] using this
    | false => have := sureC_all (t := r) (sl := sl) h; simpa [Tree.All] using this
  | .any l r, sl, h => by
    simp only [Tree.sureC, anC] at h
    split at h
    case h_2 => cases h
    rename_i x y hx hy
    cases hb : (Nat.beq x.n 0 && Nat.beq y.n 0) with
    | false => rw [hb] at h; cases h
    | true =>
      rw [hb] at h
      cases h
      rw [Bool.and_eq_true] at hb
      have h1 := Nat.eq_of_beq_eq_true hb.1
      have h2 := Nat.eq_of_beq_eq_true hb.2
      have mono : ∀ {t : Tree (Option FR)} {z : Sl e.den}, z.n = 0 → t.All (LikeC T e z) → t.All (LikeC T e ⟨0, fun _ => e.dflt⟩) := by
        intro t z hz
        induction t with
        | leaf a =>
          rintro ⟨s, rfl, hs⟩
          refine ⟨s, rfl, .inr ⟨?_, rfl⟩⟩
          rcases hs with rfl | hs
          · exact hz
          · exact hs.1
        | br b l r i1 i2 =>
          intro q
          cases b with
          | true => have := i1 (by simpa [Tree.All] using q); simpa [Tree.All] using this
          | false => have := i2 (by simpa [Tree.All] using q); simpa [Tree.All] using this
        | any l r i1 i2 => exact fun q => ⟨i1 q.1, i2 q.2⟩
      exact ⟨mono h1 (sureC_all hx), mono h2 (sureC_all hy)⟩

/-- A row that a call has made, and that it may append to. -/
def FreshRow (P : Program) (S : CS) (w0 w : World) (T : TypeId) (e : Ty) (s : Sl e.den) (v : Value) (ob : Option Nat) : Prop :=
  R P (.sl e) S w s [v] ∧ ((ob = none ∧ s.n = 0 ∧ ∃ a, v = .slice a 0 0) ∨
    ∃ b cap arr, ob = some b ∧ v = .slice (some ⟨b, 0, none⟩) s.n cap ∧ s.n ≤ cap ∧ cap ≤ maxLen ∧ w.heap[b]? = some (.cells arr T (0, 0)) ∧ arr.size = cap * e.cells ∧ w0.heap.size ≤ b ∧ ∀ o, S b o → o < s.n * e.cells)

theorem FreshRow.like {T : TypeId} {e : Ty} {s sl : Sl e.den} {w0 : World} {v : Value} {ob : Option Nat} (h : FreshRow P S w0 w T e s v ob) (hs : s = sl ∨ s.n = 0 ∧ sl.n = 0) : FreshRow P S w0 w T e sl v ob := by
  rcases hs with rfl | ⟨h1, h2⟩
  · exact h
  · obtain ⟨hR, ho⟩ := h
    refine ⟨?_, ?_⟩
    · rcases hR with ⟨_, a, cap, hv⟩ | ⟨b, o, cap, hv, q1, q2, _⟩
      · exact .inl ⟨h2, a, cap, hv⟩
      · exact .inr ⟨b, o, cap, by rw [h2, ← h1]; exact hv, by omega, q2, fun i hi => by omega⟩
    · rw [h1] at ho
      rw [h2]
      exact ho

theorem chainD_holds {wr : Bool} (hm : P.follows .mixedOrders = true) (hΓ : Sound P Γ) (hE : EqSound P E.eq) (hK : KeySound P E.key) {f : FuncId} {fn : Func} {c : Code} (hf : P.funcs[f]? = some fn) (hb : fn.body = some c) {ls : List Loop}
    {t : Nat} (hres : fn.results = #[.tmp t]) {τa : Ty} {T : TypeId} {e : Ty} (hfl : e.flat = true) (hwr : wr = true → e.plain = true ∧ 0 < e.cells) (hl : ∀ G' : Gh, G'.lo = 0 → G'.Free → Env P E Γ G' Fence.wide → LsOK P fn.ntmps G' f Fence.wide 0 c ls)
    {R : τa.den → Option (Sl e.den)} (hR : ∀ x, (runC P E Γ fn ls t T e τa x).sureC T e = R x) : GHolds P f (chainD wr fn.ntmps τa T e R) := by
  intro N G s a w ρ S F hG h args us id0 hlen hargs hlo hall
  unfold chainD at hall ⊢
  split at hall
  case h_2 => exact (hall .bad rfl rfl).elim
  rename_i x hn hx hno
  cases hs : R x with
  | none => rw [hs] at hall; exact absurd rfl (hall .bad rfl)
  | some sl =>
  have hfr := hR x
  rw [hs] at hfr
  have hR' := ofSlots_R hlen hargs hx
  have hus : us.length ≤ fn.ntmps := by rw [← hlen]; exact Nat.le_of_ble_eq_true hn
  have h0 := init_SRl (N := fn.ntmps) (l := G.l) h.bd hR' hus
  have hGc : (Gh.inner (fun _ => False) S w G.l 0 fun _ => none).Ok P := inner_ok fun _ _ q => by cases q
  have hEnv : Env P E Γ (Gh.inner (fun _ => False) S w G.l 0 fun _ => none) Fence.wide := ⟨hm, hΓ, hE, hK, hGc, .wide, fun _ => rfl⟩
  have hx := sureC_all hfr
  unfold runC at hx
  rw [hb] at hx
  refine (callsIn_wide (n := 0)).1 (callsIn_of_wpB hf hb trivial ?_)
  refine wpB_mono (exec_sound (G := Gh.inner (fun _ => False) S w G.l 0 fun _ => none) (K := outC t T e) (ch := Tree.any) (T := fun tt : Tree (Option FR) => tt.All (LikeC T e sl)) hEnv (fun a b q => q) ⟨(fun q => by obtain ⟨_, q, _⟩ := q; cases q), (fun s' q => by obtain ⟨_, q, _⟩ := q; cases q)⟩ hx (hl _ rfl inner_free hEnv) ⟨_, _, _, h0⟩) ?_
  rintro en a' w' ⟨o, ho, hT⟩
  have fin : ∀ s', SX P fn.ntmps (Gh.inner (fun _ => False) S w G.l 0 fun _ => none) s' a' w' → (outC t T e (.ret s')).All (LikeC T e sl) →
      LeavesInM Fence.wide 0 P fn a'.tmps (fun en w' => ∃ r, (Tree.br (some sl).isSome (.leaf (.ok ⟨some (freshS wr id0 e ((some sl).getD ⟨0, fun _ => e.dflt⟩)), [(id0, freshO wr T e ((some sl).getD ⟨0, fun _ => e.dflt⟩))], [id0], false, none⟩)) (.leaf .bad)).Has r ∧ CallPost P N G s a r en w') a'.defers .returning w' := by
    rintro s' ⟨ρ', S', F', hs⟩ hT
    have hmk : allMark s'.dfr = true := by
      simp only [outC] at hT
      cases hm : allMark s'.dfr with
      | true => rfl
      | false => rw [hm] at hT; obtain ⟨_, q, _⟩ := hT; cases q
    refine leaves_marks hGc (by simp) _ rfl hmk hs fun w'' q1 _ => ?_
    -- what the row is
    have hrow : ∃ ob : Option Nat, FreshRow P S' w w'' T e sl (a'.tmps.getD t undef) ob := by
      have hrc := q1.env t
      simp only [outC, hmk] at hT
      split at hT
      · rename_i id v e' sl' _ hse
        split at hT
        case h_2 => obtain ⟨_, q, _⟩ := hT; cases q
        rename_i v' T' k n hse2
        split at hT
        case h_2 => obtain ⟨_, q, _⟩ := hT; cases q
        rename_i hc
        obtain ⟨s0, hT, hlike⟩ := hT
        have hT : some (⟨T', e', sl'⟩ : FR) = some ⟨T, e, s0⟩ := hT
        cases hT
        cases Nat.eq_of_beq_eq_true hc
        have hse : ({ s' with dfr := [] } : St).env t = .v (.own id v e s0) := hse
        have hse2 : ({ s' with dfr := [] } : St).heap id = .chain v T k n := hse2
        rw [hse] at hrc
        obtain ⟨r1, _, cur, T0, k0, n0, r2, _, r4⟩ := hrc
        rw [hse2] at r2
        cases r2
        obtain ⟨r5, r6, r7⟩ := r4 rfl
        subst r5 r6
        have hobj := q1.obj id
        rw [hse2] at hobj
        rcases r7 with ⟨g0, g1, g2⟩ | ⟨b, cap, arr, g1, g2, g3, g4, g5, g6⟩
        · exact ⟨none, FreshRow.like (s := s0) ⟨r1, .inl ⟨rfl, g1, g2⟩⟩ hlike⟩
        · rcases hobj with ⟨o1, _⟩ | ⟨b', o1, o2, o3, o4, o5⟩
          · rw [g1] at o1; cases o1
          · rw [g1] at o1; cases o1
            exact ⟨some b, FreshRow.like (s := s0) ⟨r1, .inr ⟨b, cap, arr, rfl, g2, g3, g4, g5, g6, o2.1.elim (fun x => x) (fun x => x.elim), o5⟩⟩ hlike⟩
      · rename_i _ hse
        obtain ⟨s0, hT, hlike⟩ := hT
        have hT : some (⟨T, e, ⟨0, fun _ => e.dflt⟩⟩ : FR) = some ⟨T, e, s0⟩ := hT
        cases hT
        have hse : ({ s' with dfr := [] } : St).env t = .v .nils := hse
        rw [hse] at hrc
        obtain ⟨ad, hv⟩ := hrc
        exact ⟨none, FreshRow.like (s := ⟨0, fun _ => e.dflt⟩) ⟨.inl ⟨rfl, ad, 0, by rw [← hv]⟩, .inl ⟨rfl, rfl, ad, hv⟩⟩ hlike⟩
      · obtain ⟨_, q, _⟩ := hT; cases q
    obtain ⟨ob, hv, hob⟩ := hrow
    cases wr with
    | true =>
      obtain ⟨hpl, hpos⟩ := hwr rfl
      have hS2 : SR P fn.ntmps (Gh.inner (fun _ => False) S w G.l 0 fun _ => none) ⟨fun _ => .top, fun i => bif Nat.beq i id0 then .row 0 T e sl else .none, .none, 0, []⟩ { a' with defers := [] } w''
          (fun i => bif Nat.beq i id0 then ob else none) (fun b' o => S' b' o ∧ ob ≠ some b') (fun _ => False) := by
        refine ⟨q1.size, trivial, fun _ => trivial, fun i => ?_, fun i j b' hi hj h1 h2 => ?_, ⟨q1.ext.size, fun b' o q => ⟨q1.ext.sub b' o q, fun e => ?_⟩, q1.ext.same, q1.ext.maps, fun b' o q => q1.ext.bd b' o q.1, q1.ext.pl⟩, fun b' o q => q1.new b' o q.1,
          q1.same.mono fun b' q => ⟨q.1, q.2.1, q.2.2⟩, inner_free _ _ _, fun _ q => q.elim, fun _ _ q => q, fun _ q => q, fun _ _ _ _ => trivial, fun _ _ q => by cases q⟩
        · by_cases hi : i = id0
          · subst hi
            simp only [Nat.beq_refl, cond_true]
            refine ⟨⟨hfl, hpos⟩, ?_⟩
            rcases hob with ⟨g0, g1, _⟩ | ⟨b, cap, arr, g0, g1, g2, g3, g4, g5, g6, g7⟩
            · exact .inl ⟨by simp [g0], g1⟩
            · refine .inr ⟨b, arr, by simp [g0], ⟨.inl g6, fun q => q⟩, g4, by rw [g5]; exact Nat.mul_le_mul_right _ g2, fun k hk => ⟨encs e (sl.g k), (Go.Dm.R.plain hpl).2 rfl, encs_len _ _ hpl, fun j u hu => ?_⟩, fun o q => q.2 (by rw [g0])⟩
              rcases hv with ⟨r0, _⟩ | ⟨b', o', cap', m1, m2, m3, m4⟩
              · omega
              · have m1 := (List.cons.inj m1).1
                rw [g1] at m1
                cases m1
                obtain ⟨us', m5, m6, m7⟩ := m4 k hk
                rw [(Go.Dm.R.plain hpl).1 m5] at m7
                obtain ⟨_, m8⟩ := m7 j u hu
                rw [cell_of_row w'' b _ arr T _ g4] at m8
                rw [← m8]; congr 1; omega
          · simp only [beq_ne hi, cond_false]; trivial
        · by_cases hi' : i = id0
          · by_cases hj' : j = id0
            · rw [hi', hj']
            · simp only [beq_ne hj', cond_false] at hj; exact hj.elim
          · simp only [beq_ne hi', cond_false] at hi; exact hi.elim
        · rcases hob with ⟨g0, _⟩ | ⟨b, cap, arr, g0, g1, g2, g3, g4, g5, g6, g7⟩
          · rw [g0] at e; cases e
          · rw [g0] at e; cases e
            have := h.bd b' o q
            omega
      have hback := h.back hG (D := fun i => Nat.beq i id0) hS2 (fun b hb => hb.elim) (fun id hn => by
          cases hb : Nat.beq id id0 with
          | true => rfl
          | false => simp only [hb, cond_false] at hn; exact absurd rfl hn)
        (fun id hid => by rw [Nat.eq_of_beq_eq_true hid, hno]; trivial) (fun id b hid hb => by have := hG.pin id b hb; have := Nat.eq_of_beq_eq_true hid; omega)
      have hr0 : (results fn a'.tmps).run P w'' = .ok (a'.tmps.getD t undef) w'' := by
        simp [results, hres]
      refine ⟨_, hr0, .ok ⟨some (.v (.row id0 0)), [(id0, .row 0 T e sl)], [id0], false, none⟩, rfl, _, _, _, _, rfl, hback.of_eq rfl ?_ rfl rfl, ?_⟩
      · funext i
        show putH s.heap [(id0, .row 0 T e sl)] i = over (fun i => Nat.beq i id0) (fun i => bif Nat.beq i id0 then .row 0 T e sl else .none) s.heap i
        by_cases hi : i = id0
        · subst hi; simp [putH, setHeap, over]
        · simp [putH, setHeap, over, beq_ne hi]
      · show RC P G.Y (fun b' o => S' b' o ∧ ob ≠ some b') w'' (putH s.heap [(id0, .row 0 T e sl)]) (overR (fun i => Nat.beq i id0) (fun i => bif Nat.beq i id0 then ob else none) ρ) (.row id0 0) (a'.tmps.getD t undef)
        have hh : putH s.heap [(id0, .row 0 T e sl)] id0 = .row 0 T e sl := by simp [putH, setHeap]
        refine ⟨by rw [hh]; simp, ?_, fun cu1 T1 e1 s1 hd => ?_⟩
        · rcases hob with ⟨_, _, ad, g2⟩ | ⟨b, cap, arr, g0, g1, _⟩
          · exact ⟨_, _, _, g2⟩
          · exact ⟨_, _, _, g1⟩
        · rw [hh] at hd
          cases hd
          refine ⟨Nat.le_refl _, fun _ => ?_⟩
          rcases hob with ⟨g0, g1, ad, g2⟩ | ⟨b, cap, arr, g0, g1, g2, g3, g4, g5, g6, g7⟩
          · exact .inl ⟨g1, ad, g2⟩
          · exact .inr ⟨b, cap, by simp [overR, g0], g1, g2, g3, (Array.getElem?_eq_some_iff.1 g4).1, fun arr1 T1 f1 ha => by rw [g4] at ha; cases ha; exact g5⟩
    | false =>
      have hS2 : SR P fn.ntmps (Gh.inner (fun _ => False) S w G.l 0 fun _ => none) ⟨fun _ => .top, fun i => bif Nat.beq i id0 then .chain 0 T e.cells sl.n else .none, .none, 0, []⟩ { a' with defers := [] } w''
          (fun i => bif Nat.beq i id0 then ob else none) S' (fun _ => False) := by
        refine ⟨q1.size, trivial, fun _ => trivial, fun i => ?_, fun i j b' hi hj h1 h2 => ?_, q1.ext, q1.new,
          q1.same.mono fun b' q => ⟨q.1, q.2.1, q.2.2⟩, inner_free _ _ _, fun _ q => q.elim, fun _ _ q => q, fun _ q => q, fun _ _ _ _ => trivial, fun _ _ q => by cases q⟩
        · by_cases hi : i = id0
          · subst hi
            simp only [Nat.beq_refl, cond_true]
            rcases hob with ⟨g0, g1, _⟩ | ⟨b, cap, arr, g0, g1, g2, g3, g4, g5, g6, g7⟩
            · exact .inl ⟨by simp [g0], g1⟩
            · exact .inr ⟨b, by simp [g0], ⟨.inl g6, fun q => q⟩, (Array.getElem?_eq_some_iff.1 g4).1, ⟨_, _, _, g4⟩, g7⟩
          · simp only [beq_ne hi, cond_false]; trivial
        · by_cases hi' : i = id0
          · by_cases hj' : j = id0
            · rw [hi', hj']
            · simp only [beq_ne hj', cond_false] at hj; exact hj.elim
          · simp only [beq_ne hi', cond_false] at hi; exact hi.elim
      have hback := h.back hG (D := fun i => Nat.beq i id0) hS2 (fun b hb => hb.elim) (fun id hn => by
          cases hb : Nat.beq id id0 with
          | true => rfl
          | false => simp only [hb, cond_false] at hn; exact absurd rfl hn)
        (fun id hid => by rw [Nat.eq_of_beq_eq_true hid, hno]; trivial) (fun id b hid hb => by have := hG.pin id b hb; have := Nat.eq_of_beq_eq_true hid; omega)
      have hr0 : (results fn a'.tmps).run P w'' = .ok (a'.tmps.getD t undef) w'' := by
        simp [results, hres]
      refine ⟨_, hr0, .ok ⟨some (.v (.own id0 0 e sl)), [(id0, .chain 0 T e.cells sl.n)], [id0], false, none⟩, rfl, _, _, _, _, rfl, hback.of_eq rfl ?_ rfl rfl, ?_⟩
      · funext i
        show putH s.heap [(id0, .chain 0 T e.cells sl.n)] i = over (fun i => Nat.beq i id0) (fun i => bif Nat.beq i id0 then .chain 0 T e.cells sl.n else .none) s.heap i
        by_cases hi : i = id0
        · subst hi; simp [putH, setHeap, over]
        · simp [putH, setHeap, over, beq_ne hi]
      · show RC P G.Y S' w'' (putH s.heap [(id0, .chain 0 T e.cells sl.n)]) (overR (fun i => Nat.beq i id0) (fun i => bif Nat.beq i id0 then ob else none) ρ) (.own id0 0 e sl) (a'.tmps.getD t undef)
        have hh : putH s.heap [(id0, .chain 0 T e.cells sl.n)] id0 = .chain 0 T e.cells sl.n := by simp [putH, setHeap]
        refine ⟨hv, hfl, 0, T, e.cells, sl.n, hh, Nat.le_refl _, fun _ => ⟨rfl, rfl, ?_⟩⟩
        rcases hob with ⟨g0, g1, ad, g2⟩ | ⟨b, cap, arr, g0, g1, g2, g3, g4, g5, g6, g7⟩
        · exact .inl ⟨by simp [overR, g0], g1, ad, g2⟩
        · exact .inr ⟨b, cap, arr, by simp [overR, g0], g1, g2, g3, g4, g5⟩
  cases o with
  | norm s => cases en <;> first | exact ho.elim | exact fin s ho hT
  | ret s => cases en <;> first | exact ho.elim | exact fin s ho hT
  | exit id s => obtain ⟨_, q, _⟩ := hT; cases q
  | pan d s => obtain ⟨_, q, _⟩ := hT; cases q
  | bad => obtain ⟨_, q, _⟩ := hT; cases q
end Go.Dm

/-
  Choices that hand on what they found.
-/
namespace Go.Dm
open Go.RowKit

def cl {α β : Type} (d : α) (m : Option α) (f : α → β) (g : β) : β := bif m.isSome then f (m.getD d) else g
theorem sure_cl {γ : Type} {α : Type} (d : α) (m : Option α) (f : α → Tree (Option γ)) (g : Tree (Option γ)) : Tree.sure (cl d m f g) = cl d m (fun y => Tree.sure (f y)) (Tree.sure g) := by unfold cl; cases m.isSome <;> rfl
theorem sureC_cl {T0 : TypeId} {e0 : Ty} {α : Type} (d : α) (m : Option α) (f : α → Tree (Option FR)) (g : Tree (Option FR)) : Tree.sureC T0 e0 (cl d m f g) = cl d m (fun y => Tree.sureC T0 e0 (f y)) (Tree.sureC T0 e0 g) := by unfold cl; cases m.isSome <;> rfl
theorem detB_cl {γ : Type} (bad : γ) {α : Type} (d : α) (m : Option α) (f : α → Tree γ) (g : Tree γ) : Tree.detB bad (cl d m f g) = cl d m (fun y => Tree.detB bad (f y)) (Tree.detB bad g) := by unfold cl; cases m.isSome <;> rfl
theorem detQ_cl {ps0 : List Pat} {wy0 : Ways} {α : Type} (d : α) (m : Option α) (f : α → Tree (RQ ps0 wy0)) (g : Tree (RQ ps0 wy0)) : detQ (cl d m f g) = cl d m (fun y => detQ (f y)) (detQ g) := by unfold cl; cases m.isSome <;> rfl
theorem lift_cl {C : Type} {vs0 ps0 : List Pat} {wv0 wy0 : Ways} {join : C → (patsTy vs0).den → (patsTy ps0).den} {je : (id : Nat) → C → (patsTy (wayP wv0 id)).den → (patsTy (wayP wy0 id)).den} {jr : C → (patsTy wv0.ret).den → (patsTy wy0.ret).den} {jp : C → (patsTy wv0.pan).den → (patsTy wy0.pan).den} {c : C} {α : Type} (d : α) (m : Option α) (f : α → RQ vs0 wv0) (g : RQ vs0 wv0) : RQ.lift join je jr jp c (cl d m f g) = cl d m (fun y => RQ.lift join je jr jp c (f y)) (RQ.lift join je jr jp c g) := by unfold cl; cases m.isSome <;> rfl
def onExit {wy : Ways} {β : Type} (q : LQ wy) (id : Nat) (f : (patsTy (wayP wy id)).den → β) (g : β) : β := bif (q.isExit id) then f (q.getExit id) else g
theorem sure_onExit {γ : Type} {wy : Ways} (q : LQ wy) (id : Nat) (f : (patsTy (wayP wy id)).den → Tree (Option γ)) (g : Tree (Option γ)) : Tree.sure (onExit q id f g) = onExit q id (fun y => Tree.sure (f y)) (Tree.sure g) := by unfold onExit; cases (q.isExit id) <;> rfl
theorem sureC_onExit {T0 : TypeId} {e0 : Ty} {wy : Ways} (q : LQ wy) (id : Nat) (f : (patsTy (wayP wy id)).den → Tree (Option FR)) (g : Tree (Option FR)) : Tree.sureC T0 e0 (onExit q id f g) = onExit q id (fun y => Tree.sureC T0 e0 (f y)) (Tree.sureC T0 e0 g) := by unfold onExit; cases (q.isExit id) <;> rfl
theorem detB_onExit {γ : Type} (bad : γ) {wy : Ways} (q : LQ wy) (id : Nat) (f : (patsTy (wayP wy id)).den → Tree γ) (g : Tree γ) : Tree.detB bad (onExit q id f g) = onExit q id (fun y => Tree.detB bad (f y)) (Tree.detB bad g) := by unfold onExit; cases (q.isExit id) <;> rfl
theorem detQ_onExit {ps0 : List Pat} {wy0 : Ways} {wy : Ways} (q : LQ wy) (id : Nat) (f : (patsTy (wayP wy id)).den → Tree (RQ ps0 wy0)) (g : Tree (RQ ps0 wy0)) : detQ (onExit q id f g) = onExit q id (fun y => detQ (f y)) (detQ g) := by unfold onExit; cases (q.isExit id) <;> rfl
theorem lift_onExit {C : Type} {vs0 ps0 : List Pat} {wv0 wy0 : Ways} {join : C → (patsTy vs0).den → (patsTy ps0).den} {je : (id : Nat) → C → (patsTy (wayP wv0 id)).den → (patsTy (wayP wy0 id)).den} {jr : C → (patsTy wv0.ret).den → (patsTy wy0.ret).den} {jp : C → (patsTy wv0.pan).den → (patsTy wy0.pan).den} {c : C} {wy : Ways} (q : LQ wy) (id : Nat) (f : (patsTy (wayP wy id)).den → RQ vs0 wv0) (g : RQ vs0 wv0) : RQ.lift join je jr jp c (onExit q id f g) = onExit q id (fun y => RQ.lift join je jr jp c (f y)) (RQ.lift join je jr jp c g) := by unfold onExit; cases (q.isExit id) <;> rfl
def onRet {wy : Ways} {β : Type} (q : LQ wy) (f : (patsTy wy.ret).den → β) (g : β) : β := bif q.isRet then f q.getRet else g
theorem sure_onRet {γ : Type} {wy : Ways} (q : LQ wy) (f : (patsTy wy.ret).den → Tree (Option γ)) (g : Tree (Option γ)) : Tree.sure (onRet q f g) = onRet q (fun y => Tree.sure (f y)) (Tree.sure g) := by unfold onRet; cases q.isRet <;> rfl
theorem sureC_onRet {T0 : TypeId} {e0 : Ty} {wy : Ways} (q : LQ wy) (f : (patsTy wy.ret).den → Tree (Option FR)) (g : Tree (Option FR)) : Tree.sureC T0 e0 (onRet q f g) = onRet q (fun y => Tree.sureC T0 e0 (f y)) (Tree.sureC T0 e0 g) := by unfold onRet; cases q.isRet <;> rfl
theorem detB_onRet {γ : Type} (bad : γ) {wy : Ways} (q : LQ wy) (f : (patsTy wy.ret).den → Tree γ) (g : Tree γ) : Tree.detB bad (onRet q f g) = onRet q (fun y => Tree.detB bad (f y)) (Tree.detB bad g) := by unfold onRet; cases q.isRet <;> rfl
theorem detQ_onRet {ps0 : List Pat} {wy0 : Ways} {wy : Ways} (q : LQ wy) (f : (patsTy wy.ret).den → Tree (RQ ps0 wy0)) (g : Tree (RQ ps0 wy0)) : detQ (onRet q f g) = onRet q (fun y => detQ (f y)) (detQ g) := by unfold onRet; cases q.isRet <;> rfl
theorem lift_onRet {C : Type} {vs0 ps0 : List Pat} {wv0 wy0 : Ways} {join : C → (patsTy vs0).den → (patsTy ps0).den} {je : (id : Nat) → C → (patsTy (wayP wv0 id)).den → (patsTy (wayP wy0 id)).den} {jr : C → (patsTy wv0.ret).den → (patsTy wy0.ret).den} {jp : C → (patsTy wv0.pan).den → (patsTy wy0.pan).den} {c : C} {wy : Ways} (q : LQ wy) (f : (patsTy wy.ret).den → RQ vs0 wv0) (g : RQ vs0 wv0) : RQ.lift join je jr jp c (onRet q f g) = onRet q (fun y => RQ.lift join je jr jp c (f y)) (RQ.lift join je jr jp c g) := by unfold onRet; cases q.isRet <;> rfl
def onPanL {wy : Ways} {β : Type} (q : LQ wy) (T : TypeId) (τ : Ty) (f : τ.den × (patsTy wy.pan).den → β) (g : β) : β := bif (q.isPan T τ) then f (q.getPan τ, q.getPanY) else g
theorem sure_onPanL {γ : Type} {wy : Ways} (q : LQ wy) (T : TypeId) (τ : Ty) (f : τ.den × (patsTy wy.pan).den → Tree (Option γ)) (g : Tree (Option γ)) : Tree.sure (onPanL q T τ f g) = onPanL q T τ (fun y => Tree.sure (f y)) (Tree.sure g) := by unfold onPanL; cases (q.isPan T τ) <;> rfl
theorem sureC_onPanL {T0 : TypeId} {e0 : Ty} {wy : Ways} (q : LQ wy) (T : TypeId) (τ : Ty) (f : τ.den × (patsTy wy.pan).den → Tree (Option FR)) (g : Tree (Option FR)) : Tree.sureC T0 e0 (onPanL q T τ f g) = onPanL q T τ (fun y => Tree.sureC T0 e0 (f y)) (Tree.sureC T0 e0 g) := by unfold onPanL; cases (q.isPan T τ) <;> rfl
theorem detB_onPanL {γ : Type} (bad : γ) {wy : Ways} (q : LQ wy) (T : TypeId) (τ : Ty) (f : τ.den × (patsTy wy.pan).den → Tree γ) (g : Tree γ) : Tree.detB bad (onPanL q T τ f g) = onPanL q T τ (fun y => Tree.detB bad (f y)) (Tree.detB bad g) := by unfold onPanL; cases (q.isPan T τ) <;> rfl
theorem detQ_onPanL {ps0 : List Pat} {wy0 : Ways} {wy : Ways} (q : LQ wy) (T : TypeId) (τ : Ty) (f : τ.den × (patsTy wy.pan).den → Tree (RQ ps0 wy0)) (g : Tree (RQ ps0 wy0)) : detQ (onPanL q T τ f g) = onPanL q T τ (fun y => detQ (f y)) (detQ g) := by unfold onPanL; cases (q.isPan T τ) <;> rfl
theorem lift_onPanL {C : Type} {vs0 ps0 : List Pat} {wv0 wy0 : Ways} {join : C → (patsTy vs0).den → (patsTy ps0).den} {je : (id : Nat) → C → (patsTy (wayP wv0 id)).den → (patsTy (wayP wy0 id)).den} {jr : C → (patsTy wv0.ret).den → (patsTy wy0.ret).den} {jp : C → (patsTy wv0.pan).den → (patsTy wy0.pan).den} {c : C} {wy : Ways} (q : LQ wy) (T : TypeId) (τ : Ty) (f : τ.den × (patsTy wy.pan).den → RQ vs0 wv0) (g : RQ vs0 wv0) : RQ.lift join je jr jp c (onPanL q T τ f g) = onPanL q T τ (fun y => RQ.lift join je jr jp c (f y)) (RQ.lift join je jr jp c g) := by unfold onPanL; cases (q.isPan T τ) <;> rfl
def onNext {mps : List Pat} {β : Type} (o : RO mps) (f : (patsTy mps).den → β) (g : β) : β := bif o.isNext then f o.getX else g
theorem sure_onNext {γ : Type} {mps : List Pat} (o : RO mps) (f : (patsTy mps).den → Tree (Option γ)) (g : Tree (Option γ)) : Tree.sure (onNext o f g) = onNext o (fun y => Tree.sure (f y)) (Tree.sure g) := by unfold onNext; cases o.isNext <;> rfl
theorem sureC_onNext {T0 : TypeId} {e0 : Ty} {mps : List Pat} (o : RO mps) (f : (patsTy mps).den → Tree (Option FR)) (g : Tree (Option FR)) : Tree.sureC T0 e0 (onNext o f g) = onNext o (fun y => Tree.sureC T0 e0 (f y)) (Tree.sureC T0 e0 g) := by unfold onNext; cases o.isNext <;> rfl
theorem detB_onNext {γ : Type} (bad : γ) {mps : List Pat} (o : RO mps) (f : (patsTy mps).den → Tree γ) (g : Tree γ) : Tree.detB bad (onNext o f g) = onNext o (fun y => Tree.detB bad (f y)) (Tree.detB bad g) := by unfold onNext; cases o.isNext <;> rfl
theorem detQ_onNext {ps0 : List Pat} {wy0 : Ways} {mps : List Pat} (o : RO mps) (f : (patsTy mps).den → Tree (RQ ps0 wy0)) (g : Tree (RQ ps0 wy0)) : detQ (onNext o f g) = onNext o (fun y => detQ (f y)) (detQ g) := by unfold onNext; cases o.isNext <;> rfl
theorem lift_onNext {C : Type} {vs0 ps0 : List Pat} {wv0 wy0 : Ways} {join : C → (patsTy vs0).den → (patsTy ps0).den} {je : (id : Nat) → C → (patsTy (wayP wv0 id)).den → (patsTy (wayP wy0 id)).den} {jr : C → (patsTy wv0.ret).den → (patsTy wy0.ret).den} {jp : C → (patsTy wv0.pan).den → (patsTy wy0.pan).den} {c : C} {mps : List Pat} (o : RO mps) (f : (patsTy mps).den → RQ vs0 wv0) (g : RQ vs0 wv0) : RQ.lift join je jr jp c (onNext o f g) = onNext o (fun y => RQ.lift join je jr jp c (f y)) (RQ.lift join je jr jp c g) := by unfold onNext; cases o.isNext <;> rfl
def onBrk {mps : List Pat} {β : Type} (o : RO mps) (id : Nat) (f : (patsTy mps).den → β) (g : β) : β := bif (o.isBrk id) then f o.getX else g
theorem sure_onBrk {γ : Type} {mps : List Pat} (o : RO mps) (id : Nat) (f : (patsTy mps).den → Tree (Option γ)) (g : Tree (Option γ)) : Tree.sure (onBrk o id f g) = onBrk o id (fun y => Tree.sure (f y)) (Tree.sure g) := by unfold onBrk; cases (o.isBrk id) <;> rfl
theorem sureC_onBrk {T0 : TypeId} {e0 : Ty} {mps : List Pat} (o : RO mps) (id : Nat) (f : (patsTy mps).den → Tree (Option FR)) (g : Tree (Option FR)) : Tree.sureC T0 e0 (onBrk o id f g) = onBrk o id (fun y => Tree.sureC T0 e0 (f y)) (Tree.sureC T0 e0 g) := by unfold onBrk; cases (o.isBrk id) <;> rfl
theorem detB_onBrk {γ : Type} (bad : γ) {mps : List Pat} (o : RO mps) (id : Nat) (f : (patsTy mps).den → Tree γ) (g : Tree γ) : Tree.detB bad (onBrk o id f g) = onBrk o id (fun y => Tree.detB bad (f y)) (Tree.detB bad g) := by unfold onBrk; cases (o.isBrk id) <;> rfl
theorem detQ_onBrk {ps0 : List Pat} {wy0 : Ways} {mps : List Pat} (o : RO mps) (id : Nat) (f : (patsTy mps).den → Tree (RQ ps0 wy0)) (g : Tree (RQ ps0 wy0)) : detQ (onBrk o id f g) = onBrk o id (fun y => detQ (f y)) (detQ g) := by unfold onBrk; cases (o.isBrk id) <;> rfl
theorem lift_onBrk {C : Type} {vs0 ps0 : List Pat} {wv0 wy0 : Ways} {join : C → (patsTy vs0).den → (patsTy ps0).den} {je : (id : Nat) → C → (patsTy (wayP wv0 id)).den → (patsTy (wayP wy0 id)).den} {jr : C → (patsTy wv0.ret).den → (patsTy wy0.ret).den} {jp : C → (patsTy wv0.pan).den → (patsTy wy0.pan).den} {c : C} {mps : List Pat} (o : RO mps) (id : Nat) (f : (patsTy mps).den → RQ vs0 wv0) (g : RQ vs0 wv0) : RQ.lift join je jr jp c (onBrk o id f g) = onBrk o id (fun y => RQ.lift join je jr jp c (f y)) (RQ.lift join je jr jp c g) := by unfold onBrk; cases (o.isBrk id) <;> rfl
def onRetO {mps : List Pat} {β : Type} (o : RO mps) (f : (patsTy mps).den → β) (g : β) : β := bif o.isRet then f o.getX else g
theorem sure_onRetO {γ : Type} {mps : List Pat} (o : RO mps) (f : (patsTy mps).den → Tree (Option γ)) (g : Tree (Option γ)) : Tree.sure (onRetO o f g) = onRetO o (fun y => Tree.sure (f y)) (Tree.sure g) := by unfold onRetO; cases o.isRet <;> rfl
theorem sureC_onRetO {T0 : TypeId} {e0 : Ty} {mps : List Pat} (o : RO mps) (f : (patsTy mps).den → Tree (Option FR)) (g : Tree (Option FR)) : Tree.sureC T0 e0 (onRetO o f g) = onRetO o (fun y => Tree.sureC T0 e0 (f y)) (Tree.sureC T0 e0 g) := by unfold onRetO; cases o.isRet <;> rfl
theorem detB_onRetO {γ : Type} (bad : γ) {mps : List Pat} (o : RO mps) (f : (patsTy mps).den → Tree γ) (g : Tree γ) : Tree.detB bad (onRetO o f g) = onRetO o (fun y => Tree.detB bad (f y)) (Tree.detB bad g) := by unfold onRetO; cases o.isRet <;> rfl
theorem detQ_onRetO {ps0 : List Pat} {wy0 : Ways} {mps : List Pat} (o : RO mps) (f : (patsTy mps).den → Tree (RQ ps0 wy0)) (g : Tree (RQ ps0 wy0)) : detQ (onRetO o f g) = onRetO o (fun y => detQ (f y)) (detQ g) := by unfold onRetO; cases o.isRet <;> rfl
theorem lift_onRetO {C : Type} {vs0 ps0 : List Pat} {wv0 wy0 : Ways} {join : C → (patsTy vs0).den → (patsTy ps0).den} {je : (id : Nat) → C → (patsTy (wayP wv0 id)).den → (patsTy (wayP wy0 id)).den} {jr : C → (patsTy wv0.ret).den → (patsTy wy0.ret).den} {jp : C → (patsTy wv0.pan).den → (patsTy wy0.pan).den} {c : C} {mps : List Pat} (o : RO mps) (f : (patsTy mps).den → RQ vs0 wv0) (g : RQ vs0 wv0) : RQ.lift join je jr jp c (onRetO o f g) = onRetO o (fun y => RQ.lift join je jr jp c (f y)) (RQ.lift join je jr jp c g) := by unfold onRetO; cases o.isRet <;> rfl
def onPan {mps : List Pat} {β : Type} (o : RO mps) (T : TypeId) (τ : Ty) (f : τ.den × (patsTy mps).den → β) (g : β) : β := bif (o.isPan T τ) then f (o.getPan τ, o.getX) else g
theorem sure_onPan {γ : Type} {mps : List Pat} (o : RO mps) (T : TypeId) (τ : Ty) (f : τ.den × (patsTy mps).den → Tree (Option γ)) (g : Tree (Option γ)) : Tree.sure (onPan o T τ f g) = onPan o T τ (fun y => Tree.sure (f y)) (Tree.sure g) := by unfold onPan; cases (o.isPan T τ) <;> rfl
theorem sureC_onPan {T0 : TypeId} {e0 : Ty} {mps : List Pat} (o : RO mps) (T : TypeId) (τ : Ty) (f : τ.den × (patsTy mps).den → Tree (Option FR)) (g : Tree (Option FR)) : Tree.sureC T0 e0 (onPan o T τ f g) = onPan o T τ (fun y => Tree.sureC T0 e0 (f y)) (Tree.sureC T0 e0 g) := by unfold onPan; cases (o.isPan T τ) <;> rfl
theorem detB_onPan {γ : Type} (bad : γ) {mps : List Pat} (o : RO mps) (T : TypeId) (τ : Ty) (f : τ.den × (patsTy mps).den → Tree γ) (g : Tree γ) : Tree.detB bad (onPan o T τ f g) = onPan o T τ (fun y => Tree.detB bad (f y)) (Tree.detB bad g) := by unfold onPan; cases (o.isPan T τ) <;> rfl
theorem detQ_onPan {ps0 : List Pat} {wy0 : Ways} {mps : List Pat} (o : RO mps) (T : TypeId) (τ : Ty) (f : τ.den × (patsTy mps).den → Tree (RQ ps0 wy0)) (g : Tree (RQ ps0 wy0)) : detQ (onPan o T τ f g) = onPan o T τ (fun y => detQ (f y)) (detQ g) := by unfold onPan; cases (o.isPan T τ) <;> rfl
theorem lift_onPan {C : Type} {vs0 ps0 : List Pat} {wv0 wy0 : Ways} {join : C → (patsTy vs0).den → (patsTy ps0).den} {je : (id : Nat) → C → (patsTy (wayP wv0 id)).den → (patsTy (wayP wy0 id)).den} {jr : C → (patsTy wv0.ret).den → (patsTy wy0.ret).den} {jp : C → (patsTy wv0.pan).den → (patsTy wy0.pan).den} {c : C} {mps : List Pat} (o : RO mps) (T : TypeId) (τ : Ty) (f : τ.den × (patsTy mps).den → RQ vs0 wv0) (g : RQ vs0 wv0) : RQ.lift join je jr jp c (onPan o T τ f g) = onPan o T τ (fun y => RQ.lift join je jr jp c (f y)) (RQ.lift join je jr jp c g) := by unfold onPan; cases (o.isPan T τ) <;> rfl
def onOk {τr : Ty} {qs : List Pat} {β : Type} (o : GO τr qs) (f : τr.den × (patsTy qs).den → β) (g : β) : β := bif o.isOk then f (o.getR, o.getY) else g
theorem sure_onOk {γ : Type} {τr : Ty} {qs : List Pat} (o : GO τr qs) (f : τr.den × (patsTy qs).den → Tree (Option γ)) (g : Tree (Option γ)) : Tree.sure (onOk o f g) = onOk o (fun y => Tree.sure (f y)) (Tree.sure g) := by unfold onOk; cases o.isOk <;> rfl
theorem sureC_onOk {T0 : TypeId} {e0 : Ty} {τr : Ty} {qs : List Pat} (o : GO τr qs) (f : τr.den × (patsTy qs).den → Tree (Option FR)) (g : Tree (Option FR)) : Tree.sureC T0 e0 (onOk o f g) = onOk o (fun y => Tree.sureC T0 e0 (f y)) (Tree.sureC T0 e0 g) := by unfold onOk; cases o.isOk <;> rfl
theorem detB_onOk {γ : Type} (bad : γ) {τr : Ty} {qs : List Pat} (o : GO τr qs) (f : τr.den × (patsTy qs).den → Tree γ) (g : Tree γ) : Tree.detB bad (onOk o f g) = onOk o (fun y => Tree.detB bad (f y)) (Tree.detB bad g) := by unfold onOk; cases o.isOk <;> rfl
theorem detQ_onOk {ps0 : List Pat} {wy0 : Ways} {τr : Ty} {qs : List Pat} (o : GO τr qs) (f : τr.den × (patsTy qs).den → Tree (RQ ps0 wy0)) (g : Tree (RQ ps0 wy0)) : detQ (onOk o f g) = onOk o (fun y => detQ (f y)) (detQ g) := by unfold onOk; cases o.isOk <;> rfl
theorem lift_onOk {C : Type} {vs0 ps0 : List Pat} {wv0 wy0 : Ways} {join : C → (patsTy vs0).den → (patsTy ps0).den} {je : (id : Nat) → C → (patsTy (wayP wv0 id)).den → (patsTy (wayP wy0 id)).den} {jr : C → (patsTy wv0.ret).den → (patsTy wy0.ret).den} {jp : C → (patsTy wv0.pan).den → (patsTy wy0.pan).den} {c : C} {τr : Ty} {qs : List Pat} (o : GO τr qs) (f : τr.den × (patsTy qs).den → RQ vs0 wv0) (g : RQ vs0 wv0) : RQ.lift join je jr jp c (onOk o f g) = onOk o (fun y => RQ.lift join je jr jp c (f y)) (RQ.lift join je jr jp c g) := by unfold onOk; cases o.isOk <;> rfl
def onGPan {τr : Ty} {qs : List Pat} {β : Type} (o : GO τr qs) (T : TypeId) (τ : Ty) (f : τ.den × (patsTy qs).den → β) (g : β) : β := bif (o.isPan T τ) then f (o.getPan τ, o.getY) else g
theorem sure_onGPan {γ : Type} {τr : Ty} {qs : List Pat} (o : GO τr qs) (T : TypeId) (τ : Ty) (f : τ.den × (patsTy qs).den → Tree (Option γ)) (g : Tree (Option γ)) : Tree.sure (onGPan o T τ f g) = onGPan o T τ (fun y => Tree.sure (f y)) (Tree.sure g) := by unfold onGPan; cases (o.isPan T τ) <;> rfl
theorem sureC_onGPan {T0 : TypeId} {e0 : Ty} {τr : Ty} {qs : List Pat} (o : GO τr qs) (T : TypeId) (τ : Ty) (f : τ.den × (patsTy qs).den → Tree (Option FR)) (g : Tree (Option FR)) : Tree.sureC T0 e0 (onGPan o T τ f g) = onGPan o T τ (fun y => Tree.sureC T0 e0 (f y)) (Tree.sureC T0 e0 g) := by unfold onGPan; cases (o.isPan T τ) <;> rfl
theorem detB_onGPan {γ : Type} (bad : γ) {τr : Ty} {qs : List Pat} (o : GO τr qs) (T : TypeId) (τ : Ty) (f : τ.den × (patsTy qs).den → Tree γ) (g : Tree γ) : Tree.detB bad (onGPan o T τ f g) = onGPan o T τ (fun y => Tree.detB bad (f y)) (Tree.detB bad g) := by unfold onGPan; cases (o.isPan T τ) <;> rfl
theorem detQ_onGPan {ps0 : List Pat} {wy0 : Ways} {τr : Ty} {qs : List Pat} (o : GO τr qs) (T : TypeId) (τ : Ty) (f : τ.den × (patsTy qs).den → Tree (RQ ps0 wy0)) (g : Tree (RQ ps0 wy0)) : detQ (onGPan o T τ f g) = onGPan o T τ (fun y => detQ (f y)) (detQ g) := by unfold onGPan; cases (o.isPan T τ) <;> rfl
theorem lift_onGPan {C : Type} {vs0 ps0 : List Pat} {wv0 wy0 : Ways} {join : C → (patsTy vs0).den → (patsTy ps0).den} {je : (id : Nat) → C → (patsTy (wayP wv0 id)).den → (patsTy (wayP wy0 id)).den} {jr : C → (patsTy wv0.ret).den → (patsTy wy0.ret).den} {jp : C → (patsTy wv0.pan).den → (patsTy wy0.pan).den} {c : C} {τr : Ty} {qs : List Pat} (o : GO τr qs) (T : TypeId) (τ : Ty) (f : τ.den × (patsTy qs).den → RQ vs0 wv0) (g : RQ vs0 wv0) : RQ.lift join je jr jp c (onGPan o T τ f g) = onGPan o T τ (fun y => RQ.lift join je jr jp c (f y)) (RQ.lift join je jr jp c g) := by unfold onGPan; cases (o.isPan T τ) <;> rfl

@[simp] theorem cl_some {α β : Type} (d r : α) (f : α → β) (g : β) : cl d (some r) f g = f r := rfl
@[simp] theorem cl_none {α β : Type} (d : α) (f : α → β) (g : β) : cl d none f g = g := rfl
@[simp] theorem onExit_exit {wy : Ways} {β : Type} (id : Nat) (y : (patsTy (wayP wy id)).den) (f : (patsTy (wayP wy id)).den → β) (g : β) : onExit (LQ.exit id y) id f g = f y := by
  unfold onExit
  rw [LQ.getExit_exit, LQ.isExit_exit, Nat.beq_refl]
  rfl
theorem onExit_other {wy : Ways} {β : Type} {id id' : Nat} (h : Nat.beq id id' = false) (y : (patsTy (wayP wy id)).den) (f : (patsTy (wayP wy id')).den → β) (g : β) : onExit (LQ.exit id y) id' f g = g := by
  unfold onExit
  rw [LQ.isExit_exit, h]
  rfl
@[simp] theorem onExit_ret {wy : Ways} {β : Type} (id : Nat) (y : (patsTy wy.ret).den) (f : (patsTy (wayP wy id)).den → β) (g : β) : onExit (LQ.ret y) id f g = g := rfl
@[simp] theorem onExit_pan {wy : Ways} {β : Type} (T : TypeId) (τ : Ty) (x : τ.den) (y : (patsTy wy.pan).den) (id : Nat) (f : (patsTy (wayP wy id)).den → β) (g : β) : onExit (LQ.pan T τ x y) id f g = g := rfl
@[simp] theorem onRet_ret {wy : Ways} {β : Type} (y : (patsTy wy.ret).den) (f : (patsTy wy.ret).den → β) (g : β) : onRet (LQ.ret y) f g = f y := rfl
@[simp] theorem onRet_exit {wy : Ways} {β : Type} (id : Nat) (y : (patsTy (wayP wy id)).den) (f : (patsTy wy.ret).den → β) (g : β) : onRet (LQ.exit id y) f g = g := rfl
@[simp] theorem onRet_pan {wy : Ways} {β : Type} (T : TypeId) (τ : Ty) (x : τ.den) (y : (patsTy wy.pan).den) (f : (patsTy wy.ret).den → β) (g : β) : onRet (LQ.pan T τ x y) f g = g := rfl
@[simp] theorem onPanL_pan {wy : Ways} {β : Type} (T : TypeId) (τ : Ty) (x : τ.den) (y : (patsTy wy.pan).den) (f : τ.den × (patsTy wy.pan).den → β) (g : β) : onPanL (LQ.pan T τ x y) T τ f g = f (x, y) := by
  simp [onPanL, LQ.isPan, LQ.getPan, LQ.getPanY, castTy_self]
@[simp] theorem onPanL_exit {wy : Ways} {β : Type} (T : TypeId) (τ : Ty) (id : Nat) (y : (patsTy (wayP wy id)).den) (f : τ.den × (patsTy wy.pan).den → β) (g : β) : onPanL (LQ.exit id y) T τ f g = g := rfl
@[simp] theorem onPanL_ret {wy : Ways} {β : Type} (T : TypeId) (τ : Ty) (y : (patsTy wy.ret).den) (f : τ.den × (patsTy wy.pan).den → β) (g : β) : onPanL (LQ.ret y) T τ f g = g := rfl
@[simp] theorem onNext_next {mps : List Pat} {β : Type} (x : (patsTy mps).den) (f : (patsTy mps).den → β) (g : β) : onNext (RO.next x) f g = f x := rfl
@[simp] theorem onOk_ok {τr : Ty} {qs : List Pat} {β : Type} (r : τr.den) (y : (patsTy qs).den) (f : τr.den × (patsTy qs).den → β) (g : β) : onOk (GO.ok r y) f g = f (r, y) := rfl
@[simp] theorem onOk_pan {τr : Ty} {qs : List Pat} {β : Type} (T : TypeId) (τ : Ty) (d : τ.den) (y : (patsTy qs).den) (f : τr.den × (patsTy qs).den → β) (g : β) : onOk (GO.pan T τ d y) f g = g := rfl
@[simp] theorem onGPan_ok {τr : Ty} {qs : List Pat} {β : Type} (T : TypeId) (τ : Ty) (r : τr.den) (y : (patsTy qs).den) (f : τ.den × (patsTy qs).den → β) (g : β) : onGPan (GO.ok r y) T τ f g = g := rfl
@[simp] theorem onGPan_pan {τr : Ty} {qs : List Pat} {β : Type} (T : TypeId) (τ : Ty) (d : τ.den) (y : (patsTy qs).den) (f : τ.den × (patsTy qs).den → β) (g : β) : onGPan (GO.pan T τ d y : GO τr qs) T τ f g = f (d, y) := by
  simp [onGPan, GO.isPan, GO.getPan, GO.getY, castTy_self]
end Go.Dm

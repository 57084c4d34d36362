/-
  The framework: an interpreter over typed data, and why what it says of a call is true.
-/
import Derived.Test.YtiapgkbnjpkagaaFwC
set_option linter.unusedVariables false
set_option linter.unusedSimpArgs false
/-
  Ranges over functions, calls that look at their caller's objects, functions that call themselves: where what they come to is sure.
-/
namespace Go.Dm
open Go.RowKit
variable {P : Program} {N : Nat} {G : Gh} {S S' : CS} {w w' : World} {s : St} {a : Act} {ρ ρ' : Rho} {F F' : Nat → Prop} {E : TCtx} {Γ : Ctx} {Fw : Fence} {r : Nat} {dfr : List Dfr} {fid : FuncId} {lo lo' : Nat} {mps : List Pat} {e : Ty}

/-- What is sure of a tree. -/
def Tree.detB {α : Type} (bad : α) : Tree α → α
  | .leaf r => r
  | .br b l r => bif b then l.detB bad else r.detB bad
  | .any _ _ => bad
theorem detB_cond {α : Type} (bad : α) (b : Bool) (l r : Tree α) : (bif b then l else r).detB bad = bif b then l.detB bad else r.detB bad := by cases b <;> rfl

theorem Tree.detB_has {α : Type} {bad : α} : ∀ {t : Tree α}, t.detB bad ≠ bad → ∀ o, t.Has o → o = t.detB bad
  | .leaf _, _, _, h => h
  | .br b l r, h, o, ho => by
    cases b with
    | true => exact Tree.detB_has (t := l) h o (by simpa [Tree.Has] using ho)
    | false => exact Tree.detB_has (t := r) h o (by simpa [Tree.Has] using ho)
  | .any _ _, h, _, _ => absurd rfl h

theorem LoopOK.mono {c : Code} {f f' : St → Tree Out} (h : LoopOK P N G fid Fw r c f') (hf : ∀ s, (∀ o, (f s).Has o → o.fine G) → ∀ o, (f' s).Has o → (f s).Has o) : LoopOK P N G fid Fw r c f := by
  intro s a w hs hfine
  exact wpB_mono (h s a w hs fun o ho => hfine o (hf s hfine o ho)) fun e a' w' ⟨o, h1, h2⟩ => ⟨o, hf s hfine o h1, h2⟩

namespace RO
def isNext (o : RO mps) : Bool := match o with
  | .next _ => true
  | _ => false
def isBrk (o : RO mps) (id : Nat) : Bool := match o with
  | .brk id' _ => Nat.beq id' id
  | _ => false
def isRet (o : RO mps) : Bool := match o with
  | .ret _ => true
  | _ => false
def isPan (o : RO mps) (T : TypeId) (τ : Ty) : Bool := match o with
  | .pan T' τ' _ _ => Nat.beq T' T && decide (τ' = τ)
  | _ => false
def getX (o : RO mps) : (patsTy mps).den := match o with
  | .next x => x
  | .brk _ x => x
  | .ret x => x
  | .pan _ _ _ x => x
  | .bad => (patsTy mps).dflt
def getPan (o : RO mps) (τ : Ty) : τ.den := match o with
  | .pan _ τ' d _ => (castTy τ d).getD τ.dflt
  | _ => τ.dflt
end RO

def spreadP (o : RO mps) : List (TypeId × Ty) → Tree (RO mps)
  | [] => .leaf .bad
  | (T, τ) :: l => .br (o.isPan T τ) (.leaf (.pan T τ (o.getPan τ) o.getX)) (spreadP o l)
def spreadR (o : RO mps) (pans : List (TypeId × Ty)) : List Nat → Tree (RO mps)
  | [] => .br o.isNext (.leaf (.next o.getX)) (.br o.isRet (.leaf (.ret o.getX)) (spreadP o pans))
  | id :: l => .br (o.isBrk id) (.leaf (.brk id o.getX)) (spreadR o pans l)

theorem castTy_self {τ : Ty} (x : τ.den) : castTy τ x = some x := by simp [castTy]

theorem spreadP_ok {o : RO mps} {β : Type} {K : RO mps → β} : ∀ {l : List (TypeId × Ty)}, (∀ q, ((spreadP o l).map K).Has q → q ≠ K .bad) → (o ≠ .bad) ∧ ((spreadP o l).map K).Has (K o)
  | [], h => absurd rfl (h _ rfl)
  | (T, τ) :: l, h => by
    simp only [spreadP, Tree.map] at h ⊢
    cases hb : o.isPan T τ with
    | true =>
      cases o with
      | pan T' τ' d x =>
        simp only [RO.isPan, Bool.and_eq_true, decide_eq_true_eq] at hb
        obtain ⟨h1, h2⟩ := hb
        cases Nat.eq_of_beq_eq_true h1
        subst h2
        refine ⟨by simp, ?_⟩
        show K _ = K _
        simp [RO.getPan, RO.getX, castTy_self]
      | _ => cases hb
    | false =>
      rw [hb] at h
      have := spreadP_ok (l := l) (fun q hq => h q (by simpa [Tree.Has] using hq))
      exact ⟨this.1, by simpa [Tree.Has] using this.2⟩

theorem spreadR_ok {o : RO mps} {pans : List (TypeId × Ty)} {β : Type} {K : RO mps → β} : ∀ {l : List Nat}, (∀ q, ((spreadR o pans l).map K).Has q → q ≠ K .bad) → (o ≠ .bad) ∧ ((spreadR o pans l).map K).Has (K o)
  | [], h => by
    simp only [spreadR, Tree.map] at h ⊢
    cases hb : o.isNext with
    | true =>
      cases o with
      | next x => exact ⟨by simp, rfl⟩
      | _ => cases hb
    | false =>
      rw [hb] at h
      cases hb' : o.isRet with
      | true =>
        cases o with
        | ret x => exact ⟨by simp, rfl⟩
        | _ => cases hb'
      | false =>
        rw [hb'] at h
        have := spreadP_ok (o := o) (l := pans) (fun q hq => h q (by simpa [Tree.Has] using hq))
        exact ⟨this.1, by simpa [Tree.Has] using this.2⟩
  | id :: l, h => by
    simp only [spreadR, Tree.map] at h ⊢
    cases hb : o.isBrk id with
    | true =>
      cases o with
      | brk id' x =>
        cases Nat.eq_of_beq_eq_true (show Nat.beq id' id = true from hb)
        exact ⟨by simp, rfl⟩
      | _ => cases hb
    | false =>
      rw [hb] at h
      have := spreadR_ok (l := l) (fun q hq => h q (by simpa [Tree.Has] using hq))
      exact ⟨this.1, by simpa [Tree.Has] using this.2⟩

/-- All rounds. -/
def runAllD {I : Type} (step : (patsTy mps).den → I → RO mps) : (patsTy mps).den → List I → RO mps
  | x, [] => .next x
  | x, i :: r => match step x i with
    | .next x' => runAllD step x' r
    | o => o

theorem runAllD_all {I : Type} {stepT : (patsTy mps).den → I → Tree (RO mps)} {step : (patsTy mps).den → I → RO mps} (hs : ∀ x i, (stepT x i).detB .bad = step x i) : ∀ (l : List I) (x : (patsTy mps).den), runAllD step x l ≠ .bad → ∀ o, (runAll stepT x l).Has o → o = runAllD step x l
  | [], x, _, o, ho => ho
  | i :: l, x, hn, o, ho => by
    simp only [runAll] at ho
    obtain ⟨o1, h1, h2⟩ : ∃ o1, (stepT x i).Has o1 ∧ (match o1 with
      | .next x' => runAll stepT x' l
      | .brk id x' => .leaf (.brk id x')
      | .ret x' => .leaf (.ret x')
      | .pan T τ d x' => .leaf (.pan T τ d x')
      | .bad => .leaf .bad : Tree (RO mps)).Has o := by
      have : ∀ (t : Tree (RO mps)) (K : RO mps → Tree (RO mps)), (t.run Tree.any K).Has o → ∃ o1, t.Has o1 ∧ (K o1).Has o := by
        intro t K
        induction t with
        | leaf a => exact fun h => ⟨a, rfl, h⟩
        | br b l r ihl ihr =>
          intro h
          cases b with
          | true => obtain ⟨o1, q1, q2⟩ := ihl h; exact ⟨o1, by simpa [Tree.Has] using q1, q2⟩
          | false => obtain ⟨o1, q1, q2⟩ := ihr h; exact ⟨o1, by simpa [Tree.Has] using q1, q2⟩
        | any l r ihl ihr =>
          intro h
          rcases h with h | h
          · obtain ⟨o1, q1, q2⟩ := ihl h; exact ⟨o1, .inl q1, q2⟩
          · obtain ⟨o1, q1, q2⟩ := ihr h; exact ⟨o1, .inr q1, q2⟩
      exact this _ _ ho
    have hne : step x i ≠ .bad := fun e => hn (by simp only [runAllD, e])
    have e1 := Tree.detB_has (bad := .bad) (by rw [hs]; exact hne) o1 h1
    rw [hs] at e1
    subst e1
    cases hst : step x i with
    | next x' =>
      rw [hst] at h2
      have e2 : runAllD step x (i :: l) = runAllD step x' l := by simp only [runAllD, hst]
      rw [e2] at hn ⊢
      exact runAllD_all hs l x' hn o h2
    | brk id x' => rw [hst] at h2; simp only [runAllD, hst]; exact h2
    | ret x' => rw [hst] at h2; simp only [runAllD, hst]; exact h2
    | pan T τ d x' => rw [hst] at h2; simp only [runAllD, hst]; exact h2
    | bad => exact absurd hst hne

/-- A range over a function, by what its rounds come to. -/
def rangeD (lo : Nat) (dfr : List Dfr) (t : Nat) (e : Ty) (mps : List Pat) (ids : List Nat) (pans : List (TypeId × Ty)) (L : (patsTy mps).den → List e.den → RO mps) (s : St) : Tree Out :=
  match dfrEq s.dfr dfr, s.env t, rd lo s mps with
  | true, .v (.pc (.seq e') its), some x => match castTy (σ := .seq e') (.seq e) its with
    | some its => (spreadR (L x (show Sl e.den from its).list) pans ids).map (RO.out lo (.mark :: dfr))
    | none => .leaf .bad
  | _, _, _ => .leaf .bad

theorem Env.round (hE : Env P E Γ G Fence.wide) {G' : Gh} (hok : G'.Ok P) (l : Nat) : Env P E.noDfr Γ G' (Fence.wide.inRound l) :=
  ⟨hE.mixed, hE.fns, hE.eq, hE.key, hok, Wide.wide.inRound l, fun q => by cases q⟩

theorem rangeD_ok (hE : Env P E Γ G Fence.wide) (hfree : G.Free) (hlo : G.lo = lo) {fd : Func} (hfd : P.funcs[fid]? = some fd) {t : Tmp} {ps : Array Tmp} (hps : ps.toList.all (Nat.blt · N) = true) (hpl : ps.size = e.cells) (heL : e.isL = true)
    (hw : wfG lo' mps = true) (hdw : dfrWf (boxIds mps) dfr = true) {as body : Code} {la lb : List Loop} {ids : List Nat} {pans : List (TypeId × Ty)}
    (hla : ∀ G' : Gh, G'.lo = lo' → G'.Free → ∀ l, Env P E.noDfr Γ G' (Fence.wide.inRound l) → LsOK P N G' fid (Fence.wide.inRound l) 0 as la) (hlb : ∀ G' : Gh, G'.lo = lo' → G'.Free → ∀ l, Env P E.noDfr Γ G' (Fence.wide.inRound l) → LsOK P N G' fid (Fence.wide.inRound l) 0 body lb)
    {step : (patsTy mps).den → e.den → RO mps} (hstep : ∀ x i, (stepR P E Γ lo lo' N ps.toList as body la lb e mps x i).detB .bad = step x i) :
    LoopOK P N G fid Fence.wide 0 (.rangeFunc (.tmp t) ps as body) (rangeD lo dfr t e mps ids pans (runAllD step)) := by
  subst hlo
  refine LoopOK.mono (rangeF_ok (la := la) (lb := lb) hE hfree hfd hps hpl heL hw hdw (fun G' h1 h2 h3 l => hla G' h1 h3 l (hE.round h2 l)) (fun G' h1 h2 h3 l => hlb G' h1 h3 l (hE.round h2 l))) ?_
  intro s hfine o ho
  unfold rangeD at hfine ⊢
  unfold rangeF at ho
  split at ho
  case h_2 =>
    rename_i hn
    exfalso
    have : (Tree.leaf Out.bad).Has Out.bad := rfl
    split at hfine
    · rename_i h1 h2 h3; exact hn _ _ _ h1 h2 h3
    · exact hfine .bad rfl
  rename_i e' its x0 hd hs hx
  simp only [hd, hs, hx] at hfine ⊢
  split at ho
  case h_2 =>
    rename_i hc
    simp only [hc] at hfine
    exact (hfine .bad rfl).elim
  rename_i its' hcast
  simp only [hcast] at hfine ⊢
  obtain ⟨hb, hh⟩ := spreadR_ok (K := RO.out G.lo (.mark :: dfr)) (l := ids) (fun q hq e => by subst e; exact hfine _ hq)
  have : ∀ (t : Tree (RO mps)), (t.map (RO.out G.lo (.mark :: dfr))).Has o → ∃ o1, t.Has o1 ∧ o = RO.out G.lo (.mark :: dfr) o1 := by
    intro t
    induction t with
    | leaf a => exact fun h => ⟨a, rfl, h⟩
    | br b l r ihl ihr =>
      intro h
      cases b with
      | true => obtain ⟨o1, q1, q2⟩ := ihl (by simpa [Tree.map, Tree.Has] using h); exact ⟨o1, by simpa [Tree.Has] using q1, q2⟩
      | false => obtain ⟨o1, q1, q2⟩ := ihr (by simpa [Tree.map, Tree.Has] using h); exact ⟨o1, by simpa [Tree.Has] using q1, q2⟩
    | any l r ihl ihr =>
      intro h
      rcases h with h | h
      · obtain ⟨o1, q1, q2⟩ := ihl h; exact ⟨o1, .inl q1, q2⟩
      · obtain ⟨o1, q1, q2⟩ := ihr h; exact ⟨o1, .inr q1, q2⟩
  obtain ⟨o1, h1, rfl⟩ := this _ ho
  rw [runAllD_all hstep _ _ hb o1 h1]
  exact hh

/-! ### Calls that look at their caller's objects -/

namespace GO
variable {τr : Ty} {qs : List Pat}
def isOk (g : GO τr qs) : Bool := match g with
  | .ok _ _ => true
  | _ => false
def isPan (g : GO τr qs) (T : TypeId) (τ : Ty) : Bool := match g with
  | .pan T' τ' _ _ => Nat.beq T' T && decide (τ' = τ)
  | _ => false
def getR (g : GO τr qs) : τr.den := match g with
  | .ok r _ => r
  | _ => τr.dflt
def getY (g : GO τr qs) : (patsTy qs).den := match g with
  | .ok _ y => y
  | .pan _ _ _ y => y
  | .bad => (patsTy qs).dflt
def getPan (g : GO τr qs) (τ : Ty) : τ.den := match g with
  | .pan _ τ' d _ => (castTy τ d).getD τ.dflt
  | _ => τ.dflt
end GO

def spreadG {τr : Ty} {qs : List Pat} (g : GO τr qs) : List (TypeId × Ty) → Tree (GO τr qs)
  | [] => .br g.isOk (.leaf (.ok g.getR g.getY)) (.leaf .bad)
  | (T, τ) :: l => .br (g.isPan T τ) (.leaf (.pan T τ (g.getPan τ) g.getY)) (spreadG g l)

theorem spreadG_ok {τr : Ty} {qs : List Pat} {g : GO τr qs} : ∀ {l : List (TypeId × Ty)}, (∀ q, (spreadG g l).Has q → q ≠ .bad) → g ≠ .bad ∧ (spreadG g l).Has g
  | [], h => by
    cases g with
    | ok r y => exact ⟨by simp, rfl⟩
    | pan T τ d y => exact absurd rfl (h .bad rfl)
    | bad => exact absurd rfl (h .bad rfl)
  | (T, τ) :: l, h => by
    simp only [spreadG] at h ⊢
    cases hb : g.isPan T τ with
    | true =>
      cases g with
      | pan T' τ' d x =>
        simp only [GO.isPan, Bool.and_eq_true, decide_eq_true_eq] at hb
        obtain ⟨h1, h2⟩ := hb
        cases Nat.eq_of_beq_eq_true h1
        subst h2
        refine ⟨by simp, ?_⟩
        show _ = _
        simp [GO.getPan, GO.getY, castTy_self]
      | _ => cases hb
    | false =>
      rw [hb] at h
      have := spreadG_ok (l := l) (fun q hq => h q (by simpa [Tree.Has] using hq))
      exact ⟨this.1, by simpa [Tree.Has] using this.2⟩

def gappD (n : Nat) (τr : Ty) (ps : List Pat) (pans : List (TypeId × Ty)) (R : (patsTy ps).den → GO τr (objPats ps)) : List Slot → (Nat → DObj) → Tr → Nat → Tree OR := gapp n τr ps fun x => spreadG (R x) pans

theorem gappD_holds (hm : P.follows .mixedOrders = true) (hΓ : Sound P Γ) (hE : EqSound P E.eq) (hK : KeySound P E.key) {f : FuncId} {fn : Func} {c : Code} (hf : P.funcs[f]? = some fn) (hb : fn.body = some c) {ls : List Loop}
    {τr : Ty} {ps : List Pat} (hw : wfG lo ps = true) (hl : ∀ G' : Gh, G'.lo = lo → G'.Free → Env P E Γ G' Fence.wide → LsOK P fn.ntmps G' f Fence.wide 0 c ls)
    {R : (patsTy ps).den → GO τr (objPats ps)} (pans : List (TypeId × Ty)) (hR : ∀ x, (runG P E Γ fn ls lo τr ps x).detB .bad = R x) : GHolds P f (gappD fn.ntmps τr ps pans R) := by
  refine gapp_holds (E := E) (ls := ls) hm hΓ hE hK hf hb hw (fun G' h1 h2 h3 => hl G' h1 h2 ⟨hm, hΓ, hE, hK, h3, .wide, fun _ => rfl⟩) fun x hfine go hgo => ?_
  obtain ⟨h1, h2⟩ := spreadG_ok hfine
  rw [← hR] at h1
  rw [Tree.detB_has h1 go hgo, hR]
  exact h2

/-! ### Functions that return a row that their caller may write -/

def rowD (n : Nat) (τa : Ty) (T : TypeId) (e : Ty) (R : τa.den → Option (Sl e.den)) (args : List Slot) (heap : Nat → DObj) (_ : Tr) (id0 : Nat) : Tree OR :=
  match Nat.ble args.length n, ofSlots τa args, heap id0 with
  | true, some x, .none => .br (R x).isSome (rowOR id0 (some ⟨T, e, (R x).getD ⟨0, fun _ => e.dflt⟩⟩)) (.leaf .bad)
  | _, _, _ => .leaf .bad

def frOf (T : TypeId) (e : Ty) : Option FR → Option (Sl e.den)
  | some ⟨T', e', s⟩ => match Nat.beq T' T, castTy (σ := .sl e') (.sl e) s with
    | true, some s => some s
    | _, _ => none
  | none => none

theorem rowD_holds (hm : P.follows .mixedOrders = true) (hΓ : Sound P Γ) (hE : EqSound P E.eq) (hK : KeySound P E.key) {f : FuncId} {fn : Func} {c : Code} (hf : P.funcs[f]? = some fn) (hb : fn.body = some c) {ls : List Loop}
    {t : Nat} (hres : fn.results = #[.tmp t]) {τa : Ty} {T : TypeId} {e : Ty} (hl : ∀ G' : Gh, G'.lo = 0 → G'.Free → Env P E Γ G' Fence.wide → LsOK P fn.ntmps G' f Fence.wide 0 c ls)
    {R : τa.den → Option (Sl e.den)} (hR : ∀ x, frOf T e (runF P E Γ fn ls t τa x).sure = R x) : GHolds P f (rowD fn.ntmps τa T e R) := by
  have h0 := fapp_holds (E := E) (ls := ls) (τa := τa) hm hΓ hE hK hf hb hres (fun G' h1 h2 h3 => hl G' h1 h2 ⟨hm, hΓ, hE, hK, h3, .wide, fun _ => rfl⟩)
  intro N G s a w ρ S F hG h args us id0 hlen hargs hlo hall
  have key : ∀ r, (fapp fn.ntmps τa (runF P E Γ fn ls t τa) args s.heap s.tr id0).Has r → (rowD fn.ntmps τa T e R args s.heap s.tr id0).Has r := by
    intro r hr
    unfold rowD at hall ⊢
    unfold fapp at hr
    split at hr
    case h_2 =>
      rename_i hn
      split at hall
      · rename_i h1 h2 h3; exact absurd h3 (fun h3 => hn _ h1 h2 h3)
      · exact absurd rfl (hall .bad rfl)
    rename_i x hn hx hh
    simp only [hn, hx, hh] at hall ⊢
    cases hs : R x with
    | none => rw [hs] at hall; exact absurd rfl (hall .bad rfl)
    | some sl =>
      have hf := hR x
      rw [hs] at hf
      cases hq : (runF P E Γ fn ls t τa x).sure with
      | none => rw [hq] at hf; cases hf
      | some fr =>
        rw [hq] at hf hr
        obtain ⟨T', e', s'⟩ := fr
        simp only [frOf] at hf
        split at hf
        case h_2 => cases hf
        rename_i s2 hT hc
        cases hf
        obtain ⟨heq, hsl⟩ := castTy_some hc
        cases Nat.eq_of_beq_eq_true hT
        cases heq
        have hsl : sl = s' := hsl
        subst hsl
        exact hr
  refine (h0 N G s a w ρ S F hG h args us id0 hlen hargs hlo fun r hr => hall r (key r hr)).mono fun e w' ⟨r, h1, h2⟩ => ⟨r, key r h1, h2⟩

/-! ### Functions that call themselves -/

/-- The contract of what a function comes to. -/
def conM {τa τr : Ty} (M : τa.den → Option τr.den) : Con := ⟨τa, τr, fun x => (M x).isSome, fun x => (M x).getD τr.dflt⟩

/-! ### Loops of which some of what lives never turns -/

/-- What a loop comes to, with what never turned. -/
def LQ.lift {C : Type} {wv wy : Ways} (je : (id : Nat) → C → (patsTy (wayP wv id)).den → (patsTy (wayP wy id)).den) (jr : C → (patsTy wv.ret).den → (patsTy wy.ret).den) (jp : C → (patsTy wv.pan).den → (patsTy wy.pan).den) (c : C) : LQ wv → LQ wy
  | .exit id y => .exit id (je id c y)
  | .ret y => .ret (jr c y)
  | .pan T τ x y => .pan T τ x (jp c y)
  | .bad => .bad
def RQ.lift {C : Type} {vs ps : List Pat} {wv wy : Ways} (join : C → (patsTy vs).den → (patsTy ps).den) (je : (id : Nat) → C → (patsTy (wayP wv id)).den → (patsTy (wayP wy id)).den) (jr : C → (patsTy wv.ret).den → (patsTy wy.ret).den) (jp : C → (patsTy wv.pan).den → (patsTy wy.pan).den) (c : C) : RQ vs wv → RQ ps wy
  | .next v => .next (join c v)
  | .out q => .out (q.lift je jr jp c)
  | .bad => .bad

/-- The ways in which it panics. -/
def spreadPan {C : Type} {wv : Ways} (wy : Ways) (jp : C → (patsTy wv.pan).den → (patsTy wy.pan).den) (c : C) (q : LQ wv) : List (TypeId × Ty) → Tree LO
  | [] => .leaf .bad
  | (T, τ) :: l => .br (q.isPan T τ) (.leaf (.pan T τ (q.getPan τ) wy.pan (jp c q.getPanY))) (spreadPan wy jp c q l)
def spreadV {C : Type} {wv : Ways} (wy : Ways) (je : (id : Nat) → C → (patsTy (wayP wv id)).den → (patsTy (wayP wy id)).den) (jr : C → (patsTy wv.ret).den → (patsTy wy.ret).den) (jp : C → (patsTy wv.pan).den → (patsTy wy.pan).den) (pans : List (TypeId × Ty)) (hasRet : Bool) (c : C) (q : LQ wv) : List (Nat × List Pat) → Tree LO
  | [] => match hasRet with
    | true => .br q.isRet (.leaf (.ret wy.ret (jr c q.getRet))) (spreadPan wy jp c q pans)
    | false => spreadPan wy jp c q pans
  | (id, _) :: l => .br (q.isExit id) (.leaf (.exit id (wayP wy id) (je id c (q.getExit id)))) (spreadV wy je jr jp pans hasRet c q l)

theorem spreadPan_ok {C : Type} {wv wy : Ways} {je : (id : Nat) → C → (patsTy (wayP wv id)).den → (patsTy (wayP wy id)).den} {jr : C → (patsTy wv.ret).den → (patsTy wy.ret).den} {jp : C → (patsTy wv.pan).den → (patsTy wy.pan).den} {c : C} {q : LQ wv} : ∀ {l : List (TypeId × Ty)}, (∀ o, ((spreadPan wy jp c q l).map (LO.out lo dfr)).Has o → o ≠ .bad) → q ≠ .bad ∧ ((spreadPan wy jp c q l).map (LO.out lo dfr)).Has ((q.lift je jr jp c).out lo dfr)
  | [], h => absurd rfl (h .bad rfl)
  | (T, τ) :: l, h => by
    simp only [spreadPan, Tree.map] at h ⊢
    cases hb : q.isPan T τ with
    | true =>
      cases q with
      | pan T' τ' x y =>
        simp only [LQ.isPan, Bool.and_eq_true, decide_eq_true_eq] at hb
        obtain ⟨h1, h2⟩ := hb
        have h1 := Nat.eq_of_beq_eq_true h1
        subst h1 h2
        refine ⟨by simp, ?_⟩
        show (LQ.pan T' τ' x (jp c y)).out lo dfr = _
        simp [LO.out, LQ.out, LQ.getPan, LQ.getPanY, castTy_self]
      | _ => cases hb
    | false =>
      rw [hb] at h
      have := spreadPan_ok (je := je) (jr := jr) (l := l) (fun o ho => h o (by simpa [Tree.Has] using ho))
      exact ⟨this.1, by simpa [Tree.Has] using this.2⟩

theorem spreadV_ok {C : Type} {wv wy : Ways} {je : (id : Nat) → C → (patsTy (wayP wv id)).den → (patsTy (wayP wy id)).den} {jr : C → (patsTy wv.ret).den → (patsTy wy.ret).den} {jp : C → (patsTy wv.pan).den → (patsTy wy.pan).den} {pans : List (TypeId × Ty)} {hr : Bool} {c : C} {q : LQ wv} : ∀ {l : List (Nat × List Pat)}, (∀ o, ((spreadV wy je jr jp pans hr c q l).map (LO.out lo dfr)).Has o → o ≠ .bad) → q ≠ .bad ∧ ((spreadV wy je jr jp pans hr c q l).map (LO.out lo dfr)).Has ((q.lift je jr jp c).out lo dfr)
  | [], h => by
    cases hr with
    | false => exact spreadPan_ok h
    | true =>
      simp only [spreadV, Tree.map] at h ⊢
      cases hb : q.isRet with
      | true =>
        cases q with
        | ret y => exact ⟨by simp, rfl⟩
        | _ => cases hb
      | false =>
        rw [hb] at h
        have := spreadPan_ok (je := je) (jr := jr) (l := pans) (fun o ho => h o (by simpa [Tree.Has] using ho))
        exact ⟨this.1, by simpa [Tree.Has] using this.2⟩
  | (id, p) :: l, h => by
    simp only [spreadV, Tree.map] at h ⊢
    cases hb : q.isExit id with
    | true =>
      cases q with
      | exit id' y =>
        have e : id' = id := Nat.eq_of_beq_eq_true hb
        subst e
        refine ⟨by simp, ?_⟩
        show (LQ.exit id' (je id' c y)).out lo dfr = _
        simp [LO.out, LQ.out]
      | _ => cases hb
    | false =>
      rw [hb] at h
      have := spreadV_ok (l := l) (fun o ho => h o (by simpa [Tree.Has] using ho))
      exact ⟨this.1, by simpa [Tree.Has] using this.2⟩

theorem lift_cond {C : Type} {vs ps : List Pat} {wv wy : Ways} {join : C → (patsTy vs).den → (patsTy ps).den} {je : (id : Nat) → C → (patsTy (wayP wv id)).den → (patsTy (wayP wy id)).den} {jr : C → (patsTy wv.ret).den → (patsTy wy.ret).den} {jp : C → (patsTy wv.pan).den → (patsTy wy.pan).den} {c : C} (b : Bool) (x y : RQ vs wv) : (bif b then x else y).lift join je jr jp c = bif b then x.lift join je jr jp c else y.lift join je jr jp c := by cases b <;> rfl
theorem lift_bad {C : Type} {vs ps : List Pat} {wv wy : Ways} {join : C → (patsTy vs).den → (patsTy ps).den} {je : (id : Nat) → C → (patsTy (wayP wv id)).den → (patsTy (wayP wy id)).den} {jr : C → (patsTy wv.ret).den → (patsTy wy.ret).den} {jp : C → (patsTy wv.pan).den → (patsTy wy.pan).den} {c : C} : (RQ.bad : RQ vs wv).lift join je jr jp c = .bad := rfl

theorem loopV_ok (hE : Env P E Γ G Fw) (ht : G.Free) (hlo : G.lo = lo) {C : Type} {vs ps : List Pat} {wv wy : Ways} {body : Code} {ls : List Loop} (hls : LsOK P N G fid Fw r body ls)
    (hps : wfQ dfr false ps = true) (hwy : wy.wf dfr false = true) {join : C → (patsTy vs).den → (patsTy ps).den} {je : (id : Nat) → C → (patsTy (wayP wv id)).den → (patsTy (wayP wy id)).den} {jr : C → (patsTy wv.ret).den → (patsTy wy.ret).den} {jp : C → (patsTy wv.pan).den → (patsTy wy.pan).den} {pans : List (TypeId × Ty)} {hr : Bool}
    (sp : (patsTy ps).den → C × (patsTy vs).den) (hsp : ∀ x, join (sp x).1 (sp x).2 = x) (hsp' : ∀ c v, sp (join c v) = (c, v))
    {step : C → (patsTy vs).den → RQ vs wv} (hstep : ∀ c v, detQ (roundQ P E Γ lo N dfr ps wy body ls (join c v)) = (step c v).lift join je jr jp c) (n : Nat) :
    LoopOK P N G fid Fw r (.loop body) (loopZ lo dfr ps fun x => spreadV wy je jr jp pans hr (sp x).1 (iterQ (step (sp x).1) n (sp x).2) wy.exits) := by
  subst hlo
  have key : ∀ (n : Nat) (c : C) (v : (patsTy vs).den), iterQ (fun x => (step (sp x).1 (sp x).2).lift join je jr jp (sp x).1) n (join c v) = (iterQ (step c) n v).lift je jr jp c := by
    intro n c
    induction n with
    | zero => intro v; rfl
    | succ n ih =>
      intro v
      simp only [iterQ, hsp']
      cases hs : step c v with
      | next v' => simp only [RQ.lift]; exact ih v'
      | out q => rfl
      | bad => rfl
  refine loopQ_ok hE ht hls hps hwy (step := fun x => (step (sp x).1 (sp x).2).lift join je jr jp (sp x).1) (fun x => by rw [← hstep, hsp]) n fun x hfine => ?_
  have e1 : iterQ (fun x => (step (sp x).1 (sp x).2).lift join je jr jp (sp x).1) n x = (iterQ (step (sp x).1) n (sp x).2).lift je jr jp (sp x).1 := by
    have := key n (sp x).1 (sp x).2
    rwa [hsp] at this
  rw [e1]
  obtain ⟨h1, h2⟩ := spreadV_ok hfine
  refine ⟨?_, h2⟩
  cases hq : iterQ (step (sp x).1) n (sp x).2 with
  | bad => exact absurd hq h1
  | _ => simp [LQ.lift]

/-- The parts of a range over a function. -/
def rangeAs : Option Code → Code
  | some (.rangeFunc _ _ as _) => as
  | _ => .skip
def rangeBody : Option Code → Code
  | some (.rangeFunc _ _ _ b) => b
  | _ => .skip

theorem holds_of_M' (hm : P.follows .mixedOrders = true) (hΓ : Sound P Γ) (hE : EqSound P E.eq) (hK : KeySound P E.key) {f : FuncId} {fn : Func} {c : Code} (hf : P.funcs[f]? = some fn) (hb : fn.body = some c) {ls : List Loop}
    {τa τr : Ty} {M : τa.den → Option τr.den} (hn : Nat.ble τa.cells fn.ntmps = true) (hM : ∀ x, (runFn P E Γ fn ls τa τr x).sure = M x)
    (hl : ∀ G' : Gh, G'.lo = 0 → G'.Free → Env P E Γ G' Fence.wide → LsOK P fn.ntmps G' f Fence.wide 0 c ls) : Holds P f (conM M) :=
  holds_of_run hm hΓ hE hK hf hb (fun S w => hl (Gh.start S w) rfl inner_free ⟨hm, hΓ, hE, hK, start_ok, .wide, fun _ => rfl⟩) (conM M) (Nat.le_of_ble_eq_true hn) fun x hp => Tree.sure_all (by
    show (runFn P E Γ fn ls τa τr x).sure = some ((M x).getD τr.dflt)
    rw [hM x]
    have hp : (M x).isSome = true := hp
    cases h : M x with
    | none => rw [h] at hp; cases hp
    | some y => rfl)

theorem conM_none {f : FuncId} {τa τr : Ty} : Holds P f (conM fun _ : τa.den => (none : Option τr.den)) := fun _ _ _ _ _ h => by cases h

theorem gappD_bad {f : FuncId} {n : Nat} {τr : Ty} {ps : List Pat} {pans : List (TypeId × Ty)} : GHolds P f (gappD n τr ps pans fun _ => .bad) := by
  intro N G s a w ρ S F hG h args us id0 hlen hargs hlo hall
  exfalso
  unfold gappD gapp at hall
  split at hall
  case h_2 => exact hall .bad rfl rfl
  have : ∀ (l : List (TypeId × Ty)), (spreadG (τr := τr) (qs := objPats ps) .bad l).Has .bad := by
    intro l
    induction l with
    | nil => rfl
    | cons p l ih => exact ih
  exact hall _ (Tree.has_map' (f := GO.or s.heap) (this pans)) rfl

def DCtx.of : List (FuncId × DApp) → DCtx
  | [], _ => none
  | p :: l, f => match Nat.beq f p.1 with
    | true => some p.2
    | false => DCtx.of l f
theorem dsound_of : ∀ {l : List (FuncId × DApp)}, (∀ p ∈ l, Callable P p.1 ∧ DHolds P p.1 p.2) → DSound P (DCtx.of l)
  | [], _, f, c, h => by cases h
  | p :: l, hl, f, c, h => by
    simp only [DCtx.of] at h
    split at h
    · rename_i hb
      cases h
      rw [Nat.eq_of_beq_eq_true hb]
      exact hl p (.head _)
    · exact dsound_of (fun p hp => hl p (.tail _ hp)) f c h

theorem holds_of_MD (hm : P.follows .mixedOrders = true) (hΓ : Sound P Γ) {Δ : DCtx} (hΔ : DSound P Δ) (hE : EqSound P E.eq) (hK : KeySound P E.key) {f : FuncId} {fn : Func} {c : Code} (hf : P.funcs[f]? = some fn) (hb : fn.body = some c) {ls : List Loop}
    {τa τr : Ty} {M : τa.den → Option τr.den} (hn : Nat.ble τa.cells fn.ntmps = true) (hM : ∀ x, (runFnD P E Γ Δ fn ls τa τr x).sure = M x)
    (hl : ∀ G' : Gh, G'.lo = 0 → G'.Free → Env P E Γ G' Fence.wide → LsOK P fn.ntmps G' f Fence.wide 0 c ls) : Holds P f (conM M) :=
  holds_of_runD hm hΓ hΔ hE hK hf hb (fun S w => hl (Gh.start S w) rfl inner_free ⟨hm, hΓ, hE, hK, start_ok, .wide, fun _ => rfl⟩) (conM M) (Nat.le_of_ble_eq_true hn) fun x hp => Tree.sure_all (by
    show (runFnD P E Γ Δ fn ls τa τr x).sure = some ((M x).getD τr.dflt)
    rw [hM x]
    have hp : (M x).isSome = true := hp
    cases h : M x with
    | none => rw [h] at hp; cases hp
    | some y => rfl)

end Go.Dm

/-
  A function that returns a row that its caller may append to.
-/
namespace Go.Dm
open Go.RowKit
variable {P : Program} {N N' : Nat} {G : Gh} {S S' S2 : CS} {w w' w2 : World} {s s' s2 : St} {a a2 : Act} {ρ ρ' ρ2 : Rho} {F F' F2 : Nat → Prop} {heap heap' H' H2 : Nat → DObj} {Y : Value} {E : TCtx} {Γ : Ctx} {Fw : Fence} {r : Nat} {ops : Array Oper} {lo lo' base : Nat} {dfr : List Dfr} {vr vr' : Nat → Nat} {n : Nat} {fid : FuncId} {mps : List Pat} {e : Ty}

def outC (t : Nat) (T0 : TypeId) (e0 : Ty) : Out → Tree (Option FR)
  | .ret s | .norm s => match allMark s.dfr, s.env t with
    | true, .v (.own id v e sl) => match s.heap id with
      | .chain v' T _ _ => match Nat.beq v v' with
        | true => .leaf (some ⟨T, e, sl⟩)
        | false => .leaf none
      | _ => .leaf none
    | true, .v .nils => .leaf (some ⟨T0, e0, ⟨0, fun _ => e0.dflt⟩⟩)
    | _, _ => .leaf none
  | _ => .leaf none

def runC (P : Program) (E : TCtx) (Γ : Ctx) (fn : Func) (ls : List Loop) (t : Nat) (T0 : TypeId) (e0 : Ty) (τa : Ty) (x : τa.den) : Tree (Option FR) :=
  match fn.body with
  | some c => execK P E Γ 0 fn.ntmps .any c ls (initSt τa x) (outC t T0 e0)
  | none => .leaf none

/-- Of two ways that are both open: rows that are empty. -/
def anC {e : Ty} : Option (Sl e.den) → Option (Sl e.den) → Option (Sl e.den)
  | some a, some b => bif Nat.beq a.n 0 && Nat.beq b.n 0 then some ⟨0, fun _ => e.dflt⟩ else none
  | _, _ => none
def Tree.sureC (T : TypeId) (e : Ty) : Tree (Option FR) → Option (Sl e.den)
  | .leaf a => frOf T e a
  | .br b l r => bif b then l.sureC T e else r.sureC T e
  | .any l r => anC (l.sureC T e) (r.sureC T e)
theorem sureC_cond {T : TypeId} {e : Ty} (b : Bool) (l r : Tree (Option FR)) : (bif b then l else r).sureC T e = bif b then l.sureC T e else r.sureC T e := by cases b <;> rfl
/-- It is this row; or both are empty. -/
def LikeC (T : TypeId) (e : Ty) (sl : Sl e.den) (z : Option FR) : Prop := ∃ s : Sl e.den, z = some ⟨T, e, s⟩ ∧ (s = sl ∨ s.n = 0 ∧ sl.n = 0)
theorem sureC_all {T : TypeId} {e : Ty} : ∀ {t : Tree (Option FR)} {sl : Sl e.den}, t.sureC T e = some sl → t.All (LikeC T e sl)
  | .leaf a, sl, h => by
    simp only [Tree.sureC] at h
    cases a with
    | none => cases h
    | some fr =>
      obtain ⟨T', e', s'⟩ := fr
      simp only [frOf] at h
      split at h
      case h_2 => cases h
      rename_i s2 hT hc
      cases h
      obtain ⟨heq, hsl⟩ := castTy_some hc
      cases Nat.eq_of_beq_eq_true hT
      cases heq
      have hsl : sl = s' := hsl
      exact ⟨s', rfl, .inl hsl.symm⟩
  | .br b l r, sl, h => by
    cases b with
    | true => have := sureC_all (t := l) (sl := sl) h; simpa [Tree.All] using this
    | false => have := sureC_all (t := r) (sl := sl) h; simpa [Tree.All] using this
  | .any l r, sl, h => by
    simp only [Tree.sureC, anC] at h
    split at h
    case h_2 => cases h
    rename_i x y hx hy
    cases hb : (Nat.beq x.n 0 && Nat.beq y.n 0) with
    | false => rw [hb] at h; cases h
    | true =>
      rw [hb] at h
      cases h
      rw [Bool.and_eq_true] at hb
      have h1 := Nat.eq_of_beq_eq_true hb.1
      have h2 := Nat.eq_of_beq_eq_true hb.2
      have mono : ∀ {t : Tree (Option FR)} {z : Sl e.den}, z.n = 0 → t.All (LikeC T e z) → t.All (LikeC T e ⟨0, fun _ => e.dflt⟩) := by
        intro t z hz
        induction t with
        | leaf a =>
          rintro ⟨s, rfl, hs⟩
          refine ⟨s, rfl, .inr ⟨?_, rfl⟩⟩
          rcases hs with rfl | hs
          · exact hz
          · exact hs.1
        | br b l r i1 i2 =>
          intro q
          cases b with
          | true => have := i1 (by simpa [Tree.All] using q); simpa [Tree.All] using this
          | false => have := i2 (by simpa [Tree.All] using q); simpa [Tree.All] using this
        | any l r i1 i2 => exact fun q => ⟨i1 q.1, i2 q.2⟩
      exact ⟨mono h1 (sureC_all hx), mono h2 (sureC_all hy)⟩

/-- A row that a call has made, and that it may append to. -/
def FreshRow (P : Program) (S : CS) (w0 w : World) (T : TypeId) (e : Ty) (s : Sl e.den) (v : Value) (ob : Option Nat) : Prop :=
  R P (.sl e) S w s [v] ∧ ((ob = none ∧ s.n = 0 ∧ ∃ a, v = .slice a 0 0) ∨
    ∃ b cap arr, ob = some b ∧ v = .slice (some ⟨b, 0, none⟩) s.n cap ∧ s.n ≤ cap ∧ cap ≤ maxLen ∧ w.heap[b]? = some (.cells arr T (0, 0)) ∧ arr.size = cap * e.cells ∧ w0.heap.size ≤ b ∧ ∀ o, S b o → o < s.n * e.cells)

theorem FreshRow.like {T : TypeId} {e : Ty} {s sl : Sl e.den} {w0 : World} {v : Value} {ob : Option Nat} (h : FreshRow P S w0 w T e s v ob) (hs : s = sl ∨ s.n = 0 ∧ sl.n = 0) : FreshRow P S w0 w T e sl v ob := by
  rcases hs with rfl | ⟨h1, h2⟩
  · exact h
  · obtain ⟨hR, ho⟩ := h
    refine ⟨?_, ?_⟩
    · rcases hR with ⟨_, a, cap, hv⟩ | ⟨b, o, cap, hv, q1, q2, _⟩
      · exact .inl ⟨h2, a, cap, hv⟩
      · exact .inr ⟨b, o, cap, by rw [h2, ← h1]; exact hv, by omega, q2, fun i hi => by omega⟩
    · rw [h1] at ho
      rw [h2]
      exact ho

theorem chainD_holds (hm : P.follows .mixedOrders = true) (hΓ : Sound P Γ) (hE : EqSound P E.eq) (hK : KeySound P E.key) {f : FuncId} {fn : Func} {c : Code} (hf : P.funcs[f]? = some fn) (hb : fn.body = some c) {ls : List Loop}
    {t : Nat} (hres : fn.results = #[.tmp t]) {τa : Ty} {T : TypeId} {e : Ty} (hfl : e.flat = true) (hl : ∀ G' : Gh, G'.lo = 0 → G'.Free → Env P E Γ G' Fence.wide → LsOK P fn.ntmps G' f Fence.wide 0 c ls)
    {R : τa.den → Option (Sl e.den)} (hR : ∀ x, (runC P E Γ fn ls t T e τa x).sureC T e = R x) : GHolds P f (chainD fn.ntmps τa T e R) := by
  intro N G s a w ρ S F hG h args us id0 hlen hargs hlo hall
  unfold chainD at hall ⊢
  split at hall
  case h_2 => exact (hall .bad rfl rfl).elim
  rename_i x hn hx hno
  cases hs : R x with
  | none => rw [hs] at hall; exact absurd rfl (hall .bad rfl)
  | some sl =>
  have hfr := hR x
  rw [hs] at hfr
  have hR' := ofSlots_R hlen hargs hx
  have hus : us.length ≤ fn.ntmps := by rw [← hlen]; exact Nat.le_of_ble_eq_true hn
  have h0 := init_SRl (N := fn.ntmps) (l := G.l) h.bd hR' hus
  have hGc : (Gh.inner (fun _ => False) S w G.l 0 fun _ => none).Ok P := inner_ok fun _ _ q => by cases q
  have hEnv : Env P E Γ (Gh.inner (fun _ => False) S w G.l 0 fun _ => none) Fence.wide := ⟨hm, hΓ, hE, hK, hGc, .wide, fun _ => rfl⟩
  have hx := sureC_all hfr
  unfold runC at hx
  rw [hb] at hx
  refine (callsIn_wide (n := 0)).1 (callsIn_of_wpB hf hb trivial ?_)
  refine wpB_mono (exec_sound (G := Gh.inner (fun _ => False) S w G.l 0 fun _ => none) (K := outC t T e) (ch := Tree.any) (T := fun tt : Tree (Option FR) => tt.All (LikeC T e sl)) hEnv (fun a b q => q) ⟨(fun q => by obtain ⟨_, q, _⟩ := q; cases q), (fun s' q => by obtain ⟨_, q, _⟩ := q; cases q)⟩ hx (hl _ rfl inner_free hEnv) ⟨_, _, _, h0⟩) ?_
  rintro en a' w' ⟨o, ho, hT⟩
  have fin : ∀ s', SX P fn.ntmps (Gh.inner (fun _ => False) S w G.l 0 fun _ => none) s' a' w' → (outC t T e (.ret s')).All (LikeC T e sl) →
      LeavesInM Fence.wide 0 P fn a'.tmps (fun en w' => ∃ r, (Tree.br (some sl).isSome (.leaf (.ok ⟨some (.v (.own id0 0 e ((some sl).getD ⟨0, fun _ => e.dflt⟩))), [(id0, .chain 0 T e.cells ((some sl).getD ⟨0, fun _ => e.dflt⟩).n)], [id0], false, none⟩)) (.leaf .bad)).Has r ∧ CallPost P N G s a r en w') a'.defers .returning w' := by
    rintro s' ⟨ρ', S', F', hs⟩ hT
    have hmk : allMark s'.dfr = true := by
      simp only [outC] at hT
      cases hm : allMark s'.dfr with
      | true => rfl
      | false => rw [hm] at hT; obtain ⟨_, q, _⟩ := hT; cases q
    refine leaves_marks hGc (by simp) _ rfl hmk hs fun w'' q1 _ => ?_
    -- what the row is
    have hrow : ∃ ob : Option Nat, FreshRow P S' w w'' T e sl (a'.tmps.getD t undef) ob := by
      have hrc := q1.env t
      simp only [outC, hmk] at hT
      split at hT
      · rename_i id v e' sl' _ hse
        split at hT
        case h_2 => obtain ⟨_, q, _⟩ := hT; cases q
        rename_i v' T' k n hse2
        split at hT
        case h_2 => obtain ⟨_, q, _⟩ := hT; cases q
        rename_i hc
        obtain ⟨s0, hT, hlike⟩ := hT
        have hT : some (⟨T', e', sl'⟩ : FR) = some ⟨T, e, s0⟩ := hT
        cases hT
        cases Nat.eq_of_beq_eq_true hc
        have hse : ({ s' with dfr := [] } : St).env t = .v (.own id v e s0) := hse
        have hse2 : ({ s' with dfr := [] } : St).heap id = .chain v T k n := hse2
        rw [hse] at hrc
        obtain ⟨r1, _, cur, T0, k0, n0, r2, _, r4⟩ := hrc
        rw [hse2] at r2
        cases r2
        obtain ⟨r5, r6, r7⟩ := r4 rfl
        subst r5 r6
        have hobj := q1.obj id
        rw [hse2] at hobj
        rcases r7 with ⟨g0, g1, g2⟩ | ⟨b, cap, arr, g1, g2, g3, g4, g5, g6⟩
        · exact ⟨none, FreshRow.like (s := s0) ⟨r1, .inl ⟨rfl, g1, g2⟩⟩ hlike⟩
        · rcases hobj with ⟨o1, _⟩ | ⟨b', o1, o2, o3, o4, o5⟩
          · rw [g1] at o1; cases o1
          · rw [g1] at o1; cases o1
            exact ⟨some b, FreshRow.like (s := s0) ⟨r1, .inr ⟨b, cap, arr, rfl, g2, g3, g4, g5, g6, o2.1.elim (fun x => x) (fun x => x.elim), o5⟩⟩ hlike⟩
      · rename_i _ hse
        obtain ⟨s0, hT, hlike⟩ := hT
        have hT : some (⟨T, e, ⟨0, fun _ => e.dflt⟩⟩ : FR) = some ⟨T, e, s0⟩ := hT
        cases hT
        have hse : ({ s' with dfr := [] } : St).env t = .v .nils := hse
        rw [hse] at hrc
        obtain ⟨ad, hv⟩ := hrc
        exact ⟨none, FreshRow.like (s := ⟨0, fun _ => e.dflt⟩) ⟨.inl ⟨rfl, ad, 0, by rw [← hv]⟩, .inl ⟨rfl, rfl, ad, hv⟩⟩ hlike⟩
      · obtain ⟨_, q, _⟩ := hT; cases q
    obtain ⟨ob, hv, hob⟩ := hrow
    have hS2 : SR P fn.ntmps (Gh.inner (fun _ => False) S w G.l 0 fun _ => none) ⟨fun _ => .top, fun i => bif Nat.beq i id0 then .chain 0 T e.cells sl.n else .none, .none, 0, []⟩ { a' with defers := [] } w''
        (fun i => bif Nat.beq i id0 then ob else none) S' (fun _ => False) := by
      refine ⟨q1.size, trivial, fun _ => trivial, fun i => ?_, fun i j b' hi hj h1 h2 => ?_, q1.ext, q1.new,
        q1.same.mono fun b' q => ⟨q.1, q.2.1, q.2.2⟩, inner_free _ _ _, fun _ q => q.elim, fun _ _ q => q, fun _ q => q, fun _ _ _ _ => trivial, fun _ _ q => by cases q⟩
      · by_cases hi : i = id0
        · subst hi
          simp only [Nat.beq_refl, cond_true]
          rcases hob with ⟨g0, g1, _⟩ | ⟨b, cap, arr, g0, g1, g2, g3, g4, g5, g6, g7⟩
          · exact .inl ⟨by simp [g0], g1⟩
          · exact .inr ⟨b, by simp [g0], ⟨.inl g6, fun q => q⟩, (Array.getElem?_eq_some_iff.1 g4).1, ⟨_, _, _, g4⟩, g7⟩
        · simp only [beq_ne hi, cond_false]; trivial
      · by_cases hi' : i = id0
        · by_cases hj' : j = id0
          · rw [hi', hj']
          · simp only [beq_ne hj', cond_false] at hj; exact hj.elim
        · simp only [beq_ne hi', cond_false] at hi; exact hi.elim
    have hback := h.back hG (D := fun i => Nat.beq i id0) hS2 (fun b hb => hb.elim) (fun id hn => by
        cases hb : Nat.beq id id0 with
        | true => rfl
        | false => simp only [hb, cond_false] at hn; exact absurd rfl hn)
      (fun id hid => by rw [Nat.eq_of_beq_eq_true hid, hno]; trivial) (fun id b hid hb => by have := hG.pin id b hb; have := Nat.eq_of_beq_eq_true hid; omega)
    have hr0 : (results fn a'.tmps).run P w'' = .ok (a'.tmps.getD t undef) w'' := by
      simp [results, hres]
    refine ⟨_, hr0, .ok ⟨some (.v (.own id0 0 e sl)), [(id0, .chain 0 T e.cells sl.n)], [id0], false, none⟩, rfl, _, _, _, _, rfl, hback.of_eq rfl ?_ rfl rfl, ?_⟩
    · funext i
      show putH s.heap [(id0, .chain 0 T e.cells sl.n)] i = over (fun i => Nat.beq i id0) (fun i => bif Nat.beq i id0 then .chain 0 T e.cells sl.n else .none) s.heap i
      by_cases hi : i = id0
      · subst hi; simp [putH, setHeap, over]
      · simp [putH, setHeap, over, beq_ne hi]
    · show RC P G.Y S' w'' (putH s.heap [(id0, .chain 0 T e.cells sl.n)]) (overR (fun i => Nat.beq i id0) (fun i => bif Nat.beq i id0 then ob else none) ρ) (.own id0 0 e sl) (a'.tmps.getD t undef)
      have hh : putH s.heap [(id0, .chain 0 T e.cells sl.n)] id0 = .chain 0 T e.cells sl.n := by simp [putH, setHeap]
      refine ⟨hv, hfl, 0, T, e.cells, sl.n, hh, Nat.le_refl _, fun _ => ⟨rfl, rfl, ?_⟩⟩
      rcases hob with ⟨g0, g1, ad, g2⟩ | ⟨b, cap, arr, g0, g1, g2, g3, g4, g5, g6, g7⟩
      · exact .inl ⟨by simp [overR, g0], g1, ad, g2⟩
      · exact .inr ⟨b, cap, arr, by simp [overR, g0], g1, g2, g3, g4, g5⟩
  cases o with
  | norm s => cases en <;> first | exact ho.elim | exact fin s ho hT
  | ret s => cases en <;> first | exact ho.elim | exact fin s ho hT
  | exit id s => obtain ⟨_, q, _⟩ := hT; cases q
  | pan d s => obtain ⟨_, q, _⟩ := hT; cases q
  | bad => obtain ⟨_, q, _⟩ := hT; cases q
end Go.Dm

/-
  Choices that hand on what they found.
-/
namespace Go.Dm
open Go.RowKit

def cl {α β : Type} (d : α) (m : Option α) (f : α → β) (g : β) : β := bif m.isSome then f (m.getD d) else g
theorem sure_cl {γ : Type} {α : Type} (d : α) (m : Option α) (f : α → Tree (Option γ)) (g : Tree (Option γ)) : Tree.sure (cl d m f g) = cl d m (fun y => Tree.sure (f y)) (Tree.sure g) := by unfold cl; cases m.isSome <;> rfl
theorem sureC_cl {T0 : TypeId} {e0 : Ty} {α : Type} (d : α) (m : Option α) (f : α → Tree (Option FR)) (g : Tree (Option FR)) : Tree.sureC T0 e0 (cl d m f g) = cl d m (fun y => Tree.sureC T0 e0 (f y)) (Tree.sureC T0 e0 g) := by unfold cl; cases m.isSome <;> rfl
theorem detB_cl {γ : Type} (bad : γ) {α : Type} (d : α) (m : Option α) (f : α → Tree γ) (g : Tree γ) : Tree.detB bad (cl d m f g) = cl d m (fun y => Tree.detB bad (f y)) (Tree.detB bad g) := by unfold cl; cases m.isSome <;> rfl
theorem detQ_cl {ps0 : List Pat} {wy0 : Ways} {α : Type} (d : α) (m : Option α) (f : α → Tree (RQ ps0 wy0)) (g : Tree (RQ ps0 wy0)) : detQ (cl d m f g) = cl d m (fun y => detQ (f y)) (detQ g) := by unfold cl; cases m.isSome <;> rfl
theorem lift_cl {C : Type} {vs0 ps0 : List Pat} {wv0 wy0 : Ways} {join : C → (patsTy vs0).den → (patsTy ps0).den} {je : (id : Nat) → C → (patsTy (wayP wv0 id)).den → (patsTy (wayP wy0 id)).den} {jr : C → (patsTy wv0.ret).den → (patsTy wy0.ret).den} {jp : C → (patsTy wv0.pan).den → (patsTy wy0.pan).den} {c : C} {α : Type} (d : α) (m : Option α) (f : α → RQ vs0 wv0) (g : RQ vs0 wv0) : RQ.lift join je jr jp c (cl d m f g) = cl d m (fun y => RQ.lift join je jr jp c (f y)) (RQ.lift join je jr jp c g) := by unfold cl; cases m.isSome <;> rfl
def onExit {wy : Ways} {β : Type} (q : LQ wy) (id : Nat) (f : (patsTy (wayP wy id)).den → β) (g : β) : β := bif (q.isExit id) then f (q.getExit id) else g
theorem sure_onExit {γ : Type} {wy : Ways} (q : LQ wy) (id : Nat) (f : (patsTy (wayP wy id)).den → Tree (Option γ)) (g : Tree (Option γ)) : Tree.sure (onExit q id f g) = onExit q id (fun y => Tree.sure (f y)) (Tree.sure g) := by unfold onExit; cases (q.isExit id) <;> rfl
theorem sureC_onExit {T0 : TypeId} {e0 : Ty} {wy : Ways} (q : LQ wy) (id : Nat) (f : (patsTy (wayP wy id)).den → Tree (Option FR)) (g : Tree (Option FR)) : Tree.sureC T0 e0 (onExit q id f g) = onExit q id (fun y => Tree.sureC T0 e0 (f y)) (Tree.sureC T0 e0 g) := by unfold onExit; cases (q.isExit id) <;> rfl
theorem detB_onExit {γ : Type} (bad : γ) {wy : Ways} (q : LQ wy) (id : Nat) (f : (patsTy (wayP wy id)).den → Tree γ) (g : Tree γ) : Tree.detB bad (onExit q id f g) = onExit q id (fun y => Tree.detB bad (f y)) (Tree.detB bad g) := by unfold onExit; cases (q.isExit id) <;> rfl
theorem detQ_onExit {ps0 : List Pat} {wy0 : Ways} {wy : Ways} (q : LQ wy) (id : Nat) (f : (patsTy (wayP wy id)).den → Tree (RQ ps0 wy0)) (g : Tree (RQ ps0 wy0)) : detQ (onExit q id f g) = onExit q id (fun y => detQ (f y)) (detQ g) := by unfold onExit; cases (q.isExit id) <;> rfl
theorem lift_onExit {C : Type} {vs0 ps0 : List Pat} {wv0 wy0 : Ways} {join : C → (patsTy vs0).den → (patsTy ps0).den} {je : (id : Nat) → C → (patsTy (wayP wv0 id)).den → (patsTy (wayP wy0 id)).den} {jr : C → (patsTy wv0.ret).den → (patsTy wy0.ret).den} {jp : C → (patsTy wv0.pan).den → (patsTy wy0.pan).den} {c : C} {wy : Ways} (q : LQ wy) (id : Nat) (f : (patsTy (wayP wy id)).den → RQ vs0 wv0) (g : RQ vs0 wv0) : RQ.lift join je jr jp c (onExit q id f g) = onExit q id (fun y => RQ.lift join je jr jp c (f y)) (RQ.lift join je jr jp c g) := by unfold onExit; cases (q.isExit id) <;> rfl
def onRet {wy : Ways} {β : Type} (q : LQ wy) (f : (patsTy wy.ret).den → β) (g : β) : β := bif q.isRet then f q.getRet else g
theorem sure_onRet {γ : Type} {wy : Ways} (q : LQ wy) (f : (patsTy wy.ret).den → Tree (Option γ)) (g : Tree (Option γ)) : Tree.sure (onRet q f g) = onRet q (fun y => Tree.sure (f y)) (Tree.sure g) := by unfold onRet; cases q.isRet <;> rfl
theorem sureC_onRet {T0 : TypeId} {e0 : Ty} {wy : Ways} (q : LQ wy) (f : (patsTy wy.ret).den → Tree (Option FR)) (g : Tree (Option FR)) : Tree.sureC T0 e0 (onRet q f g) = onRet q (fun y => Tree.sureC T0 e0 (f y)) (Tree.sureC T0 e0 g) := by unfold onRet; cases q.isRet <;> rfl
theorem detB_onRet {γ : Type} (bad : γ) {wy : Ways} (q : LQ wy) (f : (patsTy wy.ret).den → Tree γ) (g : Tree γ) : Tree.detB bad (onRet q f g) = onRet q (fun y => Tree.detB bad (f y)) (Tree.detB bad g) := by unfold onRet; cases q.isRet <;> rfl
theorem detQ_onRet {ps0 : List Pat} {wy0 : Ways} {wy : Ways} (q : LQ wy) (f : (patsTy wy.ret).den → Tree (RQ ps0 wy0)) (g : Tree (RQ ps0 wy0)) : detQ (onRet q f g) = onRet q (fun y => detQ (f y)) (detQ g) := by unfold onRet; cases q.isRet <;> rfl
theorem lift_onRet {C : Type} {vs0 ps0 : List Pat} {wv0 wy0 : Ways} {join : C → (patsTy vs0).den → (patsTy ps0).den} {je : (id : Nat) → C → (patsTy (wayP wv0 id)).den → (patsTy (wayP wy0 id)).den} {jr : C → (patsTy wv0.ret).den → (patsTy wy0.ret).den} {jp : C → (patsTy wv0.pan).den → (patsTy wy0.pan).den} {c : C} {wy : Ways} (q : LQ wy) (f : (patsTy wy.ret).den → RQ vs0 wv0) (g : RQ vs0 wv0) : RQ.lift join je jr jp c (onRet q f g) = onRet q (fun y => RQ.lift join je jr jp c (f y)) (RQ.lift join je jr jp c g) := by unfold onRet; cases q.isRet <;> rfl
def onPanL {wy : Ways} {β : Type} (q : LQ wy) (T : TypeId) (τ : Ty) (f : τ.den × (patsTy wy.pan).den → β) (g : β) : β := bif (q.isPan T τ) then f (q.getPan τ, q.getPanY) else g
theorem sure_onPanL {γ : Type} {wy : Ways} (q : LQ wy) (T : TypeId) (τ : Ty) (f : τ.den × (patsTy wy.pan).den → Tree (Option γ)) (g : Tree (Option γ)) : Tree.sure (onPanL q T τ f g) = onPanL q T τ (fun y => Tree.sure (f y)) (Tree.sure g) := by unfold onPanL; cases (q.isPan T τ) <;> rfl
theorem sureC_onPanL {T0 : TypeId} {e0 : Ty} {wy : Ways} (q : LQ wy) (T : TypeId) (τ : Ty) (f : τ.den × (patsTy wy.pan).den → Tree (Option FR)) (g : Tree (Option FR)) : Tree.sureC T0 e0 (onPanL q T τ f g) = onPanL q T τ (fun y => Tree.sureC T0 e0 (f y)) (Tree.sureC T0 e0 g) := by unfold onPanL; cases (q.isPan T τ) <;> rfl
theorem detB_onPanL {γ : Type} (bad : γ) {wy : Ways} (q : LQ wy) (T : TypeId) (τ : Ty) (f : τ.den × (patsTy wy.pan).den → Tree γ) (g : Tree γ) : Tree.detB bad (onPanL q T τ f g) = onPanL q T τ (fun y => Tree.detB bad (f y)) (Tree.detB bad g) := by unfold onPanL; cases (q.isPan T τ) <;> rfl
theorem detQ_onPanL {ps0 : List Pat} {wy0 : Ways} {wy : Ways} (q : LQ wy) (T : TypeId) (τ : Ty) (f : τ.den × (patsTy wy.pan).den → Tree (RQ ps0 wy0)) (g : Tree (RQ ps0 wy0)) : detQ (onPanL q T τ f g) = onPanL q T τ (fun y => detQ (f y)) (detQ g) := by unfold onPanL; cases (q.isPan T τ) <;> rfl
theorem lift_onPanL {C : Type} {vs0 ps0 : List Pat} {wv0 wy0 : Ways} {join : C → (patsTy vs0).den → (patsTy ps0).den} {je : (id : Nat) → C → (patsTy (wayP wv0 id)).den → (patsTy (wayP wy0 id)).den} {jr : C → (patsTy wv0.ret).den → (patsTy wy0.ret).den} {jp : C → (patsTy wv0.pan).den → (patsTy wy0.pan).den} {c : C} {wy : Ways} (q : LQ wy) (T : TypeId) (τ : Ty) (f : τ.den × (patsTy wy.pan).den → RQ vs0 wv0) (g : RQ vs0 wv0) : RQ.lift join je jr jp c (onPanL q T τ f g) = onPanL q T τ (fun y => RQ.lift join je jr jp c (f y)) (RQ.lift join je jr jp c g) := by unfold onPanL; cases (q.isPan T τ) <;> rfl
def onNext {mps : List Pat} {β : Type} (o : RO mps) (f : (patsTy mps).den → β) (g : β) : β := bif o.isNext then f o.getX else g
theorem sure_onNext {γ : Type} {mps : List Pat} (o : RO mps) (f : (patsTy mps).den → Tree (Option γ)) (g : Tree (Option γ)) : Tree.sure (onNext o f g) = onNext o (fun y => Tree.sure (f y)) (Tree.sure g) := by unfold onNext; cases o.isNext <;> rfl
theorem sureC_onNext {T0 : TypeId} {e0 : Ty} {mps : List Pat} (o : RO mps) (f : (patsTy mps).den → Tree (Option FR)) (g : Tree (Option FR)) : Tree.sureC T0 e0 (onNext o f g) = onNext o (fun y => Tree.sureC T0 e0 (f y)) (Tree.sureC T0 e0 g) := by unfold onNext; cases o.isNext <;> rfl
theorem detB_onNext {γ : Type} (bad : γ) {mps : List Pat} (o : RO mps) (f : (patsTy mps).den → Tree γ) (g : Tree γ) : Tree.detB bad (onNext o f g) = onNext o (fun y => Tree.detB bad (f y)) (Tree.detB bad g) := by unfold onNext; cases o.isNext <;> rfl
theorem detQ_onNext {ps0 : List Pat} {wy0 : Ways} {mps : List Pat} (o : RO mps) (f : (patsTy mps).den → Tree (RQ ps0 wy0)) (g : Tree (RQ ps0 wy0)) : detQ (onNext o f g) = onNext o (fun y => detQ (f y)) (detQ g) := by unfold onNext; cases o.isNext <;> rfl
theorem lift_onNext {C : Type} {vs0 ps0 : List Pat} {wv0 wy0 : Ways} {join : C → (patsTy vs0).den → (patsTy ps0).den} {je : (id : Nat) → C → (patsTy (wayP wv0 id)).den → (patsTy (wayP wy0 id)).den} {jr : C → (patsTy wv0.ret).den → (patsTy wy0.ret).den} {jp : C → (patsTy wv0.pan).den → (patsTy wy0.pan).den} {c : C} {mps : List Pat} (o : RO mps) (f : (patsTy mps).den → RQ vs0 wv0) (g : RQ vs0 wv0) : RQ.lift join je jr jp c (onNext o f g) = onNext o (fun y => RQ.lift join je jr jp c (f y)) (RQ.lift join je jr jp c g) := by unfold onNext; cases o.isNext <;> rfl
def onBrk {mps : List Pat} {β : Type} (o : RO mps) (id : Nat) (f : (patsTy mps).den → β) (g : β) : β := bif (o.isBrk id) then f o.getX else g
theorem sure_onBrk {γ : Type} {mps : List Pat} (o : RO mps) (id : Nat) (f : (patsTy mps).den → Tree (Option γ)) (g : Tree (Option γ)) : Tree.sure (onBrk o id f g) = onBrk o id (fun y => Tree.sure (f y)) (Tree.sure g) := by unfold onBrk; cases (o.isBrk id) <;> rfl
theorem sureC_onBrk {T0 : TypeId} {e0 : Ty} {mps : List Pat} (o : RO mps) (id : Nat) (f : (patsTy mps).den → Tree (Option FR)) (g : Tree (Option FR)) : Tree.sureC T0 e0 (onBrk o id f g) = onBrk o id (fun y => Tree.sureC T0 e0 (f y)) (Tree.sureC T0 e0 g) := by unfold onBrk; cases (o.isBrk id) <;> rfl
theorem detB_onBrk {γ : Type} (bad : γ) {mps : List Pat} (o : RO mps) (id : Nat) (f : (patsTy mps).den → Tree γ) (g : Tree γ) : Tree.detB bad (onBrk o id f g) = onBrk o id (fun y => Tree.detB bad (f y)) (Tree.detB bad g) := by unfold onBrk; cases (o.isBrk id) <;> rfl
theorem detQ_onBrk {ps0 : List Pat} {wy0 : Ways} {mps : List Pat} (o : RO mps) (id : Nat) (f : (patsTy mps).den → Tree (RQ ps0 wy0)) (g : Tree (RQ ps0 wy0)) : detQ (onBrk o id f g) = onBrk o id (fun y => detQ (f y)) (detQ g) := by unfold onBrk; cases (o.isBrk id) <;> rfl
theorem lift_onBrk {C : Type} {vs0 ps0 : List Pat} {wv0 wy0 : Ways} {join : C → (patsTy vs0).den → (patsTy ps0).den} {je : (id : Nat) → C → (patsTy (wayP wv0 id)).den → (patsTy (wayP wy0 id)).den} {jr : C → (patsTy wv0.ret).den → (patsTy wy0.ret).den} {jp : C → (patsTy wv0.pan).den → (patsTy wy0.pan).den} {c : C} {mps : List Pat} (o : RO mps) (id : Nat) (f : (patsTy mps).den → RQ vs0 wv0) (g : RQ vs0 wv0) : RQ.lift join je jr jp c (onBrk o id f g) = onBrk o id (fun y => RQ.lift join je jr jp c (f y)) (RQ.lift join je jr jp c g) := by unfold onBrk; cases (o.isBrk id) <;> rfl
def onRetO {mps : List Pat} {β : Type} (o : RO mps) (f : (patsTy mps).den → β) (g : β) : β := bif o.isRet then f o.getX else g
theorem sure_onRetO {γ : Type} {mps : List Pat} (o : RO mps) (f : (patsTy mps).den → Tree (Option γ)) (g : Tree (Option γ)) : Tree.sure (onRetO o f g) = onRetO o (fun y => Tree.sure (f y)) (Tree.sure g) := by unfold onRetO; cases o.isRet <;> rfl
theorem sureC_onRetO {T0 : TypeId} {e0 : Ty} {mps : List Pat} (o : RO mps) (f : (patsTy mps).den → Tree (Option FR)) (g : Tree (Option FR)) : Tree.sureC T0 e0 (onRetO o f g) = onRetO o (fun y => Tree.sureC T0 e0 (f y)) (Tree.sureC T0 e0 g) := by unfold onRetO; cases o.isRet <;> rfl
theorem detB_onRetO {γ : Type} (bad : γ) {mps : List Pat} (o : RO mps) (f : (patsTy mps).den → Tree γ) (g : Tree γ) : Tree.detB bad (onRetO o f g) = onRetO o (fun y => Tree.detB bad (f y)) (Tree.detB bad g) := by unfold onRetO; cases o.isRet <;> rfl
theorem detQ_onRetO {ps0 : List Pat} {wy0 : Ways} {mps : List Pat} (o : RO mps) (f : (patsTy mps).den → Tree (RQ ps0 wy0)) (g : Tree (RQ ps0 wy0)) : detQ (onRetO o f g) = onRetO o (fun y => detQ (f y)) (detQ g) := by unfold onRetO; cases o.isRet <;> rfl
theorem lift_onRetO {C : Type} {vs0 ps0 : List Pat} {wv0 wy0 : Ways} {join : C → (patsTy vs0).den → (patsTy ps0).den} {je : (id : Nat) → C → (patsTy (wayP wv0 id)).den → (patsTy (wayP wy0 id)).den} {jr : C → (patsTy wv0.ret).den → (patsTy wy0.ret).den} {jp : C → (patsTy wv0.pan).den → (patsTy wy0.pan).den} {c : C} {mps : List Pat} (o : RO mps) (f : (patsTy mps).den → RQ vs0 wv0) (g : RQ vs0 wv0) : RQ.lift join je jr jp c (onRetO o f g) = onRetO o (fun y => RQ.lift join je jr jp c (f y)) (RQ.lift join je jr jp c g) := by unfold onRetO; cases o.isRet <;> rfl
def onPan {mps : List Pat} {β : Type} (o : RO mps) (T : TypeId) (τ : Ty) (f : τ.den × (patsTy mps).den → β) (g : β) : β := bif (o.isPan T τ) then f (o.getPan τ, o.getX) else g
theorem sure_onPan {γ : Type} {mps : List Pat} (o : RO mps) (T : TypeId) (τ : Ty) (f : τ.den × (patsTy mps).den → Tree (Option γ)) (g : Tree (Option γ)) : Tree.sure (onPan o T τ f g) = onPan o T τ (fun y => Tree.sure (f y)) (Tree.sure g) := by unfold onPan; cases (o.isPan T τ) <;> rfl
theorem sureC_onPan {T0 : TypeId} {e0 : Ty} {mps : List Pat} (o : RO mps) (T : TypeId) (τ : Ty) (f : τ.den × (patsTy mps).den → Tree (Option FR)) (g : Tree (Option FR)) : Tree.sureC T0 e0 (onPan o T τ f g) = onPan o T τ (fun y => Tree.sureC T0 e0 (f y)) (Tree.sureC T0 e0 g) := by unfold onPan; cases (o.isPan T τ) <;> rfl
theorem detB_onPan {γ : Type} (bad : γ) {mps : List Pat} (o : RO mps) (T : TypeId) (τ : Ty) (f : τ.den × (patsTy mps).den → Tree γ) (g : Tree γ) : Tree.detB bad (onPan o T τ f g) = onPan o T τ (fun y => Tree.detB bad (f y)) (Tree.detB bad g) := by unfold onPan; cases (o.isPan T τ) <;> rfl
theorem detQ_onPan {ps0 : List Pat} {wy0 : Ways} {mps : List Pat} (o : RO mps) (T : TypeId) (τ : Ty) (f : τ.den × (patsTy mps).den → Tree (RQ ps0 wy0)) (g : Tree (RQ ps0 wy0)) : detQ (onPan o T τ f g) = onPan o T τ (fun y => detQ (f y)) (detQ g) := by unfold onPan; cases (o.isPan T τ) <;> rfl
theorem lift_onPan {C : Type} {vs0 ps0 : List Pat} {wv0 wy0 : Ways} {join : C → (patsTy vs0).den → (patsTy ps0).den} {je : (id : Nat) → C → (patsTy (wayP wv0 id)).den → (patsTy (wayP wy0 id)).den} {jr : C → (patsTy wv0.ret).den → (patsTy wy0.ret).den} {jp : C → (patsTy wv0.pan).den → (patsTy wy0.pan).den} {c : C} {mps : List Pat} (o : RO mps) (T : TypeId) (τ : Ty) (f : τ.den × (patsTy mps).den → RQ vs0 wv0) (g : RQ vs0 wv0) : RQ.lift join je jr jp c (onPan o T τ f g) = onPan o T τ (fun y => RQ.lift join je jr jp c (f y)) (RQ.lift join je jr jp c g) := by unfold onPan; cases (o.isPan T τ) <;> rfl
def onOk {τr : Ty} {qs : List Pat} {β : Type} (o : GO τr qs) (f : τr.den × (patsTy qs).den → β) (g : β) : β := bif o.isOk then f (o.getR, o.getY) else g
theorem sure_onOk {γ : Type} {τr : Ty} {qs : List Pat} (o : GO τr qs) (f : τr.den × (patsTy qs).den → Tree (Option γ)) (g : Tree (Option γ)) : Tree.sure (onOk o f g) = onOk o (fun y => Tree.sure (f y)) (Tree.sure g) := by unfold onOk; cases o.isOk <;> rfl
theorem sureC_onOk {T0 : TypeId} {e0 : Ty} {τr : Ty} {qs : List Pat} (o : GO τr qs) (f : τr.den × (patsTy qs).den → Tree (Option FR)) (g : Tree (Option FR)) : Tree.sureC T0 e0 (onOk o f g) = onOk o (fun y => Tree.sureC T0 e0 (f y)) (Tree.sureC T0 e0 g) := by unfold onOk; cases o.isOk <;> rfl
theorem detB_onOk {γ : Type} (bad : γ) {τr : Ty} {qs : List Pat} (o : GO τr qs) (f : τr.den × (patsTy qs).den → Tree γ) (g : Tree γ) : Tree.detB bad (onOk o f g) = onOk o (fun y => Tree.detB bad (f y)) (Tree.detB bad g) := by unfold onOk; cases o.isOk <;> rfl
theorem detQ_onOk {ps0 : List Pat} {wy0 : Ways} {τr : Ty} {qs : List Pat} (o : GO τr qs) (f : τr.den × (patsTy qs).den → Tree (RQ ps0 wy0)) (g : Tree (RQ ps0 wy0)) : detQ (onOk o f g) = onOk o (fun y => detQ (f y)) (detQ g) := by unfold onOk; cases o.isOk <;> rfl
theorem lift_onOk {C : Type} {vs0 ps0 : List Pat} {wv0 wy0 : Ways} {join : C → (patsTy vs0).den → (patsTy ps0).den} {je : (id : Nat) → C → (patsTy (wayP wv0 id)).den → (patsTy (wayP wy0 id)).den} {jr : C → (patsTy wv0.ret).den → (patsTy wy0.ret).den} {jp : C → (patsTy wv0.pan).den → (patsTy wy0.pan).den} {c : C} {τr : Ty} {qs : List Pat} (o : GO τr qs) (f : τr.den × (patsTy qs).den → RQ vs0 wv0) (g : RQ vs0 wv0) : RQ.lift join je jr jp c (onOk o f g) = onOk o (fun y => RQ.lift join je jr jp c (f y)) (RQ.lift join je jr jp c g) := by unfold onOk; cases o.isOk <;> rfl
def onGPan {τr : Ty} {qs : List Pat} {β : Type} (o : GO τr qs) (T : TypeId) (τ : Ty) (f : τ.den × (patsTy qs).den → β) (g : β) : β := bif (o.isPan T τ) then f (o.getPan τ, o.getY) else g
theorem sure_onGPan {γ : Type} {τr : Ty} {qs : List Pat} (o : GO τr qs) (T : TypeId) (τ : Ty) (f : τ.den × (patsTy qs).den → Tree (Option γ)) (g : Tree (Option γ)) : Tree.sure (onGPan o T τ f g) = onGPan o T τ (fun y => Tree.sure (f y)) (Tree.sure g) := by unfold onGPan; cases (o.isPan T τ) <;> rfl
theorem sureC_onGPan {T0 : TypeId} {e0 : Ty} {τr : Ty} {qs : List Pat} (o : GO τr qs) (T : TypeId) (τ : Ty) (f : τ.den × (patsTy qs).den → Tree (Option FR)) (g : Tree (Option FR)) : Tree.sureC T0 e0 (onGPan o T τ f g) = onGPan o T τ (fun y => Tree.sureC T0 e0 (f y)) (Tree.sureC T0 e0 g) := by unfold onGPan; cases (o.isPan T τ) <;> rfl
theorem detB_onGPan {γ : Type} (bad : γ) {τr : Ty} {qs : List Pat} (o : GO τr qs) (T : TypeId) (τ : Ty) (f : τ.den × (patsTy qs).den → Tree γ) (g : Tree γ) : Tree.detB bad (onGPan o T τ f g) = onGPan o T τ (fun y => Tree.detB bad (f y)) (Tree.detB bad g) := by unfold onGPan; cases (o.isPan T τ) <;> rfl
theorem detQ_onGPan {ps0 : List Pat} {wy0 : Ways} {τr : Ty} {qs : List Pat} (o : GO τr qs) (T : TypeId) (τ : Ty) (f : τ.den × (patsTy qs).den → Tree (RQ ps0 wy0)) (g : Tree (RQ ps0 wy0)) : detQ (onGPan o T τ f g) = onGPan o T τ (fun y => detQ (f y)) (detQ g) := by unfold onGPan; cases (o.isPan T τ) <;> rfl
theorem lift_onGPan {C : Type} {vs0 ps0 : List Pat} {wv0 wy0 : Ways} {join : C → (patsTy vs0).den → (patsTy ps0).den} {je : (id : Nat) → C → (patsTy (wayP wv0 id)).den → (patsTy (wayP wy0 id)).den} {jr : C → (patsTy wv0.ret).den → (patsTy wy0.ret).den} {jp : C → (patsTy wv0.pan).den → (patsTy wy0.pan).den} {c : C} {τr : Ty} {qs : List Pat} (o : GO τr qs) (T : TypeId) (τ : Ty) (f : τ.den × (patsTy qs).den → RQ vs0 wv0) (g : RQ vs0 wv0) : RQ.lift join je jr jp c (onGPan o T τ f g) = onGPan o T τ (fun y => RQ.lift join je jr jp c (f y)) (RQ.lift join je jr jp c g) := by unfold onGPan; cases (o.isPan T τ) <;> rfl

@[simp] theorem cl_some {α β : Type} (d r : α) (f : α → β) (g : β) : cl d (some r) f g = f r := rfl
@[simp] theorem cl_none {α β : Type} (d : α) (f : α → β) (g : β) : cl d none f g = g := rfl
@[simp] theorem onExit_exit {wy : Ways} {β : Type} (id : Nat) (y : (patsTy (wayP wy id)).den) (f : (patsTy (wayP wy id)).den → β) (g : β) : onExit (LQ.exit id y) id f g = f y := by
  unfold onExit
  rw [LQ.getExit_exit, LQ.isExit_exit, Nat.beq_refl]
  rfl
theorem onExit_other {wy : Ways} {β : Type} {id id' : Nat} (h : Nat.beq id id' = false) (y : (patsTy (wayP wy id)).den) (f : (patsTy (wayP wy id')).den → β) (g : β) : onExit (LQ.exit id y) id' f g = g := by
  unfold onExit
  rw [LQ.isExit_exit, h]
  rfl
@[simp] theorem onExit_ret {wy : Ways} {β : Type} (id : Nat) (y : (patsTy wy.ret).den) (f : (patsTy (wayP wy id)).den → β) (g : β) : onExit (LQ.ret y) id f g = g := rfl
@[simp] theorem onExit_pan {wy : Ways} {β : Type} (T : TypeId) (τ : Ty) (x : τ.den) (y : (patsTy wy.pan).den) (id : Nat) (f : (patsTy (wayP wy id)).den → β) (g : β) : onExit (LQ.pan T τ x y) id f g = g := rfl
@[simp] theorem onRet_ret {wy : Ways} {β : Type} (y : (patsTy wy.ret).den) (f : (patsTy wy.ret).den → β) (g : β) : onRet (LQ.ret y) f g = f y := rfl
@[simp] theorem onRet_exit {wy : Ways} {β : Type} (id : Nat) (y : (patsTy (wayP wy id)).den) (f : (patsTy wy.ret).den → β) (g : β) : onRet (LQ.exit id y) f g = g := rfl
@[simp] theorem onRet_pan {wy : Ways} {β : Type} (T : TypeId) (τ : Ty) (x : τ.den) (y : (patsTy wy.pan).den) (f : (patsTy wy.ret).den → β) (g : β) : onRet (LQ.pan T τ x y) f g = g := rfl
@[simp] theorem onPanL_pan {wy : Ways} {β : Type} (T : TypeId) (τ : Ty) (x : τ.den) (y : (patsTy wy.pan).den) (f : τ.den × (patsTy wy.pan).den → β) (g : β) : onPanL (LQ.pan T τ x y) T τ f g = f (x, y) := by
  simp [onPanL, LQ.isPan, LQ.getPan, LQ.getPanY, castTy_self]
@[simp] theorem onPanL_exit {wy : Ways} {β : Type} (T : TypeId) (τ : Ty) (id : Nat) (y : (patsTy (wayP wy id)).den) (f : τ.den × (patsTy wy.pan).den → β) (g : β) : onPanL (LQ.exit id y) T τ f g = g := rfl
@[simp] theorem onPanL_ret {wy : Ways} {β : Type} (T : TypeId) (τ : Ty) (y : (patsTy wy.ret).den) (f : τ.den × (patsTy wy.pan).den → β) (g : β) : onPanL (LQ.ret y) T τ f g = g := rfl
@[simp] theorem onNext_next {mps : List Pat} {β : Type} (x : (patsTy mps).den) (f : (patsTy mps).den → β) (g : β) : onNext (RO.next x) f g = f x := rfl
@[simp] theorem onOk_ok {τr : Ty} {qs : List Pat} {β : Type} (r : τr.den) (y : (patsTy qs).den) (f : τr.den × (patsTy qs).den → β) (g : β) : onOk (GO.ok r y) f g = f (r, y) := rfl
@[simp] theorem onOk_pan {τr : Ty} {qs : List Pat} {β : Type} (T : TypeId) (τ : Ty) (d : τ.den) (y : (patsTy qs).den) (f : τr.den × (patsTy qs).den → β) (g : β) : onOk (GO.pan T τ d y) f g = g := rfl
@[simp] theorem onGPan_ok {τr : Ty} {qs : List Pat} {β : Type} (T : TypeId) (τ : Ty) (r : τr.den) (y : (patsTy qs).den) (f : τ.den × (patsTy qs).den → β) (g : β) : onGPan (GO.ok r y) T τ f g = g := rfl
@[simp] theorem onGPan_pan {τr : Ty} {qs : List Pat} {β : Type} (T : TypeId) (τ : Ty) (d : τ.den) (y : (patsTy qs).den) (f : τ.den × (patsTy qs).den → β) (g : β) : onGPan (GO.pan T τ d y : GO τr qs) T τ f g = f (d, y) := by
  simp [onGPan, GO.isPan, GO.getPan, GO.getY, castTy_self]
end Go.Dm

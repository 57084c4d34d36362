/-
  The framework: an interpreter over typed data, and why what it says of a call is true.
-/
import Derived.Test.YtlfgdpjompacjaaFwC
set_option linter.unusedVariables false
set_option linter.unusedSimpArgs false
/-
  Ranges over functions, calls that look at their caller's objects, functions that call themselves: where what they come to is sure.
-/
namespace Go.Dm
open Go.RowKit
variable {P : Program} {N : Nat} {G : Gh} {S S' : CS} {w w' : World} {s : St} {a : Act} {ρ ρ' : Rho} {F F' : Nat → Prop} {E : TCtx} {Γ : Ctx} {Fw : Fence} {r : Nat} {dfr : List Dfr} {fid : FuncId} {lo lo' : Nat} {mps : List Pat} {e : Ty}

/-- What is sure of a tree. -/
def Tree.detB {α : Type} (bad : α) : Tree α → α
  | .leaf r => r
  | .br b l r => bif b then l.detB bad else r.detB bad
  | .any _ _ => bad
theorem detB_cond {α : Type} (bad : α) (b : Bool) (l r : Tree α) : (bif b then l else r).detB bad = bif b then l.detB bad else r.detB bad := by cases b <;> rfl

theorem Tree.detB_has {α : Type} {bad : α} : ∀ {t : Tree α}, t.detB bad ≠ bad → ∀ o, t.Has o → o = t.detB bad
  | .leaf _, _, _, h => h
  | .br b l r, h, o, ho => by
    cases b with
    | true => exact Tree.detB_has (t := l) h o (by simpa [Tree.Has] using ho)
    | false => exact Tree.detB_has (t := r) h o (by simpa [Tree.Has] using ho)
  | .any _ _, h, _, _ => absurd rfl h

theorem LoopOK.mono {c : Code} {f f' : St → Tree Out} (h : LoopOK P N G fid Fw r c f') (hf : ∀ s, (∀ o, (f s).Has o → o.fine G) → ∀ o, (f' s).Has o → (f s).Has o) : LoopOK P N G fid Fw r c f := by
  intro s a w hs hfine
  exact wpB_mono (h s a w hs fun o ho => hfine o (hf s hfine o ho)) fun e a' w' ⟨o, h1, h2⟩ => ⟨o, hf s hfine o h1, h2⟩

namespace RO
def isNext (o : RO mps) : Bool := match o with
  | .next _ => true
  | _ => false
def isBrk (o : RO mps) (id : Nat) : Bool := match o with
  | .brk id' _ => Nat.beq id' id
  | _ => false
def isRet (o : RO mps) : Bool := match o with
  | .ret _ => true
  | _ => false
def isPan (o : RO mps) (T : TypeId) (τ : Ty) : Bool := match o with
  | .pan T' τ' _ _ => Nat.beq T' T && decide (τ' = τ)
  | _ => false
def getX (o : RO mps) : (patsTy mps).den := match o with
  | .next x => x
  | .brk _ x => x
  | .ret x => x
  | .pan _ _ _ x => x
  | .bad => (patsTy mps).dflt
def getPan (o : RO mps) (τ : Ty) : τ.den := match o with
  | .pan _ τ' d _ => (castTy τ d).getD τ.dflt
  | _ => τ.dflt
end RO

def spreadP (o : RO mps) : List (TypeId × Ty) → Tree (RO mps)
  | [] => .leaf .bad
  | (T, τ) :: l => .br (o.isPan T τ) (.leaf (.pan T τ (o.getPan τ) o.getX)) (spreadP o l)
def spreadR (o : RO mps) (pans : List (TypeId × Ty)) : List Nat → Tree (RO mps)
  | [] => .br o.isNext (.leaf (.next o.getX)) (.br o.isRet (.leaf (.ret o.getX)) (spreadP o pans))
  | id :: l => .br (o.isBrk id) (.leaf (.brk id o.getX)) (spreadR o pans l)

theorem castTy_self {τ : Ty} (x : τ.den) : castTy τ x = some x := by simp [castTy]

theorem spreadP_ok {o : RO mps} {β : Type} {K : RO mps → β} : ∀ {l : List (TypeId × Ty)}, (∀ q, ((spreadP o l).map K).Has q → q ≠ K .bad) → (o ≠ .bad) ∧ ((spreadP o l).map K).Has (K o)
  | [], h => absurd rfl (h _ rfl)
  | (T, τ) :: l, h => by
    simp only [spreadP, Tree.map] at h ⊢
    cases hb : o.isPan T τ with
    | true =>
      cases o with
      | pan T' τ' d x =>
        simp only [RO.isPan, Bool.and_eq_true, decide_eq_true_eq] at hb
        obtain ⟨h1, h2⟩ := hb
        cases Nat.eq_of_beq_eq_true h1
        subst h2
        refine ⟨by simp, ?_⟩
        show K _ = K _
        simp [RO.getPan, RO.getX, castTy_self]
      | _ => cases hb
    | false =>
      rw [hb] at h
      have := spreadP_ok (l := l) (fun q hq => h q (by simpa [Tree.Has] using hq))
      exact ⟨this.1, by simpa [Tree.Has] using this.2⟩

theorem spreadR_ok {o : RO mps} {pans : List (TypeId × Ty)} {β : Type} {K : RO mps → β} : ∀ {l : List Nat}, (∀ q, ((spreadR o pans l).map K).Has q → q ≠ K .bad) → (o ≠ .bad) ∧ ((spreadR o pans l).map K).Has (K o)
  | [], h => by
    simp only [spreadR, Tree.map] at h ⊢
    cases hb : o.isNext with
    | true =>
      cases o with
      | next x => exact ⟨by simp, rfl⟩
      | _ => cases hb
    | false =>
      rw [hb] at h
      cases hb' : o.isRet with
      | true =>
        cases o with
        | ret x => exact ⟨by simp, rfl⟩
        | _ => cases hb'
      | false =>
        rw [hb'] at h
        have := spreadP_ok (o := o) (l := pans) (fun q hq => h q (by simpa [Tree.Has] using hq))
        exact ⟨this.1, by simpa [Tree.Has] using this.2⟩
  | id :: l, h => by
    simp only [spreadR, Tree.map] at h ⊢
    cases hb : o.isBrk id with
    | true =>
      cases o with
      | brk id' x =>
        cases Nat.eq_of_beq_eq_true (show Nat.beq id' id = true from hb)
        exact ⟨by simp, rfl⟩
      | _ => cases hb
    | false =>
      rw [hb] at h
      have := spreadR_ok (l := l) (fun q hq => h q (by simpa [Tree.Has] using hq))
      exact ⟨this.1, by simpa [Tree.Has] using this.2⟩

/-- All rounds. -/
def runAllD {I : Type} (step : (patsTy mps).den → I → RO mps) : (patsTy mps).den → List I → RO mps
  | x, [] => .next x
  | x, i :: r => match step x i with
    | .next x' => runAllD step x' r
    | o => o

theorem runAllD_all {I : Type} {stepT : (patsTy mps).den → I → Tree (RO mps)} {step : (patsTy mps).den → I → RO mps} (hs : ∀ x i, (stepT x i).detB .bad = step x i) : ∀ (l : List I) (x : (patsTy mps).den), runAllD step x l ≠ .bad → ∀ o, (runAll stepT x l).Has o → o = runAllD step x l
  | [], x, _, o, ho => ho
  | i :: l, x, hn, o, ho => by
    simp only [runAll] at ho
    obtain ⟨o1, h1, h2⟩ : ∃ o1, (stepT x i).Has o1 ∧ (match o1 with
      | .next x' => runAll stepT x' l
      | .brk id x' => .leaf (.brk id x')
      | .ret x' => .leaf (.ret x')
      | .pan T τ d x' => .leaf (.pan T τ d x')
      | .bad => .leaf .bad : Tree (RO mps)).Has o := by
      have : ∀ (t : Tree (RO mps)) (K : RO mps → Tree (RO mps)), (t.run Tree.any K).Has o → ∃ o1, t.Has o1 ∧ (K o1).Has o := by
        intro t K
        induction t with
        | leaf a => exact fun h => ⟨a, rfl, h⟩
        | br b l r ihl ihr =>
          intro h
          cases b with
          | true => obtain ⟨o1, q1, q2⟩ := ihl h; exact ⟨o1, by simpa [Tree.Has] using q1, q2⟩
          | false => obtain ⟨o1, q1, q2⟩ := ihr h; exact ⟨o1, by simpa [Tree.Has] using q1, q2⟩
        | any l r ihl ihr =>
          intro h
          rcases h with h | h
          · obtain ⟨o1, q1, q2⟩ := ihl h; exact ⟨o1, .inl q1, q2⟩
          · obtain ⟨o1, q1, q2⟩ := ihr h; exact ⟨o1, .inr q1, q2⟩
      exact this _ _ ho
    have hne : step x i ≠ .bad := fun e => hn (by simp only [runAllD, e])
    have e1 := Tree.detB_has (bad := .bad) (by rw [hs]; exact hne) o1 h1
    rw [hs] at e1
    subst e1
    cases hst : step x i with
    | next x' =>
      rw [hst] at h2
      have e2 : runAllD step x (i :: l) = runAllD step x' l := by simp only [runAllD, hst]
      rw [e2] at hn ⊢
      exact runAllD_all hs l x' hn o h2
    | brk id x' => rw [hst] at h2; simp only [runAllD, hst]; exact h2
    | ret x' => rw [hst] at h2; simp only [runAllD, hst]; exact h2
    | pan T τ d x' => rw [hst] at h2; simp only [runAllD, hst]; exact h2
    | bad => exact absurd hst hne

/-- A range over a function, by what its rounds come to. -/
def rangeD (lo : Nat) (dfr : List Dfr) (t : Nat) (e : Ty) (mps : List Pat) (ids : List Nat) (pans : List (TypeId × Ty)) (L : (patsTy mps).den → List e.den → RO mps) (s : St) : Tree Out :=
  match dfrEq s.dfr dfr, s.env t, rd lo s mps with
  | true, .v (.pc (.seq e') its), some x => match castTy (σ := .seq e') (.seq e) its with
    | some its => (spreadR (L x (show Sl e.den from its).list) pans ids).map (RO.out lo (.mark :: dfr))
    | none => .leaf .bad
  | _, _, _ => .leaf .bad

theorem Env.round (hE : Env P E Γ G Fence.wide) {G' : Gh} (hok : G'.Ok P) (l : Nat) : Env P E.noDfr Γ G' (Fence.wide.inRound l) :=
  ⟨hE.mixed, hE.fns, hE.eq, hE.key, hok, Wide.wide.inRound l, fun q => by cases q⟩

theorem rangeD_ok (hE : Env P E Γ G Fence.wide) (hfree : G.Free) (hlo : G.lo = lo) {fd : Func} (hfd : P.funcs[fid]? = some fd) {t : Tmp} {ps : Array Tmp} (hps : ps.toList.all (Nat.blt · N) = true) (hpl : ps.size = e.cells) (heL : e.isL = true)
    (hw : wfG lo' mps = true) (hdw : dfrWf (boxIds mps) dfr = true) {as body : Code} {la lb : List Loop} {ids : List Nat} {pans : List (TypeId × Ty)}
    (hla : ∀ G' : Gh, G'.lo = lo' → G'.Free → ∀ l, Env P E.noDfr Γ G' (Fence.wide.inRound l) → LsOK P N G' fid (Fence.wide.inRound l) 0 as la) (hlb : ∀ G' : Gh, G'.lo = lo' → G'.Free → ∀ l, Env P E.noDfr Γ G' (Fence.wide.inRound l) → LsOK P N G' fid (Fence.wide.inRound l) 0 body lb)
    {step : (patsTy mps).den → e.den → RO mps} (hstep : ∀ x i, (stepR P E Γ lo lo' N ps.toList as body la lb e mps x i).detB .bad = step x i) :
    LoopOK P N G fid Fence.wide 0 (.rangeFunc (.tmp t) ps as body) (rangeD lo dfr t e mps ids pans (runAllD step)) := by
  subst hlo
  refine LoopOK.mono (rangeF_ok (la := la) (lb := lb) hE hfree hfd hps hpl heL hw hdw (fun G' h1 h2 h3 l => hla G' h1 h3 l (hE.round h2 l)) (fun G' h1 h2 h3 l => hlb G' h1 h3 l (hE.round h2 l))) ?_
  intro s hfine o ho
  unfold rangeD at hfine ⊢
  unfold rangeF at ho
  split at ho
  case h_2 =>
    rename_i hn
    exfalso
    have : (Tree.leaf Out.bad).Has Out.bad := rfl
    split at hfine
    · rename_i h1 h2 h3; exact hn _ _ _ h1 h2 h3
    · exact hfine .bad rfl
  rename_i e' its x0 hd hs hx
  simp only [hd, hs, hx] at hfine ⊢
  split at ho
  case h_2 =>
    rename_i hc
    simp only [hc] at hfine
    exact (hfine .bad rfl).elim
  rename_i its' hcast
  simp only [hcast] at hfine ⊢
  obtain ⟨hb, hh⟩ := spreadR_ok (K := RO.out G.lo (.mark :: dfr)) (l := ids) (fun q hq e => by subst e; exact hfine _ hq)
  have : ∀ (t : Tree (RO mps)), (t.map (RO.out G.lo (.mark :: dfr))).Has o → ∃ o1, t.Has o1 ∧ o = RO.out G.lo (.mark :: dfr) o1 := by
    intro t
    induction t with
    | leaf a => exact fun h => ⟨a, rfl, h⟩
    | br b l r ihl ihr =>
      intro h
      cases b with
      | true => obtain ⟨o1, q1, q2⟩ := ihl (by simpa [Tree.map, Tree.Has] using h); exact ⟨o1, by simpa [Tree.Has] using q1, q2⟩
      | false => obtain ⟨o1, q1, q2⟩ := ihr (by simpa [Tree.map, Tree.Has] using h); exact ⟨o1, by simpa [Tree.Has] using q1, q2⟩
    | any l r ihl ihr =>
      intro h
      rcases h with h | h
      · obtain ⟨o1, q1, q2⟩ := ihl h; exact ⟨o1, .inl q1, q2⟩
      · obtain ⟨o1, q1, q2⟩ := ihr h; exact ⟨o1, .inr q1, q2⟩
  obtain ⟨o1, h1, rfl⟩ := this _ ho
  rw [runAllD_all hstep _ _ hb o1 h1]
  exact hh

/-! ### Calls that look at their caller's objects -/

namespace GO
variable {τr : Ty} {qs : List Pat}
def isOk (g : GO τr qs) : Bool := match g with
  | .ok _ _ => true
  | _ => false
def isPan (g : GO τr qs) (T : TypeId) (τ : Ty) : Bool := match g with
  | .pan T' τ' _ _ => Nat.beq T' T && decide (τ' = τ)
  | _ => false
def getR (g : GO τr qs) : τr.den := match g with
  | .ok r _ => r
  | _ => τr.dflt
def getY (g : GO τr qs) : (patsTy qs).den := match g with
  | .ok _ y => y
  | .pan _ _ _ y => y
  | .bad => (patsTy qs).dflt
def getPan (g : GO τr qs) (τ : Ty) : τ.den := match g with
  | .pan _ τ' d _ => (castTy τ d).getD τ.dflt
  | _ => τ.dflt
end GO

def spreadG {τr : Ty} {qs : List Pat} (g : GO τr qs) : List (TypeId × Ty) → Tree (GO τr qs)
  | [] => .br g.isOk (.leaf (.ok g.getR g.getY)) (.leaf .bad)
  | (T, τ) :: l => .br (g.isPan T τ) (.leaf (.pan T τ (g.getPan τ) g.getY)) (spreadG g l)

theorem spreadG_ok {τr : Ty} {qs : List Pat} {g : GO τr qs} : ∀ {l : List (TypeId × Ty)}, (∀ q, (spreadG g l).Has q → q ≠ .bad) → g ≠ .bad ∧ (spreadG g l).Has g
  | [], h => by
    cases g with
    | ok r y => exact ⟨by simp, rfl⟩
    | pan T τ d y => exact absurd rfl (h .bad rfl)
    | bad => exact absurd rfl (h .bad rfl)
  | (T, τ) :: l, h => by
    simp only [spreadG] at h ⊢
    cases hb : g.isPan T τ with
    | true =>
      cases g with
      | pan T' τ' d x =>
        simp only [GO.isPan, Bool.and_eq_true, decide_eq_true_eq] at hb
        obtain ⟨h1, h2⟩ := hb
        cases Nat.eq_of_beq_eq_true h1
        subst h2
        refine ⟨by simp, ?_⟩
        show _ = _
        simp [GO.getPan, GO.getY, castTy_self]
      | _ => cases hb
    | false =>
      rw [hb] at h
      have := spreadG_ok (l := l) (fun q hq => h q (by simpa [Tree.Has] using hq))
      exact ⟨this.1, by simpa [Tree.Has] using this.2⟩

def gappD (n : Nat) (τr : Ty) (ps : List Pat) (pans : List (TypeId × Ty)) (R : (patsTy ps).den → GO τr (objPats ps)) : List Slot → (Nat → DObj) → Tr → Nat → Tree OR := gapp n τr ps fun x => spreadG (R x) pans

theorem gappD_holds (hm : P.follows .mixedOrders = true) (hΓ : Sound P Γ) (hE : EqSound P E.eq) (hK : KeySound P E.key) {f : FuncId} {fn : Func} {c : Code} (hf : P.funcs[f]? = some fn) (hb : fn.body = some c) {ls : List Loop}
    {τr : Ty} {ps : List Pat} (hw : wfG lo ps = true) (hl : ∀ G' : Gh, G'.lo = lo → G'.Free → Env P E Γ G' Fence.wide → LsOK P fn.ntmps G' f Fence.wide 0 c ls)
    {R : (patsTy ps).den → GO τr (objPats ps)} (pans : List (TypeId × Ty)) (hR : ∀ x, (runG P E Γ fn ls lo τr ps x).detB .bad = R x) : GHolds P f (gappD fn.ntmps τr ps pans R) := by
  refine gapp_holds (E := E) (ls := ls) hm hΓ hE hK hf hb hw (fun G' h1 h2 h3 => hl G' h1 h2 ⟨hm, hΓ, hE, hK, h3, .wide, fun _ => rfl⟩) fun x hfine go hgo => ?_
  obtain ⟨h1, h2⟩ := spreadG_ok hfine
  rw [← hR] at h1
  rw [Tree.detB_has h1 go hgo, hR]
  exact h2

/-! ### Functions that return a row that their caller may write -/

def rowD (n : Nat) (τa : Ty) (T : TypeId) (e : Ty) (R : τa.den → Option (Sl e.den)) (args : List Slot) (heap : Nat → DObj) (_ : Tr) (id0 : Nat) : Tree OR :=
  match Nat.ble args.length n, ofSlots τa args, heap id0 with
  | true, some x, .none => .br (R x).isSome (rowOR id0 (some ⟨T, e, (R x).getD ⟨0, fun _ => e.dflt⟩⟩)) (.leaf .bad)
  | _, _, _ => .leaf .bad

def frOf (T : TypeId) (e : Ty) : Option FR → Option (Sl e.den)
  | some ⟨T', e', s⟩ => match Nat.beq T' T, castTy (σ := .sl e') (.sl e) s with
    | true, some s => some s
    | _, _ => none
  | none => none

theorem rowD_holds (hm : P.follows .mixedOrders = true) (hΓ : Sound P Γ) (hE : EqSound P E.eq) (hK : KeySound P E.key) {f : FuncId} {fn : Func} {c : Code} (hf : P.funcs[f]? = some fn) (hb : fn.body = some c) {ls : List Loop}
    {t : Nat} (hres : fn.results = #[.tmp t]) {τa : Ty} {T : TypeId} {e : Ty} (hl : ∀ G' : Gh, G'.lo = 0 → G'.Free → Env P E Γ G' Fence.wide → LsOK P fn.ntmps G' f Fence.wide 0 c ls)
    {R : τa.den → Option (Sl e.den)} (hR : ∀ x, frOf T e (runF P E Γ fn ls t τa x).sure = R x) : GHolds P f (rowD fn.ntmps τa T e R) := by
  have h0 := fapp_holds (E := E) (ls := ls) (τa := τa) hm hΓ hE hK hf hb hres (fun G' h1 h2 h3 => hl G' h1 h2 ⟨hm, hΓ, hE, hK, h3, .wide, fun _ => rfl⟩)
  intro N G s a w ρ S F hG h args us id0 hlen hargs hlo hall
  have key : ∀ r, (fapp fn.ntmps τa (runF P E Γ fn ls t τa) args s.heap s.tr id0).Has r → (rowD fn.ntmps τa T e R args s.heap s.tr id0).Has r := by
    intro r hr
    unfold rowD at hall ⊢
    unfold fapp at hr
    split at hr
    case h_2 =>
      rename_i hn
      split at hall
      · rename_i h1 h2 h3; exact absurd h3 (fun h3 => hn _ h1 h2 h3)
      · exact absurd rfl (hall .bad rfl)
    rename_i x hn hx hh
    simp only [hn, hx, hh] at hall ⊢
    cases hs : R x with
    | none => rw [hs] at hall; exact absurd rfl (hall .bad rfl)
    | some sl =>
      have hf := hR x
      rw [hs] at hf
      cases hq : (runF P E Γ fn ls t τa x).sure with
      | none => rw [hq] at hf; cases hf
      | some fr =>
        rw [hq] at hf hr
        obtain ⟨T', e', s'⟩ := fr
        simp only [frOf] at hf
        split at hf
        case h_2 => cases hf
        rename_i s2 hT hc
        cases hf
        obtain ⟨heq, hsl⟩ := castTy_some hc
        cases Nat.eq_of_beq_eq_true hT
        cases heq
        have hsl : sl = s' := hsl
        subst hsl
        exact hr
  refine (h0 N G s a w ρ S F hG h args us id0 hlen hargs hlo fun r hr => hall r (key r hr)).mono fun e w' ⟨r, h1, h2⟩ => ⟨r, key r h1, h2⟩

/-! ### Functions that call themselves -/

/-- The contract of what a function comes to. -/
def conM {τa τr : Ty} (M : τa.den → Option τr.den) : Con := ⟨τa, τr, fun x => (M x).isSome, fun x => (M x).getD τr.dflt⟩

theorem loopQ_ok' (hE : Env P E Γ G Fw) (ht : G.Free) (hlo : G.lo = lo) {ps : List Pat} {wy : Ways} {body : Code} {ls : List Loop} (hls : LsOK P N G fid Fw r body ls)
    (hps : wfQ dfr false ps = true) (hwy : wy.wf dfr false = true) {step : (patsTy ps).den → RQ ps wy} (hstep : ∀ x, detQ (roundQ P E Γ lo N dfr ps wy body ls x) = step x) (n : Nat) :
    LoopOK P N G fid Fw r (.loop body) (loopF lo dfr ps fun x => spread wy (iterQ step n x) wy.exits) := by
  subst hlo
  exact loopQ_ok hE ht hls hps hwy hstep n

/-! ### Loops of which some of what lives never turns -/

/-- What a loop comes to, with what never turned. -/
def LQ.lift {C : Type} {wv wy : Ways} (je : (id : Nat) → C → (patsTy (wayP wv id)).den → (patsTy (wayP wy id)).den) (jr : C → (patsTy wv.ret).den → (patsTy wy.ret).den) (c : C) : LQ wv → LQ wy
  | .exit id y => .exit id (je id c y)
  | .ret y => .ret (jr c y)
  | .bad => .bad
def RQ.lift {C : Type} {vs ps : List Pat} {wv wy : Ways} (join : C → (patsTy vs).den → (patsTy ps).den) (je : (id : Nat) → C → (patsTy (wayP wv id)).den → (patsTy (wayP wy id)).den) (jr : C → (patsTy wv.ret).den → (patsTy wy.ret).den) (c : C) : RQ vs wv → RQ ps wy
  | .next v => .next (join c v)
  | .out q => .out (q.lift je jr c)
  | .bad => .bad

def spreadV {C : Type} {wv : Ways} (wy : Ways) (je : (id : Nat) → C → (patsTy (wayP wv id)).den → (patsTy (wayP wy id)).den) (jr : C → (patsTy wv.ret).den → (patsTy wy.ret).den) (hasRet : Bool) (c : C) (q : LQ wv) : List (Nat × List Pat) → Tree LO
  | [] => match hasRet with
    | true => .br q.isRet (.leaf (.ret wy.ret (jr c q.getRet))) (.leaf .bad)
    | false => .leaf .bad
  | (id, _) :: l => .br (q.isExit id) (.leaf (.exit id (wayP wy id) (je id c (q.getExit id)))) (spreadV wy je jr hasRet c q l)

theorem spreadV_ok {C : Type} {wv wy : Ways} {je : (id : Nat) → C → (patsTy (wayP wv id)).den → (patsTy (wayP wy id)).den} {jr : C → (patsTy wv.ret).den → (patsTy wy.ret).den} {hr : Bool} {c : C} {q : LQ wv} : ∀ {l : List (Nat × List Pat)}, (∀ o, ((spreadV wy je jr hr c q l).map (LO.out lo dfr)).Has o → o ≠ .bad) → q ≠ .bad ∧ ((spreadV wy je jr hr c q l).map (LO.out lo dfr)).Has ((q.lift je jr c).out lo dfr)
  | [], h => by
    cases hr with
    | false => exact absurd rfl (h .bad rfl)
    | true =>
      cases q with
      | ret y => exact ⟨by simp, rfl⟩
      | exit id y => exact absurd rfl (h .bad rfl)
      | bad => exact absurd rfl (h .bad rfl)
  | (id, p) :: l, h => by
    simp only [spreadV, Tree.map] at h ⊢
    cases hb : q.isExit id with
    | true =>
      cases q with
      | ret y => cases hb
      | bad => cases hb
      | exit id' y =>
        have e : id' = id := Nat.eq_of_beq_eq_true hb
        subst e
        refine ⟨by simp, ?_⟩
        show (LQ.exit id' (je id' c y)).out lo dfr = _
        simp [LO.out, LQ.out]
    | false =>
      rw [hb] at h
      have := spreadV_ok (l := l) (fun o ho => h o (by simpa [Tree.Has] using ho))
      exact ⟨this.1, by simpa [Tree.Has] using this.2⟩

theorem lift_cond {C : Type} {vs ps : List Pat} {wv wy : Ways} {join : C → (patsTy vs).den → (patsTy ps).den} {je : (id : Nat) → C → (patsTy (wayP wv id)).den → (patsTy (wayP wy id)).den} {jr : C → (patsTy wv.ret).den → (patsTy wy.ret).den} {c : C} (b : Bool) (x y : RQ vs wv) : (bif b then x else y).lift join je jr c = bif b then x.lift join je jr c else y.lift join je jr c := by cases b <;> rfl
theorem lift_bad {C : Type} {vs ps : List Pat} {wv wy : Ways} {join : C → (patsTy vs).den → (patsTy ps).den} {je : (id : Nat) → C → (patsTy (wayP wv id)).den → (patsTy (wayP wy id)).den} {jr : C → (patsTy wv.ret).den → (patsTy wy.ret).den} {c : C} : (RQ.bad : RQ vs wv).lift join je jr c = .bad := rfl

theorem loopV_ok (hE : Env P E Γ G Fw) (ht : G.Free) (hlo : G.lo = lo) {C : Type} {vs ps : List Pat} {wv wy : Ways} {body : Code} {ls : List Loop} (hls : LsOK P N G fid Fw r body ls)
    (hps : wfQ dfr false ps = true) (hwy : wy.wf dfr false = true) {join : C → (patsTy vs).den → (patsTy ps).den} {je : (id : Nat) → C → (patsTy (wayP wv id)).den → (patsTy (wayP wy id)).den} {jr : C → (patsTy wv.ret).den → (patsTy wy.ret).den} {hr : Bool}
    (sp : (patsTy ps).den → C × (patsTy vs).den) (hsp : ∀ x, join (sp x).1 (sp x).2 = x) (hsp' : ∀ c v, sp (join c v) = (c, v))
    {step : C → (patsTy vs).den → RQ vs wv} (hstep : ∀ c v, detQ (roundQ P E Γ lo N dfr ps wy body ls (join c v)) = (step c v).lift join je jr c) (n : Nat) :
    LoopOK P N G fid Fw r (.loop body) (loopF lo dfr ps fun x => spreadV wy je jr hr (sp x).1 (iterQ (step (sp x).1) n (sp x).2) wy.exits) := by
  subst hlo
  have key : ∀ (n : Nat) (c : C) (v : (patsTy vs).den), iterQ (fun x => (step (sp x).1 (sp x).2).lift join je jr (sp x).1) n (join c v) = (iterQ (step c) n v).lift je jr c := by
    intro n c
    induction n with
    | zero => intro v; rfl
    | succ n ih =>
      intro v
      simp only [iterQ, hsp']
      cases hs : step c v with
      | next v' => simp only [RQ.lift]; exact ih v'
      | out q => rfl
      | bad => rfl
  refine LoopOK.mono (loopQ_ok hE ht hls hps hwy (step := fun x => (step (sp x).1 (sp x).2).lift join je jr (sp x).1) (fun x => by rw [← hstep, hsp]) n) ?_
  intro s hfine o ho
  unfold loopF at hfine ho ⊢
  split at hfine
  case h_2 => exact (hfine .bad rfl).elim
  rename_i hd
  simp only [hd] at ho ⊢
  split at hfine
  case h_2 => exact (hfine .bad rfl).elim
  rename_i x hx
  simp only [hx] at ho ⊢
  obtain ⟨h1, h2⟩ := spreadV_ok (lo := G.lo) (dfr := dfr) (fun q hq e => by subst e; exact hfine _ hq)
  have e1 : iterQ (fun x => (step (sp x).1 (sp x).2).lift join je jr (sp x).1) n x = (iterQ (step (sp x).1) n (sp x).2).lift je jr (sp x).1 := by
    have := key n (sp x).1 (sp x).2
    rwa [hsp] at this
  rw [e1] at ho
  have huniq : ∀ (l : List (Nat × List Pat)) (q : LQ wy), q ≠ .bad → ∀ o, ((spread wy q l).map (LO.out G.lo dfr)).Has o → o = .bad ∨ o = q.out G.lo dfr := by
    intro l q hq
    induction l with
    | nil =>
      intro o ho
      cases q with
      | ret y => exact .inr ho
      | exit id y => exact .inl ho
      | bad => exact absurd rfl hq
    | cons p l ih =>
      intro o ho
      obtain ⟨id, p⟩ := p
      simp only [spread, Tree.map] at ho
      cases hb : q.isExit id with
      | true =>
        rw [hb] at ho
        cases q with
        | exit id' y =>
          have e : id' = id := Nat.eq_of_beq_eq_true hb
          subst e
          right
          have ho : o = _ := ho
          rw [ho]; simp [LO.out, LQ.out]
        | _ => cases hb
      | false => rw [hb] at ho; exact ih o (by simpa [Tree.Has] using ho)
  -- the ways out are the same
  have hall : ∀ (l : List (Nat × List Pat)), ((spreadV wy je jr hr (sp x).1 (iterQ (step (sp x).1) n (sp x).2) l).map (LO.out G.lo dfr)).Has (((iterQ (step (sp x).1) n (sp x).2).lift je jr (sp x).1).out G.lo dfr) → ((iterQ (step (sp x).1) n (sp x).2).lift je jr (sp x).1).out G.lo dfr ≠ .bad →
      ¬ ((spread wy ((iterQ (step (sp x).1) n (sp x).2).lift je jr (sp x).1) l).map (LO.out G.lo dfr)).Has .bad := by
    intro l
    generalize iterQ (step (sp x).1) n (sp x).2 = q
    induction l with
    | nil =>
      intro k1 k2 k3
      cases q with
      | ret y => cases k3
      | exit id y =>
        cases hr with
        | true => exact k2 k1
        | false => exact k2 k1
      | bad => exact k2 rfl
    | cons p l ih =>
      obtain ⟨id, p⟩ := p
      intro k1 k2 k3
      simp only [spread, spreadV, Tree.map] at k1 k3
      have eq1 : (q.lift je jr (sp x).1).isExit id = q.isExit id := by cases q <;> rfl
      rw [eq1] at k3
      cases hb : q.isExit id with
      | true => rw [hb] at k3; cases k3
      | false =>
        rw [hb] at k1 k3
        exact ih (by simpa [Tree.Has] using k1) k2 (by simpa [Tree.Has] using k3)
  have hne : (iterQ (step (sp x).1) n (sp x).2).lift je jr (sp x).1 ≠ .bad := by
    cases hq : iterQ (step (sp x).1) n (sp x).2 with
    | bad => exact absurd hq h1
    | exit id y => simp [LQ.lift]
    | ret y => simp [LQ.lift]
  have hob : ((iterQ (step (sp x).1) n (sp x).2).lift je jr (sp x).1).out G.lo dfr ≠ .bad := by
    cases hq : iterQ (step (sp x).1) n (sp x).2 with
    | bad => exact absurd hq h1
    | exit id y => simp [LQ.lift, LQ.out]
    | ret y => simp [LQ.lift, LQ.out]
  rcases huniq _ _ hne o ho with rfl | rfl
  · exact absurd ho (hall _ h2 hob)
  · exact h2

/-- The parts of a range over a function. -/
def rangeAs : Option Code → Code
  | some (.rangeFunc _ _ as _) => as
  | _ => .skip
def rangeBody : Option Code → Code
  | some (.rangeFunc _ _ _ b) => b
  | _ => .skip

theorem holds_of_M' (hm : P.follows .mixedOrders = true) (hΓ : Sound P Γ) (hE : EqSound P E.eq) (hK : KeySound P E.key) {f : FuncId} {fn : Func} {c : Code} (hf : P.funcs[f]? = some fn) (hb : fn.body = some c) {ls : List Loop}
    {τa τr : Ty} {M : τa.den → Option τr.den} (hn : Nat.ble τa.cells fn.ntmps = true) (hM : ∀ x, (runFn P E Γ fn ls τa τr x).sure = M x)
    (hl : ∀ G' : Gh, G'.lo = 0 → G'.Free → Env P E Γ G' Fence.wide → LsOK P fn.ntmps G' f Fence.wide 0 c ls) : Holds P f (conM M) :=
  holds_of_run hm hΓ hE hK hf hb (fun S w => hl (Gh.start S w) rfl inner_free ⟨hm, hΓ, hE, hK, start_ok, .wide, fun _ => rfl⟩) (conM M) (Nat.le_of_ble_eq_true hn) fun x hp => Tree.sure_all (by
    show (runFn P E Γ fn ls τa τr x).sure = some ((M x).getD τr.dflt)
    rw [hM x]
    have hp : (M x).isSome = true := hp
    cases h : M x with
    | none => rw [h] at hp; cases hp
    | some y => rfl)

theorem conM_none {f : FuncId} {τa τr : Ty} : Holds P f (conM fun _ : τa.den => (none : Option τr.den)) := fun _ _ _ _ _ h => by cases h

theorem gappD_bad {f : FuncId} {n : Nat} {τr : Ty} {ps : List Pat} {pans : List (TypeId × Ty)} : GHolds P f (gappD n τr ps pans fun _ => .bad) := by
  intro N G s a w ρ S F hG h args us id0 hlen hargs hlo hall
  exfalso
  unfold gappD gapp at hall
  split at hall
  case h_2 => exact hall .bad rfl rfl
  have : ∀ (l : List (TypeId × Ty)), (spreadG (τr := τr) (qs := objPats ps) .bad l).Has .bad := by
    intro l
    induction l with
    | nil => rfl
    | cons p l ih => exact ih
  exact hall _ (Tree.has_map' (f := GO.or s.heap) (this pans)) rfl

def DCtx.of : List (FuncId × DApp) → DCtx
  | [], _ => none
  | p :: l, f => match Nat.beq f p.1 with
    | true => some p.2
    | false => DCtx.of l f
theorem dsound_of : ∀ {l : List (FuncId × DApp)}, (∀ p ∈ l, Callable P p.1 ∧ DHolds P p.1 p.2) → DSound P (DCtx.of l)
  | [], _, f, c, h => by cases h
  | p :: l, hl, f, c, h => by
    simp only [DCtx.of] at h
    split at h
    · rename_i hb
      cases h
      rw [Nat.eq_of_beq_eq_true hb]
      exact hl p (.head _)
    · exact dsound_of (fun p hp => hl p (.tail _ hp)) f c h

theorem holds_of_MD (hm : P.follows .mixedOrders = true) (hΓ : Sound P Γ) {Δ : DCtx} (hΔ : DSound P Δ) (hE : EqSound P E.eq) (hK : KeySound P E.key) {f : FuncId} {fn : Func} {c : Code} (hf : P.funcs[f]? = some fn) (hb : fn.body = some c) {ls : List Loop}
    {τa τr : Ty} {M : τa.den → Option τr.den} (hn : Nat.ble τa.cells fn.ntmps = true) (hM : ∀ x, (runFnD P E Γ Δ fn ls τa τr x).sure = M x)
    (hl : ∀ G' : Gh, G'.lo = 0 → G'.Free → Env P E Γ G' Fence.wide → LsOK P fn.ntmps G' f Fence.wide 0 c ls) : Holds P f (conM M) :=
  holds_of_runD hm hΓ hΔ hE hK hf hb (fun S w => hl (Gh.start S w) rfl inner_free ⟨hm, hΓ, hE, hK, start_ok, .wide, fun _ => rfl⟩) (conM M) (Nat.le_of_ble_eq_true hn) fun x hp => Tree.sure_all (by
    show (runFnD P E Γ Δ fn ls τa τr x).sure = some ((M x).getD τr.dflt)
    rw [hM x]
    have hp : (M x).isSome = true := hp
    cases h : M x with
    | none => rw [h] at hp; cases hp
    | some y => rfl)

end Go.Dm

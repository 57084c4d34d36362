/-
 The framework: an interpreter over typed data, and why what it says of a call is true.
-/
import Derived.Test.YtadkaccpacpklaaFwC
set_option linter.unusedVariables false
set_option linter.unusedSimpArgs false
namespace Go.Dm
open Go.RowKit
variable {P : Program} {N : Nat} {G : Gh} {S S' : CS} {w w' : World} {s : St} {a : Act} {ρ ρ' : Rho} {F F' : Nat → Prop} {heap heap' H' : Nat → DObj} {Y : Value} {E : TCtx} {Γ : Ctx} {Fw : Fence} {r : Nat} {ops : Array Oper} {lo base : Nat} {dfr : List Dfr} {fid : FuncId}
inductive Plain : List Loop → Prop
 | nil : Plain []
 | cons {n : Nat} {inner ls : List Loop} (h : Plain inner) (t : Plain ls) : Plain (.unroll n inner :: ls)
theorem Plain.take : ∀ {ls : List Loop} (n : Nat), Plain ls → Plain (ls.take n)
 | [], n, _ => by simpa using Plain.nil
 | l :: ls, 0, _ => .nil
 | l :: ls, n + 1, h => by cases h with | cons a b => exact .cons a (Plain.take n b)
theorem Plain.drop : ∀ {ls : List Loop} (n : Nat), Plain ls → Plain (ls.drop n)
 | [], n, _ => by simpa using Plain.nil
 | l :: ls, 0, h => h
 | l :: ls, n + 1, h => by cases h with | cons a b => exact Plain.drop n b
def Tree.sure {α : Type} : Tree (Option α) → Option α
 | .leaf r => r
 | .br b l r => bif b then l.sure else r.sure
 | .any _ _ => none
theorem Tree.sure_all {α : Type} {y : α} : ∀ {t : Tree (Option α)}, t.sure = some y → t.All (· = some y)
 | .leaf r, h => h
 | .br b l r, h => by
  cases b with
  | true => exact (by simpa [Tree.All] using Tree.sure_all (t := l) h)
  | false => exact (by simpa [Tree.All] using Tree.sure_all (t := r) h)
 | .any _ _, h => by cases h
end Go.Dm
namespace Go.Dm
open Go.RowKit
def Ctx.of : List (FuncId × Ent) → Ctx
 | [], _ => none
 | p :: l, f => match Nat.beq f p.1 with
  | true => some p.2
  | false => Ctx.of l f
theorem sound_of {P : Program} : ∀ {l : List (FuncId × Ent)}, (∀ p ∈ l, Callable P p.1 ∧ p.2.Ok P p.1) → Sound P (Ctx.of l)
 | [], _, f, c, h => by cases h
 | p :: l, hl, f, c, h => by
  simp only [Ctx.of] at h
  split at h
  ·rename_i hb
   cases h
   rw [Nat.eq_of_beq_eq_true hb]
   exact hl p (.head _)
  ·exact sound_of (fun p hp => hl p (.tail _ hp)) f c h
end Go.Dm
namespace Go.Dm
open Go.RowKit
variable {P : Program} {N N' : Nat} {G : Gh} {S S' S2 : CS} {w w' w2 : World} {s s2 : St} {a a2 : Act} {ρ ρ' ρ2 : Rho} {F F' F2 : Nat → Prop} {heap heap' H' H2 : Nat → DObj} {Y : Value} {E : TCtx} {Γ : Ctx} {Fw : Fence} {r : Nat} {ops : Array Oper} {lo base : Nat} {dfr : List Dfr}
end Go.Dm
namespace Go.Dm
open Go.RowKit
variable {P : Program} {N N' : Nat} {G : Gh} {S S' S2 : CS} {w w' w2 : World} {s s2 : St} {a a2 : Act} {ρ ρ' ρ2 : Rho} {F F' F2 : Nat → Prop} {heap heap' H' H2 : Nat → DObj} {Y : Value} {E : TCtx} {Γ : Ctx} {Fw : Fence} {r : Nat} {ops : Array Oper} {lo base : Nat} {dfr : List Dfr} {vr vr' : Nat → Nat}
def objPats : List Pat → List Pat
 | [] => []
 | .box id cs :: ps => .box id cs :: objPats ps
 | .row id T e :: ps => .row id T e :: objPats ps
 | .mp id k v :: ps => .mp id k v :: objPats ps
 | .rows id T e :: ps => .rows id T e :: objPats ps
 | .slot _ _ :: ps => objPats ps
 | .agg _ _ :: ps => objPats ps
 | .tr _ :: ps => objPats ps
def rowsSame : (ps : List Pat) → (patsTy ps).den → (patsTy (objPats ps)).den → Bool
 | [], _, _ => true
 | .box _ cs :: ps, x, y => rowsSame ps (show (cellsTy cs).den × (patsTy ps).den from x).2 (show (cellsTy cs).den × (patsTy (objPats ps)).den from y).2
 | .row _ _ e :: ps, x, y => Nat.beq (show Sl e.den × (patsTy ps).den from x).1.n (show Sl e.den × (patsTy (objPats ps)).den from y).1.n && rowsSame ps (show Sl e.den × (patsTy ps).den from x).2 (show Sl e.den × (patsTy (objPats ps)).den from y).2
 | .mp _ k v :: ps, x, y => rowsSame ps (show (k.den → Option v.den) × (patsTy ps).den from x).2 (show (k.den → Option v.den) × (patsTy (objPats ps)).den from y).2
 | .rows _ _ e :: ps, x, y => Nat.beq (show Sl (Sl e.den) × (patsTy ps).den from x).1.n (show Sl (Sl e.den) × (patsTy (objPats ps)).den from y).1.n && rowsSame ps (show Sl (Sl e.den) × (patsTy ps).den from x).2 (show Sl (Sl e.den) × (patsTy (objPats ps)).den from y).2
 | .slot _ c :: ps, x, y => rowsSame ps (show c.ty.den × (patsTy ps).den from x).2 y
 | .agg _ τ :: ps, x, y => rowsSame ps (show τ.den × (patsTy ps).den from x).2 y
 | .tr e :: ps, x, y => rowsSame ps (show Sl e.den × (patsTy ps).den from x).2 y
inductive ORel (v : Nat) : DObj → DObj → Prop
 | box (ds ds' : List DC) : ORel v (.box ds) (.box ds')
 | row (u : Nat) (T : TypeId) (e : Ty) (a b : Sl e.den) (h : b.n = a.n) : ORel v (.row u T e a) (.row v T e b)
 | mp (k e : Ty) (m m' : k.den → Option e.den) : ORel v (.mp k e m) (.mp k e m')
 | rows (u : Nat) (T : TypeId) (e : Ty) (a b : Sl (Sl e.den)) (h : b.n = a.n) : ORel v (.rows u T e a) (.rows (v + 1) T e b)
 | chain (u : Nat) (T : TypeId) (k n n' : Nat) : ORel v (.chain u T k n) (.chain v T k n')
def noRw (ps : List Pat) : Bool := ps.all fun
 | .slot _ c => (rwIds [c]).isEmpty
 | .box _ cs => (rwIds cs).isEmpty
 | _ => true
theorem objCs_rel : ∀ {cs : List CPat} {x y : (cellsTy cs).den}, rwIds cs = [] → ∀ p ∈ objCs vr cs y, ∃ o, (p.1, o) ∈ objCs vr' cs x ∧ ORel (vr p.1) o p.2
 | [], _, _, _, p, hp => by simp [objCs] at hp
 | c :: cs, x, y, hw, p, hp => by
  have hw' : rwIds cs = [] := by cases c <;> first | exact hw | cases hw
  rcases List.mem_append.1 hp with hp | hp
  ·cases c with
   | own id T e =>
    simp only [objC, List.mem_singleton] at hp
    subst hp
    exact ⟨_, List.mem_append_left _ (List.mem_singleton.2 rfl), .chain ..⟩
   | rw id T e => cases hw
   | _ => simp [objC] at hp
  ·obtain ⟨o, h1, h2⟩ := objCs_rel (x := x.2) hw' p hp
   exact ⟨o, List.mem_append_right _ h1, h2⟩
theorem objs_rel : ∀ {ps : List Pat} {x : (patsTy ps).den} {y : (patsTy (objPats ps)).den}, noRw ps = true → rowsSame ps x y = true → ∀ p ∈ objs vr (objPats ps) y, ∃ o, (p.1, o) ∈ objs vr' ps x ∧ ORel (vr p.1) o p.2
 | [], _, _, _, _, p, hp => by simp [objPats, objs] at hp
 | .box id cs :: ps, x, y, hw, hs, p, hp => by
  have hw := hw
  simp only [noRw, List.all_cons, Bool.and_eq_true] at hw
  have hs : rowsSame ps x.2 y.2 = true := hs
  simp only [objPats, objs, List.cons_append, List.mem_cons, List.mem_append] at hp
  rcases hp with rfl | hp | hp
  ·exact ⟨_, by simp only [objs, List.cons_append]; exact .head _, .box ..⟩
  ·obtain ⟨o, h1, h2⟩ := objCs_rel (x := (show (cellsTy cs).den from x.1)) (by simpa using hw.1) p hp
   exact ⟨o, by simp only [objs, List.cons_append]; exact .tail _ (List.mem_append_left _ h1), h2⟩
  ·obtain ⟨o, h1, h2⟩ := objs_rel hw.2 hs p hp
   exact ⟨o, by simp only [objs, List.cons_append]; exact .tail _ (List.mem_append_right _ h1), h2⟩
 | .row id T e :: ps, x, y, hw, hs, p, hp => by
  have hs : (Nat.beq x.1.n y.1.n && rowsSame ps x.2 y.2) = true := hs
  rw [Bool.and_eq_true] at hs
  rcases List.mem_cons.1 hp with rfl | hp
  ·exact ⟨_, .head _, .row _ _ _ _ _ (Nat.eq_of_beq_eq_true hs.1).symm⟩
  ·obtain ⟨o, h1, h2⟩ := objs_rel (ps := ps) hw hs.2 p hp
   exact ⟨o, .tail _ h1, h2⟩
 | .mp id k v :: ps, x, y, hw, hs, p, hp => by
  have hs : rowsSame ps x.2 y.2 = true := hs
  rcases List.mem_cons.1 hp with rfl | hp
  ·exact ⟨_, .head _, .mp ..⟩
  ·obtain ⟨o, h1, h2⟩ := objs_rel (ps := ps) hw hs p hp
   exact ⟨o, .tail _ h1, h2⟩
 | .rows id T e :: ps, x, y, hw, hs, p, hp => by
  have hs : (Nat.beq x.1.n y.1.n && rowsSame ps x.2 y.2) = true := hs
  rw [Bool.and_eq_true] at hs
  rcases List.mem_cons.1 hp with rfl | hp
  ·exact ⟨_, .head _, .rows _ _ _ _ _ (Nat.eq_of_beq_eq_true hs.1).symm⟩
  ·obtain ⟨o, h1, h2⟩ := objs_rel (ps := ps) hw hs.2 p hp
   exact ⟨o, .tail _ h1, h2⟩
 | .slot t c :: ps, x, y, hw, hs, p, hp => by
  simp only [noRw, List.all_cons, Bool.and_eq_true] at hw
  have hs : rowsSame ps x.2 y = true := hs
  obtain ⟨o, h1, h2⟩ := objs_rel (ps := ps) hw.2 hs p hp
  exact ⟨o, List.mem_append_right _ h1, h2⟩
 | .agg t τ :: ps, x, y, hw, hs, p, hp => by
  have hs : rowsSame ps x.2 y = true := hs
  exact objs_rel (ps := ps) hw hs p hp
 | .tr e :: ps, x, y, hw, hs, p, hp => by
  have hs : rowsSame ps x.2 y = true := hs
  exact objs_rel (ps := ps) hw hs p hp
theorem rdP_mono {lo lo' : Nat} (hl : lo' ≤ lo) : ∀ {p : Pat} {x : p.ty.den}, rdP lo s p = some x → rdP lo' s p = some x := by
 have hC : ∀ {c : CPat} {d : DC} {x : c.ty.den}, rdC lo s.heap c d = some x → rdC lo' s.heap c d = some x := by
  intro c d x h
  cases c <;> cases d <;> first | exact h | skip
  ·simp only [rdC] at h ⊢
   split at h
   ·rename_i h1 h2
    simp only [Bool.and_eq_true] at h2
    have h3 := Nat.le_of_ble_eq_true h2.2
    simp only [h1, h2.1, Nat.ble_eq_true_of_le (Nat.le_trans hl h3), Bool.and_self]
    exact h
   ·cases h
  ·simp only [rdC] at h ⊢
   split at h
   ·rename_i h1 h2
    simp only [Bool.and_eq_true] at h2
    have h3 := Nat.le_of_ble_eq_true h2.2
    simp only [h1, h2.1.1, h2.1.2, Nat.ble_eq_true_of_le (Nat.le_trans hl h3), Bool.and_self]
    exact h
   ·cases h
  ·rename_i n τ y
   cases τ with
   | int kk => cases kk <;> exact h
   | _ => exact h
 have hCs : ∀ {cs : List CPat} {ds : List DC} {x : (cellsTy cs).den}, rdCs lo s.heap cs ds = some x → rdCs lo' s.heap cs ds = some x := by
  intro cs
  induction cs with
  | nil => intro ds x h; cases ds <;> exact h
  | cons c cs ih =>
   intro ds x h
   obtain ⟨d, ds', rfl, h1, h2⟩ := rdCs_cons h
   simp only [rdCs, hC h1, ih h2]
 intro p x h
 cases p with
 | slot t c =>
  simp only [rdP] at h ⊢
  split at h
  ·exact hC h
  ·cases h
 | box id cs =>
  simp only [rdP] at h ⊢
  split at h
  ·exact hCs h
  ·cases h
 | _ => exact h
theorem rd_mono {lo lo' : Nat} (hl : lo' ≤ lo) : ∀ {ps : List Pat} {x : (patsTy ps).den}, rd lo s ps = some x → rd lo' s ps = some x
 | [], _, h => h
 | p :: ps, x, h => by
  obtain ⟨h1, h2⟩ := rd_cons h
  simp only [rd, rdP_mono hl h1, rd_mono hl h2]
theorem rd_dfr (d : List Dfr) : ∀ (ps : List Pat), rd lo { s with dfr := d } ps = rd lo s ps
 | [] => rfl
 | p :: ps => by
  simp only [rd, rd_dfr d ps]
  cases p <;> rfl
theorem wr_live (hG : G.Ok P) (h : SR P N G s a w ρ S F) {ps : List Pat} {x : (patsTy ps).den} (hx : rd G.lo s ps = some x) (i b : Nat) (hl : live (findO (objs vr ps x) i)) (hb : rho' G.pin s.heap ρ i = some b) : live (s.heap i) ∧ ρ i = some b := by
 have hr := h.rho hG
 refine ⟨?_, hr.r2 i b hb⟩
 have hn : findO (objs vr ps x) i ≠ .none := fun e => by rw [e] at hl; exact hl
 have := objs_like h hx (vr := vr) _ (findO_some hn)
 cases ho : findO (objs vr ps x) i with
 | none => exact absurd ho hn
 | gone => rw [ho] at hl; exact hl.elim
 | box ds => rw [ho] at this; obtain ⟨_, e⟩ := this; simp only at e; rw [e]; trivial
 | row v T e y =>
  rw [ho] at this
  obtain ⟨v, e⟩ | ⟨e1, e2, e3⟩ := this
  ·simp only at e; rw [e]; trivial
  ·simp only at e1 e3; rw [hr.r3 i e1 e3] at hb; cases hb
 | mp k v m => rw [ho] at this; rw [show s.heap i = _ from this]; trivial
 | rows _ T e d => rw [ho] at this; obtain ⟨_, e⟩ := this; simp only at e; rw [e]; trivial
 | chain ver T k n =>
  rw [ho] at this
  obtain ⟨v, e⟩ | ⟨e1, e2, e3⟩ := this
  ·simp only at e; rw [e]; trivial
  ·simp only at e1 e3; rw [hr.r3 i e1 e3] at hb; cases hb
theorem wr_own (hG : G.Ok P) (h : SR P N G s a w ρ S F) {ps : List Pat} {x : (patsTy ps).den} (hx : rd G.lo s ps = some x) (i b : Nat) (hi : Own w (rho' G.pin s.heap ρ) i (findO (objs vr ps x) i) b) : Own w ρ i (s.heap i) b := by
 by_cases hr : isRows (findO (objs vr ps x) i) = false
 ·obtain ⟨l1, r1⟩ := wr_live hG h hx i b hi.lv (hi.flat hr)
  exact .of l1 r1
 ·have hn : findO (objs vr ps x) i ≠ .none := fun e => by rw [e] at hi; exact hi
  have hrr := h.rho hG
  have hlk := objs_like h hx (vr := vr) _ (findO_some hn)
  cases ho : findO (objs vr ps x) i with
  | rows v T e d =>
   rw [ho] at hi hlk
   obtain ⟨v0, e0⟩ := hlk
   simp only at e0
   rw [e0]
   rcases hi with q | ⟨k, n, cap, b0, arr, T0, q1, q2⟩
   ·exact .inl (hrr.r2 i b q)
   ·exact .inr ⟨k, n, cap, b0, arr, T0, hrr.r2 i b0 q1, q2⟩
  | _ => rw [ho] at hr; exact absurd rfl hr
inductive GO (τr : Ty) (qs : List Pat) where
 | ok (r : τr.den) (y : (patsTy qs).den)
 | pan (T : TypeId) (τ : Ty) (d : τ.den) (y : (patsTy qs).den)
 | bad
def outG (P : Program) (fn : Func) (lo : Nat) (τr : Ty) (ps : List Pat) (x : (patsTy ps).den) : Out → Tree (GO τr (objPats ps))
 | .ret s | .norm s => match allMark s.dfr, rdRet P fn.results.toList τr (finSt fn s), rd lo (finSt fn s) (objPats ps) with
  | true, some r, some y => match rowsSame ps x y with
   | true => .leaf (.ok r y)
   | false => .leaf .bad
  | _, _, _ => .leaf .bad
 | .pan (.ifc T τ d) s => match allMark s.dfr, rd lo s (objPats ps) with
  | true, some y => match rowsSame ps x y with
   | true => .leaf (.pan T τ d y)
   | false => .leaf .bad
  | _, _ => .leaf .bad
 | _ => .leaf .bad
def runG (P : Program) (E : TCtx) (Γ : Ctx) (fn : Func) (ls : List Loop) (lo : Nat) (τr : Ty) (ps : List Pat) (x : (patsTy ps).den) : Tree (GO τr (objPats ps)) :=
 match fn.body with
 | some c => execK P E Γ lo fn.ntmps .any c ls (wr lo .none [] ps x) (outG P fn lo τr ps x)
 | none => .leaf .bad
def verOf (heap : Nat → DObj) (id : Nat) : Nat := match heap id with
 | .chain v _ _ _ => v + 1
 | .row v _ _ _ => v
 | .rows v _ _ _ => v
 | _ => 0
def GO.or {τr : Ty} {qs : List Pat} (heap : Nat → DObj) : GO τr qs → OR
 | .ok r y => .ok ⟨some (resSlot τr r), objs (verOf heap) qs y, objIds qs, false, none⟩
 | .pan T τ d y => .pan (.ifc T τ d) ⟨none, objs (verOf heap) qs y, objIds qs, false, none⟩
 | .bad => .bad
def gapp (n : Nat) (τr : Ty) (ps : List Pat) (run : (patsTy ps).den → Tree (GO τr (objPats ps))) (args : List Slot) (heap : Nat → DObj) (tr : Tr) (id0 : Nat) : Tree OR :=
 match Nat.ble args.length n, rd id0 ⟨fun t => args.getD t .top, heap, tr, 0, []⟩ ps with
 | true, some x => (run x).map (GO.or heap)
 | _, _ => .leaf .bad
def lowIds (lo : Nat) (ps : List Pat) : Bool := (boxIds ps).all (Nat.blt · lo) && (rowIds ps).all (Nat.blt · lo) && (mpIds ps).all (Nat.blt · lo)
def wfG (lo : Nat) (ps : List Pat) : Bool := wfPats ps && wfPats (objPats ps) && natsEq (objIds (objPats ps)) (objIds ps) && lowIds lo ps && !hasTr ps && !hasTr (objPats ps) && noRw ps
theorem putH_find : ∀ {l : List (Nat × DObj)} {h : Nat → DObj}, (l.map (·.1)).Nodup → ∀ i, putH h l i = bif (l.map (·.1)).any (Nat.beq i) then findO l i else h i
 | [], h, _, i => rfl
 | p :: l, h, hn, i => by
  rw [List.map_cons, List.nodup_cons] at hn
  obtain ⟨j, o⟩ := p
  show putH (setHeap h j o) l i = _
  rw [putH_find hn.2]
  simp only [List.map_cons, List.any_cons, findO]
  by_cases e : i = j
  ·subst e
   have : (l.map (·.1)).any (Nat.beq i) = false := by
    cases hb : (l.map (·.1)).any (Nat.beq i) with
    | false => rfl
    | true => exact absurd (any_beq.1 hb) hn.1
   simp [this, setHeap]
  ·simp only [beq_ne e, Bool.false_or, cond_false, setHeap]
theorem mem_boxIds : ∀ {ps : List Pat} {x : (patsTy ps).den} {id : Nat} {ds : List DC}, (id, DObj.box ds) ∈ objs vr ps x → id ∈ boxIds ps := by
 have hC : ∀ {cs : List CPat} {x : (cellsTy cs).den} {id : Nat} {ds : List DC}, (id, DObj.box ds) ∉ objCs vr cs x := by
  intro cs
  induction cs with
  | nil => intro x id ds h; simp [objCs] at h
  | cons c cs ih =>
   intro x id ds h
   rcases List.mem_append.1 h with h | h
   ·cases c <;> simp [objC] at h
   ·exact ih h
 intro ps
 induction ps with
 | nil => intro x id ds h; simp [objs] at h
 | cons p ps ih =>
  intro x id ds h
  cases p with
  | slot t c =>
   rcases List.mem_append.1 h with h | h
   ·cases c <;> simp [objC] at h
   ·exact ih h
  | agg t τ => exact ih (x := x.2) h
  | box i cs =>
   simp only [objs, List.cons_append, List.mem_cons, List.mem_append, Prod.mk.injEq] at h
   rcases h with h | h | h
   ·rw [h.1]; exact .head _
   ·exact absurd h hC
   ·exact .tail _ (ih h)
  | row i T e =>
   simp only [objs, List.mem_cons, Prod.mk.injEq] at h
   rcases h with h | h
   ·cases h.2
   ·exact ih h
  | mp i k v =>
   simp only [objs, List.mem_cons, Prod.mk.injEq] at h
   rcases h with h | h
   ·cases h.2
   ·exact ih h
  | rows i T e =>
   simp only [objs, List.mem_cons, Prod.mk.injEq] at h
   rcases h with h | h
   ·cases h.2
   ·exact ih h
  | tr e => exact ih (x := x.2) h
theorem mem_rowIds : ∀ {ps : List Pat} {x : (patsTy ps).den} {id v : Nat} {T : TypeId} {e : Ty} {y : Sl e.den}, (id, DObj.row v T e y) ∈ objs vr ps x → id ∈ rowIds ps := by
 have hC : ∀ {cs : List CPat} {x : (cellsTy cs).den} {id v : Nat} {T : TypeId} {e : Ty} {y : Sl e.den}, (id, DObj.row v T e y) ∈ objCs vr cs x → id ∈ rwIds cs := by
  intro cs
  induction cs with
  | nil => intro x id v T e y h; simp [objCs] at h
  | cons c cs ih =>
   intro x id v T e y h
   rcases List.mem_append.1 h with h | h
   ·cases c with
    | rw i T1 e1 =>
     simp only [objC, List.mem_singleton, Prod.mk.injEq] at h
     rw [h.1]; exact .head _
    | _ => simp [objC] at h
   ·cases c with
    | rw i T1 e1 => exact .tail _ (ih h)
    | _ => exact ih h
 intro ps
 induction ps with
 | nil => intro x id v T e y h; simp [objs] at h
 | cons p ps ih =>
  intro x id v T e y h
  cases p with
  | slot t c =>
   rcases List.mem_append.1 h with h | h
   ·cases c with
    | rw i T1 e1 =>
     simp only [objC, List.mem_singleton, Prod.mk.injEq] at h
     rw [h.1]; exact .head _
    | _ => simp [objC] at h
   ·exact List.mem_append_right _ (ih h)
  | agg t τ => exact ih (x := x.2) h
  | box i cs =>
   simp only [objs, List.cons_append, List.mem_cons, List.mem_append, Prod.mk.injEq] at h
   rcases h with h | h | h
   ·cases h.2
   ·exact List.mem_append_left _ (hC h)
   ·exact List.mem_append_right _ (ih h)
  | row i T e =>
   simp only [objs, List.mem_cons, Prod.mk.injEq] at h
   rcases h with h | h
   ·rw [h.1]; exact .head _
   ·exact .tail _ (ih h)
  | mp i k v =>
   simp only [objs, List.mem_cons, Prod.mk.injEq] at h
   rcases h with h | h
   ·cases h.2
   ·exact ih h
  | rows i T e =>
   simp only [objs, List.mem_cons, Prod.mk.injEq] at h
   rcases h with h | h
   ·cases h.2
   ·exact ih h
  | tr e => exact ih (x := x.2) h
theorem mem_mpIds : ∀ {ps : List Pat} {x : (patsTy ps).den} {id : Nat} {k v : Ty} {y : k.den → Option v.den}, (id, DObj.mp k v y) ∈ objs vr ps x → id ∈ mpIds ps := by
 have hC : ∀ {cs : List CPat} {x : (cellsTy cs).den} {id : Nat} {k v : Ty} {y : k.den → Option v.den}, (id, DObj.mp k v y) ∉ objCs vr cs x := by
  intro cs
  induction cs with
  | nil => intro x id k v y h; simp [objCs] at h
  | cons c cs ih =>
   intro x id k v y h
   rcases List.mem_append.1 h with h | h
   ·cases c <;> simp [objC] at h
   ·exact ih h
 intro ps
 induction ps with
 | nil => intro x id k v y h; simp [objs] at h
 | cons p ps ih =>
  intro x id k v y h
  cases p with
  | slot t c =>
   rcases List.mem_append.1 h with h | h
   ·cases c <;> simp [objC] at h
   ·exact ih h
  | agg t τ => exact ih (x := x.2) h
  | box i cs =>
   simp only [objs, List.cons_append, List.mem_cons, List.mem_append, Prod.mk.injEq] at h
   rcases h with h | h | h
   ·cases h.2
   ·exact absurd h hC
   ·exact ih h
  | row i T e =>
   simp only [objs, List.mem_cons, Prod.mk.injEq] at h
   rcases h with h | h
   ·cases h.2
   ·exact ih h
  | mp i T e =>
   simp only [objs, List.mem_cons, Prod.mk.injEq] at h
   rcases h with h | h
   ·rw [h.1]; exact .head _
   ·exact .tail _ (ih h)
  | rows i T e =>
   simp only [objs, List.mem_cons, Prod.mk.injEq] at h
   rcases h with h | h
   ·cases h.2
   ·exact .tail _ (ih h)
  | tr e => exact ih (x := x.2) h
theorem mem_rwsIds : ∀ {ps : List Pat} {x : (patsTy ps).den} {id : Nat} {v : Nat} {T : TypeId} {e : Ty} {y : Sl (Sl e.den)}, (id, DObj.rows v T e y) ∈ objs vr ps x → id ∈ mpIds ps := by
 have hC : ∀ {cs : List CPat} {x : (cellsTy cs).den} {id : Nat} {v : Nat} {T : TypeId} {e : Ty} {y : Sl (Sl e.den)}, (id, DObj.rows v T e y) ∉ objCs vr cs x := by
  intro cs
  induction cs with
  | nil => intro x id v T e y h; simp [objCs] at h
  | cons c cs ih =>
   intro x id v T e y h
   rcases List.mem_append.1 h with h | h
   ·cases c <;> simp [objC] at h
   ·exact ih h
 intro ps
 induction ps with
 | nil => intro x id v T e y h; simp [objs] at h
 | cons p ps ih =>
  intro x id v T e y h
  cases p with
  | slot t c =>
   rcases List.mem_append.1 h with h | h
   ·cases c <;> simp [objC] at h
   ·exact ih h
  | agg t τ => exact ih (x := x.2) h
  | box i cs =>
   simp only [objs, List.cons_append, List.mem_cons, List.mem_append, Prod.mk.injEq] at h
   rcases h with h | h | h
   ·cases h.2
   ·exact absurd h hC
   ·exact ih h
  | row i T e =>
   simp only [objs, List.mem_cons, Prod.mk.injEq] at h
   rcases h with h | h
   ·cases h.2
   ·exact ih h
  | mp i k e' =>
   simp only [objs, List.mem_cons, Prod.mk.injEq] at h
   rcases h with h | h
   ·cases h.2
   ·exact .tail _ (ih h)
  | rows i T' e' =>
   simp only [objs, List.mem_cons, Prod.mk.injEq] at h
   rcases h with h | h
   ·rw [h.1]; exact .head _
   ·exact .tail _ (ih h)
  | tr e' => exact ih (x := x.2) h
def seen (w : World) (H : Nat → DObj) (ρ : Rho) (b : Nat) : Prop := ∃ id, Own w ρ id (H id) b
def pinOf (H : Nat → DObj) (ρ : Rho) (id : Nat) : Option Nat := match H id with
 | .box _ => ρ id
 | .row _ _ _ _ => ρ id
 | .mp _ _ _ => ρ id
 | .rows _ _ _ _ => ρ id
 | _ => none
theorem SR.enter (h : SR P N G s a w ρ S F) {lo : Nat} {l : Nat} (hl : l = G.l) : SR P N (Gh.inner (seen w s.heap ρ) S w l lo (pinOf s.heap ρ)) { s with tr := .none, dfr := [] } { a with defers := [] } w ρ S (fun _ => False) := by
 subst hl
 have alwO : ∀ id b, Own w ρ id (s.heap id) b → Alw (Gh.inner (seen w s.heap ρ) S w G.l lo (pinOf s.heap ρ)) (fun _ => False) b := fun id b h1 => ⟨.inr ⟨id, h1⟩, fun q => q⟩
 have alw : ∀ id b, live (s.heap id) → ρ id = some b → Alw (Gh.inner (seen w s.heap ρ) S w G.l lo (pinOf s.heap ρ)) (fun _ => False) b := fun id b h1 h2 => alwO id b (.of h1 h2)
 refine ⟨h.size, trivial, h.env, fun id => ?_, h.inj, .refl h.bd, fun _ _ q => .inl q, .refl _ _, inner_free _ _ _, fun _ q => q.elim, fun _ _ q => q, fun _ q => q, fun _ _ _ _ => trivial, fun id b hb => ?_⟩
 ·have := h.obj id
  cases ho : s.heap id with
  | none => simp only [ho]; trivial
  | gone => simp only [ho]; trivial
  | box ds =>
   rw [ho] at this
   obtain ⟨b, arr, T, q1, q2, q3⟩ := this
   simp only [ho]
   exact ⟨b, arr, T, q1, alw id b (by rw [ho]; trivial) q1, q3⟩
  | chain cur T k n =>
   rw [ho] at this
   simp only [ho]
   rcases this with ⟨q1, q2⟩ | ⟨b, q1, q2, q3⟩
   ·exact .inl ⟨q1, q2⟩
   ·exact .inr ⟨b, q1, alw id b (by rw [ho]; trivial) q1, q3⟩
  | row cur T e x =>
   rw [ho] at this
   simp only [ho]
   obtain ⟨q0, ⟨q1, q2⟩ | ⟨b, arr, q1, q2, q3⟩⟩ := this
   ·exact ⟨q0, .inl ⟨q1, q2⟩⟩
   ·exact ⟨q0, .inr ⟨b, arr, q1, alw id b (by rw [ho]; trivial) q1, q3⟩⟩
  | mp k v m =>
   rw [ho] at this
   obtain ⟨b, es, c, q1, q2, q3⟩ := this
   simp only [ho]
   exact ⟨b, es, c, q1, alw id b (by rw [ho]; trivial) q1, q3⟩
  | rows cur T e d =>
   rw [ho] at this
   simp only [ho]
   obtain ⟨q0, b, arr, T', q1, q2, q3, q4, q5, q6, q7⟩ := this
   refine ⟨q0, b, arr, T', q1, alw id b (by rw [ho]; trivial) q1, q3, q4, q5, q6, fun i hi => ?_⟩
   obtain ⟨ad, cap, z1, z2⟩ := q7 i hi
   refine ⟨ad, cap, z1, z2.imp (fun x => x) fun ⟨z0, b', arr', T'', z3, z4, z5, z6⟩ => ⟨z0, b', arr', T'', z3, z4, alwO id b' ?_, z6⟩⟩
   rw [ho]
   exact .inr ⟨i, (d.g i).n - 1, cap, b, arr, T', q1, q3, by rw [← z3, Nat.sub_add_cancel (by omega)]; exact z1⟩
 ·have hb : pinOf s.heap ρ id = some b := hb
  unfold pinOf at hb
  show ρ id = some b ∧ isChain (s.heap id) = false
  split at hb
  ·rename_i ho; rw [ho]; exact ⟨hb, rfl⟩
  ·rename_i ho; rw [ho]; exact ⟨hb, rfl⟩
  ·rename_i ho; rw [ho]; exact ⟨hb, rfl⟩
  ·rename_i ho; rw [ho]; exact ⟨hb, rfl⟩
  ·cases hb
end Go.Dm
namespace Go.Dm
open Go.RowKit
variable {P : Program} {N N' : Nat} {G : Gh} {S S' S2 : CS} {w w' w2 : World} {s s2 : St} {a a2 : Act} {ρ ρ' ρ2 : Rho} {F F' F2 : Nat → Prop} {heap heap' H' H2 : Nat → DObj} {Y : Value} {E : TCtx} {Γ : Ctx} {Fw : Fence} {r : Nat} {ops : Array Oper} {lo base : Nat} {dfr : List Dfr} {vr vr' : Nat → Nat}
def Gh.callee (G : Gh) (S : CS) (w : World) (heap : Nat → DObj) (ρ : Rho) (lo : Nat) (ps : List Pat) (x : (patsTy ps).den) : Gh :=
 Gh.inner (seen w (findO (objs (fun _ => 0) ps x)) (rho' G.pin heap ρ)) S w G.l lo (pinOf (findO (objs (fun _ => 0) ps x)) (rho' G.pin heap ρ))
theorem callee_ok {ps : List Pat} {x : (patsTy ps).den} (hw : wfG lo ps = true) : (G.callee S w heap ρ lo ps x).Ok P := by
 simp only [wfG, Bool.and_eq_true] at hw
 obtain ⟨⟨⟨⟨⟨⟨w1, w2⟩, w3⟩, w4⟩, w5⟩, w6⟩, w7⟩ := hw
 simp only [lowIds, Bool.and_eq_true, List.all_eq_true, Nat.blt_eq] at w4
 refine inner_ok fun id b hb => ?_
 have key : ∀ o, findO (objs (fun _ => 0) ps x) id = o → o ≠ .none → (id, o) ∈ objs (fun _ => 0) ps x := fun o ho hn => by subst ho; exact findO_some hn
 unfold pinOf at hb
 split at hb
 ·rename_i ho; exact w4.1.1 id (mem_boxIds (key _ ho (by simp)))
 ·rename_i ho; exact w4.1.2 id (mem_rowIds (key _ ho (by simp)))
 ·rename_i ho; exact w4.2 id (mem_mpIds (key _ ho (by simp)))
 ·rename_i ho; exact w4.2 id (mem_rwsIds (key _ ho (by simp)))
 ·cases hb
theorem back_objs (hG : G.Ok P) (h : SR P N G s a w ρ S F) {ps : List Pat} {x : (patsTy ps).den} (hw : wfG lo ps = true) {sv : St} {av : Act} (hv : SR P N' G sv av w ρ S F) (hvh : sv.heap = s.heap) (hx : rd G.lo sv ps = some x)
  {s' : St} (q : SR P N' (G.callee S w s.heap ρ lo ps x) s' a2 w' ρ' S' F') (hd : s'.dfr = []) {y : (patsTy (objPats ps)).den} (hy : rd lo s' (objPats ps) = some y) (hs : rowsSame ps x y = true) :
  ∃ ρ'', SR P N G { s with heap := putH s.heap (objs (verOf s.heap) (objPats ps) y) } a w' ρ'' S' F := by
 have hw' := hw
 simp only [wfG, Bool.and_eq_true, Bool.not_eq_true'] at hw
 obtain ⟨⟨⟨⟨⟨⟨w1, w2⟩, w3⟩, w4⟩, w5⟩, w6⟩, w7⟩ := hw
 have w3 := natsEq_spec w3
 have hGc : (G.callee S w s.heap ρ lo ps x).Ok P := callee_ok hw'
 obtain ⟨n1, n2⟩ : nodupB (objIds ps) = true ∧ nodupB (objIds (objPats ps)) = true := by
  simp only [wfPats, Bool.and_eq_true] at w1 w2
  exact ⟨w1.1, w2.1⟩
 have hn1 : ((objs (fun _ => 0) ps x).map (·.1)).Nodup := by rw [objs_ids]; exact nodupB_spec n1
 have hn2 : ((objs (verOf s.heap) (objPats ps) y).map (·.1)).Nodup := by rw [objs_ids]; exact nodupB_spec n2
 have h3 := wr_SR hGc q (vr := verOf s.heap) (t := .none) w2 (by rw [hd]; rfl) (.inr (inner_free _ _ _)) (show rd (G.callee S w s.heap ρ lo ps x).lo s' (objPats ps) = some y from hy)
 have hrho := hv.rho hG
 rw [hvh] at hrho
 let D : Nat → Bool := fun id => ((objs (verOf s.heap) (objPats ps) y).map (·.1)).any (Nat.beq id)
 have hDmem : ∀ id, D id = true → ∃ o, (id, o) ∈ objs (verOf s.heap) (objPats ps) y ∧ findO (objs (verOf s.heap) (objPats ps) y) id = o := fun id hid => by
  obtain ⟨p, hp, rfl⟩ := List.mem_map.1 (any_beq.1 hid)
  exact ⟨p.2, hp, findO_mem hn2 p hp⟩
 have hlike := objs_like hv hx (vr := fun _ => 0)
 rw [hvh] at hlike
 -- a named object of one that stays
 have hobj : ∀ id, D id = true → ∃ o0 o, (id, o0) ∈ objs (fun _ => 0) ps x ∧ findO (objs (fun _ => 0) ps x) id = o0 ∧ findO (objs (verOf s.heap) (objPats ps) y) id = o ∧ ORel (verOf s.heap id) o0 o ∧ Like G.lo s.heap id o0 := fun id hid => by
  obtain ⟨o, ho, hf⟩ := hDmem id hid
  obtain ⟨o0, h1, h2⟩ := objs_rel (vr' := fun _ => 0) w7 hs _ ho
  exact ⟨o0, o, h1, findO_mem hn1 _ h1, hf, h2, hlike _ h1⟩
 have hblk : ∀ id, live (s.heap id) → isChain (s.heap id) = false → isRowD (s.heap id) = false → ∃ b, ρ id = some b := fun id hl hc hrr => by
  have := h.obj id
  cases ho : s.heap id with
  | none => rw [ho] at hl; exact hl.elim
  | gone => rw [ho] at hl; exact hl.elim
  | box ds => rw [ho] at this; obtain ⟨b, _, _, hb, _⟩ := this; exact ⟨b, hb⟩
  | chain _ _ _ _ => rw [ho] at hc; cases hc
  | row cur T e x => rw [ho] at hrr; cases hrr
  | mp k v m => rw [ho] at this; obtain ⟨b, _, _, hb, _⟩ := this; exact ⟨b, hb⟩
  | rows _ T e d => rw [ho] at this; obtain ⟨_, b, _, _, hb, _⟩ := this; exact ⟨b, hb⟩
 have hpins := h3.pins
 -- what is pinned has stayed in its block
 have hstay : ∀ id b, pinOf (findO (objs (fun _ => 0) ps x)) (rho' G.pin s.heap ρ) id = some b → rho' (G.callee S w s.heap ρ lo ps x).pin s'.heap ρ' id = some b := fun id b hb => (hpins id b hb).1
 have hK : ∀ id, D id = true → Kept w w' ρ (rho' (G.callee S w s.heap ρ lo ps x).pin s'.heap ρ') id (s.heap id) (findO (objs (verOf s.heap) (objPats ps) y) id) := fun id hid => by
  obtain ⟨o0, o, h1, hf0, hf, hrel, hlk⟩ := hobj id hid
  rw [hf]
  cases hrel with
  | box ds ds' =>
   obtain ⟨ds0, e⟩ := hlk
   obtain ⟨b, hb⟩ := hblk id (by rw [e]; trivial) (by rw [e]; rfl) (by rw [e]; rfl)
   have := hstay id b (by unfold pinOf; rw [hf0]; exact (hrho.r1 id (by rw [e]; simp)).trans hb)
   rw [e]
   exact .inr ⟨⟨_, rfl⟩, this.trans hb.symm⟩
  | row u T e a b hn =>
   rcases hlk with ⟨v0, e1⟩ | ⟨e1, e2, e3⟩
   case inr => rw [e1]; trivial
   have hv : verOf s.heap id = v0 := by unfold verOf; rw [e1]
   have hplace : rho' (G.callee S w s.heap ρ lo ps x).pin s'.heap ρ' id = ρ id ∨ a.n = 0 ∧ ρ id = none := by
    have hobj' := h.obj id
    rw [e1] at hobj'
    cases hb : ρ id with
    | some bb => exact .inl (hstay id bb (by unfold pinOf; rw [hf0]; exact (hrho.r1 id (by rw [e1]; simp)).trans hb))
    | none =>
     obtain ⟨_, ⟨_, q⟩ | ⟨b1, _, q, _⟩⟩ := hobj'
     ·exact .inr ⟨q, rfl⟩
     ·rw [hb] at q; cases q
   rw [e1]
   exact .inr ⟨_, _, rfl, by omega, fun _ => ⟨hn, hplace⟩⟩
  | mp k e m m' =>
   have e1 : s.heap id = .mp k e m := hlk
   obtain ⟨bb, hb⟩ := hblk id (by rw [e1]; trivial) (by rw [e1]; rfl) (by rw [e1]; rfl)
   have := hstay id bb (by unfold pinOf; rw [hf0]; exact (hrho.r1 id (by rw [e1]; simp)).trans hb)
   rw [e1]
   exact .inr ⟨⟨_, rfl⟩, this.trans hb.symm⟩
  | rows u T e a b hn =>
   obtain ⟨v0, e1⟩ := hlk
   obtain ⟨bb, hb⟩ := hblk id (by rw [e1]; trivial) (by rw [e1]; rfl) (by rw [e1]; rfl)
   have := hstay id bb (by unfold pinOf; rw [hf0]; exact (hrho.r1 id (by rw [e1]; simp)).trans hb)
   have hv : verOf s.heap id = v0 := by unfold verOf; rw [e1]
   rw [e1]
   exact .inr ⟨_, _, rfl, by omega, hn, this.trans hb.symm, fun q => by omega⟩
  | chain u T k n n' =>
   rcases hlk with ⟨v, e⟩ | ⟨e1, e2, e3⟩
   ·rw [e]
    have hv : verOf s.heap id = v + 1 := by unfold verOf; rw [e]
    exact ⟨verOf s.heap id, n', rfl, by omega, fun q => by omega⟩
   ·rw [e1]; trivial
 have hback := h.back hG (D := D) (s2 := wrV (verOf s.heap) lo .none [] (objPats ps) y) (M := seen w (findO (objs (fun _ => 0) ps x)) (rho' G.pin s.heap ρ)) (lo := lo) (pin := pinOf (findO (objs (fun _ => 0) ps x)) (rho' G.pin s.heap ρ))
  (h3.of_eq rfl rfl rfl hd.symm) (fun b hb => ?_) (fun id hn => ?_) hK (fun id b hid hb => ?_)
 ·have hheap : putH s.heap (objs (verOf s.heap) (objPats ps) y) = over D (wrV (verOf s.heap) lo .none [] (objPats ps) y).heap s.heap := by
   funext i
   rw [putH_find hn2]
   rfl
  exact ⟨_, hback.of_eq rfl hheap rfl rfl⟩
 ·obtain ⟨id, hl⟩ := hb
  have l1 := wr_own hG hv hx (vr := fun _ => 0) id b (by rw [hvh]; exact hl)
  rw [hvh] at l1
  refine ⟨id, ?_, l1⟩
  have hne : findO (objs (fun _ => 0) ps x) id ≠ .none := fun e => by rw [e] at hl; exact hl
  have hmem : id ∈ objIds ps := by rw [← objs_ids (ver := fun _ => 0) (x := x)]; exact List.mem_map.2 ⟨_, findO_some hne, rfl⟩
  show ((objs (verOf s.heap) (objPats ps) y).map (·.1)).any (Nat.beq id) = true
  rw [objs_ids]
  exact any_beq.2 (w3 ▸ hmem)
 ·have hn : findO (objs (verOf s.heap) (objPats ps) y) id ≠ .none := hn
  exact any_beq.2 (List.mem_map.2 ⟨_, findO_some hn, rfl⟩)
 ·obtain ⟨p1, p2⟩ := h.pins id b hb
  obtain ⟨o0, o, h1, hf0, hf, hrel, hlk⟩ := hobj id hid
  have hfin : ∀ o', findO (objs (fun _ => 0) ps x) id = o' → (∀ c T k n, o' ≠ .chain c T k n) → pinOf (findO (objs (fun _ => 0) ps x)) (rho' G.pin s.heap ρ) id = some b →
    rho' (G.callee S w s.heap ρ lo ps x).pin s'.heap ρ' id = some b ∧ isChain (findO (objs (verOf s.heap) (objPats ps) y) id) = false := fun o' _ _ hp => hpins id b hp
  have hr1 : ∀ o, s.heap id = o → o ≠ .none → rho' G.pin s.heap ρ id = some b := fun o ho hn => (hrho.r1 id (by rw [ho]; exact hn)).trans p1
  cases hrel with
  | box ds ds' =>
   obtain ⟨ds0, e⟩ := hlk
   exact hpins id b (by show pinOf _ _ id = some b; unfold pinOf; rw [hf0]; exact hr1 _ e (by simp))
  | row u T e a b hn =>
   rcases hlk with ⟨v0, e1⟩ | ⟨e1, e2, e3⟩
   ·exact hpins id _ (by show pinOf _ _ id = some _; unfold pinOf; rw [hf0]; exact hr1 _ e1 (by simp))
   ·have := hG.pin id _ hb; omega
  | rows u T e a b' hn => obtain ⟨v0, e1⟩ := hlk; exact hpins id _ (by show pinOf _ _ id = some _; unfold pinOf; rw [hf0]; exact hr1 _ e1 (by simp))
  | mp k e m m' => exact hpins id _ (by show pinOf _ _ id = some _; unfold pinOf; rw [hf0]; exact hr1 _ hlk (by simp))
  | chain u T k n n' =>
   rcases hlk with ⟨v, e⟩ | ⟨e1, e2, e3⟩
   ·rw [e] at p2; cases p2
   ·have := hG.pin id b hb; omega
theorem gapp_holds (hm : P.follows .mixedOrders = true) (hΓ : Sound P Γ) (hE : EqSound P E.eq) (hK : KeySound P E.key) {f : FuncId} {fn : Func} {c : Code} (hf : P.funcs[f]? = some fn) (hb : fn.body = some c) {ls : List Loop}
    {τr : Ty} {ps : List Pat} (hw : wfG lo ps = true) (hl : ∀ G' : Gh, G'.lo = lo → G'.Free → G'.Ok P → LsOK P fn.ntmps G' f Fence.wide 0 c ls)
    {run : (patsTy ps).den → Tree (GO τr (objPats ps))} (hrun : ∀ x, (∀ go, (run x).Has go → go ≠ .bad) → ∀ go, (runG P E Γ fn ls lo τr ps x).Has go → (run x).Has go) :
    GHolds P f (gapp fn.ntmps τr ps run) := by
  intro N G s a w ρ S F hG h args us id0 hlen hargs hlo hall _
  unfold gapp at hall ⊢
  split at hall
  case h_2 => exact (hall .bad rfl rfl).elim
  rename_i x hn hx
  have hx := rd_mono hlo hx
  have hw' := hw
  simp only [wfG, Bool.and_eq_true, Bool.not_eq_true'] at hw
  obtain ⟨⟨⟨⟨⟨⟨w1, w2⟩, w3⟩, w4⟩, w5⟩, w6⟩, w7⟩ := hw
  have hfine : ∀ go, (run x).Has go → go ≠ .bad := fun go hgo e => by
    subst e
    exact hall _ (Tree.has_map' (f := GO.or s.heap) hgo) rfl
  have hus : us.length ≤ fn.ntmps := by rw [← hlen]; exact Nat.le_of_ble_eq_true hn
  have hv : SR P fn.ntmps G ⟨fun t => args.getD t .top, s.heap, s.tr, 0, []⟩ (actOf fn.ntmps us) w ρ S F := by
    refine ⟨actOf_size hus, trivial, fun t => ?_, h.obj, h.inj, h.ext, h.new, h.same, h.tr, h.fb, h.f0, h.sub, h.fs, h.pins⟩
    rw [actOf_get]
    by_cases ht : t < args.length
    · have e1 : args.getD t .top = args[t] := by simp [List.getD_eq_getElem?_getD, ht]
      have e2 : us.getD t undef = us[t]'(by omega) := by simp [List.getD_eq_getElem?_getD, show t < us.length by omega]
      show RS P G.Y S w s.heap ρ (args.getD t .top) _
      rw [e1, e2]
      exact hargs t _ _ (List.getElem?_eq_getElem ht) (List.getElem?_eq_getElem _)
    · have e1 : args.getD t .top = .top := by simp [List.getD_eq_getElem?_getD, show args.length ≤ t by omega]
      show RS P G.Y S w s.heap ρ (args.getD t .top) _
      rw [e1]; trivial
  have h1 := wr_SR hG hv (vr := fun _ => 0) (t := s.tr) w1 rfl (.inr h.tr) hx
  have h2 : SR P fn.ntmps (G.callee S w s.heap ρ lo ps x) (wr lo .none [] ps x) (actOf fn.ntmps us) w (rho' G.pin s.heap ρ) S (fun _ => False) :=
    (h1.enter (lo := lo) (l := G.l) rfl).of_eq rfl rfl (wrTr_no w5) rfl
  have hGc : (G.callee S w s.heap ρ lo ps x).Ok P := callee_ok hw'
  have hEnv : Env P E Γ (G.callee S w s.heap ρ lo ps x) Fence.wide := ⟨hm, hΓ, hE, hK, hGc, .wide, fun _ => rfl⟩
  have hR := hrun x hfine
  unfold runG at hR
  rw [hb] at hR
  simp only at hR
  refine (callsIn_wide (n := 0)).1 (callsIn_of_wpB hf hb trivial ?_)
  refine wpB_mono (exec_sound (G := G.callee S w s.heap ρ lo ps x) (K := outG P fn lo τr ps x) (ch := Tree.any) (T := fun t : Tree (GO τr (objPats ps)) => ∀ go, t.Has go → (run x).Has go) hEnv
    (fun a b q => ⟨fun go hg => q go (.inl hg), fun go hg => q go (.inr hg)⟩) ⟨fun q => hfine _ (q .bad rfl) rfl, fun s' q => (hfine _ (q .bad rfl) rfl).elim⟩ hR (hl _ rfl inner_free hGc) ⟨_, _, _, h2⟩) ?_
  rintro e a' w' ⟨o, ho, hT⟩
  have fin : ∀ s', SX P fn.ntmps (G.callee S w s.heap ρ lo ps x) s' a' w' → (∀ go, (outG P fn lo τr ps x (.ret s')).Has go → (run x).Has go) →
      LeavesInM Fence.wide 0 P fn a'.tmps (fun e w' => ∃ r, ((run x).map (GO.or s.heap)).Has r ∧ CallPost P N G s a r e w') a'.defers .returning w' := by
    intro s' hs' hT
    simp only [outG] at hT
    split at hT
    case h_2 => exact (hfine _ (hT .bad rfl) rfl).elim
    rename_i r y hmk hret hrd
    split at hT
    case h_2 => exact (hfine _ (hT .bad rfl) rfl).elim
    rename_i hsm
    have hgo := hT _ rfl
    obtain ⟨ρ', S', F', hs⟩ := hs'.frzRows hGc (resTmps fn.results.toList)
    refine leaves_marks hGc (by simp) _ rfl (by rw [frzRows_dfr]; exact hmk) hs fun w'' q1 _ => ?_
    obtain ⟨us', r1, r2⟩ := results_run (s := { finSt fn s' with dfr := [] }) (fn := fn) (τ := τr) (y := r) q1 ((rdRet_dfr ..).trans hret)
    obtain ⟨ρ'', hb⟩ := back_objs hG h hw' hv rfl hx (s' := { finSt fn s' with dfr := [] }) q1 rfl ((rd_dfr _ _).trans hrd) hsm
    exact ⟨_, r1, _, Tree.has_map' (f := GO.or s.heap) hgo, pack us', ρ'', S', F, rfl, hb.of_eq rfl rfl rfl rfl, resSlot_RS r2⟩
  cases o with
  | norm s' => cases e <;> first | exact ho.elim | exact fin s' ho hT
  | ret s' => cases e <;> first | exact ho.elim | exact fin s' ho hT
  | exit id s' => exact (hfine _ (hT .bad rfl) rfl).elim
  | bad => exact (hfine _ (hT .bad rfl) rfl).elim
  | pan d s' =>
    cases e <;> try exact ho.elim
    cases d with
    | ifc T τ d =>
      simp only [outG] at hT
      split at hT
      case h_2 => exact (hfine _ (hT .bad rfl) rfl).elim
      rename_i y hmk hrd
      split at hT
      case h_2 => exact (hfine _ (hT .bad rfl) rfl).elim
      rename_i hsm
      have hgo := hT _ rfl
      obtain ⟨u, ρ', S', F', hch, hs, hu⟩ := ho
      subst hch
      obtain ⟨u0, hu1, hu2⟩ := hu
      refine leaves_marks hGc (by simp) _ rfl hmk hs fun w'' q1 q2 => ?_
      obtain ⟨ρ'', hb⟩ := back_objs hG h hw' hv rfl hx (s' := { s' with dfr := [] }) q1 rfl ((rd_dfr _ _).trans hrd) hsm
      exact ⟨_, Tree.has_map' (f := GO.or s.heap) hgo, _, rfl, u, ρ'', S', F, rfl, hb.of_eq rfl rfl rfl rfl, u0, hu1, q2 _ _ _ hu2⟩
    | _ => exact (hfine _ (hT .bad rfl) rfl).elim
end Go.Dm
namespace Go.Dm
open Go.RowKit
variable {P : Program} {N N' : Nat} {G : Gh} {S S' S2 : CS} {w w' w2 : World} {s s2 : St} {a a2 : Act} {ρ ρ' ρ2 : Rho} {F F' F2 : Nat → Prop} {heap heap' H' H2 : Nat → DObj} {Y : Value} {E : TCtx} {Γ : Ctx} {Fw : Fence} {r : Nat} {ops : Array Oper} {lo base : Nat} {dfr : List Dfr} {vr vr' : Nat → Nat} {n : Nat}
def roundPostP (P : Program) (l : Nat) (R : Ending → World → Prop) : Exit → Act → World → Prop
 | .normal, _, w => ∃ v w', (Instr.endRound l none).run P w = .ok v w' ∧ R (.returned v) w'
 | .ret, _, w => ∃ v w', (Instr.endRound l (some .ret)).run P w = .ok v w' ∧ R (.returned v) w'
 | .exit id, _, w => ∃ v w', (Instr.endRound l (some (.exit id))).run P w = .ok v w' ∧ R (.returned v) w'
 | .panic chain, a, w => a.defers = [] ∧ R (.panicked chain) w
 | _, _, _ => False
def iterSt (c : ICon) (x : c.fst.den) (y : c.cap.den) : St :=
 ⟨fun t => (argSlots c.fst x ++ .v .yld :: argSlots c.cap y).getD t .top, fun _ => .none, ⟨c.e, true, ⟨0, fun _ => c.e.dflt⟩⟩, 0, []⟩
inductive ItO where
 | full (t : Tr)
 | stop (t : Tr)
 | foreign (t : Tr)
 | bad
def outI : Out → ItO
 | .ret s | .norm s => match allMark s.dfr with
  | true => match s.tr.live with
   | true => .full s.tr
   | false => .stop s.tr
  | false => .bad
 | .pan .yld s => match s.dfr with
  | [] => .foreign s.tr
  | _ => .bad
 | _ => .bad
def ItO.Ok (e : Ty) (items : Sl e.den) : ItO → Prop
 | .full t => ∃ x : Sl e.den, t = ⟨e, true, x⟩ ∧ x.list = items.list
 | .stop t => ∃ x : Sl e.den, t = ⟨e, false, x⟩ ∧ x.list <+: items.list
 | .foreign t => ∃ x : Sl e.den, t = ⟨e, false, x⟩ ∧ x.list <+: items.list
 | .bad => False
def runI (P : Program) (E : TCtx) (Γ : Ctx) (fn : Func) (ls : List Loop) (c : ICon) (x : c.fst.den) (y : c.cap.den) : Tree ItO :=
 match fn.body with
 | some b => execK P E Γ 0 fn.ntmps .any b ls (iterSt c x y) fun o => .leaf (outI o)
 | none => .leaf .bad
def Gh.iter (S : CS) (w : World) (F : Nat → Prop) (e : Ty) (C : Cons e.den) (items : List e.den) (l : Nat) : Gh := ⟨fun _ => False, F, S, w, e, C, items, l, S, 0, fun _ => none⟩
def Ty.isL : Ty → Bool
 | .nil => true
 | .cons _ t => t.isL
 | _ => false
theorem argSlots_len : ∀ {τ : Ty} {x : τ.den}, τ.isL = true → (argSlots τ x).length = τ.cells
 | .nil, _, _ => rfl
 | .cons h t, x, hl => by simp [argSlots, Ty.cells, argSlots_len (τ := t) (x := x.2) hl]
theorem iter_env (c : ICon) (h1 : c.fst.isL = true) {x : c.fst.den} {y : c.cap.den} {us vs : List Value} (hx : R P c.fst S w x us) (hy : R P c.cap S w y vs) (t : Nat) :
  RS P Y S w heap ρ ((argSlots c.fst x ++ .v .yld :: argSlots c.cap y).getD t .top) ((us ++ Y :: vs).getD t undef) := by
 have hl : (argSlots c.fst x).length = us.length := by rw [argSlots_len h1, hx.len]
 by_cases ht : t < us.length
 ·have e1 : (argSlots c.fst x ++ Slot.v .yld :: argSlots c.cap y).getD t .top = (argSlots c.fst x).getD t .top := by
   simp only [List.getD_eq_getElem?_getD]; rw [List.getElem?_append_left (by omega)]
  have e2 : (us ++ Y :: vs).getD t undef = us.getD t undef := by
   simp only [List.getD_eq_getElem?_getD]; rw [List.getElem?_append_left ht]
  rw [e1, e2]
  exact argSlots_RS hx t
 ·obtain ⟨k, rfl⟩ : ∃ k, t = us.length + k := ⟨t - us.length, by omega⟩
  have e1 : (argSlots c.fst x ++ Slot.v .yld :: argSlots c.cap y).getD (us.length + k) .top = (Slot.v .yld :: argSlots c.cap y).getD k .top := by
   simp only [List.getD_eq_getElem?_getD]; rw [List.getElem?_append_right (by omega), hl]; congr 2; omega
  have e2 : (us ++ Y :: vs).getD (us.length + k) undef = (Y :: vs).getD k undef := by
   simp only [List.getD_eq_getElem?_getD]; rw [List.getElem?_append_right (by omega)]; congr 2; omega
  rw [e1, e2]
  cases k with
  | zero => rfl
  | succ k => exact argSlots_RS hy k
theorem iholds_of_run (hm : P.follows .mixedOrders = true) (hΓ : Sound P Γ) (hE : EqSound P E.eq) (hK : KeySound P E.key) {f : FuncId} {fn : Func} {b : Code} (hf : P.funcs[f]? = some fn) (hb : fn.body = some b) {ls : List Loop}
    (c : ICon) (h1 : c.fst.isL = true) (h2 : c.cap.isL = true) (hn : c.fst.cells + 1 + c.cap.cells ≤ fn.ntmps) (hres : fn.results = #[]) (hl : ∀ G' : Gh, G'.lo = 0 → G'.Ok P → G'.e = c.e → LsOK P fn.ntmps G' f Fence.wide 0 b ls)
    (h : ∀ x y, c.pre x y = true → (runI P E Γ fn ls c x y).All (ItO.Ok c.e (c.items x y))) : IHolds P f c := by
  intro S w hbd x y us vs hp hx hy C hC F l hJ hF hY
  have hT := h x y hp
  unfold runI at hT
  rw [hb] at hT
  simp only at hT
  have hGok : (Gh.iter S w F c.e C (c.items x y).list l).Ok P := ⟨hC, hY, fun _ _ q => by cases q⟩
  have hEnv : Env P E Γ (Gh.iter S w F c.e C (c.items x y).list l) Fence.wide := ⟨hm, hΓ, hE, hK, hGok, .wide, fun _ => rfl⟩
  have hlen : (us ++ (.func (.yield l) #[] #[]) :: vs).length ≤ fn.ntmps := by
    have e1 := hx.len; have e2 := hy.len
    simp only [List.length_append, List.length_cons]; omega
  have h0 : SR P fn.ntmps (Gh.iter S w F c.e C (c.items x y).list l) (iterSt c x y) (actOf fn.ntmps (us ++ (.func (.yield l) #[] #[]) :: vs)) w (fun _ => none) S F := by
    refine ⟨actOf_size hlen, trivial, fun t => ?_, fun id => trivial, fun i j b hi => hi.elim, .refl hbd, fun _ _ q => .inl q, .refl _ _, ⟨true, _, rfl, hJ⟩, fun b hb => (hF b).1 hb, fun _ _ q => q, fun _ q => q, fun b o hS _ => hS, fun _ _ q => by cases q⟩
    rw [actOf_get]
    exact iter_env c h1 hx hy t
  have hargs : us.toArray ++ #[.func (.yield l) #[] #[]] ++ vs.toArray = (us ++ (.func (.yield l) #[] #[]) :: vs).toArray := by apply Array.ext'; simp
  rw [hargs]
  refine (callsIn_wide (n := 0)).1 (callsIn_of_wpB hf hb trivial ?_)
  refine wpB_mono (exec_sound (G := Gh.iter S w F c.e C (c.items x y).list l) (K := fun o => .leaf (outI o)) (ch := Tree.any) (T := fun t : Tree ItO => t.All (ItO.Ok c.e (c.items x y))) hEnv (fun a b q => q) ⟨fun q => q.elim, fun s' q z hz => by
    have q : (outI (.pan .yld s')).Ok c.e (c.items x y) := q
    simp only [outI] at q
    split at q
    case h_2 => exact q.elim
    obtain ⟨x', hx', hxl⟩ := q
    have hz : s'.tr = ⟨c.e, false, z⟩ := hz
    rw [hz] at hx'
    cases hx'
    exact hxl⟩ hT (hl _ rfl hGok rfl) ⟨_, _, _, h0⟩) ?_
  rintro e a' w' ⟨o, ho, hT⟩
  have hgrew : ∀ {F' : Nat → Prop} {w' : World}, (∀ b, F' b → b < w'.heap.size) → (∀ b, b < w.heap.size → F' b → F b) → (∀ b, F b → F' b) → Grew F w F' w' := fun q1 q2 q3 =>
    ⟨q3, fun b q => by
      by_cases hb : b < w.heap.size
      · exact .inl (q2 b hb q)
      · exact .inr (by omega), q1⟩
  have fin : ∀ s', SX P fn.ntmps (Gh.iter S w F c.e C (c.items x y).list l) s' a' w' → (outI (.ret s')).Ok c.e (c.items x y) →
      LeavesInM Fence.wide 0 P fn a'.tmps (fun e w' => ∃ F' S', Grew F w F' w' ∧ Kps S w w' ∧
      ((e = .returned (.tuple #[]) ∧ (C.J (c.items x y).list F' S' w' ∨ ∃ l', l' <+: (c.items x y).list ∧ C.JS l' F' S' w')) ∨ ∃ l' ch, l' <+: (c.items x y).list ∧ e = .panicked ch ∧ C.JP l' ch F' S' w')) a'.defers .returning w' := by
    intro s' ⟨ρ', S', F', hs⟩ hT
    simp only [outI] at hT
    split at hT
    case h_2 => exact hT.elim
    rename_i hmk
    refine leaves_marks hGok (by simp) _ rfl hmk hs fun w'' q1 _ => ?_
    have hr0 : (results fn a'.tmps).run P w'' = .ok (.tuple #[]) w'' := by
      obtain ⟨us', r1, r2⟩ := results_run (fn := fn) (τ := .nil) (y := ()) q1 (by rw [hres]; rfl)
      rw [show us' = [] from r2] at r1; exact r1
    refine ⟨_, hr0, F', S', hgrew q1.fb q1.f0 q1.sub, q1.ext.kps, .inl ⟨rfl, ?_⟩⟩
    obtain ⟨lv, z, hz, hJ⟩ := q1.tr
    have hz : s'.tr = ⟨c.e, lv, z⟩ := hz
    split at hT
    · obtain ⟨x', hx', hxl⟩ := hT
      rw [hz] at hx'
      cases hx'
      exact .inl (by rw [← hxl]; exact hJ)
    · obtain ⟨x', hx', hxl⟩ := hT
      rw [hz] at hx'
      cases hx'
      obtain ⟨l', g1, g2⟩ := hJ
      exact .inr ⟨l', g1.trans hxl, g2⟩
  cases o with
  | norm s' => cases e <;> first | exact ho.elim | exact fin s' ho hT
  | ret s' => cases e <;> first | exact ho.elim | exact fin s' ho hT
  | exit id s' => exact hT.elim
  | bad => exact hT.elim
  | pan d s' =>
    cases e <;> try exact ho.elim
    rename_i ch
    cases d with
    | yld =>
      have hT : (outI (.pan .yld s')).Ok c.e (c.items x y) := hT
      simp only [outI] at hT
      split at hT
      case h_2 => exact hT.elim
      rename_i hmk
      obtain ⟨F', S', z, l', hz, g1, g2, hfw, hd⟩ := ho
      obtain ⟨x', hx', hxl⟩ := hT
      have hz : s'.tr = ⟨c.e, false, z⟩ := hz
      rw [hz] at hx'
      cases hx'
      have hd := hd hmk
      show LeavesInM _ _ _ _ _ _ a'.defers (.panicking ch) w'
      rw [hd]
      exact ⟨F', S', hgrew hfw.fb hfw.f0 hfw.sub, hfw.kps, .inr ⟨l', ch, g1.trans hxl, rfl, g2⟩⟩
    | _ => exact hT.elim
end Go.Dm
namespace Go.Dm
open Go.RowKit
variable {P : Program} {N N' : Nat} {G : Gh} {S S' S2 : CS} {w w' w2 : World} {s s2 : St} {a a2 : Act} {ρ ρ' ρ2 : Rho} {F F' F2 : Nat → Prop} {heap heap' H' H2 : Nat → DObj} {Y : Value} {E : TCtx} {Γ : Ctx} {Fw : Fence} {r : Nat} {ops : Array Oper} {lo base : Nat} {dfr : List Dfr} {vr vr' : Nat → Nat} {n : Nat} {fid : FuncId}
theorem wpB_rangeFunc {g : Operand} {ps : Array Tmp} {assign body : Code} {Q : Exit → Act → World → Prop} {a : Act} {w : World}
    (h : ∃ (l : Nat) (mark : List Deferred) (w₁ : World) (d : Deferred) (w₁' : World) (f : FuncId) (args : Array Value) (w₂ : World),
      (Instr.enterLoop fid a.tmps ps assign body Fw.round).run P w = .ok (l, mark) w₁ ∧
      (resolve a.eval (rangeCall g l) 0).run P w₁ = .ok d w₁' ∧
      (∀ f', Target.leads P w₁' d.target d.args = some f' → Fw.fn f') ∧
      (invoke d.target d.args).run P w₁' = .ok (.enter f args) w₂ ∧
      (Fw.depth.isSome = true → 1 ≤ n) ∧
      CallsIn Fw (n - 1) P f args w₂ (rangePost Fw n P l Q { a with defers := mark ++ a.defers })) :
    wpB fid Fw n P (.rangeFunc g ps assign body) Q a w := by
  intro b k cs hbf hro hb hr
  obtain ⟨l, mark, w₁, d, w₁', f, args, w₂, he, hres, hlead, hinv, hn, hF, hcall⟩ := h
  rw [← hro, ← hbf] at he
  have h0 : (lone (b.atR a (.code (.rangeFunc g ps assign body) :: k)) cs w).fenced P Fw := by
    refine fenced_lone (.inl hb) (fun f' hf' => hlead f' ?_) (Fence.room_le hr (by omega))
    have hev := Frame.eval_atR b a (.code (.rangeFunc g ps assign body) :: k)
    simp only [Frame.atR] at hev
    simp only [Frame.about, Frame.atR, he, hev, hres] at hf'
    exact hf'
  have henter := stepR_rangeFunc (P := P) (b := b) (a := a) (k := k) (cs := cs) (w := w) he hres hinv
  have hroom : Fw.room ((b.atR { a with defers := mark ++ a.defers } (.inRangeFunc l :: k) :: cs).length + 1 + (n - 1)) := Fence.room_enter hr hn
  obtain ⟨e, w₃, fr, hR, hsteps, hfn, hleave⟩ := hcall (b.atR { a with defers := mark ++ a.defers } (.inRangeFunc l :: k) :: cs) hroom
  cases e with
  | outgrown =>
    obtain ⟨a₀, w₀, hq⟩ := hR
    exact ⟨.outgrown, a₀, w₀, hq, .inr (Outgrown.of_steps (.one henter) hsteps)⟩
  | returned v =>
    have hl : (lone fr (b.atR { a with defers := mark ++ a.defers } (.inRangeFunc l :: k) :: cs) w₃).fenced P Fw := fenced_leaving (hfn ▸ hF) hroom hleave
    obtain ⟨jump, w₄, hend, hj⟩ := hR
    have sback : StepsIn (Machine.fenced P Fw) P (lone (b.atR a (.code (.rangeFunc g ps assign body) :: k)) cs w) (lone (b.atR { a with defers := mark ++ a.defers } ((jump.map Item.code).toList ++ k)) cs w₄) := by
      refine .head h0 henter (StepsIn.trans hsteps (.head hl ?_ (.one (fenced_calm (fr := b.atR { a with defers := mark ++ a.defers } (.endRangeFunc l :: k)) hb hr rfl) (stepR_endRangeFunc hend))))
      rw [← finish_atR_inRangeFunc l v]; exact step_leave_returned hleave
    cases jump with
    | none => exact ⟨.normal, _, w₄, hj, sback⟩
    | some c =>
      obtain ⟨e', a'', w₅, hq, harr⟩ := hj b k cs hro hb hr
      exact ⟨e', a'', w₅, hq, .of_steps sback harr⟩
  | panicked chain =>
    have hl : (lone fr (b.atR { a with defers := mark ++ a.defers } (.inRangeFunc l :: k) :: cs) w₃).fenced P Fw := fenced_leaving (hfn ▸ hF) hroom hleave
    refine ⟨.panic chain, _, w₃, hR, .inRangeFunc l :: k, .head h0 henter (StepsIn.trans hsteps (.one hl ?_))⟩
    rw [← Frame.raise_atR]; exact step_leave_panicked hleave
theorem roundIn_of_wpB (hW : Wide Fw) {l : Nat} {fd : Func} (hfd : P.funcs[fid]? = some fd) {tmps : Array Value} {assign body : Code} {w : World} {R : Ending → World → Prop}
    (h : wpB fid (Fw.inRound l) n P assign (Exit.then (fun a₁ w₁ => ∃ w₂, (Instr.beginRound l).run P w₁ = .ok () w₂ ∧ wpB fid (Fw.inRound l) n P body (roundPostP P l R) a₁ w₂) (fun _ _ _ => False))
      { tmps := tmps, defers := [] } w) :
    RoundIn Fw n P l fid tmps assign body w R := by
  have hF : Fw.fn fid := hW.fn fid
  refine ⟨hF, fun c cs hr => ?_⟩
  let b : Frame := { (default : Frame) with fn := fid, kind := .normal, roundOf := some l }
  have hb0 : Frame.round l fid tmps assign body .normal = b.atR { tmps := tmps, defers := [] } [.code assign, .beginRound, .code body] := by
    simp [Frame.round, Frame.atR, b]
  have hr' : (Fw.inRound l).room ((c :: cs).length + 1 + n) := hr
  have hF' : (Fw.inRound l).fn b.fn := hF
  obtain ⟨e, a₁, w₁, hq, harr⟩ := h b [.beginRound, .code body] (c :: cs) rfl rfl hF' hr'
  rw [← hb0] at harr
  cases e with
  | normal =>
    obtain ⟨w₂, hbr, hbody⟩ := hq
    have s1 : StepsIn (Machine.fenced P (Fw.inRound l)) P (lone (b.atR a₁ [.beginRound, .code body]) (c :: cs) w₁) (lone (b.atR a₁ [.code body]) (c :: cs) w₂) :=
      .one ((hW.inRound l).fenced _) (stepR_beginRound rfl hbr)
    obtain ⟨e₂, a₂, w₃, hq₂, harr₂⟩ := hbody b [] (c :: cs) rfl rfl hF' hr'
    cases e₂ with
    | normal =>
      obtain ⟨v, w₄, hend, hR⟩ := hq₂
      exact ⟨.returned v, w₄, hR, (StepsIn.trans harr s1).trans (StepsIn.trans harr₂ (.one ((hW.inRound l).fenced _) (stepR_round_end rfl rfl hend)))⟩
    | ret =>
      obtain ⟨v, w₄, hend, hR⟩ := hq₂
      obtain ⟨k₁, hs⟩ := harr₂.2 rfl
      exact ⟨.returned v, w₄, hR, (StepsIn.trans harr s1).trans (StepsIn.trans hs (.one ((hW.inRound l).fenced _) (stepR_round_ret rfl rfl hend)))⟩
    | exit id =>
      obtain ⟨v, w₄, hend, hR⟩ := hq₂
      obtain ⟨k₁, hk, hs⟩ := harr₂.2 rfl rfl
      exact ⟨.returned v, w₄, hR, (StepsIn.trans harr s1).trans (StepsIn.trans hs (.one ((hW.inRound l).fenced _) (stepR_round_exit rfl rfl hk hend)))⟩
    | goto t => exact hq₂.elim
    | panic chain =>
      obtain ⟨hd, hR⟩ := hq₂
      obtain ⟨todo, hs⟩ := harr₂
      refine ⟨.panicked chain, w₃, hR, (StepsIn.trans harr s1).trans (StepsIn.trans hs (.one ((hW.inRound l).fenced _) (step_leave_panicked ⟨rfl, hd, fd, hfd⟩)))⟩
    | outgrown => exact hq₂.elim
  | exit id => exact hq.elim
  | goto t => exact hq.elim
  | ret => exact hq.elim
  | panic chain => exact hq.elim
  | outgrown => exact hq.elim
theorem SR.more (hG : G.Ok P) (h : SR P N G s a w ρ S F) (hbd : Bd S' w) (hnew : ∀ b o, S' b o → S b o ∨ (G.w0.heap.size ≤ b ∧ ¬ F b ∧ ∀ id, ¬ Own w ρ id (s.heap id) b)) :
  SR P N G s a w ρ (fun b o => S b o ∨ S' b o) F := by
 have ex : Ext0 S w (fun b o => S b o ∨ S' b o) w := ⟨Nat.le_refl _, fun _ _ q => .inl q, fun _ _ _ => rfl, fun _ _ _ _ _ q => q, fun b o q => q.elim (h.bd b o) (hbd b o), .refl w⟩
 have hk : ∀ id, Kept w w ρ ρ id (s.heap id) (s.heap id) := fun id => .refl rfl fun _ _ _ => rfl
 refine ⟨h.size, h.dfr, fun t => (h.env t).tr ex hk, fun id => (h.obj id).tr ex hk rfl fun b hb => ⟨rfl, fun i q => ?_, fun x => x⟩, h.inj, h.ext.trans ex, fun b o q => ?_, h.same, h.tr.tr hG.c h.fb (.refl _ _) ex, h.fb, h.f0, h.sub, fun b o q x => ?_, h.pins⟩
 ·rcases q with q | q
  ·exact q
  ·rcases hnew b i q with q | ⟨_, _, q⟩
   ·exact q
   ·exact absurd hb (q id)
 ·rcases q with q | q
  ·exact h.new b o q
  ·rcases hnew b o q with q | ⟨q, _⟩
   ·exact h.new b o q
   ·exact .inr (.inl q)
 ·rcases q with q | q
  ·exact h.fs b o q x
  ·rcases hnew b o q with q | ⟨_, q, _⟩
   ·exact h.fs b o q x
   ·exact absurd x q
theorem SR.blk_kind (h : SR P N G s a w ρ S F) {id b : Nat} (ho' : Own w ρ id (s.heap id) b) : (∃ c T f, w.heap[b]? = some (.cells c T f)) ∨ ∃ es c, w.heap[b]? = some (.map es c) := by
 have hl := ho'.lv
 have hb : (∀ T e d cur, s.heap id ≠ .rows cur T e d) → ρ id = some b := fun q => by
  cases ho : s.heap id <;> rw [ho] at ho' <;> first | exact ho' | exact ho'.elim | exact absurd ho (q _ _ _ _)
 have := h.obj id
 cases ho : s.heap id with
 | none => rw [ho] at hl; exact hl.elim
 | gone => rw [ho] at hl; exact hl.elim
 | box ds =>
  have hb := hb (by rw [ho]; simp)
  rw [ho] at this
  obtain ⟨b', arr, T, h1, h2, h3, _⟩ := this
  rw [hb] at h1; cases h1
  exact .inl ⟨_, _, _, h3⟩
 | chain cur T k n =>
  have hb := hb (by rw [ho]; simp)
  rw [ho] at this
  rcases this with ⟨h1, _⟩ | ⟨b', h1, h2, h3, h4, _⟩
  ·rw [hb] at h1; cases h1
  ·rw [hb] at h1; cases h1; exact .inl h4
 | row cur T e s' =>
  have hb := hb (by rw [ho]; simp)
  rw [ho] at this
  obtain ⟨_, ⟨h1, _⟩ | ⟨b', arr, h1, h2, h3, _⟩⟩ := this
  ·rw [hb] at h1; cases h1
  rw [hb] at h1; cases h1
  exact .inl ⟨_, _, _, h3⟩
 | mp k v m =>
  have hb := hb (by rw [ho]; simp)
  rw [ho] at this
  obtain ⟨b', es, c, h1, h2, h3, _⟩ := this
  rw [hb] at h1; cases h1
  exact .inr ⟨_, _, h3⟩
 | rows cur T e d =>
  rw [ho] at this ho'
  obtain ⟨h1, b0, arr, T', h2, h3, h4, h5, h6, h7, h8⟩ := this
  rcases ho' with q | ⟨i, n, cap, b1, arr1, T1, q1, q2, q3⟩
  ·rw [h2] at q; cases q
   exact .inl ⟨_, _, _, h4⟩
  ·rw [h2] at q1; cases q1
   rw [h4] at q2; cases q2
   have hi : i < d.n := by rw [← h5]; exact (Array.getElem?_eq_some_iff.1 q3).1
   obtain ⟨ad, cap', r1, r2⟩ := h8 i hi
   rw [q3] at r1
   simp only [Option.some.injEq, Value.slice.injEq] at r1
   obtain ⟨r1, r3, r4⟩ := r1
   rcases r2 with r2 | ⟨_, b', arr', T'', s1, s2, s3, s4, _⟩
   ·omega
   ·rw [← r1] at s1; cases s1
    exact .inl ⟨_, _, _, s4⟩
def isLoop (o : Option Obj) : Prop := ∃ r, o = some (.loop r)
theorem poke_cell {w : World} {l : Nat} {r' : Go.Loop} (hl : isLoop w.heap[l]?) (b o : Nat) : (w.putObj l (.loop r')).cell? ⟨b, o, none⟩ = w.cell? ⟨b, o, none⟩ := by
 obtain ⟨r, hr⟩ := hl
 have hlt := (Array.getElem?_eq_some_iff.1 hr).1
 by_cases hb : b = l
 ·subst hb
  have h2 : (w.putObj b (.loop r')).heap[b]? = some (.loop r') := World.putObj_heap_same hlt
  simp [World.cell?, h2, hr]
 ·exact World.cell?_of_block (a := ⟨b, o, none⟩) (World.putObj_heap_other hb)
theorem poke_kps {w : World} {l : Nat} {r' : Go.Loop} (hl : isLoop w.heap[l]?) : Kps S w (w.putObj l (.loop r')) :=
 ⟨fun b o _ => poke_cell hl b o, fun b o es c _ q => by
  obtain ⟨r, hr⟩ := hl
  exact (World.putObj_heap_other fun e => by rw [e, hr] at q; cases q).trans q, by
  obtain ⟨r, hr⟩ := hl
  exact .putObj (Array.getElem?_eq_some_iff.1 hr).1 (fun _ _ _ => by simp)⟩
theorem poke_same {w : World} {l : Nat} {r' : Go.Loop} {D : Nat → Prop} (hD : ¬ D l) : Same D w (w.putObj l (.loop r')) :=
 ⟨rfl, rfl, rfl, by simp, fun k hk => World.putObj_heap_other fun e => hD (e ▸ hk)⟩
theorem SR.poke (hG : G.Ok P) (h : SR P N G s a w ρ S F) {l : Nat} {r' : Go.Loop} (hl : isLoop w.heap[l]?) (h0 : G.w0.heap.size ≤ l) (hF : ¬ F l) : SR P N G s a (w.putObj l (.loop r')) ρ S F := by
 have hne : ∀ b, ¬ isLoop w.heap[b]? → (w.putObj l (.loop r')).heap[b]? = w.heap[b]? := fun b hb => World.putObj_heap_other fun e => hb (e ▸ hl)
 have hkind : ∀ id b, Own w ρ id (s.heap id) b → ¬ isLoop w.heap[b]? := fun id b h1 ⟨r, hr⟩ => by
  rcases h.blk_kind h1 with ⟨c, T, f, q⟩ | ⟨es, c, q⟩ <;> (rw [q] at hr; cases hr)
 have hsz : (w.putObj l (.loop r')).heap.size = w.heap.size := by simp
 have ex : Ext0 S w S (w.putObj l (.loop r')) := ⟨by omega, fun _ _ q => q, (poke_kps hl).cell, (poke_kps hl).maps, fun b o q => by rw [hsz]; exact h.bd b o q, (poke_kps (S := S) hl).pl⟩
 have hk : ∀ id, Kept w (w.putObj l (.loop r')) ρ ρ id (s.heap id) (s.heap id) := fun id => .refl rfl fun b hb h1 => hne b (hkind id b (.of h1 hb))
 refine ⟨h.size, h.dfr.tr hk (fun D hF hD => ⟨(hne D fun ⟨r, hr⟩ => by rw [hD] at hr; cases hr).trans hD, hF⟩), fun t => (h.env t).tr ex hk, fun id => (h.obj id).tr ex hk rfl fun b hb => ⟨hne b (hkind id b hb), fun i q => q, fun x => x⟩, fun i j b hi hj => h.inj i j b (hi.back rfl fun b q1 q2 => hne b (hkind _ b (.of q2 q1))) (hj.back rfl fun b q1 q2 => hne b (hkind _ b (.of q2 q1))), h.ext.trans ex, h.new,
  h.same.trans (poke_same fun q => by omega), h.tr.tr hG.c h.fb (poke_same hF) ex, fun b x => by rw [hsz]; exact h.fb b x, h.f0, h.sub, h.fs, h.pins⟩
theorem SR.poke0 {M : Nat → Prop} {l0 : Nat} {pin : Nat → Option Nat} {w0 : World} {S0 : CS} (h : SR P N (Gh.inner M S0 w0 l0 lo pin) s a w ρ S F) {l : Nat} {r' : Go.Loop} (hl : isLoop w.heap[l]?) (h0 : l < w0.heap.size) (hM : ¬ M l) (hF : ¬ F l) :
  SR P N (Gh.inner M S0 (w0.putObj l (.loop r')) l0 lo pin) s a (w.putObj l (.loop r')) ρ S F := by
 have hl0 : isLoop w0.heap[l]? := by
  obtain ⟨r, hr⟩ := hl
  exact ⟨r, (h.same.block l ⟨h0, hM, fun q => q⟩).symm.trans hr⟩
 have hne : ∀ b, ¬ isLoop w.heap[b]? → (w.putObj l (.loop r')).heap[b]? = w.heap[b]? := fun b hb => World.putObj_heap_other fun e => hb (e ▸ hl)
 have hkind : ∀ id b, Own w ρ id (s.heap id) b → ¬ isLoop w.heap[b]? := fun id b h1 ⟨r, hr⟩ => by
  rcases h.blk_kind h1 with ⟨c, T, f, q⟩ | ⟨es, c, q⟩ <;> (rw [q] at hr; cases hr)
 have hsz : (w.putObj l (.loop r')).heap.size = w.heap.size := by simp
 have hsz0 : (w0.putObj l (.loop r')).heap.size = w0.heap.size := by simp
 have ex : Ext0 S w S (w.putObj l (.loop r')) := ⟨by omega, fun _ _ q => q, (poke_kps hl).cell, (poke_kps hl).maps, fun b o q => by rw [hsz]; exact h.bd b o q, (poke_kps (S := S) hl).pl⟩
 have hk : ∀ id, Kept w (w.putObj l (.loop r')) ρ ρ id (s.heap id) (s.heap id) := fun id => .refl rfl fun b hb h1 => hne b (hkind id b (.of h1 hb))
 have alw : ∀ b, Alw (Gh.inner M S0 w0 l0 lo pin) F b → Alw (Gh.inner M S0 (w0.putObj l (.loop r')) l0 lo pin) F b := fun b q => ⟨q.1.imp (fun x => by show (w0.putObj l (.loop r')).heap.size ≤ b; rw [hsz0]; exact x) fun x => x, q.2⟩
 have hplx : Pl (w0.putObj l (.loop r')) (w.putObj l (.loop r')) := ⟨by rw [hsz0, hsz]; exact h.ext.size, h.ext.pl.drawn, fun b arr T f hb hc => by
  rw [hsz0] at hb
  by_cases e : b = l
  ·subst e
   rw [World.putObj_heap_same (w := w) (Array.getElem?_eq_some_iff.1 hl.choose_spec).1] at hc
   cases hc
  ·rw [World.putObj_heap_other e] at hc
   obtain ⟨arr0, T0, f0, q1, q2⟩ := h.ext.pl.sz b arr T f hb hc
   exact ⟨arr0, T0, f0, by rw [World.putObj_heap_other e]; exact q1, q2⟩⟩
 have hdfr : ∀ {ds : List Dfr} {dd : List Deferred}, DfrOk w0.heap.size w s.heap ρ F ds dd → DfrOk (w0.putObj l (.loop r')).heap.size (w.putObj l (.loop r')) s.heap ρ F ds dd := fun q => by
  rw [hsz0]
  exact q.tr hk fun D hF hD => ⟨(hne D fun ⟨r, hr⟩ => by rw [hD] at hr; cases hr).trans hD, hF⟩
 refine ⟨h.size, hdfr h.dfr, fun t => (h.env t).tr ex hk, fun id => ?_, fun i j b hi hj => h.inj i j b (hi.back rfl fun b q1 q2 => hne b (hkind _ b (.of q2 q1))) (hj.back rfl fun b q1 q2 => hne b (hkind _ b (.of q2 q1))), ⟨by show (w0.putObj l (.loop r')).heap.size ≤ _; rw [hsz0, hsz]; exact h.ext.size, h.ext.sub, fun b o q => ?_, fun b o es c q m => ?_, ex.bd, hplx⟩, fun b o q => ?_,
  ⟨h.same.os, h.same.tape, h.same.output, by show (w0.putObj l (.loop r')).heap.size ≤ _; rw [hsz0, hsz]; exact h.same.size, fun k hk => ?_⟩, h.tr, fun b x => by rw [hsz]; exact h.fb b x, fun b hb x => ?_, fun _ q => q.elim, fun _ _ _ _ => trivial, h.pins⟩
 ·have hh := (h.obj id).tr (F' := F) ex hk rfl fun b hb => ⟨hne b (hkind id b hb), fun i q => q, fun x => x⟩
  cases ho : s.heap id with
  | none => trivial
  | gone => trivial
  | box ds => rw [ho] at hh; obtain ⟨b, arr, T, q1, q2, q3⟩ := hh; exact ⟨b, arr, T, q1, alw b q2, q3⟩
  | chain cur T k n =>
   rw [ho] at hh
   rcases hh with q | ⟨b, q1, q2, q3⟩
   ·exact .inl q
   ·exact .inr ⟨b, q1, alw b q2, q3⟩
  | row cur T e x =>
   rw [ho] at hh
   obtain ⟨q0, ⟨q1, q2⟩ | ⟨b, arr, q1, q2, q3⟩⟩ := hh
   ·exact ⟨q0, .inl ⟨q1, q2⟩⟩
   ·exact ⟨q0, .inr ⟨b, arr, q1, alw b q2, q3⟩⟩
  | mp k v m => rw [ho] at hh; obtain ⟨b, es, c, q1, q2, q3⟩ := hh; exact ⟨b, es, c, q1, alw b q2, q3⟩
  | rows cur T e d =>
   rw [ho] at hh
   obtain ⟨q0, b, arr, T', q1, q2, q3, q4, q5, q6, q7⟩ := hh
   refine ⟨q0, b, arr, T', q1, alw b q2, q3, q4, q5, q6, fun i hi => ?_⟩
   obtain ⟨ad, cap, z1, z2⟩ := q7 i hi
   exact ⟨ad, cap, z1, z2.imp (fun x => x) fun ⟨z0, b', arr', T'', z3, z4, z5, z6⟩ => ⟨z0, b', arr', T'', z3, z4, alw b' z5, z6⟩⟩
 ·have q : S0 b o := q
  show (w.putObj l (.loop r')).cell? ⟨b, o, none⟩ = (w0.putObj l (.loop r')).cell? ⟨b, o, none⟩
  rw [poke_cell hl, poke_cell hl0]
  exact h.ext.same b o q
 ·have m : (w0.putObj l (.loop r')).heap[b]? = some (.map es c) := m
  have hb : b ≠ l := fun e => by
   rw [e, World.putObj_heap_same h0] at m; cases m
  rw [World.putObj_heap_other hb] at m
  show (w.putObj l (.loop r')).heap[b]? = _
  rw [World.putObj_heap_other hb]
  exact h.ext.maps b o es c q m
 ·rcases h.new b o q with q | q | q
  ·exact .inl q
  ·exact .inr (.inl (by show (w0.putObj l (.loop r')).heap.size ≤ b; rw [hsz0]; exact q))
  ·exact .inr (.inr q)
 ·obtain ⟨k1, k2, k3⟩ := hk
  have k1 : k < (w0.putObj l (.loop r')).heap.size := k1
  rw [hsz0] at k1
  show (w.putObj l (.loop r')).heap[k]? = (w0.putObj l (.loop r')).heap[k]?
  by_cases e : k = l
  ·subst e
   rw [World.putObj_heap_same (w := w0) h0, World.putObj_heap_same (w := w) (Array.getElem?_eq_some_iff.1 hl.choose_spec).1]
  ·rw [World.putObj_heap_other e, World.putObj_heap_other e]
   exact h.same.block k ⟨k1, k2, k3⟩
 ·have hb : b < (w0.putObj l (.loop r')).heap.size := hb
  rw [hsz0] at hb
  exact h.f0 b hb x
theorem SR.idle (hG : G.Ok P) (h : SR P N G s a w ρ S F) {FI : Nat → Prop} {SI : CS} (h1 : ∀ b o, S b o → FI b ∨ SI b o) (h2 : ∀ id b, Own w ρ id (s.heap id) b → FI b) (h3 : ∀ b, F b → FI b) (h4 : ∀ b, b < G.w0.heap.size → FI b)
  (h5 : ∀ D ∈ marksOf a.defers, FI D) (hs : Same FI w w') (hk : Kps SI w w') : SR P N G s a w' ρ S F := by
 have ex : Ext0 S w S w' := ⟨hs.size, fun _ _ q => q, fun b o q => (h1 b o q).elim (fun x => World.cell?_of_block (a := ⟨b, o, none⟩) (hs.block b x)) (hk.cell b o),
  fun b o es c q m => (h1 b o q).elim (fun x => (hs.block b x).trans m) (fun x => hk.maps b o es c x m), fun b o q => Nat.lt_of_lt_of_le (h.bd b o q) hs.size, hk.pl⟩
 have hkp : ∀ id, Kept w w' ρ ρ id (s.heap id) (s.heap id) := fun id => .refl rfl fun b hb hl => hs.block b (h2 id b (.of hl hb))
 have hdfr : ∀ {ds : List Dfr} {dd : List Deferred}, (∀ D ∈ marksOf dd, FI D) → DfrOk G.w0.heap.size w s.heap ρ F ds dd → DfrOk G.w0.heap.size w' s.heap ρ F ds dd := by
  intro ds
  induction ds with
  | nil => intro dd hm q; cases dd <;> exact q
  | cons d ds ih =>
   intro dd hm q
   cases dd with
   | nil => cases d <;> exact q.elim
   | cons e dd =>
    cases d with
    | mark =>
     obtain ⟨⟨D, q1, q2, q3, q4, q5⟩, q6⟩ := q
     subst q1
     have hm' : FI D ∧ ∀ D' ∈ marksOf dd, FI D' := by simpa [marksOf] using hm
     exact ⟨⟨D, rfl, q2, q3, (hs.block D hm'.1).trans q4, q5⟩, ih hm'.2 q6⟩
    | clo f ids =>
     obtain ⟨⟨us, q1, q2⟩, q6⟩ := q
     subst q1
     exact ⟨⟨us, rfl, q2⟩, ih (by simpa [marksOf] using hm) q6⟩
 exact ⟨h.size, hdfr h5 h.dfr, fun t => (h.env t).tr ex hkp, fun id => (h.obj id).tr ex hkp rfl fun b hb => ⟨hs.block b (h2 id b hb), fun i q => q, fun x => x⟩, fun i j b hi hj => h.inj i j b (hi.back rfl fun b q1 q2 => hs.block b (h2 _ b (.of q2 q1))) (hj.back rfl fun b q1 q2 => hs.block b (h2 _ b (.of q2 q1))), h.ext.trans ex, h.new,
  h.same.trans (hs.mono fun b hb => h4 b hb.1), h.tr.tr hG.c h.fb (hs.mono h3) ex, fun b x => Nat.lt_of_lt_of_le (h.fb b x) hs.size, h.f0, h.sub, h.fs, h.pins⟩
end Go.Dm
namespace Go.Dm
open Go.RowKit
variable {P : Program} {N N' : Nat} {G : Gh} {S S' S2 : CS} {w w' w2 : World} {s s2 : St} {a a2 : Act} {ρ ρ' ρ2 : Rho} {F F' F2 : Nat → Prop} {heap heap' H' H2 : Nat → DObj} {Y : Value} {E : TCtx} {Γ : Ctx} {Fw : Fence} {r : Nat} {ops : Array Oper} {lo lo' base : Nat} {dfr : List Dfr} {vr vr' : Nat → Nat} {n : Nat} {fid : FuncId} {mps : List Pat} {e : Ty}
def setArgs : List Nat → List Slot → (Nat → Slot) → Nat → Slot
 | t :: ts, d :: ds, env => setArgs ts ds (setEnv env t d)
 | _, _, env => env
inductive RO (mps : List Pat) where
 | next (x : (patsTy mps).den)
 | brk (id : Nat) (x : (patsTy mps).den)
 | ret (x : (patsTy mps).den)
 | pan (T : TypeId) (τ : Ty) (d : τ.den) (x : (patsTy mps).den)
 | bad
def rst (lo' : Nat) (ps : List Nat) (e : Ty) (mps : List Pat) (x : (patsTy mps).den) (i : e.den) : St :=
 { wr lo' .none [] mps x with env := setArgs ps (argSlots e i) (wr lo' .none [] mps x).env }
def afterM (lo : Nat) (mps : List Pat) (x : (patsTy mps).den) (y : (patsTy (objPats mps)).den) : Option (patsTy mps).den :=
 rd lo ⟨(wr lo .none [] mps x).env, putH (wr lo .none [] mps x).heap (objs (verOf (wr lo .none [] mps x).heap) (objPats mps) y), .none, 0, []⟩ mps
def endR (lo lo' : Nat) (mps : List Pat) (x : (patsTy mps).den) (mk : (patsTy mps).den → RO mps) (s : St) : RO mps :=
 match s.dfr, rd lo' s (objPats mps) with
 | [], some y => match rowsSame mps x y, afterM lo mps x y with
  | true, some x' => mk x'
  | _, _ => .bad
 | _, _ => .bad
def outR (lo lo' : Nat) (mps : List Pat) (x : (patsTy mps).den) : Out → RO mps
 | .norm s => endR lo lo' mps x .next s
 | .exit id s => endR lo lo' mps x (.brk id) s
 | .ret s => endR lo lo' mps x .ret s
 | .pan (.ifc T τ d) s => endR lo lo' mps x (.pan T τ d) s
 | _ => .bad
def TCtx.noDfr (E : TCtx) : TCtx := { E with dfr := false }
def bodyK (P : Program) (E : TCtx) (Γ : Ctx) (lo lo' N : Nat) (body : Code) (lb : List Loop) (mps : List Pat) (x : (patsTy mps).den) : Out → Tree (RO mps)
 | .norm s1 => execK P E.noDfr Γ lo' N .any body lb s1 fun o => .leaf (outR lo lo' mps x o)
 | _ => .leaf .bad
def stepR (P : Program) (E : TCtx) (Γ : Ctx) (lo lo' N : Nat) (ps : List Nat) (as body : Code) (la lb : List Loop) (e : Ty) (mps : List Pat) (x : (patsTy mps).den) (i : e.den) : Tree (RO mps) :=
 execK P E.noDfr Γ lo' N .any as la (rst lo' ps e mps x i) (bodyK P E Γ lo lo' N body lb mps x)
def runAll {I : Type} {mps : List Pat} (step : (patsTy mps).den → I → Tree (RO mps)) : (patsTy mps).den → List I → Tree (RO mps)
 | x, [] => .leaf (.next x)
 | x, i :: r => (step x i).run .any fun
  | .next x' => runAll step x' r
  | .brk id x' => .leaf (.brk id x')
  | .ret x' => .leaf (.ret x')
  | .pan T τ d x' => .leaf (.pan T τ d x')
  | .bad => .leaf .bad
def RO.out (lo : Nat) (dfr : List Dfr) {mps : List Pat} : RO mps → Out
 | .next x => .norm (wr lo .none dfr mps x)
 | .brk id x => .exit id (wr lo .none dfr mps x)
 | .ret x => .ret (wr lo .none dfr mps x)
 | .pan T τ d x => .pan (.ifc T τ d) (wr lo .none dfr mps x)
 | .bad => .bad
def rangeF (lo : Nat) (dfr : List Dfr) (t : Nat) (e : Ty) (mps : List Pat) (step : (patsTy mps).den → e.den → Tree (RO mps)) (s : St) : Tree Out :=
 match dfrEq s.dfr dfr, s.env t, rd lo s mps with
 | true, .v (.pc (.seq e') its), some x => match castTy (σ := .seq e') (.seq e) its with
  | some its => (runAll step x (show Sl e.den from its).list).map (RO.out lo (.mark :: dfr))
  | none => .leaf .bad
 | _, _, _ => .leaf .bad
inductive Track {I : Type} {mps : List Pat} (step : (patsTy mps).den → I → Tree (RO mps)) (x0 : (patsTy mps).den) : List I → (patsTy mps).den → Prop
 | nil : Track step x0 [] x0
 | snoc {k : List I} {x x' : (patsTy mps).den} {i : I} (h : Track step x0 k x) (h' : (step x i).Has (.next x')) : Track step x0 (k ++ [i]) x'
theorem Tree.has_run {α β : Type} {K : α → Tree β} {a : α} {b : β} : ∀ {t : Tree α}, t.Has a → (K a).Has b → (t.run Tree.any K).Has b
 | .leaf _, h, h' => by cases h; exact h'
 | .br c l r, h, h' => by
  cases c with
  | true => exact Tree.has_run (t := l) (by simpa [Tree.Has] using h) h'
  | false => exact Tree.has_run (t := r) (by simpa [Tree.Has] using h) h'
 | .any l r, h, h' => h.elim (fun h => .inl (Tree.has_run h h')) (fun h => .inr (Tree.has_run h h'))
theorem runAll_track {I : Type} {step : (patsTy mps).den → I → Tree (RO mps)} {x0 : (patsTy mps).den} {k : List I} {x : (patsTy mps).den} (h : Track step x0 k x) : ∀ (rest : List I) (o : RO mps), (runAll step x rest).Has o → (runAll step x0 (k ++ rest)).Has o := by
 induction h with
 | nil => exact fun rest o h => h
 | snoc h h' ih =>
  intro rest o ho
  rw [List.append_assoc]
  refine ih _ o ?_
  exact Tree.has_run h' ho
def RO.ends {mps : List Pat} : RO mps → Prop
 | .next _ => False
 | _ => True
theorem runAll_ends {I : Type} {step : (patsTy mps).den → I → Tree (RO mps)} {x0 : (patsTy mps).den} {k : List I} {x : (patsTy mps).den} (h : Track step x0 k x) {i : I} {o : RO mps} (ho : (step x i).Has o) (he : o.ends) (rest : List I) :
  (runAll step x0 (k ++ i :: rest)).Has o := by
 refine runAll_track h _ _ ?_
 refine Tree.has_run ho ?_
 cases o with
 | next x => exact he.elim
 | _ => rfl
structure RInv (P : Program) (N : Nat) (G : Gh) (dfr : List Dfr) (mps : List Pat) (a₁ : Act) (SI : CS) (l : Nat) (x : (patsTy mps).den) (F : Nat → Prop) (S : CS) (W : World) (ρ : Rho) (So : CS) (FG : Nat → Prop) : Prop where
 sr : SR P N G (wr G.lo .none (.mark :: dfr) mps x) a₁ W ρ So FG
 so : ∀ b o, So b o → F b ∨ S b o
 ob : ∀ id b, Own W ρ id ((wr G.lo .none (.mark :: dfr) mps x).heap id) b → F b
 fg : ∀ b, FG b → F b
 w0 : ∀ b, b < G.w0.heap.size → F b
 mks : ∀ D ∈ marksOf a₁.defers, F D
 si : ∀ b o, SI b o → So b o
 fl : ∀ b, FG b → b < l
theorem RInv.idle (hG : G.Ok P) {l : Nat} {a₁ : Act} {SI : CS} {x : (patsTy mps).den} {So : CS} {FG : Nat → Prop} (h : RInv P N G dfr mps a₁ SI l x F S w ρ So FG) (hs : Same F w w') (hk : Kps S w w') (hS : ∀ b o, S b o → S' b o) :
  RInv P N G dfr mps a₁ SI l x F S' w' ρ So FG :=
 ⟨h.sr.idle hG h.so h.ob h.fg h.w0 h.mks hs hk, fun b o q => (h.so b o q).imp (fun x => x) (hS b o), fun id b q => h.ob id b (q.back rfl fun b q1 q2 => hs.block b (h.ob id b (.of q2 q1))), h.fg, h.w0, h.mks, h.si, h.fl⟩
theorem RInv.ext {l : Nat} {a₁ : Act} {SI : CS} {x : (patsTy mps).den} {So : CS} {FG : Nat → Prop} (h : RInv P N G dfr mps a₁ SI l x F S w ρ So FG) (hs : Same F w w') (hk : Kps S w w') : Ext0 So w So w' :=
 ⟨hs.size, fun _ _ q => q, fun b o q => (h.so b o q).elim (fun x => World.cell?_of_block (a := ⟨b, o, none⟩) (hs.block b x)) (hk.cell b o),
  fun b o es c q m => (h.so b o q).elim (fun x => (hs.block b x).trans m) (fun x => hk.maps b o es c x m), fun b o q => Nat.lt_of_lt_of_le (h.sr.bd b o q) hs.size, hk.pl⟩
def RO.jump {mps : List Pat} : RO mps → Option Code
 | .brk id _ => some (.exit id)
 | .ret _ => some .ret
 | _ => none
def RO.dat {mps : List Pat} : RO mps → Option (patsTy mps).den
 | .next x => some x
 | .brk _ x => some x
 | .ret x => some x
 | .pan _ _ _ x => some x
 | .bad => none
def consR (P : Program) (N : Nat) (G : Gh) (dfr : List Dfr) (mps : List Pat) (a₁ : Act) (SI : CS) {I : Type} (step : (patsTy mps).den → I → Tree (RO mps)) (x0 : (patsTy mps).den) (l : Nat) (rec : Go.Loop) : Cons I where
 J k F S W := ∃ x ρ So FG, Track step x0 k x ∧ RInv P N G dfr mps a₁ SI l x F S W ρ So FG ∧ F l ∧ W.heap[l]? = some (.loop rec)
 JS k F S W := ∃ k0 i x o x' ρ So FG c, k = k0 ++ [i] ∧ Track step x0 k0 x ∧ (step x i).Has o ∧ o.dat = some x' ∧ o.jump = some c ∧ RInv P N G dfr mps a₁ SI l x' F S W ρ So FG ∧ F l ∧ W.heap[l]? = some (.loop { rec with state := .done, pending := some c })
 JP k ch F S W := ∃ k0 i x T τ d x' u0 ρ So FG, k = k0 ++ [i] ∧ Track step x0 k0 x ∧ (step x i).Has (.pan T τ d x') ∧ ch = [{ v := .iface T u0, recovered := false }] ∧ RInv P N G dfr mps a₁ SI l x' F S W ρ So FG ∧ R P τ So W d [u0]
theorem consR_ok (hG : G.Ok P) {a₁ : Act} {SI : CS} {I : Type} {step : (patsTy mps).den → I → Tree (RO mps)} {x0 : (patsTy mps).den} {l : Nat} {rec : Go.Loop} : (consR P N G dfr mps a₁ SI step x0 l rec).Ok where
 J k F S S' w w' h _ hs hk hS := by
  obtain ⟨x, ρ, So, FG, h1, h2, h3, h4⟩ := h
  exact ⟨x, ρ, So, FG, h1, h2.idle hG hs hk hS, h3, (hs.block l h3).trans h4⟩
 JS k F S S' w w' h _ hs hk hS := by
  obtain ⟨k0, i, x, o, x', ρ, So, FG, c, h1, h2, h3, h4, h5, h6, h7, h8⟩ := h
  exact ⟨k0, i, x, o, x', ρ, So, FG, c, h1, h2, h3, h4, h5, h6.idle hG hs hk hS, h7, (hs.block l h7).trans h8⟩
 JP k ch F S S' w w' h _ hs hk hS := by
  obtain ⟨k0, i, x, T, τ, d, x', u0, ρ, So, FG, h1, h2, h3, h4, h5, h6⟩ := h
  exact ⟨k0, i, x, T, τ, d, x', u0, ρ, So, FG, h1, h2, h3, h4, h5.idle hG hs hk hS, h6.mono (h5.ext hs hk)⟩
theorem SR.params : ∀ (ps : List Nat) (ds : List Slot) (us : List Value) {s : St} {a : Act}, ps.all (Nat.blt · N) = true → SR P N G s a w ρ S F → ps.length = us.length → ds.length = us.length → (∀ (j : Nat) d u, ds[j]? = some d → us[j]? = some u → RS P G.Y S w s.heap ρ d u) →
  SR P N G { s with env := setArgs ps ds s.env } { a with tmps := (ps.zip us).foldl (fun tmps p => tmps.setIfInBounds p.1 p.2) a.tmps } w ρ S F
 | [], ds, us, s, a, _, h, _, _, _ => by cases ds <;> exact h
 | t :: ps, [], us, s, a, _, h, h1, h2, _ => by cases us <;> simp at h1 h2
 | t :: ps, d :: ds, [], s, a, _, h, h1, h2, _ => by simp at h1
 | t :: ps, d :: ds, u :: us, s, a, hp, h, h1, h2, hr => by
  simp only [List.all_cons, Bool.and_eq_true] at hp
  have hq := h.put (dst := some t) (by simpa using hp.1) (hr 0 d u rfl rfl)
  have := SR.params ps ds us (s := { s with env := Go.Dm.setEnv s.env t d }) (a := { a with tmps := a.tmps.setIfInBounds t u }) hp.2 (by simpa [Act.put, putD] using hq) (by simpa using h1) (by simpa using h2) (fun j d u g1 g2 => hr (j + 1) d u (by simpa using g1) (by simpa using g2))
  simpa [setArgs] using this
end Go.Dm
namespace Go.Dm
open Go.RowKit
variable {P : Program} {N N' : Nat} {G : Gh} {S S' S2 : CS} {w w' w2 : World} {s s2 : St} {a a2 : Act} {ρ ρ' ρ2 : Rho} {F F' F2 : Nat → Prop} {heap heap' H' H2 : Nat → DObj} {Y : Value} {E : TCtx} {Γ : Ctx} {Fw : Fence} {r : Nat} {ops : Array Oper} {lo lo' base : Nat} {dfr : List Dfr} {vr vr' : Nat → Nat} {n : Nat} {fid : FuncId} {mps : List Pat} {e : Ty}
theorem seen_ok {ps : List Pat} {x : (patsTy ps).den} (hw : wfG lo ps = true) {M : Nat → Prop} {l : Nat} : (Gh.inner M S w l lo (pinOf (findO (objs (fun _ => 0) ps x)) ρ)).Ok P := by
 simp only [wfG, Bool.and_eq_true] at hw
 obtain ⟨⟨⟨⟨⟨⟨w1, w2⟩, w3⟩, w4⟩, w5⟩, w6⟩, w7⟩ := hw
 simp only [lowIds, Bool.and_eq_true, List.all_eq_true, Nat.blt_eq] at w4
 refine inner_ok fun id b hb => ?_
 have key : ∀ o, findO (objs (fun _ => 0) ps x) id = o → o ≠ .none → (id, o) ∈ objs (fun _ => 0) ps x := fun o ho hn => by subst ho; exact findO_some hn
 unfold pinOf at hb
 split at hb
 ·rename_i ho; exact w4.1.1 id (mem_boxIds (key _ ho (by simp)))
 ·rename_i ho; exact w4.1.2 id (mem_rowIds (key _ ho (by simp)))
 ·rename_i ho; exact w4.2 id (mem_mpIds (key _ ho (by simp)))
 ·rename_i ho; exact w4.2 id (mem_rwsIds (key _ ho (by simp)))
 ·cases hb
theorem rd_eq {s s' : St} (h1 : s.env = s'.env) (h2 : s.heap = s'.heap) (h3 : s.tr = s'.tr) : ∀ (ps : List Pat), rd lo s ps = rd lo s' ps
 | [] => rfl
 | p :: ps => by
  simp only [rd, rd_eq h1 h2 h3 ps]
  have : rdP lo s p = rdP lo s' p := by
   cases p <;> simp only [rdP, h1, h2, h3]
  rw [this]
theorem back_round {M : Nat → Prop} (hM : ∀ b, M b → ∃ id, Own w ρ id (s.heap id) b) (hG : G.Ok P) (h : SR P N G s a w ρ S F) {x : (patsTy mps).den} (hH : s.heap = findO (objs (fun _ => 0) mps x)) (hw : wfG lo' mps = true)
  {s' : St} (q : SR P N' (Gh.inner M S w G.l lo' (pinOf s.heap ρ)) s' a2 w' ρ' S' F') (hd : s'.dfr = []) {y : (patsTy (objPats mps)).den} (hy : rd lo' s' (objPats mps) = some y) (hs : rowsSame mps x y = true) :
  ∃ ρ'', SR P N G { s with heap := putH s.heap (objs (verOf s.heap) (objPats mps) y) } a w' ρ'' S' F ∧
   ∀ id b, Own w' ρ'' id (putH s.heap (objs (verOf s.heap) (objPats mps) y) id) b → w.heap.size ≤ b ∨ ∃ id, Own w ρ id (s.heap id) b := by
 have hw' := hw
 simp only [wfG, Bool.and_eq_true, Bool.not_eq_true'] at hw
 obtain ⟨⟨⟨⟨⟨⟨w1, w2⟩, w3⟩, w4⟩, w5⟩, w6⟩, w7⟩ := hw
 have w3 := natsEq_spec w3
 have hGc : (Gh.inner M S w G.l lo' (pinOf s.heap ρ)).Ok P := by rw [hH]; exact seen_ok hw'
 obtain ⟨n1, n2⟩ : nodupB (objIds mps) = true ∧ nodupB (objIds (objPats mps)) = true := by
  simp only [wfPats, Bool.and_eq_true] at w1 w2
  exact ⟨w1.1, w2.1⟩
 have hn1 : ((objs (fun _ => 0) mps x).map (·.1)).Nodup := by rw [objs_ids]; exact nodupB_spec n1
 have hn2 : ((objs (verOf s.heap) (objPats mps) y).map (·.1)).Nodup := by rw [objs_ids]; exact nodupB_spec n2
 have h3 := wr_SR hGc q (vr := verOf s.heap) (t := .none) w2 (by rw [hd]; rfl) (.inr (inner_free _ _ _)) (show rd (Gh.inner M S w G.l lo' (pinOf s.heap ρ)).lo s' (objPats mps) = some y from hy)
 let D : Nat → Bool := fun id => ((objs (verOf s.heap) (objPats mps) y).map (·.1)).any (Nat.beq id)
 have hobj : ∀ id, D id = true → ∃ o, findO (objs (verOf s.heap) (objPats mps) y) id = o ∧ ORel (verOf s.heap id) (s.heap id) o := fun id hid => by
  obtain ⟨p, hp, rfl⟩ := List.mem_map.1 (any_beq.1 hid)
  obtain ⟨o0, h1, h2⟩ := objs_rel (vr' := fun _ => 0) w7 hs _ hp
  refine ⟨p.2, findO_mem hn2 p hp, ?_⟩
  rw [hH, findO_mem hn1 _ h1]
  rw [hH] at h2
  exact h2
 have hblk : ∀ id, live (s.heap id) → isChain (s.heap id) = false → isRowD (s.heap id) = false → ∃ b, ρ id = some b := fun id hl hc hrr => by
  have := h.obj id
  cases ho : s.heap id with
  | none => rw [ho] at hl; exact hl.elim
  | gone => rw [ho] at hl; exact hl.elim
  | box ds => rw [ho] at this; obtain ⟨b, _, _, hb, _⟩ := this; exact ⟨b, hb⟩
  | chain _ _ _ _ => rw [ho] at hc; cases hc
  | row cur T e x => rw [ho] at hrr; cases hrr
  | mp k v m => rw [ho] at this; obtain ⟨b, _, _, hb, _⟩ := this; exact ⟨b, hb⟩
  | rows _ T e d => rw [ho] at this; obtain ⟨_, b, _, _, hb, _⟩ := this; exact ⟨b, hb⟩
 have hpins := h3.pins
 have hK : ∀ id, D id = true → Kept w w' ρ (rho' (Gh.inner M S w G.l lo' (pinOf s.heap ρ)).pin s'.heap ρ') id (s.heap id) (findO (objs (verOf s.heap) (objPats mps) y) id) := fun id hid => by
  obtain ⟨o, hf, hrel⟩ := hobj id hid
  rw [hf]
  generalize ho0 : s.heap id = o0 at hrel
  cases hrel with
  | box ds ds' =>
   obtain ⟨b, hb⟩ := hblk id (by rw [ho0]; trivial) (by rw [ho0]; rfl) (by rw [ho0]; rfl)
   have := (hpins id b (by show pinOf _ _ id = some b; unfold pinOf; rw [ho0]; exact hb)).1
   exact .inr ⟨⟨_, rfl⟩, this.trans hb.symm⟩
  | row u T e a b hn =>
   have hv : verOf s.heap id = u := by unfold verOf; rw [ho0]
   refine .inr ⟨_, _, rfl, by omega, fun _ => ⟨hn, ?_⟩⟩
   have hobj' := h.obj id
   rw [ho0] at hobj'
   cases hb : ρ id with
   | some bb => exact .inl ((hpins id bb (by show pinOf _ _ id = some bb; unfold pinOf; rw [ho0]; exact hb)).1)
   | none =>
    obtain ⟨_, ⟨_, q⟩ | ⟨b1, _, q, _⟩⟩ := hobj'
    ·exact .inr ⟨q, rfl⟩
    ·rw [hb] at q; cases q
  | mp k e m m' =>
   obtain ⟨bb, hb⟩ := hblk id (by rw [ho0]; trivial) (by rw [ho0]; rfl) (by rw [ho0]; rfl)
   have := (hpins id bb (by show pinOf _ _ id = some bb; unfold pinOf; rw [ho0]; exact hb)).1
   exact .inr ⟨⟨_, rfl⟩, this.trans hb.symm⟩
  | rows u T e a b hn =>
   obtain ⟨bb, hb⟩ := hblk id (by rw [ho0]; trivial) (by rw [ho0]; rfl) (by rw [ho0]; rfl)
   have := (hpins id bb (by show pinOf _ _ id = some bb; unfold pinOf; rw [ho0]; exact hb)).1
   have hv : verOf s.heap id = u := by unfold verOf; rw [ho0]
   exact .inr ⟨_, _, rfl, by omega, hn, this.trans hb.symm, fun q => by omega⟩
  | chain u T k n n' =>
   have hv : verOf s.heap id = u + 1 := by unfold verOf; rw [ho0]
   exact ⟨verOf s.heap id, n', rfl, by omega, fun q => by omega⟩
 have hback := h.back hG (D := D) (s2 := wrV (verOf s.heap) lo' .none [] (objPats mps) y) (M := M) (lo := lo') (pin := pinOf s.heap ρ)
  (h3.of_eq rfl rfl rfl hd.symm) (fun b hb => ?_) (fun id hn => ?_) hK (fun id b hid hb => ?_)
 ·have hheap : putH s.heap (objs (verOf s.heap) (objPats mps) y) = over D (wrV (verOf s.heap) lo' .none [] (objPats mps) y).heap s.heap := by
   funext i
   rw [putH_find hn2]
   rfl
  refine ⟨_, hback.of_eq rfl hheap rfl rfl, fun id b hl => ?_⟩
  rw [hheap] at hl
  cases hd : D id with
  | true =>
   rw [over, hd, cond_true] at hl
   exact (h3.blkO (hl.back (by simp [overR, hd]) fun _ _ _ => rfl)).2.1.1.imp (fun q => q) (fun q => hM b q)
  | false =>
   rw [over, hd, cond_false] at hl
   refine .inr ⟨id, hl.back (by simp [overR, hd]) fun b q1 q2 => h3.same.block b ⟨(h.blk_lt q2 q1).1, ?_, fun q => q⟩⟩
   intro hMb
   obtain ⟨id', hid'⟩ := hM _ hMb
   have := h.inj id' id b hid' (.of q2 q1)
   subst this
   have hne : findO (objs (fun _ => 0) mps x) id' ≠ .none := fun e => by rw [hH, e] at q2; exact q2
   have hmem : id' ∈ objIds mps := by rw [← objs_ids (ver := fun _ => 0) (x := x)]; exact List.mem_map.2 ⟨_, findO_some hne, rfl⟩
   have : D id' = true := by
    show ((objs (verOf s.heap) (objPats mps) y).map (·.1)).any (Nat.beq id') = true
    rw [objs_ids]
    exact any_beq.2 (w3 ▸ hmem)
   rw [hd] at this; cases this
 ·obtain ⟨id, hl⟩ := hM b hb
  refine ⟨id, ?_, hl⟩
  have hne : findO (objs (fun _ => 0) mps x) id ≠ .none := fun e => by rw [hH, e] at hl; exact hl
  have hmem : id ∈ objIds mps := by rw [← objs_ids (ver := fun _ => 0) (x := x)]; exact List.mem_map.2 ⟨_, findO_some hne, rfl⟩
  show ((objs (verOf s.heap) (objPats mps) y).map (·.1)).any (Nat.beq id) = true
  rw [objs_ids]
  exact any_beq.2 (w3 ▸ hmem)
 ·have hn : findO (objs (verOf s.heap) (objPats mps) y) id ≠ .none := hn
  exact any_beq.2 (List.mem_map.2 ⟨_, findO_some hn, rfl⟩)
 ·obtain ⟨p1, p2⟩ := h.pins id b hb
  obtain ⟨o, hf, hrel⟩ := hobj id hid
  refine hpins id b ?_
  show pinOf s.heap ρ id = some b
  unfold pinOf
  generalize ho0 : s.heap id = o0 at hrel p2
  cases hrel with
  | box ds ds' => exact p1
  | row u T e a b hn => exact p1
  | mp k e m m' => exact p1
  | rows u T e a b' hn => exact p1
  | chain u T k n n' => cases p2
end Go.Dm
namespace Go.Dm
open Go.RowKit
variable {P : Program} {N N' : Nat} {G : Gh} {S S' S2 : CS} {w w' w2 : World} {s s2 : St} {a a2 : Act} {ρ ρ' ρ2 : Rho} {F F' F2 : Nat → Prop} {heap heap' H' H2 : Nat → DObj} {Y : Value} {E : TCtx} {Γ : Ctx} {Fw : Fence} {r : Nat} {ops : Array Oper} {lo lo' base : Nat} {dfr : List Dfr} {vr vr' : Nat → Nat} {n : Nat} {fid : FuncId} {mps : List Pat} {e : Ty}
theorem endR_some {x : (patsTy mps).den} {mk : (patsTy mps).den → RO mps} {s : St} (h : endR lo lo' mps x mk s ≠ .bad) :
  ∃ y x', s.dfr = [] ∧ rd lo' s (objPats mps) = some y ∧ rowsSame mps x y = true ∧ afterM lo mps x y = some x' ∧ endR lo lo' mps x mk s = mk x' := by
 unfold endR at h ⊢
 split at h
 ·rename_i y hd hy
  split at h
  ·rename_i x' hs ha
   exact ⟨y, x', hd, hy, hs, ha, rfl⟩
  ·exact absurd rfl h
 ·exact absurd rfl h
theorem round_back {M : Nat → Prop} (hG : G.Ok P) (hfree : G.Free) (hw : wfG lo' mps = true) (hdw : dfrWf (boxIds mps) dfr = true) {a₁ : Act} {x x' : (patsTy mps).den} {FG : Nat → Prop} (h : SR P N G (wr G.lo .none (.mark :: dfr) mps x) a₁ w ρ S FG) (hM : ∀ b, M b → ∃ id, Own w ρ id ((wr G.lo .none (.mark :: dfr) mps x).heap id) b)
  {s' : St} (q : SR P N (Gh.inner M S w G.l lo' (pinOf (wr G.lo .none (.mark :: dfr) mps x).heap ρ)) s' a2 w' ρ' S' F') (hd : s'.dfr = []) {y : (patsTy (objPats mps)).den} (hy : rd lo' s' (objPats mps) = some y) (hs : rowsSame mps x y = true)
  (ha : afterM G.lo mps x y = some x') :
  ∃ ρ'', SR P N G (wr G.lo .none (.mark :: dfr) mps x') a₁ w' ρ'' S' FG ∧
   ∀ id b, Own w' ρ'' id ((wr G.lo .none (.mark :: dfr) mps x').heap id) b → w.heap.size ≤ b ∨ ∃ id, Own w ρ id ((wr G.lo .none (.mark :: dfr) mps x).heap id) b := by
 obtain ⟨ρ1, h1, h2⟩ := back_round hM hG h rfl hw q hd hy hs
 have hw' := hw
 simp only [wfG, Bool.and_eq_true, Bool.not_eq_true'] at hw
 obtain ⟨⟨⟨⟨⟨⟨w1, w2⟩, w3⟩, w4⟩, w5⟩, w6⟩, w7⟩ := hw
 have hx : rd G.lo { wr G.lo .none (.mark :: dfr) mps x with heap := putH (wr G.lo .none (.mark :: dfr) mps x).heap (objs (verOf (wr G.lo .none (.mark :: dfr) mps x).heap) (objPats mps) y) } mps = some x' :=
  (rd_eq (s := { wr G.lo .none (.mark :: dfr) mps x with heap := putH (wr G.lo .none (.mark :: dfr) mps x).heap (objs (verOf (wr G.lo .none (.mark :: dfr) mps x).heap) (objPats mps) y) }) (s' := ⟨(wr G.lo .none [] mps x).env, putH (wr G.lo .none [] mps x).heap (objs (verOf (wr G.lo .none [] mps x).heap) (objPats mps) y), .none, 0, []⟩) rfl rfl (show wrTr .none mps x = .none from wrTr_no w5) mps).trans ha
 have hdm : dfrWf (boxIds mps) (.mark :: dfr) = true := by simp only [dfrWf, List.all_cons, Bool.true_and]; exact hdw
 exact ⟨_, wr_SR hG h1 w1 hdm (.inr (hfree _ _ _)) hx, fun id b hl => h2 id b (wr_own hG h1 hx id b hl)⟩
theorem consR_yield (hE : Env P E Γ G Fence.wide) (hfree : G.Free) {fd : Func} (hfd : P.funcs[fid]? = some fd) {ps : Array Tmp} (hps : ps.toList.all (Nat.blt · N) = true) (hpl : ps.size = e.cells) (heL : e.isL = true)
  (hw : wfG lo' mps = true) (hdw : dfrWf (boxIds mps) dfr = true) {as body : Code} {la lb : List Loop}
  (hla : ∀ G' : Gh, G'.lo = lo' → G'.Ok P → G'.Free → ∀ l, LsOK P N G' fid (Fence.wide.inRound l) 0 as la) (hlb : ∀ G' : Gh, G'.lo = lo' → G'.Ok P → G'.Free → ∀ l, LsOK P N G' fid (Fence.wide.inRound l) 0 body lb)
  {a₁ : Act} {SI : CS} {x0 : (patsTy mps).den} {l Db : Nat} {items : List e.den} (hl0 : G.w0.heap.size ≤ l)
  (hfine : ∀ ro, (runAll (stepR P E Γ G.lo lo' N ps.toList as body la lb e mps) x0 items).Has ro → ro ≠ .bad) :
  YieldOK P (R P e) (consR P N G dfr mps a₁ SI (stepR P E Γ G.lo lo' N ps.toList as body la lb e mps) x0 l { state := .ready, pending := none, fn := fid, tmps := a₁.tmps, params := ps, assign := as, body := body, defers := Db }) SI l items := by
 intro k F S W i vs hpre hJ hFb hbd hfs hR
 obtain ⟨x, ρ, So, FG, hT, hI, hFl, hrec⟩ := hJ
 have hstep : ∀ ro, (stepR P E Γ G.lo lo' N ps.toList as body la lb e mps x i).Has ro → ro ≠ .bad := fun ro hro e => by
  subst e
  obtain ⟨rest, hrest⟩ := hpre
  have := runAll_ends hT hro trivial rest
  rw [← hrest, List.append_assoc] at hfine
  exact hfine _ this rfl
 have hlen : vs.length = ps.size := by rw [hR.len, hpl]
 refine ⟨fid, _, as, body, run_yield hrec (by simpa using hlen), roundIn_of_wpB Wide.wide hfd ?_⟩
 -- the frame of the round
 have hm := hI.sr.more hE.gh hbd fun b o q => by
  by_cases hb : F b
  ·exact .inl (hI.si b o (hfs b o q hb))
  ·exact .inr ⟨by have := hI.w0 b; exact Nat.le_of_not_lt fun h => hb (this h), fun h => hb (hI.fg b h), fun id h1 => hb (hI.ob id b h1)⟩
 have hc := hm.enter (lo := lo') (l := G.l) rfl
 have hvl : (argSlots e i).length = vs.length := by rw [argSlots_len heL, hR.len]
 have hp := SR.params ps.toList (argSlots e i) vs hps hc (by simpa using hlen.symm) hvl (fun j d u h1 h2 => by
  have hR' : R P e (fun b o => So b o ∨ S b o) W i vs := hR.mono ⟨Nat.le_refl _, fun _ _ q => .inr q, fun _ _ _ => rfl, fun _ _ _ _ _ q => q, hm.bd, .refl W⟩
  have := argSlots_RS (Y := (Gh.inner (seen W (wr G.lo .none (.mark :: dfr) mps x).heap ρ) (fun b o => So b o ∨ S b o) W G.l lo' (pinOf (wr G.lo .none (.mark :: dfr) mps x).heap ρ)).Y) (heap := (wr G.lo .none (.mark :: dfr) mps x).heap) (ρ := ρ) hR' j
  rw [List.getD_eq_getElem?_getD, List.getD_eq_getElem?_getD, h1, h2] at this
  exact this)
 have hw' := hw
 simp only [wfG, Bool.and_eq_true, Bool.not_eq_true'] at hw'
 have hnt : hasTr mps = false := hw'.1.1.2
 have h0 : SR P N (Gh.inner (seen W (wr G.lo .none (.mark :: dfr) mps x).heap ρ) (fun b o => So b o ∨ S b o) W G.l lo' (pinOf (wr G.lo .none (.mark :: dfr) mps x).heap ρ)) (rst lo' ps.toList e mps x i)
   { tmps := (ps.zip vs.toArray).foldl (fun tmps (t, a) => tmps.setIfInBounds t a) a₁.tmps, defers := [] } W ρ (fun b o => So b o ∨ S b o) (fun _ => False) := by
  have ea : (ps.zip vs.toArray).foldl (fun tmps (t, a) => tmps.setIfInBounds t a) a₁.tmps = (ps.toList.zip vs).foldl (fun tmps p => tmps.setIfInBounds p.1 p.2) a₁.tmps := by
   rw [← Array.foldl_toList]; simp
  rw [ea]
  exact hp.of_eq rfl rfl (wrTr_no hnt) rfl
 have hGc : ∀ W', (Gh.inner (seen W (wr G.lo .none (.mark :: dfr) mps x).heap ρ) (fun b o => So b o ∨ S b o) W' G.l lo' (pinOf (wr G.lo .none (.mark :: dfr) mps x).heap ρ)).Ok P := fun W' => seen_ok hw
 have hEnv : ∀ W', Env P E.noDfr Γ (Gh.inner (seen W (wr G.lo .none (.mark :: dfr) mps x).heap ρ) (fun b o => So b o ∨ S b o) W' G.l lo' (pinOf (wr G.lo .none (.mark :: dfr) mps x).heap ρ)) (Fence.wide.inRound l) := fun W' =>
  ⟨hE.mixed, hE.fns, hE.eq, hE.key, hGc W', Wide.wide.inRound l, fun q => by cases q⟩
 have hlW : l < W.heap.size := (Array.getElem?_eq_some_iff.1 hrec).1
 have hnseen : ¬ seen W (wr G.lo .none (.mark :: dfr) mps x).heap ρ l := fun ⟨id, h1⟩ => by
  rcases hI.sr.blk_kind h1 with ⟨c, T, f, q⟩ | ⟨es, c, q⟩ <;> (rw [q] at hrec; cases hrec)
 refine wpB_mono (exec_sound (G := Gh.inner (seen W (wr G.lo .none (.mark :: dfr) mps x).heap ρ) (fun b o => So b o ∨ S b o) W G.l lo' (pinOf (wr G.lo .none (.mark :: dfr) mps x).heap ρ)) (K := bodyK P E Γ G.lo lo' N body lb mps x) (ch := Tree.any)
  (T := fun t : Tree (RO mps) => ∀ ro, t.Has ro → (stepR P E Γ G.lo lo' N ps.toList as body la lb e mps x i).Has ro) (hEnv W) (fun a b q => ⟨fun ro h => q ro (.inl h), fun ro h => q ro (.inr h)⟩)
  ⟨fun q => hstep _ (q .bad rfl) rfl, fun s' q => (hstep _ (q .bad rfl) rfl).elim⟩ (fun ro h => h) (hla _ rfl (hGc W) inner_free l) ⟨_, _, _, h0⟩) ?_
 rintro e1 a1 w1 ⟨o, ho, hT1⟩
 cases o with
 | exit id s1 => exact (hstep _ (hT1 .bad rfl) rfl).elim
 | ret s1 => exact (hstep _ (hT1 .bad rfl) rfl).elim
 | pan d s1 => exact (hstep _ (hT1 .bad rfl) rfl).elim
 | bad => exact (hstep _ (hT1 .bad rfl) rfl).elim
 | norm s1 =>
  cases e1 <;> try exact ho.elim
  obtain ⟨ρ1, S1, F1, h1⟩ := ho
  have hrec1 : w1.heap[l]? = some (.loop { state := .ready, pending := none, fn := fid, tmps := a₁.tmps, params := ps, assign := as, body := body, defers := Db }) := (h1.same.block l ⟨hlW, hnseen, fun q => q⟩).trans hrec
  have hnF1 : ¬ F1 l := fun q => h1.f0 l hlW q
  refine ⟨_, run_beginRound hrec1 rfl, ?_⟩
  have h1' := h1.poke0 (r' := { state := .busy, pending := none, fn := fid, tmps := a₁.tmps, params := ps, assign := as, body := body, defers := Db }) ⟨_, hrec1⟩ hlW hnseen hnF1
  refine wpB_mono (exec_sound (G := Gh.inner (seen W (wr G.lo .none (.mark :: dfr) mps x).heap ρ) (fun b o => So b o ∨ S b o) (W.putObj l (.loop { state := .busy, pending := none, fn := fid, tmps := a₁.tmps, params := ps, assign := as, body := body, defers := Db })) G.l lo' (pinOf (wr G.lo .none (.mark :: dfr) mps x).heap ρ))
   (K := fun o => .leaf (outR G.lo lo' mps x o)) (ch := Tree.any)
   (T := fun t : Tree (RO mps) => ∀ ro, t.Has ro → (stepR P E Γ G.lo lo' N ps.toList as body la lb e mps x i).Has ro) (hEnv _) (fun a b q => ⟨fun ro h => q ro (.inl h), fun ro h => q ro (.inr h)⟩)
   ⟨fun q => hstep _ (q .bad rfl) rfl, fun s' q => (hstep _ (q .bad rfl) rfl).elim⟩ (fun ro h => hT1 ro h) (hlb _ rfl (hGc _) inner_free l) ⟨_, _, _, h1'⟩) ?_
  rintro e2 a2 w3 ⟨o2, ho2, hT2⟩
  have hro := hT2 _ rfl
  have hne := hstep _ hro
  -- the main frame, with the record busy
  have hmP := hm.poke hE.gh (r' := { state := .busy, pending := none, fn := fid, tmps := a₁.tmps, params := ps, assign := as, body := body, defers := Db }) ⟨_, hrec⟩ hl0 (fun q => absurd (hI.fl l q) (Nat.lt_irrefl _))
  have hszP : (W.putObj l (.loop { state := .busy, pending := none, fn := fid, tmps := a₁.tmps, params := ps, assign := as, body := body, defers := Db })).heap.size = W.heap.size := by simp
  -- what holds behind the round, whichever way it was left
  have key : ∀ {s2 : St} {ρ2 : Rho} {S2 : CS} {F2 : Nat → Prop} {mk : (patsTy mps).den → RO mps},
    SR P N (Gh.inner (seen W (wr G.lo .none (.mark :: dfr) mps x).heap ρ) (fun b o => So b o ∨ S b o) (W.putObj l (.loop { state := .busy, pending := none, fn := fid, tmps := a₁.tmps, params := ps, assign := as, body := body, defers := Db })) G.l lo' (pinOf (wr G.lo .none (.mark :: dfr) mps x).heap ρ)) s2 a2 w3 ρ2 S2 F2 →
    endR G.lo lo' mps x mk s2 ≠ .bad → ∃ x' ρ3, endR G.lo lo' mps x mk s2 = mk x' ∧ a2.defers = [] ∧ (∃ r, w3.heap[l]? = some (.loop r) ∧ r = { state := .busy, pending := none, fn := fid, tmps := a₁.tmps, params := ps, assign := as, body := body, defers := Db }) ∧
     Same (fun b => b < W.heap.size ∧ ¬ F b) W w3 ∧ Kps S W w3 ∧ RInv P N G dfr mps a₁ SI l x' (fun b => F b ∨ (W.heap.size ≤ b ∧ b < w3.heap.size)) S w3 ρ3 S2 FG := by
   intro s2 ρ2 S2 F2 mk h2 hb
   obtain ⟨y, x', hd, hy, hs, ha, hmk⟩ := endR_some hb
   obtain ⟨ρ3, g1, g2⟩ := round_back hE.gh hfree hw hdw hmP (fun b ⟨id, q⟩ => ⟨id, q.tr rfl fun b q1 q2 => World.putObj_heap_other fun e => hnseen ⟨id, e ▸ .of q2 q1⟩⟩) h2 hd hy hs ha
   have hsame2 : ∀ b, b < W.heap.size → ¬ seen W (wr G.lo .none (.mark :: dfr) mps x).heap ρ b → w3.heap[b]? = (W.putObj l (.loop { state := .busy, pending := none, fn := fid, tmps := a₁.tmps, params := ps, assign := as, body := body, defers := Db })).heap[b]? := fun b hb hn =>
    h2.same.block b ⟨by show b < (W.putObj l _).heap.size; rw [hszP]; exact hb, hn, fun q => q⟩
   have hseenF : ∀ b, seen W (wr G.lo .none (.mark :: dfr) mps x).heap ρ b → F b := fun b ⟨id, q1⟩ => hI.ob id b q1
   have hszle : W.heap.size ≤ w3.heap.size := by have := h2.same.size; have this : (W.putObj l _).heap.size ≤ w3.heap.size := this; rw [hszP] at this; exact this
   refine ⟨x', ρ3, hmk, ?_, ⟨_, ?_, rfl⟩, ⟨h2.same.os, h2.same.tape, h2.same.output, hszle, fun b hb => ?_⟩, ?_, g1, fun b o q => ?_, fun id b q1 => ?_, fun b q => .inl (hI.fg b q), fun b q => .inl (hI.w0 b q), fun D q => .inl (hI.mks D q), fun b o q => ?_, hI.fl⟩
   ·have := h2.dfr
    rw [hd] at this
    cases hdd : a2.defers with
    | nil => rfl
    | cons d ds => rw [hdd] at this; exact this.elim
   ·rw [hsame2 l hlW hnseen]; exact World.putObj_heap_same hlW
   ·rw [hsame2 b hb.1 fun q => hb.2 (hseenF b q)]
    exact World.putObj_heap_other fun q => hb.2 (q ▸ hFl)
   ·exact (poke_kps ⟨_, hrec⟩).trans ((h2.ext.kps).mono fun b o q => .inr q)
   ·rcases h2.new b o q with (q | q) | q | q
    ·exact (hI.so b o q).imp .inl id
    ·exact .inr q
    ·have q : (W.putObj l _).heap.size ≤ b := q
     rw [hszP] at q
     exact .inl (.inr ⟨q, h2.bd b o ‹_›⟩)
    ·exact .inl (.inl (hseenF b q))
   ·rcases g2 id b q1 with q | ⟨id', q3⟩
    ·rw [hszP] at q
     exact .inr ⟨q, (g1.blkO q1).1⟩
    ·exact .inl (hI.ob id' b (q3.back rfl fun b q1 q2 => World.putObj_heap_other fun e => hnseen ⟨id', e ▸ .of q2 q1⟩))
   ·exact h2.ext.sub b o (.inl (hI.si b o q))
  -- the record's last turn
  have last : ∀ {x' : (patsTy mps).den} {ρ3 : Rho} {S2 : CS} {r r' : Go.Loop}, w3.heap[l]? = some (.loop r) → Same (fun b => b < W.heap.size ∧ ¬ F b) W w3 → Kps S W w3 →
    RInv P N G dfr mps a₁ SI l x' (fun b => F b ∨ (W.heap.size ≤ b ∧ b < w3.heap.size)) S w3 ρ3 S2 FG →
    Grew F W (fun b => F b ∨ (W.heap.size ≤ b ∧ b < w3.heap.size)) (w3.putObj l (.loop r')) ∧ Same (fun b => b < W.heap.size ∧ ¬ F b) W (w3.putObj l (.loop r')) ∧ Kps S W (w3.putObj l (.loop r')) ∧
    RInv P N G dfr mps a₁ SI l x' (fun b => F b ∨ (W.heap.size ≤ b ∧ b < w3.heap.size)) S (w3.putObj l (.loop r')) ρ3 S2 FG ∧ (w3.putObj l (.loop r')).heap[l]? = some (.loop r') := by
   intro x' ρ3 S2 r r' hr hs hk hI'
   refine ⟨⟨fun b q => .inl q, fun b q => q.imp id fun q => q.1, fun b q => by
    have hz : (w3.putObj l (.loop r')).heap.size = w3.heap.size := by simp
    rw [hz]
    rcases q with q | q
    ·exact Nat.lt_of_lt_of_le (hFb b q) hs.size
    ·exact q.2⟩, hs.trans (poke_same fun q => q.2 hFl), hk.trans (poke_kps ⟨_, hr⟩), ⟨hI'.sr.poke hE.gh ⟨_, hr⟩ hl0 (fun q => absurd (hI.fl l q) (Nat.lt_irrefl _)), hI'.so, fun id b q => hI'.ob id b (q.back rfl fun b q1 q2 => World.putObj_heap_other fun e => by
     subst e
     rcases hI'.sr.blk_kind (.of q2 q1) with ⟨c, T, f, z⟩ | ⟨es, c, z⟩ <;> (rw [z] at hr; cases hr)), hI'.fg, hI'.w0, hI'.mks, hI'.si, hI'.fl⟩, World.putObj_heap_same (Array.getElem?_eq_some_iff.1 hr).1⟩
  cases o2 with
  | bad => exact absurd rfl hne
  | norm s2 =>
   cases e2 <;> try exact ho2.elim
   obtain ⟨ρ2, S2, F2, h2⟩ := ho2
   obtain ⟨x', ρ3, hmk, _, ⟨r, hr, rfl⟩, hs, hk, hI'⟩ := key h2 hne
   obtain ⟨g1, g2, g3, g4, g5⟩ := last (r' := { state := .ready, pending := none, fn := fid, tmps := a₁.tmps, params := ps, assign := as, body := body, defers := Db }) hr hs hk hI'
   refine ⟨_, _, run_endRound none hr, _, g1, g2, g3, .inl ⟨rfl, x', ρ3, S2, FG, .snoc hT (by rw [← hmk]; exact hro), g4, .inl hFl, g5⟩⟩
  | exit id s2 =>
   cases e2 <;> try exact ho2.elim
   obtain ⟨rfl, ρ2, S2, F2, h2⟩ := ho2
   obtain ⟨x', ρ3, hmk, _, ⟨r, hr, rfl⟩, hs, hk, hI'⟩ := key h2 hne
   obtain ⟨g1, g2, g3, g4, g5⟩ := last (r' := { state := .done, pending := some (.exit id), fn := fid, tmps := a₁.tmps, params := ps, assign := as, body := body, defers := Db }) hr hs hk hI'
   exact ⟨_, _, run_endRound (some (.exit id)) hr, _, g1, g2, g3, .inr (.inl ⟨rfl, k, i, x, .brk id x', x', ρ3, S2, FG, .exit id, rfl, hT, by rw [← hmk]; exact hro, rfl, rfl, g4, .inl hFl, g5⟩)⟩
  | ret s2 =>
   cases e2 <;> try exact ho2.elim
   obtain ⟨ρ2, S2, F2, h2⟩ := ho2
   obtain ⟨x', ρ3, hmk, _, ⟨r, hr, rfl⟩, hs, hk, hI'⟩ := key h2 hne
   obtain ⟨g1, g2, g3, g4, g5⟩ := last (r' := { state := .done, pending := some .ret, fn := fid, tmps := a₁.tmps, params := ps, assign := as, body := body, defers := Db }) hr hs hk hI'
   exact ⟨_, _, run_endRound (some .ret) hr, _, g1, g2, g3, .inr (.inl ⟨rfl, k, i, x, .ret x', x', ρ3, S2, FG, .ret, rfl, hT, by rw [← hmk]; exact hro, rfl, rfl, g4, .inl hFl, g5⟩)⟩
  | pan d s2 =>
   cases e2 <;> try exact ho2.elim
   cases d with
   | ifc T τ d =>
    obtain ⟨u, ρ2, S2, F2, hch, h2, u0, hu, hRd⟩ := ho2
    obtain ⟨x', ρ3, hmk, hdef, ⟨r, hr, rfl⟩, hs, hk, hI'⟩ := key h2 hne
    subst hu
    refine ⟨hdef, fun b => F b ∨ (W.heap.size ≤ b ∧ b < w3.heap.size), ⟨fun b q => .inl q, fun b q => q.imp id fun q => q.1, fun b q => ?_⟩, hs, hk, .inr (.inr ⟨_, rfl, k, i, x, T, τ, d, x', u0, ρ3, S2, FG, rfl, hT, by rw [← hmk]; exact hro, hch, hI', hRd⟩)⟩
    rcases q with q | q
    ·exact Nat.lt_of_lt_of_le (hFb b q) hs.size
    ·exact q.2
   | _ => exact absurd rfl hne
end Go.Dm
namespace Go.Dm
open Go.RowKit
variable {P : Program} {N N' : Nat} {G : Gh} {S S' S2 : CS} {w w' w2 : World} {s s2 : St} {a a2 : Act} {ρ ρ' ρ2 : Rho} {F F' F2 : Nat → Prop} {heap heap' H' H2 : Nat → DObj} {Y : Value} {E : TCtx} {Γ : Ctx} {Fw : Fence} {r : Nat} {ops : Array Oper} {lo lo' base : Nat} {dfr : List Dfr} {vr vr' : Nat → Nat} {n : Nat} {fid : FuncId} {mps : List Pat} {e : Ty}
theorem DfrOk.marks_lt {n0 : Nat} : ∀ {ds : List Dfr} {dd : List Deferred}, DfrOk n0 w heap ρ F ds dd → ∀ D ∈ marksOf dd, D < w.heap.size
 | [], [], _ => by simp [marksOf]
 | .mark :: r, d :: ds, ⟨⟨D', h1, h2, h3, h4, h5⟩, h⟩ => by
  subst h1
  intro D hD
  have hD : D = D' ∨ D ∈ marksOf ds := by simpa [marksOf] using hD
  rcases hD with rfl | hD
  ·exact (Array.getElem?_eq_some_iff.1 h4).1
  ·exact h.marks_lt D hD
 | .clo f ids :: r, d :: ds, ⟨⟨us, h1, h2⟩, h⟩ => by
  subst h1
  intro D hD
  exact h.marks_lt D (by simpa [marksOf] using hD)
 | [], _ :: _, h => h.elim
 | .mark :: _, [], h => h.elim
 | .clo _ _ :: _, [], h => h.elim
theorem rangeF_ok (hE : Env P E Γ G Fence.wide) (hfree : G.Free) {fd : Func} (hfd : P.funcs[fid]? = some fd) {t : Tmp} {ps : Array Tmp} (hps : ps.toList.all (Nat.blt · N) = true) (hpl : ps.size = e.cells) (heL : e.isL = true)
  (hw : wfG lo' mps = true) (hdw : dfrWf (boxIds mps) dfr = true) {as body : Code} {la lb : List Loop}
  (hla : ∀ G' : Gh, G'.lo = lo' → G'.Ok P → G'.Free → ∀ l, LsOK P N G' fid (Fence.wide.inRound l) 0 as la) (hlb : ∀ G' : Gh, G'.lo = lo' → G'.Ok P → G'.Free → ∀ l, LsOK P N G' fid (Fence.wide.inRound l) 0 body lb) :
  LoopOK P N G fid Fence.wide 0 (.rangeFunc (.tmp t) ps as body) (rangeF G.lo dfr t e mps (stepR P E Γ G.lo lo' N ps.toList as body la lb e mps)) := by
 intro s a w ⟨ρ, S, F, h⟩ hfine
 unfold rangeF at hfine ⊢
 split at hfine
 case h_2 => exact (hfine .bad rfl).elim
 rename_i e' its x0 hd hs hx
 split at hfine
 case h_2 => exact (hfine .bad rfl).elim
 rename_i its' hcast
 obtain ⟨heq, hits⟩ := castTy_some hcast
 cases heq
 cases hits
 have hd := dfrEq_spec hd
 have hro : ∀ ro, (runAll (stepR P E Γ G.lo lo' N ps.toList as body la lb e mps) x0 (show Sl e.den from its).list).Has ro → ro ≠ .bad := fun ro hr e => by
  subst e
  exact hfine _ (Tree.has_map' (f := RO.out G.lo (.mark :: dfr)) hr)
 -- the iterator
 have hv := h.env t
 rw [hs] at hv
 obtain ⟨_, f, first, caps, hval, hcl, hit⟩ := hv
 have hval : a.eval (.tmp t) = .func (.func f) first caps := (List.cons.inj hval).1
 -- what lives
 have hw' := hw
 simp only [wfG, Bool.and_eq_true, Bool.not_eq_true'] at hw'
 obtain ⟨⟨⟨⟨⟨⟨w1', w2'⟩, w3'⟩, w4'⟩, w5'⟩, w6'⟩, w7'⟩ := hw'
 have h0 := wr_SR hE.gh h (vr := fun _ => 0) (t := .none) w1' (by rw [hd]; exact hdw) (.inr (hfree _ _ _)) hx
 -- the record
 let rec0 : Go.Loop := { state := .ready, pending := none, fn := fid, tmps := a.tmps, params := ps, assign := as, body := body, defers := w.heap.size }
 let W := (w.alloc (.deferred (some []))).alloc (.loop rec0)
 have e1 := ext_alloc h0.bd (.deferred (some []))
 have h1 := h0.grow hE.gh.c e1 (below_alloc w _)
 have e2 := ext_alloc h1.bd (.loop rec0)
 have h2 := h1.grow hE.gh.c e2 (below_alloc _ _)
 have hsz : W.heap.size = w.heap.size + 2 := by simp [W]
 have hD : W.heap[w.heap.size]? = some (.deferred (some [])) := by
  have q1 : (w.alloc (.deferred (some []))).heap[w.heap.size]? = some (.deferred (some [])) := heap_alloc_new w _
  exact ((below_alloc (w.alloc (.deferred (some []))) (.loop rec0)).block w.heap.size (by simp)).trans q1
 have hL : W.heap[w.heap.size + 1]? = some (.loop rec0) := by
  have q := heap_alloc_new (w.alloc (.deferred (some []))) (.loop rec0)
  have e : (w.alloc (.deferred (some []))).heap.size = w.heap.size + 1 := by simp
  rw [e] at q
  exact q
 have hmk := h0.dfr.marks_lt
 have h3 : SR P N G (wr G.lo .none (.mark :: dfr) mps x0) { a with defers := [{ target := .collected w.heap.size, args := #[] }] ++ a.defers } W (rho' G.pin s.heap ρ) S F := by
  refine ⟨h2.size, ⟨⟨w.heap.size, rfl, h.ext.size, fun q => absurd (h.fb _ q) (Nat.lt_irrefl _), hD, fun q => absurd (hmk _ q) (Nat.lt_irrefl _)⟩, ?_⟩, h2.env, h2.obj, h2.inj, h2.ext, h2.new, h2.same, h2.tr, h2.fb, h2.f0, h2.sub, h2.fs, h2.pins⟩
  rw [← hd]; exact h2.dfr
 have hex : Ext0 S w S W := e1.toExt0.trans e2.toExt0
 have hI : RInv P N G dfr mps { a with defers := [{ target := .collected w.heap.size, args := #[] }] ++ a.defers } S (w.heap.size + 1) x0 (fun b => b < W.heap.size) S W (rho' G.pin s.heap ρ) S F := by
  refine ⟨h3, fun b o q => .inl (h3.bd b o q), fun id b q1 => (h3.blkO q1).1, fun b q => h3.fb b q, fun b q => Nat.lt_of_lt_of_le q h3.ext.size, fun D q => ?_, fun b o q => q, fun b q => Nat.lt_succ_of_lt (h.fb b q)⟩
  have q : D = w.heap.size ∨ D ∈ marksOf a.defers := by simpa [marksOf] using q
  rcases q with rfl | q
  ·rw [hsz]; omega
  ·have := hmk D q; rw [hsz]; omega
 have hy := consR_yield (SI := S) (x0 := x0) (l := w.heap.size + 1) (Db := w.heap.size) (a₁ := { a with defers := [{ target := .collected w.heap.size, args := #[] }] ++ a.defers }) (items := (show Sl e.den from its).list) hE hfree hfd hps hpl heL hw hdw hla hlb
  (by have := h.ext.size; omega) hro
 have hcalls := hit S W hex (consR P N G dfr mps { a with defers := [{ target := .collected w.heap.size, args := #[] }] ++ a.defers } S (stepR P E Γ G.lo lo' N ps.toList as body la lb e mps) x0 (w.heap.size + 1) rec0) (consR_ok hE.gh)
  (fun b => b < W.heap.size) (w.heap.size + 1) ⟨x0, _, _, _, .nil, hI, by rw [hsz]; omega, hL⟩ (fun b => Iff.rfl) hy
 have hres : (resolve a.eval (rangeCall (.tmp t) (w.heap.size + 1)) 0).run P W = .ok { target := .fn (.func f) caps, args := first ++ #[.func (.yield (w.heap.size + 1)) #[] #[]] } W := by
  have em : Array.map a.eval #[Operand.const (Value.func (Fn.yield (w.heap.size + 1)) #[] #[])] = #[.func (.yield (w.heap.size + 1)) #[] #[]] := by simp [Act.eval]
  simp only [resolve, rangeCall, hval, Deferred.ofValue, Sem.run_pure, em]
 refine wpB_rangeFunc ⟨w.heap.size + 1, _, W, _, W, f, _, W, run_enterLoop_outer fid a.tmps ps as body, hres, fun _ _ => trivial, hcl _ _, fun q => (by cases q), (Wide.wide.calls hcalls).mono ?_⟩
 rintro en w3 ⟨F', S', hg, hk, hcase⟩
 have hszle : ∀ b, b < W.heap.size → F' b := fun b hb => hg.sub b hb
 rcases hcase with ⟨rfl, hJ | ⟨l', hl', hJ⟩⟩ | ⟨l', ch, hl', rfl, hJ⟩
 ·obtain ⟨x, ρ3, So, FG, hT, hI3, hFl, hr3⟩ := hJ
  refine ⟨_, _, run_endLoop hr3 (by simp [rec0]), ?_⟩
  have hh := runAll_track hT [] (.next x) rfl
  rw [List.append_nil] at hh
  exact ⟨_, Tree.has_map' (f := RO.out G.lo (.mark :: dfr)) hh, _, _, _, hI3.sr.poke hE.gh ⟨_, hr3⟩ (by have := h.ext.size; omega) (fun q => absurd (hI3.fl _ q) (Nat.lt_irrefl _))⟩
 ·obtain ⟨k0, i, x, o, x', ρ3, So, FG, c, rfl, hT, ho, hdat, hj, hI3, hFl, hr3⟩ := hJ
  refine ⟨_, _, run_endLoop hr3 (by simp), ?_⟩
  obtain ⟨rest, hrest⟩ := hl'
  rw [List.append_assoc] at hrest
  have hsr := hI3.sr.poke hE.gh (r' := { { rec0 with state := .done, pending := some c } with state := .exhausted }) ⟨_, hr3⟩ (by have := h.ext.size; omega) (fun q => absurd (hI3.fl _ q) (Nat.lt_irrefl _))
  cases o with
  | next _ => cases hj
  | pan _ _ _ _ => cases hj
  | bad => cases hj
  | brk id y =>
   cases hj; cases hdat
   have hh := runAll_ends hT ho trivial rest
   rw [show k0 ++ i :: rest = k0 ++ ([i] ++ rest) from rfl, hrest] at hh
   exact wpIn_exit ⟨_, Tree.has_map' (f := RO.out G.lo (.mark :: dfr)) hh, rfl, _, _, _, hsr⟩
  | ret y =>
   cases hj; cases hdat
   have hh := runAll_ends hT ho trivial rest
   rw [show k0 ++ i :: rest = k0 ++ ([i] ++ rest) from rfl, hrest] at hh
   exact wpIn_ret ⟨_, Tree.has_map' (f := RO.out G.lo (.mark :: dfr)) hh, _, _, _, hsr⟩
 ·obtain ⟨k0, i, x, T, τ, d, x', u0, ρ3, So, FG, rfl, hT, ho, rfl, hI3, hR⟩ := hJ
  obtain ⟨rest, hrest⟩ := hl'
  rw [List.append_assoc] at hrest
  have hh := runAll_ends hT ho trivial rest
  rw [show k0 ++ i :: rest = k0 ++ ([i] ++ rest) from rfl, hrest] at hh
  exact ⟨_, Tree.has_map' (f := RO.out G.lo (.mark :: dfr)) hh, _, ρ3, So, FG, rfl, hI3.sr, u0, rfl, hR⟩
end Go.Dm
namespace Go.Dm
open Go.RowKit
variable {P : Program} {N N' : Nat} {G : Gh} {S S' S2 : CS} {w w' w2 : World} {s s2 : St} {a a2 : Act} {ρ ρ' ρ2 : Rho} {F F' F2 : Nat → Prop} {heap heap' H' H2 : Nat → DObj} {Y : Value} {E : TCtx} {Γ : Ctx} {Fw : Fence} {r : Nat} {ops : Array Oper} {lo lo' base : Nat} {dfr : List Dfr} {vr vr' : Nat → Nat} {n : Nat} {fid : FuncId} {mps : List Pat} {e : Ty}
def wpSB (fid : FuncId) (F : Fence) (n : Nat) (P : Program) (c : Code) (Q : Exit → Act → List Frame → World → Prop) (a : Act) (cs : List Frame) (w : World) : Prop :=
 ∀ (b : Frame) (k : List Item), b.fn = fid → b.kind = .deferred → b.roundOf = none → F.fn b.fn → F.room (cs.length + 1 + n) →
  ∃ e a' cs' w', cs'.length = cs.length ∧ Q e a' cs' w' ∧ ArrivesIn (Machine.fenced P F) P (lone (b.atR a (.code c :: k)) cs w) b k cs' e a' w'
section
variable {Q : Exit → Act → List Frame → World → Prop} {cs : List Frame}
theorem wpSB_of_wpB {c : Code} (hro : Fw.round = none) (h : wpB fid Fw n P c (fun e a' w' => Q e a' cs w') a w) : wpSB fid Fw n P c Q a cs w :=
 fun b k hf _ hr hb hroom => let ⟨e, a', w', q, r⟩ := h b k cs hf (hr.trans hro.symm) hb hroom; ⟨e, a', cs, w', rfl, q, r⟩
theorem wpSB_of_wpSIn {c : Code} (h : c.wpSIn Fw n P Q a cs w) : wpSB fid Fw n P c Q a cs w := fun b k _ => h b k
theorem wpSB_seq {x y : Code} (h : wpSB fid Fw n P x (Exit.thenS (wpSB fid Fw n P y Q) Q) a cs w) : wpSB fid Fw n P (.seq x y) Q a cs w := by
 intro b k hf hb hr hF hroom
 have i0 : (lone (b.atR a (.code (.seq x y) :: k)) cs w).fenced P Fw := fenced_calm hF hroom rfl
 obtain ⟨e, a₁, cs₁, w₁, hl, hq, harr⟩ := h b (.code y :: k) hf hb hr hF hroom
 cases e with
 | normal =>
  obtain ⟨e₂, a₂, cs₂, w₂, hl₂, hq₂, harr₂⟩ := hq b k hf hb hr hF (hl ▸ hroom)
  exact ⟨e₂, a₂, cs₂, w₂, hl₂.trans hl, hq₂, .of_steps (.head i0 stepR_seq harr) harr₂⟩
 | exit id => exact ⟨_, a₁, cs₁, w₁, hl, hq, .of_steps (.one i0 stepR_seq) (.pass (x := .code y) rfl (fun _ _ => .inl (by simp)) harr)⟩
 | goto l => exact ⟨_, a₁, cs₁, w₁, hl, hq, .of_steps (.one i0 stepR_seq) (.pass (x := .code y) rfl (fun _ _ => .inl (by simp)) harr)⟩
 | ret => exact ⟨_, a₁, cs₁, w₁, hl, hq, .of_steps (.one i0 stepR_seq) (.pass (x := .code y) rfl (fun _ _ => .inl (by simp)) harr)⟩
 | panic ch => exact ⟨_, a₁, cs₁, w₁, hl, hq, .of_steps (.one i0 stepR_seq) (.pass (x := .code y) rfl (fun _ _ => .inl (by simp)) harr)⟩
 | outgrown => exact ⟨_, a₁, cs₁, w₁, hl, hq, .of_steps (.one i0 stepR_seq) (.pass (x := .code y) rfl (fun _ _ => .inl (by simp)) harr)⟩
theorem callsDIn_of_wpSB {fn : Func} {c : Code} {args : Array Value} {u : FrameMode} {w : World} {R : Ending → FrameMode → World → Prop}
    (hf : P.funcs[fid]? = some fn) (hb : fn.body = some c) (hF : Fw.fn fid)
    (h : ∀ (c₀ : Frame) (cs : List Frame), c₀.mode = u →
      wpSB fid Fw n P c (bodyPostS P fn c₀ cs R) { tmps := args ++ Array.replicate (fn.ntmps - args.size) undef, defers := [] } (c₀ :: cs) w) :
    CallsDIn Fw n P fid args u w R := by
  refine ⟨hF, fun c₀ cs hu hroom => ?_⟩
  let b : Frame := { (default : Frame) with fn := fid, kind := .deferred, roundOf := none }
  have henter : Frame.enter P fid args .deferred =
      b.atR { tmps := args ++ Array.replicate (fn.ntmps - args.size) undef, defers := [] } [.code c] := by
    simp [Frame.enter, Frame.atR, hf, hb, b]
  obtain ⟨e, a', cs', w', hl, hq, harr⟩ := h c₀ cs hu b [] rfl rfl rfl hF hroom
  rw [← henter] at harr
  cases e with
  | normal =>
    obtain ⟨hd, u', rfl, v, hr, hR⟩ := hq
    exact ⟨.returned v, u', w', _, hR, StepsIn.trans harr (.one (fenced_calm (fr := b.atR a' []) hF hroom rfl) (stepR_end rfl)), rfl, rfl, rfl, hd, fn, hf, hr⟩
  | ret =>
    obtain ⟨hd, u', rfl, v, hr, hR⟩ := hq
    obtain ⟨todo, hs⟩ := harr.1 rfl
    exact ⟨.returned v, u', w', _, hR, hs, rfl, rfl, rfl, hd, fn, hf, hr⟩
  | panic chain =>
    obtain ⟨hd, u', rfl, hR⟩ := hq
    obtain ⟨todo, hs⟩ := harr
    exact ⟨.panicked chain, u', w', _, hR, hs, rfl, rfl, rfl, hd, fn, hf⟩
  | exit id => exact hq.elim
  | goto l => exact hq.elim
  | outgrown =>
    obtain ⟨u', hR⟩ := hq
    exact ⟨.outgrown, u', w', b, hR, harr.resolve_left (by simp [b]), rfl, rfl, trivial⟩
end
inductive Md where
 | ret
 | pan (T : TypeId) (τ : Ty) (d : τ.den)
def Md.dc : Md → DC
 | .ret => .nilif
 | .pan T τ d => .ifc T τ d
def ModeOk (P : Program) (S : CS) (w : World) : Md → FrameMode → Prop
 | .ret, u => u = .returning
 | .pan T τ d, u => ∃ u0, u = .panicking [{ v := .iface T u0, recovered := false }] ∧ R P τ S w d [u0]
def outD (lo : Nat) (ps : List Pat) (x : (patsTy ps).den) : Out → Tree (Option (patsTy (objPats ps)).den)
 | .ret s | .norm s => match s.dfr, rd lo s (objPats ps) with
  | [], some y => match rowsSame ps x y with
   | true => .leaf (some y)
   | false => .leaf none
  | _, _ => .leaf none
 | _ => .leaf none
def runD (P : Program) (E : TCtx) (Γ : Ctx) (N : Nat) (rest : Code) (ls : List Loop) (lo : Nat) (ps : List Pat) (t : Nat) (m : Md) (x : (patsTy ps).den) : Option (patsTy (objPats ps)).den :=
 (execK P E Γ lo N .any rest ls { wr lo .none [] ps x with env := setEnv (wr lo .none [] ps x).env t (.v m.dc) } (outD lo ps x)).sure
abbrev DApp := List Nat → Md → (Nat → DObj) → Option (List (Nat × DObj))
def dapp (n : Nat) (ps : List Pat) (run : Md → (patsTy ps).den → Option (patsTy (objPats ps)).den) : DApp := fun ids m heap =>
 match Nat.ble ids.length n, rd 0 ⟨fun t => (ids.map fun i => Slot.v (.ptr i 0)).getD t .top, heap, .none, 0, []⟩ ps with
 | true, some x => (run m x).map fun y => objs (verOf heap) (objPats ps) y
 | _, _ => none
def DHolds (P : Program) (f : FuncId) (app : DApp) : Prop :=
 ∀ (N : Nat) (G : Gh) (s : St) (a : Act) (w : World) (ρ : Rho) (S : CS) (F : Nat → Prop), G.Ok P → G.lo = 0 → SR P N G s a w ρ S F →
  ∀ (ids : List Nat) (us : List Value) (m : Md) (u : FrameMode) (wh : List (Nat × DObj)), PtrsOk s.heap ρ ids us → ModeOk P S w m u → app ids m s.heap = some wh →
   CallsDIn Fence.wide 0 P f us.toArray u w fun e u' w' => (∃ v, e = .returned v) ∧ settle u' = .returning ∧ ∃ ρ' S', SR P N G { s with heap := putH s.heap wh } a w' ρ' S' F
theorem PtrsOk.len : ∀ {ids : List Nat} {us : List Value}, PtrsOk heap ρ ids us → ids.length = us.length
 | [], [], _ => rfl
 | _ :: _, _ :: _, h => by simp [PtrsOk.len h.2]
 | [], _ :: _, h => h.elim
 | _ :: _, [], h => h.elim
theorem PtrsOk.get : ∀ {ids : List Nat} {us : List Value}, PtrsOk heap ρ ids us → ∀ t, RS P Y S w heap ρ ((ids.map fun i => Slot.v (.ptr i 0)).getD t .top) (us.getD t undef)
 | [], [], _, t => trivial
 | _ :: _, _ :: _, h, 0 => h.1
 | _ :: _, _ :: _, h, t + 1 => by simpa using PtrsOk.get h.2 t
 | [], _ :: _, h, _ => h.elim
 | _ :: _, [], h, _ => h.elim
theorem dholds_of_run (hm : P.follows .mixedOrders = true) (hΓ : Sound P Γ) (hE : EqSound P E.eq) (hK : KeySound P E.key) {f : FuncId} {fn : Func} (hf : P.funcs[f]? = some fn) {rid : Nat} {o : Oper} {rest : Code} (hb : fn.body = some (.seq (.region rid #[o] false) rest))
  {c : Call} (hop : o.op = .call c) (hcal : c.callee = .builtin .recover) (hcargs : c.args = #[]) (hg : o.guard = none) {t : Nat} (hdst : o.dst = some t) (ht : Nat.blt t fn.ntmps = true) (hres : fn.results = #[])
  {ls : List Loop} {ps : List Pat} (hw : wfG lo ps = true) (hl : ∀ G' : Gh, G'.lo = lo → G'.Free → G'.Ok P → LsOK P fn.ntmps G' f Fence.wide 0 rest ls) :
  DHolds P f (dapp fn.ntmps ps (runD P E Γ fn.ntmps rest ls lo ps t)) := by
 intro N G s a w ρ S F hG hG0 h ids us m u wh hus hmode happ
 unfold dapp at happ
 split at happ
 case h_2 => cases happ
 rename_i x hlen hx
 have hlen := Nat.le_of_ble_eq_true hlen
 rw [Option.map_eq_some_iff] at happ
 obtain ⟨y, hy, rfl⟩ := happ
 have hx : rd G.lo ⟨fun t => (ids.map fun i => Slot.v (.ptr i 0)).getD t .top, s.heap, s.tr, 0, []⟩ ps = some x := by
  have hw' := hw
  simp only [wfG, Bool.and_eq_true, Bool.not_eq_true'] at hw'
  rw [hG0, ← hx]
  have : ∀ qs : List Pat, hasTr qs = false → rd 0 ⟨fun t => (ids.map fun i => Slot.v (.ptr i 0)).getD t .top, s.heap, s.tr, 0, []⟩ qs = rd 0 ⟨fun t => (ids.map fun i => Slot.v (.ptr i 0)).getD t .top, s.heap, .none, 0, []⟩ qs := by
   intro qs
   induction qs with
   | nil => intro _; rfl
   | cons q qs ih =>
    intro hq
    cases q with
    | tr e => cases hq
    | _ => simp only [rd, ih hq]; rfl
  exact this ps hw'.1.1.2
 have hw' := hw
 simp only [wfG, Bool.and_eq_true, Bool.not_eq_true'] at hw
 obtain ⟨⟨⟨⟨⟨⟨w1, w2⟩, w3⟩, w4⟩, w5⟩, w6⟩, w7⟩ := hw
 have hul : us.length ≤ fn.ntmps := by rw [← hus.len]; omega
 have hv : SR P fn.ntmps G ⟨fun t => (ids.map fun i => Slot.v (.ptr i 0)).getD t .top, s.heap, s.tr, 0, []⟩ (actOf fn.ntmps us) w ρ S F := by
  refine ⟨actOf_size hul, trivial, fun t => ?_, h.obj, h.inj, h.ext, h.new, h.same, h.tr, h.fb, h.f0, h.sub, h.fs, h.pins⟩
  rw [actOf_get]
  exact hus.get t
 have h1 := wr_SR hG hv (vr := fun _ => 0) (t := s.tr) w1 rfl (.inr h.tr) hx
 have h2 : SR P fn.ntmps (G.callee S w s.heap ρ lo ps x) (wr lo .none [] ps x) (actOf fn.ntmps us) w (rho' G.pin s.heap ρ) S (fun _ => False) :=
  (h1.enter (lo := lo) (l := G.l) rfl).of_eq rfl rfl (wrTr_no w5) rfl
 have hGc : (G.callee S w s.heap ρ lo ps x).Ok P := callee_ok hw'
 have hEnv : Env P E Γ (G.callee S w s.heap ρ lo ps x) Fence.wide := ⟨hm, hΓ, hE, hK, hGc, .wide, fun _ => rfl⟩
 -- the value of 'recover', and the frame's mode then
 have hrec : ∃ v u', RC P G.Y S w (findO (objs (fun _ => 0) ps x)) (rho' G.pin s.heap ρ) m.dc v ∧ settle u' = .returning ∧
   ∀ (c₀ : Frame) (cs : List Frame), c₀.mode = u → (recoverD (c₀ :: cs) = some (v, { c₀ with mode := u' } :: cs)) ∨ (recoverD (c₀ :: cs) = none ∧ v = .nilIface ∧ u' = c₀.mode) := by
  cases m with
  | ret =>
   have hu : u = .returning := hmode
   subst hu
   exact ⟨.nilIface, .returning, rfl, rfl, fun c₀ cs hc => .inr ⟨by simp [recoverD, hc], rfl, hc.symm⟩⟩
  | pan T τ d =>
   obtain ⟨u0, rfl, hR⟩ := hmode
   refine ⟨.iface T u0, .panicking [{ v := .iface T u0, recovered := true }], ⟨u0, rfl, hR⟩, rfl, fun c₀ cs hc => .inl ?_⟩
   simp [recoverD, hc]
 obtain ⟨v, u', hvr, hset, hrecD⟩ := hrec
 refine callsDIn_of_wpSB hf hb trivial fun c₀ cs hc => wpSB_seq (wpSB_of_wpSIn (wpSIn_region ?_))
 have hrun : ∀ a : Act, (execOp a.eval o).run P w = .ok .recover w := fun a => by
  simp [execOp, hop, resolve, hcal, hcargs, invoke]
  rfl
 have hwant : ∀ a : Act, Region.wanted o (yielded #[o] a.tmps) = true := fun a => by simp [Region.wanted, hg]
 have hrest : ∀ cs', cs' = { c₀ with mode := u' } :: cs → wpSB f Fence.wide 0 P rest (bodyPostS P fn c₀ cs fun e u' w' => (∃ v, e = .returned v) ∧ settle u' = .returning ∧ ∃ ρ' S', SR P N G { s with heap := putH s.heap (objs (verOf s.heap) (objPats ps) y) } a w' ρ' S' F)
   ((actOf fn.ntmps us).put o.dst v) cs' w := by
  intro cs' hcs
  subst hcs
  refine wpSB_of_wpB rfl ?_
  have hsure := Tree.sure_all hy
  have h3 : SR P fn.ntmps (G.callee S w s.heap ρ lo ps x) { wr lo .none [] ps x with env := setEnv (wr lo .none [] ps x).env t (.v m.dc) } ((actOf fn.ntmps us).put o.dst v) w (rho' G.pin s.heap ρ) S (fun _ => False) := by
   have := h2.put (dst := o.dst) (sl := .v m.dc) (v := v) (by rw [hdst]; simpa using ht) hvr
   rw [hdst] at this ⊢
   exact this
  refine wpB_mono (exec_sound (G := G.callee S w s.heap ρ lo ps x) (K := outD lo ps x) (ch := Tree.any) (T := fun t : Tree (Option (patsTy (objPats ps)).den) => t.All (· = some y)) hEnv (fun a b q => q)
   ⟨(fun q => by cases (show none = some _ from q)), (fun s' q => by cases (show none = some _ from q))⟩ hsure (hl _ rfl inner_free hGc) ⟨_, _, _, h3⟩) ?_
  rintro e a' w' ⟨o', ho, hT⟩
  have fin : ∀ s', SX P fn.ntmps (G.callee S w s.heap ρ lo ps x) s' a' w' → (outD lo ps x (.ret s')).All (· = some y) → bodyPostS P fn c₀ cs (fun e u' w' => (∃ v, e = .returned v) ∧ settle u' = .returning ∧ ∃ ρ' S', SR P N G { s with heap := putH s.heap (objs (verOf s.heap) (objPats ps) y) } a w' ρ' S' F) .ret a' ({ c₀ with mode := u' } :: cs) w' := by
   rintro s' ⟨ρ', S', F', q⟩ hT
   simp only [outD] at hT
   split at hT
   case h_2 => cases (show none = some _ from hT)
   rename_i y' hd hrd
   split at hT
   case h_2 => cases (show none = some _ from hT)
   rename_i hsm
   have hT : some y' = some y := hT
   cases hT
   have hdd : a'.defers = [] := by
    have := q.dfr
    rw [hd] at this
    cases hx : a'.defers with
    | nil => rfl
    | cons d ds => rw [hx] at this; exact this.elim
   obtain ⟨us', r1, _⟩ := results_run (fn := fn) (τ := .nil) (y := ()) q (by rw [hres]; rfl)
   obtain ⟨ρ'', hb⟩ := back_objs hG h hw' hv rfl hx q hd hrd hsm
   exact ⟨hdd, u', rfl, _, r1, ⟨_, rfl⟩, hset, ρ'', S', hb⟩
  cases o' with
  | norm s' => cases e <;> first | exact ho.elim | exact fin s' ho hT
  | ret s' => cases e <;> first | exact ho.elim | exact fin s' ho hT
  | exit id s' => cases (show none = some _ from hT)
  | bad => cases (show none = some _ from hT)
  | pan d s' => cases (show none = some _ from hT)
 show wpOpsSIn Fence.wide 0 P #[o] _ [0] (actOf fn.ntmps us) _ _
 generalize hac : actOf fn.ntmps us = ac at hrest ⊢
 simp only [wpOpsSIn, List.getElem?_toArray, List.getElem?_cons_zero]
 refine ⟨fun _ _ => trivial, ?_⟩
 rw [if_pos (hwant ac)]
 simp only [hrun]
 rcases hrecD c₀ cs hc with q | ⟨q, hv', hu'⟩
 ·simp only [q]
  exact hrest _ rfl
 ·simp only [q]
  rw [← hv']
  refine hrest _ ?_
  rw [hu']
end Go.Dm
namespace Go.Dm
open Go.RowKit
variable {P : Program} {N N' : Nat} {G : Gh} {S S' S2 : CS} {w w' w2 : World} {s s' s2 : St} {a a2 : Act} {ρ ρ' ρ2 : Rho} {F F' F2 : Nat → Prop} {heap heap' H' H2 : Nat → DObj} {Y : Value} {E : TCtx} {Γ : Ctx} {Fw : Fence} {r : Nat} {ops : Array Oper} {lo lo' base : Nat} {dfr : List Dfr} {vr vr' : Nat → Nat} {n : Nat} {fid : FuncId} {mps : List Pat} {e : Ty}
abbrev DCtx := FuncId → Option DApp
def DSound (P : Program) (Δ : DCtx) : Prop := ∀ f app, Δ f = some app → Callable P f ∧ DHolds P f app
def leaveD (Δ : DCtx) : List Dfr → Md → St → Option St
 | [], .ret, s => some { s with dfr := [] }
 | [], .pan _ _ _, _ => none
 | .mark :: r, m, s => leaveD Δ r m s
 | .clo f ids :: r, m, s => match Δ f with
  | some app => match app ids m s.heap with
   | some wh => leaveD Δ r .ret { s with heap := putH s.heap wh }
   | none => none
  | none => none
theorem ModeOk.mono {m : Md} {u : FrameMode} (h : ModeOk P S w m u) (ex : Ext0 S w S' w') : ModeOk P S' w' m u := by
 cases m with
 | ret => exact h
 | pan T τ d => obtain ⟨u0, h1, h2⟩ := h; exact ⟨u0, h1, h2.mono ex⟩
theorem ModeOk.ne {m : Md} {u : FrameMode} (h : ModeOk P S w m u) : u ≠ .run := by
 cases m with
 | ret => rw [show u = _ from h]; simp
 | pan T τ d => obtain ⟨u0, h1, _⟩ := h; rw [h1]; simp
theorem leaves_all (hG : G.Ok P) (hG0 : G.lo = 0) {Δ : DCtx} (hΔ : DSound P Δ) {fn : Func} {K : Ending → World → Prop} : ∀ (r : List Dfr) {m : Md} {u : FrameMode} {s s' : St} {a : Act} {w : World} {ρ : Rho} {S : CS}, s.dfr = r → SR P N G s a w ρ S F → ModeOk P S w m u → leaveD Δ r m s = some s' →
  (∀ w' ρ' S', SR P N G s' { a with defers := [] } w' ρ' S' F → LeavesInM Fence.wide 0 P fn a.tmps K [] .returning w') → LeavesInM Fence.wide 0 P fn a.tmps K a.defers u w
 | [], m, u, s, s', a, w, ρ, S, hr, h, hm, hl, hK => by
  have hd := h.dfr
  rw [hr] at hd
  cases hdd : a.defers with
  | cons d ds => rw [hdd] at hd; exact hd.elim
  | nil =>
   cases m with
   | pan T τ d => cases hl
   | ret =>
    cases hl
    rw [show u = .returning from hm]
    refine hK w ρ S ?_
    have : ({ a with defers := [] } : Act) = a := by cases a; simp only at hdd; subst hdd; rfl
    rw [this]
    exact h.of_eq rfl rfl rfl hr.symm
 | .mark :: r, m, u, s, s', a, w, ρ, S, hr, h, hm, hl, hK => by
  have hd := h.dfr
  rw [hr] at hd
  cases hdd : a.defers with
  | nil => rw [hdd] at hd; exact hd.elim
  | cons d ds =>
   rw [hdd] at hd
   obtain ⟨⟨D, rfl, h2, h3, h4, h5⟩, hrest⟩ := hd
   have ht := h.take hG h2 h3 h4 (hrest.put h5)
   refine ⟨hm.ne, .inl ⟨D, _, rfl, run_takeDeferred h4, ?_⟩⟩
   have hlt := (Array.getElem?_eq_some_iff.1 h4).1
   have hsz : (w.putObj D (.deferred none)).heap.size = w.heap.size := by simp [World.putObj]
   have ex : Ext0 S w S (w.putObj D (.deferred none)) := by
    refine ⟨by omega, fun _ _ q => q, fun b o _ => ?_, fun b o es c _ q => (World.putObj_heap_other fun e => by rw [e, h4] at q; cases q).trans q, fun b o q => by rw [hsz]; exact h.bd b o q, .putObj hlt (fun _ _ _ => by simp)⟩
    by_cases hb : b = D
    ·subst hb
     have h2 : (w.putObj b (.deferred none)).heap[b]? = some (.deferred none) := World.putObj_heap_same hlt
     simp [World.cell?, h2, h4]
    ·exact World.cell?_of_block (a := ⟨b, o, none⟩) (World.putObj_heap_other hb)
   have hdi : ∀ (r : List Dfr) (m : Md) (s : St) (d : List Dfr), leaveD Δ r m { s with dfr := d } = leaveD Δ r m s := by
    intro r
    induction r with
    | nil => intro m s d; cases m <;> rfl
    | cons x r ih =>
     intro m s d
     cases x with
     | mark => exact ih m s d
     | clo f ids =>
      simp only [leaveD]
      cases Δ f with
      | none => rfl
      | some app =>
       simp only
       cases app ids m s.heap with
       | none => rfl
       | some wh => exact ih .ret { s with heap := putH s.heap wh } d
   exact leaves_all hG hG0 hΔ r (s := { s with dfr := r }) (a := { a with defers := ds }) rfl ht (hm.mono ex) ((hdi r m s r).trans hl) hK
 | .clo f ids :: r, m, u, s, s', a, w, ρ, S, hr, h, hm, hl, hK => by
  have hd := h.dfr
  rw [hr] at hd
  cases hdd : a.defers with
  | nil => rw [hdd] at hd; exact hd.elim
  | cons d ds =>
   rw [hdd] at hd
   obtain ⟨⟨us, rfl, hus⟩, hrest⟩ := hd
   simp only [leaveD] at hl
   split at hl
   case h_2 => cases hl
   rename_i app happ
   split at hl
   case h_2 => cases hl
   rename_i wh hwh
   obtain ⟨hcl, hdh⟩ := hΔ f app happ
   have hinv : (invoke (.fn (.func f) us.toArray) #[]).run P w = .ok (.enter f us.toArray) w := by
    have := hcl us.toArray w
    simpa [invoke] using this
   refine ⟨hm.ne, .inr ⟨fun q => (by cases q), .func f, us.toArray, f, us.toArray, rfl, hinv, fun _ _ => trivial, ?_⟩⟩
   refine (hdh N G s a w ρ S F hG hG0 h ids us m u wh hus hm hwh).mono ?_
   rintro en u' w1 ⟨⟨v, rfl⟩, hset, ρ1, S1, h1⟩
   show LeavesInM Fence.wide 0 P fn a.tmps K ds (settle u') w1
   have hd1 := h1.dfr
   have hd1 : DfrOk G.w0.heap.size w1 (putH s.heap wh) ρ1 F s.dfr a.defers := hd1
   rw [hr, hdd] at hd1
   have h2 : SR P N G { s with heap := putH s.heap wh, dfr := r } { a with defers := ds } w1 ρ1 S1 F :=
    ⟨h1.size, hd1.2, h1.env, h1.obj, h1.inj, h1.ext, h1.new, h1.same, h1.tr, h1.fb, h1.f0, h1.sub, h1.fs, h1.pins⟩
   have hdi : ∀ (r : List Dfr) (m : Md) (s : St) (d : List Dfr), leaveD Δ r m { s with dfr := d } = leaveD Δ r m s := by
    intro r
    induction r with
    | nil => intro m s d; cases m <;> rfl
    | cons x r ih =>
     intro m s d
     cases x with
     | mark => exact ih m s d
     | clo f ids =>
      simp only [leaveD]
      cases Δ f with
      | none => rfl
      | some app =>
       simp only
       cases app ids m s.heap with
       | none => rfl
       | some wh => exact ih .ret { s with heap := putH s.heap wh } d
   exact leaves_all hG hG0 hΔ r (m := .ret) (s := { s with heap := putH s.heap wh, dfr := r }) (a := { a with defers := ds }) rfl h2 hset ((hdi r .ret { s with heap := putH s.heap wh } r).trans hl) hK
def retD (P : Program) (Δ : DCtx) (fn : Func) (τ : Ty) (m : Md) (s : St) : Option τ.den :=
 match leaveD Δ s.dfr m s with
 | some s' => rdRet P fn.results.toList τ (finSt fn s')
 | none => none
def outRetD (P : Program) (Δ : DCtx) (fn : Func) (τ : Ty) : Out → Tree (Option τ.den)
 | .ret s | .norm s => .leaf (retD P Δ fn τ .ret s)
 | .pan (.ifc T σ d) s => .leaf (retD P Δ fn τ (.pan T σ d) s)
 | _ => .leaf none
def runFnD (P : Program) (E : TCtx) (Γ : Ctx) (Δ : DCtx) (fn : Func) (ls : List Loop) (τa τr : Ty) (x : τa.den) : Tree (Option τr.den) :=
 match fn.body with
 | some c => execK P E Γ 0 fn.ntmps .any c ls (initSt τa x) (outRetD P Δ fn τr)
 | none => .leaf none
theorem holds_of_runD (hm : P.follows .mixedOrders = true) (hΓ : Sound P Γ) {Δ : DCtx} (hΔ : DSound P Δ) (hE : EqSound P E.eq) (hK : KeySound P E.key) {f : FuncId} {fn : Func} {c : Code} (hf : P.funcs[f]? = some fn) (hb : fn.body = some c) {ls : List Loop}
  (hl : ∀ S w, LsOK P fn.ntmps (Gh.start S w) f Fence.wide 0 c ls)
  (con : Con) (hn : con.args.cells ≤ fn.ntmps) (h : ∀ x, con.pre x = true → (runFnD P E Γ Δ fn ls con.args con.res x).All (· = some (con.fn x))) : Holds P f con := by
 intro S w hbd x vs hp hr
 have hx := h x hp
 unfold runFnD at hx
 rw [hb] at hx
 refine (callsIn_wide (n := 0)).1 (callsIn_of_wpB hf hb trivial ?_)
 have hi := init_SR (N := fn.ntmps) hbd hr (by rw [hr.len]; exact hn)
 have hEnv : Env P E Γ (Gh.start S w) Fence.wide := ⟨hm, hΓ, hE, hK, start_ok, .wide, fun _ => rfl⟩
 refine wpB_mono (exec_sound (G := Gh.start S w) (K := outRetD P Δ fn con.res) (ch := Tree.any) (T := fun t : Tree (Option con.res.den) => t.All (· = some (con.fn x))) hEnv (fun a b q => q) ⟨(fun q => by cases (show none = some _ from q)), (fun s' q => by cases (show none = some _ from q))⟩ hx (hl S w) ⟨_, _, _, hi⟩) ?_
 rintro e a' w' ⟨o, ho, hT⟩
 have fin : ∀ (s : St) (m : Md) (u : FrameMode) (ρ : Rho) (S' : CS) (F : Nat → Prop), SR P fn.ntmps (Gh.start S w) s a' w' ρ S' F → ModeOk P S' w' m u → retD P Δ fn con.res m s = some (con.fn x) →
   LeavesInM Fence.wide 0 P fn a'.tmps (fun e w' => ∃ S' rs, e = .returned (pack rs) ∧ R P con.res S' w' (con.fn x) rs ∧ Ext S w S' w' ∧ Below w.heap.size w w') a'.defers u w' := by
  intro s m u ρ S' F hs hmode hret
  unfold retD at hret
  split at hret
  case h_2 => cases hret
  rename_i s1 hl1
  refine leaves_all start_ok rfl hΔ _ rfl hs hmode hl1 fun w'' ρ' S'' q1 => ?_
  obtain ⟨ρ2, S2, F2, q2⟩ := SX.frzRows start_ok (resTmps fn.results.toList) ⟨ρ', S'', F, q1⟩
  obtain ⟨us, r1, r2⟩ := results_run (fn := fn) (τ := con.res) (y := con.fn x) q2 hret
  obtain ⟨e1, e2⟩ := q2.pure_end (M := fun _ => False)
  exact ⟨_, r1, S2, us, rfl, r2, e1, e2⟩
 cases o with
 | norm s => cases e <;> first | exact ho.elim | exact (let ⟨ρ, S', F, q⟩ := ho; fin s .ret .returning ρ S' F q rfl hT)
 | ret s => cases e <;> first | exact ho.elim | exact (let ⟨ρ, S', F, q⟩ := ho; fin s .ret .returning ρ S' F q rfl hT)
 | exit id s => cases (show none = some _ from hT)
 | bad => cases (show none = some _ from hT)
 | pan d s =>
  cases e <;> try exact ho.elim
  cases d with
  | ifc T τ d =>
   obtain ⟨u, ρ, S', F, hch, q, u0, hu, hR⟩ := ho
   subst hch hu
   exact fin s (.pan T τ d) _ ρ S' F q ⟨u0, rfl, hR⟩ hT
  | _ => cases (show none = some _ from hT)
end Go.Dm
namespace Go.Dm
open Go.RowKit
variable {P : Program} {N N' : Nat} {G : Gh} {S S' S2 : CS} {w w' w2 : World} {s s' s2 : St} {a a2 : Act} {ρ ρ' ρ2 : Rho} {F F' F2 : Nat → Prop} {heap heap' H' H2 : Nat → DObj} {Y : Value} {E : TCtx} {Γ : Ctx} {Fw : Fence} {r : Nat} {ops : Array Oper} {lo lo' base : Nat} {dfr : List Dfr} {vr vr' : Nat → Nat} {n : Nat} {fid : FuncId} {mps : List Pat} {e : Ty}
structure FR where
 T : TypeId
 e : Ty
 s : Sl e.den
theorem init_SRl {τ : Ty} {x : τ.den} {vs : List Value} {l : Nat} (hb : Bd S w) (hr : R P τ S w x vs) (hn : vs.length ≤ N) :
  SR P N (Gh.inner (fun _ => False) S w l 0 fun _ => none) (initSt τ x) (actOf N vs) w (fun _ => none) S (fun _ => False) := by
 refine ⟨actOf_size hn, trivial, fun t => ?_, fun id => trivial, fun i j b hi => hi.elim, .refl hb, fun _ _ q => .inl q, .refl _ _, inner_free _ _ _, fun _ q => q.elim, fun _ _ q => q, fun _ q => q, fun _ _ _ _ => trivial, fun _ _ q => by cases q⟩
 rw [actOf_get]
 exact argSlots_RS hr t
end Go.Dm
namespace Go.Dm
open Go.RowKit
variable {P : Program} {N : Nat} {G : Gh} {Fw : Fence} {r : Nat} {fid : FuncId}
theorem LsOK_nil : ∀ {c : Code}, LsOK P N G fid Fw r c []
 | .seq a b => ⟨by simpa using LsOK_nil (c := a), by simpa using LsOK_nil (c := b)⟩
 | .cond _ a b => ⟨by simpa using LsOK_nil (c := a), by simpa using LsOK_nil (c := b)⟩
 | .block _ b => LsOK_nil (c := b)
 | .scope b => LsOK_nil (c := b)
 | .loop b => trivial
 | .rangeFunc _ _ _ _ => trivial
 | .skip => trivial
 | .region _ _ _ => trivial
 | .exit _ => trivial
 | .ret => trivial
 | .label _ => trivial
 | .goto _ => trivial
 | .refuse _ => trivial
end Go.Dm
namespace Go.Dm
open Go.RowKit
variable {P : Program} {N : Nat} {G : Gh} {S S' : CS} {w w' : World} {s : St} {a : Act} {ρ ρ' : Rho} {F F' : Nat → Prop} {E : TCtx} {Γ : Ctx} {Fw : Fence} {r : Nat} {dfr : List Dfr} {fid : FuncId}
@[reducible] def wayP (wy : Ways) (id : Nat) : List Pat := (lookupP wy.exits id).getD []
inductive LQ (wy : Ways) where
 | exit (id : Nat) (y : (patsTy (wayP wy id)).den)
 | ret (y : (patsTy wy.ret).den)
 | pan (T : TypeId) (τ : Ty) (x : τ.den) (y : (patsTy wy.pan).den)
 | bad
inductive RQ (ps : List Pat) (wy : Ways) where
 | next (x : (patsTy ps).den)
 | out (q : LQ wy)
 | bad
namespace LQ
variable {wy : Ways}
def isExit (q : LQ wy) (id : Nat) : Bool := match q with
 | .exit id' _ => Nat.beq id' id
 | _ => false
def getExit (q : LQ wy) (id : Nat) : (patsTy (wayP wy id)).den := match q with
 | .exit id' y => match Nat.decEq id' id with
  | isTrue h => h ▸ y
  | isFalse _ => (patsTy (wayP wy id)).dflt
 | _ => (patsTy (wayP wy id)).dflt
def isRet (q : LQ wy) : Bool := match q with
 | .ret _ => true
 | _ => false
def getRet (q : LQ wy) : (patsTy wy.ret).den := match q with
 | .ret y => y
 | _ => (patsTy wy.ret).dflt
def isPan (q : LQ wy) (T : TypeId) (τ : Ty) : Bool := match q with
 | .pan T' τ' _ _ => Nat.beq T' T && decide (τ' = τ)
 | _ => false
def getPan (q : LQ wy) (τ : Ty) : τ.den := match q with
 | .pan _ τ' x _ => (castTy τ x).getD τ.dflt
 | _ => τ.dflt
def getPanY (q : LQ wy) : (patsTy wy.pan).den := match q with
 | .pan _ _ _ y => y
 | _ => (patsTy wy.pan).dflt
@[simp] theorem isExit_exit (id id' : Nat) (y) : (exit (wy := wy) id y).isExit id' = Nat.beq id id' := rfl
@[simp] theorem getExit_exit (id : Nat) (y) : (exit (wy := wy) id y).getExit id = y := by
 simp only [getExit]
 cases Nat.decEq id id with
 | isTrue h => rfl
 | isFalse h => exact absurd rfl h
end LQ
def pcSlots : List Pat → List Nat
 | [] => []
 | .slot t (.pc (.sl _)) :: ps => t :: pcSlots ps
 | .slot t (.pc (.map _ _)) :: ps => t :: pcSlots ps
 | _ :: ps => pcSlots ps
def rdQ (lo : Nat) (dfr : List Dfr) (ps : List Pat) (wy : Ways) : Out → RQ ps wy
 | .norm s => match dfrEq s.dfr dfr, rd lo (frzRows s (pcSlots ps)) ps with
  | true, some x => .next x
  | _, _ => .bad
 | .exit id s => match dfrEq s.dfr dfr, (lookupP wy.exits id).isSome, rd lo (frzRows s (pcSlots (wayP wy id))) (wayP wy id) with
  | true, true, some y => .out (.exit id y)
  | _, _, _ => .bad
 | .ret s => match dfrEq s.dfr dfr, rd lo (frzRows s (pcSlots wy.ret)) wy.ret with
  | true, some y => .out (.ret y)
  | _, _ => .bad
 | .pan (.ifc T τ x) s => match dfrEq s.dfr dfr, rd lo s wy.pan with
  | true, some y => .out (.pan T τ x y)
  | _, _ => .bad
 | _ => .bad
def loopZ (lo : Nat) (dfr : List Dfr) (ps : List Pat) (f : (patsTy ps).den → Tree LO) (s : St) : Tree Out := loopF lo dfr ps f (frzRows s (pcSlots ps))
def detQ {ps : List Pat} {wy : Ways} : Tree (RQ ps wy) → RQ ps wy
 | .leaf r => r
 | .br b l r => bif b then detQ l else detQ r
 | .any _ _ => .bad
def roundQ (P : Program) (E : TCtx) (Γ : Ctx) (lo N : Nat) (dfr : List Dfr) (ps : List Pat) (wy : Ways) (body : Code) (ls : List Loop) (x : (patsTy ps).den) : Tree (RQ ps wy) :=
 execK P E Γ lo N .any body ls (wr lo .none dfr ps x) fun o => .leaf (rdQ lo dfr ps wy o)
def iterQ {ps : List Pat} {wy : Ways} (step : (patsTy ps).den → RQ ps wy) : Nat → (patsTy ps).den → LQ wy
 | 0, _ => .bad
 | n + 1, x => match step x with
  | .next x' => iterQ step n x'
  | .out q => q
  | .bad => .bad
def big : Nat := 4722366482869645213696
def LQ.out {wy : Ways} (lo : Nat) (dfr : List Dfr) : LQ wy → Out
 | .exit id y => .exit id (wr lo .none dfr (wayP wy id) y)
 | .ret y => .ret (wr lo .none dfr wy.ret y)
 | .pan T τ x y => .pan (.ifc T τ x) (wr lo .none dfr wy.pan y)
 | .bad => .bad
theorem loopQ_ok' (hE : Env P E Γ G Fw) {tr : Bool} (ht : tr = true ∨ G.Free) {ps : List Pat} {wy : Ways} {body : Code} {ls : List Loop} (hls : LsOK P N G fid Fw r body ls)
  (hps : wfQ dfr tr ps = true) (hwy : wy.wf dfr tr = true) {step : (patsTy ps).den → RQ ps wy} (hstep : ∀ x, detQ (roundQ P E Γ G.lo N dfr ps wy body ls x) = step x) (n : Nat) {f : (patsTy ps).den → Tree LO}
  (hf : ∀ x, (∀ o, ((f x).map (LO.out G.lo dfr)).Has o → o ≠ .bad) → iterQ step n x ≠ .bad ∧ ((f x).map (LO.out G.lo dfr)).Has ((iterQ step n x).out G.lo dfr)) :
  LoopOK P N G fid Fw r (.loop body) (loopZ G.lo dfr ps f) := by
 intro s a w h hfine
 replace h := SX.frzRows hE.gh (pcSlots ps) h
 unfold loopZ loopF at hfine ⊢
 split at hfine
 case h_2 => exact (hfine .bad rfl).elim
 rename_i hd
 try simp only [hd]
 split at hfine
 case h_2 => exact (hfine .bad rfl).elim
 rename_i x hx
 try simp only [hx]
 obtain ⟨hq, hhas⟩ := hf x fun o ho e => by subst e; exact hfine _ ho
 have h0 := wfQ_SX hE.gh h ht hps (dfrEq_spec hd) hx
 have key : ∀ (n : Nat) (x : (patsTy ps).den) (a : Act) (w : World), iterQ step n x ≠ .bad → SX P N G (wr G.lo .none dfr ps x) a w →
   roundsB fid Fw r P body (fun e a' w' => OutOk P N G ((iterQ step n x).out G.lo dfr) e a' w') n a w := by
  intro n
  induction n with
  | zero => intro x a w hn; exact absurd rfl hn
  | succ n ih =>
   intro x a w hn hs
   unfold roundsB
   have hne : step x ≠ .bad := fun e => by simp only [iterQ, e] at hn; exact hn rfl
   refine wpB_mono (exec_sound (T := fun t : Tree (RQ ps wy) => detQ t = step x) (ch := Tree.any) (K := fun o => .leaf (rdQ G.lo dfr ps wy o)) hE (fun a b q => absurd q.symm hne) ⟨fun q => absurd q.symm hne, fun s' q => absurd q.symm hne⟩ (hstep x) hls hs) ?_
   rintro e a' w' ⟨o, ho, hTo⟩
   have hTo : rdQ G.lo dfr ps wy o = step x := hTo
   simp only [Ways.wf, Bool.and_eq_true] at hwy
   obtain ⟨⟨w1, w2⟩, w3⟩ := hwy
   cases o with
   | bad => exact absurd hTo.symm hne
   | pan d s' =>
    cases d with
    | ifc T τ v =>
     cases e <;> try exact ho.elim
     simp only [rdQ] at hTo
     split at hTo
     case h_2 => exact absurd hTo.symm hne
     rename_i y hd hy
     have e1 : iterQ step (n + 1) x = .pan T τ v y := by simp only [iterQ, ← hTo]
     rw [e1]
     obtain ⟨u, ρ, S, F, h1, h2, h3⟩ := ho
     simp only [wfQ, Bool.and_eq_true, Bool.or_eq_true, Bool.not_eq_true'] at w3
     obtain ⟨⟨q1, q2⟩, q3⟩ := w3
     have hd := dfrEq_spec hd
     subst hd
     refine ⟨u, _, S, F, h1, wr_SR hE.gh h2 q1 q2 ?_ hy, h3⟩
     rcases ht with rfl | ht
     ·exact .inl (q3.resolve_left (by simp))
     ·exact .inr (ht F S w')
    | _ => exact absurd hTo.symm hne
   | norm s' =>
    cases e <;> try exact ho.elim
    simp only [rdQ] at hTo
    split at hTo
    case h_2 => exact absurd hTo.symm hne
    rename_i x' hd hx'
    have e1 : iterQ step (n + 1) x = iterQ step n x' := by simp only [iterQ, ← hTo]
    rw [e1] at hn ⊢
    exact ih x' a' w' hn (wfQ_SX hE.gh (SX.frzRows hE.gh (pcSlots ps) ho) ht hps ((frzRows_dfr _ _).trans (dfrEq_spec hd)) hx')
   | exit id s' =>
    cases e <;> try exact ho.elim
    obtain ⟨rfl, ho⟩ := ho
    simp only [rdQ] at hTo
    split at hTo
    case h_2 => exact absurd hTo.symm hne
    rename_i y hd hid hy
    have e1 : iterQ step (n + 1) x = .exit id y := by simp only [iterQ, ← hTo]
    rw [e1]
    have hmem : (id, wayP wy id) ∈ wy.exits := by
     cases hl : lookupP wy.exits id with
     | none => rw [hl] at hid; cases hid
     | some p => have := lookupP_mem hl; rwa [show wayP wy id = p by simp [wayP, hl]]
    have := List.all_eq_true.1 w1 _ hmem
    exact ⟨rfl, wfQ_SX hE.gh (SX.frzRows hE.gh _ ho) ht this ((frzRows_dfr _ _).trans (dfrEq_spec hd)) hy⟩
   | ret s' =>
    cases e <;> try exact ho.elim
    simp only [rdQ] at hTo
    split at hTo
    case h_2 => exact absurd hTo.symm hne
    rename_i y hd hy
    have e1 : iterQ step (n + 1) x = .ret y := by simp only [iterQ, ← hTo]
    rw [e1]
    exact wfQ_SX hE.gh (SX.frzRows hE.gh _ ho) ht w2 ((frzRows_dfr _ _).trans (dfrEq_spec hd)) hy
 exact wpB_mono (wpB_loop_rounds n (key n x a w hq h0)) fun e a' w' ho => ⟨_, hhas, ho⟩
def loopsOf : Code → List Code
 | .seq a b => loopsOf a ++ loopsOf b
 | .cond _ a b => loopsOf a ++ loopsOf b
 | .block _ b => loopsOf b
 | .scope b => loopsOf b
 | .loop b => [.loop b]
 | .rangeFunc g ps as b => [.rangeFunc g ps as b]
 | _ => []
theorem loopsOf_len : ∀ c : Code, (loopsOf c).length = Code.loops c
 | .seq a b => by simp [loopsOf, Code.loops, loopsOf_len a, loopsOf_len b]
 | .cond _ a b => by simp [loopsOf, Code.loops, loopsOf_len a, loopsOf_len b]
 | .block _ b => loopsOf_len b
 | .scope b => loopsOf_len b
 | .loop b => rfl
 | .rangeFunc g ps as b => rfl
 | .skip => rfl
 | .region _ _ _ => rfl
 | .exit _ => rfl
 | .ret => rfl
 | .label _ => rfl
 | .goto _ => rfl
 | .refuse _ => rfl
inductive Kn (P : Program) (N : Nat) (G : Gh) (fid : FuncId) (Fw : Fence) (r : Nat) : List Code → List Loop → Prop
 | nil : Kn P N G fid Fw r [] []
 | cons {c : Code} {f : St → Tree Out} {cs : List Code} {ls : List Loop} (h : LoopOK P N G fid Fw r c f) (t : Kn P N G fid Fw r cs ls) : Kn P N G fid Fw r (c :: cs) (.known f :: ls)
 | unr {b : Code} {n : Nat} {inner : List Loop} {cs : List Code} {ls : List Loop} (h : LsOK P N G fid Fw r b inner) (t : Kn P N G fid Fw r cs ls) : Kn P N G fid Fw r (.loop b :: cs) (.unroll n inner :: ls)
theorem Kn.split : ∀ {as bs : List Code} {ls : List Loop}, Kn P N G fid Fw r (as ++ bs) ls → Kn P N G fid Fw r as (ls.take as.length) ∧ Kn P N G fid Fw r bs (ls.drop as.length)
 | [], _, _, h => ⟨by simpa using Kn.nil, by simpa using h⟩
 | a :: as, bs, ls, h => by
  cases h with
  | cons h1 t =>
   obtain ⟨q1, q2⟩ := Kn.split t
   exact ⟨.cons h1 q1, q2⟩
  | unr h1 t =>
   obtain ⟨q1, q2⟩ := Kn.split t
   exact ⟨.unr h1 q1, q2⟩
theorem LsOK_kn : ∀ {c : Code} {ls : List Loop}, Kn P N G fid Fw r (loopsOf c) ls → LsOK P N G fid Fw r c ls
 | .seq a b, ls, h => by
  obtain ⟨h1, h2⟩ := Kn.split h
  rw [loopsOf_len] at h1 h2
  exact ⟨LsOK_kn h1, LsOK_kn h2⟩
 | .cond _ a b, ls, h => by
  obtain ⟨h1, h2⟩ := Kn.split h
  rw [loopsOf_len] at h1 h2
  exact ⟨LsOK_kn h1, LsOK_kn h2⟩
 | .block _ b, ls, h => LsOK_kn (c := b) h
 | .scope b, ls, h => LsOK_kn (c := b) h
 | .loop b, ls, h => by cases h with
  | cons h1 _ => exact h1
  | unr h1 _ => exact h1
 | .rangeFunc g ps as b, ls, h => by cases h with | cons h1 _ => exact h1
 | .skip, _, _ => trivial
 | .region _ _ _, _, _ => trivial
 | .exit _, _, _ => trivial
 | .ret, _, _ => trivial
 | .label _, _, _ => trivial
 | .goto _, _, _ => trivial
 | .refuse _, _, _ => trivial
def loopBody : Option Code → Code
 | some (.loop b) => b
 | _ => .skip
theorem callable_of {f : FuncId} {fn : Func} (h : P.funcs[f]? = some fn) (hn : (fn.name == "runtime.NumGoroutine") = false) (hb : fn.body.isNone = false) : Callable P f := by
 intro args w
 have hn' : fn.name ≠ "runtime.NumGoroutine" := fun e => by rw [e] at hn; simp at hn
 have hb' : fn.body ≠ none := fun e => by rw [e] at hb; cases hb
 simp [callFunc, h, hn', hb']
theorem detQ_cond {ps : List Pat} {wy : Ways} (b : Bool) (l r : Tree (RQ ps wy)) : detQ (bif b then l else r) = bif b then detQ l else detQ r := by cases b <;> rfl
theorem sure_cond {α : Type} (b : Bool) (l r : Tree (Option α)) : (bif b then l else r).sure = bif b then l.sure else r.sure := by cases b <;> rfl
def W (n : Int) : Int := IntKind.i64.wrap n
def mn (a b : Int) : Int := if b < a then b else a
def mx (a b : Int) : Int := if b > a then b else a
end Go.Dm
namespace Go.Dm
open Go.RowKit
variable {P : Program} {N : Nat} {G : Gh} {S S' : CS} {w w' : World} {s : St} {a : Act} {ρ ρ' : Rho} {F F' : Nat → Prop} {E : TCtx} {Γ : Ctx} {Fw : Fence} {r : Nat} {dfr : List Dfr} {fid : FuncId} {lo lo' : Nat} {mps : List Pat} {e : Ty}
def Tree.detB {α : Type} (bad : α) : Tree α → α
 | .leaf r => r
 | .br b l r => bif b then l.detB bad else r.detB bad
 | .any _ _ => bad
theorem detB_cond {α : Type} (bad : α) (b : Bool) (l r : Tree α) : (bif b then l else r).detB bad = bif b then l.detB bad else r.detB bad := by cases b <;> rfl
theorem Tree.detB_has {α : Type} {bad : α} : ∀ {t : Tree α}, t.detB bad ≠ bad → ∀ o, t.Has o → o = t.detB bad
 | .leaf _, _, _, h => h
 | .br b l r, h, o, ho => by
  cases b with
  | true => exact Tree.detB_has (t := l) h o (by simpa [Tree.Has] using ho)
  | false => exact Tree.detB_has (t := r) h o (by simpa [Tree.Has] using ho)
 | .any _ _, h, _, _ => absurd rfl h
theorem LoopOK.mono {c : Code} {f f' : St → Tree Out} (h : LoopOK P N G fid Fw r c f') (hf : ∀ s, (∀ o, (f s).Has o → o.fine G) → ∀ o, (f' s).Has o → (f s).Has o) : LoopOK P N G fid Fw r c f := by
 intro s a w hs hfine
 exact wpB_mono (h s a w hs fun o ho => hfine o (hf s hfine o ho)) fun e a' w' ⟨o, h1, h2⟩ => ⟨o, hf s hfine o h1, h2⟩
namespace RO
def isNext (o : RO mps) : Bool := match o with
 | .next _ => true
 | _ => false
def isBrk (o : RO mps) (id : Nat) : Bool := match o with
 | .brk id' _ => Nat.beq id' id
 | _ => false
def isRet (o : RO mps) : Bool := match o with
 | .ret _ => true
 | _ => false
def isPan (o : RO mps) (T : TypeId) (τ : Ty) : Bool := match o with
 | .pan T' τ' _ _ => Nat.beq T' T && decide (τ' = τ)
 | _ => false
def getX (o : RO mps) : (patsTy mps).den := match o with
 | .next x => x
 | .brk _ x => x
 | .ret x => x
 | .pan _ _ _ x => x
 | .bad => (patsTy mps).dflt
def getPan (o : RO mps) (τ : Ty) : τ.den := match o with
 | .pan _ τ' d _ => (castTy τ d).getD τ.dflt
 | _ => τ.dflt
end RO
def spreadP (o : RO mps) : List (TypeId × Ty) → Tree (RO mps)
 | [] => .leaf .bad
 | (T, τ) :: l => .br (o.isPan T τ) (.leaf (.pan T τ (o.getPan τ) o.getX)) (spreadP o l)
def spreadR (o : RO mps) (pans : List (TypeId × Ty)) : List Nat → Tree (RO mps)
 | [] => .br o.isNext (.leaf (.next o.getX)) (.br o.isRet (.leaf (.ret o.getX)) (spreadP o pans))
 | id :: l => .br (o.isBrk id) (.leaf (.brk id o.getX)) (spreadR o pans l)
theorem castTy_self {τ : Ty} (x : τ.den) : castTy τ x = some x := by simp [castTy]
theorem spreadP_ok {o : RO mps} {β : Type} {K : RO mps → β} : ∀ {l : List (TypeId × Ty)}, (∀ q, ((spreadP o l).map K).Has q → q ≠ K .bad) → (o ≠ .bad) ∧ ((spreadP o l).map K).Has (K o)
 | [], h => absurd rfl (h _ rfl)
 | (T, τ) :: l, h => by
  simp only [spreadP, Tree.map] at h ⊢
  cases hb : o.isPan T τ with
  | true =>
   cases o with
   | pan T' τ' d x =>
    simp only [RO.isPan, Bool.and_eq_true, decide_eq_true_eq] at hb
    obtain ⟨h1, h2⟩ := hb
    cases Nat.eq_of_beq_eq_true h1
    subst h2
    refine ⟨by simp, ?_⟩
    show K _ = K _
    simp [RO.getPan, RO.getX, castTy_self]
   | _ => cases hb
  | false =>
   rw [hb] at h
   have := spreadP_ok (l := l) (fun q hq => h q (by simpa [Tree.Has] using hq))
   exact ⟨this.1, by simpa [Tree.Has] using this.2⟩
theorem spreadR_ok {o : RO mps} {pans : List (TypeId × Ty)} {β : Type} {K : RO mps → β} : ∀ {l : List Nat}, (∀ q, ((spreadR o pans l).map K).Has q → q ≠ K .bad) → (o ≠ .bad) ∧ ((spreadR o pans l).map K).Has (K o)
 | [], h => by
  simp only [spreadR, Tree.map] at h ⊢
  cases hb : o.isNext with
  | true =>
   cases o with
   | next x => exact ⟨by simp, rfl⟩
   | _ => cases hb
  | false =>
   rw [hb] at h
   cases hb' : o.isRet with
   | true =>
    cases o with
    | ret x => exact ⟨by simp, rfl⟩
    | _ => cases hb'
   | false =>
    rw [hb'] at h
    have := spreadP_ok (o := o) (l := pans) (fun q hq => h q (by simpa [Tree.Has] using hq))
    exact ⟨this.1, by simpa [Tree.Has] using this.2⟩
 | id :: l, h => by
  simp only [spreadR, Tree.map] at h ⊢
  cases hb : o.isBrk id with
  | true =>
   cases o with
   | brk id' x =>
    cases Nat.eq_of_beq_eq_true (show Nat.beq id' id = true from hb)
    exact ⟨by simp, rfl⟩
   | _ => cases hb
  | false =>
   rw [hb] at h
   have := spreadR_ok (l := l) (fun q hq => h q (by simpa [Tree.Has] using hq))
   exact ⟨this.1, by simpa [Tree.Has] using this.2⟩
def runAllD {I : Type} (step : (patsTy mps).den → I → RO mps) : (patsTy mps).den → List I → RO mps
 | x, [] => .next x
 | x, i :: r => match step x i with
  | .next x' => runAllD step x' r
  | o => o
theorem runAllD_all {I : Type} {stepT : (patsTy mps).den → I → Tree (RO mps)} {step : (patsTy mps).den → I → RO mps} (hs : ∀ x i, (stepT x i).detB .bad = step x i) : ∀ (l : List I) (x : (patsTy mps).den), runAllD step x l ≠ .bad → ∀ o, (runAll stepT x l).Has o → o = runAllD step x l
 | [], x, _, o, ho => ho
 | i :: l, x, hn, o, ho => by
  simp only [runAll] at ho
  obtain ⟨o1, h1, h2⟩ : ∃ o1, (stepT x i).Has o1 ∧ (match o1 with
   | .next x' => runAll stepT x' l
   | .brk id x' => .leaf (.brk id x')
   | .ret x' => .leaf (.ret x')
   | .pan T τ d x' => .leaf (.pan T τ d x')
   | .bad => .leaf .bad : Tree (RO mps)).Has o := by
   have : ∀ (t : Tree (RO mps)) (K : RO mps → Tree (RO mps)), (t.run Tree.any K).Has o → ∃ o1, t.Has o1 ∧ (K o1).Has o := by
    intro t K
    induction t with
    | leaf a => exact fun h => ⟨a, rfl, h⟩
    | br b l r ihl ihr =>
     intro h
     cases b with
     | true => obtain ⟨o1, q1, q2⟩ := ihl h; exact ⟨o1, by simpa [Tree.Has] using q1, q2⟩
     | false => obtain ⟨o1, q1, q2⟩ := ihr h; exact ⟨o1, by simpa [Tree.Has] using q1, q2⟩
    | any l r ihl ihr =>
     intro h
     rcases h with h | h
     ·obtain ⟨o1, q1, q2⟩ := ihl h; exact ⟨o1, .inl q1, q2⟩
     ·obtain ⟨o1, q1, q2⟩ := ihr h; exact ⟨o1, .inr q1, q2⟩
   exact this _ _ ho
  have hne : step x i ≠ .bad := fun e => hn (by simp only [runAllD, e])
  have e1 := Tree.detB_has (bad := .bad) (by rw [hs]; exact hne) o1 h1
  rw [hs] at e1
  subst e1
  cases hst : step x i with
  | next x' =>
   rw [hst] at h2
   have e2 : runAllD step x (i :: l) = runAllD step x' l := by simp only [runAllD, hst]
   rw [e2] at hn ⊢
   exact runAllD_all hs l x' hn o h2
  | brk id x' => rw [hst] at h2; simp only [runAllD, hst]; exact h2
  | ret x' => rw [hst] at h2; simp only [runAllD, hst]; exact h2
  | pan T τ d x' => rw [hst] at h2; simp only [runAllD, hst]; exact h2
  | bad => exact absurd hst hne
def rangeD (lo : Nat) (dfr : List Dfr) (t : Nat) (e : Ty) (mps : List Pat) (ids : List Nat) (pans : List (TypeId × Ty)) (L : (patsTy mps).den → List e.den → RO mps) (s : St) : Tree Out :=
 match dfrEq s.dfr dfr, s.env t, rd lo s mps with
 | true, .v (.pc (.seq e') its), some x => match castTy (σ := .seq e') (.seq e) its with
  | some its => (spreadR (L x (show Sl e.den from its).list) pans ids).map (RO.out lo (.mark :: dfr))
  | none => .leaf .bad
 | _, _, _ => .leaf .bad
theorem Env.round (hE : Env P E Γ G Fence.wide) {G' : Gh} (hok : G'.Ok P) (l : Nat) : Env P E.noDfr Γ G' (Fence.wide.inRound l) :=
 ⟨hE.mixed, hE.fns, hE.eq, hE.key, hok, Wide.wide.inRound l, fun q => by cases q⟩
theorem rangeD_ok (hE : Env P E Γ G Fence.wide) (hfree : G.Free) (hlo : G.lo = lo) {fd : Func} (hfd : P.funcs[fid]? = some fd) {t : Tmp} {ps : Array Tmp} (hps : ps.toList.all (Nat.blt · N) = true) (hpl : ps.size = e.cells) (heL : e.isL = true)
  (hw : wfG lo' mps = true) (hdw : dfrWf (boxIds mps) dfr = true) {as body : Code} {la lb : List Loop} {ids : List Nat} {pans : List (TypeId × Ty)}
  (hla : ∀ G' : Gh, G'.lo = lo' → G'.Free → ∀ l, Env P E.noDfr Γ G' (Fence.wide.inRound l) → LsOK P N G' fid (Fence.wide.inRound l) 0 as la) (hlb : ∀ G' : Gh, G'.lo = lo' → G'.Free → ∀ l, Env P E.noDfr Γ G' (Fence.wide.inRound l) → LsOK P N G' fid (Fence.wide.inRound l) 0 body lb)
  {step : (patsTy mps).den → e.den → RO mps} (hstep : ∀ x i, (stepR P E Γ lo lo' N ps.toList as body la lb e mps x i).detB .bad = step x i) :
  LoopOK P N G fid Fence.wide 0 (.rangeFunc (.tmp t) ps as body) (rangeD lo dfr t e mps ids pans (runAllD step)) := by
 subst hlo
 refine LoopOK.mono (rangeF_ok (la := la) (lb := lb) hE hfree hfd hps hpl heL hw hdw (fun G' h1 h2 h3 l => hla G' h1 h3 l (hE.round h2 l)) (fun G' h1 h2 h3 l => hlb G' h1 h3 l (hE.round h2 l))) ?_
 intro s hfine o ho
 unfold rangeD at hfine ⊢
 unfold rangeF at ho
 split at ho
 case h_2 =>
  rename_i hn
  exfalso
  have : (Tree.leaf Out.bad).Has Out.bad := rfl
  split at hfine
  ·rename_i h1 h2 h3; exact hn _ _ _ h1 h2 h3
  ·exact hfine .bad rfl
 rename_i e' its x0 hd hs hx
 simp only [hd, hs, hx] at hfine ⊢
 split at ho
 case h_2 =>
  rename_i hc
  simp only [hc] at hfine
  exact (hfine .bad rfl).elim
 rename_i its' hcast
 simp only [hcast] at hfine ⊢
 obtain ⟨hb, hh⟩ := spreadR_ok (K := RO.out G.lo (.mark :: dfr)) (l := ids) (fun q hq e => by subst e; exact hfine _ hq)
 have : ∀ (t : Tree (RO mps)), (t.map (RO.out G.lo (.mark :: dfr))).Has o → ∃ o1, t.Has o1 ∧ o = RO.out G.lo (.mark :: dfr) o1 := by
  intro t
  induction t with
  | leaf a => exact fun h => ⟨a, rfl, h⟩
  | br b l r ihl ihr =>
   intro h
   cases b with
   | true => obtain ⟨o1, q1, q2⟩ := ihl (by simpa [Tree.map, Tree.Has] using h); exact ⟨o1, by simpa [Tree.Has] using q1, q2⟩
   | false => obtain ⟨o1, q1, q2⟩ := ihr (by simpa [Tree.map, Tree.Has] using h); exact ⟨o1, by simpa [Tree.Has] using q1, q2⟩
  | any l r ihl ihr =>
   intro h
   rcases h with h | h
   ·obtain ⟨o1, q1, q2⟩ := ihl h; exact ⟨o1, .inl q1, q2⟩
   ·obtain ⟨o1, q1, q2⟩ := ihr h; exact ⟨o1, .inr q1, q2⟩
 obtain ⟨o1, h1, rfl⟩ := this _ ho
 rw [runAllD_all hstep _ _ hb o1 h1]
 exact hh
namespace GO
variable {τr : Ty} {qs : List Pat}
def isOk (g : GO τr qs) : Bool := match g with
 | .ok _ _ => true
 | _ => false
def isPan (g : GO τr qs) (T : TypeId) (τ : Ty) : Bool := match g with
 | .pan T' τ' _ _ => Nat.beq T' T && decide (τ' = τ)
 | _ => false
def getR (g : GO τr qs) : τr.den := match g with
 | .ok r _ => r
 | _ => τr.dflt
def getY (g : GO τr qs) : (patsTy qs).den := match g with
 | .ok _ y => y
 | .pan _ _ _ y => y
 | .bad => (patsTy qs).dflt
def getPan (g : GO τr qs) (τ : Ty) : τ.den := match g with
 | .pan _ τ' d _ => (castTy τ d).getD τ.dflt
 | _ => τ.dflt
end GO
def spreadG {τr : Ty} {qs : List Pat} (g : GO τr qs) : List (TypeId × Ty) → Tree (GO τr qs)
 | [] => .br g.isOk (.leaf (.ok g.getR g.getY)) (.leaf .bad)
 | (T, τ) :: l => .br (g.isPan T τ) (.leaf (.pan T τ (g.getPan τ) g.getY)) (spreadG g l)
theorem spreadG_ok {τr : Ty} {qs : List Pat} {g : GO τr qs} : ∀ {l : List (TypeId × Ty)}, (∀ q, (spreadG g l).Has q → q ≠ .bad) → g ≠ .bad ∧ (spreadG g l).Has g
 | [], h => by
  cases g with
  | ok r y => exact ⟨by simp, rfl⟩
  | pan T τ d y => exact absurd rfl (h .bad rfl)
  | bad => exact absurd rfl (h .bad rfl)
 | (T, τ) :: l, h => by
  simp only [spreadG] at h ⊢
  cases hb : g.isPan T τ with
  | true =>
   cases g with
   | pan T' τ' d x =>
    simp only [GO.isPan, Bool.and_eq_true, decide_eq_true_eq] at hb
    obtain ⟨h1, h2⟩ := hb
    cases Nat.eq_of_beq_eq_true h1
    subst h2
    refine ⟨by simp, ?_⟩
    show _ = _
    simp [GO.getPan, GO.getY, castTy_self]
   | _ => cases hb
  | false =>
   rw [hb] at h
   have := spreadG_ok (l := l) (fun q hq => h q (by simpa [Tree.Has] using hq))
   exact ⟨this.1, by simpa [Tree.Has] using this.2⟩
def gappD (n : Nat) (τr : Ty) (ps : List Pat) (pans : List (TypeId × Ty)) (R : (patsTy ps).den → GO τr (objPats ps)) : List Slot → (Nat → DObj) → Tr → Nat → Tree OR := gapp n τr ps fun x => spreadG (R x) pans
theorem gappD_holds (hm : P.follows .mixedOrders = true) (hΓ : Sound P Γ) (hE : EqSound P E.eq) (hK : KeySound P E.key) {f : FuncId} {fn : Func} {c : Code} (hf : P.funcs[f]? = some fn) (hb : fn.body = some c) {ls : List Loop}
  {τr : Ty} {ps : List Pat} (hw : wfG lo ps = true) (hl : ∀ G' : Gh, G'.lo = lo → G'.Free → Env P E Γ G' Fence.wide → LsOK P fn.ntmps G' f Fence.wide 0 c ls)
  {R : (patsTy ps).den → GO τr (objPats ps)} (pans : List (TypeId × Ty)) (hR : ∀ x, (runG P E Γ fn ls lo τr ps x).detB .bad = R x) : GHolds P f (gappD fn.ntmps τr ps pans R) := by
 refine gapp_holds (E := E) (ls := ls) hm hΓ hE hK hf hb hw (fun G' h1 h2 h3 => hl G' h1 h2 ⟨hm, hΓ, hE, hK, h3, .wide, fun _ => rfl⟩) fun x hfine go hgo => ?_
 obtain ⟨h1, h2⟩ := spreadG_ok hfine
 rw [← hR] at h1
 rw [Tree.detB_has h1 go hgo, hR]
 exact h2
def frOf (T : TypeId) (e : Ty) : Option FR → Option (Sl e.den)
 | some ⟨T', e', s⟩ => match Nat.beq T' T, castTy (σ := .sl e') (.sl e) s with
  | true, some s => some s
  | _, _ => none
 | none => none
def conM {τa τr : Ty} (M : τa.den → Option τr.den) : Con := ⟨τa, τr, fun x => (M x).isSome, fun x => (M x).getD τr.dflt⟩
def LQ.lift {C : Type} {wv wy : Ways} (je : (id : Nat) → C → (patsTy (wayP wv id)).den → (patsTy (wayP wy id)).den) (jr : C → (patsTy wv.ret).den → (patsTy wy.ret).den) (jp : C → (patsTy wv.pan).den → (patsTy wy.pan).den) (c : C) : LQ wv → LQ wy
 | .exit id y => .exit id (je id c y)
 | .ret y => .ret (jr c y)
 | .pan T τ x y => .pan T τ x (jp c y)
 | .bad => .bad
def RQ.lift {C : Type} {vs ps : List Pat} {wv wy : Ways} (join : C → (patsTy vs).den → (patsTy ps).den) (je : (id : Nat) → C → (patsTy (wayP wv id)).den → (patsTy (wayP wy id)).den) (jr : C → (patsTy wv.ret).den → (patsTy wy.ret).den) (jp : C → (patsTy wv.pan).den → (patsTy wy.pan).den) (c : C) : RQ vs wv → RQ ps wy
 | .next v => .next (join c v)
 | .out q => .out (q.lift je jr jp c)
 | .bad => .bad
def spreadPan {C : Type} {wv : Ways} (wy : Ways) (jp : C → (patsTy wv.pan).den → (patsTy wy.pan).den) (c : C) (q : LQ wv) : List (TypeId × Ty) → Tree LO
 | [] => .leaf .bad
 | (T, τ) :: l => .br (q.isPan T τ) (.leaf (.pan T τ (q.getPan τ) wy.pan (jp c q.getPanY))) (spreadPan wy jp c q l)
def spreadV {C : Type} {wv : Ways} (wy : Ways) (je : (id : Nat) → C → (patsTy (wayP wv id)).den → (patsTy (wayP wy id)).den) (jr : C → (patsTy wv.ret).den → (patsTy wy.ret).den) (jp : C → (patsTy wv.pan).den → (patsTy wy.pan).den) (pans : List (TypeId × Ty)) (hasRet : Bool) (c : C) (q : LQ wv) : List (Nat × List Pat) → Tree LO
 | [] => match hasRet with
  | true => .br q.isRet (.leaf (.ret wy.ret (jr c q.getRet))) (spreadPan wy jp c q pans)
  | false => spreadPan wy jp c q pans
 | (id, _) :: l => .br (q.isExit id) (.leaf (.exit id (wayP wy id) (je id c (q.getExit id)))) (spreadV wy je jr jp pans hasRet c q l)
theorem spreadPan_ok {C : Type} {wv wy : Ways} {je : (id : Nat) → C → (patsTy (wayP wv id)).den → (patsTy (wayP wy id)).den} {jr : C → (patsTy wv.ret).den → (patsTy wy.ret).den} {jp : C → (patsTy wv.pan).den → (patsTy wy.pan).den} {c : C} {q : LQ wv} : ∀ {l : List (TypeId × Ty)}, (∀ o, ((spreadPan wy jp c q l).map (LO.out lo dfr)).Has o → o ≠ .bad) → q ≠ .bad ∧ ((spreadPan wy jp c q l).map (LO.out lo dfr)).Has ((q.lift je jr jp c).out lo dfr)
 | [], h => absurd rfl (h .bad rfl)
 | (T, τ) :: l, h => by
  simp only [spreadPan, Tree.map] at h ⊢
  cases hb : q.isPan T τ with
  | true =>
   cases q with
   | pan T' τ' x y =>
    simp only [LQ.isPan, Bool.and_eq_true, decide_eq_true_eq] at hb
    obtain ⟨h1, h2⟩ := hb
    have h1 := Nat.eq_of_beq_eq_true h1
    subst h1 h2
    refine ⟨by simp, ?_⟩
    show (LQ.pan T' τ' x (jp c y)).out lo dfr = _
    simp [LO.out, LQ.out, LQ.getPan, LQ.getPanY, castTy_self]
   | _ => cases hb
  | false =>
   rw [hb] at h
   have := spreadPan_ok (je := je) (jr := jr) (l := l) (fun o ho => h o (by simpa [Tree.Has] using ho))
   exact ⟨this.1, by simpa [Tree.Has] using this.2⟩
theorem spreadV_ok {C : Type} {wv wy : Ways} {je : (id : Nat) → C → (patsTy (wayP wv id)).den → (patsTy (wayP wy id)).den} {jr : C → (patsTy wv.ret).den → (patsTy wy.ret).den} {jp : C → (patsTy wv.pan).den → (patsTy wy.pan).den} {pans : List (TypeId × Ty)} {hr : Bool} {c : C} {q : LQ wv} : ∀ {l : List (Nat × List Pat)}, (∀ o, ((spreadV wy je jr jp pans hr c q l).map (LO.out lo dfr)).Has o → o ≠ .bad) → q ≠ .bad ∧ ((spreadV wy je jr jp pans hr c q l).map (LO.out lo dfr)).Has ((q.lift je jr jp c).out lo dfr)
 | [], h => by
  cases hr with
  | false => exact spreadPan_ok h
  | true =>
   simp only [spreadV, Tree.map] at h ⊢
   cases hb : q.isRet with
   | true =>
    cases q with
    | ret y => exact ⟨by simp, rfl⟩
    | _ => cases hb
   | false =>
    rw [hb] at h
    have := spreadPan_ok (je := je) (jr := jr) (l := pans) (fun o ho => h o (by simpa [Tree.Has] using ho))
    exact ⟨this.1, by simpa [Tree.Has] using this.2⟩
 | (id, p) :: l, h => by
  simp only [spreadV, Tree.map] at h ⊢
  cases hb : q.isExit id with
  | true =>
   cases q with
   | exit id' y =>
    have e : id' = id := Nat.eq_of_beq_eq_true hb
    subst e
    refine ⟨by simp, ?_⟩
    show (LQ.exit id' (je id' c y)).out lo dfr = _
    simp [LO.out, LQ.out]
   | _ => cases hb
  | false =>
   rw [hb] at h
   have := spreadV_ok (l := l) (fun o ho => h o (by simpa [Tree.Has] using ho))
   exact ⟨this.1, by simpa [Tree.Has] using this.2⟩
theorem lift_cond {C : Type} {vs ps : List Pat} {wv wy : Ways} {join : C → (patsTy vs).den → (patsTy ps).den} {je : (id : Nat) → C → (patsTy (wayP wv id)).den → (patsTy (wayP wy id)).den} {jr : C → (patsTy wv.ret).den → (patsTy wy.ret).den} {jp : C → (patsTy wv.pan).den → (patsTy wy.pan).den} {c : C} (b : Bool) (x y : RQ vs wv) : (bif b then x else y).lift join je jr jp c = bif b then x.lift join je jr jp c else y.lift join je jr jp c := by cases b <;> rfl
theorem lift_bad {C : Type} {vs ps : List Pat} {wv wy : Ways} {join : C → (patsTy vs).den → (patsTy ps).den} {je : (id : Nat) → C → (patsTy (wayP wv id)).den → (patsTy (wayP wy id)).den} {jr : C → (patsTy wv.ret).den → (patsTy wy.ret).den} {jp : C → (patsTy wv.pan).den → (patsTy wy.pan).den} {c : C} : (RQ.bad : RQ vs wv).lift join je jr jp c = .bad := rfl
theorem loopV_ok' (hE : Env P E Γ G Fw) {tr : Bool} (ht : tr = true ∨ G.Free) (hlo : G.lo = lo) {C : Type} {vs ps : List Pat} {wv wy : Ways} {body : Code} {ls : List Loop} (hls : LsOK P N G fid Fw r body ls)
  (hps : wfQ dfr tr ps = true) (hwy : wy.wf dfr tr = true) {join : C → (patsTy vs).den → (patsTy ps).den} {je : (id : Nat) → C → (patsTy (wayP wv id)).den → (patsTy (wayP wy id)).den} {jr : C → (patsTy wv.ret).den → (patsTy wy.ret).den} {jp : C → (patsTy wv.pan).den → (patsTy wy.pan).den} {pans : List (TypeId × Ty)} {hr : Bool}
  (sp : (patsTy ps).den → C × (patsTy vs).den) (hsp : ∀ x, join (sp x).1 (sp x).2 = x) (hsp' : ∀ c v, sp (join c v) = (c, v))
  {step : C → (patsTy vs).den → RQ vs wv} (hstep : ∀ c v, detQ (roundQ P E Γ lo N dfr ps wy body ls (join c v)) = (step c v).lift join je jr jp c) (n : Nat) :
  LoopOK P N G fid Fw r (.loop body) (loopZ lo dfr ps fun x => spreadV wy je jr jp pans hr (sp x).1 (iterQ (step (sp x).1) n (sp x).2) wy.exits) := by
 subst hlo
 have key : ∀ (n : Nat) (c : C) (v : (patsTy vs).den), iterQ (fun x => (step (sp x).1 (sp x).2).lift join je jr jp (sp x).1) n (join c v) = (iterQ (step c) n v).lift je jr jp c := by
  intro n c
  induction n with
  | zero => intro v; rfl
  | succ n ih =>
   intro v
   simp only [iterQ, hsp']
   cases hs : step c v with
   | next v' => simp only [RQ.lift]; exact ih v'
   | out q => rfl
   | bad => rfl
 refine loopQ_ok' hE ht hls hps hwy (step := fun x => (step (sp x).1 (sp x).2).lift join je jr jp (sp x).1) (fun x => by rw [← hstep, hsp]) n fun x hfine => ?_
 have e1 : iterQ (fun x => (step (sp x).1 (sp x).2).lift join je jr jp (sp x).1) n x = (iterQ (step (sp x).1) n (sp x).2).lift je jr jp (sp x).1 := by
  have := key n (sp x).1 (sp x).2
  rwa [hsp] at this
 rw [e1]
 obtain ⟨h1, h2⟩ := spreadV_ok hfine
 refine ⟨?_, h2⟩
 cases hq : iterQ (step (sp x).1) n (sp x).2 with
 | bad => exact absurd hq h1
 | _ => simp [LQ.lift]
theorem loopV_ok (hE : Env P E Γ G Fw) (ht : G.Free) (hlo : G.lo = lo) {C : Type} {vs ps : List Pat} {wv wy : Ways} {body : Code} {ls : List Loop} (hls : LsOK P N G fid Fw r body ls)
  (hps : wfQ dfr false ps = true) (hwy : wy.wf dfr false = true) {join : C → (patsTy vs).den → (patsTy ps).den} {je : (id : Nat) → C → (patsTy (wayP wv id)).den → (patsTy (wayP wy id)).den} {jr : C → (patsTy wv.ret).den → (patsTy wy.ret).den} {jp : C → (patsTy wv.pan).den → (patsTy wy.pan).den} {pans : List (TypeId × Ty)} {hr : Bool}
  (sp : (patsTy ps).den → C × (patsTy vs).den) (hsp : ∀ x, join (sp x).1 (sp x).2 = x) (hsp' : ∀ c v, sp (join c v) = (c, v))
  {step : C → (patsTy vs).den → RQ vs wv} (hstep : ∀ c v, detQ (roundQ P E Γ lo N dfr ps wy body ls (join c v)) = (step c v).lift join je jr jp c) (n : Nat) :
  LoopOK P N G fid Fw r (.loop body) (loopZ lo dfr ps fun x => spreadV wy je jr jp pans hr (sp x).1 (iterQ (step (sp x).1) n (sp x).2) wy.exits) :=
 loopV_ok' hE (.inr ht) hlo hls hps hwy sp hsp hsp' hstep n
def rangeAs : Option Code → Code
 | some (.rangeFunc _ _ as _) => as
 | _ => .skip
def rangeBody : Option Code → Code
 | some (.rangeFunc _ _ _ b) => b
 | _ => .skip
theorem holds_of_M' (hm : P.follows .mixedOrders = true) (hΓ : Sound P Γ) (hE : EqSound P E.eq) (hK : KeySound P E.key) {f : FuncId} {fn : Func} {c : Code} (hf : P.funcs[f]? = some fn) (hb : fn.body = some c) {ls : List Loop}
  {τa τr : Ty} {M : τa.den → Option τr.den} (hn : Nat.ble τa.cells fn.ntmps = true) (hM : ∀ x, (runFn P E Γ fn ls τa τr x).sure = M x)
  (hl : ∀ G' : Gh, G'.lo = 0 → G'.Free → Env P E Γ G' Fence.wide → LsOK P fn.ntmps G' f Fence.wide 0 c ls) : Holds P f (conM M) :=
 holds_of_run hm hΓ hE hK hf hb (fun S w => hl (Gh.start S w) rfl inner_free ⟨hm, hΓ, hE, hK, start_ok, .wide, fun _ => rfl⟩) (conM M) (Nat.le_of_ble_eq_true hn) fun x hp => Tree.sure_all (by
  show (runFn P E Γ fn ls τa τr x).sure = some ((M x).getD τr.dflt)
  rw [hM x]
  have hp : (M x).isSome = true := hp
  cases h : M x with
  | none => rw [h] at hp; cases hp
  | some y => rfl)
theorem conM_none {f : FuncId} {τa τr : Ty} : Holds P f (conM fun _ : τa.den => (none : Option τr.den)) := fun _ _ _ _ _ h => by cases h
def DCtx.of : List (FuncId × DApp) → DCtx
 | [], _ => none
 | p :: l, f => match Nat.beq f p.1 with
  | true => some p.2
  | false => DCtx.of l f
theorem dsound_of : ∀ {l : List (FuncId × DApp)}, (∀ p ∈ l, Callable P p.1 ∧ DHolds P p.1 p.2) → DSound P (DCtx.of l)
 | [], _, f, c, h => by cases h
 | p :: l, hl, f, c, h => by
  simp only [DCtx.of] at h
  split at h
  ·rename_i hb
   cases h
   rw [Nat.eq_of_beq_eq_true hb]
   exact hl p (.head _)
  ·exact dsound_of (fun p hp => hl p (.tail _ hp)) f c h
theorem holds_of_MD (hm : P.follows .mixedOrders = true) (hΓ : Sound P Γ) {Δ : DCtx} (hΔ : DSound P Δ) (hE : EqSound P E.eq) (hK : KeySound P E.key) {f : FuncId} {fn : Func} {c : Code} (hf : P.funcs[f]? = some fn) (hb : fn.body = some c) {ls : List Loop}
  {τa τr : Ty} {M : τa.den → Option τr.den} (hn : Nat.ble τa.cells fn.ntmps = true) (hM : ∀ x, (runFnD P E Γ Δ fn ls τa τr x).sure = M x)
  (hl : ∀ G' : Gh, G'.lo = 0 → G'.Free → Env P E Γ G' Fence.wide → LsOK P fn.ntmps G' f Fence.wide 0 c ls) : Holds P f (conM M) :=
 holds_of_runD hm hΓ hΔ hE hK hf hb (fun S w => hl (Gh.start S w) rfl inner_free ⟨hm, hΓ, hE, hK, start_ok, .wide, fun _ => rfl⟩) (conM M) (Nat.le_of_ble_eq_true hn) fun x hp => Tree.sure_all (by
  show (runFnD P E Γ Δ fn ls τa τr x).sure = some ((M x).getD τr.dflt)
  rw [hM x]
  have hp : (M x).isSome = true := hp
  cases h : M x with
  | none => rw [h] at hp; cases hp
  | some y => rfl)
end Go.Dm
namespace Go.Dm
open Go.RowKit
variable {P : Program} {N N' : Nat} {G : Gh} {S S' S2 : CS} {w w' w2 : World} {s s' s2 : St} {a a2 : Act} {ρ ρ' ρ2 : Rho} {F F' F2 : Nat → Prop} {heap heap' H' H2 : Nat → DObj} {Y : Value} {E : TCtx} {Γ : Ctx} {Fw : Fence} {r : Nat} {ops : Array Oper} {lo lo' base : Nat} {dfr : List Dfr} {vr vr' : Nat → Nat} {n : Nat} {fid : FuncId} {mps : List Pat} {e : Ty}
def outC (t : Nat) (T0 : TypeId) (e0 : Ty) : Out → Tree (Option FR)
 | .ret s | .norm s => match allMark s.dfr, s.env t with
  | true, .v (.own id v e sl) => match s.heap id with
   | .chain v' T _ _ => match Nat.beq v v' with
    | true => .leaf (some ⟨T, e, sl⟩)
    | false => .leaf none
   | _ => .leaf none
  | true, .v .nils => .leaf (some ⟨T0, e0, ⟨0, fun _ => e0.dflt⟩⟩)
  | _, _ => .leaf none
 | _ => .leaf none
def runC (P : Program) (E : TCtx) (Γ : Ctx) (fn : Func) (ls : List Loop) (t : Nat) (T0 : TypeId) (e0 : Ty) (τa : Ty) (x : τa.den) : Tree (Option FR) :=
 match fn.body with
 | some c => execK P E Γ 0 fn.ntmps .any c ls (initSt τa x) (outC t T0 e0)
 | none => .leaf none
def anC {e : Ty} : Option (Sl e.den) → Option (Sl e.den) → Option (Sl e.den)
 | some a, some b => bif Nat.beq a.n 0 && Nat.beq b.n 0 then some ⟨0, fun _ => e.dflt⟩ else none
 | _, _ => none
def Tree.sureC (T : TypeId) (e : Ty) : Tree (Option FR) → Option (Sl e.den)
 | .leaf a => frOf T e a
 | .br b l r => bif b then l.sureC T e else r.sureC T e
 | .any l r => anC (l.sureC T e) (r.sureC T e)
theorem sureC_cond {T : TypeId} {e : Ty} (b : Bool) (l r : Tree (Option FR)) : (bif b then l else r).sureC T e = bif b then l.sureC T e else r.sureC T e := by cases b <;> rfl
def LikeC (T : TypeId) (e : Ty) (sl : Sl e.den) (z : Option FR) : Prop := ∃ s : Sl e.den, z = some ⟨T, e, s⟩ ∧ (s = sl ∨ s.n = 0 ∧ sl.n = 0)
theorem sureC_all {T : TypeId} {e : Ty} : ∀ {t : Tree (Option FR)} {sl : Sl e.den}, t.sureC T e = some sl → t.All (LikeC T e sl)
 | .leaf a, sl, h => by
  simp only [Tree.sureC] at h
  cases a with
  | none => cases h
  | some fr =>
   obtain ⟨T', e', s'⟩ := fr
   simp only [frOf] at h
   split at h
   case h_2 => cases h
   rename_i s2 hT hc
   cases h
   obtain ⟨heq, hsl⟩ := castTy_some hc
   cases Nat.eq_of_beq_eq_true hT
   cases heq
   have hsl : sl = s' := hsl
   exact ⟨s', rfl, .inl hsl.symm⟩
 | .br b l r, sl, h => by
  cases b with
  | true => have := sureC_all (t := l) (sl := sl) h; simpa [Tree.All] using this
  | false => have := sureC_all (t := r) (sl := sl) h; simpa [Tree.All] using this
 | .any l r, sl, h => by
  simp only [Tree.sureC, anC] at h
  split at h
  case h_2 => cases h
  rename_i x y hx hy
  cases hb : (Nat.beq x.n 0 && Nat.beq y.n 0) with
  | false => rw [hb] at h; cases h
  | true =>
   rw [hb] at h
   cases h
   rw [Bool.and_eq_true] at hb
   have h1 := Nat.eq_of_beq_eq_true hb.1
   have h2 := Nat.eq_of_beq_eq_true hb.2
   have mono : ∀ {t : Tree (Option FR)} {z : Sl e.den}, z.n = 0 → t.All (LikeC T e z) → t.All (LikeC T e ⟨0, fun _ => e.dflt⟩) := by
    intro t z hz
    induction t with
    | leaf a =>
     rintro ⟨s, rfl, hs⟩
     refine ⟨s, rfl, .inr ⟨?_, rfl⟩⟩
     rcases hs with rfl | hs
     ·exact hz
     ·exact hs.1
    | br b l r i1 i2 =>
     intro q
     cases b with
     | true => have := i1 (by simpa [Tree.All] using q); simpa [Tree.All] using this
     | false => have := i2 (by simpa [Tree.All] using q); simpa [Tree.All] using this
    | any l r i1 i2 => exact fun q => ⟨i1 q.1, i2 q.2⟩
   exact ⟨mono h1 (sureC_all hx), mono h2 (sureC_all hy)⟩
def FreshRow (P : Program) (S : CS) (w0 w : World) (T : TypeId) (e : Ty) (s : Sl e.den) (v : Value) (ob : Option Nat) : Prop :=
 R P (.sl e) S w s [v] ∧ ((ob = none ∧ s.n = 0 ∧ ∃ a, v = .slice a 0 0) ∨
  ∃ b cap arr, ob = some b ∧ v = .slice (some ⟨b, 0, none⟩) s.n cap ∧ s.n ≤ cap ∧ cap ≤ maxLen ∧ w.heap[b]? = some (.cells arr T (0, 0)) ∧ arr.size = cap * e.cells ∧ w0.heap.size ≤ b ∧ ∀ o, S b o → o < s.n * e.cells)
theorem FreshRow.like {T : TypeId} {e : Ty} {s sl : Sl e.den} {w0 : World} {v : Value} {ob : Option Nat} (h : FreshRow P S w0 w T e s v ob) (hs : s = sl ∨ s.n = 0 ∧ sl.n = 0) : FreshRow P S w0 w T e sl v ob := by
 rcases hs with rfl | ⟨h1, h2⟩
 ·exact h
 ·obtain ⟨hR, ho⟩ := h
  refine ⟨?_, ?_⟩
  ·rcases hR with ⟨_, a, cap, hv⟩ | ⟨b, o, cap, hv, q1, q2, _⟩
   ·exact .inl ⟨h2, a, cap, hv⟩
   ·exact .inr ⟨b, o, cap, by rw [h2, ← h1]; exact hv, by omega, q2, fun i hi => by omega⟩
  ·rw [h1] at ho
   rw [h2]
   exact ho
theorem chainD_holds {wr : Bool} (hm : P.follows .mixedOrders = true) (hΓ : Sound P Γ) (hE : EqSound P E.eq) (hK : KeySound P E.key) {f : FuncId} {fn : Func} {c : Code} (hf : P.funcs[f]? = some fn) (hb : fn.body = some c) {ls : List Loop}
  {t : Nat} (hres : fn.results = #[.tmp t]) {τa : Ty} {T : TypeId} {e : Ty} (hfl : e.flat = true) (hwr : wr = true → e.plain = true ∧ 0 < e.cells) (hl : ∀ G' : Gh, G'.lo = 0 → G'.Free → Env P E Γ G' Fence.wide → LsOK P fn.ntmps G' f Fence.wide 0 c ls)
  {R : τa.den → Option (Sl e.den)} (hR : ∀ x, (runC P E Γ fn ls t T e τa x).sureC T e = R x) : GHolds P f (chainD wr fn.ntmps τa T e R) := by
 intro N G s a w ρ S F hG h args us id0 hlen hargs hlo hall _
 unfold chainD at hall ⊢
 split at hall
 case h_2 => exact (hall .bad rfl rfl).elim
 rename_i x hn hx hno
 cases hs : R x with
 | none => rw [hs] at hall; exact absurd rfl (hall .bad rfl)
 | some sl =>
 have hfr := hR x
 rw [hs] at hfr
 have hR' := ofSlots_R hlen hargs hx
 have hus : us.length ≤ fn.ntmps := by rw [← hlen]; exact Nat.le_of_ble_eq_true hn
 have h0 := init_SRl (N := fn.ntmps) (l := G.l) h.bd hR' hus
 have hGc : (Gh.inner (fun _ => False) S w G.l 0 fun _ => none).Ok P := inner_ok fun _ _ q => by cases q
 have hEnv : Env P E Γ (Gh.inner (fun _ => False) S w G.l 0 fun _ => none) Fence.wide := ⟨hm, hΓ, hE, hK, hGc, .wide, fun _ => rfl⟩
 have hx := sureC_all hfr
 unfold runC at hx
 rw [hb] at hx
 refine (callsIn_wide (n := 0)).1 (callsIn_of_wpB hf hb trivial ?_)
 refine wpB_mono (exec_sound (G := Gh.inner (fun _ => False) S w G.l 0 fun _ => none) (K := outC t T e) (ch := Tree.any) (T := fun tt : Tree (Option FR) => tt.All (LikeC T e sl)) hEnv (fun a b q => q) ⟨(fun q => by obtain ⟨_, q, _⟩ := q; cases q), (fun s' q => by obtain ⟨_, q, _⟩ := q; cases q)⟩ hx (hl _ rfl inner_free hEnv) ⟨_, _, _, h0⟩) ?_
 rintro en a' w' ⟨o, ho, hT⟩
 have fin : ∀ s', SX P fn.ntmps (Gh.inner (fun _ => False) S w G.l 0 fun _ => none) s' a' w' → (outC t T e (.ret s')).All (LikeC T e sl) →
   LeavesInM Fence.wide 0 P fn a'.tmps (fun en w' => ∃ r, (Tree.br (some sl).isSome (.leaf (.ok ⟨some (freshS wr id0 e ((some sl).getD ⟨0, fun _ => e.dflt⟩)), [(id0, freshO wr T e ((some sl).getD ⟨0, fun _ => e.dflt⟩))], [id0], false, none⟩)) (.leaf .bad)).Has r ∧ CallPost P N G s a r en w') a'.defers .returning w' := by
  rintro s' ⟨ρ', S', F', hs⟩ hT
  have hmk : allMark s'.dfr = true := by
   simp only [outC] at hT
   cases hm : allMark s'.dfr with
   | true => rfl
   | false => rw [hm] at hT; obtain ⟨_, q, _⟩ := hT; cases q
  refine leaves_marks hGc (by simp) _ rfl hmk hs fun w'' q1 _ => ?_
  -- what the row is
  have hrow : ∃ ob : Option Nat, FreshRow P S' w w'' T e sl (a'.tmps.getD t undef) ob := by
   have hrc := q1.env t
   simp only [outC, hmk] at hT
   split at hT
   ·rename_i id v e' sl' _ hse
    split at hT
    case h_2 => obtain ⟨_, q, _⟩ := hT; cases q
    rename_i v' T' k n hse2
    split at hT
    case h_2 => obtain ⟨_, q, _⟩ := hT; cases q
    rename_i hc
    obtain ⟨s0, hT, hlike⟩ := hT
    have hT : some (⟨T', e', sl'⟩ : FR) = some ⟨T, e, s0⟩ := hT
    cases hT
    cases Nat.eq_of_beq_eq_true hc
    have hse : ({ s' with dfr := [] } : St).env t = .v (.own id v e s0) := hse
    have hse2 : ({ s' with dfr := [] } : St).heap id = .chain v T k n := hse2
    rw [hse] at hrc
    obtain ⟨r1, _, cur, T0, k0, n0, r2, _, r4⟩ := hrc
    rw [hse2] at r2
    cases r2
    obtain ⟨r5, r6, r7⟩ := r4 rfl
    subst r5 r6
    have hobj := q1.obj id
    rw [hse2] at hobj
    rcases r7 with ⟨g0, g1, g2⟩ | ⟨b, cap, arr, g1, g2, g3, g4, g5, g6⟩
    ·exact ⟨none, FreshRow.like (s := s0) ⟨r1, .inl ⟨rfl, g1, g2⟩⟩ hlike⟩
    ·rcases hobj with ⟨o1, _⟩ | ⟨b', o1, o2, o3, o4, o5⟩
     ·rw [g1] at o1; cases o1
     ·rw [g1] at o1; cases o1
      exact ⟨some b, FreshRow.like (s := s0) ⟨r1, .inr ⟨b, cap, arr, rfl, g2, g3, g4, g5, g6, o2.1.elim (fun x => x) (fun x => x.elim), o5⟩⟩ hlike⟩
   ·rename_i _ hse
    obtain ⟨s0, hT, hlike⟩ := hT
    have hT : some (⟨T, e, ⟨0, fun _ => e.dflt⟩⟩ : FR) = some ⟨T, e, s0⟩ := hT
    cases hT
    have hse : ({ s' with dfr := [] } : St).env t = .v .nils := hse
    rw [hse] at hrc
    obtain ⟨ad, hv⟩ := hrc
    exact ⟨none, FreshRow.like (s := ⟨0, fun _ => e.dflt⟩) ⟨.inl ⟨rfl, ad, 0, by rw [← hv]⟩, .inl ⟨rfl, rfl, ad, hv⟩⟩ hlike⟩
   ·obtain ⟨_, q, _⟩ := hT; cases q
  obtain ⟨ob, hv, hob⟩ := hrow
  cases wr with
  | true =>
   obtain ⟨hpl, hpos⟩ := hwr rfl
   have hS2 : SR P fn.ntmps (Gh.inner (fun _ => False) S w G.l 0 fun _ => none) ⟨fun _ => .top, fun i => bif Nat.beq i id0 then .row 0 T e sl else .none, .none, 0, []⟩ { a' with defers := [] } w''
     (fun i => bif Nat.beq i id0 then ob else none) (fun b' o => S' b' o ∧ ob ≠ some b') (fun _ => False) := by
    refine ⟨q1.size, trivial, fun _ => trivial, fun i => ?_, fun i j b' hi hj => ?_, ⟨q1.ext.size, fun b' o q => ⟨q1.ext.sub b' o q, fun e => ?_⟩, q1.ext.same, q1.ext.maps, fun b' o q => q1.ext.bd b' o q.1, q1.ext.pl⟩, fun b' o q => q1.new b' o q.1,
     q1.same.mono fun b' q => ⟨q.1, q.2.1, q.2.2⟩, inner_free _ _ _, fun _ q => q.elim, fun _ _ q => q, fun _ q => q, fun _ _ _ _ => trivial, fun _ _ q => by cases q⟩
    ·by_cases hi : i = id0
     ·subst hi
      simp only [Nat.beq_refl, cond_true]
      refine ⟨⟨hfl, hpos⟩, ?_⟩
      rcases hob with ⟨g0, g1, _⟩ | ⟨b, cap, arr, g0, g1, g2, g3, g4, g5, g6, g7⟩
      ·exact .inl ⟨by simp [g0], g1⟩
      ·refine .inr ⟨b, arr, by simp [g0], ⟨.inl g6, fun q => q⟩, g4, by rw [g5]; exact Nat.mul_le_mul_right _ g2, fun k hk => ⟨encs e (sl.g k), (Go.Dm.R.plain hpl).2 rfl, encs_len _ _ hpl, fun j u hu => ?_⟩, fun o q => q.2 (by rw [g0])⟩
       rcases hv with ⟨r0, _⟩ | ⟨b', o', cap', m1, m2, m3, m4⟩
       ·omega
       ·have m1 := (List.cons.inj m1).1
        rw [g1] at m1
        cases m1
        obtain ⟨us', m5, m6, m7⟩ := m4 k hk
        rw [(Go.Dm.R.plain hpl).1 m5] at m7
        obtain ⟨_, m8⟩ := m7 j u hu
        rw [cell_of_row w'' b _ arr T _ g4] at m8
        rw [← m8]; congr 1; omega
     ·simp only [beq_ne hi, cond_false]; trivial
    ·by_cases hi' : i = id0
     ·by_cases hj' : j = id0
      ·rw [hi', hj']
      ·have hj := hj.lv; simp only [beq_ne hj', cond_false] at hj; exact hj.elim
     ·have hi := hi.lv; simp only [beq_ne hi', cond_false] at hi; exact hi.elim
    ·rcases hob with ⟨g0, _⟩ | ⟨b, cap, arr, g0, g1, g2, g3, g4, g5, g6, g7⟩
     ·rw [g0] at e; cases e
     ·rw [g0] at e; cases e
      have := h.bd b' o q
      omega
   have hback := h.back hG (D := fun i => Nat.beq i id0) hS2 (fun b hb => hb.elim) (fun id hn => by
     cases hb : Nat.beq id id0 with
     | true => rfl
     | false => simp only [hb, cond_false] at hn; exact absurd rfl hn)
    (fun id hid => by rw [Nat.eq_of_beq_eq_true hid, hno]; trivial) (fun id b hid hb => by have := hG.pin id b hb; have := Nat.eq_of_beq_eq_true hid; omega)
   have hr0 : (results fn a'.tmps).run P w'' = .ok (a'.tmps.getD t undef) w'' := by
    simp [results, hres]
   refine ⟨_, hr0, .ok ⟨some (.v (.row id0 0)), [(id0, .row 0 T e sl)], [id0], false, none⟩, rfl, _, _, _, _, rfl, hback.of_eq rfl ?_ rfl rfl, ?_⟩
   ·funext i
    show putH s.heap [(id0, .row 0 T e sl)] i = over (fun i => Nat.beq i id0) (fun i => bif Nat.beq i id0 then .row 0 T e sl else .none) s.heap i
    by_cases hi : i = id0
    ·subst hi; simp [putH, setHeap, over]
    ·simp [putH, setHeap, over, beq_ne hi]
   ·show RC P G.Y (fun b' o => S' b' o ∧ ob ≠ some b') w'' (putH s.heap [(id0, .row 0 T e sl)]) (overR (fun i => Nat.beq i id0) (fun i => bif Nat.beq i id0 then ob else none) ρ) (.row id0 0) (a'.tmps.getD t undef)
    have hh : putH s.heap [(id0, .row 0 T e sl)] id0 = .row 0 T e sl := by simp [putH, setHeap]
    refine ⟨by rw [hh]; simp, ?_, fun cu1 T1 e1 s1 hd => ?_⟩
    ·rcases hob with ⟨_, _, ad, g2⟩ | ⟨b, cap, arr, g0, g1, _⟩
     ·exact ⟨_, _, _, g2⟩
     ·exact ⟨_, _, _, g1⟩
    ·rw [hh] at hd
     cases hd
     refine ⟨Nat.le_refl _, fun _ => ?_⟩
     rcases hob with ⟨g0, g1, ad, g2⟩ | ⟨b, cap, arr, g0, g1, g2, g3, g4, g5, g6, g7⟩
     ·exact .inl ⟨g1, ad, g2⟩
     ·exact .inr ⟨b, cap, by simp [overR, g0], g1, g2, g3, (Array.getElem?_eq_some_iff.1 g4).1, fun arr1 T1 f1 ha => by rw [g4] at ha; cases ha; exact g5⟩
  | false =>
   have hS2 : SR P fn.ntmps (Gh.inner (fun _ => False) S w G.l 0 fun _ => none) ⟨fun _ => .top, fun i => bif Nat.beq i id0 then .chain 0 T e.cells sl.n else .none, .none, 0, []⟩ { a' with defers := [] } w''
     (fun i => bif Nat.beq i id0 then ob else none) S' (fun _ => False) := by
    refine ⟨q1.size, trivial, fun _ => trivial, fun i => ?_, fun i j b' hi hj => ?_, q1.ext, q1.new,
     q1.same.mono fun b' q => ⟨q.1, q.2.1, q.2.2⟩, inner_free _ _ _, fun _ q => q.elim, fun _ _ q => q, fun _ q => q, fun _ _ _ _ => trivial, fun _ _ q => by cases q⟩
    ·by_cases hi : i = id0
     ·subst hi
      simp only [Nat.beq_refl, cond_true]
      rcases hob with ⟨g0, g1, _⟩ | ⟨b, cap, arr, g0, g1, g2, g3, g4, g5, g6, g7⟩
      ·exact .inl ⟨by simp [g0], g1⟩
      ·exact .inr ⟨b, by simp [g0], ⟨.inl g6, fun q => q⟩, (Array.getElem?_eq_some_iff.1 g4).1, ⟨_, _, _, g4⟩, g7⟩
     ·simp only [beq_ne hi, cond_false]; trivial
    ·by_cases hi' : i = id0
     ·by_cases hj' : j = id0
      ·rw [hi', hj']
      ·have hj := hj.lv; simp only [beq_ne hj', cond_false] at hj; exact hj.elim
     ·have hi := hi.lv; simp only [beq_ne hi', cond_false] at hi; exact hi.elim
   have hback := h.back hG (D := fun i => Nat.beq i id0) hS2 (fun b hb => hb.elim) (fun id hn => by
     cases hb : Nat.beq id id0 with
     | true => rfl
     | false => simp only [hb, cond_false] at hn; exact absurd rfl hn)
    (fun id hid => by rw [Nat.eq_of_beq_eq_true hid, hno]; trivial) (fun id b hid hb => by have := hG.pin id b hb; have := Nat.eq_of_beq_eq_true hid; omega)
   have hr0 : (results fn a'.tmps).run P w'' = .ok (a'.tmps.getD t undef) w'' := by
    simp [results, hres]
   refine ⟨_, hr0, .ok ⟨some (.v (.own id0 0 e sl)), [(id0, .chain 0 T e.cells sl.n)], [id0], false, none⟩, rfl, _, _, _, _, rfl, hback.of_eq rfl ?_ rfl rfl, ?_⟩
   ·funext i
    show putH s.heap [(id0, .chain 0 T e.cells sl.n)] i = over (fun i => Nat.beq i id0) (fun i => bif Nat.beq i id0 then .chain 0 T e.cells sl.n else .none) s.heap i
    by_cases hi : i = id0
    ·subst hi; simp [putH, setHeap, over]
    ·simp [putH, setHeap, over, beq_ne hi]
   ·show RC P G.Y S' w'' (putH s.heap [(id0, .chain 0 T e.cells sl.n)]) (overR (fun i => Nat.beq i id0) (fun i => bif Nat.beq i id0 then ob else none) ρ) (.own id0 0 e sl) (a'.tmps.getD t undef)
    have hh : putH s.heap [(id0, .chain 0 T e.cells sl.n)] id0 = .chain 0 T e.cells sl.n := by simp [putH, setHeap]
    refine ⟨hv, hfl, 0, T, e.cells, sl.n, hh, Nat.le_refl _, fun _ => ⟨rfl, rfl, ?_⟩⟩
    rcases hob with ⟨g0, g1, ad, g2⟩ | ⟨b, cap, arr, g0, g1, g2, g3, g4, g5, g6, g7⟩
    ·exact .inl ⟨by simp [overR, g0], g1, ad, g2⟩
    ·exact .inr ⟨b, cap, arr, by simp [overR, g0], g1, g2, g3, g4, g5⟩
 cases o with
 | norm s => cases en <;> first | exact ho.elim | exact fin s ho hT
 | ret s => cases en <;> first | exact ho.elim | exact fin s ho hT
 | exit id s => obtain ⟨_, q, _⟩ := hT; cases q
 | pan d s => obtain ⟨_, q, _⟩ := hT; cases q
 | bad => obtain ⟨_, q, _⟩ := hT; cases q
end Go.Dm
namespace Go.Dm
open Go.RowKit
def cl {α β : Type} (d : α) (m : Option α) (f : α → β) (g : β) : β := bif m.isSome then f (m.getD d) else g
theorem sure_cl {γ : Type} {α : Type} (d : α) (m : Option α) (f : α → Tree (Option γ)) (g : Tree (Option γ)) : Tree.sure (cl d m f g) = cl d m (fun y => Tree.sure (f y)) (Tree.sure g) := by unfold cl; cases m.isSome <;> rfl
theorem detB_cl {γ : Type} (bad : γ) {α : Type} (d : α) (m : Option α) (f : α → Tree γ) (g : Tree γ) : Tree.detB bad (cl d m f g) = cl d m (fun y => Tree.detB bad (f y)) (Tree.detB bad g) := by unfold cl; cases m.isSome <;> rfl
theorem detQ_cl {ps0 : List Pat} {wy0 : Ways} {α : Type} (d : α) (m : Option α) (f : α → Tree (RQ ps0 wy0)) (g : Tree (RQ ps0 wy0)) : detQ (cl d m f g) = cl d m (fun y => detQ (f y)) (detQ g) := by unfold cl; cases m.isSome <;> rfl
theorem lift_cl {C : Type} {vs0 ps0 : List Pat} {wv0 wy0 : Ways} {join : C → (patsTy vs0).den → (patsTy ps0).den} {je : (id : Nat) → C → (patsTy (wayP wv0 id)).den → (patsTy (wayP wy0 id)).den} {jr : C → (patsTy wv0.ret).den → (patsTy wy0.ret).den} {jp : C → (patsTy wv0.pan).den → (patsTy wy0.pan).den} {c : C} {α : Type} (d : α) (m : Option α) (f : α → RQ vs0 wv0) (g : RQ vs0 wv0) : RQ.lift join je jr jp c (cl d m f g) = cl d m (fun y => RQ.lift join je jr jp c (f y)) (RQ.lift join je jr jp c g) := by unfold cl; cases m.isSome <;> rfl
def onExit {wy : Ways} {β : Type} (q : LQ wy) (id : Nat) (f : (patsTy (wayP wy id)).den → β) (g : β) : β := bif (q.isExit id) then f (q.getExit id) else g
theorem sure_onExit {γ : Type} {wy : Ways} (q : LQ wy) (id : Nat) (f : (patsTy (wayP wy id)).den → Tree (Option γ)) (g : Tree (Option γ)) : Tree.sure (onExit q id f g) = onExit q id (fun y => Tree.sure (f y)) (Tree.sure g) := by unfold onExit; cases (q.isExit id) <;> rfl
theorem detB_onExit {γ : Type} (bad : γ) {wy : Ways} (q : LQ wy) (id : Nat) (f : (patsTy (wayP wy id)).den → Tree γ) (g : Tree γ) : Tree.detB bad (onExit q id f g) = onExit q id (fun y => Tree.detB bad (f y)) (Tree.detB bad g) := by unfold onExit; cases (q.isExit id) <;> rfl
theorem detQ_onExit {ps0 : List Pat} {wy0 : Ways} {wy : Ways} (q : LQ wy) (id : Nat) (f : (patsTy (wayP wy id)).den → Tree (RQ ps0 wy0)) (g : Tree (RQ ps0 wy0)) : detQ (onExit q id f g) = onExit q id (fun y => detQ (f y)) (detQ g) := by unfold onExit; cases (q.isExit id) <;> rfl
theorem lift_onExit {C : Type} {vs0 ps0 : List Pat} {wv0 wy0 : Ways} {join : C → (patsTy vs0).den → (patsTy ps0).den} {je : (id : Nat) → C → (patsTy (wayP wv0 id)).den → (patsTy (wayP wy0 id)).den} {jr : C → (patsTy wv0.ret).den → (patsTy wy0.ret).den} {jp : C → (patsTy wv0.pan).den → (patsTy wy0.pan).den} {c : C} {wy : Ways} (q : LQ wy) (id : Nat) (f : (patsTy (wayP wy id)).den → RQ vs0 wv0) (g : RQ vs0 wv0) : RQ.lift join je jr jp c (onExit q id f g) = onExit q id (fun y => RQ.lift join je jr jp c (f y)) (RQ.lift join je jr jp c g) := by unfold onExit; cases (q.isExit id) <;> rfl
def onRet {wy : Ways} {β : Type} (q : LQ wy) (f : (patsTy wy.ret).den → β) (g : β) : β := bif q.isRet then f q.getRet else g
theorem sure_onRet {γ : Type} {wy : Ways} (q : LQ wy) (f : (patsTy wy.ret).den → Tree (Option γ)) (g : Tree (Option γ)) : Tree.sure (onRet q f g) = onRet q (fun y => Tree.sure (f y)) (Tree.sure g) := by unfold onRet; cases q.isRet <;> rfl
theorem detQ_onRet {ps0 : List Pat} {wy0 : Ways} {wy : Ways} (q : LQ wy) (f : (patsTy wy.ret).den → Tree (RQ ps0 wy0)) (g : Tree (RQ ps0 wy0)) : detQ (onRet q f g) = onRet q (fun y => detQ (f y)) (detQ g) := by unfold onRet; cases q.isRet <;> rfl
theorem lift_onRet {C : Type} {vs0 ps0 : List Pat} {wv0 wy0 : Ways} {join : C → (patsTy vs0).den → (patsTy ps0).den} {je : (id : Nat) → C → (patsTy (wayP wv0 id)).den → (patsTy (wayP wy0 id)).den} {jr : C → (patsTy wv0.ret).den → (patsTy wy0.ret).den} {jp : C → (patsTy wv0.pan).den → (patsTy wy0.pan).den} {c : C} {wy : Ways} (q : LQ wy) (f : (patsTy wy.ret).den → RQ vs0 wv0) (g : RQ vs0 wv0) : RQ.lift join je jr jp c (onRet q f g) = onRet q (fun y => RQ.lift join je jr jp c (f y)) (RQ.lift join je jr jp c g) := by unfold onRet; cases q.isRet <;> rfl
def onPanL {wy : Ways} {β : Type} (q : LQ wy) (T : TypeId) (τ : Ty) (f : τ.den × (patsTy wy.pan).den → β) (g : β) : β := bif (q.isPan T τ) then f (q.getPan τ, q.getPanY) else g
theorem sure_onPanL {γ : Type} {wy : Ways} (q : LQ wy) (T : TypeId) (τ : Ty) (f : τ.den × (patsTy wy.pan).den → Tree (Option γ)) (g : Tree (Option γ)) : Tree.sure (onPanL q T τ f g) = onPanL q T τ (fun y => Tree.sure (f y)) (Tree.sure g) := by unfold onPanL; cases (q.isPan T τ) <;> rfl
theorem detB_onPanL {γ : Type} (bad : γ) {wy : Ways} (q : LQ wy) (T : TypeId) (τ : Ty) (f : τ.den × (patsTy wy.pan).den → Tree γ) (g : Tree γ) : Tree.detB bad (onPanL q T τ f g) = onPanL q T τ (fun y => Tree.detB bad (f y)) (Tree.detB bad g) := by unfold onPanL; cases (q.isPan T τ) <;> rfl
def onNext {mps : List Pat} {β : Type} (o : RO mps) (f : (patsTy mps).den → β) (g : β) : β := bif o.isNext then f o.getX else g
theorem sure_onNext {γ : Type} {mps : List Pat} (o : RO mps) (f : (patsTy mps).den → Tree (Option γ)) (g : Tree (Option γ)) : Tree.sure (onNext o f g) = onNext o (fun y => Tree.sure (f y)) (Tree.sure g) := by unfold onNext; cases o.isNext <;> rfl
def onBrk {mps : List Pat} {β : Type} (o : RO mps) (id : Nat) (f : (patsTy mps).den → β) (g : β) : β := bif (o.isBrk id) then f o.getX else g
theorem sure_onBrk {γ : Type} {mps : List Pat} (o : RO mps) (id : Nat) (f : (patsTy mps).den → Tree (Option γ)) (g : Tree (Option γ)) : Tree.sure (onBrk o id f g) = onBrk o id (fun y => Tree.sure (f y)) (Tree.sure g) := by unfold onBrk; cases (o.isBrk id) <;> rfl
def onRetO {mps : List Pat} {β : Type} (o : RO mps) (f : (patsTy mps).den → β) (g : β) : β := bif o.isRet then f o.getX else g
theorem sure_onRetO {γ : Type} {mps : List Pat} (o : RO mps) (f : (patsTy mps).den → Tree (Option γ)) (g : Tree (Option γ)) : Tree.sure (onRetO o f g) = onRetO o (fun y => Tree.sure (f y)) (Tree.sure g) := by unfold onRetO; cases o.isRet <;> rfl
def onOk {τr : Ty} {qs : List Pat} {β : Type} (o : GO τr qs) (f : τr.den × (patsTy qs).den → β) (g : β) : β := bif o.isOk then f (o.getR, o.getY) else g
theorem sure_onOk {γ : Type} {τr : Ty} {qs : List Pat} (o : GO τr qs) (f : τr.den × (patsTy qs).den → Tree (Option γ)) (g : Tree (Option γ)) : Tree.sure (onOk o f g) = onOk o (fun y => Tree.sure (f y)) (Tree.sure g) := by unfold onOk; cases o.isOk <;> rfl
def onGPan {τr : Ty} {qs : List Pat} {β : Type} (o : GO τr qs) (T : TypeId) (τ : Ty) (f : τ.den × (patsTy qs).den → β) (g : β) : β := bif (o.isPan T τ) then f (o.getPan τ, o.getY) else g
theorem sure_onGPan {γ : Type} {τr : Ty} {qs : List Pat} (o : GO τr qs) (T : TypeId) (τ : Ty) (f : τ.den × (patsTy qs).den → Tree (Option γ)) (g : Tree (Option γ)) : Tree.sure (onGPan o T τ f g) = onGPan o T τ (fun y => Tree.sure (f y)) (Tree.sure g) := by unfold onGPan; cases (o.isPan T τ) <;> rfl
@[simp] theorem cl_some {α β : Type} (d r : α) (f : α → β) (g : β) : cl d (some r) f g = f r := rfl
@[simp] theorem onExit_exit {wy : Ways} {β : Type} (id : Nat) (y : (patsTy (wayP wy id)).den) (f : (patsTy (wayP wy id)).den → β) (g : β) : onExit (LQ.exit id y) id f g = f y := by
 unfold onExit
 rw [LQ.getExit_exit, LQ.isExit_exit, Nat.beq_refl]
 rfl
end Go.Dm
namespace Go.Dm
open Go.RowKit
variable {P : Program} {N N' : Nat} {G : Gh} {S S' S2 : CS} {w w' w2 : World} {s s2 : St} {a a2 : Act} {ρ ρ' ρ2 : Rho} {F F' F2 : Nat → Prop} {heap heap' H' H2 : Nat → DObj} {Y : Value} {E : TCtx} {Γ : Ctx} {Fw : Fence} {r : Nat} {ops : Array Oper} {lo base : Nat} {dfr : List Dfr} {vr vr' : Nat → Nat}
def Gh.inY (G : Gh) (F : Nat → Prop) (M : Nat → Prop) (S : CS) (w : World) (lo : Nat) (pin : Nat → Option Nat) : Gh := ⟨M, F, S, w, G.e, G.C, G.items, G.l, G.SI, lo, pin⟩
theorem inY_ok (hG : G.Ok P) {M : Nat → Prop} {pin : Nat → Option Nat} (hp : ∀ id b, pin id = some b → id < lo) : (Gh.inY G F M S w lo pin).Ok P := ⟨hG.c, hG.y, hp⟩
theorem SR.enterY (h : SR P N G s a w ρ S F) {lo : Nat} : SR P N (Gh.inY G F (seen w s.heap ρ) S w lo (pinOf s.heap ρ)) { s with dfr := [] } { a with defers := [] } w ρ S F := by
 have alwO : ∀ id b, Own w ρ id (s.heap id) b → Alw (Gh.inY G F (seen w s.heap ρ) S w lo (pinOf s.heap ρ)) F b := fun id b h1 => ⟨.inr ⟨id, h1⟩, (h.blkO h1).2.1.2⟩
 have alw : ∀ id b, live (s.heap id) → ρ id = some b → Alw (Gh.inY G F (seen w s.heap ρ) S w lo (pinOf s.heap ρ)) F b := fun id b h1 h2 => alwO id b (.of h1 h2)
 refine ⟨h.size, trivial, h.env, fun id => ?_, h.inj, .refl h.bd, fun _ _ q => .inl q, .refl _ _, h.tr, h.fb, fun _ _ q => q, fun _ q => q, h.fs, fun id b hb => ?_⟩
 ·have := h.obj id
  cases ho : s.heap id with
  | none => simp only [ho]; trivial
  | gone => simp only [ho]; trivial
  | box ds =>
   rw [ho] at this
   obtain ⟨b, arr, T, q1, q2, q3⟩ := this
   simp only [ho]
   exact ⟨b, arr, T, q1, alw id b (by rw [ho]; trivial) q1, q3⟩
  | chain cur T k n =>
   rw [ho] at this
   simp only [ho]
   rcases this with ⟨q1, q2⟩ | ⟨b, q1, q2, q3⟩
   ·exact .inl ⟨q1, q2⟩
   ·exact .inr ⟨b, q1, alw id b (by rw [ho]; trivial) q1, q3⟩
  | row cur T e x =>
   rw [ho] at this
   simp only [ho]
   obtain ⟨q0, ⟨q1, q2⟩ | ⟨b, arr, q1, q2, q3⟩⟩ := this
   ·exact ⟨q0, .inl ⟨q1, q2⟩⟩
   ·exact ⟨q0, .inr ⟨b, arr, q1, alw id b (by rw [ho]; trivial) q1, q3⟩⟩
  | mp k v m =>
   rw [ho] at this
   obtain ⟨b, es, c, q1, q2, q3⟩ := this
   simp only [ho]
   exact ⟨b, es, c, q1, alw id b (by rw [ho]; trivial) q1, q3⟩
  | rows cur T e d =>
   rw [ho] at this
   simp only [ho]
   obtain ⟨q0, b, arr, T', q1, q2, q3, q4, q5, q6, q7⟩ := this
   refine ⟨q0, b, arr, T', q1, alw id b (by rw [ho]; trivial) q1, q3, q4, q5, q6, fun i hi => ?_⟩
   obtain ⟨ad, cap, z1, z2⟩ := q7 i hi
   refine ⟨ad, cap, z1, z2.imp (fun x => x) fun ⟨z0, b', arr', T'', z3, z4, z5, z6⟩ => ⟨z0, b', arr', T'', z3, z4, alwO id b' ?_, z6⟩⟩
   rw [ho]
   exact .inr ⟨i, (d.g i).n - 1, cap, b, arr, T', q1, q3, by rw [← z3, Nat.sub_add_cancel (by omega)]; exact z1⟩
 ·have hb : pinOf s.heap ρ id = some b := hb
  unfold pinOf at hb
  show ρ id = some b ∧ isChain (s.heap id) = false
  split at hb
  ·rename_i ho; rw [ho]; exact ⟨hb, rfl⟩
  ·rename_i ho; rw [ho]; exact ⟨hb, rfl⟩
  ·rename_i ho; rw [ho]; exact ⟨hb, rfl⟩
  ·rename_i ho; rw [ho]; exact ⟨hb, rfl⟩
  ·cases hb
theorem SR.backY (hG : G.Ok P) (h : SR P N G s a w ρ S F) {D : Nat → Bool} {M : Nat → Prop} {lo : Nat} {pin : Nat → Option Nat} (h2 : SR P N' (Gh.inY G F M S w lo pin) s2 a2 w2 ρ2 S2 F2)
  (hM : ∀ b, M b → ∃ id, D id = true ∧ Own w ρ id (s.heap id) b) (hD : ∀ id, s2.heap id ≠ .none → D id = true)
  (hK : ∀ id, D id = true → Kept w w2 ρ ρ2 id (s.heap id) (s2.heap id)) (hpin : ∀ id b, D id = true → G.pin id = some b → ρ2 id = some b ∧ isChain (s2.heap id) = false) :
  SR P N G { s with heap := over D s2.heap s.heap, tr := s2.tr } a w2 (overR D ρ2 ρ) S2 F2 := by
 have hMF : ∀ b, M b → ¬ F b := fun b hb hF => by
  obtain ⟨id, _, hl⟩ := hM b hb
  exact (h.blkO hl).2.1.2 hF
 have hMA : ∀ b, M b → G.w0.heap.size ≤ b ∨ G.M b := fun b hb => by
  obtain ⟨id, _, hl⟩ := hM b hb
  exact (h.blkO hl).2.1.1
 have hf2 : ∀ b, b < w.heap.size → F2 b → F b := fun b hb q => h2.f0 b hb q
 have hsub : ∀ b, F b → F2 b := fun b q => h2.sub b q
 have hsame : ∀ b, b < w.heap.size → ¬ M b → ¬ F b → w2.heap[b]? = w.heap[b]? := fun b hb hn hf => h2.same.block b ⟨hb, hn, hf⟩
 have hotherO : ∀ id b, D id = false → Own w ρ id (s.heap id) b → ¬ M b := fun id b hd hl hm => by
  obtain ⟨id', hd', hl'⟩ := hM b hm
  have := h.inj id' id b hl' hl
  rw [this, hd] at hd'; cases hd'
 have hother : ∀ id b, D id = false → live (s.heap id) → ρ id = some b → ¬ M b := fun id b hd hl hr => hotherO id b hd (.of hl hr)
 have hk : ∀ id, Kept w w2 ρ (overR D ρ2 ρ) id (s.heap id) (over D s2.heap s.heap id) := fun id => by
  cases hd : D id with
  | true =>
   have := hK id hd
   have e1 : over D s2.heap s.heap id = s2.heap id := by simp [over, hd]
   have e2 : overR D ρ2 ρ id = ρ2 id := by simp [overR, hd]
   rw [e1]
   cases ho : s.heap id with
   | none => trivial
   | gone => rw [ho] at this; exact this
   | box ds => rw [ho] at this; exact this.imp (fun q => q) fun q => ⟨q.1, e2.trans q.2⟩
   | chain cur T k n =>
    rw [ho] at this
    obtain ⟨cur', n', q1, q2, q3⟩ := this
    exact ⟨cur', n', q1, q2, fun q => ⟨(q3 q).1, e2.trans (q3 q).2.1, (q3 q).2.2⟩⟩
   | row cur T e x => rw [ho] at this; exact this.imp (fun q => q) fun ⟨c', x', q1, q2, q3⟩ => ⟨c', x', q1, q2, fun q => ⟨(q3 q).1, (q3 q).2.imp (fun z => e2.trans z) (fun z => z)⟩⟩
   | mp k v m => rw [ho] at this; exact this.imp (fun q => q) fun q => ⟨q.1, e2.trans q.2⟩
   | rows cur T e d => rw [ho] at this; exact this.imp (fun q => q) fun ⟨c', d', q1, q2, q3, q4, q5⟩ => ⟨c', d', q1, q2, q3, e2.trans q4, q5⟩
  | false =>
   have e1 : over D s2.heap s.heap id = s.heap id := by simp [over, hd]
   rw [e1]
   exact .refl (by simp [overR, hd]) fun b hb hl => hsame b (h.blk_lt hl hb).1 (hother id b hd hl hb) (h.blk_lt hl hb).2.1.2
 have hm : ∀ id, s2.heap id ≠ .none → over D s2.heap s.heap id = s2.heap id ∧ overR D ρ2 ρ id = ρ2 id := fun id hn => by simp [over, overR, hD id hn]
 have ex : Ext0 S w S2 w2 := h2.ext
 have hSnew : ∀ b o, S2 b o → S b o ∨ w.heap.size ≤ b ∨ M b := h2.new
 have hsz : w.heap.size ≤ w2.heap.size := ex.size
 have alw : ∀ b, Alw (Gh.inY G F M S w lo pin) F2 b → Alw G F2 b := fun b ⟨q, q'⟩ => by
  rcases q with q | q
  ·have q : w.heap.size ≤ b := q
   exact ⟨.inl (Nat.le_trans h.ext.size q), q'⟩
  ·exact ⟨hMA b q, q'⟩
 refine ⟨h.size, h.dfr.tr hk fun Db hF hDb => ⟨(hsame Db (Array.getElem?_eq_some_iff.1 hDb).1 (fun hm => ?_) hF).trans hDb, fun q => hF (hf2 Db (Array.getElem?_eq_some_iff.1 hDb).1 q)⟩, fun t => (h.env t).tr ex hk, fun id => ?_, fun i j b hi hj => ?_,
  h.ext.trans ex, fun b o q => ?_, h.same.trans ⟨h2.same.os, h2.same.tape, h2.same.output, hsz, fun b hb => ?_⟩, h2.tr,
  h2.fb, fun b hb x => h.f0 b hb (hf2 b (Nat.lt_of_lt_of_le hb h.ext.size) x), fun b x => hsub b (h.sub b x), h2.fs, fun id b hb => ?_⟩
 ·obtain ⟨id, _, hl⟩ := hM Db hm
  exact (h.blkO hl).2.2 hDb
 ·cases hd : D id with
  | false =>
   have e1 : over D s2.heap s.heap id = s.heap id := by simp [over, hd]
   show OI P G S2 w2 (over D s2.heap s.heap) (overR D ρ2 ρ) F2 id (over D s2.heap s.heap id)
   rw [e1]
   refine (h.obj id).tr ex hk (by simp [overR, hd]) fun b hb => ⟨hsame b (h.blkO hb).1 (hotherO id b hd hb) (h.blkO hb).2.1.2, fun i q => ?_, hf2 b (h.blkO hb).1⟩
   rcases hSnew b i q with q | q | q
   ·exact q
   ·have := (h.blkO hb).1; omega
   ·exact absurd q (hotherO id b hd hb)
  | true =>
   have e1 : over D s2.heap s.heap id = s2.heap id := by simp [over, hd]
   have e2 : overR D ρ2 ρ id = ρ2 id := by simp [overR, hd]
   show OI P G S2 w2 (over D s2.heap s.heap) (overR D ρ2 ρ) F2 id (over D s2.heap s.heap id)
   rw [e1]
   have := h2.obj id
   cases ho : s2.heap id with
   | none => trivial
   | gone => trivial
   | box ds =>
    rw [ho] at this
    obtain ⟨b, arr, T, q1, q2, q3, q4, q5⟩ := this
    exact ⟨b, arr, T, e2.trans q1, alw b q2, q3, q4.imp fun d u hd => hd.move hm, q5⟩
   | chain cur T k n =>
    rw [ho] at this
    rcases this with ⟨q1, q2⟩ | ⟨b, q1, q2, q3⟩
    ·exact .inl ⟨e2.trans q1, q2⟩
    ·exact .inr ⟨b, e2.trans q1, alw b q2, q3⟩
   | row cur T e x =>
    rw [ho] at this
    obtain ⟨q0, ⟨q1, q2⟩ | ⟨b, arr, q1, q2, q3⟩⟩ := this
    ·exact ⟨q0, .inl ⟨e2.trans q1, q2⟩⟩
    ·exact ⟨q0, .inr ⟨b, arr, e2.trans q1, alw b q2, q3⟩⟩
   | mp k v m =>
    rw [ho] at this
    obtain ⟨b, es, c, q1, q2, q3⟩ := this
    exact ⟨b, es, c, e2.trans q1, alw b q2, q3⟩
   | rows cur T e x =>
    rw [ho] at this
    obtain ⟨q0, b, arr, T', q1, q2, q3, q4, q5, q6, q7⟩ := this
    refine ⟨q0, b, arr, T', e2.trans q1, alw b q2, q3, q4, q5, q6, fun i hi => ?_⟩
    obtain ⟨ad, cap, z1, z2⟩ := q7 i hi
    exact ⟨ad, cap, z1, z2.imp (fun x => x) fun ⟨z0, b', arr', T'', z3, z4, z5, z6⟩ => ⟨z0, b', arr', T'', z3, z4, alw b' z5, z6⟩⟩
 ·have hi : Own w2 (overR D ρ2 ρ) i (over D s2.heap s.heap i) b := hi
  have hj : Own w2 (overR D ρ2 ρ) j (over D s2.heap s.heap j) b := hj
  have inn : ∀ i, D i = true → Own w2 (overR D ρ2 ρ) i (over D s2.heap s.heap i) b → Own w2 ρ2 i (s2.heap i) b := fun i di q => by
   rw [show over D s2.heap s.heap i = s2.heap i by simp [over, di]] at q
   exact q.back (by simp [overR, di]) fun _ _ _ => rfl
  have out : ∀ i, D i = false → Own w2 (overR D ρ2 ρ) i (over D s2.heap s.heap i) b → Own w ρ i (s.heap i) b := fun i di q => by
   rw [show over D s2.heap s.heap i = s.heap i by simp [over, di]] at q
   exact q.back (by simp [overR, di]) fun b q1 q2 => hsame b (h.blk_lt q2 q1).1 (hother i b di q2 q1) (h.blk_lt q2 q1).2.1.2
  have mixed : ∀ i j, D j = false → Own w2 ρ2 i (s2.heap i) b → Own w ρ j (s.heap j) b → False := fun i j dj li lj => by
   have hb := (h.blkO lj).1
   rcases (h2.blkO li).2.1.1 with q | q
   ·have q : w.heap.size ≤ b := q
    omega
   ·exact hotherO j b dj lj q
  cases di : D i with
  | true =>
   cases dj : D j with
   | true => exact h2.inj i j b (inn i di hi) (inn j dj hj)
   | false => exact (mixed i j dj (inn i di hi) (out j dj hj)).elim
  | false =>
   cases dj : D j with
   | true => exact (mixed j i di (inn j dj hj) (out i di hi)).elim
   | false => exact h.inj i j b (out i di hi) (out j dj hj)
 ·rcases hSnew b o q with q | q | q
  ·exact h.new b o q
  ·exact .inr (.inl (Nat.le_trans h.ext.size q))
  ·exact .inr (hMA b q)
 ·obtain ⟨q1, q2, q3⟩ := hb
  refine hsame b (Nat.lt_of_lt_of_le q1 h.ext.size) (fun q => ?_) fun q => q3 (h.f0 b q1 q)
  rcases hMA b q with q | q
  ·omega
  ·exact q2 q
 ·show overR D ρ2 ρ id = some b ∧ isChain (over D s2.heap s.heap id) = false
  cases hd : D id with
  | true =>
   rw [overR, over, hd, cond_true, cond_true]
   exact hpin id b hd hb
  | false =>
   rw [overR, over, hd, cond_false, cond_false]
   exact h.pins id b hb
end Go.Dm

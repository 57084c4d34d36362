/- The reference's landing; the law KiteLands. -/
import Derived.Test.YtlfgdpjompacjaaL14NP22
set_option linter.unusedVariables false
set_option linter.unusedSimpArgs false
namespace Go.Dm
set_option maxRecDepth 100000

theorem iterQ_fold {ps : List Pat} {wy : Ways} {step : (patsTy ps).den → RQ ps wy} {N : Nat} {α : Type} {up : α → Int → α} {lo hi : Int} {mk : Int → α → (patsTy ps).den} {q : α → LQ wy} (hN : lens lo hi < N)
    (h1 : ∀ x a, lo ≤ x → x ≤ hi → step (mk x a) = .next (mk (x + 1) (up a x))) (h2 : ∀ x a, hi < x → step (mk x a) = .out (q a)) (a : α) : iterQ step N (mk lo a) = q ((span3 lo hi).foldl up a) := by
  have key : ∀ (c n : Nat) (x : Int) (a : α), c < n → lo ≤ x → x + (c : Int) = lo + ((lens lo hi : Nat) : Int) → iterQ step n (mk x a) = q ((rng c x).foldl up a) := by
    intro c
    induction c with
    | zero =>
      intro n x a hn hx he
      cases n with
      | zero => omega
      | succ n =>
        have hlt : hi < x := by unfold lens at he; omega
        simp only [iterQ, h2 x a hlt]; rfl
    | succ c ih =>
      intro n x a hn hx he
      cases n with
      | zero => omega
      | succ n =>
        have hle : x ≤ hi := by unfold lens at he; omega
        simp only [iterQ, h1 x a hx hle]
        rw [ih n (x + 1) (up a x) (by omega) (by omega) (by omega)]
        rfl
  exact key (lens lo hi) N lo a hN (Int.le_refl _) rfl
/-- One more trip, as the reference widens. -/
def upS (f : flightT) (a : Bool × sixT) (x : Int × Int × Int) : Bool × sixT :=
  (false, bif a.1 then (drI f false false x, (drI f false true x, (drI f true false x, (drI f true true x, (flI f x, (flI f x, ()))))))
    else (min a.2.1 (drI f false false x), (max a.2.2.1 (drI f false true x), (min a.2.2.2.1 (drI f true false x), (max a.2.2.2.2.1 (drI f true true x), (min a.2.2.2.2.2.1 (flI f x), (max a.2.2.2.2.2.2.1 (flI f x), ())))))))
def GoodS (f : flightT) (S : List (Int × Int × Int)) (a : Bool × sixT) : Prop := (a.1 = true ∧ S = []) ∨ (a.1 = false ∧ LandOK f S a.2)
theorem GoodS.up {f : flightT} {S : List (Int × Int × Int)} {a : Bool × sixT} (h : GoodS f S a) (x : Int × Int × Int) : GoodS f (S ++ [x]) (upS f a x) := by
  refine .inr ⟨rfl, ?_⟩
  unfold upS
  rcases h with ⟨h1, rfl⟩ | ⟨h1, h2⟩
  · rw [h1]
    exact ⟨isLst_one _ x, isGst_one _ x, isLst_one _ x, isGst_one _ x, isLst_one _ x, isGst_one _ x⟩
  · rw [h1]
    exact ⟨h2.e0.snoc x, h2.e1.snoc x, h2.n0.snoc x, h2.n1.snoc x, h2.m0.snoc x, h2.m1.snoc x⟩
theorem foldl_flat {α β γ : Type} {h : α → List β} {up : γ → β → γ} : ∀ (l : List α) (a : γ), (l.flatMap h).foldl up a = l.foldl (fun a x => (h x).foldl up a) a
  | [], _ => rfl
  | x :: l, a => by rw [List.flatMap_cons, List.foldl_append, foldl_flat l]; rfl
theorem foldl_mp {α β γ : Type} {h : α → β} {up : γ → β → γ} : ∀ (l : List α) (a : γ), (l.map h).foldl up a = l.foldl (fun a x => up a (h x)) a
  | [], _ => rfl
  | x :: l, a => foldl_mp l (up a (h x))
theorem trips_fold {γ : Type} (f : flightT) (up : γ → Int × Int × Int → γ) (a : γ) : (trips f).foldl up a = (span3 f.2.1 f.2.2.1).foldl (fun a u => (span3 f.2.2.2.1 f.2.2.2.2.1).foldl (fun a d => (span3 f.2.2.2.2.2.1 f.2.2.2.2.2.2.1).foldl (fun a t => up a (u, (d, t))) a) a) a := by
  unfold trips
  rw [foldl_flat]
  congr 1
  funext a u
  rw [foldl_flat]
  congr 1
  funext a d
  rw [foldl_mp]
theorem wnd_le {f : flightT} (hf : flightB f = true) (north : Bool) : ∀ j, j < f.1.n → -100 ≤ ((wnd f north false).g j).1 ∧ ((wnd f north false).g j).1 ≤ ((wnd f north true).g j).1 ∧ ((wnd f north true).g j).1 ≤ 100 := fun j hj => by
  have hb := wind_bd hf hj
  have e : ∀ b, (wnd f north b).g j = (bif b then (spT f north j).2.1 else (spT f north j).1, ()) := fun b => rowW_g _ hj
  rw [e, e]
  unfold spT
  cases north
  · simp only [cond_true, cond_false]; exact hb.1
  · simp only [cond_true, cond_false]; exact hb.2
end Go.Dm


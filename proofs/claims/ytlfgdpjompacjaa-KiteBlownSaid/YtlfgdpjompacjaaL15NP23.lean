/- The reference's landing; the law KiteLands. -/
import Derived.Test.YtlfgdpjompacjaaL15NP22
set_option linter.unusedVariables false
set_option linter.unusedSimpArgs false
namespace Go.Dm
set_option maxRecDepth 100000

/-- One more trip, as the reference widens. -/
def upS (f : flightT) (a : Bool × sixT) (x : Int × Int × Int) : Bool × sixT :=
  (false, bif a.1 then (drI f false false x, (drI f false true x, (drI f true false x, (drI f true true x, (flI f x, (flI f x, ()))))))
    else (min a.2.1 (drI f false false x), (max a.2.2.1 (drI f false true x), (min a.2.2.2.1 (drI f true false x), (max a.2.2.2.2.1 (drI f true true x), (min a.2.2.2.2.2.1 (flI f x), (max a.2.2.2.2.2.2.1 (flI f x), ())))))))
def GoodS (f : flightT) (S : List (Int × Int × Int)) (a : Bool × sixT) : Prop := (a.1 = true ∧ S = []) ∨ (a.1 = false ∧ LandOK f S a.2)
theorem GoodS.up {f : flightT} {S : List (Int × Int × Int)} {a : Bool × sixT} (h : GoodS f S a) (x : Int × Int × Int) : GoodS f (S ++ [x]) (upS f a x) := by
  refine .inr ⟨rfl, ?_⟩
  unfold upS
  rcases h with ⟨h1, rfl⟩ | ⟨h1, h2⟩
  · rw [h1]
    exact ⟨isLst_one _ x, isGst_one _ x, isLst_one _ x, isGst_one _ x, isLst_one _ x, isGst_one _ x⟩
  · rw [h1]
    exact ⟨h2.e0.snoc x, h2.e1.snoc x, h2.n0.snoc x, h2.n1.snoc x, h2.m0.snoc x, h2.m1.snoc x⟩
end Go.Dm


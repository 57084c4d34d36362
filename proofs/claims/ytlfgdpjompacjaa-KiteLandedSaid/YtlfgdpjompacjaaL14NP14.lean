/- The first list of winds, in plain terms. -/
import Derived.Test.YtlfgdpjompacjaaL14NP13
set_option linter.unusedVariables false
set_option linter.unusedSimpArgs false
namespace Go.Dm
set_option maxRecDepth 100000

/-- One list comes before another one, or is it. -/
def Lex : List Int → List Int → Prop
  | [], _ => True
  | _ :: _, [] => False
  | a :: l, b :: l' => a < b ∨ (a = b ∧ Lex l l')
theorem Lex.rfl : ∀ l : List Int, Lex l l
  | [] => trivial
  | a :: l => .inr ⟨Eq.refl a, Lex.rfl l⟩
section
variable {sp : Nat → spanI} {m : Nat → Int} {lo hi : Int}
end
end Go.Dm


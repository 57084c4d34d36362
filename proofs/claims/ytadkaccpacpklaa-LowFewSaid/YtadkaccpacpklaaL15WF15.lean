/- The told links have the fewest lows, and no truth has fewer. -/
import Derived.Test.YtadkaccpacpklaaRows
import Derived.ProofKit
import Derived.Test.YtadkaccpacpklaaL15LP31
set_option linter.unusedVariables false
set_option linter.unusedSimpArgs false
namespace Go.Proofs.Ytadkaccpacpklaa
open Go.ChangeShapes Go.WideShapes Go.ChangeAt Go.RowKit
theorem own : ownKnob Try.prog.godebug = none := by kernel_rfl
theorem laid : laidOutB Try.prog = true := by kernel_rfl

theorem holds15 : Go.Dm.Holds Try.prog 15 ⟨Go.Dm.a15, .cons .bool .nil, (Go.Dm.a15).wf, fun _ => (true, ())⟩ :=
  Go.Dm.VJ (M := Go.Dm.M15) Go.Dm.h15 fun x _ => Go.Dm.aQ4 x

set_option maxRecDepth 100000 in
theorem lifted15 (os : Os) (started : os.Started) (H : Type) (enc : TypeId × Value → H) :
    ReturnsInHanded {} Try.checked os 15 .any (Rows.lowFewSpec.pre6 enc Try.prog Try.f15 Rows.lowFewRow.domain false) (Rows.lowFewSpec.post enc Try.prog Try.f15 false true false false) := by
  refine returnsInHanded_of_change (C := Try.checked) own started (by kernel_rfl) Try.func15
    (ChangeSpec.witness6 (enc := enc) (C := Try.checked) false ⟨#[], #[.agg #[.slice none 0 0, .int .i64 0, .int .i64 0, .int .i64 0, .int .i64 0], .agg #[.slice none 0 0, .slice none 0 0, .slice none 0 0, .slice none 0 0]], []⟩ 8 (by kernel_rfl) (by kernel_rfl) (by kernel_rfl) (by kernel_rfl)) ?_
  intro W base args ds gs before asU hW aSa _
  exact Go.Dm.VK (m := 20) laid (by kernel_rfl) (by kernel_rfl) holds15 (tb := 4) (by kernel_rfl) (by kernel_rfl) rfl (fun H ds h => by
    match ds, h with
    | [d0, d1], _ => rfl) W base args ds gs before asU hW

theorem lowFew : Rows.LowFewSaid :=
  OpenClaim.holds_of_wide 15 Try.f15 rfl rfl rfl rfl rfl rfl rfl ⟨rfl, rfl, rfl, rfl, rfl⟩ rfl rfl rfl rfl rfl (by kernel_rfl) Try.func15 (by kernel_rfl)
    (of_decide_eq_true (by kernel_rfl)) (by unfold Func.isWrapper; first | (rw [if_pos (by decide +kernel)]; kernel_rfl) | (rw [if_neg (by decide +kernel)]; exact ⟨rfl, rfl⟩))
    (fun os started H enc _ => lifted15 os started H enc)
end Go.Proofs.Ytadkaccpacpklaa


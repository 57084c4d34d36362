/- A low lies nowhere narrower than its bounds say. -/
import Derived.Test.YtadkaccpacpklaaRows
import Derived.ProofKit
import Derived.Test.YtadkaccpacpklaaL10LP41
set_option linter.unusedVariables false
set_option linter.unusedSimpArgs false
namespace Go.Proofs.Ytadkaccpacpklaa
open Go.ChangeShapes Go.WideShapes Go.ChangeAt Go.RowKit
theorem own : ownKnob Try.prog.godebug = none := by kernel_rfl
theorem laid : laidOutB Try.prog = true := by kernel_rfl

theorem holds10 : Go.Dm.Holds Try.prog 10 ⟨Go.Dm.a10, .cons .bool .nil, (Go.Dm.a10).wf, fun _ => (true, ())⟩ :=
  Go.Dm.VJ (M := Go.Dm.M10) Go.Dm.h10 fun x _ => Go.Dm.bbX x

set_option maxRecDepth 100000 in
theorem lifted10 (os : Os) (started : os.Started) (H : Type) (enc : TypeId × Value → H) :
    ReturnsInHanded {} Try.checked os 10 .any (Rows.lowSharpSpec.pre6 enc Try.prog Try.f10 Rows.lowSharpRow.domain false) (Rows.lowSharpSpec.post enc Try.prog Try.f10 false true false false) := by
  refine returnsInHanded_of_change (C := Try.checked) own started (by kernel_rfl) Try.func10
    (ChangeSpec.witness6 (enc := enc) (C := Try.checked) false ⟨#[], #[.agg #[.slice none 0 0, .int .i64 0, .int .i64 0, .int .i64 0, .int .i64 0], .int .i64 0, .int .i64 0, .int .i64 0], []⟩ 8 (by kernel_rfl) (by kernel_rfl) (by kernel_rfl) (by kernel_rfl)) ?_
  intro W base args ds gs before asU hW aSa _
  exact Go.Dm.VK (m := 20) laid (by kernel_rfl) (by kernel_rfl) holds10 (tb := 4) (by kernel_rfl) (by kernel_rfl) rfl (fun H ds h => by
    match ds, h with
    | [d0, d1, d2, d3], _ => rfl) W base args ds gs before asU hW

theorem lowSharp : Rows.LowSharpSaid :=
  OpenClaim.holds_of_wide 10 Try.f10 rfl rfl rfl rfl rfl rfl rfl ⟨rfl, rfl, rfl, rfl, rfl⟩ rfl rfl rfl rfl rfl (by kernel_rfl) Try.func10 (by kernel_rfl)
    (of_decide_eq_true (by kernel_rfl)) (by unfold Func.isWrapper; first | (rw [if_pos (by decide +kernel)]; kernel_rfl) | (rw [if_neg (by decide +kernel)]; exact ⟨rfl, rfl⟩))
    (fun os started H enc _ => lifted10 os started H enc)
end Go.Proofs.Ytadkaccpacpklaa


/- A low of the last map lies within the told bounds after some hours. -/
import Derived.Test.YtadkaccpacpklaaRows
import Derived.ProofKit
import Derived.Test.YtadkaccpacpklaaL12LP29
set_option linter.unusedVariables false
set_option linter.unusedSimpArgs false
namespace Go.Proofs.Ytadkaccpacpklaa
open Go.ChangeShapes Go.WideShapes Go.ChangeAt Go.RowKit
theorem own : ownKnob Try.prog.godebug = none := by kernel_rfl
theorem laid : laidOutB Try.prog = true := by kernel_rfl

theorem holds12 : Go.Dm.Holds Try.prog 12 ⟨Go.Dm.a12, .cons .bool .nil, (Go.Dm.a12).wf, fun _ => (true, ())⟩ :=
  Go.Dm.VJ (M := Go.Dm.M12) Go.Dm.h12 fun x _ => Go.Dm.aQ2 x

set_option maxRecDepth 100000 in
theorem lifted12 (os : Os) (started : os.Started) (H : Type) (enc : TypeId × Value → H) :
    ReturnsInHanded {} Try.checked os 12 .any (Rows.lowAheadSpec.pre6 enc Try.prog Try.f12 Rows.lowAheadRow.domain false) (Rows.lowAheadSpec.post enc Try.prog Try.f12 false true false false) := by
  refine returnsInHanded_of_change (C := Try.checked) own started (by kernel_rfl) Try.func12
    (ChangeSpec.witness6 (enc := enc) (C := Try.checked) false ⟨#[], #[.agg #[.slice none 0 0, .int .i64 0, .int .i64 0, .int .i64 0, .int .i64 0], .agg #[.slice none 0 0, .slice none 0 0, .slice none 0 0, .slice none 0 0], .int .i64 0, .int .i64 0, .int .i64 0, .int .i64 0, .int .i64 0], []⟩ 8 (by kernel_rfl) (by kernel_rfl) (by kernel_rfl) (by kernel_rfl)) ?_
  intro W base args ds gs before asU hW aSa _
  exact Go.Dm.VK (m := 20) laid (by kernel_rfl) (by kernel_rfl) holds12 (tb := 4) (by kernel_rfl) (by kernel_rfl) rfl (fun H ds h => by
    match ds, h with
    | [d0, d1, d2, d3, d4, d5, d6], _ => rfl) W base args ds gs before asU hW

theorem lowAhead : Rows.LowAheadSaid :=
  OpenClaim.holds_of_wide 12 Try.f12 rfl rfl rfl rfl rfl rfl rfl ⟨rfl, rfl, rfl, rfl, rfl⟩ rfl rfl rfl rfl rfl (by kernel_rfl) Try.func12 (by kernel_rfl)
    (of_decide_eq_true (by kernel_rfl)) (by unfold Func.isWrapper; first | (rw [if_pos (by decide +kernel)]; kernel_rfl) | (rw [if_neg (by decide +kernel)]; exact ⟨rfl, rfl⟩))
    (fun os started H enc _ => lifted12 os started H enc)
end Go.Proofs.Ytadkaccpacpklaa


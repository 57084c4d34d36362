/- The least speed that leaves links, or the errors. -/
import Derived.Test.YtadkaccpacpklaaRows
import Derived.ProofKit
import Derived.Test.YtadkaccpacpklaaL4LP13
set_option linter.unusedVariables false
set_option linter.unusedSimpArgs false
namespace Go.Proofs.Ytadkaccpacpklaa
open Go.ChangeShapes Go.WideShapes Go.ChangeAt Go.RowKit
theorem own : ownKnob Try.prog.godebug = none := by kernel_rfl
theorem laid : laidOutB Try.prog = true := by kernel_rfl

theorem holds4 : Go.Dm.Holds Try.prog 4 ⟨Go.Dm.a4, .cons .bool .nil, (Go.Dm.a4).wf, fun _ => (true, ())⟩ :=
  Go.Dm.holds_law (M := Go.Dm.M4) Go.Dm.h4 fun x _ => Go.Dm.law4 x

set_option maxRecDepth 100000 in
theorem lifted4 (os : Os) (started : os.Started) (H : Type) (enc : TypeId × Value → H) :
    ReturnsInHanded {} Try.checked os 4 .any (Rows.lowSpeedsSpec.pre6 enc Try.prog Try.f4 Rows.lowSpeedsRow.domain false) (Rows.lowSpeedsSpec.post enc Try.prog Try.f4 false true false false) := by
  refine returnsInHanded_of_change (C := Try.checked) own started (by kernel_rfl) Try.func4
    (ChangeSpec.witness6 (enc := enc) (C := Try.checked) false ⟨#[], #[.agg #[.slice none 0 0, .int .i64 0, .int .i64 0, .int .i64 0, .int .i64 0]], []⟩ 8 (by kernel_rfl) (by kernel_rfl) (by kernel_rfl) (by kernel_rfl)) ?_
  intro W base args ds gs before hval0 hW hcnd _
  exact Go.Dm.law_calls (m := 20) laid (by kernel_rfl) (by kernel_rfl) holds4 (tb := 4) (by kernel_rfl) (by kernel_rfl) rfl (fun H ds h => by
    match ds, h with
    | [d0], _ => rfl) W base args ds gs before hval0 hW

theorem lowSpeeds : Rows.LowSpeedsSaid :=
  OpenClaim.holds_of_wide 4 Try.f4 rfl rfl rfl rfl rfl rfl rfl ⟨rfl, rfl, rfl, rfl, rfl⟩ rfl rfl rfl rfl rfl (by kernel_rfl) Try.func4 (by kernel_rfl)
    (of_decide_eq_true (by kernel_rfl)) (by unfold Func.isWrapper; first | (rw [if_pos (by decide +kernel)]; kernel_rfl) | (rw [if_neg (by decide +kernel)]; exact ⟨rfl, rfl⟩))
    (fun os started H enc _ => lifted4 os started H enc)
end Go.Proofs.Ytadkaccpacpklaa


/- With the least speed there are links, with a lesser one there are none. -/
import Derived.Test.YtadkaccpacpklaaRows
import Derived.ProofKit
import Derived.Test.YtadkaccpacpklaaL11LP14
set_option linter.unusedVariables false
set_option linter.unusedSimpArgs false
namespace Go.Proofs.Ytadkaccpacpklaa
open Go.ChangeShapes Go.WideShapes Go.ChangeAt Go.RowKit
theorem own : ownKnob Try.prog.godebug = none := by kernel_rfl
theorem laid : laidOutB Try.prog = true := by kernel_rfl

theorem holds11 : Go.Dm.Holds Try.prog 11 ⟨Go.Dm.a11, .cons .bool .nil, (Go.Dm.a11).wf, fun _ => (true, ())⟩ :=
  Go.Dm.holds_law (M := Go.Dm.M11) Go.Dm.h11 fun x _ => Go.Dm.law11 x

set_option maxRecDepth 100000 in
theorem lifted11 (os : Os) (started : os.Started) (H : Type) (enc : TypeId × Value → H) :
    ReturnsInHanded {} Try.checked os 11 .any (Rows.lowSwiftSpec.pre6 enc Try.prog Try.f11 Rows.lowSwiftRow.domain false) (Rows.lowSwiftSpec.post enc Try.prog Try.f11 false true false false) := by
  refine returnsInHanded_of_change (C := Try.checked) own started (by kernel_rfl) Try.func11
    (ChangeSpec.witness6 (enc := enc) (C := Try.checked) false ⟨#[], #[.agg #[.slice none 0 0, .int .i64 0, .int .i64 0, .int .i64 0, .int .i64 0], .int .i64 0], []⟩ 8 (by kernel_rfl) (by kernel_rfl) (by kernel_rfl) (by kernel_rfl)) ?_
  intro W base args ds gs before hval0 hW hcnd _
  exact Go.Dm.law_calls (m := 20) laid (by kernel_rfl) (by kernel_rfl) holds11 (tb := 4) (by kernel_rfl) (by kernel_rfl) rfl (fun H ds h => by
    match ds, h with
    | [d0, d1], _ => rfl) W base args ds gs before hval0 hW

theorem lowSwift : Rows.LowSwiftSaid :=
  OpenClaim.holds_of_wide 11 Try.f11 rfl rfl rfl rfl rfl rfl rfl ⟨rfl, rfl, rfl, rfl, rfl⟩ rfl rfl rfl rfl rfl (by kernel_rfl) Try.func11 (by kernel_rfl)
    (of_decide_eq_true (by kernel_rfl)) (by unfold Func.isWrapper; first | (rw [if_pos (by decide +kernel)]; kernel_rfl) | (rw [if_neg (by decide +kernel)]; exact ⟨rfl, rfl⟩))
    (fun os started H enc _ => lifted11 os started H enc)
end Go.Proofs.Ytadkaccpacpklaa


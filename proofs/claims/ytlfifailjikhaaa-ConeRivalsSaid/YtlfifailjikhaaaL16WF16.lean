/- The best urgent reports suffice, cost what is told, and no others are better. -/
import Derived.Test.YtlfifailjikhaaaRows
import Derived.ProofKit
import Derived.Test.YtlfifailjikhaaaL16CP26
set_option linter.unusedVariables false
set_option linter.unusedSimpArgs false
namespace Go.Proofs.Ytlfifailjikhaaa
open Go.ChangeShapes Go.WideShapes Go.ChangeAt Go.RowKit
theorem own : ownKnob Try.prog.godebug = none := by kernel_rfl
theorem laid : laidOutB Try.prog = true := by kernel_rfl

theorem holds16 : Go.Dm.Holds Try.prog 16 ⟨Go.Dm.a16, .cons .bool .nil, (Go.Dm.a16).wf, fun _ => (true, ())⟩ :=
  Go.Dm.holds_law (M := Go.Dm.M16) Go.Dm.h16 fun x _ => Go.Dm.law16 x

set_option maxRecDepth 100000 in
theorem lifted16 (os : Os) (started : os.Started) (H : Type) (enc : TypeId × Value → H) :
    ReturnsInHanded {} Try.checked os 16 .any (Rows.coneRivalsSpec.pre6 enc Try.prog Try.f16 Rows.coneRivalsRow.domain false) (Rows.coneRivalsSpec.post enc Try.prog Try.f16 false true false false) := by
  refine returnsInHanded_of_change (C := Try.checked) own started (by kernel_rfl) Try.func16
    (ChangeSpec.witness6 (enc := enc) (C := Try.checked) false ⟨#[], #[.agg #[.int .i64 0, .slice none 0 0, .slice none 0 0, .slice none 0 0, .int .i64 0, .int .i64 0, .int .i64 0, .int .i64 0, .int .i64 0], .int .i64 0, .slice none 0 0, .slice none 0 0], []⟩ 8 (by kernel_rfl) (by kernel_rfl) (by kernel_rfl) (by kernel_rfl)) ?_
  intro W base args ds gs before hval0 hW hcnd _
  exact Go.Dm.law_calls (m := 20) laid (by kernel_rfl) (by kernel_rfl) holds16 (tb := 4) (by kernel_rfl) (by kernel_rfl) rfl (fun H ds h => by
    match ds, h with
    | [d0, d1, d2, d3], _ => rfl) W base args ds gs before hval0 hW

theorem coneRivals : Rows.ConeRivalsSaid :=
  OpenClaim.holds_of_wide 16 Try.f16 rfl rfl rfl rfl rfl rfl rfl ⟨rfl, rfl, rfl, rfl, rfl⟩ rfl rfl rfl rfl rfl (by kernel_rfl) Try.func16 (by kernel_rfl)
    (of_decide_eq_true (by kernel_rfl)) (by unfold Func.isWrapper; first | (rw [if_pos (by decide +kernel)]; kernel_rfl) | (rw [if_neg (by decide +kernel)]; exact ⟨rfl, rfl⟩))
    (fun os started H enc _ => lifted16 os started H enc)
end Go.Proofs.Ytlfifailjikhaaa

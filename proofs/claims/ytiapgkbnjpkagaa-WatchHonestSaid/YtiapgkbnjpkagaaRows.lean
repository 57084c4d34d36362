/-
  No cell of these rows narrows 'for every input' (looked for: loops, veiled, ifaces, maps, wideKeys, modest, calm, conditions, laid).
  DERIVED. THE GIVEN ROWS OF THIS SEAT. 14 by the template 'for every input the law returns true; each argument reads behind the call as it read before'; 0 by the template 'total and deterministic' (their statements: YtiapgkbnjpkagaaTotals.lean).
  GIVEN WITH THE SEED: the statements are not yours to turn. If you find one false, say at which input.
  Laid BY PROGRAM, IN A SANDBOX (cutbox-rows.mjs): the forced cells as the released guide's own fill.sh prints them over the translation 8a54628679dc4544… (all of the seat's roots in one cut). By AI agents, Wed Nov 11 2026. No macro, syntax, notation, axiom, sorry.
-/
import Derived.Test.YtiapgkbnjpkagaaChecked
import GoSem.Claim
import GoSem.ClaimJoined
import GoSem.ClaimMapViews
import Derived.JoinedTies
import Derived.KernelRfl
namespace Go.Proofs.Ytiapgkbnjpkagaa
/- THE CELL 'sum', in the pinned program and in every row, IS THE sha256 OF THE DUMP (.gsa) THAT YtiapgkbnjpkagaaProg.lean LOADS. Nothing in Lean hashes anything: it is a label: what it is worth is what the hold of that sum in a sandbox is worth. -/
noncomputable def Try.pinned : Pinned := { name := "ytiapgkbnjpkagaa", sum := "8a54628679dc4544ea981f56adbf32025c2ad8de6aa3151f60391c30542861d6", checked := Try.checked }
namespace Rows
def none {H : Type} : Left H := { results := [], args := [] }

/-- 'isobarlaw09.WatchChances': WHATEVER THE INPUT: true; the input reads as it did. -/
def watchChancesSpec : ChangeSpec := { name := "watchChances", fn := fun _ => fun
  | [d1, d2, d3] => { results := [.lit (.bool true)], args := [d1, d2, d3] }
  | _ => none }
def watchChancesRow : OpenClaim := { program := "ytiapgkbnjpkagaa", sum := "8a54628679dc4544ea981f56adbf32025c2ad8de6aa3151f60391c30542861d6", func := "isobar/isobarlaw09.WatchChances", spec := "watchChances", unfollowed := true, recurses := true, plainKeys := false, apart := false }
def WatchChancesSaid : Prop := watchChancesRow.holds Try.pinned (OpenSpec.ofChange watchChancesSpec)

/-- ITS FALSE NEIGHBOUR: 'it returns false'. Refute it at one input. -/
def watchChancesWrong : ChangeSpec := { name := "watchChances", fn := fun _ => fun
  | [d1, d2, d3] => { results := [.lit (.bool false)], args := [d1, d2, d3] }
  | _ => none }
def WatchChancesWrongFalsely : Prop := watchChancesRow.holds Try.pinned (OpenSpec.ofChange watchChancesWrong)

/-- 'isobarlaw09.WatchCounted': WHATEVER THE INPUT: true; the input reads as it did. -/
def watchCountedSpec : ChangeSpec := { name := "watchCounted", fn := fun _ => fun
  | [d1, d2, d3, d4] => { results := [.lit (.bool true)], args := [d1, d2, d3, d4] }
  | _ => none }
def watchCountedRow : OpenClaim := { program := "ytiapgkbnjpkagaa", sum := "8a54628679dc4544ea981f56adbf32025c2ad8de6aa3151f60391c30542861d6", func := "isobar/isobarlaw09.WatchCounted", spec := "watchCounted", unfollowed := true, recurses := true, plainKeys := false, apart := false }
def WatchCountedSaid : Prop := watchCountedRow.holds Try.pinned (OpenSpec.ofChange watchCountedSpec)

/-- ITS FALSE NEIGHBOUR: 'it returns false'. Refute it at one input. -/
def watchCountedWrong : ChangeSpec := { name := "watchCounted", fn := fun _ => fun
  | [d1, d2, d3, d4] => { results := [.lit (.bool false)], args := [d1, d2, d3, d4] }
  | _ => none }
def WatchCountedWrongFalsely : Prop := watchCountedRow.holds Try.pinned (OpenSpec.ofChange watchCountedWrong)

/-- 'isobarlaw09.WatchNeeds': WHATEVER THE INPUT: true; the input reads as it did. -/
def watchNeedsSpec : ChangeSpec := { name := "watchNeeds", fn := fun _ => fun
  | [d1, d2, d3] => { results := [.lit (.bool true)], args := [d1, d2, d3] }
  | _ => none }
def watchNeedsRow : OpenClaim := { program := "ytiapgkbnjpkagaa", sum := "8a54628679dc4544ea981f56adbf32025c2ad8de6aa3151f60391c30542861d6", func := "isobar/isobarlaw09.WatchNeeds", spec := "watchNeeds", unfollowed := true, recurses := true, plainKeys := false, apart := false }
def WatchNeedsSaid : Prop := watchNeedsRow.holds Try.pinned (OpenSpec.ofChange watchNeedsSpec)

/-- ITS FALSE NEIGHBOUR: 'it returns false'. Refute it at one input. -/
def watchNeedsWrong : ChangeSpec := { name := "watchNeeds", fn := fun _ => fun
  | [d1, d2, d3] => { results := [.lit (.bool false)], args := [d1, d2, d3] }
  | _ => none }
def WatchNeedsWrongFalsely : Prop := watchNeedsRow.holds Try.pinned (OpenSpec.ofChange watchNeedsWrong)

/-- 'isobarlaw09.WatchLeast': WHATEVER THE INPUT: true; the input reads as it did. -/
def watchLeastSpec : ChangeSpec := { name := "watchLeast", fn := fun _ => fun
  | [d1, d2, d3, d4] => { results := [.lit (.bool true)], args := [d1, d2, d3, d4] }
  | _ => none }
def watchLeastRow : OpenClaim := { program := "ytiapgkbnjpkagaa", sum := "8a54628679dc4544ea981f56adbf32025c2ad8de6aa3151f60391c30542861d6", func := "isobar/isobarlaw09.WatchLeast", spec := "watchLeast", unfollowed := true, recurses := true, plainKeys := false, apart := false }
def WatchLeastSaid : Prop := watchLeastRow.holds Try.pinned (OpenSpec.ofChange watchLeastSpec)

/-- ITS FALSE NEIGHBOUR: 'it returns false'. Refute it at one input. -/
def watchLeastWrong : ChangeSpec := { name := "watchLeast", fn := fun _ => fun
  | [d1, d2, d3, d4] => { results := [.lit (.bool false)], args := [d1, d2, d3, d4] }
  | _ => none }
def WatchLeastWrongFalsely : Prop := watchLeastRow.holds Try.pinned (OpenSpec.ofChange watchLeastWrong)

/-- 'isobarlaw09.WatchJudges': WHATEVER THE INPUT: true; the input reads as it did. -/
def watchJudgesSpec : ChangeSpec := { name := "watchJudges", fn := fun _ => fun
  | [d] => { results := [.lit (.bool true)], args := [d] }
  | _ => none }
def watchJudgesRow : OpenClaim := { program := "ytiapgkbnjpkagaa", sum := "8a54628679dc4544ea981f56adbf32025c2ad8de6aa3151f60391c30542861d6", func := "isobar/isobarlaw09.WatchJudges", spec := "watchJudges", unfollowed := true, recurses := true, plainKeys := false, apart := false }
def WatchJudgesSaid : Prop := watchJudgesRow.holds Try.pinned (OpenSpec.ofChange watchJudgesSpec)

/-- ITS FALSE NEIGHBOUR: 'it returns false'. Refute it at one input. -/
def watchJudgesWrong : ChangeSpec := { name := "watchJudges", fn := fun _ => fun
  | [d] => { results := [.lit (.bool false)], args := [d] }
  | _ => none }
def WatchJudgesWrongFalsely : Prop := watchJudgesRow.holds Try.pinned (OpenSpec.ofChange watchJudgesWrong)

/-- 'isobarlaw09.WatchHonest': WHATEVER THE INPUT: true; the input reads as it did. -/
def watchHonestSpec : ChangeSpec := { name := "watchHonest", fn := fun _ => fun
  | [d1, d2, d3, d4] => { results := [.lit (.bool true)], args := [d1, d2, d3, d4] }
  | _ => none }
def watchHonestRow : OpenClaim := { program := "ytiapgkbnjpkagaa", sum := "8a54628679dc4544ea981f56adbf32025c2ad8de6aa3151f60391c30542861d6", func := "isobar/isobarlaw09.WatchHonest", spec := "watchHonest", unfollowed := true, recurses := true, plainKeys := false, apart := false }
def WatchHonestSaid : Prop := watchHonestRow.holds Try.pinned (OpenSpec.ofChange watchHonestSpec)

/-- ITS FALSE NEIGHBOUR: 'it returns false'. Refute it at one input. -/
def watchHonestWrong : ChangeSpec := { name := "watchHonest", fn := fun _ => fun
  | [d1, d2, d3, d4] => { results := [.lit (.bool false)], args := [d1, d2, d3, d4] }
  | _ => none }
def WatchHonestWrongFalsely : Prop := watchHonestRow.holds Try.pinned (OpenSpec.ofChange watchHonestWrong)

/-- 'isobarlaw09.WatchProved': WHATEVER THE INPUT: true; the input reads as it did. -/
def watchProvedSpec : ChangeSpec := { name := "watchProved", fn := fun _ => fun
  | [d1, d2, d3] => { results := [.lit (.bool true)], args := [d1, d2, d3] }
  | _ => none }
def watchProvedRow : OpenClaim := { program := "ytiapgkbnjpkagaa", sum := "8a54628679dc4544ea981f56adbf32025c2ad8de6aa3151f60391c30542861d6", func := "isobar/isobarlaw09.WatchProved", spec := "watchProved", unfollowed := true, recurses := true, plainKeys := false, apart := false }
def WatchProvedSaid : Prop := watchProvedRow.holds Try.pinned (OpenSpec.ofChange watchProvedSpec)

/-- ITS FALSE NEIGHBOUR: 'it returns false'. Refute it at one input. -/
def watchProvedWrong : ChangeSpec := { name := "watchProved", fn := fun _ => fun
  | [d1, d2, d3] => { results := [.lit (.bool false)], args := [d1, d2, d3] }
  | _ => none }
def WatchProvedWrongFalsely : Prop := watchProvedRow.holds Try.pinned (OpenSpec.ofChange watchProvedWrong)

/-- 'isobarlaw09.WatchBests': WHATEVER THE INPUT: true; the input reads as it did. -/
def watchBestsSpec : ChangeSpec := { name := "watchBests", fn := fun _ => fun
  | [d] => { results := [.lit (.bool true)], args := [d] }
  | _ => none }
def watchBestsRow : OpenClaim := { program := "ytiapgkbnjpkagaa", sum := "8a54628679dc4544ea981f56adbf32025c2ad8de6aa3151f60391c30542861d6", func := "isobar/isobarlaw09.WatchBests", spec := "watchBests", unfollowed := true, recurses := true, plainKeys := false, apart := false }
def WatchBestsSaid : Prop := watchBestsRow.holds Try.pinned (OpenSpec.ofChange watchBestsSpec)

/-- ITS FALSE NEIGHBOUR: 'it returns false'. Refute it at one input. -/
def watchBestsWrong : ChangeSpec := { name := "watchBests", fn := fun _ => fun
  | [d] => { results := [.lit (.bool false)], args := [d] }
  | _ => none }
def WatchBestsWrongFalsely : Prop := watchBestsRow.holds Try.pinned (OpenSpec.ofChange watchBestsWrong)

/-- 'isobarlaw09.WatchAgrees': WHATEVER THE INPUT: true; the input reads as it did. -/
def watchAgreesSpec : ChangeSpec := { name := "watchAgrees", fn := fun _ => fun
  | [d] => { results := [.lit (.bool true)], args := [d] }
  | _ => none }
def watchAgreesRow : OpenClaim := { program := "ytiapgkbnjpkagaa", sum := "8a54628679dc4544ea981f56adbf32025c2ad8de6aa3151f60391c30542861d6", func := "isobar/isobarlaw09.WatchAgrees", spec := "watchAgrees", unfollowed := true, recurses := true, plainKeys := false, apart := false }
def WatchAgreesSaid : Prop := watchAgreesRow.holds Try.pinned (OpenSpec.ofChange watchAgreesSpec)

/-- ITS FALSE NEIGHBOUR: 'it returns false'. Refute it at one input. -/
def watchAgreesWrong : ChangeSpec := { name := "watchAgrees", fn := fun _ => fun
  | [d] => { results := [.lit (.bool false)], args := [d] }
  | _ => none }
def WatchAgreesWrongFalsely : Prop := watchAgreesRow.holds Try.pinned (OpenSpec.ofChange watchAgreesWrong)

/-- 'isobarlaw09.WatchMore': WHATEVER THE INPUT: true; the input reads as it did. -/
def watchMoreSpec : ChangeSpec := { name := "watchMore", fn := fun _ => fun
  | [d1, d2, d3, d4, d5] => { results := [.lit (.bool true)], args := [d1, d2, d3, d4, d5] }
  | _ => none }
def watchMoreRow : OpenClaim := { program := "ytiapgkbnjpkagaa", sum := "8a54628679dc4544ea981f56adbf32025c2ad8de6aa3151f60391c30542861d6", func := "isobar/isobarlaw09.WatchMore", spec := "watchMore", unfollowed := true, recurses := true, plainKeys := false, apart := false }
def WatchMoreSaid : Prop := watchMoreRow.holds Try.pinned (OpenSpec.ofChange watchMoreSpec)

/-- ITS FALSE NEIGHBOUR: 'it returns false'. Refute it at one input. -/
def watchMoreWrong : ChangeSpec := { name := "watchMore", fn := fun _ => fun
  | [d1, d2, d3, d4, d5] => { results := [.lit (.bool false)], args := [d1, d2, d3, d4, d5] }
  | _ => none }
def WatchMoreWrongFalsely : Prop := watchMoreRow.holds Try.pinned (OpenSpec.ofChange watchMoreWrong)

/-- 'isobarlaw09.WatchRounds': WHATEVER THE INPUT: true; the input reads as it did. -/
def watchRoundsSpec : ChangeSpec := { name := "watchRounds", fn := fun _ => fun
  | [d1, d2] => { results := [.lit (.bool true)], args := [d1, d2] }
  | _ => none }
def watchRoundsRow : OpenClaim := { program := "ytiapgkbnjpkagaa", sum := "8a54628679dc4544ea981f56adbf32025c2ad8de6aa3151f60391c30542861d6", func := "isobar/isobarlaw09.WatchRounds", spec := "watchRounds", unfollowed := true, recurses := true, plainKeys := false, apart := false }
def WatchRoundsSaid : Prop := watchRoundsRow.holds Try.pinned (OpenSpec.ofChange watchRoundsSpec)

/-- ITS FALSE NEIGHBOUR: 'it returns false'. Refute it at one input. -/
def watchRoundsWrong : ChangeSpec := { name := "watchRounds", fn := fun _ => fun
  | [d1, d2] => { results := [.lit (.bool false)], args := [d1, d2] }
  | _ => none }
def WatchRoundsWrongFalsely : Prop := watchRoundsRow.holds Try.pinned (OpenSpec.ofChange watchRoundsWrong)

/-- 'isobarlaw09.WatchVisits': WHATEVER THE INPUT: true; the input reads as it did. -/
def watchVisitsSpec : ChangeSpec := { name := "watchVisits", fn := fun _ => fun
  | [d1, d2, d3] => { results := [.lit (.bool true)], args := [d1, d2, d3] }
  | _ => none }
def watchVisitsRow : OpenClaim := { program := "ytiapgkbnjpkagaa", sum := "8a54628679dc4544ea981f56adbf32025c2ad8de6aa3151f60391c30542861d6", func := "isobar/isobarlaw09.WatchVisits", spec := "watchVisits", unfollowed := true, recurses := true, plainKeys := false, apart := false }
def WatchVisitsSaid : Prop := watchVisitsRow.holds Try.pinned (OpenSpec.ofChange watchVisitsSpec)

/-- ITS FALSE NEIGHBOUR: 'it returns false'. Refute it at one input. -/
def watchVisitsWrong : ChangeSpec := { name := "watchVisits", fn := fun _ => fun
  | [d1, d2, d3] => { results := [.lit (.bool false)], args := [d1, d2, d3] }
  | _ => none }
def WatchVisitsWrongFalsely : Prop := watchVisitsRow.holds Try.pinned (OpenSpec.ofChange watchVisitsWrong)

/-- 'isobarlaw09.WatchTrue': WHATEVER THE INPUT: true; the input reads as it did. -/
def watchTrueSpec : ChangeSpec := { name := "watchTrue", fn := fun _ => fun
  | [d1, d2, d3] => { results := [.lit (.bool true)], args := [d1, d2, d3] }
  | _ => none }
def watchTrueRow : OpenClaim := { program := "ytiapgkbnjpkagaa", sum := "8a54628679dc4544ea981f56adbf32025c2ad8de6aa3151f60391c30542861d6", func := "isobar/isobarlaw09.WatchTrue", spec := "watchTrue", unfollowed := true, recurses := true, plainKeys := false, apart := false }
def WatchTrueSaid : Prop := watchTrueRow.holds Try.pinned (OpenSpec.ofChange watchTrueSpec)

/-- ITS FALSE NEIGHBOUR: 'it returns false'. Refute it at one input. -/
def watchTrueWrong : ChangeSpec := { name := "watchTrue", fn := fun _ => fun
  | [d1, d2, d3] => { results := [.lit (.bool false)], args := [d1, d2, d3] }
  | _ => none }
def WatchTrueWrongFalsely : Prop := watchTrueRow.holds Try.pinned (OpenSpec.ofChange watchTrueWrong)

/-- 'isobarlaw09.WatchRivals': WHATEVER THE INPUT: true; the input reads as it did. -/
def watchRivalsSpec : ChangeSpec := { name := "watchRivals", fn := fun _ => fun
  | [d1, d2, d3] => { results := [.lit (.bool true)], args := [d1, d2, d3] }
  | _ => none }
def watchRivalsRow : OpenClaim := { program := "ytiapgkbnjpkagaa", sum := "8a54628679dc4544ea981f56adbf32025c2ad8de6aa3151f60391c30542861d6", func := "isobar/isobarlaw09.WatchRivals", spec := "watchRivals", unfollowed := true, recurses := true, plainKeys := false, apart := false }
def WatchRivalsSaid : Prop := watchRivalsRow.holds Try.pinned (OpenSpec.ofChange watchRivalsSpec)

/-- ITS FALSE NEIGHBOUR: 'it returns false'. Refute it at one input. -/
def watchRivalsWrong : ChangeSpec := { name := "watchRivals", fn := fun _ => fun
  | [d1, d2, d3] => { results := [.lit (.bool false)], args := [d1, d2, d3] }
  | _ => none }
def WatchRivalsWrongFalsely : Prop := watchRivalsRow.holds Try.pinned (OpenSpec.ofChange watchRivalsWrong)

/- THE SECOND FORM. 'bulk': how many values and letters a reading holds, each counted each time it is reached (what is shared counts as often as it is met; a slice's spare places count too). A statement '..UptoSaid' is the law's where the arguments, and the package variables that the reading takes, are together of bulk at most 1048576: NARROWER than '..Said'. Prove '..Said' where nothing that the law and all that it calls make is longer than what came in: it says more and counts as full. Else prove '..UptoSaid'. A law counts once. -/
mutual
def uptoBulk {H : Type} : DataW H → Nat
  | .lit (.string bytes) => bytes.length + 1
  | .lit _ => 1
  | .nil => 1
  | .ptr d => uptoBulk d + 1
  | .slice elems spare => uptoBulkAll elems + uptoBulkAll spare + 1
  | .agg parts => uptoBulkAll parts + 1
  | .iface _ d => uptoBulk d + 1
  | .map entries => uptoBulkEntries entries + 1
  | .held _ => 1
def uptoBulkAll {H : Type} : List (DataW H) → Nat
  | [] => 0
  | d :: r => uptoBulk d + uptoBulkAll r
def uptoBulkEntries {H : Type} : List (Lit × DataW H) → Nat
  | [] => 0
  | x :: r => uptoBulkEntry x + uptoBulkEntries r
def uptoBulkEntry {H : Type} : Lit × DataW H → Nat
  | (.string bytes, d) => bytes.length + uptoBulk d + 1
  | (_, d) => uptoBulk d + 1
 end
def uptoSmall : (H : Type) → List (DataW H) → Bool := fun _ ds => decide (uptoBulkAll ds ≤ 1048576)
def OpenSpec.upto (s : _root_.Go.ChangeSpec) : _root_.Go.OpenSpec := { _root_.Go.OpenSpec.ofChange s with cond := some uptoSmall }

/-- 'isobarlaw09.WatchChances', WHERE WHAT IT READS IS OF BULK AT MOST 1048576: true; the input reads as it did. -/
def watchChancesUptoRow : OpenClaim := { program := "ytiapgkbnjpkagaa", sum := "8a54628679dc4544ea981f56adbf32025c2ad8de6aa3151f60391c30542861d6", func := "isobar/isobarlaw09.WatchChances", spec := "watchChances", unfollowed := true, recurses := true, plainKeys := false, apart := false, narrowed := true }
def WatchChancesUptoSaid : Prop := watchChancesUptoRow.holds Try.pinned (OpenSpec.upto watchChancesSpec)

/-- 'isobarlaw09.WatchCounted', WHERE WHAT IT READS IS OF BULK AT MOST 1048576: true; the input reads as it did. -/
def watchCountedUptoRow : OpenClaim := { program := "ytiapgkbnjpkagaa", sum := "8a54628679dc4544ea981f56adbf32025c2ad8de6aa3151f60391c30542861d6", func := "isobar/isobarlaw09.WatchCounted", spec := "watchCounted", unfollowed := true, recurses := true, plainKeys := false, apart := false, narrowed := true }
def WatchCountedUptoSaid : Prop := watchCountedUptoRow.holds Try.pinned (OpenSpec.upto watchCountedSpec)

/-- 'isobarlaw09.WatchNeeds', WHERE WHAT IT READS IS OF BULK AT MOST 1048576: true; the input reads as it did. -/
def watchNeedsUptoRow : OpenClaim := { program := "ytiapgkbnjpkagaa", sum := "8a54628679dc4544ea981f56adbf32025c2ad8de6aa3151f60391c30542861d6", func := "isobar/isobarlaw09.WatchNeeds", spec := "watchNeeds", unfollowed := true, recurses := true, plainKeys := false, apart := false, narrowed := true }
def WatchNeedsUptoSaid : Prop := watchNeedsUptoRow.holds Try.pinned (OpenSpec.upto watchNeedsSpec)

/-- 'isobarlaw09.WatchLeast', WHERE WHAT IT READS IS OF BULK AT MOST 1048576: true; the input reads as it did. -/
def watchLeastUptoRow : OpenClaim := { program := "ytiapgkbnjpkagaa", sum := "8a54628679dc4544ea981f56adbf32025c2ad8de6aa3151f60391c30542861d6", func := "isobar/isobarlaw09.WatchLeast", spec := "watchLeast", unfollowed := true, recurses := true, plainKeys := false, apart := false, narrowed := true }
def WatchLeastUptoSaid : Prop := watchLeastUptoRow.holds Try.pinned (OpenSpec.upto watchLeastSpec)

/-- 'isobarlaw09.WatchJudges', WHERE WHAT IT READS IS OF BULK AT MOST 1048576: true; the input reads as it did. -/
def watchJudgesUptoRow : OpenClaim := { program := "ytiapgkbnjpkagaa", sum := "8a54628679dc4544ea981f56adbf32025c2ad8de6aa3151f60391c30542861d6", func := "isobar/isobarlaw09.WatchJudges", spec := "watchJudges", unfollowed := true, recurses := true, plainKeys := false, apart := false, narrowed := true }
def WatchJudgesUptoSaid : Prop := watchJudgesUptoRow.holds Try.pinned (OpenSpec.upto watchJudgesSpec)

/-- 'isobarlaw09.WatchHonest', WHERE WHAT IT READS IS OF BULK AT MOST 1048576: true; the input reads as it did. -/
def watchHonestUptoRow : OpenClaim := { program := "ytiapgkbnjpkagaa", sum := "8a54628679dc4544ea981f56adbf32025c2ad8de6aa3151f60391c30542861d6", func := "isobar/isobarlaw09.WatchHonest", spec := "watchHonest", unfollowed := true, recurses := true, plainKeys := false, apart := false, narrowed := true }
def WatchHonestUptoSaid : Prop := watchHonestUptoRow.holds Try.pinned (OpenSpec.upto watchHonestSpec)

/-- 'isobarlaw09.WatchProved', WHERE WHAT IT READS IS OF BULK AT MOST 1048576: true; the input reads as it did. -/
def watchProvedUptoRow : OpenClaim := { program := "ytiapgkbnjpkagaa", sum := "8a54628679dc4544ea981f56adbf32025c2ad8de6aa3151f60391c30542861d6", func := "isobar/isobarlaw09.WatchProved", spec := "watchProved", unfollowed := true, recurses := true, plainKeys := false, apart := false, narrowed := true }
def WatchProvedUptoSaid : Prop := watchProvedUptoRow.holds Try.pinned (OpenSpec.upto watchProvedSpec)

/-- 'isobarlaw09.WatchBests', WHERE WHAT IT READS IS OF BULK AT MOST 1048576: true; the input reads as it did. -/
def watchBestsUptoRow : OpenClaim := { program := "ytiapgkbnjpkagaa", sum := "8a54628679dc4544ea981f56adbf32025c2ad8de6aa3151f60391c30542861d6", func := "isobar/isobarlaw09.WatchBests", spec := "watchBests", unfollowed := true, recurses := true, plainKeys := false, apart := false, narrowed := true }
def WatchBestsUptoSaid : Prop := watchBestsUptoRow.holds Try.pinned (OpenSpec.upto watchBestsSpec)

/-- 'isobarlaw09.WatchAgrees', WHERE WHAT IT READS IS OF BULK AT MOST 1048576: true; the input reads as it did. -/
def watchAgreesUptoRow : OpenClaim := { program := "ytiapgkbnjpkagaa", sum := "8a54628679dc4544ea981f56adbf32025c2ad8de6aa3151f60391c30542861d6", func := "isobar/isobarlaw09.WatchAgrees", spec := "watchAgrees", unfollowed := true, recurses := true, plainKeys := false, apart := false, narrowed := true }
def WatchAgreesUptoSaid : Prop := watchAgreesUptoRow.holds Try.pinned (OpenSpec.upto watchAgreesSpec)

/-- 'isobarlaw09.WatchMore', WHERE WHAT IT READS IS OF BULK AT MOST 1048576: true; the input reads as it did. -/
def watchMoreUptoRow : OpenClaim := { program := "ytiapgkbnjpkagaa", sum := "8a54628679dc4544ea981f56adbf32025c2ad8de6aa3151f60391c30542861d6", func := "isobar/isobarlaw09.WatchMore", spec := "watchMore", unfollowed := true, recurses := true, plainKeys := false, apart := false, narrowed := true }
def WatchMoreUptoSaid : Prop := watchMoreUptoRow.holds Try.pinned (OpenSpec.upto watchMoreSpec)

/-- 'isobarlaw09.WatchRounds', WHERE WHAT IT READS IS OF BULK AT MOST 1048576: true; the input reads as it did. -/
def watchRoundsUptoRow : OpenClaim := { program := "ytiapgkbnjpkagaa", sum := "8a54628679dc4544ea981f56adbf32025c2ad8de6aa3151f60391c30542861d6", func := "isobar/isobarlaw09.WatchRounds", spec := "watchRounds", unfollowed := true, recurses := true, plainKeys := false, apart := false, narrowed := true }
def WatchRoundsUptoSaid : Prop := watchRoundsUptoRow.holds Try.pinned (OpenSpec.upto watchRoundsSpec)

/-- 'isobarlaw09.WatchVisits', WHERE WHAT IT READS IS OF BULK AT MOST 1048576: true; the input reads as it did. -/
def watchVisitsUptoRow : OpenClaim := { program := "ytiapgkbnjpkagaa", sum := "8a54628679dc4544ea981f56adbf32025c2ad8de6aa3151f60391c30542861d6", func := "isobar/isobarlaw09.WatchVisits", spec := "watchVisits", unfollowed := true, recurses := true, plainKeys := false, apart := false, narrowed := true }
def WatchVisitsUptoSaid : Prop := watchVisitsUptoRow.holds Try.pinned (OpenSpec.upto watchVisitsSpec)

/-- 'isobarlaw09.WatchTrue', WHERE WHAT IT READS IS OF BULK AT MOST 1048576: true; the input reads as it did. -/
def watchTrueUptoRow : OpenClaim := { program := "ytiapgkbnjpkagaa", sum := "8a54628679dc4544ea981f56adbf32025c2ad8de6aa3151f60391c30542861d6", func := "isobar/isobarlaw09.WatchTrue", spec := "watchTrue", unfollowed := true, recurses := true, plainKeys := false, apart := false, narrowed := true }
def WatchTrueUptoSaid : Prop := watchTrueUptoRow.holds Try.pinned (OpenSpec.upto watchTrueSpec)

/-- 'isobarlaw09.WatchRivals', WHERE WHAT IT READS IS OF BULK AT MOST 1048576: true; the input reads as it did. -/
def watchRivalsUptoRow : OpenClaim := { program := "ytiapgkbnjpkagaa", sum := "8a54628679dc4544ea981f56adbf32025c2ad8de6aa3151f60391c30542861d6", func := "isobar/isobarlaw09.WatchRivals", spec := "watchRivals", unfollowed := true, recurses := true, plainKeys := false, apart := false, narrowed := true }
def WatchRivalsUptoSaid : Prop := watchRivalsUptoRow.holds Try.pinned (OpenSpec.upto watchRivalsSpec)

end Rows
end Go.Proofs.Ytiapgkbnjpkagaa

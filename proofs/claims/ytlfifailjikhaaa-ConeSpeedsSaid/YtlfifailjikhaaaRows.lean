/-
  No cell of these rows narrows 'for every input' (looked for: loops, veiled, ifaces, maps, wideKeys, modest, calm, conditions, laid).
  DERIVED. THE GIVEN ROWS OF THIS SEAT. 14 by the template 'for every input the law returns true; each argument reads behind the call as it read before'; 0 by the template 'total and deterministic' (their statements: YtlfifailjikhaaaTotals.lean).
  GIVEN WITH THE SEED: the statements are not yours to turn. If you find one false, say at which input.
  Laid BY PROGRAM, IN A SANDBOX (cutbox-rows.mjs): the forced cells as the released guide's own fill.sh prints them over the translation 647276df2d040129… (all of the seat's roots in one cut). By AI agents, Wed Nov 11 2026. No macro, syntax, notation, axiom, sorry.
-/
import Derived.Test.YtlfifailjikhaaaChecked
import GoSem.Claim
import GoSem.ClaimJoined
import GoSem.ClaimMapViews
import Derived.JoinedTies
import Derived.KernelRfl
namespace Go.Proofs.Ytlfifailjikhaaa
/- THE CELL 'sum', in the pinned program and in every row, IS THE sha256 OF THE DUMP (.gsa) THAT YtlfifailjikhaaaProg.lean LOADS. Nothing in Lean hashes anything: it is a label: what it is worth is what the hold of that sum in a sandbox is worth. -/
noncomputable def Try.pinned : Pinned := { name := "ytlfifailjikhaaa", sum := "647276df2d040129f4b977c877a912ae0d976adb1d454313fa04c4abeb30fc84", checked := Try.checked }
namespace Rows
def none {H : Type} : Left H := { results := [], args := [] }

/-- 'isobarlaw05.ConePlays': WHATEVER THE INPUT: true; the input reads as it did. -/
def conePlaysSpec : ChangeSpec := { name := "conePlays", fn := fun _ => fun
  | [d1, d2] => { results := [.lit (.bool true)], args := [d1, d2] }
  | _ => none }
def conePlaysRow : OpenClaim := { program := "ytlfifailjikhaaa", sum := "647276df2d040129f4b977c877a912ae0d976adb1d454313fa04c4abeb30fc84", func := "isobar/isobarlaw05.ConePlays", spec := "conePlays", unfollowed := true, recurses := true, plainKeys := false, apart := false }
def ConePlaysSaid : Prop := conePlaysRow.holds Try.pinned (OpenSpec.ofChange conePlaysSpec)

/-- ITS FALSE NEIGHBOUR: 'it returns false'. Refute it at one input. -/
def conePlaysWrong : ChangeSpec := { name := "conePlays", fn := fun _ => fun
  | [d1, d2] => { results := [.lit (.bool false)], args := [d1, d2] }
  | _ => none }
def ConePlaysWrongFalsely : Prop := conePlaysRow.holds Try.pinned (OpenSpec.ofChange conePlaysWrong)

/-- 'isobarlaw05.ConeSees': WHATEVER THE INPUT: true; the input reads as it did. -/
def coneSeesSpec : ChangeSpec := { name := "coneSees", fn := fun _ => fun
  | [d] => { results := [.lit (.bool true)], args := [d] }
  | _ => none }
def coneSeesRow : OpenClaim := { program := "ytlfifailjikhaaa", sum := "647276df2d040129f4b977c877a912ae0d976adb1d454313fa04c4abeb30fc84", func := "isobar/isobarlaw05.ConeSees", spec := "coneSees", unfollowed := true, recurses := true, plainKeys := false, apart := false }
def ConeSeesSaid : Prop := coneSeesRow.holds Try.pinned (OpenSpec.ofChange coneSeesSpec)

/-- ITS FALSE NEIGHBOUR: 'it returns false'. Refute it at one input. -/
def coneSeesWrong : ChangeSpec := { name := "coneSees", fn := fun _ => fun
  | [d] => { results := [.lit (.bool false)], args := [d] }
  | _ => none }
def ConeSeesWrongFalsely : Prop := coneSeesRow.holds Try.pinned (OpenSpec.ofChange coneSeesWrong)

/-- 'isobarlaw05.ConeTrue': WHATEVER THE INPUT: true; the input reads as it did. -/
def coneTrueSpec : ChangeSpec := { name := "coneTrue", fn := fun _ => fun
  | [d1, d2] => { results := [.lit (.bool true)], args := [d1, d2] }
  | _ => none }
def coneTrueRow : OpenClaim := { program := "ytlfifailjikhaaa", sum := "647276df2d040129f4b977c877a912ae0d976adb1d454313fa04c4abeb30fc84", func := "isobar/isobarlaw05.ConeTrue", spec := "coneTrue", unfollowed := true, recurses := true, plainKeys := false, apart := false }
def ConeTrueSaid : Prop := coneTrueRow.holds Try.pinned (OpenSpec.ofChange coneTrueSpec)

/-- ITS FALSE NEIGHBOUR: 'it returns false'. Refute it at one input. -/
def coneTrueWrong : ChangeSpec := { name := "coneTrue", fn := fun _ => fun
  | [d1, d2] => { results := [.lit (.bool false)], args := [d1, d2] }
  | _ => none }
def ConeTrueWrongFalsely : Prop := coneTrueRow.holds Try.pinned (OpenSpec.ofChange coneTrueWrong)

/-- 'isobarlaw05.ConeSharp': WHATEVER THE INPUT: true; the input reads as it did. -/
def coneSharpSpec : ChangeSpec := { name := "coneSharp", fn := fun _ => fun
  | [d] => { results := [.lit (.bool true)], args := [d] }
  | _ => none }
def coneSharpRow : OpenClaim := { program := "ytlfifailjikhaaa", sum := "647276df2d040129f4b977c877a912ae0d976adb1d454313fa04c4abeb30fc84", func := "isobar/isobarlaw05.ConeSharp", spec := "coneSharp", unfollowed := true, recurses := true, plainKeys := false, apart := false }
def ConeSharpSaid : Prop := coneSharpRow.holds Try.pinned (OpenSpec.ofChange coneSharpSpec)

/-- ITS FALSE NEIGHBOUR: 'it returns false'. Refute it at one input. -/
def coneSharpWrong : ChangeSpec := { name := "coneSharp", fn := fun _ => fun
  | [d] => { results := [.lit (.bool false)], args := [d] }
  | _ => none }
def ConeSharpWrongFalsely : Prop := coneSharpRow.holds Try.pinned (OpenSpec.ofChange coneSharpWrong)

/-- 'isobarlaw05.ConeUps': WHATEVER THE INPUT: true; the input reads as it did. -/
def coneUpsSpec : ChangeSpec := { name := "coneUps", fn := fun _ => fun
  | [d1, d2, d3] => { results := [.lit (.bool true)], args := [d1, d2, d3] }
  | _ => none }
def coneUpsRow : OpenClaim := { program := "ytlfifailjikhaaa", sum := "647276df2d040129f4b977c877a912ae0d976adb1d454313fa04c4abeb30fc84", func := "isobar/isobarlaw05.ConeUps", spec := "coneUps", unfollowed := true, recurses := true, plainKeys := false, apart := false }
def ConeUpsSaid : Prop := coneUpsRow.holds Try.pinned (OpenSpec.ofChange coneUpsSpec)

/-- ITS FALSE NEIGHBOUR: 'it returns false'. Refute it at one input. -/
def coneUpsWrong : ChangeSpec := { name := "coneUps", fn := fun _ => fun
  | [d1, d2, d3] => { results := [.lit (.bool false)], args := [d1, d2, d3] }
  | _ => none }
def ConeUpsWrongFalsely : Prop := coneUpsRow.holds Try.pinned (OpenSpec.ofChange coneUpsWrong)

/-- 'isobarlaw05.ConeWarnings': WHATEVER THE INPUT: true; the input reads as it did. -/
def coneWarningsSpec : ChangeSpec := { name := "coneWarnings", fn := fun _ => fun
  | [d1, d2, d3] => { results := [.lit (.bool true)], args := [d1, d2, d3] }
  | _ => none }
def coneWarningsRow : OpenClaim := { program := "ytlfifailjikhaaa", sum := "647276df2d040129f4b977c877a912ae0d976adb1d454313fa04c4abeb30fc84", func := "isobar/isobarlaw05.ConeWarnings", spec := "coneWarnings", unfollowed := true, recurses := true, plainKeys := false, apart := false }
def ConeWarningsSaid : Prop := coneWarningsRow.holds Try.pinned (OpenSpec.ofChange coneWarningsSpec)

/-- ITS FALSE NEIGHBOUR: 'it returns false'. Refute it at one input. -/
def coneWarningsWrong : ChangeSpec := { name := "coneWarnings", fn := fun _ => fun
  | [d1, d2, d3] => { results := [.lit (.bool false)], args := [d1, d2, d3] }
  | _ => none }
def ConeWarningsWrongFalsely : Prop := coneWarningsRow.holds Try.pinned (OpenSpec.ofChange coneWarningsWrong)

/-- 'isobarlaw05.ConeMore': WHATEVER THE INPUT: true; the input reads as it did. -/
def coneMoreSpec : ChangeSpec := { name := "coneMore", fn := fun _ => fun
  | [d1, d2, d3, d4, d5, d6, d7] => { results := [.lit (.bool true)], args := [d1, d2, d3, d4, d5, d6, d7] }
  | _ => none }
def coneMoreRow : OpenClaim := { program := "ytlfifailjikhaaa", sum := "647276df2d040129f4b977c877a912ae0d976adb1d454313fa04c4abeb30fc84", func := "isobar/isobarlaw05.ConeMore", spec := "coneMore", unfollowed := true, recurses := true, plainKeys := false, apart := false }
def ConeMoreSaid : Prop := coneMoreRow.holds Try.pinned (OpenSpec.ofChange coneMoreSpec)

/-- ITS FALSE NEIGHBOUR: 'it returns false'. Refute it at one input. -/
def coneMoreWrong : ChangeSpec := { name := "coneMore", fn := fun _ => fun
  | [d1, d2, d3, d4, d5, d6, d7] => { results := [.lit (.bool false)], args := [d1, d2, d3, d4, d5, d6, d7] }
  | _ => none }
def ConeMoreWrongFalsely : Prop := coneMoreRow.holds Try.pinned (OpenSpec.ofChange coneMoreWrong)

/-- 'isobarlaw05.ConeAlarms': WHATEVER THE INPUT: true; the input reads as it did. -/
def coneAlarmsSpec : ChangeSpec := { name := "coneAlarms", fn := fun _ => fun
  | [d] => { results := [.lit (.bool true)], args := [d] }
  | _ => none }
def coneAlarmsRow : OpenClaim := { program := "ytlfifailjikhaaa", sum := "647276df2d040129f4b977c877a912ae0d976adb1d454313fa04c4abeb30fc84", func := "isobar/isobarlaw05.ConeAlarms", spec := "coneAlarms", unfollowed := true, recurses := true, plainKeys := false, apart := false }
def ConeAlarmsSaid : Prop := coneAlarmsRow.holds Try.pinned (OpenSpec.ofChange coneAlarmsSpec)

/-- ITS FALSE NEIGHBOUR: 'it returns false'. Refute it at one input. -/
def coneAlarmsWrong : ChangeSpec := { name := "coneAlarms", fn := fun _ => fun
  | [d] => { results := [.lit (.bool false)], args := [d] }
  | _ => none }
def ConeAlarmsWrongFalsely : Prop := coneAlarmsRow.holds Try.pinned (OpenSpec.ofChange coneAlarmsWrong)

/-- 'isobarlaw05.ConeHoists': WHATEVER THE INPUT: true; the input reads as it did. -/
def coneHoistsSpec : ChangeSpec := { name := "coneHoists", fn := fun _ => fun
  | [d1, d2, d3, d4, d5] => { results := [.lit (.bool true)], args := [d1, d2, d3, d4, d5] }
  | _ => none }
def coneHoistsRow : OpenClaim := { program := "ytlfifailjikhaaa", sum := "647276df2d040129f4b977c877a912ae0d976adb1d454313fa04c4abeb30fc84", func := "isobar/isobarlaw05.ConeHoists", spec := "coneHoists", unfollowed := true, recurses := true, plainKeys := false, apart := false }
def ConeHoistsSaid : Prop := coneHoistsRow.holds Try.pinned (OpenSpec.ofChange coneHoistsSpec)

/-- ITS FALSE NEIGHBOUR: 'it returns false'. Refute it at one input. -/
def coneHoistsWrong : ChangeSpec := { name := "coneHoists", fn := fun _ => fun
  | [d1, d2, d3, d4, d5] => { results := [.lit (.bool false)], args := [d1, d2, d3, d4, d5] }
  | _ => none }
def ConeHoistsWrongFalsely : Prop := coneHoistsRow.holds Try.pinned (OpenSpec.ofChange coneHoistsWrong)

/-- 'isobarlaw05.ConeKept': WHATEVER THE INPUT: true; the input reads as it did. -/
def coneKeptSpec : ChangeSpec := { name := "coneKept", fn := fun _ => fun
  | [d1, d2, d3, d4, d5] => { results := [.lit (.bool true)], args := [d1, d2, d3, d4, d5] }
  | _ => none }
def coneKeptRow : OpenClaim := { program := "ytlfifailjikhaaa", sum := "647276df2d040129f4b977c877a912ae0d976adb1d454313fa04c4abeb30fc84", func := "isobar/isobarlaw05.ConeKept", spec := "coneKept", unfollowed := true, recurses := true, plainKeys := false, apart := false }
def ConeKeptSaid : Prop := coneKeptRow.holds Try.pinned (OpenSpec.ofChange coneKeptSpec)

/-- ITS FALSE NEIGHBOUR: 'it returns false'. Refute it at one input. -/
def coneKeptWrong : ChangeSpec := { name := "coneKept", fn := fun _ => fun
  | [d1, d2, d3, d4, d5] => { results := [.lit (.bool false)], args := [d1, d2, d3, d4, d5] }
  | _ => none }
def ConeKeptWrongFalsely : Prop := coneKeptRow.holds Try.pinned (OpenSpec.ofChange coneKeptWrong)

/-- 'isobarlaw05.ConeBoats': WHATEVER THE INPUT: true; the input reads as it did. -/
def coneBoatsSpec : ChangeSpec := { name := "coneBoats", fn := fun _ => fun
  | [d1, d2, d3, d4, d5, d6] => { results := [.lit (.bool true)], args := [d1, d2, d3, d4, d5, d6] }
  | _ => none }
def coneBoatsRow : OpenClaim := { program := "ytlfifailjikhaaa", sum := "647276df2d040129f4b977c877a912ae0d976adb1d454313fa04c4abeb30fc84", func := "isobar/isobarlaw05.ConeBoats", spec := "coneBoats", unfollowed := true, recurses := true, plainKeys := false, apart := false }
def ConeBoatsSaid : Prop := coneBoatsRow.holds Try.pinned (OpenSpec.ofChange coneBoatsSpec)

/-- ITS FALSE NEIGHBOUR: 'it returns false'. Refute it at one input. -/
def coneBoatsWrong : ChangeSpec := { name := "coneBoats", fn := fun _ => fun
  | [d1, d2, d3, d4, d5, d6] => { results := [.lit (.bool false)], args := [d1, d2, d3, d4, d5, d6] }
  | _ => none }
def ConeBoatsWrongFalsely : Prop := coneBoatsRow.holds Try.pinned (OpenSpec.ofChange coneBoatsWrong)

/-- 'isobarlaw05.ConeWarned': WHATEVER THE INPUT: true; the input reads as it did. -/
def coneWarnedSpec : ChangeSpec := { name := "coneWarned", fn := fun _ => fun
  | [d1, d2, d3, d4, d5, d6, d7] => { results := [.lit (.bool true)], args := [d1, d2, d3, d4, d5, d6, d7] }
  | _ => none }
def coneWarnedRow : OpenClaim := { program := "ytlfifailjikhaaa", sum := "647276df2d040129f4b977c877a912ae0d976adb1d454313fa04c4abeb30fc84", func := "isobar/isobarlaw05.ConeWarned", spec := "coneWarned", unfollowed := true, recurses := true, plainKeys := false, apart := false }
def ConeWarnedSaid : Prop := coneWarnedRow.holds Try.pinned (OpenSpec.ofChange coneWarnedSpec)

/-- ITS FALSE NEIGHBOUR: 'it returns false'. Refute it at one input. -/
def coneWarnedWrong : ChangeSpec := { name := "coneWarned", fn := fun _ => fun
  | [d1, d2, d3, d4, d5, d6, d7] => { results := [.lit (.bool false)], args := [d1, d2, d3, d4, d5, d6, d7] }
  | _ => none }
def ConeWarnedWrongFalsely : Prop := coneWarnedRow.holds Try.pinned (OpenSpec.ofChange coneWarnedWrong)

/-- 'isobarlaw05.ConeSpeeds': WHATEVER THE INPUT: true; the input reads as it did. -/
def coneSpeedsSpec : ChangeSpec := { name := "coneSpeeds", fn := fun _ => fun
  | [d1, d2, d3] => { results := [.lit (.bool true)], args := [d1, d2, d3] }
  | _ => none }
def coneSpeedsRow : OpenClaim := { program := "ytlfifailjikhaaa", sum := "647276df2d040129f4b977c877a912ae0d976adb1d454313fa04c4abeb30fc84", func := "isobar/isobarlaw05.ConeSpeeds", spec := "coneSpeeds", unfollowed := true, recurses := true, plainKeys := false, apart := false }
def ConeSpeedsSaid : Prop := coneSpeedsRow.holds Try.pinned (OpenSpec.ofChange coneSpeedsSpec)

/-- ITS FALSE NEIGHBOUR: 'it returns false'. Refute it at one input. -/
def coneSpeedsWrong : ChangeSpec := { name := "coneSpeeds", fn := fun _ => fun
  | [d1, d2, d3] => { results := [.lit (.bool false)], args := [d1, d2, d3] }
  | _ => none }
def ConeSpeedsWrongFalsely : Prop := coneSpeedsRow.holds Try.pinned (OpenSpec.ofChange coneSpeedsWrong)

/-- 'isobarlaw05.ConeRivals': WHATEVER THE INPUT: true; the input reads as it did. -/
def coneRivalsSpec : ChangeSpec := { name := "coneRivals", fn := fun _ => fun
  | [d1, d2, d3, d4] => { results := [.lit (.bool true)], args := [d1, d2, d3, d4] }
  | _ => none }
def coneRivalsRow : OpenClaim := { program := "ytlfifailjikhaaa", sum := "647276df2d040129f4b977c877a912ae0d976adb1d454313fa04c4abeb30fc84", func := "isobar/isobarlaw05.ConeRivals", spec := "coneRivals", unfollowed := true, recurses := true, plainKeys := false, apart := false }
def ConeRivalsSaid : Prop := coneRivalsRow.holds Try.pinned (OpenSpec.ofChange coneRivalsSpec)

/-- ITS FALSE NEIGHBOUR: 'it returns false'. Refute it at one input. -/
def coneRivalsWrong : ChangeSpec := { name := "coneRivals", fn := fun _ => fun
  | [d1, d2, d3, d4] => { results := [.lit (.bool false)], args := [d1, d2, d3, d4] }
  | _ => none }
def ConeRivalsWrongFalsely : Prop := coneRivalsRow.holds Try.pinned (OpenSpec.ofChange coneRivalsWrong)

/- THE SECOND FORM. 'bulk': how many values and letters a reading holds, each counted each time it is reached (what is shared counts as often as it is met; a slice's spare places count too). A statement '..UptoSaid' is the law's where the arguments, and the package variables that the reading takes, are together of bulk at most 1048576: NARROWER than '..Said'. Prove '..Said' where nothing that the law and all that it calls make is longer than what came in: it says more and counts as full. Else prove '..UptoSaid'. A law counts once. -/
mutual
def uptoBulk {H : Type} : DataW H → Nat
  | .lit (.string bytes) => bytes.length + 1
  | .lit _ => 1
  | .nil => 1
  | .ptr d => uptoBulk d + 1
  | .slice elems spare => uptoBulkAll elems + uptoBulkAll spare + 1
  | .agg parts => uptoBulkAll parts + 1
  | .iface _ d => uptoBulk d + 1
  | .map entries => uptoBulkEntries entries + 1
  | .held _ => 1
def uptoBulkAll {H : Type} : List (DataW H) → Nat
  | [] => 0
  | d :: r => uptoBulk d + uptoBulkAll r
def uptoBulkEntries {H : Type} : List (Lit × DataW H) → Nat
  | [] => 0
  | x :: r => uptoBulkEntry x + uptoBulkEntries r
def uptoBulkEntry {H : Type} : Lit × DataW H → Nat
  | (.string bytes, d) => bytes.length + uptoBulk d + 1
  | (_, d) => uptoBulk d + 1
 end
def uptoSmall : (H : Type) → List (DataW H) → Bool := fun _ ds => decide (uptoBulkAll ds ≤ 1048576)
def OpenSpec.upto (s : _root_.Go.ChangeSpec) : _root_.Go.OpenSpec := { _root_.Go.OpenSpec.ofChange s with cond := some uptoSmall }

/-- 'isobarlaw05.ConePlays', WHERE WHAT IT READS IS OF BULK AT MOST 1048576: true; the input reads as it did. -/
def conePlaysUptoRow : OpenClaim := { program := "ytlfifailjikhaaa", sum := "647276df2d040129f4b977c877a912ae0d976adb1d454313fa04c4abeb30fc84", func := "isobar/isobarlaw05.ConePlays", spec := "conePlays", unfollowed := true, recurses := true, plainKeys := false, apart := false, narrowed := true }
def ConePlaysUptoSaid : Prop := conePlaysUptoRow.holds Try.pinned (OpenSpec.upto conePlaysSpec)

/-- 'isobarlaw05.ConeSees', WHERE WHAT IT READS IS OF BULK AT MOST 1048576: true; the input reads as it did. -/
def coneSeesUptoRow : OpenClaim := { program := "ytlfifailjikhaaa", sum := "647276df2d040129f4b977c877a912ae0d976adb1d454313fa04c4abeb30fc84", func := "isobar/isobarlaw05.ConeSees", spec := "coneSees", unfollowed := true, recurses := true, plainKeys := false, apart := false, narrowed := true }
def ConeSeesUptoSaid : Prop := coneSeesUptoRow.holds Try.pinned (OpenSpec.upto coneSeesSpec)

/-- 'isobarlaw05.ConeTrue', WHERE WHAT IT READS IS OF BULK AT MOST 1048576: true; the input reads as it did. -/
def coneTrueUptoRow : OpenClaim := { program := "ytlfifailjikhaaa", sum := "647276df2d040129f4b977c877a912ae0d976adb1d454313fa04c4abeb30fc84", func := "isobar/isobarlaw05.ConeTrue", spec := "coneTrue", unfollowed := true, recurses := true, plainKeys := false, apart := false, narrowed := true }
def ConeTrueUptoSaid : Prop := coneTrueUptoRow.holds Try.pinned (OpenSpec.upto coneTrueSpec)

/-- 'isobarlaw05.ConeSharp', WHERE WHAT IT READS IS OF BULK AT MOST 1048576: true; the input reads as it did. -/
def coneSharpUptoRow : OpenClaim := { program := "ytlfifailjikhaaa", sum := "647276df2d040129f4b977c877a912ae0d976adb1d454313fa04c4abeb30fc84", func := "isobar/isobarlaw05.ConeSharp", spec := "coneSharp", unfollowed := true, recurses := true, plainKeys := false, apart := false, narrowed := true }
def ConeSharpUptoSaid : Prop := coneSharpUptoRow.holds Try.pinned (OpenSpec.upto coneSharpSpec)

/-- 'isobarlaw05.ConeUps', WHERE WHAT IT READS IS OF BULK AT MOST 1048576: true; the input reads as it did. -/
def coneUpsUptoRow : OpenClaim := { program := "ytlfifailjikhaaa", sum := "647276df2d040129f4b977c877a912ae0d976adb1d454313fa04c4abeb30fc84", func := "isobar/isobarlaw05.ConeUps", spec := "coneUps", unfollowed := true, recurses := true, plainKeys := false, apart := false, narrowed := true }
def ConeUpsUptoSaid : Prop := coneUpsUptoRow.holds Try.pinned (OpenSpec.upto coneUpsSpec)

/-- 'isobarlaw05.ConeWarnings', WHERE WHAT IT READS IS OF BULK AT MOST 1048576: true; the input reads as it did. -/
def coneWarningsUptoRow : OpenClaim := { program := "ytlfifailjikhaaa", sum := "647276df2d040129f4b977c877a912ae0d976adb1d454313fa04c4abeb30fc84", func := "isobar/isobarlaw05.ConeWarnings", spec := "coneWarnings", unfollowed := true, recurses := true, plainKeys := false, apart := false, narrowed := true }
def ConeWarningsUptoSaid : Prop := coneWarningsUptoRow.holds Try.pinned (OpenSpec.upto coneWarningsSpec)

/-- 'isobarlaw05.ConeMore', WHERE WHAT IT READS IS OF BULK AT MOST 1048576: true; the input reads as it did. -/
def coneMoreUptoRow : OpenClaim := { program := "ytlfifailjikhaaa", sum := "647276df2d040129f4b977c877a912ae0d976adb1d454313fa04c4abeb30fc84", func := "isobar/isobarlaw05.ConeMore", spec := "coneMore", unfollowed := true, recurses := true, plainKeys := false, apart := false, narrowed := true }
def ConeMoreUptoSaid : Prop := coneMoreUptoRow.holds Try.pinned (OpenSpec.upto coneMoreSpec)

/-- 'isobarlaw05.ConeAlarms', WHERE WHAT IT READS IS OF BULK AT MOST 1048576: true; the input reads as it did. -/
def coneAlarmsUptoRow : OpenClaim := { program := "ytlfifailjikhaaa", sum := "647276df2d040129f4b977c877a912ae0d976adb1d454313fa04c4abeb30fc84", func := "isobar/isobarlaw05.ConeAlarms", spec := "coneAlarms", unfollowed := true, recurses := true, plainKeys := false, apart := false, narrowed := true }
def ConeAlarmsUptoSaid : Prop := coneAlarmsUptoRow.holds Try.pinned (OpenSpec.upto coneAlarmsSpec)

/-- 'isobarlaw05.ConeHoists', WHERE WHAT IT READS IS OF BULK AT MOST 1048576: true; the input reads as it did. -/
def coneHoistsUptoRow : OpenClaim := { program := "ytlfifailjikhaaa", sum := "647276df2d040129f4b977c877a912ae0d976adb1d454313fa04c4abeb30fc84", func := "isobar/isobarlaw05.ConeHoists", spec := "coneHoists", unfollowed := true, recurses := true, plainKeys := false, apart := false, narrowed := true }
def ConeHoistsUptoSaid : Prop := coneHoistsUptoRow.holds Try.pinned (OpenSpec.upto coneHoistsSpec)

/-- 'isobarlaw05.ConeKept', WHERE WHAT IT READS IS OF BULK AT MOST 1048576: true; the input reads as it did. -/
def coneKeptUptoRow : OpenClaim := { program := "ytlfifailjikhaaa", sum := "647276df2d040129f4b977c877a912ae0d976adb1d454313fa04c4abeb30fc84", func := "isobar/isobarlaw05.ConeKept", spec := "coneKept", unfollowed := true, recurses := true, plainKeys := false, apart := false, narrowed := true }
def ConeKeptUptoSaid : Prop := coneKeptUptoRow.holds Try.pinned (OpenSpec.upto coneKeptSpec)

/-- 'isobarlaw05.ConeBoats', WHERE WHAT IT READS IS OF BULK AT MOST 1048576: true; the input reads as it did. -/
def coneBoatsUptoRow : OpenClaim := { program := "ytlfifailjikhaaa", sum := "647276df2d040129f4b977c877a912ae0d976adb1d454313fa04c4abeb30fc84", func := "isobar/isobarlaw05.ConeBoats", spec := "coneBoats", unfollowed := true, recurses := true, plainKeys := false, apart := false, narrowed := true }
def ConeBoatsUptoSaid : Prop := coneBoatsUptoRow.holds Try.pinned (OpenSpec.upto coneBoatsSpec)

/-- 'isobarlaw05.ConeWarned', WHERE WHAT IT READS IS OF BULK AT MOST 1048576: true; the input reads as it did. -/
def coneWarnedUptoRow : OpenClaim := { program := "ytlfifailjikhaaa", sum := "647276df2d040129f4b977c877a912ae0d976adb1d454313fa04c4abeb30fc84", func := "isobar/isobarlaw05.ConeWarned", spec := "coneWarned", unfollowed := true, recurses := true, plainKeys := false, apart := false, narrowed := true }
def ConeWarnedUptoSaid : Prop := coneWarnedUptoRow.holds Try.pinned (OpenSpec.upto coneWarnedSpec)

/-- 'isobarlaw05.ConeSpeeds', WHERE WHAT IT READS IS OF BULK AT MOST 1048576: true; the input reads as it did. -/
def coneSpeedsUptoRow : OpenClaim := { program := "ytlfifailjikhaaa", sum := "647276df2d040129f4b977c877a912ae0d976adb1d454313fa04c4abeb30fc84", func := "isobar/isobarlaw05.ConeSpeeds", spec := "coneSpeeds", unfollowed := true, recurses := true, plainKeys := false, apart := false, narrowed := true }
def ConeSpeedsUptoSaid : Prop := coneSpeedsUptoRow.holds Try.pinned (OpenSpec.upto coneSpeedsSpec)

/-- 'isobarlaw05.ConeRivals', WHERE WHAT IT READS IS OF BULK AT MOST 1048576: true; the input reads as it did. -/
def coneRivalsUptoRow : OpenClaim := { program := "ytlfifailjikhaaa", sum := "647276df2d040129f4b977c877a912ae0d976adb1d454313fa04c4abeb30fc84", func := "isobar/isobarlaw05.ConeRivals", spec := "coneRivals", unfollowed := true, recurses := true, plainKeys := false, apart := false, narrowed := true }
def ConeRivalsUptoSaid : Prop := coneRivalsUptoRow.holds Try.pinned (OpenSpec.upto coneRivalsSpec)

end Rows
end Go.Proofs.Ytlfifailjikhaaa

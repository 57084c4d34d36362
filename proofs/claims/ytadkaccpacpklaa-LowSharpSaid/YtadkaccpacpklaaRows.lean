/-
  No cell of these rows narrows 'for every input' (looked for: loops, veiled, ifaces, maps, wideKeys, modest, calm, conditions, laid).
  DERIVED. THE GIVEN ROWS OF THIS SEAT. 13 by the template 'for every input the law returns true; each argument reads behind the call as it read before'; 0 by the template 'total and deterministic' (their statements: YtadkaccpacpklaaTotals.lean).
  GIVEN WITH THE SEED: the statements are not yours to turn. If you find one false, say at which input.
  Laid BY PROGRAM, IN A SANDBOX (cutbox-rows.mjs): the forced cells as the released guide's own fill.sh prints them over the translation 3fc17588bf98ea82… (all of the seat's roots in one cut). By AI agents, Wed Nov 11 2026. No macro, syntax, notation, axiom, sorry.
-/
import Derived.Test.YtadkaccpacpklaaChecked
import GoSem.Claim
import GoSem.ClaimJoined
import GoSem.ClaimMapViews
import Derived.JoinedTies
import Derived.KernelRfl
namespace Go.Proofs.Ytadkaccpacpklaa
/- THE CELL 'sum', in the pinned program and in every row, IS THE sha256 OF THE DUMP (.gsa) THAT YtadkaccpacpklaaProg.lean LOADS. Nothing in Lean hashes anything: it is a label: what it is worth is what the hold of that sum in a sandbox is worth. -/
noncomputable def Try.pinned : Pinned := { name := "ytadkaccpacpklaa", sum := "3fc17588bf98ea823d60759ab832cbc4e780adf84c46118c04b2279427ec4226", checked := Try.checked }
namespace Rows
def none {H : Type} : Left H := { results := [], args := [] }

/-- 'isobarlaw04.LowSames': WHATEVER THE INPUT: true; the input reads as it did. -/
def lowSamesSpec : ChangeSpec := { name := "lowSames", fn := fun _ => fun
  | [d1, d2] => { results := [.lit (.bool true)], args := [d1, d2] }
  | _ => none }
def lowSamesRow : OpenClaim := { program := "ytadkaccpacpklaa", sum := "3fc17588bf98ea823d60759ab832cbc4e780adf84c46118c04b2279427ec4226", func := "isobar/isobarlaw04.LowSames", spec := "lowSames", unfollowed := true, recurses := true, plainKeys := false, apart := false }
def LowSamesSaid : Prop := lowSamesRow.holds Try.pinned (OpenSpec.ofChange lowSamesSpec)

/-- ITS FALSE NEIGHBOUR: 'it returns false'. Refute it at one input. -/
def lowSamesWrong : ChangeSpec := { name := "lowSames", fn := fun _ => fun
  | [d1, d2] => { results := [.lit (.bool false)], args := [d1, d2] }
  | _ => none }
def LowSamesWrongFalsely : Prop := lowSamesRow.holds Try.pinned (OpenSpec.ofChange lowSamesWrong)

/-- 'isobarlaw04.LowSpeeds': WHATEVER THE INPUT: true; the input reads as it did. -/
def lowSpeedsSpec : ChangeSpec := { name := "lowSpeeds", fn := fun _ => fun
  | [d] => { results := [.lit (.bool true)], args := [d] }
  | _ => none }
def lowSpeedsRow : OpenClaim := { program := "ytadkaccpacpklaa", sum := "3fc17588bf98ea823d60759ab832cbc4e780adf84c46118c04b2279427ec4226", func := "isobar/isobarlaw04.LowSpeeds", spec := "lowSpeeds", unfollowed := true, recurses := true, plainKeys := false, apart := false }
def LowSpeedsSaid : Prop := lowSpeedsRow.holds Try.pinned (OpenSpec.ofChange lowSpeedsSpec)

/-- ITS FALSE NEIGHBOUR: 'it returns false'. Refute it at one input. -/
def lowSpeedsWrong : ChangeSpec := { name := "lowSpeeds", fn := fun _ => fun
  | [d] => { results := [.lit (.bool false)], args := [d] }
  | _ => none }
def LowSpeedsWrongFalsely : Prop := lowSpeedsRow.holds Try.pinned (OpenSpec.ofChange lowSpeedsWrong)

/-- 'isobarlaw04.LowLogic': WHATEVER THE INPUT: true; the input reads as it did. -/
def lowLogicSpec : ChangeSpec := { name := "lowLogic", fn := fun _ => fun
  | [d1, d2] => { results := [.lit (.bool true)], args := [d1, d2] }
  | _ => none }
def lowLogicRow : OpenClaim := { program := "ytadkaccpacpklaa", sum := "3fc17588bf98ea823d60759ab832cbc4e780adf84c46118c04b2279427ec4226", func := "isobar/isobarlaw04.LowLogic", spec := "lowLogic", unfollowed := true, recurses := true, plainKeys := false, apart := false }
def LowLogicSaid : Prop := lowLogicRow.holds Try.pinned (OpenSpec.ofChange lowLogicSpec)

/-- ITS FALSE NEIGHBOUR: 'it returns false'. Refute it at one input. -/
def lowLogicWrong : ChangeSpec := { name := "lowLogic", fn := fun _ => fun
  | [d1, d2] => { results := [.lit (.bool false)], args := [d1, d2] }
  | _ => none }
def LowLogicWrongFalsely : Prop := lowLogicRow.holds Try.pinned (OpenSpec.ofChange lowLogicWrong)

/-- 'isobarlaw04.LowBack': WHATEVER THE INPUT: true; the input reads as it did. -/
def lowBackSpec : ChangeSpec := { name := "lowBack", fn := fun _ => fun
  | [d1, d2, d3] => { results := [.lit (.bool true)], args := [d1, d2, d3] }
  | _ => none }
def lowBackRow : OpenClaim := { program := "ytadkaccpacpklaa", sum := "3fc17588bf98ea823d60759ab832cbc4e780adf84c46118c04b2279427ec4226", func := "isobar/isobarlaw04.LowBack", spec := "lowBack", unfollowed := true, recurses := true, plainKeys := false, apart := false }
def LowBackSaid : Prop := lowBackRow.holds Try.pinned (OpenSpec.ofChange lowBackSpec)

/-- ITS FALSE NEIGHBOUR: 'it returns false'. Refute it at one input. -/
def lowBackWrong : ChangeSpec := { name := "lowBack", fn := fun _ => fun
  | [d1, d2, d3] => { results := [.lit (.bool false)], args := [d1, d2, d3] }
  | _ => none }
def LowBackWrongFalsely : Prop := lowBackRow.holds Try.pinned (OpenSpec.ofChange lowBackWrong)

/-- 'isobarlaw04.LowTurned': WHATEVER THE INPUT: true; the input reads as it did. -/
def lowTurnedSpec : ChangeSpec := { name := "lowTurned", fn := fun _ => fun
  | [d1, d2, d3, d4] => { results := [.lit (.bool true)], args := [d1, d2, d3, d4] }
  | _ => none }
def lowTurnedRow : OpenClaim := { program := "ytadkaccpacpklaa", sum := "3fc17588bf98ea823d60759ab832cbc4e780adf84c46118c04b2279427ec4226", func := "isobar/isobarlaw04.LowTurned", spec := "lowTurned", unfollowed := true, recurses := true, plainKeys := false, apart := false }
def LowTurnedSaid : Prop := lowTurnedRow.holds Try.pinned (OpenSpec.ofChange lowTurnedSpec)

/-- ITS FALSE NEIGHBOUR: 'it returns false'. Refute it at one input. -/
def lowTurnedWrong : ChangeSpec := { name := "lowTurned", fn := fun _ => fun
  | [d1, d2, d3, d4] => { results := [.lit (.bool false)], args := [d1, d2, d3, d4] }
  | _ => none }
def LowTurnedWrongFalsely : Prop := lowTurnedRow.holds Try.pinned (OpenSpec.ofChange lowTurnedWrong)

/-- 'isobarlaw04.LowMore': WHATEVER THE INPUT: true; the input reads as it did. -/
def lowMoreSpec : ChangeSpec := { name := "lowMore", fn := fun _ => fun
  | [d1, d2, d3, d4, d5, d6, d7, d8] => { results := [.lit (.bool true)], args := [d1, d2, d3, d4, d5, d6, d7, d8] }
  | _ => none }
def lowMoreRow : OpenClaim := { program := "ytadkaccpacpklaa", sum := "3fc17588bf98ea823d60759ab832cbc4e780adf84c46118c04b2279427ec4226", func := "isobar/isobarlaw04.LowMore", spec := "lowMore", unfollowed := true, recurses := true, plainKeys := false, apart := false }
def LowMoreSaid : Prop := lowMoreRow.holds Try.pinned (OpenSpec.ofChange lowMoreSpec)

/-- ITS FALSE NEIGHBOUR: 'it returns false'. Refute it at one input. -/
def lowMoreWrong : ChangeSpec := { name := "lowMore", fn := fun _ => fun
  | [d1, d2, d3, d4, d5, d6, d7, d8] => { results := [.lit (.bool false)], args := [d1, d2, d3, d4, d5, d6, d7, d8] }
  | _ => none }
def LowMoreWrongFalsely : Prop := lowMoreRow.holds Try.pinned (OpenSpec.ofChange lowMoreWrong)

/-- 'isobarlaw04.LowClashes': WHATEVER THE INPUT: true; the input reads as it did. -/
def lowClashesSpec : ChangeSpec := { name := "lowClashes", fn := fun _ => fun
  | [d] => { results := [.lit (.bool true)], args := [d] }
  | _ => none }
def lowClashesRow : OpenClaim := { program := "ytadkaccpacpklaa", sum := "3fc17588bf98ea823d60759ab832cbc4e780adf84c46118c04b2279427ec4226", func := "isobar/isobarlaw04.LowClashes", spec := "lowClashes", unfollowed := true, recurses := true, plainKeys := false, apart := false }
def LowClashesSaid : Prop := lowClashesRow.holds Try.pinned (OpenSpec.ofChange lowClashesSpec)

/-- ITS FALSE NEIGHBOUR: 'it returns false'. Refute it at one input. -/
def lowClashesWrong : ChangeSpec := { name := "lowClashes", fn := fun _ => fun
  | [d] => { results := [.lit (.bool false)], args := [d] }
  | _ => none }
def LowClashesWrongFalsely : Prop := lowClashesRow.holds Try.pinned (OpenSpec.ofChange lowClashesWrong)

/-- 'isobarlaw04.LowSharp': WHATEVER THE INPUT: true; the input reads as it did. -/
def lowSharpSpec : ChangeSpec := { name := "lowSharp", fn := fun _ => fun
  | [d1, d2, d3, d4] => { results := [.lit (.bool true)], args := [d1, d2, d3, d4] }
  | _ => none }
def lowSharpRow : OpenClaim := { program := "ytadkaccpacpklaa", sum := "3fc17588bf98ea823d60759ab832cbc4e780adf84c46118c04b2279427ec4226", func := "isobar/isobarlaw04.LowSharp", spec := "lowSharp", unfollowed := true, recurses := true, plainKeys := false, apart := false }
def LowSharpSaid : Prop := lowSharpRow.holds Try.pinned (OpenSpec.ofChange lowSharpSpec)

/-- ITS FALSE NEIGHBOUR: 'it returns false'. Refute it at one input. -/
def lowSharpWrong : ChangeSpec := { name := "lowSharp", fn := fun _ => fun
  | [d1, d2, d3, d4] => { results := [.lit (.bool false)], args := [d1, d2, d3, d4] }
  | _ => none }
def LowSharpWrongFalsely : Prop := lowSharpRow.holds Try.pinned (OpenSpec.ofChange lowSharpWrong)

/-- 'isobarlaw04.LowSwift': WHATEVER THE INPUT: true; the input reads as it did. -/
def lowSwiftSpec : ChangeSpec := { name := "lowSwift", fn := fun _ => fun
  | [d1, d2] => { results := [.lit (.bool true)], args := [d1, d2] }
  | _ => none }
def lowSwiftRow : OpenClaim := { program := "ytadkaccpacpklaa", sum := "3fc17588bf98ea823d60759ab832cbc4e780adf84c46118c04b2279427ec4226", func := "isobar/isobarlaw04.LowSwift", spec := "lowSwift", unfollowed := true, recurses := true, plainKeys := false, apart := false }
def LowSwiftSaid : Prop := lowSwiftRow.holds Try.pinned (OpenSpec.ofChange lowSwiftSpec)

/-- ITS FALSE NEIGHBOUR: 'it returns false'. Refute it at one input. -/
def lowSwiftWrong : ChangeSpec := { name := "lowSwift", fn := fun _ => fun
  | [d1, d2] => { results := [.lit (.bool false)], args := [d1, d2] }
  | _ => none }
def LowSwiftWrongFalsely : Prop := lowSwiftRow.holds Try.pinned (OpenSpec.ofChange lowSwiftWrong)

/-- 'isobarlaw04.LowAhead': WHATEVER THE INPUT: true; the input reads as it did. -/
def lowAheadSpec : ChangeSpec := { name := "lowAhead", fn := fun _ => fun
  | [d1, d2, d3, d4, d5, d6, d7] => { results := [.lit (.bool true)], args := [d1, d2, d3, d4, d5, d6, d7] }
  | _ => none }
def lowAheadRow : OpenClaim := { program := "ytadkaccpacpklaa", sum := "3fc17588bf98ea823d60759ab832cbc4e780adf84c46118c04b2279427ec4226", func := "isobar/isobarlaw04.LowAhead", spec := "lowAhead", unfollowed := true, recurses := true, plainKeys := false, apart := false }
def LowAheadSaid : Prop := lowAheadRow.holds Try.pinned (OpenSpec.ofChange lowAheadSpec)

/-- ITS FALSE NEIGHBOUR: 'it returns false'. Refute it at one input. -/
def lowAheadWrong : ChangeSpec := { name := "lowAhead", fn := fun _ => fun
  | [d1, d2, d3, d4, d5, d6, d7] => { results := [.lit (.bool false)], args := [d1, d2, d3, d4, d5, d6, d7] }
  | _ => none }
def LowAheadWrongFalsely : Prop := lowAheadRow.holds Try.pinned (OpenSpec.ofChange lowAheadWrong)

/-- 'isobarlaw04.LowFits': WHATEVER THE INPUT: true; the input reads as it did. -/
def lowFitsSpec : ChangeSpec := { name := "lowFits", fn := fun _ => fun
  | [d1, d2] => { results := [.lit (.bool true)], args := [d1, d2] }
  | _ => none }
def lowFitsRow : OpenClaim := { program := "ytadkaccpacpklaa", sum := "3fc17588bf98ea823d60759ab832cbc4e780adf84c46118c04b2279427ec4226", func := "isobar/isobarlaw04.LowFits", spec := "lowFits", unfollowed := true, recurses := true, plainKeys := false, apart := false }
def LowFitsSaid : Prop := lowFitsRow.holds Try.pinned (OpenSpec.ofChange lowFitsSpec)

/-- ITS FALSE NEIGHBOUR: 'it returns false'. Refute it at one input. -/
def lowFitsWrong : ChangeSpec := { name := "lowFits", fn := fun _ => fun
  | [d1, d2] => { results := [.lit (.bool false)], args := [d1, d2] }
  | _ => none }
def LowFitsWrongFalsely : Prop := lowFitsRow.holds Try.pinned (OpenSpec.ofChange lowFitsWrong)

/-- 'isobarlaw04.LowTrue': WHATEVER THE INPUT: true; the input reads as it did. -/
def lowTrueSpec : ChangeSpec := { name := "lowTrue", fn := fun _ => fun
  | [d1, d2, d3, d4] => { results := [.lit (.bool true)], args := [d1, d2, d3, d4] }
  | _ => none }
def lowTrueRow : OpenClaim := { program := "ytadkaccpacpklaa", sum := "3fc17588bf98ea823d60759ab832cbc4e780adf84c46118c04b2279427ec4226", func := "isobar/isobarlaw04.LowTrue", spec := "lowTrue", unfollowed := true, recurses := true, plainKeys := false, apart := false }
def LowTrueSaid : Prop := lowTrueRow.holds Try.pinned (OpenSpec.ofChange lowTrueSpec)

/-- ITS FALSE NEIGHBOUR: 'it returns false'. Refute it at one input. -/
def lowTrueWrong : ChangeSpec := { name := "lowTrue", fn := fun _ => fun
  | [d1, d2, d3, d4] => { results := [.lit (.bool false)], args := [d1, d2, d3, d4] }
  | _ => none }
def LowTrueWrongFalsely : Prop := lowTrueRow.holds Try.pinned (OpenSpec.ofChange lowTrueWrong)

/-- 'isobarlaw04.LowFew': WHATEVER THE INPUT: true; the input reads as it did. -/
def lowFewSpec : ChangeSpec := { name := "lowFew", fn := fun _ => fun
  | [d1, d2] => { results := [.lit (.bool true)], args := [d1, d2] }
  | _ => none }
def lowFewRow : OpenClaim := { program := "ytadkaccpacpklaa", sum := "3fc17588bf98ea823d60759ab832cbc4e780adf84c46118c04b2279427ec4226", func := "isobar/isobarlaw04.LowFew", spec := "lowFew", unfollowed := true, recurses := true, plainKeys := false, apart := false }
def LowFewSaid : Prop := lowFewRow.holds Try.pinned (OpenSpec.ofChange lowFewSpec)

/-- ITS FALSE NEIGHBOUR: 'it returns false'. Refute it at one input. -/
def lowFewWrong : ChangeSpec := { name := "lowFew", fn := fun _ => fun
  | [d1, d2] => { results := [.lit (.bool false)], args := [d1, d2] }
  | _ => none }
def LowFewWrongFalsely : Prop := lowFewRow.holds Try.pinned (OpenSpec.ofChange lowFewWrong)

/- THE SECOND FORM. 'bulk': how many values and letters a reading holds, each counted each time it is reached (what is shared counts as often as it is met; a slice's spare places count too). A statement '..UptoSaid' is the law's where the arguments, and the package variables that the reading takes, are together of bulk at most 1048576: NARROWER than '..Said'. Prove '..Said' where nothing that the law and all that it calls make is longer than what came in: it says more and counts as full. Else prove '..UptoSaid'. A law counts once. -/
mutual
def uptoBulk {H : Type} : DataW H → Nat
  | .lit (.string bytes) => bytes.length + 1
  | .lit _ => 1
  | .nil => 1
  | .ptr d => uptoBulk d + 1
  | .slice elems spare => uptoBulkAll elems + uptoBulkAll spare + 1
  | .agg parts => uptoBulkAll parts + 1
  | .iface _ d => uptoBulk d + 1
  | .map entries => uptoBulkEntries entries + 1
  | .held _ => 1
def uptoBulkAll {H : Type} : List (DataW H) → Nat
  | [] => 0
  | d :: r => uptoBulk d + uptoBulkAll r
def uptoBulkEntries {H : Type} : List (Lit × DataW H) → Nat
  | [] => 0
  | x :: r => uptoBulkEntry x + uptoBulkEntries r
def uptoBulkEntry {H : Type} : Lit × DataW H → Nat
  | (.string bytes, d) => bytes.length + uptoBulk d + 1
  | (_, d) => uptoBulk d + 1
 end
def uptoSmall : (H : Type) → List (DataW H) → Bool := fun _ ds => decide (uptoBulkAll ds ≤ 1048576)
def OpenSpec.upto (s : _root_.Go.ChangeSpec) : _root_.Go.OpenSpec := { _root_.Go.OpenSpec.ofChange s with cond := some uptoSmall }

/-- 'isobarlaw04.LowSames', WHERE WHAT IT READS IS OF BULK AT MOST 1048576: true; the input reads as it did. -/
def lowSamesUptoRow : OpenClaim := { program := "ytadkaccpacpklaa", sum := "3fc17588bf98ea823d60759ab832cbc4e780adf84c46118c04b2279427ec4226", func := "isobar/isobarlaw04.LowSames", spec := "lowSames", unfollowed := true, recurses := true, plainKeys := false, apart := false, narrowed := true }
def LowSamesUptoSaid : Prop := lowSamesUptoRow.holds Try.pinned (OpenSpec.upto lowSamesSpec)

/-- 'isobarlaw04.LowSpeeds', WHERE WHAT IT READS IS OF BULK AT MOST 1048576: true; the input reads as it did. -/
def lowSpeedsUptoRow : OpenClaim := { program := "ytadkaccpacpklaa", sum := "3fc17588bf98ea823d60759ab832cbc4e780adf84c46118c04b2279427ec4226", func := "isobar/isobarlaw04.LowSpeeds", spec := "lowSpeeds", unfollowed := true, recurses := true, plainKeys := false, apart := false, narrowed := true }
def LowSpeedsUptoSaid : Prop := lowSpeedsUptoRow.holds Try.pinned (OpenSpec.upto lowSpeedsSpec)

/-- 'isobarlaw04.LowLogic', WHERE WHAT IT READS IS OF BULK AT MOST 1048576: true; the input reads as it did. -/
def lowLogicUptoRow : OpenClaim := { program := "ytadkaccpacpklaa", sum := "3fc17588bf98ea823d60759ab832cbc4e780adf84c46118c04b2279427ec4226", func := "isobar/isobarlaw04.LowLogic", spec := "lowLogic", unfollowed := true, recurses := true, plainKeys := false, apart := false, narrowed := true }
def LowLogicUptoSaid : Prop := lowLogicUptoRow.holds Try.pinned (OpenSpec.upto lowLogicSpec)

/-- 'isobarlaw04.LowBack', WHERE WHAT IT READS IS OF BULK AT MOST 1048576: true; the input reads as it did. -/
def lowBackUptoRow : OpenClaim := { program := "ytadkaccpacpklaa", sum := "3fc17588bf98ea823d60759ab832cbc4e780adf84c46118c04b2279427ec4226", func := "isobar/isobarlaw04.LowBack", spec := "lowBack", unfollowed := true, recurses := true, plainKeys := false, apart := false, narrowed := true }
def LowBackUptoSaid : Prop := lowBackUptoRow.holds Try.pinned (OpenSpec.upto lowBackSpec)

/-- 'isobarlaw04.LowTurned', WHERE WHAT IT READS IS OF BULK AT MOST 1048576: true; the input reads as it did. -/
def lowTurnedUptoRow : OpenClaim := { program := "ytadkaccpacpklaa", sum := "3fc17588bf98ea823d60759ab832cbc4e780adf84c46118c04b2279427ec4226", func := "isobar/isobarlaw04.LowTurned", spec := "lowTurned", unfollowed := true, recurses := true, plainKeys := false, apart := false, narrowed := true }
def LowTurnedUptoSaid : Prop := lowTurnedUptoRow.holds Try.pinned (OpenSpec.upto lowTurnedSpec)

/-- 'isobarlaw04.LowMore', WHERE WHAT IT READS IS OF BULK AT MOST 1048576: true; the input reads as it did. -/
def lowMoreUptoRow : OpenClaim := { program := "ytadkaccpacpklaa", sum := "3fc17588bf98ea823d60759ab832cbc4e780adf84c46118c04b2279427ec4226", func := "isobar/isobarlaw04.LowMore", spec := "lowMore", unfollowed := true, recurses := true, plainKeys := false, apart := false, narrowed := true }
def LowMoreUptoSaid : Prop := lowMoreUptoRow.holds Try.pinned (OpenSpec.upto lowMoreSpec)

/-- 'isobarlaw04.LowClashes', WHERE WHAT IT READS IS OF BULK AT MOST 1048576: true; the input reads as it did. -/
def lowClashesUptoRow : OpenClaim := { program := "ytadkaccpacpklaa", sum := "3fc17588bf98ea823d60759ab832cbc4e780adf84c46118c04b2279427ec4226", func := "isobar/isobarlaw04.LowClashes", spec := "lowClashes", unfollowed := true, recurses := true, plainKeys := false, apart := false, narrowed := true }
def LowClashesUptoSaid : Prop := lowClashesUptoRow.holds Try.pinned (OpenSpec.upto lowClashesSpec)

/-- 'isobarlaw04.LowSharp', WHERE WHAT IT READS IS OF BULK AT MOST 1048576: true; the input reads as it did. -/
def lowSharpUptoRow : OpenClaim := { program := "ytadkaccpacpklaa", sum := "3fc17588bf98ea823d60759ab832cbc4e780adf84c46118c04b2279427ec4226", func := "isobar/isobarlaw04.LowSharp", spec := "lowSharp", unfollowed := true, recurses := true, plainKeys := false, apart := false, narrowed := true }
def LowSharpUptoSaid : Prop := lowSharpUptoRow.holds Try.pinned (OpenSpec.upto lowSharpSpec)

/-- 'isobarlaw04.LowSwift', WHERE WHAT IT READS IS OF BULK AT MOST 1048576: true; the input reads as it did. -/
def lowSwiftUptoRow : OpenClaim := { program := "ytadkaccpacpklaa", sum := "3fc17588bf98ea823d60759ab832cbc4e780adf84c46118c04b2279427ec4226", func := "isobar/isobarlaw04.LowSwift", spec := "lowSwift", unfollowed := true, recurses := true, plainKeys := false, apart := false, narrowed := true }
def LowSwiftUptoSaid : Prop := lowSwiftUptoRow.holds Try.pinned (OpenSpec.upto lowSwiftSpec)

/-- 'isobarlaw04.LowAhead', WHERE WHAT IT READS IS OF BULK AT MOST 1048576: true; the input reads as it did. -/
def lowAheadUptoRow : OpenClaim := { program := "ytadkaccpacpklaa", sum := "3fc17588bf98ea823d60759ab832cbc4e780adf84c46118c04b2279427ec4226", func := "isobar/isobarlaw04.LowAhead", spec := "lowAhead", unfollowed := true, recurses := true, plainKeys := false, apart := false, narrowed := true }
def LowAheadUptoSaid : Prop := lowAheadUptoRow.holds Try.pinned (OpenSpec.upto lowAheadSpec)

/-- 'isobarlaw04.LowFits', WHERE WHAT IT READS IS OF BULK AT MOST 1048576: true; the input reads as it did. -/
def lowFitsUptoRow : OpenClaim := { program := "ytadkaccpacpklaa", sum := "3fc17588bf98ea823d60759ab832cbc4e780adf84c46118c04b2279427ec4226", func := "isobar/isobarlaw04.LowFits", spec := "lowFits", unfollowed := true, recurses := true, plainKeys := false, apart := false, narrowed := true }
def LowFitsUptoSaid : Prop := lowFitsUptoRow.holds Try.pinned (OpenSpec.upto lowFitsSpec)

/-- 'isobarlaw04.LowTrue', WHERE WHAT IT READS IS OF BULK AT MOST 1048576: true; the input reads as it did. -/
def lowTrueUptoRow : OpenClaim := { program := "ytadkaccpacpklaa", sum := "3fc17588bf98ea823d60759ab832cbc4e780adf84c46118c04b2279427ec4226", func := "isobar/isobarlaw04.LowTrue", spec := "lowTrue", unfollowed := true, recurses := true, plainKeys := false, apart := false, narrowed := true }
def LowTrueUptoSaid : Prop := lowTrueUptoRow.holds Try.pinned (OpenSpec.upto lowTrueSpec)

/-- 'isobarlaw04.LowFew', WHERE WHAT IT READS IS OF BULK AT MOST 1048576: true; the input reads as it did. -/
def lowFewUptoRow : OpenClaim := { program := "ytadkaccpacpklaa", sum := "3fc17588bf98ea823d60759ab832cbc4e780adf84c46118c04b2279427ec4226", func := "isobar/isobarlaw04.LowFew", spec := "lowFew", unfollowed := true, recurses := true, plainKeys := false, apart := false, narrowed := true }
def LowFewUptoSaid : Prop := lowFewUptoRow.holds Try.pinned (OpenSpec.upto lowFewSpec)

end Rows
end Go.Proofs.Ytadkaccpacpklaa

/-
  No cell of these rows narrows 'for every input' (looked for: loops, veiled, ifaces, maps, wideKeys, modest, calm, conditions, laid).
  DERIVED. THE GIVEN ROWS OF THIS SEAT. 14 by the template 'for every input the law returns true; each argument reads behind the call as it read before'; 0 by the template 'total and deterministic' (their statements: YtlfgdpjompacjaaTotals.lean).
  GIVEN WITH THE SEED: the statements are not yours to turn. If you find one false, say at which input.
  Laid BY PROGRAM, IN A SANDBOX (cutbox-rows.mjs): the forced cells as the released guide's own fill.sh prints them over the translation ba6a945e4a2a5793… (all of the seat's roots in one cut). By AI agents, Wed Nov 11 2026. No macro, syntax, notation, axiom, sorry.
-/
import Derived.Test.YtlfgdpjompacjaaChecked
import GoSem.Claim
import GoSem.ClaimJoined
import GoSem.ClaimMapViews
import Derived.JoinedTies
import Derived.KernelRfl
namespace Go.Proofs.Ytlfgdpjompacjaa
/- THE CELL 'sum', in the pinned program and in every row, IS THE sha256 OF THE DUMP (.gsa) THAT YtlfgdpjompacjaaProg.lean LOADS. Nothing in Lean hashes anything: it is a label: what it is worth is what the hold of that sum in a sandbox is worth. -/
noncomputable def Try.pinned : Pinned := { name := "ytlfgdpjompacjaa", sum := "ba6a945e4a2a579312efbf463fca81e4df5beb104e9c7bb63cbfc66503e3baae", checked := Try.checked }
namespace Rows
def none {H : Type} : Left H := { results := [], args := [] }

/-- 'isobarlaw07.KiteHeights': WHATEVER THE INPUT: true; the input reads as it did. -/
def kiteHeightsSpec : ChangeSpec := { name := "kiteHeights", fn := fun _ => fun
  | [d] => { results := [.lit (.bool true)], args := [d] }
  | _ => none }
def kiteHeightsRow : OpenClaim := { program := "ytlfgdpjompacjaa", sum := "ba6a945e4a2a579312efbf463fca81e4df5beb104e9c7bb63cbfc66503e3baae", func := "isobar/isobarlaw07.KiteHeights", spec := "kiteHeights", unfollowed := true, recurses := true, plainKeys := false, apart := false }
def KiteHeightsSaid : Prop := kiteHeightsRow.holds Try.pinned (OpenSpec.ofChange kiteHeightsSpec)

/-- ITS FALSE NEIGHBOUR: 'it returns false'. Refute it at one input. -/
def kiteHeightsWrong : ChangeSpec := { name := "kiteHeights", fn := fun _ => fun
  | [d] => { results := [.lit (.bool false)], args := [d] }
  | _ => none }
def KiteHeightsWrongFalsely : Prop := kiteHeightsRow.holds Try.pinned (OpenSpec.ofChange kiteHeightsWrong)

/-- 'isobarlaw07.KiteRises': WHATEVER THE INPUT: true; the input reads as it did. -/
def kiteRisesSpec : ChangeSpec := { name := "kiteRises", fn := fun _ => fun
  | [d1, d2, d3] => { results := [.lit (.bool true)], args := [d1, d2, d3] }
  | _ => none }
def kiteRisesRow : OpenClaim := { program := "ytlfgdpjompacjaa", sum := "ba6a945e4a2a579312efbf463fca81e4df5beb104e9c7bb63cbfc66503e3baae", func := "isobar/isobarlaw07.KiteRises", spec := "kiteRises", unfollowed := true, recurses := true, plainKeys := false, apart := false }
def KiteRisesSaid : Prop := kiteRisesRow.holds Try.pinned (OpenSpec.ofChange kiteRisesSpec)

/-- ITS FALSE NEIGHBOUR: 'it returns false'. Refute it at one input. -/
def kiteRisesWrong : ChangeSpec := { name := "kiteRises", fn := fun _ => fun
  | [d1, d2, d3] => { results := [.lit (.bool false)], args := [d1, d2, d3] }
  | _ => none }
def KiteRisesWrongFalsely : Prop := kiteRisesRow.holds Try.pinned (OpenSpec.ofChange kiteRisesWrong)

/-- 'isobarlaw07.KiteWinds': WHATEVER THE INPUT: true; the input reads as it did. -/
def kiteWindsSpec : ChangeSpec := { name := "kiteWinds", fn := fun _ => fun
  | [d] => { results := [.lit (.bool true)], args := [d] }
  | _ => none }
def kiteWindsRow : OpenClaim := { program := "ytlfgdpjompacjaa", sum := "ba6a945e4a2a579312efbf463fca81e4df5beb104e9c7bb63cbfc66503e3baae", func := "isobar/isobarlaw07.KiteWinds", spec := "kiteWinds", unfollowed := true, recurses := true, plainKeys := false, apart := false }
def KiteWindsSaid : Prop := kiteWindsRow.holds Try.pinned (OpenSpec.ofChange kiteWindsSpec)

/-- ITS FALSE NEIGHBOUR: 'it returns false'. Refute it at one input. -/
def kiteWindsWrong : ChangeSpec := { name := "kiteWinds", fn := fun _ => fun
  | [d] => { results := [.lit (.bool false)], args := [d] }
  | _ => none }
def KiteWindsWrongFalsely : Prop := kiteWindsRow.holds Try.pinned (OpenSpec.ofChange kiteWindsWrong)

/-- 'isobarlaw07.KiteFirsts': WHATEVER THE INPUT: true; the input reads as it did. -/
def kiteFirstsSpec : ChangeSpec := { name := "kiteFirsts", fn := fun _ => fun
  | [d] => { results := [.lit (.bool true)], args := [d] }
  | _ => none }
def kiteFirstsRow : OpenClaim := { program := "ytlfgdpjompacjaa", sum := "ba6a945e4a2a579312efbf463fca81e4df5beb104e9c7bb63cbfc66503e3baae", func := "isobar/isobarlaw07.KiteFirsts", spec := "kiteFirsts", unfollowed := true, recurses := true, plainKeys := false, apart := false }
def KiteFirstsSaid : Prop := kiteFirstsRow.holds Try.pinned (OpenSpec.ofChange kiteFirstsSpec)

/-- ITS FALSE NEIGHBOUR: 'it returns false'. Refute it at one input. -/
def kiteFirstsWrong : ChangeSpec := { name := "kiteFirsts", fn := fun _ => fun
  | [d] => { results := [.lit (.bool false)], args := [d] }
  | _ => none }
def KiteFirstsWrongFalsely : Prop := kiteFirstsRow.holds Try.pinned (OpenSpec.ofChange kiteFirstsWrong)

/-- 'isobarlaw07.KiteShows': WHATEVER THE INPUT: true; the input reads as it did. -/
def kiteShowsSpec : ChangeSpec := { name := "kiteShows", fn := fun _ => fun
  | [d1, d2, d3, d4] => { results := [.lit (.bool true)], args := [d1, d2, d3, d4] }
  | _ => none }
def kiteShowsRow : OpenClaim := { program := "ytlfgdpjompacjaa", sum := "ba6a945e4a2a579312efbf463fca81e4df5beb104e9c7bb63cbfc66503e3baae", func := "isobar/isobarlaw07.KiteShows", spec := "kiteShows", unfollowed := true, recurses := true, plainKeys := false, apart := false }
def KiteShowsSaid : Prop := kiteShowsRow.holds Try.pinned (OpenSpec.ofChange kiteShowsSpec)

/-- ITS FALSE NEIGHBOUR: 'it returns false'. Refute it at one input. -/
def kiteShowsWrong : ChangeSpec := { name := "kiteShows", fn := fun _ => fun
  | [d1, d2, d3, d4] => { results := [.lit (.bool false)], args := [d1, d2, d3, d4] }
  | _ => none }
def KiteShowsWrongFalsely : Prop := kiteShowsRow.holds Try.pinned (OpenSpec.ofChange kiteShowsWrong)

/-- 'isobarlaw07.KiteMore': WHATEVER THE INPUT: true; the input reads as it did. -/
def kiteMoreSpec : ChangeSpec := { name := "kiteMore", fn := fun _ => fun
  | [d1, d2, d3, d4, d5] => { results := [.lit (.bool true)], args := [d1, d2, d3, d4, d5] }
  | _ => none }
def kiteMoreRow : OpenClaim := { program := "ytlfgdpjompacjaa", sum := "ba6a945e4a2a579312efbf463fca81e4df5beb104e9c7bb63cbfc66503e3baae", func := "isobar/isobarlaw07.KiteMore", spec := "kiteMore", unfollowed := true, recurses := true, plainKeys := false, apart := false }
def KiteMoreSaid : Prop := kiteMoreRow.holds Try.pinned (OpenSpec.ofChange kiteMoreSpec)

/-- ITS FALSE NEIGHBOUR: 'it returns false'. Refute it at one input. -/
def kiteMoreWrong : ChangeSpec := { name := "kiteMore", fn := fun _ => fun
  | [d1, d2, d3, d4, d5] => { results := [.lit (.bool false)], args := [d1, d2, d3, d4, d5] }
  | _ => none }
def KiteMoreWrongFalsely : Prop := kiteMoreRow.holds Try.pinned (OpenSpec.ofChange kiteMoreWrong)

/-- 'isobarlaw07.KiteClimbs': WHATEVER THE INPUT: true; the input reads as it did. -/
def kiteClimbsSpec : ChangeSpec := { name := "kiteClimbs", fn := fun _ => fun
  | [d1, d2, d3, d4] => { results := [.lit (.bool true)], args := [d1, d2, d3, d4] }
  | _ => none }
def kiteClimbsRow : OpenClaim := { program := "ytlfgdpjompacjaa", sum := "ba6a945e4a2a579312efbf463fca81e4df5beb104e9c7bb63cbfc66503e3baae", func := "isobar/isobarlaw07.KiteClimbs", spec := "kiteClimbs", unfollowed := true, recurses := true, plainKeys := false, apart := false }
def KiteClimbsSaid : Prop := kiteClimbsRow.holds Try.pinned (OpenSpec.ofChange kiteClimbsSpec)

/-- ITS FALSE NEIGHBOUR: 'it returns false'. Refute it at one input. -/
def kiteClimbsWrong : ChangeSpec := { name := "kiteClimbs", fn := fun _ => fun
  | [d1, d2, d3, d4] => { results := [.lit (.bool false)], args := [d1, d2, d3, d4] }
  | _ => none }
def KiteClimbsWrongFalsely : Prop := kiteClimbsRow.holds Try.pinned (OpenSpec.ofChange kiteClimbsWrong)

/-- 'isobarlaw07.KiteHolds': WHATEVER THE INPUT: true; the input reads as it did. -/
def kiteHoldsSpec : ChangeSpec := { name := "kiteHolds", fn := fun _ => fun
  | [d1, d2, d3, d4] => { results := [.lit (.bool true)], args := [d1, d2, d3, d4] }
  | _ => none }
def kiteHoldsRow : OpenClaim := { program := "ytlfgdpjompacjaa", sum := "ba6a945e4a2a579312efbf463fca81e4df5beb104e9c7bb63cbfc66503e3baae", func := "isobar/isobarlaw07.KiteHolds", spec := "kiteHolds", unfollowed := true, recurses := true, plainKeys := false, apart := false }
def KiteHoldsSaid : Prop := kiteHoldsRow.holds Try.pinned (OpenSpec.ofChange kiteHoldsSpec)

/-- ITS FALSE NEIGHBOUR: 'it returns false'. Refute it at one input. -/
def kiteHoldsWrong : ChangeSpec := { name := "kiteHolds", fn := fun _ => fun
  | [d1, d2, d3, d4] => { results := [.lit (.bool false)], args := [d1, d2, d3, d4] }
  | _ => none }
def KiteHoldsWrongFalsely : Prop := kiteHoldsRow.holds Try.pinned (OpenSpec.ofChange kiteHoldsWrong)

/-- 'isobarlaw07.KiteLands': WHATEVER THE INPUT: true; the input reads as it did. -/
def kiteLandsSpec : ChangeSpec := { name := "kiteLands", fn := fun _ => fun
  | [d] => { results := [.lit (.bool true)], args := [d] }
  | _ => none }
def kiteLandsRow : OpenClaim := { program := "ytlfgdpjompacjaa", sum := "ba6a945e4a2a579312efbf463fca81e4df5beb104e9c7bb63cbfc66503e3baae", func := "isobar/isobarlaw07.KiteLands", spec := "kiteLands", unfollowed := true, recurses := true, plainKeys := false, apart := false }
def KiteLandsSaid : Prop := kiteLandsRow.holds Try.pinned (OpenSpec.ofChange kiteLandsSpec)

/-- ITS FALSE NEIGHBOUR: 'it returns false'. Refute it at one input. -/
def kiteLandsWrong : ChangeSpec := { name := "kiteLands", fn := fun _ => fun
  | [d] => { results := [.lit (.bool false)], args := [d] }
  | _ => none }
def KiteLandsWrongFalsely : Prop := kiteLandsRow.holds Try.pinned (OpenSpec.ofChange kiteLandsWrong)

/-- 'isobarlaw07.KiteLevels': WHATEVER THE INPUT: true; the input reads as it did. -/
def kiteLevelsSpec : ChangeSpec := { name := "kiteLevels", fn := fun _ => fun
  | [d1, d2] => { results := [.lit (.bool true)], args := [d1, d2] }
  | _ => none }
def kiteLevelsRow : OpenClaim := { program := "ytlfgdpjompacjaa", sum := "ba6a945e4a2a579312efbf463fca81e4df5beb104e9c7bb63cbfc66503e3baae", func := "isobar/isobarlaw07.KiteLevels", spec := "kiteLevels", unfollowed := true, recurses := true, plainKeys := false, apart := false }
def KiteLevelsSaid : Prop := kiteLevelsRow.holds Try.pinned (OpenSpec.ofChange kiteLevelsSpec)

/-- ITS FALSE NEIGHBOUR: 'it returns false'. Refute it at one input. -/
def kiteLevelsWrong : ChangeSpec := { name := "kiteLevels", fn := fun _ => fun
  | [d1, d2] => { results := [.lit (.bool false)], args := [d1, d2] }
  | _ => none }
def KiteLevelsWrongFalsely : Prop := kiteLevelsRow.holds Try.pinned (OpenSpec.ofChange kiteLevelsWrong)

/-- 'isobarlaw07.KiteMarked': WHATEVER THE INPUT: true; the input reads as it did. -/
def kiteMarkedSpec : ChangeSpec := { name := "kiteMarked", fn := fun _ => fun
  | [d1, d2, d3, d4] => { results := [.lit (.bool true)], args := [d1, d2, d3, d4] }
  | _ => none }
def kiteMarkedRow : OpenClaim := { program := "ytlfgdpjompacjaa", sum := "ba6a945e4a2a579312efbf463fca81e4df5beb104e9c7bb63cbfc66503e3baae", func := "isobar/isobarlaw07.KiteMarked", spec := "kiteMarked", unfollowed := true, recurses := true, plainKeys := false, apart := false }
def KiteMarkedSaid : Prop := kiteMarkedRow.holds Try.pinned (OpenSpec.ofChange kiteMarkedSpec)

/-- ITS FALSE NEIGHBOUR: 'it returns false'. Refute it at one input. -/
def kiteMarkedWrong : ChangeSpec := { name := "kiteMarked", fn := fun _ => fun
  | [d1, d2, d3, d4] => { results := [.lit (.bool false)], args := [d1, d2, d3, d4] }
  | _ => none }
def KiteMarkedWrongFalsely : Prop := kiteMarkedRow.holds Try.pinned (OpenSpec.ofChange kiteMarkedWrong)

/-- 'isobarlaw07.KiteLanded': WHATEVER THE INPUT: true; the input reads as it did. -/
def kiteLandedSpec : ChangeSpec := { name := "kiteLanded", fn := fun _ => fun
  | [d1, d2] => { results := [.lit (.bool true)], args := [d1, d2] }
  | _ => none }
def kiteLandedRow : OpenClaim := { program := "ytlfgdpjompacjaa", sum := "ba6a945e4a2a579312efbf463fca81e4df5beb104e9c7bb63cbfc66503e3baae", func := "isobar/isobarlaw07.KiteLanded", spec := "kiteLanded", unfollowed := true, recurses := true, plainKeys := false, apart := false }
def KiteLandedSaid : Prop := kiteLandedRow.holds Try.pinned (OpenSpec.ofChange kiteLandedSpec)

/-- ITS FALSE NEIGHBOUR: 'it returns false'. Refute it at one input. -/
def kiteLandedWrong : ChangeSpec := { name := "kiteLanded", fn := fun _ => fun
  | [d1, d2] => { results := [.lit (.bool false)], args := [d1, d2] }
  | _ => none }
def KiteLandedWrongFalsely : Prop := kiteLandedRow.holds Try.pinned (OpenSpec.ofChange kiteLandedWrong)

/-- 'isobarlaw07.KiteBlown': WHATEVER THE INPUT: true; the input reads as it did. -/
def kiteBlownSpec : ChangeSpec := { name := "kiteBlown", fn := fun _ => fun
  | [d1, d2, d3, d4, d5] => { results := [.lit (.bool true)], args := [d1, d2, d3, d4, d5] }
  | _ => none }
def kiteBlownRow : OpenClaim := { program := "ytlfgdpjompacjaa", sum := "ba6a945e4a2a579312efbf463fca81e4df5beb104e9c7bb63cbfc66503e3baae", func := "isobar/isobarlaw07.KiteBlown", spec := "kiteBlown", unfollowed := true, recurses := true, plainKeys := false, apart := false }
def KiteBlownSaid : Prop := kiteBlownRow.holds Try.pinned (OpenSpec.ofChange kiteBlownSpec)

/-- ITS FALSE NEIGHBOUR: 'it returns false'. Refute it at one input. -/
def kiteBlownWrong : ChangeSpec := { name := "kiteBlown", fn := fun _ => fun
  | [d1, d2, d3, d4, d5] => { results := [.lit (.bool false)], args := [d1, d2, d3, d4, d5] }
  | _ => none }
def KiteBlownWrongFalsely : Prop := kiteBlownRow.holds Try.pinned (OpenSpec.ofChange kiteBlownWrong)

/-- 'isobarlaw07.KitePlays': WHATEVER THE INPUT: true; the input reads as it did. -/
def kitePlaysSpec : ChangeSpec := { name := "kitePlays", fn := fun _ => fun
  | [d1, d2] => { results := [.lit (.bool true)], args := [d1, d2] }
  | _ => none }
def kitePlaysRow : OpenClaim := { program := "ytlfgdpjompacjaa", sum := "ba6a945e4a2a579312efbf463fca81e4df5beb104e9c7bb63cbfc66503e3baae", func := "isobar/isobarlaw07.KitePlays", spec := "kitePlays", unfollowed := true, recurses := true, plainKeys := false, apart := false }
def KitePlaysSaid : Prop := kitePlaysRow.holds Try.pinned (OpenSpec.ofChange kitePlaysSpec)

/-- ITS FALSE NEIGHBOUR: 'it returns false'. Refute it at one input. -/
def kitePlaysWrong : ChangeSpec := { name := "kitePlays", fn := fun _ => fun
  | [d1, d2] => { results := [.lit (.bool false)], args := [d1, d2] }
  | _ => none }
def KitePlaysWrongFalsely : Prop := kitePlaysRow.holds Try.pinned (OpenSpec.ofChange kitePlaysWrong)

/- THE SECOND FORM. 'bulk': how many values and letters a reading holds, each counted each time it is reached (what is shared counts as often as it is met; a slice's spare places count too). A statement '..UptoSaid' is the law's where the arguments, and the package variables that the reading takes, are together of bulk at most 1048576: NARROWER than '..Said'. Prove '..Said' where nothing that the law and all that it calls make is longer than what came in: it says more and counts as full. Else prove '..UptoSaid'. A law counts once. -/
mutual
def uptoBulk {H : Type} : DataW H → Nat
  | .lit (.string bytes) => bytes.length + 1
  | .lit _ => 1
  | .nil => 1
  | .ptr d => uptoBulk d + 1
  | .slice elems spare => uptoBulkAll elems + uptoBulkAll spare + 1
  | .agg parts => uptoBulkAll parts + 1
  | .iface _ d => uptoBulk d + 1
  | .map entries => uptoBulkEntries entries + 1
  | .held _ => 1
def uptoBulkAll {H : Type} : List (DataW H) → Nat
  | [] => 0
  | d :: r => uptoBulk d + uptoBulkAll r
def uptoBulkEntries {H : Type} : List (Lit × DataW H) → Nat
  | [] => 0
  | x :: r => uptoBulkEntry x + uptoBulkEntries r
def uptoBulkEntry {H : Type} : Lit × DataW H → Nat
  | (.string bytes, d) => bytes.length + uptoBulk d + 1
  | (_, d) => uptoBulk d + 1
 end
def uptoSmall : (H : Type) → List (DataW H) → Bool := fun _ ds => decide (uptoBulkAll ds ≤ 1048576)
def OpenSpec.upto (s : _root_.Go.ChangeSpec) : _root_.Go.OpenSpec := { _root_.Go.OpenSpec.ofChange s with cond := some uptoSmall }

/-- 'isobarlaw07.KiteHeights', WHERE WHAT IT READS IS OF BULK AT MOST 1048576: true; the input reads as it did. -/
def kiteHeightsUptoRow : OpenClaim := { program := "ytlfgdpjompacjaa", sum := "ba6a945e4a2a579312efbf463fca81e4df5beb104e9c7bb63cbfc66503e3baae", func := "isobar/isobarlaw07.KiteHeights", spec := "kiteHeights", unfollowed := true, recurses := true, plainKeys := false, apart := false, narrowed := true }
def KiteHeightsUptoSaid : Prop := kiteHeightsUptoRow.holds Try.pinned (OpenSpec.upto kiteHeightsSpec)

/-- 'isobarlaw07.KiteRises', WHERE WHAT IT READS IS OF BULK AT MOST 1048576: true; the input reads as it did. -/
def kiteRisesUptoRow : OpenClaim := { program := "ytlfgdpjompacjaa", sum := "ba6a945e4a2a579312efbf463fca81e4df5beb104e9c7bb63cbfc66503e3baae", func := "isobar/isobarlaw07.KiteRises", spec := "kiteRises", unfollowed := true, recurses := true, plainKeys := false, apart := false, narrowed := true }
def KiteRisesUptoSaid : Prop := kiteRisesUptoRow.holds Try.pinned (OpenSpec.upto kiteRisesSpec)

/-- 'isobarlaw07.KiteWinds', WHERE WHAT IT READS IS OF BULK AT MOST 1048576: true; the input reads as it did. -/
def kiteWindsUptoRow : OpenClaim := { program := "ytlfgdpjompacjaa", sum := "ba6a945e4a2a579312efbf463fca81e4df5beb104e9c7bb63cbfc66503e3baae", func := "isobar/isobarlaw07.KiteWinds", spec := "kiteWinds", unfollowed := true, recurses := true, plainKeys := false, apart := false, narrowed := true }
def KiteWindsUptoSaid : Prop := kiteWindsUptoRow.holds Try.pinned (OpenSpec.upto kiteWindsSpec)

/-- 'isobarlaw07.KiteFirsts', WHERE WHAT IT READS IS OF BULK AT MOST 1048576: true; the input reads as it did. -/
def kiteFirstsUptoRow : OpenClaim := { program := "ytlfgdpjompacjaa", sum := "ba6a945e4a2a579312efbf463fca81e4df5beb104e9c7bb63cbfc66503e3baae", func := "isobar/isobarlaw07.KiteFirsts", spec := "kiteFirsts", unfollowed := true, recurses := true, plainKeys := false, apart := false, narrowed := true }
def KiteFirstsUptoSaid : Prop := kiteFirstsUptoRow.holds Try.pinned (OpenSpec.upto kiteFirstsSpec)

/-- 'isobarlaw07.KiteShows', WHERE WHAT IT READS IS OF BULK AT MOST 1048576: true; the input reads as it did. -/
def kiteShowsUptoRow : OpenClaim := { program := "ytlfgdpjompacjaa", sum := "ba6a945e4a2a579312efbf463fca81e4df5beb104e9c7bb63cbfc66503e3baae", func := "isobar/isobarlaw07.KiteShows", spec := "kiteShows", unfollowed := true, recurses := true, plainKeys := false, apart := false, narrowed := true }
def KiteShowsUptoSaid : Prop := kiteShowsUptoRow.holds Try.pinned (OpenSpec.upto kiteShowsSpec)

/-- 'isobarlaw07.KiteMore', WHERE WHAT IT READS IS OF BULK AT MOST 1048576: true; the input reads as it did. -/
def kiteMoreUptoRow : OpenClaim := { program := "ytlfgdpjompacjaa", sum := "ba6a945e4a2a579312efbf463fca81e4df5beb104e9c7bb63cbfc66503e3baae", func := "isobar/isobarlaw07.KiteMore", spec := "kiteMore", unfollowed := true, recurses := true, plainKeys := false, apart := false, narrowed := true }
def KiteMoreUptoSaid : Prop := kiteMoreUptoRow.holds Try.pinned (OpenSpec.upto kiteMoreSpec)

/-- 'isobarlaw07.KiteClimbs', WHERE WHAT IT READS IS OF BULK AT MOST 1048576: true; the input reads as it did. -/
def kiteClimbsUptoRow : OpenClaim := { program := "ytlfgdpjompacjaa", sum := "ba6a945e4a2a579312efbf463fca81e4df5beb104e9c7bb63cbfc66503e3baae", func := "isobar/isobarlaw07.KiteClimbs", spec := "kiteClimbs", unfollowed := true, recurses := true, plainKeys := false, apart := false, narrowed := true }
def KiteClimbsUptoSaid : Prop := kiteClimbsUptoRow.holds Try.pinned (OpenSpec.upto kiteClimbsSpec)

/-- 'isobarlaw07.KiteHolds', WHERE WHAT IT READS IS OF BULK AT MOST 1048576: true; the input reads as it did. -/
def kiteHoldsUptoRow : OpenClaim := { program := "ytlfgdpjompacjaa", sum := "ba6a945e4a2a579312efbf463fca81e4df5beb104e9c7bb63cbfc66503e3baae", func := "isobar/isobarlaw07.KiteHolds", spec := "kiteHolds", unfollowed := true, recurses := true, plainKeys := false, apart := false, narrowed := true }
def KiteHoldsUptoSaid : Prop := kiteHoldsUptoRow.holds Try.pinned (OpenSpec.upto kiteHoldsSpec)

/-- 'isobarlaw07.KiteLands', WHERE WHAT IT READS IS OF BULK AT MOST 1048576: true; the input reads as it did. -/
def kiteLandsUptoRow : OpenClaim := { program := "ytlfgdpjompacjaa", sum := "ba6a945e4a2a579312efbf463fca81e4df5beb104e9c7bb63cbfc66503e3baae", func := "isobar/isobarlaw07.KiteLands", spec := "kiteLands", unfollowed := true, recurses := true, plainKeys := false, apart := false, narrowed := true }
def KiteLandsUptoSaid : Prop := kiteLandsUptoRow.holds Try.pinned (OpenSpec.upto kiteLandsSpec)

/-- 'isobarlaw07.KiteLevels', WHERE WHAT IT READS IS OF BULK AT MOST 1048576: true; the input reads as it did. -/
def kiteLevelsUptoRow : OpenClaim := { program := "ytlfgdpjompacjaa", sum := "ba6a945e4a2a579312efbf463fca81e4df5beb104e9c7bb63cbfc66503e3baae", func := "isobar/isobarlaw07.KiteLevels", spec := "kiteLevels", unfollowed := true, recurses := true, plainKeys := false, apart := false, narrowed := true }
def KiteLevelsUptoSaid : Prop := kiteLevelsUptoRow.holds Try.pinned (OpenSpec.upto kiteLevelsSpec)

/-- 'isobarlaw07.KiteMarked', WHERE WHAT IT READS IS OF BULK AT MOST 1048576: true; the input reads as it did. -/
def kiteMarkedUptoRow : OpenClaim := { program := "ytlfgdpjompacjaa", sum := "ba6a945e4a2a579312efbf463fca81e4df5beb104e9c7bb63cbfc66503e3baae", func := "isobar/isobarlaw07.KiteMarked", spec := "kiteMarked", unfollowed := true, recurses := true, plainKeys := false, apart := false, narrowed := true }
def KiteMarkedUptoSaid : Prop := kiteMarkedUptoRow.holds Try.pinned (OpenSpec.upto kiteMarkedSpec)

/-- 'isobarlaw07.KiteLanded', WHERE WHAT IT READS IS OF BULK AT MOST 1048576: true; the input reads as it did. -/
def kiteLandedUptoRow : OpenClaim := { program := "ytlfgdpjompacjaa", sum := "ba6a945e4a2a579312efbf463fca81e4df5beb104e9c7bb63cbfc66503e3baae", func := "isobar/isobarlaw07.KiteLanded", spec := "kiteLanded", unfollowed := true, recurses := true, plainKeys := false, apart := false, narrowed := true }
def KiteLandedUptoSaid : Prop := kiteLandedUptoRow.holds Try.pinned (OpenSpec.upto kiteLandedSpec)

/-- 'isobarlaw07.KiteBlown', WHERE WHAT IT READS IS OF BULK AT MOST 1048576: true; the input reads as it did. -/
def kiteBlownUptoRow : OpenClaim := { program := "ytlfgdpjompacjaa", sum := "ba6a945e4a2a579312efbf463fca81e4df5beb104e9c7bb63cbfc66503e3baae", func := "isobar/isobarlaw07.KiteBlown", spec := "kiteBlown", unfollowed := true, recurses := true, plainKeys := false, apart := false, narrowed := true }
def KiteBlownUptoSaid : Prop := kiteBlownUptoRow.holds Try.pinned (OpenSpec.upto kiteBlownSpec)

/-- 'isobarlaw07.KitePlays', WHERE WHAT IT READS IS OF BULK AT MOST 1048576: true; the input reads as it did. -/
def kitePlaysUptoRow : OpenClaim := { program := "ytlfgdpjompacjaa", sum := "ba6a945e4a2a579312efbf463fca81e4df5beb104e9c7bb63cbfc66503e3baae", func := "isobar/isobarlaw07.KitePlays", spec := "kitePlays", unfollowed := true, recurses := true, plainKeys := false, apart := false, narrowed := true }
def KitePlaysUptoSaid : Prop := kitePlaysUptoRow.holds Try.pinned (OpenSpec.upto kitePlaysSpec)

end Rows
end Go.Proofs.Ytlfgdpjompacjaa

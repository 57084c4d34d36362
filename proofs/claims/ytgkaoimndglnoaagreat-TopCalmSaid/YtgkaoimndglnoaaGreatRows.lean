/-
  No cell of these rows narrows 'for every input' (looked for: loops, veiled, ifaces, maps, wideKeys, modest, calm, conditions, laid).
  DERIVED. THE GIVEN ROWS OF THIS SEAT. 3 by the template 'for every input the law returns true; each argument reads behind the call as it read before'; 0 by the template 'total and deterministic' (their statements: YtgkaoimndglnoaaGreatTotals.lean).
  GIVEN WITH THE SEED: the statements are not yours to turn. If you find one false, say at which input.
  Laid BY PROGRAM, IN A SANDBOX (cutbox-rows.mjs): the forced cells as the released guide's own fill.sh prints them over the translation 71519b0e96a16e77… (all of the seat's roots in one cut). By AI agents, Wed Nov 11 2026. No macro, syntax, notation, axiom, sorry.
-/
import Derived.Test.YtgkaoimndglnoaaGreatChecked
import GoSem.Claim
import GoSem.ClaimJoined
import GoSem.ClaimMapViews
import Derived.JoinedTies
import Derived.KernelRfl
namespace Go.Proofs.YtgkaoimndglnoaaGreat
/- THE CELL 'sum', in the pinned program and in every row, IS THE sha256 OF THE DUMP (.gsa) THAT YtgkaoimndglnoaaGreatProg.lean LOADS. Nothing in Lean hashes anything: it is a label: what it is worth is what the hold of that sum in a sandbox is worth. -/
noncomputable def Tryz.pinned : Pinned := { name := "ytgkaoimndglnoaagreat", sum := "71519b0e96a16e77e3e87830b47482da350ee779266aa2bc96a3392dfa7c31fc", checked := Tryz.checked }
namespace Rows
def none {H : Type} : Left H := { results := [], args := [] }

/-- 'isobartop.TopRounds': WHATEVER THE INPUT: true; the input reads as it did. -/
def topRoundsSpec : ChangeSpec := { name := "topRounds", fn := fun _ => fun
  | [d1, d2, d3, d4, d5] => { results := [.lit (.bool true)], args := [d1, d2, d3, d4, d5] }
  | _ => none }
def topRoundsRow : OpenClaim := { program := "ytgkaoimndglnoaagreat", sum := "71519b0e96a16e77e3e87830b47482da350ee779266aa2bc96a3392dfa7c31fc", func := "isobar/isobartop.TopRounds", spec := "topRounds", unfollowed := true, recurses := true, plainKeys := false, apart := false }
def TopRoundsSaid : Prop := topRoundsRow.holds Tryz.pinned (OpenSpec.ofChange topRoundsSpec)

/-- ITS FALSE NEIGHBOUR: 'it returns false'. Refute it at one input. -/
def topRoundsWrong : ChangeSpec := { name := "topRounds", fn := fun _ => fun
  | [d1, d2, d3, d4, d5] => { results := [.lit (.bool false)], args := [d1, d2, d3, d4, d5] }
  | _ => none }
def TopRoundsWrongFalsely : Prop := topRoundsRow.holds Tryz.pinned (OpenSpec.ofChange topRoundsWrong)

/-- 'isobartop.TopMapped': WHATEVER THE INPUT: true; the input reads as it did. -/
def topMappedSpec : ChangeSpec := { name := "topMapped", fn := fun _ => fun
  | [d1, d2, d3] => { results := [.lit (.bool true)], args := [d1, d2, d3] }
  | _ => none }
def topMappedRow : OpenClaim := { program := "ytgkaoimndglnoaagreat", sum := "71519b0e96a16e77e3e87830b47482da350ee779266aa2bc96a3392dfa7c31fc", func := "isobar/isobartop.TopMapped", spec := "topMapped", unfollowed := true, recurses := true, plainKeys := false, apart := false }
def TopMappedSaid : Prop := topMappedRow.holds Tryz.pinned (OpenSpec.ofChange topMappedSpec)

/-- ITS FALSE NEIGHBOUR: 'it returns false'. Refute it at one input. -/
def topMappedWrong : ChangeSpec := { name := "topMapped", fn := fun _ => fun
  | [d1, d2, d3] => { results := [.lit (.bool false)], args := [d1, d2, d3] }
  | _ => none }
def TopMappedWrongFalsely : Prop := topMappedRow.holds Tryz.pinned (OpenSpec.ofChange topMappedWrong)

/-- 'isobartop.TopCalm': WHATEVER THE INPUT: true; the input reads as it did. -/
def topCalmSpec : ChangeSpec := { name := "topCalm", fn := fun _ => fun
  | [d1, d2, d3, d4, d5, d6] => { results := [.lit (.bool true)], args := [d1, d2, d3, d4, d5, d6] }
  | _ => none }
def topCalmRow : OpenClaim := { program := "ytgkaoimndglnoaagreat", sum := "71519b0e96a16e77e3e87830b47482da350ee779266aa2bc96a3392dfa7c31fc", func := "isobar/isobartop.TopCalm", spec := "topCalm", unfollowed := true, recurses := true, plainKeys := false, apart := false }
def TopCalmSaid : Prop := topCalmRow.holds Tryz.pinned (OpenSpec.ofChange topCalmSpec)

/-- ITS FALSE NEIGHBOUR: 'it returns false'. Refute it at one input. -/
def topCalmWrong : ChangeSpec := { name := "topCalm", fn := fun _ => fun
  | [d1, d2, d3, d4, d5, d6] => { results := [.lit (.bool false)], args := [d1, d2, d3, d4, d5, d6] }
  | _ => none }
def TopCalmWrongFalsely : Prop := topCalmRow.holds Tryz.pinned (OpenSpec.ofChange topCalmWrong)

/- THE SECOND FORM. 'bulk': how many values and letters a reading holds, each counted each time it is reached (what is shared counts as often as it is met; a slice's spare places count too). A statement '..UptoSaid' is the law's where the arguments, and the package variables that the reading takes, are together of bulk at most 1048576: NARROWER than '..Said'. Prove '..Said' where nothing that the law and all that it calls make is longer than what came in: it says more and counts as full. Else prove '..UptoSaid'. A law counts once. -/
mutual
def uptoBulk {H : Type} : DataW H → Nat
  | .lit (.string bytes) => bytes.length + 1
  | .lit _ => 1
  | .nil => 1
  | .ptr d => uptoBulk d + 1
  | .slice elems spare => uptoBulkAll elems + uptoBulkAll spare + 1
  | .agg parts => uptoBulkAll parts + 1
  | .iface _ d => uptoBulk d + 1
  | .map entries => uptoBulkEntries entries + 1
  | .held _ => 1
def uptoBulkAll {H : Type} : List (DataW H) → Nat
  | [] => 0
  | d :: r => uptoBulk d + uptoBulkAll r
def uptoBulkEntries {H : Type} : List (Lit × DataW H) → Nat
  | [] => 0
  | x :: r => uptoBulkEntry x + uptoBulkEntries r
def uptoBulkEntry {H : Type} : Lit × DataW H → Nat
  | (.string bytes, d) => bytes.length + uptoBulk d + 1
  | (_, d) => uptoBulk d + 1
 end
def uptoSmall : (H : Type) → List (DataW H) → Bool := fun _ ds => decide (uptoBulkAll ds ≤ 1048576)
def OpenSpec.upto (s : _root_.Go.ChangeSpec) : _root_.Go.OpenSpec := { _root_.Go.OpenSpec.ofChange s with cond := some uptoSmall }

/-- 'isobartop.TopRounds', WHERE WHAT IT READS IS OF BULK AT MOST 1048576: true; the input reads as it did. -/
def topRoundsUptoRow : OpenClaim := { program := "ytgkaoimndglnoaagreat", sum := "71519b0e96a16e77e3e87830b47482da350ee779266aa2bc96a3392dfa7c31fc", func := "isobar/isobartop.TopRounds", spec := "topRounds", unfollowed := true, recurses := true, plainKeys := false, apart := false, narrowed := true }
def TopRoundsUptoSaid : Prop := topRoundsUptoRow.holds Tryz.pinned (OpenSpec.upto topRoundsSpec)

/-- 'isobartop.TopMapped', WHERE WHAT IT READS IS OF BULK AT MOST 1048576: true; the input reads as it did. -/
def topMappedUptoRow : OpenClaim := { program := "ytgkaoimndglnoaagreat", sum := "71519b0e96a16e77e3e87830b47482da350ee779266aa2bc96a3392dfa7c31fc", func := "isobar/isobartop.TopMapped", spec := "topMapped", unfollowed := true, recurses := true, plainKeys := false, apart := false, narrowed := true }
def TopMappedUptoSaid : Prop := topMappedUptoRow.holds Tryz.pinned (OpenSpec.upto topMappedSpec)

/-- 'isobartop.TopCalm', WHERE WHAT IT READS IS OF BULK AT MOST 1048576: true; the input reads as it did. -/
def topCalmUptoRow : OpenClaim := { program := "ytgkaoimndglnoaagreat", sum := "71519b0e96a16e77e3e87830b47482da350ee779266aa2bc96a3392dfa7c31fc", func := "isobar/isobartop.TopCalm", spec := "topCalm", unfollowed := true, recurses := true, plainKeys := false, apart := false, narrowed := true }
def TopCalmUptoSaid : Prop := topCalmUptoRow.holds Tryz.pinned (OpenSpec.upto topCalmSpec)

end Rows
end Go.Proofs.YtgkaoimndglnoaaGreat

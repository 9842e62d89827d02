/-
  No cell of these rows narrows 'for every input' (looked for: loops, veiled, ifaces, maps, wideKeys, modest, calm, conditions, laid).
  DERIVED. THE GIVEN ROWS OF THIS SEAT. 7 by the template 'for every input the law returns true; each argument reads behind the call as it read before'; 0 by the template 'total and deterministic' (their statements: YtkncmhcobbjoiaaTotals.lean).
  GIVEN WITH THE SEED: the statements are not yours to turn. If you find one false, say at which input.
  Laid BY PROGRAM, IN A SANDBOX (cutbox-rows.mjs): the forced cells as the released guide's own fill.sh prints them over the translation 46fd1ba58c76b737… (all of the seat's roots in one cut). By AI agents, Wed Nov 11 2026. No macro, syntax, notation, axiom, sorry.
-/
import Derived.Test.YtkncmhcobbjoiaaChecked
import GoSem.Claim
import GoSem.ClaimJoined
import GoSem.ClaimMapViews
import Derived.JoinedTies
import Derived.KernelRfl
namespace Go.Proofs.Ytkncmhcobbjoiaa
/- THE CELL 'sum', in the pinned program and in every row, IS THE sha256 OF THE DUMP (.gsa) THAT YtkncmhcobbjoiaaProg.lean LOADS. Nothing in Lean hashes anything: it is a label: what it is worth is what the hold of that sum in a sandbox is worth. -/
noncomputable def Try.pinned : Pinned := { name := "ytkncmhcobbjoiaa", sum := "46fd1ba58c76b737f96806be9f7896f0380c7d11290d5a3cb28ab3c6932fdbf4", checked := Try.checked }
namespace Rows
def none {H : Type} : Left H := { results := [], args := [] }

/-- 'pylonlaw15.IslandLabelling': WHATEVER THE INPUT: true; the input reads as it did. -/
def islandLabellingSpec : ChangeSpec := { name := "islandLabelling", fn := fun _ => fun
  | [d1, d2, d3] => { results := [.lit (.bool true)], args := [d1, d2, d3] }
  | _ => none }
def islandLabellingRow : OpenClaim := { program := "ytkncmhcobbjoiaa", sum := "46fd1ba58c76b737f96806be9f7896f0380c7d11290d5a3cb28ab3c6932fdbf4", func := "pylon/pylonlaw15.IslandLabelling", spec := "islandLabelling", unfollowed := true, recurses := true, apart := false }
def IslandLabellingSaid : Prop := islandLabellingRow.holds Try.pinned (OpenSpec.ofChange islandLabellingSpec)

/-- ITS FALSE NEIGHBOUR: 'it returns false'. Refute it at one input. -/
def islandLabellingWrong : ChangeSpec := { name := "islandLabelling", fn := fun _ => fun
  | [d1, d2, d3] => { results := [.lit (.bool false)], args := [d1, d2, d3] }
  | _ => none }
def IslandLabellingWrongFalsely : Prop := islandLabellingRow.holds Try.pinned (OpenSpec.ofChange islandLabellingWrong)

/-- 'pylonlaw15.IslandReverse': WHATEVER THE INPUT: true; the input reads as it did. -/
def islandReverseSpec : ChangeSpec := { name := "islandReverse", fn := fun _ => fun
  | [d1, d2, d3, d4, d5] => { results := [.lit (.bool true)], args := [d1, d2, d3, d4, d5] }
  | _ => none }
def islandReverseRow : OpenClaim := { program := "ytkncmhcobbjoiaa", sum := "46fd1ba58c76b737f96806be9f7896f0380c7d11290d5a3cb28ab3c6932fdbf4", func := "pylon/pylonlaw15.IslandReverse", spec := "islandReverse", unfollowed := true, recurses := true, apart := false }
def IslandReverseSaid : Prop := islandReverseRow.holds Try.pinned (OpenSpec.ofChange islandReverseSpec)

/-- ITS FALSE NEIGHBOUR: 'it returns false'. Refute it at one input. -/
def islandReverseWrong : ChangeSpec := { name := "islandReverse", fn := fun _ => fun
  | [d1, d2, d3, d4, d5] => { results := [.lit (.bool false)], args := [d1, d2, d3, d4, d5] }
  | _ => none }
def IslandReverseWrongFalsely : Prop := islandReverseRow.holds Try.pinned (OpenSpec.ofChange islandReverseWrong)

/-- 'pylonlaw15.IslandMatches': WHATEVER THE INPUT: true; the input reads as it did. -/
def islandMatchesSpec : ChangeSpec := { name := "islandMatches", fn := fun _ => fun
  | [d1, d2] => { results := [.lit (.bool true)], args := [d1, d2] }
  | _ => none }
def islandMatchesRow : OpenClaim := { program := "ytkncmhcobbjoiaa", sum := "46fd1ba58c76b737f96806be9f7896f0380c7d11290d5a3cb28ab3c6932fdbf4", func := "pylon/pylonlaw15.IslandMatches", spec := "islandMatches", unfollowed := true, recurses := true, apart := false }
def IslandMatchesSaid : Prop := islandMatchesRow.holds Try.pinned (OpenSpec.ofChange islandMatchesSpec)

/-- ITS FALSE NEIGHBOUR: 'it returns false'. Refute it at one input. -/
def islandMatchesWrong : ChangeSpec := { name := "islandMatches", fn := fun _ => fun
  | [d1, d2] => { results := [.lit (.bool false)], args := [d1, d2] }
  | _ => none }
def IslandMatchesWrongFalsely : Prop := islandMatchesRow.holds Try.pinned (OpenSpec.ofChange islandMatchesWrong)

/-- 'pylonlaw15.IslandConnected': WHATEVER THE INPUT: true; the input reads as it did. -/
def islandConnectedSpec : ChangeSpec := { name := "islandConnected", fn := fun _ => fun
  | [d1, d2] => { results := [.lit (.bool true)], args := [d1, d2] }
  | _ => none }
def islandConnectedRow : OpenClaim := { program := "ytkncmhcobbjoiaa", sum := "46fd1ba58c76b737f96806be9f7896f0380c7d11290d5a3cb28ab3c6932fdbf4", func := "pylon/pylonlaw15.IslandConnected", spec := "islandConnected", unfollowed := true, recurses := true, apart := false }
def IslandConnectedSaid : Prop := islandConnectedRow.holds Try.pinned (OpenSpec.ofChange islandConnectedSpec)

/-- ITS FALSE NEIGHBOUR: 'it returns false'. Refute it at one input. -/
def islandConnectedWrong : ChangeSpec := { name := "islandConnected", fn := fun _ => fun
  | [d1, d2] => { results := [.lit (.bool false)], args := [d1, d2] }
  | _ => none }
def IslandConnectedWrongFalsely : Prop := islandConnectedRow.holds Try.pinned (OpenSpec.ofChange islandConnectedWrong)

/-- 'pylonlaw15.IslandNumbering': WHATEVER THE INPUT: true; the input reads as it did. -/
def islandNumberingSpec : ChangeSpec := { name := "islandNumbering", fn := fun _ => fun
  | [d1, d2] => { results := [.lit (.bool true)], args := [d1, d2] }
  | _ => none }
def islandNumberingRow : OpenClaim := { program := "ytkncmhcobbjoiaa", sum := "46fd1ba58c76b737f96806be9f7896f0380c7d11290d5a3cb28ab3c6932fdbf4", func := "pylon/pylonlaw15.IslandNumbering", spec := "islandNumbering", unfollowed := true, recurses := true, apart := false }
def IslandNumberingSaid : Prop := islandNumberingRow.holds Try.pinned (OpenSpec.ofChange islandNumberingSpec)

/-- ITS FALSE NEIGHBOUR: 'it returns false'. Refute it at one input. -/
def islandNumberingWrong : ChangeSpec := { name := "islandNumbering", fn := fun _ => fun
  | [d1, d2] => { results := [.lit (.bool false)], args := [d1, d2] }
  | _ => none }
def IslandNumberingWrongFalsely : Prop := islandNumberingRow.holds Try.pinned (OpenSpec.ofChange islandNumberingWrong)

/-- 'pylonlaw15.IslandPredicatesMatch': WHATEVER THE INPUT: true; the input reads as it did. -/
def islandPredicatesMatchSpec : ChangeSpec := { name := "islandPredicatesMatch", fn := fun _ => fun
  | [d1, d2, d3, d4, d5] => { results := [.lit (.bool true)], args := [d1, d2, d3, d4, d5] }
  | _ => none }
def islandPredicatesMatchRow : OpenClaim := { program := "ytkncmhcobbjoiaa", sum := "46fd1ba58c76b737f96806be9f7896f0380c7d11290d5a3cb28ab3c6932fdbf4", func := "pylon/pylonlaw15.IslandPredicatesMatch", spec := "islandPredicatesMatch", unfollowed := true, recurses := true, apart := false }
def IslandPredicatesMatchSaid : Prop := islandPredicatesMatchRow.holds Try.pinned (OpenSpec.ofChange islandPredicatesMatchSpec)

/-- ITS FALSE NEIGHBOUR: 'it returns false'. Refute it at one input. -/
def islandPredicatesMatchWrong : ChangeSpec := { name := "islandPredicatesMatch", fn := fun _ => fun
  | [d1, d2, d3, d4, d5] => { results := [.lit (.bool false)], args := [d1, d2, d3, d4, d5] }
  | _ => none }
def IslandPredicatesMatchWrongFalsely : Prop := islandPredicatesMatchRow.holds Try.pinned (OpenSpec.ofChange islandPredicatesMatchWrong)

/-- 'pylonlaw15.IslandExamples': WHATEVER THE INPUT: true; the input reads as it did. -/
def islandExamplesSpec : ChangeSpec := { name := "islandExamples", fn := fun _ => fun
  | [] => { results := [.lit (.bool true)], args := [] }
  | _ => none }
def islandExamplesRow : OpenClaim := { program := "ytkncmhcobbjoiaa", sum := "46fd1ba58c76b737f96806be9f7896f0380c7d11290d5a3cb28ab3c6932fdbf4", func := "pylon/pylonlaw15.IslandExamples", spec := "islandExamples", unfollowed := true, recurses := true, apart := false }
def IslandExamplesSaid : Prop := islandExamplesRow.holds Try.pinned (OpenSpec.ofChange islandExamplesSpec)

/-- ITS FALSE NEIGHBOUR: 'it returns false'. Refute it at one input. -/
def islandExamplesWrong : ChangeSpec := { name := "islandExamples", fn := fun _ => fun
  | [] => { results := [.lit (.bool false)], args := [] }
  | _ => none }
def IslandExamplesWrongFalsely : Prop := islandExamplesRow.holds Try.pinned (OpenSpec.ofChange islandExamplesWrong)

/- THE SECOND FORM. 'bulk': how many values and letters a reading holds, each counted each time it is reached (what is shared counts as often as it is met; a slice's spare places count too). A statement '..UptoSaid' is the law's where the arguments, and the package variables that the reading takes, are together of bulk at most 1048576: NARROWER than '..Said'. Prove '..Said' where nothing that the law and all that it calls make is longer than what came in: it says more and counts as full. Else prove '..UptoSaid'. A law counts once. -/
mutual
def uptoBulk {H : Type} : DataW H → Nat
  | .lit (.string bytes) => bytes.length + 1
  | .lit _ => 1
  | .nil => 1
  | .ptr d => uptoBulk d + 1
  | .slice elems spare => uptoBulkAll elems + uptoBulkAll spare + 1
  | .agg parts => uptoBulkAll parts + 1
  | .iface _ d => uptoBulk d + 1
  | .map entries => uptoBulkEntries entries + 1
  | .held _ => 1
def uptoBulkAll {H : Type} : List (DataW H) → Nat
  | [] => 0
  | d :: r => uptoBulk d + uptoBulkAll r
def uptoBulkEntries {H : Type} : List (Lit × DataW H) → Nat
  | [] => 0
  | x :: r => uptoBulkEntry x + uptoBulkEntries r
def uptoBulkEntry {H : Type} : Lit × DataW H → Nat
  | (.string bytes, d) => bytes.length + uptoBulk d + 1
  | (_, d) => uptoBulk d + 1
 end
def uptoSmall : (H : Type) → List (DataW H) → Bool := fun _ ds => decide (uptoBulkAll ds ≤ 1048576)
def OpenSpec.upto (s : _root_.Go.ChangeSpec) : _root_.Go.OpenSpec := { _root_.Go.OpenSpec.ofChange s with cond := some uptoSmall }

/-- 'pylonlaw15.IslandLabelling', WHERE WHAT IT READS IS OF BULK AT MOST 1048576: true; the input reads as it did. -/
def islandLabellingUptoRow : OpenClaim := { program := "ytkncmhcobbjoiaa", sum := "46fd1ba58c76b737f96806be9f7896f0380c7d11290d5a3cb28ab3c6932fdbf4", func := "pylon/pylonlaw15.IslandLabelling", spec := "islandLabelling", unfollowed := true, recurses := true, apart := false, narrowed := true }
def IslandLabellingUptoSaid : Prop := islandLabellingUptoRow.holds Try.pinned (OpenSpec.upto islandLabellingSpec)

/-- 'pylonlaw15.IslandReverse', WHERE WHAT IT READS IS OF BULK AT MOST 1048576: true; the input reads as it did. -/
def islandReverseUptoRow : OpenClaim := { program := "ytkncmhcobbjoiaa", sum := "46fd1ba58c76b737f96806be9f7896f0380c7d11290d5a3cb28ab3c6932fdbf4", func := "pylon/pylonlaw15.IslandReverse", spec := "islandReverse", unfollowed := true, recurses := true, apart := false, narrowed := true }
def IslandReverseUptoSaid : Prop := islandReverseUptoRow.holds Try.pinned (OpenSpec.upto islandReverseSpec)

/-- 'pylonlaw15.IslandMatches', WHERE WHAT IT READS IS OF BULK AT MOST 1048576: true; the input reads as it did. -/
def islandMatchesUptoRow : OpenClaim := { program := "ytkncmhcobbjoiaa", sum := "46fd1ba58c76b737f96806be9f7896f0380c7d11290d5a3cb28ab3c6932fdbf4", func := "pylon/pylonlaw15.IslandMatches", spec := "islandMatches", unfollowed := true, recurses := true, apart := false, narrowed := true }
def IslandMatchesUptoSaid : Prop := islandMatchesUptoRow.holds Try.pinned (OpenSpec.upto islandMatchesSpec)

/-- 'pylonlaw15.IslandConnected', WHERE WHAT IT READS IS OF BULK AT MOST 1048576: true; the input reads as it did. -/
def islandConnectedUptoRow : OpenClaim := { program := "ytkncmhcobbjoiaa", sum := "46fd1ba58c76b737f96806be9f7896f0380c7d11290d5a3cb28ab3c6932fdbf4", func := "pylon/pylonlaw15.IslandConnected", spec := "islandConnected", unfollowed := true, recurses := true, apart := false, narrowed := true }
def IslandConnectedUptoSaid : Prop := islandConnectedUptoRow.holds Try.pinned (OpenSpec.upto islandConnectedSpec)

/-- 'pylonlaw15.IslandNumbering', WHERE WHAT IT READS IS OF BULK AT MOST 1048576: true; the input reads as it did. -/
def islandNumberingUptoRow : OpenClaim := { program := "ytkncmhcobbjoiaa", sum := "46fd1ba58c76b737f96806be9f7896f0380c7d11290d5a3cb28ab3c6932fdbf4", func := "pylon/pylonlaw15.IslandNumbering", spec := "islandNumbering", unfollowed := true, recurses := true, apart := false, narrowed := true }
def IslandNumberingUptoSaid : Prop := islandNumberingUptoRow.holds Try.pinned (OpenSpec.upto islandNumberingSpec)

/-- 'pylonlaw15.IslandPredicatesMatch', WHERE WHAT IT READS IS OF BULK AT MOST 1048576: true; the input reads as it did. -/
def islandPredicatesMatchUptoRow : OpenClaim := { program := "ytkncmhcobbjoiaa", sum := "46fd1ba58c76b737f96806be9f7896f0380c7d11290d5a3cb28ab3c6932fdbf4", func := "pylon/pylonlaw15.IslandPredicatesMatch", spec := "islandPredicatesMatch", unfollowed := true, recurses := true, apart := false, narrowed := true }
def IslandPredicatesMatchUptoSaid : Prop := islandPredicatesMatchUptoRow.holds Try.pinned (OpenSpec.upto islandPredicatesMatchSpec)

/-- 'pylonlaw15.IslandExamples', WHERE WHAT IT READS IS OF BULK AT MOST 1048576: true; the input reads as it did. -/
def islandExamplesUptoRow : OpenClaim := { program := "ytkncmhcobbjoiaa", sum := "46fd1ba58c76b737f96806be9f7896f0380c7d11290d5a3cb28ab3c6932fdbf4", func := "pylon/pylonlaw15.IslandExamples", spec := "islandExamples", unfollowed := true, recurses := true, apart := false, narrowed := true }
def IslandExamplesUptoSaid : Prop := islandExamplesUptoRow.holds Try.pinned (OpenSpec.upto islandExamplesSpec)

end Rows
end Go.Proofs.Ytkncmhcobbjoiaa

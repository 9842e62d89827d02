/-
  No cell of these rows narrows 'for every input' (looked for: loops, veiled, ifaces, maps, wideKeys, modest, calm, conditions, laid).
  DERIVED. THE GIVEN ROWS OF THIS SEAT. 8 by the template 'for every input the law returns true; each argument reads behind the call as it read before'; 0 by the template 'total and deterministic' (their statements: YtmojjfdamdgegaaTotals.lean).
  GIVEN WITH THE SEED: the statements are not yours to turn. If you find one false, say at which input.
  Laid BY PROGRAM, IN A SANDBOX (cutbox-rows.mjs): the forced cells as the released guide's own fill.sh prints them over the translation a0d76221f9144537… (all of the seat's roots in one cut). By AI agents, Wed Nov 11 2026. No macro, syntax, notation, axiom, sorry.
-/
import Derived.Test.YtmojjfdamdgegaaChecked
import GoSem.Claim
import GoSem.ClaimJoined
import GoSem.ClaimMapViews
import Derived.JoinedTies
import Derived.KernelRfl
namespace Go.Proofs.Ytmojjfdamdgegaa
/- THE CELL 'sum', in the pinned program and in every row, IS THE sha256 OF THE DUMP (.gsa) THAT YtmojjfdamdgegaaProg.lean LOADS. Nothing in Lean hashes anything: it is a label: what it is worth is what the hold of that sum in a sandbox is worth. -/
noncomputable def Try.pinned : Pinned := { name := "ytmojjfdamdgegaa", sum := "a0d76221f914453722b5a53f9163755a0bce6fa6c512b04e8d2b88b8cacef1d9", checked := Try.checked }
namespace Rows
def none {H : Type} : Left H := { results := [], args := [] }

/-- 'pylonlaw16.TreeMatches': WHATEVER THE INPUT: true; the input reads as it did. -/
def treeMatchesSpec : ChangeSpec := { name := "treeMatches", fn := fun _ => fun
  | [d1, d2] => { results := [.lit (.bool true)], args := [d1, d2] }
  | _ => none }
def treeMatchesRow : OpenClaim := { program := "ytmojjfdamdgegaa", sum := "a0d76221f914453722b5a53f9163755a0bce6fa6c512b04e8d2b88b8cacef1d9", func := "pylon/pylonlaw16.TreeMatches", spec := "treeMatches", unfollowed := true, recurses := true, apart := false }
def TreeMatchesSaid : Prop := treeMatchesRow.holds Try.pinned (OpenSpec.ofChange treeMatchesSpec)

/-- ITS FALSE NEIGHBOUR: 'it returns false'. Refute it at one input. -/
def treeMatchesWrong : ChangeSpec := { name := "treeMatches", fn := fun _ => fun
  | [d1, d2] => { results := [.lit (.bool false)], args := [d1, d2] }
  | _ => none }
def TreeMatchesWrongFalsely : Prop := treeMatchesRow.holds Try.pinned (OpenSpec.ofChange treeMatchesWrong)

/-- 'pylonlaw16.TreePathMatches': WHATEVER THE INPUT: true; the input reads as it did. -/
def treePathMatchesSpec : ChangeSpec := { name := "treePathMatches", fn := fun _ => fun
  | [d1, d2, d3, d4] => { results := [.lit (.bool true)], args := [d1, d2, d3, d4] }
  | _ => none }
def treePathMatchesRow : OpenClaim := { program := "ytmojjfdamdgegaa", sum := "a0d76221f914453722b5a53f9163755a0bce6fa6c512b04e8d2b88b8cacef1d9", func := "pylon/pylonlaw16.TreePathMatches", spec := "treePathMatches", unfollowed := true, recurses := true, apart := false }
def TreePathMatchesSaid : Prop := treePathMatchesRow.holds Try.pinned (OpenSpec.ofChange treePathMatchesSpec)

/-- ITS FALSE NEIGHBOUR: 'it returns false'. Refute it at one input. -/
def treePathMatchesWrong : ChangeSpec := { name := "treePathMatches", fn := fun _ => fun
  | [d1, d2, d3, d4] => { results := [.lit (.bool false)], args := [d1, d2, d3, d4] }
  | _ => none }
def TreePathMatchesWrongFalsely : Prop := treePathMatchesRow.holds Try.pinned (OpenSpec.ofChange treePathMatchesWrong)

/-- 'pylonlaw16.TreeExamples': WHATEVER THE INPUT: true; the input reads as it did. -/
def treeExamplesSpec : ChangeSpec := { name := "treeExamples", fn := fun _ => fun
  | [] => { results := [.lit (.bool true)], args := [] }
  | _ => none }
def treeExamplesRow : OpenClaim := { program := "ytmojjfdamdgegaa", sum := "a0d76221f914453722b5a53f9163755a0bce6fa6c512b04e8d2b88b8cacef1d9", func := "pylon/pylonlaw16.TreeExamples", spec := "treeExamples", unfollowed := true, recurses := true, apart := false }
def TreeExamplesSaid : Prop := treeExamplesRow.holds Try.pinned (OpenSpec.ofChange treeExamplesSpec)

/-- ITS FALSE NEIGHBOUR: 'it returns false'. Refute it at one input. -/
def treeExamplesWrong : ChangeSpec := { name := "treeExamples", fn := fun _ => fun
  | [] => { results := [.lit (.bool false)], args := [] }
  | _ => none }
def TreeExamplesWrongFalsely : Prop := treeExamplesRow.holds Try.pinned (OpenSpec.ofChange treeExamplesWrong)

/-- 'pylonlaw16.TreeSpanning': WHATEVER THE INPUT: true; the input reads as it did. -/
def treeSpanningSpec : ChangeSpec := { name := "treeSpanning", fn := fun _ => fun
  | [d1, d2] => { results := [.lit (.bool true)], args := [d1, d2] }
  | _ => none }
def treeSpanningRow : OpenClaim := { program := "ytmojjfdamdgegaa", sum := "a0d76221f914453722b5a53f9163755a0bce6fa6c512b04e8d2b88b8cacef1d9", func := "pylon/pylonlaw16.TreeSpanning", spec := "treeSpanning", unfollowed := true, recurses := true, apart := false }
def TreeSpanningSaid : Prop := treeSpanningRow.holds Try.pinned (OpenSpec.ofChange treeSpanningSpec)

/-- ITS FALSE NEIGHBOUR: 'it returns false'. Refute it at one input. -/
def treeSpanningWrong : ChangeSpec := { name := "treeSpanning", fn := fun _ => fun
  | [d1, d2] => { results := [.lit (.bool false)], args := [d1, d2] }
  | _ => none }
def TreeSpanningWrongFalsely : Prop := treeSpanningRow.holds Try.pinned (OpenSpec.ofChange treeSpanningWrong)

/-- 'pylonlaw16.TreeGreedy': WHATEVER THE INPUT: true; the input reads as it did. -/
def treeGreedySpec : ChangeSpec := { name := "treeGreedy", fn := fun _ => fun
  | [d1, d2] => { results := [.lit (.bool true)], args := [d1, d2] }
  | _ => none }
def treeGreedyRow : OpenClaim := { program := "ytmojjfdamdgegaa", sum := "a0d76221f914453722b5a53f9163755a0bce6fa6c512b04e8d2b88b8cacef1d9", func := "pylon/pylonlaw16.TreeGreedy", spec := "treeGreedy", unfollowed := true, recurses := true, apart := false }
def TreeGreedySaid : Prop := treeGreedyRow.holds Try.pinned (OpenSpec.ofChange treeGreedySpec)

/-- ITS FALSE NEIGHBOUR: 'it returns false'. Refute it at one input. -/
def treeGreedyWrong : ChangeSpec := { name := "treeGreedy", fn := fun _ => fun
  | [d1, d2] => { results := [.lit (.bool false)], args := [d1, d2] }
  | _ => none }
def TreeGreedyWrongFalsely : Prop := treeGreedyRow.holds Try.pinned (OpenSpec.ofChange treeGreedyWrong)

/-- 'pylonlaw16.TreeBridges': WHATEVER THE INPUT: true; the input reads as it did. -/
def treeBridgesSpec : ChangeSpec := { name := "treeBridges", fn := fun _ => fun
  | [d1, d2] => { results := [.lit (.bool true)], args := [d1, d2] }
  | _ => none }
def treeBridgesRow : OpenClaim := { program := "ytmojjfdamdgegaa", sum := "a0d76221f914453722b5a53f9163755a0bce6fa6c512b04e8d2b88b8cacef1d9", func := "pylon/pylonlaw16.TreeBridges", spec := "treeBridges", unfollowed := true, recurses := true, apart := false }
def TreeBridgesSaid : Prop := treeBridgesRow.holds Try.pinned (OpenSpec.ofChange treeBridgesSpec)

/-- ITS FALSE NEIGHBOUR: 'it returns false'. Refute it at one input. -/
def treeBridgesWrong : ChangeSpec := { name := "treeBridges", fn := fun _ => fun
  | [d1, d2] => { results := [.lit (.bool false)], args := [d1, d2] }
  | _ => none }
def TreeBridgesWrongFalsely : Prop := treeBridgesRow.holds Try.pinned (OpenSpec.ofChange treeBridgesWrong)

/-- 'pylonlaw16.TreeBalance': WHATEVER THE INPUT: true; the input reads as it did. -/
def treeBalanceSpec : ChangeSpec := { name := "treeBalance", fn := fun _ => fun
  | [d1, d2, d3, d4] => { results := [.lit (.bool true)], args := [d1, d2, d3, d4] }
  | _ => none }
def treeBalanceRow : OpenClaim := { program := "ytmojjfdamdgegaa", sum := "a0d76221f914453722b5a53f9163755a0bce6fa6c512b04e8d2b88b8cacef1d9", func := "pylon/pylonlaw16.TreeBalance", spec := "treeBalance", unfollowed := true, recurses := true, apart := false }
def TreeBalanceSaid : Prop := treeBalanceRow.holds Try.pinned (OpenSpec.ofChange treeBalanceSpec)

/-- ITS FALSE NEIGHBOUR: 'it returns false'. Refute it at one input. -/
def treeBalanceWrong : ChangeSpec := { name := "treeBalance", fn := fun _ => fun
  | [d1, d2, d3, d4] => { results := [.lit (.bool false)], args := [d1, d2, d3, d4] }
  | _ => none }
def TreeBalanceWrongFalsely : Prop := treeBalanceRow.holds Try.pinned (OpenSpec.ofChange treeBalanceWrong)

/-- 'pylonlaw16.TreeCycles': WHATEVER THE INPUT: true; the input reads as it did. -/
def treeCyclesSpec : ChangeSpec := { name := "treeCycles", fn := fun _ => fun
  | [d1, d2] => { results := [.lit (.bool true)], args := [d1, d2] }
  | _ => none }
def treeCyclesRow : OpenClaim := { program := "ytmojjfdamdgegaa", sum := "a0d76221f914453722b5a53f9163755a0bce6fa6c512b04e8d2b88b8cacef1d9", func := "pylon/pylonlaw16.TreeCycles", spec := "treeCycles", unfollowed := true, recurses := true, apart := false }
def TreeCyclesSaid : Prop := treeCyclesRow.holds Try.pinned (OpenSpec.ofChange treeCyclesSpec)

/-- ITS FALSE NEIGHBOUR: 'it returns false'. Refute it at one input. -/
def treeCyclesWrong : ChangeSpec := { name := "treeCycles", fn := fun _ => fun
  | [d1, d2] => { results := [.lit (.bool false)], args := [d1, d2] }
  | _ => none }
def TreeCyclesWrongFalsely : Prop := treeCyclesRow.holds Try.pinned (OpenSpec.ofChange treeCyclesWrong)

/- THE SECOND FORM. 'bulk': how many values and letters a reading holds, each counted each time it is reached (what is shared counts as often as it is met; a slice's spare places count too). A statement '..UptoSaid' is the law's where the arguments, and the package variables that the reading takes, are together of bulk at most 1048576: NARROWER than '..Said'. Prove '..Said' where nothing that the law and all that it calls make is longer than what came in: it says more and counts as full. Else prove '..UptoSaid'. A law counts once. -/
mutual
def uptoBulk {H : Type} : DataW H → Nat
  | .lit (.string bytes) => bytes.length + 1
  | .lit _ => 1
  | .nil => 1
  | .ptr d => uptoBulk d + 1
  | .slice elems spare => uptoBulkAll elems + uptoBulkAll spare + 1
  | .agg parts => uptoBulkAll parts + 1
  | .iface _ d => uptoBulk d + 1
  | .map entries => uptoBulkEntries entries + 1
  | .held _ => 1
def uptoBulkAll {H : Type} : List (DataW H) → Nat
  | [] => 0
  | d :: r => uptoBulk d + uptoBulkAll r
def uptoBulkEntries {H : Type} : List (Lit × DataW H) → Nat
  | [] => 0
  | x :: r => uptoBulkEntry x + uptoBulkEntries r
def uptoBulkEntry {H : Type} : Lit × DataW H → Nat
  | (.string bytes, d) => bytes.length + uptoBulk d + 1
  | (_, d) => uptoBulk d + 1
 end
def uptoSmall : (H : Type) → List (DataW H) → Bool := fun _ ds => decide (uptoBulkAll ds ≤ 1048576)
def OpenSpec.upto (s : _root_.Go.ChangeSpec) : _root_.Go.OpenSpec := { _root_.Go.OpenSpec.ofChange s with cond := some uptoSmall }

/-- 'pylonlaw16.TreeMatches', WHERE WHAT IT READS IS OF BULK AT MOST 1048576: true; the input reads as it did. -/
def treeMatchesUptoRow : OpenClaim := { program := "ytmojjfdamdgegaa", sum := "a0d76221f914453722b5a53f9163755a0bce6fa6c512b04e8d2b88b8cacef1d9", func := "pylon/pylonlaw16.TreeMatches", spec := "treeMatches", unfollowed := true, recurses := true, apart := false, narrowed := true }
def TreeMatchesUptoSaid : Prop := treeMatchesUptoRow.holds Try.pinned (OpenSpec.upto treeMatchesSpec)

/-- 'pylonlaw16.TreePathMatches', WHERE WHAT IT READS IS OF BULK AT MOST 1048576: true; the input reads as it did. -/
def treePathMatchesUptoRow : OpenClaim := { program := "ytmojjfdamdgegaa", sum := "a0d76221f914453722b5a53f9163755a0bce6fa6c512b04e8d2b88b8cacef1d9", func := "pylon/pylonlaw16.TreePathMatches", spec := "treePathMatches", unfollowed := true, recurses := true, apart := false, narrowed := true }
def TreePathMatchesUptoSaid : Prop := treePathMatchesUptoRow.holds Try.pinned (OpenSpec.upto treePathMatchesSpec)

/-- 'pylonlaw16.TreeExamples', WHERE WHAT IT READS IS OF BULK AT MOST 1048576: true; the input reads as it did. -/
def treeExamplesUptoRow : OpenClaim := { program := "ytmojjfdamdgegaa", sum := "a0d76221f914453722b5a53f9163755a0bce6fa6c512b04e8d2b88b8cacef1d9", func := "pylon/pylonlaw16.TreeExamples", spec := "treeExamples", unfollowed := true, recurses := true, apart := false, narrowed := true }
def TreeExamplesUptoSaid : Prop := treeExamplesUptoRow.holds Try.pinned (OpenSpec.upto treeExamplesSpec)

/-- 'pylonlaw16.TreeSpanning', WHERE WHAT IT READS IS OF BULK AT MOST 1048576: true; the input reads as it did. -/
def treeSpanningUptoRow : OpenClaim := { program := "ytmojjfdamdgegaa", sum := "a0d76221f914453722b5a53f9163755a0bce6fa6c512b04e8d2b88b8cacef1d9", func := "pylon/pylonlaw16.TreeSpanning", spec := "treeSpanning", unfollowed := true, recurses := true, apart := false, narrowed := true }
def TreeSpanningUptoSaid : Prop := treeSpanningUptoRow.holds Try.pinned (OpenSpec.upto treeSpanningSpec)

/-- 'pylonlaw16.TreeGreedy', WHERE WHAT IT READS IS OF BULK AT MOST 1048576: true; the input reads as it did. -/
def treeGreedyUptoRow : OpenClaim := { program := "ytmojjfdamdgegaa", sum := "a0d76221f914453722b5a53f9163755a0bce6fa6c512b04e8d2b88b8cacef1d9", func := "pylon/pylonlaw16.TreeGreedy", spec := "treeGreedy", unfollowed := true, recurses := true, apart := false, narrowed := true }
def TreeGreedyUptoSaid : Prop := treeGreedyUptoRow.holds Try.pinned (OpenSpec.upto treeGreedySpec)

/-- 'pylonlaw16.TreeBridges', WHERE WHAT IT READS IS OF BULK AT MOST 1048576: true; the input reads as it did. -/
def treeBridgesUptoRow : OpenClaim := { program := "ytmojjfdamdgegaa", sum := "a0d76221f914453722b5a53f9163755a0bce6fa6c512b04e8d2b88b8cacef1d9", func := "pylon/pylonlaw16.TreeBridges", spec := "treeBridges", unfollowed := true, recurses := true, apart := false, narrowed := true }
def TreeBridgesUptoSaid : Prop := treeBridgesUptoRow.holds Try.pinned (OpenSpec.upto treeBridgesSpec)

/-- 'pylonlaw16.TreeBalance', WHERE WHAT IT READS IS OF BULK AT MOST 1048576: true; the input reads as it did. -/
def treeBalanceUptoRow : OpenClaim := { program := "ytmojjfdamdgegaa", sum := "a0d76221f914453722b5a53f9163755a0bce6fa6c512b04e8d2b88b8cacef1d9", func := "pylon/pylonlaw16.TreeBalance", spec := "treeBalance", unfollowed := true, recurses := true, apart := false, narrowed := true }
def TreeBalanceUptoSaid : Prop := treeBalanceUptoRow.holds Try.pinned (OpenSpec.upto treeBalanceSpec)

/-- 'pylonlaw16.TreeCycles', WHERE WHAT IT READS IS OF BULK AT MOST 1048576: true; the input reads as it did. -/
def treeCyclesUptoRow : OpenClaim := { program := "ytmojjfdamdgegaa", sum := "a0d76221f914453722b5a53f9163755a0bce6fa6c512b04e8d2b88b8cacef1d9", func := "pylon/pylonlaw16.TreeCycles", spec := "treeCycles", unfollowed := true, recurses := true, apart := false, narrowed := true }
def TreeCyclesUptoSaid : Prop := treeCyclesUptoRow.holds Try.pinned (OpenSpec.upto treeCyclesSpec)

end Rows
end Go.Proofs.Ytmojjfdamdgegaa

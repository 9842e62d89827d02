/-
  No cell of these rows narrows 'for every input' (looked for: loops, veiled, ifaces, maps, wideKeys, modest, calm, conditions, laid).
  DERIVED. THE GIVEN ROWS OF THIS SEAT. 10 by the template 'for every input the law returns true; each argument reads behind the call as it read before'; 0 by the template 'total and deterministic' (their statements: YtcacaiakkfgdpaaTotals.lean).
  GIVEN WITH THE SEED: the statements are not yours to turn. If you find one false, say at which input.
  Laid BY PROGRAM, IN A SANDBOX (cutbox-rows.mjs): the forced cells as the released guide's own fill.sh prints them over the translation f57bce2d39ea22a5… (all of the seat's roots in one cut). By AI agents, Wed Nov 11 2026. No macro, syntax, notation, axiom, sorry.
-/
import Derived.Test.YtcacaiakkfgdpaaChecked
import GoSem.Claim
import GoSem.ClaimJoined
import GoSem.ClaimMapViews
import Derived.JoinedTies
import Derived.KernelRfl
namespace Go.Proofs.Ytcacaiakkfgdpaa
/- THE CELL 'sum', in the pinned program and in every row, IS THE sha256 OF THE DUMP (.gsa) THAT YtcacaiakkfgdpaaProg.lean LOADS. Nothing in Lean hashes anything: it is a label: what it is worth is what the hold of that sum in a sandbox is worth. -/
noncomputable def Try.pinned : Pinned := { name := "ytcacaiakkfgdpaa", sum := "f57bce2d39ea22a5113bd9216b177b9c9ec33c5b0c2739228c583380cf2755c5", checked := Try.checked }
namespace Rows
def none {H : Type} : Left H := { results := [], args := [] }

/-- 'pylonlaw14.NetMatches': WHATEVER THE INPUT: true; the input reads as it did. -/
def netMatchesSpec : ChangeSpec := { name := "netMatches", fn := fun _ => fun
  | [d1, d2, d3] => { results := [.lit (.bool true)], args := [d1, d2, d3] }
  | _ => none }
def netMatchesRow : OpenClaim := { program := "ytcacaiakkfgdpaa", sum := "f57bce2d39ea22a5113bd9216b177b9c9ec33c5b0c2739228c583380cf2755c5", func := "pylon/pylonlaw14.NetMatches", spec := "netMatches", unfollowed := true, recurses := true, apart := false }
def NetMatchesSaid : Prop := netMatchesRow.holds Try.pinned (OpenSpec.ofChange netMatchesSpec)

/-- ITS FALSE NEIGHBOUR: 'it returns false'. Refute it at one input. -/
def netMatchesWrong : ChangeSpec := { name := "netMatches", fn := fun _ => fun
  | [d1, d2, d3] => { results := [.lit (.bool false)], args := [d1, d2, d3] }
  | _ => none }
def NetMatchesWrongFalsely : Prop := netMatchesRow.holds Try.pinned (OpenSpec.ofChange netMatchesWrong)

/-- 'pylonlaw14.NetUnionMatches': WHATEVER THE INPUT: true; the input reads as it did. -/
def netUnionMatchesSpec : ChangeSpec := { name := "netUnionMatches", fn := fun _ => fun
  | [d1, d2] => { results := [.lit (.bool true)], args := [d1, d2] }
  | _ => none }
def netUnionMatchesRow : OpenClaim := { program := "ytcacaiakkfgdpaa", sum := "f57bce2d39ea22a5113bd9216b177b9c9ec33c5b0c2739228c583380cf2755c5", func := "pylon/pylonlaw14.NetUnionMatches", spec := "netUnionMatches", unfollowed := true, recurses := true, apart := false }
def NetUnionMatchesSaid : Prop := netUnionMatchesRow.holds Try.pinned (OpenSpec.ofChange netUnionMatchesSpec)

/-- ITS FALSE NEIGHBOUR: 'it returns false'. Refute it at one input. -/
def netUnionMatchesWrong : ChangeSpec := { name := "netUnionMatches", fn := fun _ => fun
  | [d1, d2] => { results := [.lit (.bool false)], args := [d1, d2] }
  | _ => none }
def NetUnionMatchesWrongFalsely : Prop := netUnionMatchesRow.holds Try.pinned (OpenSpec.ofChange netUnionMatchesWrong)

/-- 'pylonlaw14.NetPartition': WHATEVER THE INPUT: true; the input reads as it did. -/
def netPartitionSpec : ChangeSpec := { name := "netPartition", fn := fun _ => fun
  | [d1, d2] => { results := [.lit (.bool true)], args := [d1, d2] }
  | _ => none }
def netPartitionRow : OpenClaim := { program := "ytcacaiakkfgdpaa", sum := "f57bce2d39ea22a5113bd9216b177b9c9ec33c5b0c2739228c583380cf2755c5", func := "pylon/pylonlaw14.NetPartition", spec := "netPartition", unfollowed := true, recurses := true, apart := false }
def NetPartitionSaid : Prop := netPartitionRow.holds Try.pinned (OpenSpec.ofChange netPartitionSpec)

/-- ITS FALSE NEIGHBOUR: 'it returns false'. Refute it at one input. -/
def netPartitionWrong : ChangeSpec := { name := "netPartition", fn := fun _ => fun
  | [d1, d2] => { results := [.lit (.bool false)], args := [d1, d2] }
  | _ => none }
def NetPartitionWrongFalsely : Prop := netPartitionRow.holds Try.pinned (OpenSpec.ofChange netPartitionWrong)

/-- 'pylonlaw14.NetEndpoints': WHATEVER THE INPUT: true; the input reads as it did. -/
def netEndpointsSpec : ChangeSpec := { name := "netEndpoints", fn := fun _ => fun
  | [d1, d2] => { results := [.lit (.bool true)], args := [d1, d2] }
  | _ => none }
def netEndpointsRow : OpenClaim := { program := "ytcacaiakkfgdpaa", sum := "f57bce2d39ea22a5113bd9216b177b9c9ec33c5b0c2739228c583380cf2755c5", func := "pylon/pylonlaw14.NetEndpoints", spec := "netEndpoints", unfollowed := true, recurses := true, apart := false }
def NetEndpointsSaid : Prop := netEndpointsRow.holds Try.pinned (OpenSpec.ofChange netEndpointsSpec)

/-- ITS FALSE NEIGHBOUR: 'it returns false'. Refute it at one input. -/
def netEndpointsWrong : ChangeSpec := { name := "netEndpoints", fn := fun _ => fun
  | [d1, d2] => { results := [.lit (.bool false)], args := [d1, d2] }
  | _ => none }
def NetEndpointsWrongFalsely : Prop := netEndpointsRow.holds Try.pinned (OpenSpec.ofChange netEndpointsWrong)

/-- 'pylonlaw14.NetUnion': WHATEVER THE INPUT: true; the input reads as it did. -/
def netUnionSpec : ChangeSpec := { name := "netUnion", fn := fun _ => fun
  | [d1, d2, d3] => { results := [.lit (.bool true)], args := [d1, d2, d3] }
  | _ => none }
def netUnionRow : OpenClaim := { program := "ytcacaiakkfgdpaa", sum := "f57bce2d39ea22a5113bd9216b177b9c9ec33c5b0c2739228c583380cf2755c5", func := "pylon/pylonlaw14.NetUnion", spec := "netUnion", unfollowed := true, recurses := true, apart := false }
def NetUnionSaid : Prop := netUnionRow.holds Try.pinned (OpenSpec.ofChange netUnionSpec)

/-- ITS FALSE NEIGHBOUR: 'it returns false'. Refute it at one input. -/
def netUnionWrong : ChangeSpec := { name := "netUnion", fn := fun _ => fun
  | [d1, d2, d3] => { results := [.lit (.bool false)], args := [d1, d2, d3] }
  | _ => none }
def NetUnionWrongFalsely : Prop := netUnionRow.holds Try.pinned (OpenSpec.ofChange netUnionWrong)

/-- 'pylonlaw14.NetStrip': WHATEVER THE INPUT: true; the input reads as it did. -/
def netStripSpec : ChangeSpec := { name := "netStrip", fn := fun _ => fun
  | [d1, d2, d3] => { results := [.lit (.bool true)], args := [d1, d2, d3] }
  | _ => none }
def netStripRow : OpenClaim := { program := "ytcacaiakkfgdpaa", sum := "f57bce2d39ea22a5113bd9216b177b9c9ec33c5b0c2739228c583380cf2755c5", func := "pylon/pylonlaw14.NetStrip", spec := "netStrip", unfollowed := true, recurses := true, apart := false }
def NetStripSaid : Prop := netStripRow.holds Try.pinned (OpenSpec.ofChange netStripSpec)

/-- ITS FALSE NEIGHBOUR: 'it returns false'. Refute it at one input. -/
def netStripWrong : ChangeSpec := { name := "netStrip", fn := fun _ => fun
  | [d1, d2, d3] => { results := [.lit (.bool false)], args := [d1, d2, d3] }
  | _ => none }
def NetStripWrongFalsely : Prop := netStripRow.holds Try.pinned (OpenSpec.ofChange netStripWrong)

/-- 'pylonlaw14.NetExamples': WHATEVER THE INPUT: true; the input reads as it did. -/
def netExamplesSpec : ChangeSpec := { name := "netExamples", fn := fun _ => fun
  | [] => { results := [.lit (.bool true)], args := [] }
  | _ => none }
def netExamplesRow : OpenClaim := { program := "ytcacaiakkfgdpaa", sum := "f57bce2d39ea22a5113bd9216b177b9c9ec33c5b0c2739228c583380cf2755c5", func := "pylon/pylonlaw14.NetExamples", spec := "netExamples", unfollowed := true, recurses := true, apart := false }
def NetExamplesSaid : Prop := netExamplesRow.holds Try.pinned (OpenSpec.ofChange netExamplesSpec)

/-- ITS FALSE NEIGHBOUR: 'it returns false'. Refute it at one input. -/
def netExamplesWrong : ChangeSpec := { name := "netExamples", fn := fun _ => fun
  | [] => { results := [.lit (.bool false)], args := [] }
  | _ => none }
def NetExamplesWrongFalsely : Prop := netExamplesRow.holds Try.pinned (OpenSpec.ofChange netExamplesWrong)

/-- 'pylonlaw14.NetReverse': WHATEVER THE INPUT: true; the input reads as it did. -/
def netReverseSpec : ChangeSpec := { name := "netReverse", fn := fun _ => fun
  | [d1, d2, d3, d4] => { results := [.lit (.bool true)], args := [d1, d2, d3, d4] }
  | _ => none }
def netReverseRow : OpenClaim := { program := "ytcacaiakkfgdpaa", sum := "f57bce2d39ea22a5113bd9216b177b9c9ec33c5b0c2739228c583380cf2755c5", func := "pylon/pylonlaw14.NetReverse", spec := "netReverse", unfollowed := true, recurses := true, apart := false }
def NetReverseSaid : Prop := netReverseRow.holds Try.pinned (OpenSpec.ofChange netReverseSpec)

/-- ITS FALSE NEIGHBOUR: 'it returns false'. Refute it at one input. -/
def netReverseWrong : ChangeSpec := { name := "netReverse", fn := fun _ => fun
  | [d1, d2, d3, d4] => { results := [.lit (.bool false)], args := [d1, d2, d3, d4] }
  | _ => none }
def NetReverseWrongFalsely : Prop := netReverseRow.holds Try.pinned (OpenSpec.ofChange netReverseWrong)

/-- 'pylonlaw15.IslandOutage': WHATEVER THE INPUT: true; the input reads as it did. -/
def islandOutageSpec : ChangeSpec := { name := "islandOutage", fn := fun _ => fun
  | [d1, d2, d3] => { results := [.lit (.bool true)], args := [d1, d2, d3] }
  | _ => none }
def islandOutageRow : OpenClaim := { program := "ytcacaiakkfgdpaa", sum := "f57bce2d39ea22a5113bd9216b177b9c9ec33c5b0c2739228c583380cf2755c5", func := "pylon/pylonlaw15.IslandOutage", spec := "islandOutage", unfollowed := true, recurses := true, apart := false }
def IslandOutageSaid : Prop := islandOutageRow.holds Try.pinned (OpenSpec.ofChange islandOutageSpec)

/-- ITS FALSE NEIGHBOUR: 'it returns false'. Refute it at one input. -/
def islandOutageWrong : ChangeSpec := { name := "islandOutage", fn := fun _ => fun
  | [d1, d2, d3] => { results := [.lit (.bool false)], args := [d1, d2, d3] }
  | _ => none }
def IslandOutageWrongFalsely : Prop := islandOutageRow.holds Try.pinned (OpenSpec.ofChange islandOutageWrong)

/-- 'pylonlaw14.NetBuildMatches': WHATEVER THE INPUT: true; the input reads as it did. -/
def netBuildMatchesSpec : ChangeSpec := { name := "netBuildMatches", fn := fun _ => fun
  | [d1, d2, d3, d4] => { results := [.lit (.bool true)], args := [d1, d2, d3, d4] }
  | _ => none }
def netBuildMatchesRow : OpenClaim := { program := "ytcacaiakkfgdpaa", sum := "f57bce2d39ea22a5113bd9216b177b9c9ec33c5b0c2739228c583380cf2755c5", func := "pylon/pylonlaw14.NetBuildMatches", spec := "netBuildMatches", unfollowed := true, recurses := true, apart := false }
def NetBuildMatchesSaid : Prop := netBuildMatchesRow.holds Try.pinned (OpenSpec.ofChange netBuildMatchesSpec)

/-- ITS FALSE NEIGHBOUR: 'it returns false'. Refute it at one input. -/
def netBuildMatchesWrong : ChangeSpec := { name := "netBuildMatches", fn := fun _ => fun
  | [d1, d2, d3, d4] => { results := [.lit (.bool false)], args := [d1, d2, d3, d4] }
  | _ => none }
def NetBuildMatchesWrongFalsely : Prop := netBuildMatchesRow.holds Try.pinned (OpenSpec.ofChange netBuildMatchesWrong)

/- THE SECOND FORM. 'bulk': how many values and letters a reading holds, each counted each time it is reached (what is shared counts as often as it is met; a slice's spare places count too). A statement '..UptoSaid' is the law's where the arguments, and the package variables that the reading takes, are together of bulk at most 1048576: NARROWER than '..Said'. Prove '..Said' where nothing that the law and all that it calls make is longer than what came in: it says more and counts as full. Else prove '..UptoSaid'. A law counts once. -/
mutual
def uptoBulk {H : Type} : DataW H → Nat
  | .lit (.string bytes) => bytes.length + 1
  | .lit _ => 1
  | .nil => 1
  | .ptr d => uptoBulk d + 1
  | .slice elems spare => uptoBulkAll elems + uptoBulkAll spare + 1
  | .agg parts => uptoBulkAll parts + 1
  | .iface _ d => uptoBulk d + 1
  | .map entries => uptoBulkEntries entries + 1
  | .held _ => 1
def uptoBulkAll {H : Type} : List (DataW H) → Nat
  | [] => 0
  | d :: r => uptoBulk d + uptoBulkAll r
def uptoBulkEntries {H : Type} : List (Lit × DataW H) → Nat
  | [] => 0
  | x :: r => uptoBulkEntry x + uptoBulkEntries r
def uptoBulkEntry {H : Type} : Lit × DataW H → Nat
  | (.string bytes, d) => bytes.length + uptoBulk d + 1
  | (_, d) => uptoBulk d + 1
 end
def uptoSmall : (H : Type) → List (DataW H) → Bool := fun _ ds => decide (uptoBulkAll ds ≤ 1048576)
def OpenSpec.upto (s : _root_.Go.ChangeSpec) : _root_.Go.OpenSpec := { _root_.Go.OpenSpec.ofChange s with cond := some uptoSmall }

/-- 'pylonlaw14.NetMatches', WHERE WHAT IT READS IS OF BULK AT MOST 1048576: true; the input reads as it did. -/
def netMatchesUptoRow : OpenClaim := { program := "ytcacaiakkfgdpaa", sum := "f57bce2d39ea22a5113bd9216b177b9c9ec33c5b0c2739228c583380cf2755c5", func := "pylon/pylonlaw14.NetMatches", spec := "netMatches", unfollowed := true, recurses := true, apart := false, narrowed := true }
def NetMatchesUptoSaid : Prop := netMatchesUptoRow.holds Try.pinned (OpenSpec.upto netMatchesSpec)

/-- 'pylonlaw14.NetUnionMatches', WHERE WHAT IT READS IS OF BULK AT MOST 1048576: true; the input reads as it did. -/
def netUnionMatchesUptoRow : OpenClaim := { program := "ytcacaiakkfgdpaa", sum := "f57bce2d39ea22a5113bd9216b177b9c9ec33c5b0c2739228c583380cf2755c5", func := "pylon/pylonlaw14.NetUnionMatches", spec := "netUnionMatches", unfollowed := true, recurses := true, apart := false, narrowed := true }
def NetUnionMatchesUptoSaid : Prop := netUnionMatchesUptoRow.holds Try.pinned (OpenSpec.upto netUnionMatchesSpec)

/-- 'pylonlaw14.NetPartition', WHERE WHAT IT READS IS OF BULK AT MOST 1048576: true; the input reads as it did. -/
def netPartitionUptoRow : OpenClaim := { program := "ytcacaiakkfgdpaa", sum := "f57bce2d39ea22a5113bd9216b177b9c9ec33c5b0c2739228c583380cf2755c5", func := "pylon/pylonlaw14.NetPartition", spec := "netPartition", unfollowed := true, recurses := true, apart := false, narrowed := true }
def NetPartitionUptoSaid : Prop := netPartitionUptoRow.holds Try.pinned (OpenSpec.upto netPartitionSpec)

/-- 'pylonlaw14.NetEndpoints', WHERE WHAT IT READS IS OF BULK AT MOST 1048576: true; the input reads as it did. -/
def netEndpointsUptoRow : OpenClaim := { program := "ytcacaiakkfgdpaa", sum := "f57bce2d39ea22a5113bd9216b177b9c9ec33c5b0c2739228c583380cf2755c5", func := "pylon/pylonlaw14.NetEndpoints", spec := "netEndpoints", unfollowed := true, recurses := true, apart := false, narrowed := true }
def NetEndpointsUptoSaid : Prop := netEndpointsUptoRow.holds Try.pinned (OpenSpec.upto netEndpointsSpec)

/-- 'pylonlaw14.NetUnion', WHERE WHAT IT READS IS OF BULK AT MOST 1048576: true; the input reads as it did. -/
def netUnionUptoRow : OpenClaim := { program := "ytcacaiakkfgdpaa", sum := "f57bce2d39ea22a5113bd9216b177b9c9ec33c5b0c2739228c583380cf2755c5", func := "pylon/pylonlaw14.NetUnion", spec := "netUnion", unfollowed := true, recurses := true, apart := false, narrowed := true }
def NetUnionUptoSaid : Prop := netUnionUptoRow.holds Try.pinned (OpenSpec.upto netUnionSpec)

/-- 'pylonlaw14.NetStrip', WHERE WHAT IT READS IS OF BULK AT MOST 1048576: true; the input reads as it did. -/
def netStripUptoRow : OpenClaim := { program := "ytcacaiakkfgdpaa", sum := "f57bce2d39ea22a5113bd9216b177b9c9ec33c5b0c2739228c583380cf2755c5", func := "pylon/pylonlaw14.NetStrip", spec := "netStrip", unfollowed := true, recurses := true, apart := false, narrowed := true }
def NetStripUptoSaid : Prop := netStripUptoRow.holds Try.pinned (OpenSpec.upto netStripSpec)

/-- 'pylonlaw14.NetExamples', WHERE WHAT IT READS IS OF BULK AT MOST 1048576: true; the input reads as it did. -/
def netExamplesUptoRow : OpenClaim := { program := "ytcacaiakkfgdpaa", sum := "f57bce2d39ea22a5113bd9216b177b9c9ec33c5b0c2739228c583380cf2755c5", func := "pylon/pylonlaw14.NetExamples", spec := "netExamples", unfollowed := true, recurses := true, apart := false, narrowed := true }
def NetExamplesUptoSaid : Prop := netExamplesUptoRow.holds Try.pinned (OpenSpec.upto netExamplesSpec)

/-- 'pylonlaw14.NetReverse', WHERE WHAT IT READS IS OF BULK AT MOST 1048576: true; the input reads as it did. -/
def netReverseUptoRow : OpenClaim := { program := "ytcacaiakkfgdpaa", sum := "f57bce2d39ea22a5113bd9216b177b9c9ec33c5b0c2739228c583380cf2755c5", func := "pylon/pylonlaw14.NetReverse", spec := "netReverse", unfollowed := true, recurses := true, apart := false, narrowed := true }
def NetReverseUptoSaid : Prop := netReverseUptoRow.holds Try.pinned (OpenSpec.upto netReverseSpec)

/-- 'pylonlaw15.IslandOutage', WHERE WHAT IT READS IS OF BULK AT MOST 1048576: true; the input reads as it did. -/
def islandOutageUptoRow : OpenClaim := { program := "ytcacaiakkfgdpaa", sum := "f57bce2d39ea22a5113bd9216b177b9c9ec33c5b0c2739228c583380cf2755c5", func := "pylon/pylonlaw15.IslandOutage", spec := "islandOutage", unfollowed := true, recurses := true, apart := false, narrowed := true }
def IslandOutageUptoSaid : Prop := islandOutageUptoRow.holds Try.pinned (OpenSpec.upto islandOutageSpec)

/-- 'pylonlaw14.NetBuildMatches', WHERE WHAT IT READS IS OF BULK AT MOST 1048576: true; the input reads as it did. -/
def netBuildMatchesUptoRow : OpenClaim := { program := "ytcacaiakkfgdpaa", sum := "f57bce2d39ea22a5113bd9216b177b9c9ec33c5b0c2739228c583380cf2755c5", func := "pylon/pylonlaw14.NetBuildMatches", spec := "netBuildMatches", unfollowed := true, recurses := true, apart := false, narrowed := true }
def NetBuildMatchesUptoSaid : Prop := netBuildMatchesUptoRow.holds Try.pinned (OpenSpec.upto netBuildMatchesSpec)

end Rows
end Go.Proofs.Ytcacaiakkfgdpaa

/-
  No cell of these rows narrows 'for every input' (looked for: loops, veiled, ifaces, maps, wideKeys, modest, calm, conditions, laid).
  DERIVED. THE GIVEN ROWS OF THIS SEAT. 5 by the template 'for every input the law returns true; each argument reads behind the call as it read before'; 0 by the template 'total and deterministic' (their statements: YtklfijhlibpmaaaTotals.lean).
  GIVEN WITH THE SEED: the statements are not yours to turn. If you find one false, say at which input.
  Laid BY PROGRAM, IN A SANDBOX (cutbox-rows.mjs): the forced cells as the released guide's own fill.sh prints them over the translation 9f925d753e80c616… (all of the seat's roots in one cut). By AI agents, Wed Nov 11 2026. No macro, syntax, notation, axiom, sorry.
-/
import Derived.Test.YtklfijhlibpmaaaChecked
import GoSem.Claim
import GoSem.ClaimJoined
import GoSem.ClaimMapViews
import Derived.JoinedTies
import Derived.KernelRfl
namespace Go.Proofs.Ytklfijhlibpmaaa
/- THE CELL 'sum', in the pinned program and in every row, IS THE sha256 OF THE DUMP (.gsa) THAT YtklfijhlibpmaaaProg.lean LOADS. Nothing in Lean hashes anything: it is a label: what it is worth is what the hold of that sum in a sandbox is worth. -/
noncomputable def Try.pinned : Pinned := { name := "ytklfijhlibpmaaa", sum := "9f925d753e80c6166cf4d5cae402942052094bbcbad2f3b34ba84b710b635b32", checked := Try.checked }
namespace Rows
def none {H : Type} : Left H := { results := [], args := [] }

/-- 'pylonlaw21.OutageNormal': WHATEVER THE INPUT: true; the input reads as it did. -/
def outageNormalSpec : ChangeSpec := { name := "outageNormal", fn := fun _ => fun
  | [d] => { results := [.lit (.bool true)], args := [d] }
  | _ => none }
def outageNormalRow : OpenClaim := { program := "ytklfijhlibpmaaa", sum := "9f925d753e80c6166cf4d5cae402942052094bbcbad2f3b34ba84b710b635b32", func := "pylon/pylonlaw21.OutageNormal", spec := "outageNormal", unfollowed := true, recurses := true, apart := false }
def OutageNormalSaid : Prop := outageNormalRow.holds Try.pinned (OpenSpec.ofChange outageNormalSpec)

/-- ITS FALSE NEIGHBOUR: 'it returns false'. Refute it at one input. -/
def outageNormalWrong : ChangeSpec := { name := "outageNormal", fn := fun _ => fun
  | [d] => { results := [.lit (.bool false)], args := [d] }
  | _ => none }
def OutageNormalWrongFalsely : Prop := outageNormalRow.holds Try.pinned (OpenSpec.ofChange outageNormalWrong)

/-- 'pylonlaw21.OutageAhead': WHATEVER THE INPUT: true; the input reads as it did. -/
def outageAheadSpec : ChangeSpec := { name := "outageAhead", fn := fun _ => fun
  | [d1, d2] => { results := [.lit (.bool true)], args := [d1, d2] }
  | _ => none }
def outageAheadRow : OpenClaim := { program := "ytklfijhlibpmaaa", sum := "9f925d753e80c6166cf4d5cae402942052094bbcbad2f3b34ba84b710b635b32", func := "pylon/pylonlaw21.OutageAhead", spec := "outageAhead", unfollowed := true, recurses := true, apart := false }
def OutageAheadSaid : Prop := outageAheadRow.holds Try.pinned (OpenSpec.ofChange outageAheadSpec)

/-- ITS FALSE NEIGHBOUR: 'it returns false'. Refute it at one input. -/
def outageAheadWrong : ChangeSpec := { name := "outageAhead", fn := fun _ => fun
  | [d1, d2] => { results := [.lit (.bool false)], args := [d1, d2] }
  | _ => none }
def OutageAheadWrongFalsely : Prop := outageAheadRow.holds Try.pinned (OpenSpec.ofChange outageAheadWrong)

/-- 'pylonlaw21.OutageUnion': WHATEVER THE INPUT: true; the input reads as it did. -/
def outageUnionSpec : ChangeSpec := { name := "outageUnion", fn := fun _ => fun
  | [d1, d2, d3] => { results := [.lit (.bool true)], args := [d1, d2, d3] }
  | _ => none }
def outageUnionRow : OpenClaim := { program := "ytklfijhlibpmaaa", sum := "9f925d753e80c6166cf4d5cae402942052094bbcbad2f3b34ba84b710b635b32", func := "pylon/pylonlaw21.OutageUnion", spec := "outageUnion", unfollowed := true, recurses := true, apart := false }
def OutageUnionSaid : Prop := outageUnionRow.holds Try.pinned (OpenSpec.ofChange outageUnionSpec)

/-- ITS FALSE NEIGHBOUR: 'it returns false'. Refute it at one input. -/
def outageUnionWrong : ChangeSpec := { name := "outageUnion", fn := fun _ => fun
  | [d1, d2, d3] => { results := [.lit (.bool false)], args := [d1, d2, d3] }
  | _ => none }
def OutageUnionWrongFalsely : Prop := outageUnionRow.holds Try.pinned (OpenSpec.ofChange outageUnionWrong)

/-- 'pylonlaw21.OutageForm': WHATEVER THE INPUT: true; the input reads as it did. -/
def outageFormSpec : ChangeSpec := { name := "outageForm", fn := fun _ => fun
  | [d1, d2, d3] => { results := [.lit (.bool true)], args := [d1, d2, d3] }
  | _ => none }
def outageFormRow : OpenClaim := { program := "ytklfijhlibpmaaa", sum := "9f925d753e80c6166cf4d5cae402942052094bbcbad2f3b34ba84b710b635b32", func := "pylon/pylonlaw21.OutageForm", spec := "outageForm", unfollowed := true, recurses := true, apart := false }
def OutageFormSaid : Prop := outageFormRow.holds Try.pinned (OpenSpec.ofChange outageFormSpec)

/-- ITS FALSE NEIGHBOUR: 'it returns false'. Refute it at one input. -/
def outageFormWrong : ChangeSpec := { name := "outageForm", fn := fun _ => fun
  | [d1, d2, d3] => { results := [.lit (.bool false)], args := [d1, d2, d3] }
  | _ => none }
def OutageFormWrongFalsely : Prop := outageFormRow.holds Try.pinned (OpenSpec.ofChange outageFormWrong)

/-- 'pylonlaw21.OutageValid': WHATEVER THE INPUT: true; the input reads as it did. -/
def outageValidSpec : ChangeSpec := { name := "outageValid", fn := fun _ => fun
  | [d1, d2, d3, d4, d5] => { results := [.lit (.bool true)], args := [d1, d2, d3, d4, d5] }
  | _ => none }
def outageValidRow : OpenClaim := { program := "ytklfijhlibpmaaa", sum := "9f925d753e80c6166cf4d5cae402942052094bbcbad2f3b34ba84b710b635b32", func := "pylon/pylonlaw21.OutageValid", spec := "outageValid", unfollowed := true, recurses := true, apart := false }
def OutageValidSaid : Prop := outageValidRow.holds Try.pinned (OpenSpec.ofChange outageValidSpec)

/-- ITS FALSE NEIGHBOUR: 'it returns false'. Refute it at one input. -/
def outageValidWrong : ChangeSpec := { name := "outageValid", fn := fun _ => fun
  | [d1, d2, d3, d4, d5] => { results := [.lit (.bool false)], args := [d1, d2, d3, d4, d5] }
  | _ => none }
def OutageValidWrongFalsely : Prop := outageValidRow.holds Try.pinned (OpenSpec.ofChange outageValidWrong)

/- THE SECOND FORM. 'bulk': how many values and letters a reading holds, each counted each time it is reached (what is shared counts as often as it is met; a slice's spare places count too). A statement '..UptoSaid' is the law's where the arguments, and the package variables that the reading takes, are together of bulk at most 1048576: NARROWER than '..Said'. Prove '..Said' where nothing that the law and all that it calls make is longer than what came in: it says more and counts as full. Else prove '..UptoSaid'. A law counts once. -/
mutual
def uptoBulk {H : Type} : DataW H → Nat
  | .lit (.string bytes) => bytes.length + 1
  | .lit _ => 1
  | .nil => 1
  | .ptr d => uptoBulk d + 1
  | .slice elems spare => uptoBulkAll elems + uptoBulkAll spare + 1
  | .agg parts => uptoBulkAll parts + 1
  | .iface _ d => uptoBulk d + 1
  | .map entries => uptoBulkEntries entries + 1
  | .held _ => 1
def uptoBulkAll {H : Type} : List (DataW H) → Nat
  | [] => 0
  | d :: r => uptoBulk d + uptoBulkAll r
def uptoBulkEntries {H : Type} : List (Lit × DataW H) → Nat
  | [] => 0
  | x :: r => uptoBulkEntry x + uptoBulkEntries r
def uptoBulkEntry {H : Type} : Lit × DataW H → Nat
  | (.string bytes, d) => bytes.length + uptoBulk d + 1
  | (_, d) => uptoBulk d + 1
 end
def uptoSmall : (H : Type) → List (DataW H) → Bool := fun _ ds => decide (uptoBulkAll ds ≤ 1048576)
def OpenSpec.upto (s : _root_.Go.ChangeSpec) : _root_.Go.OpenSpec := { _root_.Go.OpenSpec.ofChange s with cond := some uptoSmall }

/-- 'pylonlaw21.OutageNormal', WHERE WHAT IT READS IS OF BULK AT MOST 1048576: true; the input reads as it did. -/
def outageNormalUptoRow : OpenClaim := { program := "ytklfijhlibpmaaa", sum := "9f925d753e80c6166cf4d5cae402942052094bbcbad2f3b34ba84b710b635b32", func := "pylon/pylonlaw21.OutageNormal", spec := "outageNormal", unfollowed := true, recurses := true, apart := false, narrowed := true }
def OutageNormalUptoSaid : Prop := outageNormalUptoRow.holds Try.pinned (OpenSpec.upto outageNormalSpec)

/-- 'pylonlaw21.OutageAhead', WHERE WHAT IT READS IS OF BULK AT MOST 1048576: true; the input reads as it did. -/
def outageAheadUptoRow : OpenClaim := { program := "ytklfijhlibpmaaa", sum := "9f925d753e80c6166cf4d5cae402942052094bbcbad2f3b34ba84b710b635b32", func := "pylon/pylonlaw21.OutageAhead", spec := "outageAhead", unfollowed := true, recurses := true, apart := false, narrowed := true }
def OutageAheadUptoSaid : Prop := outageAheadUptoRow.holds Try.pinned (OpenSpec.upto outageAheadSpec)

/-- 'pylonlaw21.OutageUnion', WHERE WHAT IT READS IS OF BULK AT MOST 1048576: true; the input reads as it did. -/
def outageUnionUptoRow : OpenClaim := { program := "ytklfijhlibpmaaa", sum := "9f925d753e80c6166cf4d5cae402942052094bbcbad2f3b34ba84b710b635b32", func := "pylon/pylonlaw21.OutageUnion", spec := "outageUnion", unfollowed := true, recurses := true, apart := false, narrowed := true }
def OutageUnionUptoSaid : Prop := outageUnionUptoRow.holds Try.pinned (OpenSpec.upto outageUnionSpec)

/-- 'pylonlaw21.OutageForm', WHERE WHAT IT READS IS OF BULK AT MOST 1048576: true; the input reads as it did. -/
def outageFormUptoRow : OpenClaim := { program := "ytklfijhlibpmaaa", sum := "9f925d753e80c6166cf4d5cae402942052094bbcbad2f3b34ba84b710b635b32", func := "pylon/pylonlaw21.OutageForm", spec := "outageForm", unfollowed := true, recurses := true, apart := false, narrowed := true }
def OutageFormUptoSaid : Prop := outageFormUptoRow.holds Try.pinned (OpenSpec.upto outageFormSpec)

/-- 'pylonlaw21.OutageValid', WHERE WHAT IT READS IS OF BULK AT MOST 1048576: true; the input reads as it did. -/
def outageValidUptoRow : OpenClaim := { program := "ytklfijhlibpmaaa", sum := "9f925d753e80c6166cf4d5cae402942052094bbcbad2f3b34ba84b710b635b32", func := "pylon/pylonlaw21.OutageValid", spec := "outageValid", unfollowed := true, recurses := true, apart := false, narrowed := true }
def OutageValidUptoSaid : Prop := outageValidUptoRow.holds Try.pinned (OpenSpec.upto outageValidSpec)

end Rows
end Go.Proofs.Ytklfijhlibpmaaa

/-
  No cell of these rows narrows 'for every input' (looked for: loops, veiled, ifaces, maps, wideKeys, modest, calm, conditions, laid).
  DERIVED. THE GIVEN ROWS OF THIS SEAT. 2 by the template 'for every input the law returns true; each argument reads behind the call as it read before'; 0 by the template 'total and deterministic' (their statements: YtklanoppbbaolaaGreatTotals.lean).
  GIVEN WITH THE SEED: the statements are not yours to turn. If you find one false, say at which input.
  Laid BY PROGRAM, IN A SANDBOX (cutbox-rows.mjs): the forced cells as the released guide's own fill.sh prints them over the translation a691b0c068d4261e… (all of the seat's roots in one cut). By AI agents, Wed Nov 11 2026. No macro, syntax, notation, axiom, sorry.
-/
import Derived.Test.YtklanoppbbaolaaGreatChecked
import GoSem.Claim
import GoSem.ClaimJoined
import GoSem.ClaimMapViews
import Derived.JoinedTies
import Derived.KernelRfl
namespace Go.Proofs.YtklanoppbbaolaaGreat
/- THE CELL 'sum', in the pinned program and in every row, IS THE sha256 OF THE DUMP (.gsa) THAT YtklanoppbbaolaaGreatProg.lean LOADS. Nothing in Lean hashes anything: it is a label: what it is worth is what the hold of that sum in a sandbox is worth. -/
noncomputable def Tryz.pinned : Pinned := { name := "ytklanoppbbaolaagreat", sum := "a691b0c068d4261eb804201f322516c2dd4144d2eebbf528dca675d2f3380b9b", checked := Tryz.checked }
namespace Rows
def none {H : Type} : Left H := { results := [], args := [] }

/-- 'pylonlaw40.DayExamples': WHATEVER THE INPUT: true; the input reads as it did. -/
def dayExamplesSpec : ChangeSpec := { name := "dayExamples", fn := fun _ => fun
  | [] => { results := [.lit (.bool true)], args := [] }
  | _ => none }
def dayExamplesRow : OpenClaim := { program := "ytklanoppbbaolaagreat", sum := "a691b0c068d4261eb804201f322516c2dd4144d2eebbf528dca675d2f3380b9b", func := "pylon/pylonlaw40.DayExamples", spec := "dayExamples", inPlace := ["internal/reflectlite.ValueOf", "internal/reflectlite.Swapper", "(internal/reflectlite.Value).Len"], unfollowed := true, recurses := true, plainKeys := false, apart := false }
def DayExamplesSaid : Prop := dayExamplesRow.holds Tryz.pinned (OpenSpec.ofChange dayExamplesSpec)

/-- ITS FALSE NEIGHBOUR: 'it returns false'. Refute it at one input. -/
def dayExamplesWrong : ChangeSpec := { name := "dayExamples", fn := fun _ => fun
  | [] => { results := [.lit (.bool false)], args := [] }
  | _ => none }
def DayExamplesWrongFalsely : Prop := dayExamplesRow.holds Tryz.pinned (OpenSpec.ofChange dayExamplesWrong)

/-- 'pylonlaw40.DayValidates': WHATEVER THE INPUT: true; the input reads as it did. -/
def dayValidatesSpec : ChangeSpec := { name := "dayValidates", fn := fun _ => fun
  | [d] => { results := [.lit (.bool true)], args := [d] }
  | _ => none }
def dayValidatesRow : OpenClaim := { program := "ytklanoppbbaolaagreat", sum := "a691b0c068d4261eb804201f322516c2dd4144d2eebbf528dca675d2f3380b9b", func := "pylon/pylonlaw40.DayValidates", spec := "dayValidates", inPlace := ["internal/reflectlite.ValueOf", "internal/reflectlite.Swapper", "(internal/reflectlite.Value).Len"], unfollowed := true, recurses := true, plainKeys := false, apart := false }
def DayValidatesSaid : Prop := dayValidatesRow.holds Tryz.pinned (OpenSpec.ofChange dayValidatesSpec)

/-- ITS FALSE NEIGHBOUR: 'it returns false'. Refute it at one input. -/
def dayValidatesWrong : ChangeSpec := { name := "dayValidates", fn := fun _ => fun
  | [d] => { results := [.lit (.bool false)], args := [d] }
  | _ => none }
def DayValidatesWrongFalsely : Prop := dayValidatesRow.holds Tryz.pinned (OpenSpec.ofChange dayValidatesWrong)

/- THE SECOND FORM. 'bulk': how many values and letters a reading holds, each counted each time it is reached (what is shared counts as often as it is met; a slice's spare places count too). A statement '..UptoSaid' is the law's where the arguments, and the package variables that the reading takes, are together of bulk at most 1048576: NARROWER than '..Said'. Prove '..Said' where nothing that the law and all that it calls make is longer than what came in: it says more and counts as full. Else prove '..UptoSaid'. A law counts once. -/
mutual
def uptoBulk {H : Type} : DataW H → Nat
  | .lit (.string bytes) => bytes.length + 1
  | .lit _ => 1
  | .nil => 1
  | .ptr d => uptoBulk d + 1
  | .slice elems spare => uptoBulkAll elems + uptoBulkAll spare + 1
  | .agg parts => uptoBulkAll parts + 1
  | .iface _ d => uptoBulk d + 1
  | .map entries => uptoBulkEntries entries + 1
  | .held _ => 1
def uptoBulkAll {H : Type} : List (DataW H) → Nat
  | [] => 0
  | d :: r => uptoBulk d + uptoBulkAll r
def uptoBulkEntries {H : Type} : List (Lit × DataW H) → Nat
  | [] => 0
  | x :: r => uptoBulkEntry x + uptoBulkEntries r
def uptoBulkEntry {H : Type} : Lit × DataW H → Nat
  | (.string bytes, d) => bytes.length + uptoBulk d + 1
  | (_, d) => uptoBulk d + 1
 end
def uptoSmall : (H : Type) → List (DataW H) → Bool := fun _ ds => decide (uptoBulkAll ds ≤ 1048576)
def OpenSpec.upto (s : _root_.Go.ChangeSpec) : _root_.Go.OpenSpec := { _root_.Go.OpenSpec.ofChange s with cond := some uptoSmall }

/-- 'pylonlaw40.DayExamples', WHERE WHAT IT READS IS OF BULK AT MOST 1048576: true; the input reads as it did. -/
def dayExamplesUptoRow : OpenClaim := { program := "ytklanoppbbaolaagreat", sum := "a691b0c068d4261eb804201f322516c2dd4144d2eebbf528dca675d2f3380b9b", func := "pylon/pylonlaw40.DayExamples", spec := "dayExamples", inPlace := ["internal/reflectlite.ValueOf", "internal/reflectlite.Swapper", "(internal/reflectlite.Value).Len"], unfollowed := true, recurses := true, plainKeys := false, apart := false, narrowed := true }
def DayExamplesUptoSaid : Prop := dayExamplesUptoRow.holds Tryz.pinned (OpenSpec.upto dayExamplesSpec)

/-- 'pylonlaw40.DayValidates', WHERE WHAT IT READS IS OF BULK AT MOST 1048576: true; the input reads as it did. -/
def dayValidatesUptoRow : OpenClaim := { program := "ytklanoppbbaolaagreat", sum := "a691b0c068d4261eb804201f322516c2dd4144d2eebbf528dca675d2f3380b9b", func := "pylon/pylonlaw40.DayValidates", spec := "dayValidates", inPlace := ["internal/reflectlite.ValueOf", "internal/reflectlite.Swapper", "(internal/reflectlite.Value).Len"], unfollowed := true, recurses := true, plainKeys := false, apart := false, narrowed := true }
def DayValidatesUptoSaid : Prop := dayValidatesUptoRow.holds Tryz.pinned (OpenSpec.upto dayValidatesSpec)

end Rows
end Go.Proofs.YtklanoppbbaolaaGreat

/-
  DERIVED. GIVEN WITH THE SEED: THE CARDS: each row of YtkfhpefmmhljmaaGreatDoorRows.lean that lists a variable, with what it lists TIED to the program's text (the seventh form; the later family's looks); each row that meets fmt, with fmt's text TOLD by the authors' own Lean function (tested against real Go, not proved from fmt's source: count such statements apart). THE CARD IS WHAT COUNTS. Prove the row's statement (the work); the ties are given (YtkfhpefmmhljmaaGreatDoorTie.lean); close each card by the builder's one call (the guide's Derived/Test/ToyasCard.lean, 'card_holds'). Laid BY PROGRAM, IN A SANDBOX (cutbox-door.mjs). By AI agents, Wed Nov 11 2026. No macro, syntax, notation, axiom, sorry.
-/
import Derived.Test.YtkfhpefmmhljmaaGreatDoorRows
import GoSem.ClaimSeven
namespace Go.Proofs.YtkfhpefmmhljmaaGreatDoor
namespace Rows

/-- THE TIED CARD OF 'pylonlaw41.CasetextFormats'. -/
def casetextFormatsCard : Claim7 := { stood := { row := casetextFormatsRow, standIns := [], harness := (true, "9c225ab4e3f9f603986b07d03f1eff6d4b55ae3383d8d08b73790a1874b64d17"), looks := false }, kinds := [], alts := [], laidByText := true, laidKinds := [.data, .data, .data], laidTests := true, laidLooks := .later }
def CasetextFormatsCardSaid : Prop := Claim7.holds Tryz.pinned (.plain (OpenSpec.ofChange casetextFormatsSpec)) casetextFormatsCard

/-- THE TIED CARD OF 'pylonlaw41.CasetextRoundTrip'. -/
def casetextRoundTripCard : Claim7 := { stood := { row := casetextRoundTripRow, standIns := [], harness := (true, "9c225ab4e3f9f603986b07d03f1eff6d4b55ae3383d8d08b73790a1874b64d17"), looks := false }, kinds := [], alts := [], laidByText := true, laidKinds := [.data, .data, .data], laidTests := true, laidLooks := .later }
def CasetextRoundTripCardSaid : Prop := Claim7.holds Tryz.pinned (.plain (OpenSpec.ofChange casetextRoundTripSpec)) casetextRoundTripCard

/-- THE TIED CARD OF 'pylonlaw41.CasetextPrefix'. -/
def casetextPrefixCard : Claim7 := { stood := { row := casetextPrefixRow, standIns := [], harness := (true, "9c225ab4e3f9f603986b07d03f1eff6d4b55ae3383d8d08b73790a1874b64d17"), looks := false }, kinds := [], alts := [], laidByText := true, laidKinds := [.data, .data, .data], laidTests := true, laidLooks := .later }
def CasetextPrefixCardSaid : Prop := Claim7.holds Tryz.pinned (.plain (OpenSpec.ofChange casetextPrefixSpec)) casetextPrefixCard

/-- THE TIED CARD OF 'pylonlaw41.CasetextTrailing'. -/
def casetextTrailingCard : Claim7 := { stood := { row := casetextTrailingRow, standIns := [], harness := (true, "9c225ab4e3f9f603986b07d03f1eff6d4b55ae3383d8d08b73790a1874b64d17"), looks := false }, kinds := [], alts := [], laidByText := true, laidKinds := [.data, .data, .data], laidTests := true, laidLooks := .later }
def CasetextTrailingCardSaid : Prop := Claim7.holds Tryz.pinned (.plain (OpenSpec.ofChange casetextTrailingSpec)) casetextTrailingCard

/-- THE TIED CARD OF 'pylonlaw41.CasetextExamples'. -/
def casetextExamplesCard : Claim7 := { stood := { row := casetextExamplesRow, standIns := [], harness := (true, "9c225ab4e3f9f603986b07d03f1eff6d4b55ae3383d8d08b73790a1874b64d17"), looks := false }, kinds := [], alts := [], laidByText := true, laidKinds := [.data, .data, .data], laidTests := true, laidLooks := .later }
def CasetextExamplesCardSaid : Prop := Claim7.holds Tryz.pinned (.plain (OpenSpec.ofChange casetextExamplesSpec)) casetextExamplesCard

/-- THE TIED CARD OF 'pylonlaw41.CasetextWhiteSpace'. -/
def casetextWhiteSpaceCard : Claim7 := { stood := { row := casetextWhiteSpaceRow, standIns := [], harness := (true, "9c225ab4e3f9f603986b07d03f1eff6d4b55ae3383d8d08b73790a1874b64d17"), looks := false }, kinds := [], alts := [], laidByText := true, laidKinds := [.data, .data, .data, .data, .pinned], laidTests := true, laidLooks := .later }
def CasetextWhiteSpaceCardSaid : Prop := Claim7.holds Tryz.pinned (.plain (OpenSpec.ofChange casetextWhiteSpaceSpec)) casetextWhiteSpaceCard

/-- THE SECOND FORM's CARD OF 'pylonlaw41.CasetextFormats'. -/
def casetextFormatsUptoCard : Claim7 := { stood := { row := casetextFormatsUptoRow, standIns := [], harness := (true, "9c225ab4e3f9f603986b07d03f1eff6d4b55ae3383d8d08b73790a1874b64d17"), looks := false }, kinds := [], alts := [], laidByText := true, laidKinds := [.data, .data, .data], laidTests := true, laidLooks := .later }
def CasetextFormatsUptoCardSaid : Prop := Claim7.holds Tryz.pinned (.plain (OpenSpec.upto casetextFormatsSpec)) casetextFormatsUptoCard

/-- THE SECOND FORM's CARD OF 'pylonlaw41.CasetextRoundTrip'. -/
def casetextRoundTripUptoCard : Claim7 := { stood := { row := casetextRoundTripUptoRow, standIns := [], harness := (true, "9c225ab4e3f9f603986b07d03f1eff6d4b55ae3383d8d08b73790a1874b64d17"), looks := false }, kinds := [], alts := [], laidByText := true, laidKinds := [.data, .data, .data], laidTests := true, laidLooks := .later }
def CasetextRoundTripUptoCardSaid : Prop := Claim7.holds Tryz.pinned (.plain (OpenSpec.upto casetextRoundTripSpec)) casetextRoundTripUptoCard

/-- THE SECOND FORM's CARD OF 'pylonlaw41.CasetextPrefix'. -/
def casetextPrefixUptoCard : Claim7 := { stood := { row := casetextPrefixUptoRow, standIns := [], harness := (true, "9c225ab4e3f9f603986b07d03f1eff6d4b55ae3383d8d08b73790a1874b64d17"), looks := false }, kinds := [], alts := [], laidByText := true, laidKinds := [.data, .data, .data], laidTests := true, laidLooks := .later }
def CasetextPrefixUptoCardSaid : Prop := Claim7.holds Tryz.pinned (.plain (OpenSpec.upto casetextPrefixSpec)) casetextPrefixUptoCard

/-- THE SECOND FORM's CARD OF 'pylonlaw41.CasetextTrailing'. -/
def casetextTrailingUptoCard : Claim7 := { stood := { row := casetextTrailingUptoRow, standIns := [], harness := (true, "9c225ab4e3f9f603986b07d03f1eff6d4b55ae3383d8d08b73790a1874b64d17"), looks := false }, kinds := [], alts := [], laidByText := true, laidKinds := [.data, .data, .data], laidTests := true, laidLooks := .later }
def CasetextTrailingUptoCardSaid : Prop := Claim7.holds Tryz.pinned (.plain (OpenSpec.upto casetextTrailingSpec)) casetextTrailingUptoCard

/-- THE SECOND FORM's CARD OF 'pylonlaw41.CasetextExamples'. -/
def casetextExamplesUptoCard : Claim7 := { stood := { row := casetextExamplesUptoRow, standIns := [], harness := (true, "9c225ab4e3f9f603986b07d03f1eff6d4b55ae3383d8d08b73790a1874b64d17"), looks := false }, kinds := [], alts := [], laidByText := true, laidKinds := [.data, .data, .data], laidTests := true, laidLooks := .later }
def CasetextExamplesUptoCardSaid : Prop := Claim7.holds Tryz.pinned (.plain (OpenSpec.upto casetextExamplesSpec)) casetextExamplesUptoCard

/-- THE SECOND FORM's CARD OF 'pylonlaw41.CasetextWhiteSpace'. -/
def casetextWhiteSpaceUptoCard : Claim7 := { stood := { row := casetextWhiteSpaceUptoRow, standIns := [], harness := (true, "9c225ab4e3f9f603986b07d03f1eff6d4b55ae3383d8d08b73790a1874b64d17"), looks := false }, kinds := [], alts := [], laidByText := true, laidKinds := [.data, .data, .data, .data, .pinned], laidTests := true, laidLooks := .later }
def CasetextWhiteSpaceUptoCardSaid : Prop := Claim7.holds Tryz.pinned (.plain (OpenSpec.upto casetextWhiteSpaceSpec)) casetextWhiteSpaceUptoCard
end Rows
end Go.Proofs.YtkfhpefmmhljmaaGreatDoor

/-
  DERIVED. GIVEN WITH THE SEED: THE CARDS: each row of YtgnlcjenoaoffaaGreatDoorRows.lean that lists a variable, with what it lists TIED to the program's text (the seventh form; the later family's looks); each row that meets fmt, with fmt's text TOLD by the authors' own Lean function (tested against real Go, not proved from fmt's source: count such statements apart). THE CARD IS WHAT COUNTS. Prove the row's statement (the work); the ties are given (YtgnlcjenoaoffaaGreatDoorTie.lean); close each card by the builder's one call (the guide's Derived/Test/ToyasCard.lean, 'card_holds'). Laid BY PROGRAM, IN A SANDBOX (cutbox-door.mjs). By AI agents, Wed Nov 11 2026. No macro, syntax, notation, axiom, sorry.
-/
import Derived.Test.YtgnlcjenoaoffaaGreatDoorRows
import GoSem.ClaimSeven
namespace Go.Proofs.YtgnlcjenoaoffaaGreatDoor
namespace Rows

/-- THE TIED CARD OF 'musterlaw31.HeedStale'. -/
def heedStaleCard : Claim7 := { stood := { row := heedStaleRow, standIns := [], harness := (true, "ab79425dc42da24502128ae33463c4d4b0400b1f44a0107441ee650d1a9e689e"), looks := true }, kinds := [], alts := [], laidByText := true, laidKinds := [.data, .data, .data, .sentinel, .sentinel], laidTests := true, laidLooks := .later }
def HeedStaleCardSaid : Prop := Claim7.holds Tryz.pinned (.plain (OpenSpec.ofChange heedStaleSpec)) heedStaleCard

/-- THE TIED CARD OF 'musterlaw31.HeedLater'. -/
def heedLaterCard : Claim7 := { stood := { row := heedLaterRow, standIns := [], harness := (true, "ab79425dc42da24502128ae33463c4d4b0400b1f44a0107441ee650d1a9e689e"), looks := true }, kinds := [], alts := [], laidByText := true, laidKinds := [.data, .data, .data, .sentinel, .sentinel], laidTests := true, laidLooks := .later }
def HeedLaterCardSaid : Prop := Claim7.holds Tryz.pinned (.plain (OpenSpec.ofChange heedLaterSpec)) heedLaterCard

/-- THE TIED CARD OF 'musterlaw31.HeedFreed'. -/
def heedFreedCard : Claim7 := { stood := { row := heedFreedRow, standIns := [], harness := (true, "ab79425dc42da24502128ae33463c4d4b0400b1f44a0107441ee650d1a9e689e"), looks := true }, kinds := [], alts := [], laidByText := true, laidKinds := [.data, .data, .data, .sentinel, .sentinel], laidTests := true, laidLooks := .later }
def HeedFreedCardSaid : Prop := Claim7.holds Tryz.pinned (.plain (OpenSpec.ofChange heedFreedSpec)) heedFreedCard

/-- THE SECOND FORM's CARD OF 'musterlaw31.HeedStale'. -/
def heedStaleUptoCard : Claim7 := { stood := { row := heedStaleUptoRow, standIns := [], harness := (true, "ab79425dc42da24502128ae33463c4d4b0400b1f44a0107441ee650d1a9e689e"), looks := true }, kinds := [], alts := [], laidByText := true, laidKinds := [.data, .data, .data, .sentinel, .sentinel], laidTests := true, laidLooks := .later }
def HeedStaleUptoCardSaid : Prop := Claim7.holds Tryz.pinned (.plain (OpenSpec.upto heedStaleSpec)) heedStaleUptoCard

/-- THE SECOND FORM's CARD OF 'musterlaw31.HeedLater'. -/
def heedLaterUptoCard : Claim7 := { stood := { row := heedLaterUptoRow, standIns := [], harness := (true, "ab79425dc42da24502128ae33463c4d4b0400b1f44a0107441ee650d1a9e689e"), looks := true }, kinds := [], alts := [], laidByText := true, laidKinds := [.data, .data, .data, .sentinel, .sentinel], laidTests := true, laidLooks := .later }
def HeedLaterUptoCardSaid : Prop := Claim7.holds Tryz.pinned (.plain (OpenSpec.upto heedLaterSpec)) heedLaterUptoCard

/-- THE SECOND FORM's CARD OF 'musterlaw31.HeedFreed'. -/
def heedFreedUptoCard : Claim7 := { stood := { row := heedFreedUptoRow, standIns := [], harness := (true, "ab79425dc42da24502128ae33463c4d4b0400b1f44a0107441ee650d1a9e689e"), looks := true }, kinds := [], alts := [], laidByText := true, laidKinds := [.data, .data, .data, .sentinel, .sentinel], laidTests := true, laidLooks := .later }
def HeedFreedUptoCardSaid : Prop := Claim7.holds Tryz.pinned (.plain (OpenSpec.upto heedFreedSpec)) heedFreedUptoCard
end Rows
end Go.Proofs.YtgnlcjenoaoffaaGreatDoor

/-
  DERIVED. GIVEN WITH THE SEED: THE CARDS: each row of YtldebhdmhpopaaaGreatDoorRows.lean that lists a variable, with what it lists TIED to the program's text (the seventh form; the later family's looks); each row that meets fmt, with fmt's text TOLD by the authors' own Lean function (tested against real Go, not proved from fmt's source: count such statements apart). THE CARD IS WHAT COUNTS. Prove the row's statement (the work); the ties are given (YtldebhdmhpopaaaGreatDoorTie.lean); close each card by the builder's one call (the guide's Derived/Test/ToyasCard.lean, 'card_holds'). Laid BY PROGRAM, IN A SANDBOX (cutbox-door.mjs). By AI agents, Wed Nov 11 2026. No macro, syntax, notation, axiom, sorry.
-/
import Derived.Test.YtldebhdmhpopaaaGreatDoorRows
import GoSem.ClaimSeven
namespace Go.Proofs.YtldebhdmhpopaaaGreatDoor
namespace Rows

/-- THE TIED CARD OF 'musterlaw29.DeedsLater'. -/
def deedsLaterCard : Claim7 := { stood := { row := deedsLaterRow, standIns := [], harness := (true, "a95f2bcdfb03604222caae0f72289376bb28b312adf672ebf6866a3433d03d5e"), looks := true }, kinds := [], alts := [], laidByText := true, laidKinds := [.data, .data, .data, .sentinel, .sentinel], laidTests := true, laidLooks := .later }
def DeedsLaterCardSaid : Prop := Claim7.holds Tryz.pinned (.plain (OpenSpec.ofChange deedsLaterSpec)) deedsLaterCard

/-- THE TIED CARD OF 'musterlaw29.DeedsStart'. -/
def deedsStartCard : Claim7 := { stood := { row := deedsStartRow, standIns := [], harness := (true, "a95f2bcdfb03604222caae0f72289376bb28b312adf672ebf6866a3433d03d5e"), looks := true }, kinds := [], alts := [], laidByText := true, laidKinds := [.data, .data, .data, .sentinel, .sentinel], laidTests := true, laidLooks := .later }
def DeedsStartCardSaid : Prop := Claim7.holds Tryz.pinned (.plain (OpenSpec.ofChange deedsStartSpec)) deedsStartCard

/-- THE TIED CARD OF 'musterlaw29.DeedsMay'. -/
def deedsMayCard : Claim7 := { stood := { row := deedsMayRow, standIns := [], harness := (true, "a95f2bcdfb03604222caae0f72289376bb28b312adf672ebf6866a3433d03d5e"), looks := true }, kinds := [], alts := [], laidByText := true, laidKinds := [.data, .data, .data, .sentinel, .sentinel], laidTests := true, laidLooks := .later }
def DeedsMayCardSaid : Prop := Claim7.holds Tryz.pinned (.plain (OpenSpec.ofChange deedsMaySpec)) deedsMayCard

/-- THE SECOND FORM's CARD OF 'musterlaw29.DeedsLater'. -/
def deedsLaterUptoCard : Claim7 := { stood := { row := deedsLaterUptoRow, standIns := [], harness := (true, "a95f2bcdfb03604222caae0f72289376bb28b312adf672ebf6866a3433d03d5e"), looks := true }, kinds := [], alts := [], laidByText := true, laidKinds := [.data, .data, .data, .sentinel, .sentinel], laidTests := true, laidLooks := .later }
def DeedsLaterUptoCardSaid : Prop := Claim7.holds Tryz.pinned (.plain (OpenSpec.upto deedsLaterSpec)) deedsLaterUptoCard

/-- THE SECOND FORM's CARD OF 'musterlaw29.DeedsStart'. -/
def deedsStartUptoCard : Claim7 := { stood := { row := deedsStartUptoRow, standIns := [], harness := (true, "a95f2bcdfb03604222caae0f72289376bb28b312adf672ebf6866a3433d03d5e"), looks := true }, kinds := [], alts := [], laidByText := true, laidKinds := [.data, .data, .data, .sentinel, .sentinel], laidTests := true, laidLooks := .later }
def DeedsStartUptoCardSaid : Prop := Claim7.holds Tryz.pinned (.plain (OpenSpec.upto deedsStartSpec)) deedsStartUptoCard

/-- THE SECOND FORM's CARD OF 'musterlaw29.DeedsMay'. -/
def deedsMayUptoCard : Claim7 := { stood := { row := deedsMayUptoRow, standIns := [], harness := (true, "a95f2bcdfb03604222caae0f72289376bb28b312adf672ebf6866a3433d03d5e"), looks := true }, kinds := [], alts := [], laidByText := true, laidKinds := [.data, .data, .data, .sentinel, .sentinel], laidTests := true, laidLooks := .later }
def DeedsMayUptoCardSaid : Prop := Claim7.holds Tryz.pinned (.plain (OpenSpec.upto deedsMaySpec)) deedsMayUptoCard
end Rows
end Go.Proofs.YtldebhdmhpopaaaGreatDoor

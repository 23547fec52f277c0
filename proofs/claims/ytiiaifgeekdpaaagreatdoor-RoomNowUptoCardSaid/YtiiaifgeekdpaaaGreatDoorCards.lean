/-
  DERIVED. GIVEN WITH THE SEED: THE CARDS: each row of YtiiaifgeekdpaaaGreatDoorRows.lean that lists a variable, with what it lists TIED to the program's text (the seventh form; the later family's looks); each row that meets fmt, with fmt's text TOLD by the authors' own Lean function (tested against real Go, not proved from fmt's source: count such statements apart). THE CARD IS WHAT COUNTS. Prove the row's statement (the work); the ties are given (YtiiaifgeekdpaaaGreatDoorTie.lean); close each card by the builder's one call (the guide's Derived/Test/ToyasCard.lean, 'card_holds'). Laid BY PROGRAM, IN A SANDBOX (cutbox-door.mjs). By AI agents, Wed Nov 11 2026. No macro, syntax, notation, axiom, sorry.
-/
import Derived.Test.YtiiaifgeekdpaaaGreatDoorRows
import GoSem.ClaimSeven
namespace Go.Proofs.YtiiaifgeekdpaaaGreatDoor
namespace Rows

/-- THE TIED CARD OF 'musterlaw20.RoomBusy'. -/
def roomBusyCard : Claim7 := { stood := { row := roomBusyRow, standIns := [], harness := (true, "d3e32341b8367b555bd965d08c0025777ca31e742c62422c152c68100ac60a6e"), looks := true }, kinds := [], alts := [], laidByText := true, laidKinds := [.data, .data, .data, .sentinel, .sentinel], laidTests := true, laidLooks := .later }
def RoomBusyCardSaid : Prop := Claim7.holds Tryz.pinned (.plain (OpenSpec.ofChange roomBusySpec)) roomBusyCard

/-- THE TIED CARD OF 'musterlaw20.RoomLeft'. -/
def roomLeftCard : Claim7 := { stood := { row := roomLeftRow, standIns := [], harness := (true, "d3e32341b8367b555bd965d08c0025777ca31e742c62422c152c68100ac60a6e"), looks := true }, kinds := [], alts := [], laidByText := true, laidKinds := [.data, .data, .data, .sentinel, .sentinel], laidTests := true, laidLooks := .later }
def RoomLeftCardSaid : Prop := Claim7.holds Tryz.pinned (.plain (OpenSpec.ofChange roomLeftSpec)) roomLeftCard

/-- THE TIED CARD OF 'musterlaw20.RoomNow'. -/
def roomNowCard : Claim7 := { stood := { row := roomNowRow, standIns := [], harness := (true, "d3e32341b8367b555bd965d08c0025777ca31e742c62422c152c68100ac60a6e"), looks := true }, kinds := [], alts := [], laidByText := true, laidKinds := [.data, .data, .data, .sentinel, .sentinel], laidTests := true, laidLooks := .later }
def RoomNowCardSaid : Prop := Claim7.holds Tryz.pinned (.plain (OpenSpec.ofChange roomNowSpec)) roomNowCard

/-- THE TIED CARD OF 'musterlaw20.RoomLess'. -/
def roomLessCard : Claim7 := { stood := { row := roomLessRow, standIns := [], harness := (true, "d3e32341b8367b555bd965d08c0025777ca31e742c62422c152c68100ac60a6e"), looks := true }, kinds := [], alts := [], laidByText := true, laidKinds := [.data, .data, .data, .sentinel, .sentinel], laidTests := true, laidLooks := .later }
def RoomLessCardSaid : Prop := Claim7.holds Tryz.pinned (.plain (OpenSpec.ofChange roomLessSpec)) roomLessCard

/-- THE SECOND FORM's CARD OF 'musterlaw20.RoomBusy'. -/
def roomBusyUptoCard : Claim7 := { stood := { row := roomBusyUptoRow, standIns := [], harness := (true, "d3e32341b8367b555bd965d08c0025777ca31e742c62422c152c68100ac60a6e"), looks := true }, kinds := [], alts := [], laidByText := true, laidKinds := [.data, .data, .data, .sentinel, .sentinel], laidTests := true, laidLooks := .later }
def RoomBusyUptoCardSaid : Prop := Claim7.holds Tryz.pinned (.plain (OpenSpec.upto roomBusySpec)) roomBusyUptoCard

/-- THE SECOND FORM's CARD OF 'musterlaw20.RoomLeft'. -/
def roomLeftUptoCard : Claim7 := { stood := { row := roomLeftUptoRow, standIns := [], harness := (true, "d3e32341b8367b555bd965d08c0025777ca31e742c62422c152c68100ac60a6e"), looks := true }, kinds := [], alts := [], laidByText := true, laidKinds := [.data, .data, .data, .sentinel, .sentinel], laidTests := true, laidLooks := .later }
def RoomLeftUptoCardSaid : Prop := Claim7.holds Tryz.pinned (.plain (OpenSpec.upto roomLeftSpec)) roomLeftUptoCard

/-- THE SECOND FORM's CARD OF 'musterlaw20.RoomNow'. -/
def roomNowUptoCard : Claim7 := { stood := { row := roomNowUptoRow, standIns := [], harness := (true, "d3e32341b8367b555bd965d08c0025777ca31e742c62422c152c68100ac60a6e"), looks := true }, kinds := [], alts := [], laidByText := true, laidKinds := [.data, .data, .data, .sentinel, .sentinel], laidTests := true, laidLooks := .later }
def RoomNowUptoCardSaid : Prop := Claim7.holds Tryz.pinned (.plain (OpenSpec.upto roomNowSpec)) roomNowUptoCard

/-- THE SECOND FORM's CARD OF 'musterlaw20.RoomLess'. -/
def roomLessUptoCard : Claim7 := { stood := { row := roomLessUptoRow, standIns := [], harness := (true, "d3e32341b8367b555bd965d08c0025777ca31e742c62422c152c68100ac60a6e"), looks := true }, kinds := [], alts := [], laidByText := true, laidKinds := [.data, .data, .data, .sentinel, .sentinel], laidTests := true, laidLooks := .later }
def RoomLessUptoCardSaid : Prop := Claim7.holds Tryz.pinned (.plain (OpenSpec.upto roomLessSpec)) roomLessUptoCard
end Rows
end Go.Proofs.YtiiaifgeekdpaaaGreatDoor

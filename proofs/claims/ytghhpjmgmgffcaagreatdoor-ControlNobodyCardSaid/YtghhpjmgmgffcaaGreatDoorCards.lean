/-
  DERIVED. GIVEN WITH THE SEED: THE CARDS: each row of YtghhpjmgmgffcaaGreatDoorRows.lean that lists a variable, with what it lists TIED to the program's text (the seventh form; the later family's looks); each row that meets fmt, with fmt's text TOLD by the authors' own Lean function (tested against real Go, not proved from fmt's source: count such statements apart). THE CARD IS WHAT COUNTS. Prove the row's statement (the work); the ties are given (YtghhpjmgmgffcaaGreatDoorTie.lean); close each card by the builder's one call (the guide's Derived/Test/ToyasCard.lean, 'card_holds'). Laid BY PROGRAM, IN A SANDBOX (cutbox-door.mjs). By AI agents, Wed Nov 11 2026. No macro, syntax, notation, axiom, sorry.
-/
import Derived.Test.YtghhpjmgmgffcaaGreatDoorRows
import GoSem.ClaimSeven
namespace Go.Proofs.YtghhpjmgmgffcaaGreatDoor
namespace Rows

/-- THE TIED CARD OF 'musterlaw35.ControlNobody'. -/
def controlNobodyCard : Claim7 := { stood := { row := controlNobodyRow, standIns := [], harness := (true, "effa368ea1ac7d396d9a7fc5f9d7ecec89d1b9074a55ba2d5353e0c0ad961e00"), looks := true }, kinds := [], alts := [], laidByText := true, laidKinds := [.data, .data, .data, .sentinel, .sentinel], laidTests := true, laidLooks := .later }
def ControlNobodyCardSaid : Prop := Claim7.holds Tryz.pinned (.plain (OpenSpec.ofChange controlNobodySpec)) controlNobodyCard

/-- THE SECOND FORM's CARD OF 'musterlaw35.ControlNobody'. -/
def controlNobodyUptoCard : Claim7 := { stood := { row := controlNobodyUptoRow, standIns := [], harness := (true, "effa368ea1ac7d396d9a7fc5f9d7ecec89d1b9074a55ba2d5353e0c0ad961e00"), looks := true }, kinds := [], alts := [], laidByText := true, laidKinds := [.data, .data, .data, .sentinel, .sentinel], laidTests := true, laidLooks := .later }
def ControlNobodyUptoCardSaid : Prop := Claim7.holds Tryz.pinned (.plain (OpenSpec.upto controlNobodySpec)) controlNobodyUptoCard
end Rows
end Go.Proofs.YtghhpjmgmgffcaaGreatDoor

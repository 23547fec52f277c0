/-
  DERIVED. GIVEN WITH THE SEED: THE CARDS: each row of YtjpgfmbccohngaaGreatDoorRows.lean that lists a variable, with what it lists TIED to the program's text (the seventh form; the later family's looks); each row that meets fmt, with fmt's text TOLD by the authors' own Lean function (tested against real Go, not proved from fmt's source: count such statements apart). THE CARD IS WHAT COUNTS. Prove the row's statement (the work); the ties are given (YtjpgfmbccohngaaGreatDoorTie.lean); close each card by the builder's one call (the guide's Derived/Test/ToyasCard.lean, 'card_holds'). Laid BY PROGRAM, IN A SANDBOX (cutbox-door.mjs). By AI agents, Wed Nov 11 2026. No macro, syntax, notation, axiom, sorry.
-/
import Derived.Test.YtjpgfmbccohngaaGreatDoorRows
import GoSem.ClaimSeven
namespace Go.Proofs.YtjpgfmbccohngaaGreatDoor
namespace Rows

/-- THE TIED CARD OF 'musterlaw21.PlanOne'. -/
def planOneCard : Claim7 := { stood := { row := planOneRow, standIns := [], harness := (true, "dae1aa68f08b665462c7e19f959389dfe4c0d8ff5d812cf9a780a93814aaddea"), looks := true }, kinds := [], alts := [], laidByText := true, laidKinds := [.data, .data, .data, .sentinel, .sentinel], laidTests := true, laidLooks := .later }
def PlanOneCardSaid : Prop := Claim7.holds Tryz.pinned (.plain (OpenSpec.ofChange planOneSpec)) planOneCard

/-- THE TIED CARD OF 'musterlaw21.PlanKept'. -/
def planKeptCard : Claim7 := { stood := { row := planKeptRow, standIns := [], harness := (true, "dae1aa68f08b665462c7e19f959389dfe4c0d8ff5d812cf9a780a93814aaddea"), looks := true }, kinds := [], alts := [], laidByText := true, laidKinds := [.data, .data, .data, .sentinel, .sentinel], laidTests := true, laidLooks := .later }
def PlanKeptCardSaid : Prop := Claim7.holds Tryz.pinned (.plain (OpenSpec.ofChange planKeptSpec)) planKeptCard

/-- THE TIED CARD OF 'musterlaw21.PlanSound'. -/
def planSoundCard : Claim7 := { stood := { row := planSoundRow, standIns := [], harness := (true, "dae1aa68f08b665462c7e19f959389dfe4c0d8ff5d812cf9a780a93814aaddea"), looks := true }, kinds := [], alts := [], laidByText := true, laidKinds := [.data, .data, .data, .sentinel, .sentinel], laidTests := true, laidLooks := .later }
def PlanSoundCardSaid : Prop := Claim7.holds Tryz.pinned (.plain (OpenSpec.ofChange planSoundSpec)) planSoundCard

/-- THE TIED CARD OF 'musterlaw22.SqueezeMoves'. -/
def squeezeMovesCard : Claim7 := { stood := { row := squeezeMovesRow, standIns := [], harness := (true, "dae1aa68f08b665462c7e19f959389dfe4c0d8ff5d812cf9a780a93814aaddea"), looks := true }, kinds := [], alts := [], laidByText := true, laidKinds := [.data, .data, .data, .sentinel, .sentinel], laidTests := true, laidLooks := .later }
def SqueezeMovesCardSaid : Prop := Claim7.holds Tryz.pinned (.plain (OpenSpec.ofChange squeezeMovesSpec)) squeezeMovesCard

/-- THE TIED CARD OF 'musterlaw22.SqueezeLater'. -/
def squeezeLaterCard : Claim7 := { stood := { row := squeezeLaterRow, standIns := [], harness := (true, "dae1aa68f08b665462c7e19f959389dfe4c0d8ff5d812cf9a780a93814aaddea"), looks := true }, kinds := [], alts := [], laidByText := true, laidKinds := [.data, .data, .data, .sentinel, .sentinel], laidTests := true, laidLooks := .later }
def SqueezeLaterCardSaid : Prop := Claim7.holds Tryz.pinned (.plain (OpenSpec.ofChange squeezeLaterSpec)) squeezeLaterCard

/-- THE TIED CARD OF 'musterlaw22.SqueezeNever'. -/
def squeezeNeverCard : Claim7 := { stood := { row := squeezeNeverRow, standIns := [], harness := (true, "dae1aa68f08b665462c7e19f959389dfe4c0d8ff5d812cf9a780a93814aaddea"), looks := true }, kinds := [], alts := [], laidByText := true, laidKinds := [.data, .data, .data, .sentinel, .sentinel], laidTests := true, laidLooks := .later }
def SqueezeNeverCardSaid : Prop := Claim7.holds Tryz.pinned (.plain (OpenSpec.ofChange squeezeNeverSpec)) squeezeNeverCard

/-- THE TIED CARD OF 'musterlaw22.SqueezeSound'. -/
def squeezeSoundCard : Claim7 := { stood := { row := squeezeSoundRow, standIns := [], harness := (true, "dae1aa68f08b665462c7e19f959389dfe4c0d8ff5d812cf9a780a93814aaddea"), looks := true }, kinds := [], alts := [], laidByText := true, laidKinds := [.data, .data, .data, .sentinel, .sentinel], laidTests := true, laidLooks := .later }
def SqueezeSoundCardSaid : Prop := Claim7.holds Tryz.pinned (.plain (OpenSpec.ofChange squeezeSoundSpec)) squeezeSoundCard

/-- THE TIED CARD OF 'musterlaw22.SqueezeDue'. -/
def squeezeDueCard : Claim7 := { stood := { row := squeezeDueRow, standIns := [], harness := (true, "dae1aa68f08b665462c7e19f959389dfe4c0d8ff5d812cf9a780a93814aaddea"), looks := true }, kinds := [], alts := [], laidByText := true, laidKinds := [.data, .data, .data, .sentinel, .sentinel], laidTests := true, laidLooks := .later }
def SqueezeDueCardSaid : Prop := Claim7.holds Tryz.pinned (.plain (OpenSpec.ofChange squeezeDueSpec)) squeezeDueCard

/-- THE SECOND FORM's CARD OF 'musterlaw21.PlanOne'. -/
def planOneUptoCard : Claim7 := { stood := { row := planOneUptoRow, standIns := [], harness := (true, "dae1aa68f08b665462c7e19f959389dfe4c0d8ff5d812cf9a780a93814aaddea"), looks := true }, kinds := [], alts := [], laidByText := true, laidKinds := [.data, .data, .data, .sentinel, .sentinel], laidTests := true, laidLooks := .later }
def PlanOneUptoCardSaid : Prop := Claim7.holds Tryz.pinned (.plain (OpenSpec.upto planOneSpec)) planOneUptoCard

/-- THE SECOND FORM's CARD OF 'musterlaw21.PlanKept'. -/
def planKeptUptoCard : Claim7 := { stood := { row := planKeptUptoRow, standIns := [], harness := (true, "dae1aa68f08b665462c7e19f959389dfe4c0d8ff5d812cf9a780a93814aaddea"), looks := true }, kinds := [], alts := [], laidByText := true, laidKinds := [.data, .data, .data, .sentinel, .sentinel], laidTests := true, laidLooks := .later }
def PlanKeptUptoCardSaid : Prop := Claim7.holds Tryz.pinned (.plain (OpenSpec.upto planKeptSpec)) planKeptUptoCard

/-- THE SECOND FORM's CARD OF 'musterlaw21.PlanSound'. -/
def planSoundUptoCard : Claim7 := { stood := { row := planSoundUptoRow, standIns := [], harness := (true, "dae1aa68f08b665462c7e19f959389dfe4c0d8ff5d812cf9a780a93814aaddea"), looks := true }, kinds := [], alts := [], laidByText := true, laidKinds := [.data, .data, .data, .sentinel, .sentinel], laidTests := true, laidLooks := .later }
def PlanSoundUptoCardSaid : Prop := Claim7.holds Tryz.pinned (.plain (OpenSpec.upto planSoundSpec)) planSoundUptoCard

/-- THE SECOND FORM's CARD OF 'musterlaw22.SqueezeMoves'. -/
def squeezeMovesUptoCard : Claim7 := { stood := { row := squeezeMovesUptoRow, standIns := [], harness := (true, "dae1aa68f08b665462c7e19f959389dfe4c0d8ff5d812cf9a780a93814aaddea"), looks := true }, kinds := [], alts := [], laidByText := true, laidKinds := [.data, .data, .data, .sentinel, .sentinel], laidTests := true, laidLooks := .later }
def SqueezeMovesUptoCardSaid : Prop := Claim7.holds Tryz.pinned (.plain (OpenSpec.upto squeezeMovesSpec)) squeezeMovesUptoCard

/-- THE SECOND FORM's CARD OF 'musterlaw22.SqueezeLater'. -/
def squeezeLaterUptoCard : Claim7 := { stood := { row := squeezeLaterUptoRow, standIns := [], harness := (true, "dae1aa68f08b665462c7e19f959389dfe4c0d8ff5d812cf9a780a93814aaddea"), looks := true }, kinds := [], alts := [], laidByText := true, laidKinds := [.data, .data, .data, .sentinel, .sentinel], laidTests := true, laidLooks := .later }
def SqueezeLaterUptoCardSaid : Prop := Claim7.holds Tryz.pinned (.plain (OpenSpec.upto squeezeLaterSpec)) squeezeLaterUptoCard

/-- THE SECOND FORM's CARD OF 'musterlaw22.SqueezeNever'. -/
def squeezeNeverUptoCard : Claim7 := { stood := { row := squeezeNeverUptoRow, standIns := [], harness := (true, "dae1aa68f08b665462c7e19f959389dfe4c0d8ff5d812cf9a780a93814aaddea"), looks := true }, kinds := [], alts := [], laidByText := true, laidKinds := [.data, .data, .data, .sentinel, .sentinel], laidTests := true, laidLooks := .later }
def SqueezeNeverUptoCardSaid : Prop := Claim7.holds Tryz.pinned (.plain (OpenSpec.upto squeezeNeverSpec)) squeezeNeverUptoCard

/-- THE SECOND FORM's CARD OF 'musterlaw22.SqueezeSound'. -/
def squeezeSoundUptoCard : Claim7 := { stood := { row := squeezeSoundUptoRow, standIns := [], harness := (true, "dae1aa68f08b665462c7e19f959389dfe4c0d8ff5d812cf9a780a93814aaddea"), looks := true }, kinds := [], alts := [], laidByText := true, laidKinds := [.data, .data, .data, .sentinel, .sentinel], laidTests := true, laidLooks := .later }
def SqueezeSoundUptoCardSaid : Prop := Claim7.holds Tryz.pinned (.plain (OpenSpec.upto squeezeSoundSpec)) squeezeSoundUptoCard

/-- THE SECOND FORM's CARD OF 'musterlaw22.SqueezeDue'. -/
def squeezeDueUptoCard : Claim7 := { stood := { row := squeezeDueUptoRow, standIns := [], harness := (true, "dae1aa68f08b665462c7e19f959389dfe4c0d8ff5d812cf9a780a93814aaddea"), looks := true }, kinds := [], alts := [], laidByText := true, laidKinds := [.data, .data, .data, .sentinel, .sentinel], laidTests := true, laidLooks := .later }
def SqueezeDueUptoCardSaid : Prop := Claim7.holds Tryz.pinned (.plain (OpenSpec.upto squeezeDueSpec)) squeezeDueUptoCard
end Rows
end Go.Proofs.YtjpgfmbccohngaaGreatDoor

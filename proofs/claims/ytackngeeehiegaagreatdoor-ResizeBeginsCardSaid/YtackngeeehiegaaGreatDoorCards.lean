/-
  DERIVED. GIVEN WITH THE SEED: THE CARDS: each row of YtackngeeehiegaaGreatDoorRows.lean that lists a variable, with what it lists TIED to the program's text (the seventh form; the later family's looks); each row that meets fmt, with fmt's text TOLD by the authors' own Lean function (tested against real Go, not proved from fmt's source: count such statements apart). THE CARD IS WHAT COUNTS. Prove the row's statement (the work); the ties are given (YtackngeeehiegaaGreatDoorTie.lean); close each card by the builder's one call (the guide's Derived/Test/ToyasCard.lean, 'card_holds'). Laid BY PROGRAM, IN A SANDBOX (cutbox-door.mjs). By AI agents, Wed Nov 11 2026. No macro, syntax, notation, axiom, sorry.
-/
import Derived.Test.YtackngeeehiegaaGreatDoorRows
import GoSem.ClaimSeven
namespace Go.Proofs.YtackngeeehiegaaGreatDoor
namespace Rows

/-- THE TIED CARD OF 'musterlaw26.ResizeBegins'. -/
def resizeBeginsCard : Claim7 := { stood := { row := resizeBeginsRow, standIns := [], harness := (true, "0d9f5ecd6f9e78159df61c7f547d7bc6bd943f0def6562f313832cbb46e3e19e"), looks := true }, kinds := [], alts := [], laidByText := true, laidKinds := [.data, .data, .data, .sentinel, .sentinel], laidTests := true, laidLooks := .later }
def ResizeBeginsCardSaid : Prop := Claim7.holds Tryz.pinned (.plain (OpenSpec.ofChange resizeBeginsSpec)) resizeBeginsCard

/-- THE TIED CARD OF 'musterlaw26.ResizeSays'. -/
def resizeSaysCard : Claim7 := { stood := { row := resizeSaysRow, standIns := [], harness := (true, "0d9f5ecd6f9e78159df61c7f547d7bc6bd943f0def6562f313832cbb46e3e19e"), looks := true }, kinds := [], alts := [], laidByText := true, laidKinds := [.data, .data, .data, .sentinel, .sentinel], laidTests := true, laidLooks := .later }
def ResizeSaysCardSaid : Prop := Claim7.holds Tryz.pinned (.plain (OpenSpec.ofChange resizeSaysSpec)) resizeSaysCard

/-- THE TIED CARD OF 'musterlaw26.ResizeEnds'. -/
def resizeEndsCard : Claim7 := { stood := { row := resizeEndsRow, standIns := [], harness := (true, "0d9f5ecd6f9e78159df61c7f547d7bc6bd943f0def6562f313832cbb46e3e19e"), looks := true }, kinds := [], alts := [], laidByText := true, laidKinds := [.data, .data, .data, .sentinel, .sentinel], laidTests := true, laidLooks := .later }
def ResizeEndsCardSaid : Prop := Claim7.holds Tryz.pinned (.plain (OpenSpec.ofChange resizeEndsSpec)) resizeEndsCard

/-- THE TIED CARD OF 'musterlaw26.ResizeOne'. -/
def resizeOneCard : Claim7 := { stood := { row := resizeOneRow, standIns := [], harness := (true, "0d9f5ecd6f9e78159df61c7f547d7bc6bd943f0def6562f313832cbb46e3e19e"), looks := true }, kinds := [], alts := [], laidByText := true, laidKinds := [.data, .data, .data, .sentinel, .sentinel], laidTests := true, laidLooks := .later }
def ResizeOneCardSaid : Prop := Claim7.holds Tryz.pinned (.plain (OpenSpec.ofChange resizeOneSpec)) resizeOneCard

/-- THE TIED CARD OF 'musterlaw26.ResizeSound'. -/
def resizeSoundCard : Claim7 := { stood := { row := resizeSoundRow, standIns := [], harness := (true, "0d9f5ecd6f9e78159df61c7f547d7bc6bd943f0def6562f313832cbb46e3e19e"), looks := true }, kinds := [], alts := [], laidByText := true, laidKinds := [.data, .data, .data, .sentinel, .sentinel], laidTests := true, laidLooks := .later }
def ResizeSoundCardSaid : Prop := Claim7.holds Tryz.pinned (.plain (OpenSpec.ofChange resizeSoundSpec)) resizeSoundCard

/-- THE SECOND FORM's CARD OF 'musterlaw26.ResizeBegins'. -/
def resizeBeginsUptoCard : Claim7 := { stood := { row := resizeBeginsUptoRow, standIns := [], harness := (true, "0d9f5ecd6f9e78159df61c7f547d7bc6bd943f0def6562f313832cbb46e3e19e"), looks := true }, kinds := [], alts := [], laidByText := true, laidKinds := [.data, .data, .data, .sentinel, .sentinel], laidTests := true, laidLooks := .later }
def ResizeBeginsUptoCardSaid : Prop := Claim7.holds Tryz.pinned (.plain (OpenSpec.upto resizeBeginsSpec)) resizeBeginsUptoCard

/-- THE SECOND FORM's CARD OF 'musterlaw26.ResizeSays'. -/
def resizeSaysUptoCard : Claim7 := { stood := { row := resizeSaysUptoRow, standIns := [], harness := (true, "0d9f5ecd6f9e78159df61c7f547d7bc6bd943f0def6562f313832cbb46e3e19e"), looks := true }, kinds := [], alts := [], laidByText := true, laidKinds := [.data, .data, .data, .sentinel, .sentinel], laidTests := true, laidLooks := .later }
def ResizeSaysUptoCardSaid : Prop := Claim7.holds Tryz.pinned (.plain (OpenSpec.upto resizeSaysSpec)) resizeSaysUptoCard

/-- THE SECOND FORM's CARD OF 'musterlaw26.ResizeEnds'. -/
def resizeEndsUptoCard : Claim7 := { stood := { row := resizeEndsUptoRow, standIns := [], harness := (true, "0d9f5ecd6f9e78159df61c7f547d7bc6bd943f0def6562f313832cbb46e3e19e"), looks := true }, kinds := [], alts := [], laidByText := true, laidKinds := [.data, .data, .data, .sentinel, .sentinel], laidTests := true, laidLooks := .later }
def ResizeEndsUptoCardSaid : Prop := Claim7.holds Tryz.pinned (.plain (OpenSpec.upto resizeEndsSpec)) resizeEndsUptoCard

/-- THE SECOND FORM's CARD OF 'musterlaw26.ResizeOne'. -/
def resizeOneUptoCard : Claim7 := { stood := { row := resizeOneUptoRow, standIns := [], harness := (true, "0d9f5ecd6f9e78159df61c7f547d7bc6bd943f0def6562f313832cbb46e3e19e"), looks := true }, kinds := [], alts := [], laidByText := true, laidKinds := [.data, .data, .data, .sentinel, .sentinel], laidTests := true, laidLooks := .later }
def ResizeOneUptoCardSaid : Prop := Claim7.holds Tryz.pinned (.plain (OpenSpec.upto resizeOneSpec)) resizeOneUptoCard

/-- THE SECOND FORM's CARD OF 'musterlaw26.ResizeSound'. -/
def resizeSoundUptoCard : Claim7 := { stood := { row := resizeSoundUptoRow, standIns := [], harness := (true, "0d9f5ecd6f9e78159df61c7f547d7bc6bd943f0def6562f313832cbb46e3e19e"), looks := true }, kinds := [], alts := [], laidByText := true, laidKinds := [.data, .data, .data, .sentinel, .sentinel], laidTests := true, laidLooks := .later }
def ResizeSoundUptoCardSaid : Prop := Claim7.holds Tryz.pinned (.plain (OpenSpec.upto resizeSoundSpec)) resizeSoundUptoCard
end Rows
end Go.Proofs.YtackngeeehiegaaGreatDoor

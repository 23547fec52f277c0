/-
  DERIVED. GIVEN WITH THE SEED: THE CARDS: each row of YtigcpfbpmnppcaaGreatDoorRows.lean that lists a variable, with what it lists TIED to the program's text (the seventh form; the later family's looks); each row that meets fmt, with fmt's text TOLD by the authors' own Lean function (tested against real Go, not proved from fmt's source: count such statements apart). THE CARD IS WHAT COUNTS. Prove the row's statement (the work); the ties are given (YtigcpfbpmnppcaaGreatDoorTie.lean); close each card by the builder's one call (the guide's Derived/Test/ToyasCard.lean, 'card_holds'). Laid BY PROGRAM, IN A SANDBOX (cutbox-door.mjs). By AI agents, Wed Nov 11 2026. No macro, syntax, notation, axiom, sorry.
-/
import Derived.Test.YtigcpfbpmnppcaaGreatDoorRows
import GoSem.ClaimSeven
namespace Go.Proofs.YtigcpfbpmnppcaaGreatDoor
namespace Rows

/-- THE TIED CARD OF 'musterlaw27.NagClocks'. -/
def nagClocksCard : Claim7 := { stood := { row := nagClocksRow, standIns := [], harness := (true, "4964f6699f38809c81a54ccce3b2ebc1e47cb2e088c00cbe3e446afb9ed0c671"), looks := true }, kinds := [], alts := [], laidByText := true, laidKinds := [.data, .data, .data, .sentinel, .sentinel], laidTests := true, laidLooks := .later }
def NagClocksCardSaid : Prop := Claim7.holds Tryz.pinned (.plain (OpenSpec.ofChange nagClocksSpec)) nagClocksCard

/-- THE TIED CARD OF 'musterlaw27.NagTells'. -/
def nagTellsCard : Claim7 := { stood := { row := nagTellsRow, standIns := [], harness := (true, "4964f6699f38809c81a54ccce3b2ebc1e47cb2e088c00cbe3e446afb9ed0c671"), looks := true }, kinds := [], alts := [], laidByText := true, laidKinds := [.data, .data, .data, .sentinel, .sentinel], laidTests := true, laidLooks := .later }
def NagTellsCardSaid : Prop := Claim7.holds Tryz.pinned (.plain (OpenSpec.ofChange nagTellsSpec)) nagTellsCard

/-- THE TIED CARD OF 'musterlaw27.NagClock'. -/
def nagClockCard : Claim7 := { stood := { row := nagClockRow, standIns := [], harness := (true, "4964f6699f38809c81a54ccce3b2ebc1e47cb2e088c00cbe3e446afb9ed0c671"), looks := true }, kinds := [], alts := [], laidByText := true, laidKinds := [.data, .data, .data, .sentinel, .sentinel], laidTests := true, laidLooks := .later }
def NagClockCardSaid : Prop := Claim7.holds Tryz.pinned (.plain (OpenSpec.ofChange nagClockSpec)) nagClockCard

/-- THE TIED CARD OF 'musterlaw27.NagOften'. -/
def nagOftenCard : Claim7 := { stood := { row := nagOftenRow, standIns := [], harness := (true, "4964f6699f38809c81a54ccce3b2ebc1e47cb2e088c00cbe3e446afb9ed0c671"), looks := true }, kinds := [], alts := [], laidByText := true, laidKinds := [.data, .data, .data, .sentinel, .sentinel], laidTests := true, laidLooks := .later }
def NagOftenCardSaid : Prop := Claim7.holds Tryz.pinned (.plain (OpenSpec.ofChange nagOftenSpec)) nagOftenCard

/-- THE SECOND FORM's CARD OF 'musterlaw27.NagClocks'. -/
def nagClocksUptoCard : Claim7 := { stood := { row := nagClocksUptoRow, standIns := [], harness := (true, "4964f6699f38809c81a54ccce3b2ebc1e47cb2e088c00cbe3e446afb9ed0c671"), looks := true }, kinds := [], alts := [], laidByText := true, laidKinds := [.data, .data, .data, .sentinel, .sentinel], laidTests := true, laidLooks := .later }
def NagClocksUptoCardSaid : Prop := Claim7.holds Tryz.pinned (.plain (OpenSpec.upto nagClocksSpec)) nagClocksUptoCard

/-- THE SECOND FORM's CARD OF 'musterlaw27.NagTells'. -/
def nagTellsUptoCard : Claim7 := { stood := { row := nagTellsUptoRow, standIns := [], harness := (true, "4964f6699f38809c81a54ccce3b2ebc1e47cb2e088c00cbe3e446afb9ed0c671"), looks := true }, kinds := [], alts := [], laidByText := true, laidKinds := [.data, .data, .data, .sentinel, .sentinel], laidTests := true, laidLooks := .later }
def NagTellsUptoCardSaid : Prop := Claim7.holds Tryz.pinned (.plain (OpenSpec.upto nagTellsSpec)) nagTellsUptoCard

/-- THE SECOND FORM's CARD OF 'musterlaw27.NagClock'. -/
def nagClockUptoCard : Claim7 := { stood := { row := nagClockUptoRow, standIns := [], harness := (true, "4964f6699f38809c81a54ccce3b2ebc1e47cb2e088c00cbe3e446afb9ed0c671"), looks := true }, kinds := [], alts := [], laidByText := true, laidKinds := [.data, .data, .data, .sentinel, .sentinel], laidTests := true, laidLooks := .later }
def NagClockUptoCardSaid : Prop := Claim7.holds Tryz.pinned (.plain (OpenSpec.upto nagClockSpec)) nagClockUptoCard

/-- THE SECOND FORM's CARD OF 'musterlaw27.NagOften'. -/
def nagOftenUptoCard : Claim7 := { stood := { row := nagOftenUptoRow, standIns := [], harness := (true, "4964f6699f38809c81a54ccce3b2ebc1e47cb2e088c00cbe3e446afb9ed0c671"), looks := true }, kinds := [], alts := [], laidByText := true, laidKinds := [.data, .data, .data, .sentinel, .sentinel], laidTests := true, laidLooks := .later }
def NagOftenUptoCardSaid : Prop := Claim7.holds Tryz.pinned (.plain (OpenSpec.upto nagOftenSpec)) nagOftenUptoCard
end Rows
end Go.Proofs.YtigcpfbpmnppcaaGreatDoor

/-
  DERIVED. GIVEN WITH THE SEED: THE CARDS: each row of YtalhamokkblnjaaGreatDoorRows.lean that lists a variable, with what it lists TIED to the program's text (the seventh form; the later family's looks); each row that meets fmt, with fmt's text TOLD by the authors' own Lean function (tested against real Go, not proved from fmt's source: count such statements apart). THE CARD IS WHAT COUNTS. Prove the row's statement (the work); the ties are given (YtalhamokkblnjaaGreatDoorTie.lean); close each card by the builder's one call (the guide's Derived/Test/ToyasCard.lean, 'card_holds'). Laid BY PROGRAM, IN A SANDBOX (cutbox-door.mjs). By AI agents, Wed Nov 11 2026. No macro, syntax, notation, axiom, sorry.
-/
import Derived.Test.YtalhamokkblnjaaGreatDoorRows
import GoSem.ClaimSeven
namespace Go.Proofs.YtalhamokkblnjaaGreatDoor
namespace Rows

/-- THE TIED CARD OF 'musterlaw38.WorldNobody'. -/
def worldNobodyCard : Claim7 := { stood := { row := worldNobodyRow, standIns := [], harness := (true, "21d594b62cabcacb7498eec4bec6dcff759508f23772d65bafcba72e1a5164d6"), looks := true }, kinds := [], alts := [], laidByText := true, laidKinds := [.data, .data, .data, .sentinel, .sentinel], laidTests := true, laidLooks := .later }
def WorldNobodyCardSaid : Prop := Claim7.holds Tryz.pinned (.plain (OpenSpec.ofChange worldNobodySpec)) worldNobodyCard

/-- THE SECOND FORM's CARD OF 'musterlaw38.WorldNobody'. -/
def worldNobodyUptoCard : Claim7 := { stood := { row := worldNobodyUptoRow, standIns := [], harness := (true, "21d594b62cabcacb7498eec4bec6dcff759508f23772d65bafcba72e1a5164d6"), looks := true }, kinds := [], alts := [], laidByText := true, laidKinds := [.data, .data, .data, .sentinel, .sentinel], laidTests := true, laidLooks := .later }
def WorldNobodyUptoCardSaid : Prop := Claim7.holds Tryz.pinned (.plain (OpenSpec.upto worldNobodySpec)) worldNobodyUptoCard
end Rows
end Go.Proofs.YtalhamokkblnjaaGreatDoor

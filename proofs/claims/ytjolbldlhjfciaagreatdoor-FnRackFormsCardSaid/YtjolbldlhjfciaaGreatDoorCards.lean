/-
  DERIVED. GIVEN WITH THE SEED: THE CARDS: each row of YtjolbldlhjfciaaGreatDoorRows.lean that lists a variable, with what it lists TIED to the program's text (the seventh form; the later family's looks); each row that meets fmt, with fmt's text TOLD by the authors' own Lean function (tested against real Go, not proved from fmt's source: count such statements apart). THE CARD IS WHAT COUNTS. Prove the row's statement (the work); the ties are given (YtjolbldlhjfciaaGreatDoorTie.lean); close each card by the builder's one call (the guide's Derived/Test/ToyasCard.lean, 'card_holds'). Laid BY PROGRAM, IN A SANDBOX (cutbox-door.mjs). By AI agents, Wed Nov 11 2026. No macro, syntax, notation, axiom, sorry.
-/
import Derived.Test.YtjolbldlhjfciaaGreatDoorRows
import GoSem.ClaimSeven
namespace Go.Proofs.YtjolbldlhjfciaaGreatDoor
namespace Rows

/-- THE TIED CARD OF 'laws.FnRackForms'. -/
def fnRackFormsCard : Claim7 := { stood := { row := fnRackFormsRow, standIns := [], harness := (true, "4e40ab8dce0697ea10846b62df5150d9e5db40a8a0b95a0aedecc566b6c53b66"), looks := false }, kinds := [], alts := [], laidByText := true, laidKinds := [.data, .pinned], laidTests := true, laidLooks := .later }
def FnRackFormsCardSaid : Prop := Claim7.holds Tryz.pinned (.plain (OpenSpec.ofChange fnRackFormsSpec)) fnRackFormsCard

/-- THE SECOND FORM's CARD OF 'laws.FnRackForms'. -/
def fnRackFormsUptoCard : Claim7 := { stood := { row := fnRackFormsUptoRow, standIns := [], harness := (true, "4e40ab8dce0697ea10846b62df5150d9e5db40a8a0b95a0aedecc566b6c53b66"), looks := false }, kinds := [], alts := [], laidByText := true, laidKinds := [.data, .pinned], laidTests := true, laidLooks := .later }
def FnRackFormsUptoCardSaid : Prop := Claim7.holds Tryz.pinned (.plain (OpenSpec.upto fnRackFormsSpec)) fnRackFormsUptoCard
end Rows
end Go.Proofs.YtjolbldlhjfciaaGreatDoor

/-
  DERIVED. GIVEN WITH THE SEED: THE CARDS: each row of YtjolbldlhjfciaaDoorRows.lean that lists a variable, with what it lists TIED to the program's text (the seventh form; the later family's looks); each row that meets fmt, with fmt's text TOLD by the authors' own Lean function (tested against real Go, not proved from fmt's source: count such statements apart). THE CARD IS WHAT COUNTS. Prove the row's statement (the work); the ties are given (YtjolbldlhjfciaaDoorTie.lean); close each card by the builder's one call (the guide's Derived/Test/ToyasCard.lean, 'card_holds'). Laid BY PROGRAM, IN A SANDBOX (cutbox-door.mjs). By AI agents, Wed Nov 11 2026. No macro, syntax, notation, axiom, sorry.
-/
import Derived.Test.YtjolbldlhjfciaaDoorRows
import GoSem.ClaimSeven
namespace Go.Proofs.YtjolbldlhjfciaaDoor
namespace Rows

/-- THE TIED CARD OF 'laws.FnAffineCycles'. -/
def fnAffineCyclesCard : Claim7 := { stood := { row := fnAffineCyclesRow, standIns := [], harness := (true, "4882fa585d65123c7655bfd5bcd6772432983fae23ff2317228b3513d441b5a1"), looks := false }, kinds := [], alts := [], laidByText := true, laidKinds := [.data, .pinned], laidTests := true, laidLooks := .later }
def FnAffineCyclesCardSaid : Prop := Claim7.holds Tryd.pinned (.plain (OpenSpec.ofChange fnAffineCyclesSpec)) fnAffineCyclesCard

/-- THE SECOND FORM's CARD OF 'laws.FnAffineCycles'. -/
def fnAffineCyclesUptoCard : Claim7 := { stood := { row := fnAffineCyclesUptoRow, standIns := [], harness := (true, "4882fa585d65123c7655bfd5bcd6772432983fae23ff2317228b3513d441b5a1"), looks := false }, kinds := [], alts := [], laidByText := true, laidKinds := [.data, .pinned], laidTests := true, laidLooks := .later }
def FnAffineCyclesUptoCardSaid : Prop := Claim7.holds Tryd.pinned (.plain (OpenSpec.upto fnAffineCyclesSpec)) fnAffineCyclesUptoCard
end Rows
end Go.Proofs.YtjolbldlhjfciaaDoor

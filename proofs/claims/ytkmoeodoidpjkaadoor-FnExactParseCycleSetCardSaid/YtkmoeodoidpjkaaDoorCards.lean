/-
  DERIVED. GIVEN WITH THE SEED: THE CARDS: each row of YtkmoeodoidpjkaaDoorRows.lean that lists a variable, with what it lists TIED to the program's text (the seventh form; the later family's looks); each row that meets fmt, with fmt's text TOLD by the authors' own Lean function (tested against real Go, not proved from fmt's source: count such statements apart). THE CARD IS WHAT COUNTS. Prove the row's statement (the work); the ties are given (YtkmoeodoidpjkaaDoorTie.lean); close each card by the builder's one call (the guide's Derived/Test/ToyasCard.lean, 'card_holds'). Laid BY PROGRAM, IN A SANDBOX (cutbox-door.mjs). By AI agents, Wed Nov 11 2026. No macro, syntax, notation, axiom, sorry.
-/
import Derived.Test.YtkmoeodoidpjkaaDoorRows
import GoSem.ClaimSeven
namespace Go.Proofs.YtkmoeodoidpjkaaDoor
namespace Rows

/-- THE TIED CARD OF 'laws.FnExactParseRack'. -/
def fnExactParseRackCard : Claim7 := { stood := { row := fnExactParseRackRow, standIns := [], harness := (true, "58470259b9ed6ca1e4ee9a0892e9facae7ffbfbd4e9118bdb06bca01f112c4e2"), looks := false }, kinds := [], alts := [], laidByText := true, laidKinds := [.data, .pinned], laidTests := true, laidLooks := .later }
def FnExactParseRackCardSaid : Prop := Claim7.holds Tryd.pinned (.plain (OpenSpec.ofChange fnExactParseRackSpec)) fnExactParseRackCard

/-- THE TIED CARD OF 'laws.FnExactParseCycleSet'. -/
def fnExactParseCycleSetCard : Claim7 := { stood := { row := fnExactParseCycleSetRow, standIns := [], harness := (true, "58470259b9ed6ca1e4ee9a0892e9facae7ffbfbd4e9118bdb06bca01f112c4e2"), looks := false }, kinds := [], alts := [], laidByText := true, laidKinds := [.data, .pinned], laidTests := true, laidLooks := .later }
def FnExactParseCycleSetCardSaid : Prop := Claim7.holds Tryd.pinned (.plain (OpenSpec.ofChange fnExactParseCycleSetSpec)) fnExactParseCycleSetCard

/-- THE SECOND FORM's CARD OF 'laws.FnExactParseRack'. -/
def fnExactParseRackUptoCard : Claim7 := { stood := { row := fnExactParseRackUptoRow, standIns := [], harness := (true, "58470259b9ed6ca1e4ee9a0892e9facae7ffbfbd4e9118bdb06bca01f112c4e2"), looks := false }, kinds := [], alts := [], laidByText := true, laidKinds := [.data, .pinned], laidTests := true, laidLooks := .later }
def FnExactParseRackUptoCardSaid : Prop := Claim7.holds Tryd.pinned (.plain (OpenSpec.upto fnExactParseRackSpec)) fnExactParseRackUptoCard

/-- THE SECOND FORM's CARD OF 'laws.FnExactParseCycleSet'. -/
def fnExactParseCycleSetUptoCard : Claim7 := { stood := { row := fnExactParseCycleSetUptoRow, standIns := [], harness := (true, "58470259b9ed6ca1e4ee9a0892e9facae7ffbfbd4e9118bdb06bca01f112c4e2"), looks := false }, kinds := [], alts := [], laidByText := true, laidKinds := [.data, .pinned], laidTests := true, laidLooks := .later }
def FnExactParseCycleSetUptoCardSaid : Prop := Claim7.holds Tryd.pinned (.plain (OpenSpec.upto fnExactParseCycleSetSpec)) fnExactParseCycleSetUptoCard
end Rows
end Go.Proofs.YtkmoeodoidpjkaaDoor

/-
  No cell of these rows narrows 'for every input' (looked for: loops, veiled, ifaces, maps, wideKeys, modest, calm, conditions, laid).
  DERIVED. THE GIVEN ROWS OF THIS SEAT. 6 by the template 'for every input the law returns true; each argument reads behind the call as it read before'; 0 by the template 'total and deterministic' (their statements: YtbodlnpmplcaoaaTotals.lean).
  GIVEN WITH THE SEED: the statements are not yours to turn. If you find one false, say at which input.
  Laid BY PROGRAM, IN A SANDBOX (cutbox-rows.mjs): the forced cells as the released guide's own fill.sh prints them over the translation 15db957aae23b3e6… (all of the seat's roots in one cut). By AI agents, Wed Nov 11 2026. No macro, syntax, notation, axiom, sorry.
-/
import Derived.Test.YtbodlnpmplcaoaaChecked
import GoSem.Claim
import GoSem.ClaimJoined
import GoSem.ClaimMapViews
import Derived.JoinedTies
import Derived.KernelRfl
namespace Go.Proofs.Ytbodlnpmplcaoaa
/- THE CELL 'sum', in the pinned program and in every row, IS THE sha256 OF THE DUMP (.gsa) THAT YtbodlnpmplcaoaaProg.lean LOADS. Nothing in Lean hashes anything: it is a label: what it is worth is what the hold of that sum in a sandbox is worth. -/
noncomputable def Try.pinned : Pinned := { name := "ytbodlnpmplcaoaa", sum := "15db957aae23b3e680773018bbbd4b20b0278ca1e371ff0c1008385effca14d7", checked := Try.checked }
namespace Rows
def none {H : Type} : Left H := { results := [], args := [] }

/-- 'laws.FnRackParts': WHATEVER THE INPUT: true; the input reads as it did. -/
def fnRackPartsSpec : ChangeSpec := { name := "fnRackParts", fn := fun _ => fun
  | [d] => { results := [.lit (.bool true)], args := [d] }
  | _ => none }
def fnRackPartsRow : OpenClaim := { program := "ytbodlnpmplcaoaa", sum := "15db957aae23b3e680773018bbbd4b20b0278ca1e371ff0c1008385effca14d7", func := "loop.example/g01119/laws.FnRackParts", spec := "fnRackParts", unfollowed := true, recurses := true, apart := false }
def FnRackPartsSaid : Prop := fnRackPartsRow.holds Try.pinned (OpenSpec.ofChange fnRackPartsSpec)

/-- ITS FALSE NEIGHBOUR: 'it returns false'. Refute it at one input. -/
def fnRackPartsWrong : ChangeSpec := { name := "fnRackParts", fn := fun _ => fun
  | [d] => { results := [.lit (.bool false)], args := [d] }
  | _ => none }
def FnRackPartsWrongFalsely : Prop := fnRackPartsRow.holds Try.pinned (OpenSpec.ofChange fnRackPartsWrong)

/-- 'laws.FnRacks': WHATEVER THE INPUT: true; the input reads as it did. -/
def fnRacksSpec : ChangeSpec := { name := "fnRacks", fn := fun _ => fun
  | [d] => { results := [.lit (.bool true)], args := [d] }
  | _ => none }
def fnRacksRow : OpenClaim := { program := "ytbodlnpmplcaoaa", sum := "15db957aae23b3e680773018bbbd4b20b0278ca1e371ff0c1008385effca14d7", func := "loop.example/g01119/laws.FnRacks", spec := "fnRacks", unfollowed := true, recurses := true, apart := false }
def FnRacksSaid : Prop := fnRacksRow.holds Try.pinned (OpenSpec.ofChange fnRacksSpec)

/-- ITS FALSE NEIGHBOUR: 'it returns false'. Refute it at one input. -/
def fnRacksWrong : ChangeSpec := { name := "fnRacks", fn := fun _ => fun
  | [d] => { results := [.lit (.bool false)], args := [d] }
  | _ => none }
def FnRacksWrongFalsely : Prop := fnRacksRow.holds Try.pinned (OpenSpec.ofChange fnRacksWrong)

/-- 'laws.FnRackProducts': WHATEVER THE INPUT: true; the input reads as it did. -/
def fnRackProductsSpec : ChangeSpec := { name := "fnRackProducts", fn := fun _ => fun
  | [d] => { results := [.lit (.bool true)], args := [d] }
  | _ => none }
def fnRackProductsRow : OpenClaim := { program := "ytbodlnpmplcaoaa", sum := "15db957aae23b3e680773018bbbd4b20b0278ca1e371ff0c1008385effca14d7", func := "loop.example/g01119/laws.FnRackProducts", spec := "fnRackProducts", unfollowed := true, recurses := true, apart := false }
def FnRackProductsSaid : Prop := fnRackProductsRow.holds Try.pinned (OpenSpec.ofChange fnRackProductsSpec)

/-- ITS FALSE NEIGHBOUR: 'it returns false'. Refute it at one input. -/
def fnRackProductsWrong : ChangeSpec := { name := "fnRackProducts", fn := fun _ => fun
  | [d] => { results := [.lit (.bool false)], args := [d] }
  | _ => none }
def FnRackProductsWrongFalsely : Prop := fnRackProductsRow.holds Try.pinned (OpenSpec.ofChange fnRackProductsWrong)

/-- 'laws.FnCycleFaults': WHATEVER THE INPUT: true; the input reads as it did. -/
def fnCycleFaultsSpec : ChangeSpec := { name := "fnCycleFaults", fn := fun _ => fun
  | [d] => { results := [.lit (.bool true)], args := [d] }
  | _ => none }
def fnCycleFaultsRow : OpenClaim := { program := "ytbodlnpmplcaoaa", sum := "15db957aae23b3e680773018bbbd4b20b0278ca1e371ff0c1008385effca14d7", func := "loop.example/g01119/laws.FnCycleFaults", spec := "fnCycleFaults", unfollowed := true, recurses := true, apart := false }
def FnCycleFaultsSaid : Prop := fnCycleFaultsRow.holds Try.pinned (OpenSpec.ofChange fnCycleFaultsSpec)

/-- ITS FALSE NEIGHBOUR: 'it returns false'. Refute it at one input. -/
def fnCycleFaultsWrong : ChangeSpec := { name := "fnCycleFaults", fn := fun _ => fun
  | [d] => { results := [.lit (.bool false)], args := [d] }
  | _ => none }
def FnCycleFaultsWrongFalsely : Prop := fnCycleFaultsRow.holds Try.pinned (OpenSpec.ofChange fnCycleFaultsWrong)

/-- 'laws.FnRackQuotients': WHATEVER THE INPUT: true; the input reads as it did. -/
def fnRackQuotientsSpec : ChangeSpec := { name := "fnRackQuotients", fn := fun _ => fun
  | [d] => { results := [.lit (.bool true)], args := [d] }
  | _ => none }
def fnRackQuotientsRow : OpenClaim := { program := "ytbodlnpmplcaoaa", sum := "15db957aae23b3e680773018bbbd4b20b0278ca1e371ff0c1008385effca14d7", func := "loop.example/g01119/laws.FnRackQuotients", spec := "fnRackQuotients", unfollowed := true, recurses := true, apart := false }
def FnRackQuotientsSaid : Prop := fnRackQuotientsRow.holds Try.pinned (OpenSpec.ofChange fnRackQuotientsSpec)

/-- ITS FALSE NEIGHBOUR: 'it returns false'. Refute it at one input. -/
def fnRackQuotientsWrong : ChangeSpec := { name := "fnRackQuotients", fn := fun _ => fun
  | [d] => { results := [.lit (.bool false)], args := [d] }
  | _ => none }
def FnRackQuotientsWrongFalsely : Prop := fnRackQuotientsRow.holds Try.pinned (OpenSpec.ofChange fnRackQuotientsWrong)

/-- 'laws.FnCycleSets': WHATEVER THE INPUT: true; the input reads as it did. -/
def fnCycleSetsSpec : ChangeSpec := { name := "fnCycleSets", fn := fun _ => fun
  | [d] => { results := [.lit (.bool true)], args := [d] }
  | _ => none }
def fnCycleSetsRow : OpenClaim := { program := "ytbodlnpmplcaoaa", sum := "15db957aae23b3e680773018bbbd4b20b0278ca1e371ff0c1008385effca14d7", func := "loop.example/g01119/laws.FnCycleSets", spec := "fnCycleSets", unfollowed := true, recurses := true, apart := false }
def FnCycleSetsSaid : Prop := fnCycleSetsRow.holds Try.pinned (OpenSpec.ofChange fnCycleSetsSpec)

/-- ITS FALSE NEIGHBOUR: 'it returns false'. Refute it at one input. -/
def fnCycleSetsWrong : ChangeSpec := { name := "fnCycleSets", fn := fun _ => fun
  | [d] => { results := [.lit (.bool false)], args := [d] }
  | _ => none }
def FnCycleSetsWrongFalsely : Prop := fnCycleSetsRow.holds Try.pinned (OpenSpec.ofChange fnCycleSetsWrong)

/- THE SECOND FORM. 'bulk': how many values and letters a reading holds, each counted each time it is reached (what is shared counts as often as it is met; a slice's spare places count too). A statement '..UptoSaid' is the law's where the arguments, and the package variables that the reading takes, are together of bulk at most 1048576: NARROWER than '..Said'. Prove '..Said' where nothing that the law and all that it calls make is longer than what came in: it says more and counts as full. Else prove '..UptoSaid'. A law counts once. -/
mutual
def uptoBulk {H : Type} : DataW H → Nat
  | .lit (.string bytes) => bytes.length + 1
  | .lit _ => 1
  | .nil => 1
  | .ptr d => uptoBulk d + 1
  | .slice elems spare => uptoBulkAll elems + uptoBulkAll spare + 1
  | .agg parts => uptoBulkAll parts + 1
  | .iface _ d => uptoBulk d + 1
  | .map entries => uptoBulkEntries entries + 1
  | .held _ => 1
def uptoBulkAll {H : Type} : List (DataW H) → Nat
  | [] => 0
  | d :: r => uptoBulk d + uptoBulkAll r
def uptoBulkEntries {H : Type} : List (Lit × DataW H) → Nat
  | [] => 0
  | x :: r => uptoBulkEntry x + uptoBulkEntries r
def uptoBulkEntry {H : Type} : Lit × DataW H → Nat
  | (.string bytes, d) => bytes.length + uptoBulk d + 1
  | (_, d) => uptoBulk d + 1
 end
def uptoSmall : (H : Type) → List (DataW H) → Bool := fun _ ds => decide (uptoBulkAll ds ≤ 1048576)
def OpenSpec.upto (s : _root_.Go.ChangeSpec) : _root_.Go.OpenSpec := { _root_.Go.OpenSpec.ofChange s with cond := some uptoSmall }

/-- 'laws.FnRackParts', WHERE WHAT IT READS IS OF BULK AT MOST 1048576: true; the input reads as it did. -/
def fnRackPartsUptoRow : OpenClaim := { program := "ytbodlnpmplcaoaa", sum := "15db957aae23b3e680773018bbbd4b20b0278ca1e371ff0c1008385effca14d7", func := "loop.example/g01119/laws.FnRackParts", spec := "fnRackParts", unfollowed := true, recurses := true, apart := false, narrowed := true }
def FnRackPartsUptoSaid : Prop := fnRackPartsUptoRow.holds Try.pinned (OpenSpec.upto fnRackPartsSpec)

/-- 'laws.FnRacks', WHERE WHAT IT READS IS OF BULK AT MOST 1048576: true; the input reads as it did. -/
def fnRacksUptoRow : OpenClaim := { program := "ytbodlnpmplcaoaa", sum := "15db957aae23b3e680773018bbbd4b20b0278ca1e371ff0c1008385effca14d7", func := "loop.example/g01119/laws.FnRacks", spec := "fnRacks", unfollowed := true, recurses := true, apart := false, narrowed := true }
def FnRacksUptoSaid : Prop := fnRacksUptoRow.holds Try.pinned (OpenSpec.upto fnRacksSpec)

/-- 'laws.FnRackProducts', WHERE WHAT IT READS IS OF BULK AT MOST 1048576: true; the input reads as it did. -/
def fnRackProductsUptoRow : OpenClaim := { program := "ytbodlnpmplcaoaa", sum := "15db957aae23b3e680773018bbbd4b20b0278ca1e371ff0c1008385effca14d7", func := "loop.example/g01119/laws.FnRackProducts", spec := "fnRackProducts", unfollowed := true, recurses := true, apart := false, narrowed := true }
def FnRackProductsUptoSaid : Prop := fnRackProductsUptoRow.holds Try.pinned (OpenSpec.upto fnRackProductsSpec)

/-- 'laws.FnCycleFaults', WHERE WHAT IT READS IS OF BULK AT MOST 1048576: true; the input reads as it did. -/
def fnCycleFaultsUptoRow : OpenClaim := { program := "ytbodlnpmplcaoaa", sum := "15db957aae23b3e680773018bbbd4b20b0278ca1e371ff0c1008385effca14d7", func := "loop.example/g01119/laws.FnCycleFaults", spec := "fnCycleFaults", unfollowed := true, recurses := true, apart := false, narrowed := true }
def FnCycleFaultsUptoSaid : Prop := fnCycleFaultsUptoRow.holds Try.pinned (OpenSpec.upto fnCycleFaultsSpec)

/-- 'laws.FnRackQuotients', WHERE WHAT IT READS IS OF BULK AT MOST 1048576: true; the input reads as it did. -/
def fnRackQuotientsUptoRow : OpenClaim := { program := "ytbodlnpmplcaoaa", sum := "15db957aae23b3e680773018bbbd4b20b0278ca1e371ff0c1008385effca14d7", func := "loop.example/g01119/laws.FnRackQuotients", spec := "fnRackQuotients", unfollowed := true, recurses := true, apart := false, narrowed := true }
def FnRackQuotientsUptoSaid : Prop := fnRackQuotientsUptoRow.holds Try.pinned (OpenSpec.upto fnRackQuotientsSpec)

/-- 'laws.FnCycleSets', WHERE WHAT IT READS IS OF BULK AT MOST 1048576: true; the input reads as it did. -/
def fnCycleSetsUptoRow : OpenClaim := { program := "ytbodlnpmplcaoaa", sum := "15db957aae23b3e680773018bbbd4b20b0278ca1e371ff0c1008385effca14d7", func := "loop.example/g01119/laws.FnCycleSets", spec := "fnCycleSets", unfollowed := true, recurses := true, apart := false, narrowed := true }
def FnCycleSetsUptoSaid : Prop := fnCycleSetsUptoRow.holds Try.pinned (OpenSpec.upto fnCycleSetsSpec)

end Rows
end Go.Proofs.Ytbodlnpmplcaoaa

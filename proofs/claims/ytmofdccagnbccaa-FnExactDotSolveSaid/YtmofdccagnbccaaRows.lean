/-
  No cell of these rows narrows 'for every input' (looked for: loops, veiled, ifaces, maps, wideKeys, modest, calm, conditions, laid).
  DERIVED. THE GIVEN ROWS OF THIS SEAT. 12 by the template 'for every input the law returns true; each argument reads behind the call as it read before'; 0 by the template 'total and deterministic' (their statements: YtmofdccagnbccaaTotals.lean).
  GIVEN WITH THE SEED: the statements are not yours to turn. If you find one false, say at which input.
  Laid BY PROGRAM, IN A SANDBOX (cutbox-rows.mjs): the forced cells as the released guide's own fill.sh prints them over the translation 857845b20fd9da21… (all of the seat's roots in one cut). By AI agents, Wed Nov 11 2026. No macro, syntax, notation, axiom, sorry.
-/
import Derived.Test.YtmofdccagnbccaaChecked
import GoSem.Claim
import GoSem.ClaimJoined
import GoSem.ClaimMapViews
import Derived.JoinedTies
import Derived.KernelRfl
namespace Go.Proofs.Ytmofdccagnbccaa
/- THE CELL 'sum', in the pinned program and in every row, IS THE sha256 OF THE DUMP (.gsa) THAT YtmofdccagnbccaaProg.lean LOADS. Nothing in Lean hashes anything: it is a label: what it is worth is what the hold of that sum in a sandbox is worth. -/
noncomputable def Try.pinned : Pinned := { name := "ytmofdccagnbccaa", sum := "857845b20fd9da214687d44ab4bff4f92f5eb978508557b7311b3caed7534caf", checked := Try.checked }
namespace Rows
def none {H : Type} : Left H := { results := [], args := [] }

/-- 'laws.FnExactDihedralQuandle': WHATEVER THE INPUT: true; the input reads as it did. -/
def fnExactDihedralQuandleSpec : ChangeSpec := { name := "fnExactDihedralQuandle", fn := fun _ => fun
  | [d] => { results := [.lit (.bool true)], args := [d] }
  | _ => none }
def fnExactDihedralQuandleRow : OpenClaim := { program := "ytmofdccagnbccaa", sum := "857845b20fd9da214687d44ab4bff4f92f5eb978508557b7311b3caed7534caf", func := "loop.example/g01119/laws.FnExactDihedralQuandle", spec := "fnExactDihedralQuandle", unfollowed := true, recurses := true, apart := false }
def FnExactDihedralQuandleSaid : Prop := fnExactDihedralQuandleRow.holds Try.pinned (OpenSpec.ofChange fnExactDihedralQuandleSpec)

/-- ITS FALSE NEIGHBOUR: 'it returns false'. Refute it at one input. -/
def fnExactDihedralQuandleWrong : ChangeSpec := { name := "fnExactDihedralQuandle", fn := fun _ => fun
  | [d] => { results := [.lit (.bool false)], args := [d] }
  | _ => none }
def FnExactDihedralQuandleWrongFalsely : Prop := fnExactDihedralQuandleRow.holds Try.pinned (OpenSpec.ofChange fnExactDihedralQuandleWrong)

/-- 'laws.FnExactTrivialRack': WHATEVER THE INPUT: true; the input reads as it did. -/
def fnExactTrivialRackSpec : ChangeSpec := { name := "fnExactTrivialRack", fn := fun _ => fun
  | [d] => { results := [.lit (.bool true)], args := [d] }
  | _ => none }
def fnExactTrivialRackRow : OpenClaim := { program := "ytmofdccagnbccaa", sum := "857845b20fd9da214687d44ab4bff4f92f5eb978508557b7311b3caed7534caf", func := "loop.example/g01119/laws.FnExactTrivialRack", spec := "fnExactTrivialRack", unfollowed := true, recurses := true, apart := false }
def FnExactTrivialRackSaid : Prop := fnExactTrivialRackRow.holds Try.pinned (OpenSpec.ofChange fnExactTrivialRackSpec)

/-- ITS FALSE NEIGHBOUR: 'it returns false'. Refute it at one input. -/
def fnExactTrivialRackWrong : ChangeSpec := { name := "fnExactTrivialRack", fn := fun _ => fun
  | [d] => { results := [.lit (.bool false)], args := [d] }
  | _ => none }
def FnExactTrivialRackWrongFalsely : Prop := fnExactTrivialRackRow.holds Try.pinned (OpenSpec.ofChange fnExactTrivialRackWrong)

/-- 'laws.FnExactAlexanderQuandle': WHATEVER THE INPUT: true; the input reads as it did. -/
def fnExactAlexanderQuandleSpec : ChangeSpec := { name := "fnExactAlexanderQuandle", fn := fun _ => fun
  | [d1, d2] => { results := [.lit (.bool true)], args := [d1, d2] }
  | _ => none }
def fnExactAlexanderQuandleRow : OpenClaim := { program := "ytmofdccagnbccaa", sum := "857845b20fd9da214687d44ab4bff4f92f5eb978508557b7311b3caed7534caf", func := "loop.example/g01119/laws.FnExactAlexanderQuandle", spec := "fnExactAlexanderQuandle", unfollowed := true, recurses := true, apart := false }
def FnExactAlexanderQuandleSaid : Prop := fnExactAlexanderQuandleRow.holds Try.pinned (OpenSpec.ofChange fnExactAlexanderQuandleSpec)

/-- ITS FALSE NEIGHBOUR: 'it returns false'. Refute it at one input. -/
def fnExactAlexanderQuandleWrong : ChangeSpec := { name := "fnExactAlexanderQuandle", fn := fun _ => fun
  | [d1, d2] => { results := [.lit (.bool false)], args := [d1, d2] }
  | _ => none }
def FnExactAlexanderQuandleWrongFalsely : Prop := fnExactAlexanderQuandleRow.holds Try.pinned (OpenSpec.ofChange fnExactAlexanderQuandleWrong)

/-- 'laws.FnExactPermutationRack': WHATEVER THE INPUT: true; the input reads as it did. -/
def fnExactPermutationRackSpec : ChangeSpec := { name := "fnExactPermutationRack", fn := fun _ => fun
  | [d] => { results := [.lit (.bool true)], args := [d] }
  | _ => none }
def fnExactPermutationRackRow : OpenClaim := { program := "ytmofdccagnbccaa", sum := "857845b20fd9da214687d44ab4bff4f92f5eb978508557b7311b3caed7534caf", func := "loop.example/g01119/laws.FnExactPermutationRack", spec := "fnExactPermutationRack", unfollowed := true, recurses := true, apart := false }
def FnExactPermutationRackSaid : Prop := fnExactPermutationRackRow.holds Try.pinned (OpenSpec.ofChange fnExactPermutationRackSpec)

/-- ITS FALSE NEIGHBOUR: 'it returns false'. Refute it at one input. -/
def fnExactPermutationRackWrong : ChangeSpec := { name := "fnExactPermutationRack", fn := fun _ => fun
  | [d] => { results := [.lit (.bool false)], args := [d] }
  | _ => none }
def FnExactPermutationRackWrongFalsely : Prop := fnExactPermutationRackRow.holds Try.pinned (OpenSpec.ofChange fnExactPermutationRackWrong)

/-- 'laws.FnExactSquaresOf': WHATEVER THE INPUT: true; the input reads as it did. -/
def fnExactSquaresOfSpec : ChangeSpec := { name := "fnExactSquaresOf", fn := fun _ => fun
  | [d] => { results := [.lit (.bool true)], args := [d] }
  | _ => none }
def fnExactSquaresOfRow : OpenClaim := { program := "ytmofdccagnbccaa", sum := "857845b20fd9da214687d44ab4bff4f92f5eb978508557b7311b3caed7534caf", func := "loop.example/g01119/laws.FnExactSquaresOf", spec := "fnExactSquaresOf", unfollowed := true, recurses := true, apart := false }
def FnExactSquaresOfSaid : Prop := fnExactSquaresOfRow.holds Try.pinned (OpenSpec.ofChange fnExactSquaresOfSpec)

/-- ITS FALSE NEIGHBOUR: 'it returns false'. Refute it at one input. -/
def fnExactSquaresOfWrong : ChangeSpec := { name := "fnExactSquaresOf", fn := fun _ => fun
  | [d] => { results := [.lit (.bool false)], args := [d] }
  | _ => none }
def FnExactSquaresOfWrongFalsely : Prop := fnExactSquaresOfRow.holds Try.pinned (OpenSpec.ofChange fnExactSquaresOfWrong)

/-- 'laws.FnExactCycleFault': WHATEVER THE INPUT: true; the input reads as it did. -/
def fnExactCycleFaultSpec : ChangeSpec := { name := "fnExactCycleFault", fn := fun _ => fun
  | [d] => { results := [.lit (.bool true)], args := [d] }
  | _ => none }
def fnExactCycleFaultRow : OpenClaim := { program := "ytmofdccagnbccaa", sum := "857845b20fd9da214687d44ab4bff4f92f5eb978508557b7311b3caed7534caf", func := "loop.example/g01119/laws.FnExactCycleFault", spec := "fnExactCycleFault", unfollowed := true, recurses := true, apart := false }
def FnExactCycleFaultSaid : Prop := fnExactCycleFaultRow.holds Try.pinned (OpenSpec.ofChange fnExactCycleFaultSpec)

/-- ITS FALSE NEIGHBOUR: 'it returns false'. Refute it at one input. -/
def fnExactCycleFaultWrong : ChangeSpec := { name := "fnExactCycleFault", fn := fun _ => fun
  | [d] => { results := [.lit (.bool false)], args := [d] }
  | _ => none }
def FnExactCycleFaultWrongFalsely : Prop := fnExactCycleFaultRow.holds Try.pinned (OpenSpec.ofChange fnExactCycleFaultWrong)

/-- 'laws.FnConjugations': WHATEVER THE INPUT: true; the input reads as it did. -/
def fnConjugationsSpec : ChangeSpec := { name := "fnConjugations", fn := fun _ => fun
  | [d] => { results := [.lit (.bool true)], args := [d] }
  | _ => none }
def fnConjugationsRow : OpenClaim := { program := "ytmofdccagnbccaa", sum := "857845b20fd9da214687d44ab4bff4f92f5eb978508557b7311b3caed7534caf", func := "loop.example/g01119/laws.FnConjugations", spec := "fnConjugations", unfollowed := true, recurses := true, apart := false }
def FnConjugationsSaid : Prop := fnConjugationsRow.holds Try.pinned (OpenSpec.ofChange fnConjugationsSpec)

/-- ITS FALSE NEIGHBOUR: 'it returns false'. Refute it at one input. -/
def fnConjugationsWrong : ChangeSpec := { name := "fnConjugations", fn := fun _ => fun
  | [d] => { results := [.lit (.bool false)], args := [d] }
  | _ => none }
def FnConjugationsWrongFalsely : Prop := fnConjugationsRow.holds Try.pinned (OpenSpec.ofChange fnConjugationsWrong)

/-- 'laws.FnExactIsCycleSet': WHATEVER THE INPUT: true; the input reads as it did. -/
def fnExactIsCycleSetSpec : ChangeSpec := { name := "fnExactIsCycleSet", fn := fun _ => fun
  | [d] => { results := [.lit (.bool true)], args := [d] }
  | _ => none }
def fnExactIsCycleSetRow : OpenClaim := { program := "ytmofdccagnbccaa", sum := "857845b20fd9da214687d44ab4bff4f92f5eb978508557b7311b3caed7534caf", func := "loop.example/g01119/laws.FnExactIsCycleSet", spec := "fnExactIsCycleSet", unfollowed := true, recurses := true, apart := false }
def FnExactIsCycleSetSaid : Prop := fnExactIsCycleSetRow.holds Try.pinned (OpenSpec.ofChange fnExactIsCycleSetSpec)

/-- ITS FALSE NEIGHBOUR: 'it returns false'. Refute it at one input. -/
def fnExactIsCycleSetWrong : ChangeSpec := { name := "fnExactIsCycleSet", fn := fun _ => fun
  | [d] => { results := [.lit (.bool false)], args := [d] }
  | _ => none }
def FnExactIsCycleSetWrongFalsely : Prop := fnExactIsCycleSetRow.holds Try.pinned (OpenSpec.ofChange fnExactIsCycleSetWrong)

/-- 'laws.FnExactDotPower': WHATEVER THE INPUT: true; the input reads as it did. -/
def fnExactDotPowerSpec : ChangeSpec := { name := "fnExactDotPower", fn := fun _ => fun
  | [d1, d2, d3] => { results := [.lit (.bool true)], args := [d1, d2, d3] }
  | _ => none }
def fnExactDotPowerRow : OpenClaim := { program := "ytmofdccagnbccaa", sum := "857845b20fd9da214687d44ab4bff4f92f5eb978508557b7311b3caed7534caf", func := "loop.example/g01119/laws.FnExactDotPower", spec := "fnExactDotPower", unfollowed := true, recurses := true, apart := false }
def FnExactDotPowerSaid : Prop := fnExactDotPowerRow.holds Try.pinned (OpenSpec.ofChange fnExactDotPowerSpec)

/-- ITS FALSE NEIGHBOUR: 'it returns false'. Refute it at one input. -/
def fnExactDotPowerWrong : ChangeSpec := { name := "fnExactDotPower", fn := fun _ => fun
  | [d1, d2, d3] => { results := [.lit (.bool false)], args := [d1, d2, d3] }
  | _ => none }
def FnExactDotPowerWrongFalsely : Prop := fnExactDotPowerRow.holds Try.pinned (OpenSpec.ofChange fnExactDotPowerWrong)

/-- 'laws.FnExactRackFault': WHATEVER THE INPUT: true; the input reads as it did. -/
def fnExactRackFaultSpec : ChangeSpec := { name := "fnExactRackFault", fn := fun _ => fun
  | [d] => { results := [.lit (.bool true)], args := [d] }
  | _ => none }
def fnExactRackFaultRow : OpenClaim := { program := "ytmofdccagnbccaa", sum := "857845b20fd9da214687d44ab4bff4f92f5eb978508557b7311b3caed7534caf", func := "loop.example/g01119/laws.FnExactRackFault", spec := "fnExactRackFault", unfollowed := true, recurses := true, apart := false }
def FnExactRackFaultSaid : Prop := fnExactRackFaultRow.holds Try.pinned (OpenSpec.ofChange fnExactRackFaultSpec)

/-- ITS FALSE NEIGHBOUR: 'it returns false'. Refute it at one input. -/
def fnExactRackFaultWrong : ChangeSpec := { name := "fnExactRackFault", fn := fun _ => fun
  | [d] => { results := [.lit (.bool false)], args := [d] }
  | _ => none }
def FnExactRackFaultWrongFalsely : Prop := fnExactRackFaultRow.holds Try.pinned (OpenSpec.ofChange fnExactRackFaultWrong)

/-- 'laws.FnExactDotSolve': WHATEVER THE INPUT: true; the input reads as it did. -/
def fnExactDotSolveSpec : ChangeSpec := { name := "fnExactDotSolve", fn := fun _ => fun
  | [d1, d2, d3] => { results := [.lit (.bool true)], args := [d1, d2, d3] }
  | _ => none }
def fnExactDotSolveRow : OpenClaim := { program := "ytmofdccagnbccaa", sum := "857845b20fd9da214687d44ab4bff4f92f5eb978508557b7311b3caed7534caf", func := "loop.example/g01119/laws.FnExactDotSolve", spec := "fnExactDotSolve", unfollowed := true, recurses := true, apart := false }
def FnExactDotSolveSaid : Prop := fnExactDotSolveRow.holds Try.pinned (OpenSpec.ofChange fnExactDotSolveSpec)

/-- ITS FALSE NEIGHBOUR: 'it returns false'. Refute it at one input. -/
def fnExactDotSolveWrong : ChangeSpec := { name := "fnExactDotSolve", fn := fun _ => fun
  | [d1, d2, d3] => { results := [.lit (.bool false)], args := [d1, d2, d3] }
  | _ => none }
def FnExactDotSolveWrongFalsely : Prop := fnExactDotSolveRow.holds Try.pinned (OpenSpec.ofChange fnExactDotSolveWrong)

/-- 'laws.FnExactIsFaithfulRack': WHATEVER THE INPUT: true; the input reads as it did. -/
def fnExactIsFaithfulRackSpec : ChangeSpec := { name := "fnExactIsFaithfulRack", fn := fun _ => fun
  | [d] => { results := [.lit (.bool true)], args := [d] }
  | _ => none }
def fnExactIsFaithfulRackRow : OpenClaim := { program := "ytmofdccagnbccaa", sum := "857845b20fd9da214687d44ab4bff4f92f5eb978508557b7311b3caed7534caf", func := "loop.example/g01119/laws.FnExactIsFaithfulRack", spec := "fnExactIsFaithfulRack", unfollowed := true, recurses := true, apart := false }
def FnExactIsFaithfulRackSaid : Prop := fnExactIsFaithfulRackRow.holds Try.pinned (OpenSpec.ofChange fnExactIsFaithfulRackSpec)

/-- ITS FALSE NEIGHBOUR: 'it returns false'. Refute it at one input. -/
def fnExactIsFaithfulRackWrong : ChangeSpec := { name := "fnExactIsFaithfulRack", fn := fun _ => fun
  | [d] => { results := [.lit (.bool false)], args := [d] }
  | _ => none }
def FnExactIsFaithfulRackWrongFalsely : Prop := fnExactIsFaithfulRackRow.holds Try.pinned (OpenSpec.ofChange fnExactIsFaithfulRackWrong)

/- THE SECOND FORM. 'bulk': how many values and letters a reading holds, each counted each time it is reached (what is shared counts as often as it is met; a slice's spare places count too). A statement '..UptoSaid' is the law's where the arguments, and the package variables that the reading takes, are together of bulk at most 1048576: NARROWER than '..Said'. Prove '..Said' where nothing that the law and all that it calls make is longer than what came in: it says more and counts as full. Else prove '..UptoSaid'. A law counts once. -/
mutual
def uptoBulk {H : Type} : DataW H → Nat
  | .lit (.string bytes) => bytes.length + 1
  | .lit _ => 1
  | .nil => 1
  | .ptr d => uptoBulk d + 1
  | .slice elems spare => uptoBulkAll elems + uptoBulkAll spare + 1
  | .agg parts => uptoBulkAll parts + 1
  | .iface _ d => uptoBulk d + 1
  | .map entries => uptoBulkEntries entries + 1
  | .held _ => 1
def uptoBulkAll {H : Type} : List (DataW H) → Nat
  | [] => 0
  | d :: r => uptoBulk d + uptoBulkAll r
def uptoBulkEntries {H : Type} : List (Lit × DataW H) → Nat
  | [] => 0
  | x :: r => uptoBulkEntry x + uptoBulkEntries r
def uptoBulkEntry {H : Type} : Lit × DataW H → Nat
  | (.string bytes, d) => bytes.length + uptoBulk d + 1
  | (_, d) => uptoBulk d + 1
 end
def uptoSmall : (H : Type) → List (DataW H) → Bool := fun _ ds => decide (uptoBulkAll ds ≤ 1048576)
def OpenSpec.upto (s : _root_.Go.ChangeSpec) : _root_.Go.OpenSpec := { _root_.Go.OpenSpec.ofChange s with cond := some uptoSmall }

/-- 'laws.FnExactDihedralQuandle', WHERE WHAT IT READS IS OF BULK AT MOST 1048576: true; the input reads as it did. -/
def fnExactDihedralQuandleUptoRow : OpenClaim := { program := "ytmofdccagnbccaa", sum := "857845b20fd9da214687d44ab4bff4f92f5eb978508557b7311b3caed7534caf", func := "loop.example/g01119/laws.FnExactDihedralQuandle", spec := "fnExactDihedralQuandle", unfollowed := true, recurses := true, apart := false, narrowed := true }
def FnExactDihedralQuandleUptoSaid : Prop := fnExactDihedralQuandleUptoRow.holds Try.pinned (OpenSpec.upto fnExactDihedralQuandleSpec)

/-- 'laws.FnExactTrivialRack', WHERE WHAT IT READS IS OF BULK AT MOST 1048576: true; the input reads as it did. -/
def fnExactTrivialRackUptoRow : OpenClaim := { program := "ytmofdccagnbccaa", sum := "857845b20fd9da214687d44ab4bff4f92f5eb978508557b7311b3caed7534caf", func := "loop.example/g01119/laws.FnExactTrivialRack", spec := "fnExactTrivialRack", unfollowed := true, recurses := true, apart := false, narrowed := true }
def FnExactTrivialRackUptoSaid : Prop := fnExactTrivialRackUptoRow.holds Try.pinned (OpenSpec.upto fnExactTrivialRackSpec)

/-- 'laws.FnExactAlexanderQuandle', WHERE WHAT IT READS IS OF BULK AT MOST 1048576: true; the input reads as it did. -/
def fnExactAlexanderQuandleUptoRow : OpenClaim := { program := "ytmofdccagnbccaa", sum := "857845b20fd9da214687d44ab4bff4f92f5eb978508557b7311b3caed7534caf", func := "loop.example/g01119/laws.FnExactAlexanderQuandle", spec := "fnExactAlexanderQuandle", unfollowed := true, recurses := true, apart := false, narrowed := true }
def FnExactAlexanderQuandleUptoSaid : Prop := fnExactAlexanderQuandleUptoRow.holds Try.pinned (OpenSpec.upto fnExactAlexanderQuandleSpec)

/-- 'laws.FnExactPermutationRack', WHERE WHAT IT READS IS OF BULK AT MOST 1048576: true; the input reads as it did. -/
def fnExactPermutationRackUptoRow : OpenClaim := { program := "ytmofdccagnbccaa", sum := "857845b20fd9da214687d44ab4bff4f92f5eb978508557b7311b3caed7534caf", func := "loop.example/g01119/laws.FnExactPermutationRack", spec := "fnExactPermutationRack", unfollowed := true, recurses := true, apart := false, narrowed := true }
def FnExactPermutationRackUptoSaid : Prop := fnExactPermutationRackUptoRow.holds Try.pinned (OpenSpec.upto fnExactPermutationRackSpec)

/-- 'laws.FnExactSquaresOf', WHERE WHAT IT READS IS OF BULK AT MOST 1048576: true; the input reads as it did. -/
def fnExactSquaresOfUptoRow : OpenClaim := { program := "ytmofdccagnbccaa", sum := "857845b20fd9da214687d44ab4bff4f92f5eb978508557b7311b3caed7534caf", func := "loop.example/g01119/laws.FnExactSquaresOf", spec := "fnExactSquaresOf", unfollowed := true, recurses := true, apart := false, narrowed := true }
def FnExactSquaresOfUptoSaid : Prop := fnExactSquaresOfUptoRow.holds Try.pinned (OpenSpec.upto fnExactSquaresOfSpec)

/-- 'laws.FnExactCycleFault', WHERE WHAT IT READS IS OF BULK AT MOST 1048576: true; the input reads as it did. -/
def fnExactCycleFaultUptoRow : OpenClaim := { program := "ytmofdccagnbccaa", sum := "857845b20fd9da214687d44ab4bff4f92f5eb978508557b7311b3caed7534caf", func := "loop.example/g01119/laws.FnExactCycleFault", spec := "fnExactCycleFault", unfollowed := true, recurses := true, apart := false, narrowed := true }
def FnExactCycleFaultUptoSaid : Prop := fnExactCycleFaultUptoRow.holds Try.pinned (OpenSpec.upto fnExactCycleFaultSpec)

/-- 'laws.FnConjugations', WHERE WHAT IT READS IS OF BULK AT MOST 1048576: true; the input reads as it did. -/
def fnConjugationsUptoRow : OpenClaim := { program := "ytmofdccagnbccaa", sum := "857845b20fd9da214687d44ab4bff4f92f5eb978508557b7311b3caed7534caf", func := "loop.example/g01119/laws.FnConjugations", spec := "fnConjugations", unfollowed := true, recurses := true, apart := false, narrowed := true }
def FnConjugationsUptoSaid : Prop := fnConjugationsUptoRow.holds Try.pinned (OpenSpec.upto fnConjugationsSpec)

/-- 'laws.FnExactIsCycleSet', WHERE WHAT IT READS IS OF BULK AT MOST 1048576: true; the input reads as it did. -/
def fnExactIsCycleSetUptoRow : OpenClaim := { program := "ytmofdccagnbccaa", sum := "857845b20fd9da214687d44ab4bff4f92f5eb978508557b7311b3caed7534caf", func := "loop.example/g01119/laws.FnExactIsCycleSet", spec := "fnExactIsCycleSet", unfollowed := true, recurses := true, apart := false, narrowed := true }
def FnExactIsCycleSetUptoSaid : Prop := fnExactIsCycleSetUptoRow.holds Try.pinned (OpenSpec.upto fnExactIsCycleSetSpec)

/-- 'laws.FnExactDotPower', WHERE WHAT IT READS IS OF BULK AT MOST 1048576: true; the input reads as it did. -/
def fnExactDotPowerUptoRow : OpenClaim := { program := "ytmofdccagnbccaa", sum := "857845b20fd9da214687d44ab4bff4f92f5eb978508557b7311b3caed7534caf", func := "loop.example/g01119/laws.FnExactDotPower", spec := "fnExactDotPower", unfollowed := true, recurses := true, apart := false, narrowed := true }
def FnExactDotPowerUptoSaid : Prop := fnExactDotPowerUptoRow.holds Try.pinned (OpenSpec.upto fnExactDotPowerSpec)

/-- 'laws.FnExactRackFault', WHERE WHAT IT READS IS OF BULK AT MOST 1048576: true; the input reads as it did. -/
def fnExactRackFaultUptoRow : OpenClaim := { program := "ytmofdccagnbccaa", sum := "857845b20fd9da214687d44ab4bff4f92f5eb978508557b7311b3caed7534caf", func := "loop.example/g01119/laws.FnExactRackFault", spec := "fnExactRackFault", unfollowed := true, recurses := true, apart := false, narrowed := true }
def FnExactRackFaultUptoSaid : Prop := fnExactRackFaultUptoRow.holds Try.pinned (OpenSpec.upto fnExactRackFaultSpec)

/-- 'laws.FnExactDotSolve', WHERE WHAT IT READS IS OF BULK AT MOST 1048576: true; the input reads as it did. -/
def fnExactDotSolveUptoRow : OpenClaim := { program := "ytmofdccagnbccaa", sum := "857845b20fd9da214687d44ab4bff4f92f5eb978508557b7311b3caed7534caf", func := "loop.example/g01119/laws.FnExactDotSolve", spec := "fnExactDotSolve", unfollowed := true, recurses := true, apart := false, narrowed := true }
def FnExactDotSolveUptoSaid : Prop := fnExactDotSolveUptoRow.holds Try.pinned (OpenSpec.upto fnExactDotSolveSpec)

/-- 'laws.FnExactIsFaithfulRack', WHERE WHAT IT READS IS OF BULK AT MOST 1048576: true; the input reads as it did. -/
def fnExactIsFaithfulRackUptoRow : OpenClaim := { program := "ytmofdccagnbccaa", sum := "857845b20fd9da214687d44ab4bff4f92f5eb978508557b7311b3caed7534caf", func := "loop.example/g01119/laws.FnExactIsFaithfulRack", spec := "fnExactIsFaithfulRack", unfollowed := true, recurses := true, apart := false, narrowed := true }
def FnExactIsFaithfulRackUptoSaid : Prop := fnExactIsFaithfulRackUptoRow.holds Try.pinned (OpenSpec.upto fnExactIsFaithfulRackSpec)

end Rows
end Go.Proofs.Ytmofdccagnbccaa

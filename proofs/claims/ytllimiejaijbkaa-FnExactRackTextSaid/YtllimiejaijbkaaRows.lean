/-
  No cell of these rows narrows 'for every input' (looked for: loops, veiled, ifaces, maps, wideKeys, modest, calm, conditions, laid).
  DERIVED. THE GIVEN ROWS OF THIS SEAT. 12 by the template 'for every input the law returns true; each argument reads behind the call as it read before'; 0 by the template 'total and deterministic' (their statements: YtllimiejaijbkaaTotals.lean).
  GIVEN WITH THE SEED: the statements are not yours to turn. If you find one false, say at which input.
  Laid BY PROGRAM, IN A SANDBOX (cutbox-rows.mjs): the forced cells as the released guide's own fill.sh prints them over the translation 4347f017d0ec09d7… (all of the seat's roots in one cut). By AI agents, Wed Nov 11 2026. No macro, syntax, notation, axiom, sorry.
-/
import Derived.Test.YtllimiejaijbkaaChecked
import GoSem.Claim
import GoSem.ClaimJoined
import GoSem.ClaimMapViews
import Derived.JoinedTies
import Derived.KernelRfl
namespace Go.Proofs.Ytllimiejaijbkaa
/- THE CELL 'sum', in the pinned program and in every row, IS THE sha256 OF THE DUMP (.gsa) THAT YtllimiejaijbkaaProg.lean LOADS. Nothing in Lean hashes anything: it is a label: what it is worth is what the hold of that sum in a sandbox is worth. -/
noncomputable def Try.pinned : Pinned := { name := "ytllimiejaijbkaa", sum := "4347f017d0ec09d77b8789e71dc0adecaf2c2e3b16a6f0af16dd259cef0c8feb", checked := Try.checked }
namespace Rows
def none {H : Type} : Left H := { results := [], args := [] }

/-- 'laws.FnExactConjugationQuandle': WHATEVER THE INPUT: true; the input reads as it did. -/
def fnExactConjugationQuandleSpec : ChangeSpec := { name := "fnExactConjugationQuandle", fn := fun _ => fun
  | [d] => { results := [.lit (.bool true)], args := [d] }
  | _ => none }
def fnExactConjugationQuandleRow : OpenClaim := { program := "ytllimiejaijbkaa", sum := "4347f017d0ec09d77b8789e71dc0adecaf2c2e3b16a6f0af16dd259cef0c8feb", func := "loop.example/g01119/laws.FnExactConjugationQuandle", spec := "fnExactConjugationQuandle", unfollowed := true, recurses := true, apart := false }
def FnExactConjugationQuandleSaid : Prop := fnExactConjugationQuandleRow.holds Try.pinned (OpenSpec.ofChange fnExactConjugationQuandleSpec)

/-- ITS FALSE NEIGHBOUR: 'it returns false'. Refute it at one input. -/
def fnExactConjugationQuandleWrong : ChangeSpec := { name := "fnExactConjugationQuandle", fn := fun _ => fun
  | [d] => { results := [.lit (.bool false)], args := [d] }
  | _ => none }
def FnExactConjugationQuandleWrongFalsely : Prop := fnExactConjugationQuandleRow.holds Try.pinned (OpenSpec.ofChange fnExactConjugationQuandleWrong)

/-- 'laws.FnExactRackSolution': WHATEVER THE INPUT: true; the input reads as it did. -/
def fnExactRackSolutionSpec : ChangeSpec := { name := "fnExactRackSolution", fn := fun _ => fun
  | [d] => { results := [.lit (.bool true)], args := [d] }
  | _ => none }
def fnExactRackSolutionRow : OpenClaim := { program := "ytllimiejaijbkaa", sum := "4347f017d0ec09d77b8789e71dc0adecaf2c2e3b16a6f0af16dd259cef0c8feb", func := "loop.example/g01119/laws.FnExactRackSolution", spec := "fnExactRackSolution", unfollowed := true, recurses := true, apart := false }
def FnExactRackSolutionSaid : Prop := fnExactRackSolutionRow.holds Try.pinned (OpenSpec.ofChange fnExactRackSolutionSpec)

/-- ITS FALSE NEIGHBOUR: 'it returns false'. Refute it at one input. -/
def fnExactRackSolutionWrong : ChangeSpec := { name := "fnExactRackSolution", fn := fun _ => fun
  | [d] => { results := [.lit (.bool false)], args := [d] }
  | _ => none }
def FnExactRackSolutionWrongFalsely : Prop := fnExactRackSolutionRow.holds Try.pinned (OpenSpec.ofChange fnExactRackSolutionWrong)

/-- 'laws.FnExactInnerOrder': WHATEVER THE INPUT: true; the input reads as it did. -/
def fnExactInnerOrderSpec : ChangeSpec := { name := "fnExactInnerOrder", fn := fun _ => fun
  | [d] => { results := [.lit (.bool true)], args := [d] }
  | _ => none }
def fnExactInnerOrderRow : OpenClaim := { program := "ytllimiejaijbkaa", sum := "4347f017d0ec09d77b8789e71dc0adecaf2c2e3b16a6f0af16dd259cef0c8feb", func := "loop.example/g01119/laws.FnExactInnerOrder", spec := "fnExactInnerOrder", unfollowed := true, recurses := true, apart := false }
def FnExactInnerOrderSaid : Prop := fnExactInnerOrderRow.holds Try.pinned (OpenSpec.ofChange fnExactInnerOrderSpec)

/-- ITS FALSE NEIGHBOUR: 'it returns false'. Refute it at one input. -/
def fnExactInnerOrderWrong : ChangeSpec := { name := "fnExactInnerOrder", fn := fun _ => fun
  | [d] => { results := [.lit (.bool false)], args := [d] }
  | _ => none }
def FnExactInnerOrderWrongFalsely : Prop := fnExactInnerOrderRow.holds Try.pinned (OpenSpec.ofChange fnExactInnerOrderWrong)

/-- 'laws.FnExactRackText': WHATEVER THE INPUT: true; the input reads as it did. -/
def fnExactRackTextSpec : ChangeSpec := { name := "fnExactRackText", fn := fun _ => fun
  | [d] => { results := [.lit (.bool true)], args := [d] }
  | _ => none }
def fnExactRackTextRow : OpenClaim := { program := "ytllimiejaijbkaa", sum := "4347f017d0ec09d77b8789e71dc0adecaf2c2e3b16a6f0af16dd259cef0c8feb", func := "loop.example/g01119/laws.FnExactRackText", spec := "fnExactRackText", inPlace := ["internal/abi.NoEscape", "internal/bytealg.MakeNoZero"], unfollowed := true, recurses := true, apart := false }
def FnExactRackTextSaid : Prop := fnExactRackTextRow.holds Try.pinned (OpenSpec.ofChange fnExactRackTextSpec)

/-- ITS FALSE NEIGHBOUR: 'it returns false'. Refute it at one input. -/
def fnExactRackTextWrong : ChangeSpec := { name := "fnExactRackText", fn := fun _ => fun
  | [d] => { results := [.lit (.bool false)], args := [d] }
  | _ => none }
def FnExactRackTextWrongFalsely : Prop := fnExactRackTextRow.holds Try.pinned (OpenSpec.ofChange fnExactRackTextWrong)

/-- 'laws.FnExactCycleSetText': WHATEVER THE INPUT: true; the input reads as it did. -/
def fnExactCycleSetTextSpec : ChangeSpec := { name := "fnExactCycleSetText", fn := fun _ => fun
  | [d] => { results := [.lit (.bool true)], args := [d] }
  | _ => none }
def fnExactCycleSetTextRow : OpenClaim := { program := "ytllimiejaijbkaa", sum := "4347f017d0ec09d77b8789e71dc0adecaf2c2e3b16a6f0af16dd259cef0c8feb", func := "loop.example/g01119/laws.FnExactCycleSetText", spec := "fnExactCycleSetText", inPlace := ["internal/abi.NoEscape", "internal/bytealg.MakeNoZero"], unfollowed := true, recurses := true, apart := false }
def FnExactCycleSetTextSaid : Prop := fnExactCycleSetTextRow.holds Try.pinned (OpenSpec.ofChange fnExactCycleSetTextSpec)

/-- ITS FALSE NEIGHBOUR: 'it returns false'. Refute it at one input. -/
def fnExactCycleSetTextWrong : ChangeSpec := { name := "fnExactCycleSetText", fn := fun _ => fun
  | [d] => { results := [.lit (.bool false)], args := [d] }
  | _ => none }
def FnExactCycleSetTextWrongFalsely : Prop := fnExactCycleSetTextRow.holds Try.pinned (OpenSpec.ofChange fnExactCycleSetTextWrong)

/-- 'laws.FnExactRowOrders': WHATEVER THE INPUT: true; the input reads as it did. -/
def fnExactRowOrdersSpec : ChangeSpec := { name := "fnExactRowOrders", fn := fun _ => fun
  | [d] => { results := [.lit (.bool true)], args := [d] }
  | _ => none }
def fnExactRowOrdersRow : OpenClaim := { program := "ytllimiejaijbkaa", sum := "4347f017d0ec09d77b8789e71dc0adecaf2c2e3b16a6f0af16dd259cef0c8feb", func := "loop.example/g01119/laws.FnExactRowOrders", spec := "fnExactRowOrders", unfollowed := true, recurses := true, apart := false }
def FnExactRowOrdersSaid : Prop := fnExactRowOrdersRow.holds Try.pinned (OpenSpec.ofChange fnExactRowOrdersSpec)

/-- ITS FALSE NEIGHBOUR: 'it returns false'. Refute it at one input. -/
def fnExactRowOrdersWrong : ChangeSpec := { name := "fnExactRowOrders", fn := fun _ => fun
  | [d] => { results := [.lit (.bool false)], args := [d] }
  | _ => none }
def FnExactRowOrdersWrongFalsely : Prop := fnExactRowOrdersRow.holds Try.pinned (OpenSpec.ofChange fnExactRowOrdersWrong)

/-- 'laws.FnExactIsSimpleRack': WHATEVER THE INPUT: true; the input reads as it did. -/
def fnExactIsSimpleRackSpec : ChangeSpec := { name := "fnExactIsSimpleRack", fn := fun _ => fun
  | [d] => { results := [.lit (.bool true)], args := [d] }
  | _ => none }
def fnExactIsSimpleRackRow : OpenClaim := { program := "ytllimiejaijbkaa", sum := "4347f017d0ec09d77b8789e71dc0adecaf2c2e3b16a6f0af16dd259cef0c8feb", func := "loop.example/g01119/laws.FnExactIsSimpleRack", spec := "fnExactIsSimpleRack", unfollowed := true, recurses := true, apart := false }
def FnExactIsSimpleRackSaid : Prop := fnExactIsSimpleRackRow.holds Try.pinned (OpenSpec.ofChange fnExactIsSimpleRackSpec)

/-- ITS FALSE NEIGHBOUR: 'it returns false'. Refute it at one input. -/
def fnExactIsSimpleRackWrong : ChangeSpec := { name := "fnExactIsSimpleRack", fn := fun _ => fun
  | [d] => { results := [.lit (.bool false)], args := [d] }
  | _ => none }
def FnExactIsSimpleRackWrongFalsely : Prop := fnExactIsSimpleRackRow.holds Try.pinned (OpenSpec.ofChange fnExactIsSimpleRackWrong)

/-- 'laws.FnExactRestrictRack': WHATEVER THE INPUT: true; the input reads as it did. -/
def fnExactRestrictRackSpec : ChangeSpec := { name := "fnExactRestrictRack", fn := fun _ => fun
  | [d1, d2] => { results := [.lit (.bool true)], args := [d1, d2] }
  | _ => none }
def fnExactRestrictRackRow : OpenClaim := { program := "ytllimiejaijbkaa", sum := "4347f017d0ec09d77b8789e71dc0adecaf2c2e3b16a6f0af16dd259cef0c8feb", func := "loop.example/g01119/laws.FnExactRestrictRack", spec := "fnExactRestrictRack", unfollowed := true, recurses := true, apart := false }
def FnExactRestrictRackSaid : Prop := fnExactRestrictRackRow.holds Try.pinned (OpenSpec.ofChange fnExactRestrictRackSpec)

/-- ITS FALSE NEIGHBOUR: 'it returns false'. Refute it at one input. -/
def fnExactRestrictRackWrong : ChangeSpec := { name := "fnExactRestrictRack", fn := fun _ => fun
  | [d1, d2] => { results := [.lit (.bool false)], args := [d1, d2] }
  | _ => none }
def FnExactRestrictRackWrongFalsely : Prop := fnExactRestrictRackRow.holds Try.pinned (OpenSpec.ofChange fnExactRestrictRackWrong)

/-- 'laws.FnExactCongruenceFrom': WHATEVER THE INPUT: true; the input reads as it did. -/
def fnExactCongruenceFromSpec : ChangeSpec := { name := "fnExactCongruenceFrom", fn := fun _ => fun
  | [d1, d2, d3] => { results := [.lit (.bool true)], args := [d1, d2, d3] }
  | _ => none }
def fnExactCongruenceFromRow : OpenClaim := { program := "ytllimiejaijbkaa", sum := "4347f017d0ec09d77b8789e71dc0adecaf2c2e3b16a6f0af16dd259cef0c8feb", func := "loop.example/g01119/laws.FnExactCongruenceFrom", spec := "fnExactCongruenceFrom", unfollowed := true, recurses := true, apart := false }
def FnExactCongruenceFromSaid : Prop := fnExactCongruenceFromRow.holds Try.pinned (OpenSpec.ofChange fnExactCongruenceFromSpec)

/-- ITS FALSE NEIGHBOUR: 'it returns false'. Refute it at one input. -/
def fnExactCongruenceFromWrong : ChangeSpec := { name := "fnExactCongruenceFrom", fn := fun _ => fun
  | [d1, d2, d3] => { results := [.lit (.bool false)], args := [d1, d2, d3] }
  | _ => none }
def FnExactCongruenceFromWrongFalsely : Prop := fnExactCongruenceFromRow.holds Try.pinned (OpenSpec.ofChange fnExactCongruenceFromWrong)

/-- 'laws.FnExactSolutionOfCycleSet': WHATEVER THE INPUT: true; the input reads as it did. -/
def fnExactSolutionOfCycleSetSpec : ChangeSpec := { name := "fnExactSolutionOfCycleSet", fn := fun _ => fun
  | [d] => { results := [.lit (.bool true)], args := [d] }
  | _ => none }
def fnExactSolutionOfCycleSetRow : OpenClaim := { program := "ytllimiejaijbkaa", sum := "4347f017d0ec09d77b8789e71dc0adecaf2c2e3b16a6f0af16dd259cef0c8feb", func := "loop.example/g01119/laws.FnExactSolutionOfCycleSet", spec := "fnExactSolutionOfCycleSet", unfollowed := true, recurses := true, apart := false }
def FnExactSolutionOfCycleSetSaid : Prop := fnExactSolutionOfCycleSetRow.holds Try.pinned (OpenSpec.ofChange fnExactSolutionOfCycleSetSpec)

/-- ITS FALSE NEIGHBOUR: 'it returns false'. Refute it at one input. -/
def fnExactSolutionOfCycleSetWrong : ChangeSpec := { name := "fnExactSolutionOfCycleSet", fn := fun _ => fun
  | [d] => { results := [.lit (.bool false)], args := [d] }
  | _ => none }
def FnExactSolutionOfCycleSetWrongFalsely : Prop := fnExactSolutionOfCycleSetRow.holds Try.pinned (OpenSpec.ofChange fnExactSolutionOfCycleSetWrong)

/-- 'laws.FnExactQuotientRack': WHATEVER THE INPUT: true; the input reads as it did. -/
def fnExactQuotientRackSpec : ChangeSpec := { name := "fnExactQuotientRack", fn := fun _ => fun
  | [d1, d2] => { results := [.lit (.bool true)], args := [d1, d2] }
  | _ => none }
def fnExactQuotientRackRow : OpenClaim := { program := "ytllimiejaijbkaa", sum := "4347f017d0ec09d77b8789e71dc0adecaf2c2e3b16a6f0af16dd259cef0c8feb", func := "loop.example/g01119/laws.FnExactQuotientRack", spec := "fnExactQuotientRack", unfollowed := true, recurses := true, apart := false }
def FnExactQuotientRackSaid : Prop := fnExactQuotientRackRow.holds Try.pinned (OpenSpec.ofChange fnExactQuotientRackSpec)

/-- ITS FALSE NEIGHBOUR: 'it returns false'. Refute it at one input. -/
def fnExactQuotientRackWrong : ChangeSpec := { name := "fnExactQuotientRack", fn := fun _ => fun
  | [d1, d2] => { results := [.lit (.bool false)], args := [d1, d2] }
  | _ => none }
def FnExactQuotientRackWrongFalsely : Prop := fnExactQuotientRackRow.holds Try.pinned (OpenSpec.ofChange fnExactQuotientRackWrong)

/-- 'laws.FnExactDualCycleSet': WHATEVER THE INPUT: true; the input reads as it did. -/
def fnExactDualCycleSetSpec : ChangeSpec := { name := "fnExactDualCycleSet", fn := fun _ => fun
  | [d] => { results := [.lit (.bool true)], args := [d] }
  | _ => none }
def fnExactDualCycleSetRow : OpenClaim := { program := "ytllimiejaijbkaa", sum := "4347f017d0ec09d77b8789e71dc0adecaf2c2e3b16a6f0af16dd259cef0c8feb", func := "loop.example/g01119/laws.FnExactDualCycleSet", spec := "fnExactDualCycleSet", unfollowed := true, recurses := true, apart := false }
def FnExactDualCycleSetSaid : Prop := fnExactDualCycleSetRow.holds Try.pinned (OpenSpec.ofChange fnExactDualCycleSetSpec)

/-- ITS FALSE NEIGHBOUR: 'it returns false'. Refute it at one input. -/
def fnExactDualCycleSetWrong : ChangeSpec := { name := "fnExactDualCycleSet", fn := fun _ => fun
  | [d] => { results := [.lit (.bool false)], args := [d] }
  | _ => none }
def FnExactDualCycleSetWrongFalsely : Prop := fnExactDualCycleSetRow.holds Try.pinned (OpenSpec.ofChange fnExactDualCycleSetWrong)

/- THE SECOND FORM. 'bulk': how many values and letters a reading holds, each counted each time it is reached (what is shared counts as often as it is met; a slice's spare places count too). A statement '..UptoSaid' is the law's where the arguments, and the package variables that the reading takes, are together of bulk at most 1048576: NARROWER than '..Said'. Prove '..Said' where nothing that the law and all that it calls make is longer than what came in: it says more and counts as full. Else prove '..UptoSaid'. A law counts once. -/
mutual
def uptoBulk {H : Type} : DataW H → Nat
  | .lit (.string bytes) => bytes.length + 1
  | .lit _ => 1
  | .nil => 1
  | .ptr d => uptoBulk d + 1
  | .slice elems spare => uptoBulkAll elems + uptoBulkAll spare + 1
  | .agg parts => uptoBulkAll parts + 1
  | .iface _ d => uptoBulk d + 1
  | .map entries => uptoBulkEntries entries + 1
  | .held _ => 1
def uptoBulkAll {H : Type} : List (DataW H) → Nat
  | [] => 0
  | d :: r => uptoBulk d + uptoBulkAll r
def uptoBulkEntries {H : Type} : List (Lit × DataW H) → Nat
  | [] => 0
  | x :: r => uptoBulkEntry x + uptoBulkEntries r
def uptoBulkEntry {H : Type} : Lit × DataW H → Nat
  | (.string bytes, d) => bytes.length + uptoBulk d + 1
  | (_, d) => uptoBulk d + 1
 end
def uptoSmall : (H : Type) → List (DataW H) → Bool := fun _ ds => decide (uptoBulkAll ds ≤ 1048576)
def OpenSpec.upto (s : _root_.Go.ChangeSpec) : _root_.Go.OpenSpec := { _root_.Go.OpenSpec.ofChange s with cond := some uptoSmall }

/-- 'laws.FnExactConjugationQuandle', WHERE WHAT IT READS IS OF BULK AT MOST 1048576: true; the input reads as it did. -/
def fnExactConjugationQuandleUptoRow : OpenClaim := { program := "ytllimiejaijbkaa", sum := "4347f017d0ec09d77b8789e71dc0adecaf2c2e3b16a6f0af16dd259cef0c8feb", func := "loop.example/g01119/laws.FnExactConjugationQuandle", spec := "fnExactConjugationQuandle", unfollowed := true, recurses := true, apart := false, narrowed := true }
def FnExactConjugationQuandleUptoSaid : Prop := fnExactConjugationQuandleUptoRow.holds Try.pinned (OpenSpec.upto fnExactConjugationQuandleSpec)

/-- 'laws.FnExactRackSolution', WHERE WHAT IT READS IS OF BULK AT MOST 1048576: true; the input reads as it did. -/
def fnExactRackSolutionUptoRow : OpenClaim := { program := "ytllimiejaijbkaa", sum := "4347f017d0ec09d77b8789e71dc0adecaf2c2e3b16a6f0af16dd259cef0c8feb", func := "loop.example/g01119/laws.FnExactRackSolution", spec := "fnExactRackSolution", unfollowed := true, recurses := true, apart := false, narrowed := true }
def FnExactRackSolutionUptoSaid : Prop := fnExactRackSolutionUptoRow.holds Try.pinned (OpenSpec.upto fnExactRackSolutionSpec)

/-- 'laws.FnExactInnerOrder', WHERE WHAT IT READS IS OF BULK AT MOST 1048576: true; the input reads as it did. -/
def fnExactInnerOrderUptoRow : OpenClaim := { program := "ytllimiejaijbkaa", sum := "4347f017d0ec09d77b8789e71dc0adecaf2c2e3b16a6f0af16dd259cef0c8feb", func := "loop.example/g01119/laws.FnExactInnerOrder", spec := "fnExactInnerOrder", unfollowed := true, recurses := true, apart := false, narrowed := true }
def FnExactInnerOrderUptoSaid : Prop := fnExactInnerOrderUptoRow.holds Try.pinned (OpenSpec.upto fnExactInnerOrderSpec)

/-- 'laws.FnExactRackText', WHERE WHAT IT READS IS OF BULK AT MOST 1048576: true; the input reads as it did. -/
def fnExactRackTextUptoRow : OpenClaim := { program := "ytllimiejaijbkaa", sum := "4347f017d0ec09d77b8789e71dc0adecaf2c2e3b16a6f0af16dd259cef0c8feb", func := "loop.example/g01119/laws.FnExactRackText", spec := "fnExactRackText", inPlace := ["internal/abi.NoEscape", "internal/bytealg.MakeNoZero"], unfollowed := true, recurses := true, apart := false, narrowed := true }
def FnExactRackTextUptoSaid : Prop := fnExactRackTextUptoRow.holds Try.pinned (OpenSpec.upto fnExactRackTextSpec)

/-- 'laws.FnExactCycleSetText', WHERE WHAT IT READS IS OF BULK AT MOST 1048576: true; the input reads as it did. -/
def fnExactCycleSetTextUptoRow : OpenClaim := { program := "ytllimiejaijbkaa", sum := "4347f017d0ec09d77b8789e71dc0adecaf2c2e3b16a6f0af16dd259cef0c8feb", func := "loop.example/g01119/laws.FnExactCycleSetText", spec := "fnExactCycleSetText", inPlace := ["internal/abi.NoEscape", "internal/bytealg.MakeNoZero"], unfollowed := true, recurses := true, apart := false, narrowed := true }
def FnExactCycleSetTextUptoSaid : Prop := fnExactCycleSetTextUptoRow.holds Try.pinned (OpenSpec.upto fnExactCycleSetTextSpec)

/-- 'laws.FnExactRowOrders', WHERE WHAT IT READS IS OF BULK AT MOST 1048576: true; the input reads as it did. -/
def fnExactRowOrdersUptoRow : OpenClaim := { program := "ytllimiejaijbkaa", sum := "4347f017d0ec09d77b8789e71dc0adecaf2c2e3b16a6f0af16dd259cef0c8feb", func := "loop.example/g01119/laws.FnExactRowOrders", spec := "fnExactRowOrders", unfollowed := true, recurses := true, apart := false, narrowed := true }
def FnExactRowOrdersUptoSaid : Prop := fnExactRowOrdersUptoRow.holds Try.pinned (OpenSpec.upto fnExactRowOrdersSpec)

/-- 'laws.FnExactIsSimpleRack', WHERE WHAT IT READS IS OF BULK AT MOST 1048576: true; the input reads as it did. -/
def fnExactIsSimpleRackUptoRow : OpenClaim := { program := "ytllimiejaijbkaa", sum := "4347f017d0ec09d77b8789e71dc0adecaf2c2e3b16a6f0af16dd259cef0c8feb", func := "loop.example/g01119/laws.FnExactIsSimpleRack", spec := "fnExactIsSimpleRack", unfollowed := true, recurses := true, apart := false, narrowed := true }
def FnExactIsSimpleRackUptoSaid : Prop := fnExactIsSimpleRackUptoRow.holds Try.pinned (OpenSpec.upto fnExactIsSimpleRackSpec)

/-- 'laws.FnExactRestrictRack', WHERE WHAT IT READS IS OF BULK AT MOST 1048576: true; the input reads as it did. -/
def fnExactRestrictRackUptoRow : OpenClaim := { program := "ytllimiejaijbkaa", sum := "4347f017d0ec09d77b8789e71dc0adecaf2c2e3b16a6f0af16dd259cef0c8feb", func := "loop.example/g01119/laws.FnExactRestrictRack", spec := "fnExactRestrictRack", unfollowed := true, recurses := true, apart := false, narrowed := true }
def FnExactRestrictRackUptoSaid : Prop := fnExactRestrictRackUptoRow.holds Try.pinned (OpenSpec.upto fnExactRestrictRackSpec)

/-- 'laws.FnExactCongruenceFrom', WHERE WHAT IT READS IS OF BULK AT MOST 1048576: true; the input reads as it did. -/
def fnExactCongruenceFromUptoRow : OpenClaim := { program := "ytllimiejaijbkaa", sum := "4347f017d0ec09d77b8789e71dc0adecaf2c2e3b16a6f0af16dd259cef0c8feb", func := "loop.example/g01119/laws.FnExactCongruenceFrom", spec := "fnExactCongruenceFrom", unfollowed := true, recurses := true, apart := false, narrowed := true }
def FnExactCongruenceFromUptoSaid : Prop := fnExactCongruenceFromUptoRow.holds Try.pinned (OpenSpec.upto fnExactCongruenceFromSpec)

/-- 'laws.FnExactSolutionOfCycleSet', WHERE WHAT IT READS IS OF BULK AT MOST 1048576: true; the input reads as it did. -/
def fnExactSolutionOfCycleSetUptoRow : OpenClaim := { program := "ytllimiejaijbkaa", sum := "4347f017d0ec09d77b8789e71dc0adecaf2c2e3b16a6f0af16dd259cef0c8feb", func := "loop.example/g01119/laws.FnExactSolutionOfCycleSet", spec := "fnExactSolutionOfCycleSet", unfollowed := true, recurses := true, apart := false, narrowed := true }
def FnExactSolutionOfCycleSetUptoSaid : Prop := fnExactSolutionOfCycleSetUptoRow.holds Try.pinned (OpenSpec.upto fnExactSolutionOfCycleSetSpec)

/-- 'laws.FnExactQuotientRack', WHERE WHAT IT READS IS OF BULK AT MOST 1048576: true; the input reads as it did. -/
def fnExactQuotientRackUptoRow : OpenClaim := { program := "ytllimiejaijbkaa", sum := "4347f017d0ec09d77b8789e71dc0adecaf2c2e3b16a6f0af16dd259cef0c8feb", func := "loop.example/g01119/laws.FnExactQuotientRack", spec := "fnExactQuotientRack", unfollowed := true, recurses := true, apart := false, narrowed := true }
def FnExactQuotientRackUptoSaid : Prop := fnExactQuotientRackUptoRow.holds Try.pinned (OpenSpec.upto fnExactQuotientRackSpec)

/-- 'laws.FnExactDualCycleSet', WHERE WHAT IT READS IS OF BULK AT MOST 1048576: true; the input reads as it did. -/
def fnExactDualCycleSetUptoRow : OpenClaim := { program := "ytllimiejaijbkaa", sum := "4347f017d0ec09d77b8789e71dc0adecaf2c2e3b16a6f0af16dd259cef0c8feb", func := "loop.example/g01119/laws.FnExactDualCycleSet", spec := "fnExactDualCycleSet", unfollowed := true, recurses := true, apart := false, narrowed := true }
def FnExactDualCycleSetUptoSaid : Prop := fnExactDualCycleSetUptoRow.holds Try.pinned (OpenSpec.upto fnExactDualCycleSetSpec)

end Rows
end Go.Proofs.Ytllimiejaijbkaa

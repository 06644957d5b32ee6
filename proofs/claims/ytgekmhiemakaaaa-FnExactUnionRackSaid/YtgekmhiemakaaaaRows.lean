/-
  No cell of these rows narrows 'for every input' (looked for: loops, veiled, ifaces, maps, wideKeys, modest, calm, conditions, laid).
  DERIVED. THE GIVEN ROWS OF THIS SEAT. 12 by the template 'for every input the law returns true; each argument reads behind the call as it read before'; 0 by the template 'total and deterministic' (their statements: YtgekmhiemakaaaaTotals.lean).
  GIVEN WITH THE SEED: the statements are not yours to turn. If you find one false, say at which input.
  Laid BY PROGRAM, IN A SANDBOX (cutbox-rows.mjs): the forced cells as the released guide's own fill.sh prints them over the translation c40f2c9c3d3a2d01… (all of the seat's roots in one cut). By AI agents, Wed Nov 11 2026. No macro, syntax, notation, axiom, sorry.
-/
import Derived.Test.YtgekmhiemakaaaaChecked
import GoSem.Claim
import GoSem.ClaimJoined
import GoSem.ClaimMapViews
import Derived.JoinedTies
import Derived.KernelRfl
namespace Go.Proofs.Ytgekmhiemakaaaa
/- THE CELL 'sum', in the pinned program and in every row, IS THE sha256 OF THE DUMP (.gsa) THAT YtgekmhiemakaaaaProg.lean LOADS. Nothing in Lean hashes anything: it is a label: what it is worth is what the hold of that sum in a sandbox is worth. -/
noncomputable def Try.pinned : Pinned := { name := "ytgekmhiemakaaaa", sum := "c40f2c9c3d3a2d01fee5be3a92107243d09bd6ebf7e1f0e0f152da72c5e10c97", checked := Try.checked }
namespace Rows
def none {H : Type} : Left H := { results := [], args := [] }

/-- 'laws.FnExactDotSolve': WHATEVER THE INPUT: true; the input reads as it did. -/
def fnExactDotSolveSpec : ChangeSpec := { name := "fnExactDotSolve", fn := fun _ => fun
  | [d1, d2, d3] => { results := [.lit (.bool true)], args := [d1, d2, d3] }
  | _ => none }
def fnExactDotSolveRow : OpenClaim := { program := "ytgekmhiemakaaaa", sum := "c40f2c9c3d3a2d01fee5be3a92107243d09bd6ebf7e1f0e0f152da72c5e10c97", func := "loop.example/g01119/laws.FnExactDotSolve", spec := "fnExactDotSolve", unfollowed := true, recurses := true, apart := false }
def FnExactDotSolveSaid : Prop := fnExactDotSolveRow.holds Try.pinned (OpenSpec.ofChange fnExactDotSolveSpec)

/-- ITS FALSE NEIGHBOUR: 'it returns false'. Refute it at one input. -/
def fnExactDotSolveWrong : ChangeSpec := { name := "fnExactDotSolve", fn := fun _ => fun
  | [d1, d2, d3] => { results := [.lit (.bool false)], args := [d1, d2, d3] }
  | _ => none }
def FnExactDotSolveWrongFalsely : Prop := fnExactDotSolveRow.holds Try.pinned (OpenSpec.ofChange fnExactDotSolveWrong)

/-- 'laws.FnExactIsSquareFreeCycleSet': WHATEVER THE INPUT: true; the input reads as it did. -/
def fnExactIsSquareFreeCycleSetSpec : ChangeSpec := { name := "fnExactIsSquareFreeCycleSet", fn := fun _ => fun
  | [d] => { results := [.lit (.bool true)], args := [d] }
  | _ => none }
def fnExactIsSquareFreeCycleSetRow : OpenClaim := { program := "ytgekmhiemakaaaa", sum := "c40f2c9c3d3a2d01fee5be3a92107243d09bd6ebf7e1f0e0f152da72c5e10c97", func := "loop.example/g01119/laws.FnExactIsSquareFreeCycleSet", spec := "fnExactIsSquareFreeCycleSet", unfollowed := true, recurses := true, apart := false }
def FnExactIsSquareFreeCycleSetSaid : Prop := fnExactIsSquareFreeCycleSetRow.holds Try.pinned (OpenSpec.ofChange fnExactIsSquareFreeCycleSetSpec)

/-- ITS FALSE NEIGHBOUR: 'it returns false'. Refute it at one input. -/
def fnExactIsSquareFreeCycleSetWrong : ChangeSpec := { name := "fnExactIsSquareFreeCycleSet", fn := fun _ => fun
  | [d] => { results := [.lit (.bool false)], args := [d] }
  | _ => none }
def FnExactIsSquareFreeCycleSetWrongFalsely : Prop := fnExactIsSquareFreeCycleSetRow.holds Try.pinned (OpenSpec.ofChange fnExactIsSquareFreeCycleSetWrong)

/-- 'laws.FnExactIsFaithfulRack': WHATEVER THE INPUT: true; the input reads as it did. -/
def fnExactIsFaithfulRackSpec : ChangeSpec := { name := "fnExactIsFaithfulRack", fn := fun _ => fun
  | [d] => { results := [.lit (.bool true)], args := [d] }
  | _ => none }
def fnExactIsFaithfulRackRow : OpenClaim := { program := "ytgekmhiemakaaaa", sum := "c40f2c9c3d3a2d01fee5be3a92107243d09bd6ebf7e1f0e0f152da72c5e10c97", func := "loop.example/g01119/laws.FnExactIsFaithfulRack", spec := "fnExactIsFaithfulRack", unfollowed := true, recurses := true, apart := false }
def FnExactIsFaithfulRackSaid : Prop := fnExactIsFaithfulRackRow.holds Try.pinned (OpenSpec.ofChange fnExactIsFaithfulRackSpec)

/-- ITS FALSE NEIGHBOUR: 'it returns false'. Refute it at one input. -/
def fnExactIsFaithfulRackWrong : ChangeSpec := { name := "fnExactIsFaithfulRack", fn := fun _ => fun
  | [d] => { results := [.lit (.bool false)], args := [d] }
  | _ => none }
def FnExactIsFaithfulRackWrongFalsely : Prop := fnExactIsFaithfulRackRow.holds Try.pinned (OpenSpec.ofChange fnExactIsFaithfulRackWrong)

/-- 'laws.FnExactDualRack': WHATEVER THE INPUT: true; the input reads as it did. -/
def fnExactDualRackSpec : ChangeSpec := { name := "fnExactDualRack", fn := fun _ => fun
  | [d] => { results := [.lit (.bool true)], args := [d] }
  | _ => none }
def fnExactDualRackRow : OpenClaim := { program := "ytgekmhiemakaaaa", sum := "c40f2c9c3d3a2d01fee5be3a92107243d09bd6ebf7e1f0e0f152da72c5e10c97", func := "loop.example/g01119/laws.FnExactDualRack", spec := "fnExactDualRack", unfollowed := true, recurses := true, apart := false }
def FnExactDualRackSaid : Prop := fnExactDualRackRow.holds Try.pinned (OpenSpec.ofChange fnExactDualRackSpec)

/-- ITS FALSE NEIGHBOUR: 'it returns false'. Refute it at one input. -/
def fnExactDualRackWrong : ChangeSpec := { name := "fnExactDualRack", fn := fun _ => fun
  | [d] => { results := [.lit (.bool false)], args := [d] }
  | _ => none }
def FnExactDualRackWrongFalsely : Prop := fnExactDualRackRow.holds Try.pinned (OpenSpec.ofChange fnExactDualRackWrong)

/-- 'laws.FnExactQuandleOf': WHATEVER THE INPUT: true; the input reads as it did. -/
def fnExactQuandleOfSpec : ChangeSpec := { name := "fnExactQuandleOf", fn := fun _ => fun
  | [d] => { results := [.lit (.bool true)], args := [d] }
  | _ => none }
def fnExactQuandleOfRow : OpenClaim := { program := "ytgekmhiemakaaaa", sum := "c40f2c9c3d3a2d01fee5be3a92107243d09bd6ebf7e1f0e0f152da72c5e10c97", func := "loop.example/g01119/laws.FnExactQuandleOf", spec := "fnExactQuandleOf", unfollowed := true, recurses := true, apart := false }
def FnExactQuandleOfSaid : Prop := fnExactQuandleOfRow.holds Try.pinned (OpenSpec.ofChange fnExactQuandleOfSpec)

/-- ITS FALSE NEIGHBOUR: 'it returns false'. Refute it at one input. -/
def fnExactQuandleOfWrong : ChangeSpec := { name := "fnExactQuandleOf", fn := fun _ => fun
  | [d] => { results := [.lit (.bool false)], args := [d] }
  | _ => none }
def FnExactQuandleOfWrongFalsely : Prop := fnExactQuandleOfRow.holds Try.pinned (OpenSpec.ofChange fnExactQuandleOfWrong)

/-- 'laws.FnExactIsCongruence': WHATEVER THE INPUT: true; the input reads as it did. -/
def fnExactIsCongruenceSpec : ChangeSpec := { name := "fnExactIsCongruence", fn := fun _ => fun
  | [d1, d2] => { results := [.lit (.bool true)], args := [d1, d2] }
  | _ => none }
def fnExactIsCongruenceRow : OpenClaim := { program := "ytgekmhiemakaaaa", sum := "c40f2c9c3d3a2d01fee5be3a92107243d09bd6ebf7e1f0e0f152da72c5e10c97", func := "loop.example/g01119/laws.FnExactIsCongruence", spec := "fnExactIsCongruence", unfollowed := true, recurses := true, apart := false }
def FnExactIsCongruenceSaid : Prop := fnExactIsCongruenceRow.holds Try.pinned (OpenSpec.ofChange fnExactIsCongruenceSpec)

/-- ITS FALSE NEIGHBOUR: 'it returns false'. Refute it at one input. -/
def fnExactIsCongruenceWrong : ChangeSpec := { name := "fnExactIsCongruence", fn := fun _ => fun
  | [d1, d2] => { results := [.lit (.bool false)], args := [d1, d2] }
  | _ => none }
def FnExactIsCongruenceWrongFalsely : Prop := fnExactIsCongruenceRow.holds Try.pinned (OpenSpec.ofChange fnExactIsCongruenceWrong)

/-- 'laws.FnExactIsConnectedRack': WHATEVER THE INPUT: true; the input reads as it did. -/
def fnExactIsConnectedRackSpec : ChangeSpec := { name := "fnExactIsConnectedRack", fn := fun _ => fun
  | [d] => { results := [.lit (.bool true)], args := [d] }
  | _ => none }
def fnExactIsConnectedRackRow : OpenClaim := { program := "ytgekmhiemakaaaa", sum := "c40f2c9c3d3a2d01fee5be3a92107243d09bd6ebf7e1f0e0f152da72c5e10c97", func := "loop.example/g01119/laws.FnExactIsConnectedRack", spec := "fnExactIsConnectedRack", unfollowed := true, recurses := true, apart := false }
def FnExactIsConnectedRackSaid : Prop := fnExactIsConnectedRackRow.holds Try.pinned (OpenSpec.ofChange fnExactIsConnectedRackSpec)

/-- ITS FALSE NEIGHBOUR: 'it returns false'. Refute it at one input. -/
def fnExactIsConnectedRackWrong : ChangeSpec := { name := "fnExactIsConnectedRack", fn := fun _ => fun
  | [d] => { results := [.lit (.bool false)], args := [d] }
  | _ => none }
def FnExactIsConnectedRackWrongFalsely : Prop := fnExactIsConnectedRackRow.holds Try.pinned (OpenSpec.ofChange fnExactIsConnectedRackWrong)

/-- 'laws.FnExactCountRackMaps': WHATEVER THE INPUT: true; the input reads as it did. -/
def fnExactCountRackMapsSpec : ChangeSpec := { name := "fnExactCountRackMaps", fn := fun _ => fun
  | [d1, d2] => { results := [.lit (.bool true)], args := [d1, d2] }
  | _ => none }
def fnExactCountRackMapsRow : OpenClaim := { program := "ytgekmhiemakaaaa", sum := "c40f2c9c3d3a2d01fee5be3a92107243d09bd6ebf7e1f0e0f152da72c5e10c97", func := "loop.example/g01119/laws.FnExactCountRackMaps", spec := "fnExactCountRackMaps", unfollowed := true, recurses := true, apart := false }
def FnExactCountRackMapsSaid : Prop := fnExactCountRackMapsRow.holds Try.pinned (OpenSpec.ofChange fnExactCountRackMapsSpec)

/-- ITS FALSE NEIGHBOUR: 'it returns false'. Refute it at one input. -/
def fnExactCountRackMapsWrong : ChangeSpec := { name := "fnExactCountRackMaps", fn := fun _ => fun
  | [d1, d2] => { results := [.lit (.bool false)], args := [d1, d2] }
  | _ => none }
def FnExactCountRackMapsWrongFalsely : Prop := fnExactCountRackMapsRow.holds Try.pinned (OpenSpec.ofChange fnExactCountRackMapsWrong)

/-- 'laws.FnExactProductRack': WHATEVER THE INPUT: true; the input reads as it did. -/
def fnExactProductRackSpec : ChangeSpec := { name := "fnExactProductRack", fn := fun _ => fun
  | [d1, d2] => { results := [.lit (.bool true)], args := [d1, d2] }
  | _ => none }
def fnExactProductRackRow : OpenClaim := { program := "ytgekmhiemakaaaa", sum := "c40f2c9c3d3a2d01fee5be3a92107243d09bd6ebf7e1f0e0f152da72c5e10c97", func := "loop.example/g01119/laws.FnExactProductRack", spec := "fnExactProductRack", unfollowed := true, recurses := true, apart := false }
def FnExactProductRackSaid : Prop := fnExactProductRackRow.holds Try.pinned (OpenSpec.ofChange fnExactProductRackSpec)

/-- ITS FALSE NEIGHBOUR: 'it returns false'. Refute it at one input. -/
def fnExactProductRackWrong : ChangeSpec := { name := "fnExactProductRack", fn := fun _ => fun
  | [d1, d2] => { results := [.lit (.bool false)], args := [d1, d2] }
  | _ => none }
def FnExactProductRackWrongFalsely : Prop := fnExactProductRackRow.holds Try.pinned (OpenSpec.ofChange fnExactProductRackWrong)

/-- 'laws.FnExactUnionRack': WHATEVER THE INPUT: true; the input reads as it did. -/
def fnExactUnionRackSpec : ChangeSpec := { name := "fnExactUnionRack", fn := fun _ => fun
  | [d1, d2] => { results := [.lit (.bool true)], args := [d1, d2] }
  | _ => none }
def fnExactUnionRackRow : OpenClaim := { program := "ytgekmhiemakaaaa", sum := "c40f2c9c3d3a2d01fee5be3a92107243d09bd6ebf7e1f0e0f152da72c5e10c97", func := "loop.example/g01119/laws.FnExactUnionRack", spec := "fnExactUnionRack", unfollowed := true, recurses := true, apart := false }
def FnExactUnionRackSaid : Prop := fnExactUnionRackRow.holds Try.pinned (OpenSpec.ofChange fnExactUnionRackSpec)

/-- ITS FALSE NEIGHBOUR: 'it returns false'. Refute it at one input. -/
def fnExactUnionRackWrong : ChangeSpec := { name := "fnExactUnionRack", fn := fun _ => fun
  | [d1, d2] => { results := [.lit (.bool false)], args := [d1, d2] }
  | _ => none }
def FnExactUnionRackWrongFalsely : Prop := fnExactUnionRackRow.holds Try.pinned (OpenSpec.ofChange fnExactUnionRackWrong)

/-- 'laws.FnExactRackOrbits': WHATEVER THE INPUT: true; the input reads as it did. -/
def fnExactRackOrbitsSpec : ChangeSpec := { name := "fnExactRackOrbits", fn := fun _ => fun
  | [d] => { results := [.lit (.bool true)], args := [d] }
  | _ => none }
def fnExactRackOrbitsRow : OpenClaim := { program := "ytgekmhiemakaaaa", sum := "c40f2c9c3d3a2d01fee5be3a92107243d09bd6ebf7e1f0e0f152da72c5e10c97", func := "loop.example/g01119/laws.FnExactRackOrbits", spec := "fnExactRackOrbits", unfollowed := true, recurses := true, apart := false }
def FnExactRackOrbitsSaid : Prop := fnExactRackOrbitsRow.holds Try.pinned (OpenSpec.ofChange fnExactRackOrbitsSpec)

/-- ITS FALSE NEIGHBOUR: 'it returns false'. Refute it at one input. -/
def fnExactRackOrbitsWrong : ChangeSpec := { name := "fnExactRackOrbits", fn := fun _ => fun
  | [d] => { results := [.lit (.bool false)], args := [d] }
  | _ => none }
def FnExactRackOrbitsWrongFalsely : Prop := fnExactRackOrbitsRow.holds Try.pinned (OpenSpec.ofChange fnExactRackOrbitsWrong)

/-- 'laws.FnExactSubracksOf': WHATEVER THE INPUT: true; the input reads as it did. -/
def fnExactSubracksOfSpec : ChangeSpec := { name := "fnExactSubracksOf", fn := fun _ => fun
  | [d] => { results := [.lit (.bool true)], args := [d] }
  | _ => none }
def fnExactSubracksOfRow : OpenClaim := { program := "ytgekmhiemakaaaa", sum := "c40f2c9c3d3a2d01fee5be3a92107243d09bd6ebf7e1f0e0f152da72c5e10c97", func := "loop.example/g01119/laws.FnExactSubracksOf", spec := "fnExactSubracksOf", unfollowed := true, recurses := true, apart := false }
def FnExactSubracksOfSaid : Prop := fnExactSubracksOfRow.holds Try.pinned (OpenSpec.ofChange fnExactSubracksOfSpec)

/-- ITS FALSE NEIGHBOUR: 'it returns false'. Refute it at one input. -/
def fnExactSubracksOfWrong : ChangeSpec := { name := "fnExactSubracksOf", fn := fun _ => fun
  | [d] => { results := [.lit (.bool false)], args := [d] }
  | _ => none }
def FnExactSubracksOfWrongFalsely : Prop := fnExactSubracksOfRow.holds Try.pinned (OpenSpec.ofChange fnExactSubracksOfWrong)

/- THE SECOND FORM. 'bulk': how many values and letters a reading holds, each counted each time it is reached (what is shared counts as often as it is met; a slice's spare places count too). A statement '..UptoSaid' is the law's where the arguments, and the package variables that the reading takes, are together of bulk at most 1048576: NARROWER than '..Said'. Prove '..Said' where nothing that the law and all that it calls make is longer than what came in: it says more and counts as full. Else prove '..UptoSaid'. A law counts once. -/
mutual
def uptoBulk {H : Type} : DataW H → Nat
  | .lit (.string bytes) => bytes.length + 1
  | .lit _ => 1
  | .nil => 1
  | .ptr d => uptoBulk d + 1
  | .slice elems spare => uptoBulkAll elems + uptoBulkAll spare + 1
  | .agg parts => uptoBulkAll parts + 1
  | .iface _ d => uptoBulk d + 1
  | .map entries => uptoBulkEntries entries + 1
  | .held _ => 1
def uptoBulkAll {H : Type} : List (DataW H) → Nat
  | [] => 0
  | d :: r => uptoBulk d + uptoBulkAll r
def uptoBulkEntries {H : Type} : List (Lit × DataW H) → Nat
  | [] => 0
  | x :: r => uptoBulkEntry x + uptoBulkEntries r
def uptoBulkEntry {H : Type} : Lit × DataW H → Nat
  | (.string bytes, d) => bytes.length + uptoBulk d + 1
  | (_, d) => uptoBulk d + 1
 end
def uptoSmall : (H : Type) → List (DataW H) → Bool := fun _ ds => decide (uptoBulkAll ds ≤ 1048576)
def OpenSpec.upto (s : _root_.Go.ChangeSpec) : _root_.Go.OpenSpec := { _root_.Go.OpenSpec.ofChange s with cond := some uptoSmall }

/-- 'laws.FnExactDotSolve', WHERE WHAT IT READS IS OF BULK AT MOST 1048576: true; the input reads as it did. -/
def fnExactDotSolveUptoRow : OpenClaim := { program := "ytgekmhiemakaaaa", sum := "c40f2c9c3d3a2d01fee5be3a92107243d09bd6ebf7e1f0e0f152da72c5e10c97", func := "loop.example/g01119/laws.FnExactDotSolve", spec := "fnExactDotSolve", unfollowed := true, recurses := true, apart := false, narrowed := true }
def FnExactDotSolveUptoSaid : Prop := fnExactDotSolveUptoRow.holds Try.pinned (OpenSpec.upto fnExactDotSolveSpec)

/-- 'laws.FnExactIsSquareFreeCycleSet', WHERE WHAT IT READS IS OF BULK AT MOST 1048576: true; the input reads as it did. -/
def fnExactIsSquareFreeCycleSetUptoRow : OpenClaim := { program := "ytgekmhiemakaaaa", sum := "c40f2c9c3d3a2d01fee5be3a92107243d09bd6ebf7e1f0e0f152da72c5e10c97", func := "loop.example/g01119/laws.FnExactIsSquareFreeCycleSet", spec := "fnExactIsSquareFreeCycleSet", unfollowed := true, recurses := true, apart := false, narrowed := true }
def FnExactIsSquareFreeCycleSetUptoSaid : Prop := fnExactIsSquareFreeCycleSetUptoRow.holds Try.pinned (OpenSpec.upto fnExactIsSquareFreeCycleSetSpec)

/-- 'laws.FnExactIsFaithfulRack', WHERE WHAT IT READS IS OF BULK AT MOST 1048576: true; the input reads as it did. -/
def fnExactIsFaithfulRackUptoRow : OpenClaim := { program := "ytgekmhiemakaaaa", sum := "c40f2c9c3d3a2d01fee5be3a92107243d09bd6ebf7e1f0e0f152da72c5e10c97", func := "loop.example/g01119/laws.FnExactIsFaithfulRack", spec := "fnExactIsFaithfulRack", unfollowed := true, recurses := true, apart := false, narrowed := true }
def FnExactIsFaithfulRackUptoSaid : Prop := fnExactIsFaithfulRackUptoRow.holds Try.pinned (OpenSpec.upto fnExactIsFaithfulRackSpec)

/-- 'laws.FnExactDualRack', WHERE WHAT IT READS IS OF BULK AT MOST 1048576: true; the input reads as it did. -/
def fnExactDualRackUptoRow : OpenClaim := { program := "ytgekmhiemakaaaa", sum := "c40f2c9c3d3a2d01fee5be3a92107243d09bd6ebf7e1f0e0f152da72c5e10c97", func := "loop.example/g01119/laws.FnExactDualRack", spec := "fnExactDualRack", unfollowed := true, recurses := true, apart := false, narrowed := true }
def FnExactDualRackUptoSaid : Prop := fnExactDualRackUptoRow.holds Try.pinned (OpenSpec.upto fnExactDualRackSpec)

/-- 'laws.FnExactQuandleOf', WHERE WHAT IT READS IS OF BULK AT MOST 1048576: true; the input reads as it did. -/
def fnExactQuandleOfUptoRow : OpenClaim := { program := "ytgekmhiemakaaaa", sum := "c40f2c9c3d3a2d01fee5be3a92107243d09bd6ebf7e1f0e0f152da72c5e10c97", func := "loop.example/g01119/laws.FnExactQuandleOf", spec := "fnExactQuandleOf", unfollowed := true, recurses := true, apart := false, narrowed := true }
def FnExactQuandleOfUptoSaid : Prop := fnExactQuandleOfUptoRow.holds Try.pinned (OpenSpec.upto fnExactQuandleOfSpec)

/-- 'laws.FnExactIsCongruence', WHERE WHAT IT READS IS OF BULK AT MOST 1048576: true; the input reads as it did. -/
def fnExactIsCongruenceUptoRow : OpenClaim := { program := "ytgekmhiemakaaaa", sum := "c40f2c9c3d3a2d01fee5be3a92107243d09bd6ebf7e1f0e0f152da72c5e10c97", func := "loop.example/g01119/laws.FnExactIsCongruence", spec := "fnExactIsCongruence", unfollowed := true, recurses := true, apart := false, narrowed := true }
def FnExactIsCongruenceUptoSaid : Prop := fnExactIsCongruenceUptoRow.holds Try.pinned (OpenSpec.upto fnExactIsCongruenceSpec)

/-- 'laws.FnExactIsConnectedRack', WHERE WHAT IT READS IS OF BULK AT MOST 1048576: true; the input reads as it did. -/
def fnExactIsConnectedRackUptoRow : OpenClaim := { program := "ytgekmhiemakaaaa", sum := "c40f2c9c3d3a2d01fee5be3a92107243d09bd6ebf7e1f0e0f152da72c5e10c97", func := "loop.example/g01119/laws.FnExactIsConnectedRack", spec := "fnExactIsConnectedRack", unfollowed := true, recurses := true, apart := false, narrowed := true }
def FnExactIsConnectedRackUptoSaid : Prop := fnExactIsConnectedRackUptoRow.holds Try.pinned (OpenSpec.upto fnExactIsConnectedRackSpec)

/-- 'laws.FnExactCountRackMaps', WHERE WHAT IT READS IS OF BULK AT MOST 1048576: true; the input reads as it did. -/
def fnExactCountRackMapsUptoRow : OpenClaim := { program := "ytgekmhiemakaaaa", sum := "c40f2c9c3d3a2d01fee5be3a92107243d09bd6ebf7e1f0e0f152da72c5e10c97", func := "loop.example/g01119/laws.FnExactCountRackMaps", spec := "fnExactCountRackMaps", unfollowed := true, recurses := true, apart := false, narrowed := true }
def FnExactCountRackMapsUptoSaid : Prop := fnExactCountRackMapsUptoRow.holds Try.pinned (OpenSpec.upto fnExactCountRackMapsSpec)

/-- 'laws.FnExactProductRack', WHERE WHAT IT READS IS OF BULK AT MOST 1048576: true; the input reads as it did. -/
def fnExactProductRackUptoRow : OpenClaim := { program := "ytgekmhiemakaaaa", sum := "c40f2c9c3d3a2d01fee5be3a92107243d09bd6ebf7e1f0e0f152da72c5e10c97", func := "loop.example/g01119/laws.FnExactProductRack", spec := "fnExactProductRack", unfollowed := true, recurses := true, apart := false, narrowed := true }
def FnExactProductRackUptoSaid : Prop := fnExactProductRackUptoRow.holds Try.pinned (OpenSpec.upto fnExactProductRackSpec)

/-- 'laws.FnExactUnionRack', WHERE WHAT IT READS IS OF BULK AT MOST 1048576: true; the input reads as it did. -/
def fnExactUnionRackUptoRow : OpenClaim := { program := "ytgekmhiemakaaaa", sum := "c40f2c9c3d3a2d01fee5be3a92107243d09bd6ebf7e1f0e0f152da72c5e10c97", func := "loop.example/g01119/laws.FnExactUnionRack", spec := "fnExactUnionRack", unfollowed := true, recurses := true, apart := false, narrowed := true }
def FnExactUnionRackUptoSaid : Prop := fnExactUnionRackUptoRow.holds Try.pinned (OpenSpec.upto fnExactUnionRackSpec)

/-- 'laws.FnExactRackOrbits', WHERE WHAT IT READS IS OF BULK AT MOST 1048576: true; the input reads as it did. -/
def fnExactRackOrbitsUptoRow : OpenClaim := { program := "ytgekmhiemakaaaa", sum := "c40f2c9c3d3a2d01fee5be3a92107243d09bd6ebf7e1f0e0f152da72c5e10c97", func := "loop.example/g01119/laws.FnExactRackOrbits", spec := "fnExactRackOrbits", unfollowed := true, recurses := true, apart := false, narrowed := true }
def FnExactRackOrbitsUptoSaid : Prop := fnExactRackOrbitsUptoRow.holds Try.pinned (OpenSpec.upto fnExactRackOrbitsSpec)

/-- 'laws.FnExactSubracksOf', WHERE WHAT IT READS IS OF BULK AT MOST 1048576: true; the input reads as it did. -/
def fnExactSubracksOfUptoRow : OpenClaim := { program := "ytgekmhiemakaaaa", sum := "c40f2c9c3d3a2d01fee5be3a92107243d09bd6ebf7e1f0e0f152da72c5e10c97", func := "loop.example/g01119/laws.FnExactSubracksOf", spec := "fnExactSubracksOf", unfollowed := true, recurses := true, apart := false, narrowed := true }
def FnExactSubracksOfUptoSaid : Prop := fnExactSubracksOfUptoRow.holds Try.pinned (OpenSpec.upto fnExactSubracksOfSpec)

end Rows
end Go.Proofs.Ytgekmhiemakaaaa

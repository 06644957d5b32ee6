/-
  No cell of these rows narrows 'for every input' (looked for: loops, veiled, ifaces, maps, wideKeys, modest, calm, conditions, laid).
  DERIVED. THE GIVEN ROWS OF THIS SEAT. 11 by the template 'for every input the law returns true; each argument reads behind the call as it read before'; 0 by the template 'total and deterministic' (their statements: YtmofdccagnbccabTotals.lean).
  GIVEN WITH THE SEED: the statements are not yours to turn. If you find one false, say at which input.
  Laid BY PROGRAM, IN A SANDBOX (cutbox-rows.mjs): the forced cells as the released guide's own fill.sh prints them over the translation b4c0dadb557acbce… (all of the seat's roots in one cut). By AI agents, Wed Nov 11 2026. No macro, syntax, notation, axiom, sorry.
-/
import Derived.Test.YtmofdccagnbccabChecked
import GoSem.Claim
import GoSem.ClaimJoined
import GoSem.ClaimMapViews
import Derived.JoinedTies
import Derived.KernelRfl
namespace Go.Proofs.Ytmofdccagnbccab
/- THE CELL 'sum', in the pinned program and in every row, IS THE sha256 OF THE DUMP (.gsa) THAT YtmofdccagnbccabProg.lean LOADS. Nothing in Lean hashes anything: it is a label: what it is worth is what the hold of that sum in a sandbox is worth. -/
noncomputable def Try.pinned : Pinned := { name := "ytmofdccagnbccab", sum := "b4c0dadb557acbceaa6b30af62e163fbae804f4e7b2391944b355ab691c91c70", checked := Try.checked }
namespace Rows
def none {H : Type} : Left H := { results := [], args := [] }

/-- 'laws.FnExactAffineCycleSet': WHATEVER THE INPUT: true; the input reads as it did. -/
def fnExactAffineCycleSetSpec : ChangeSpec := { name := "fnExactAffineCycleSet", fn := fun _ => fun
  | [d1, d2, d3, d4] => { results := [.lit (.bool true)], args := [d1, d2, d3, d4] }
  | _ => none }
def fnExactAffineCycleSetRow : OpenClaim := { program := "ytmofdccagnbccab", sum := "b4c0dadb557acbceaa6b30af62e163fbae804f4e7b2391944b355ab691c91c70", func := "loop.example/g01119/laws.FnExactAffineCycleSet", spec := "fnExactAffineCycleSet", unfollowed := true, recurses := true, apart := false }
def FnExactAffineCycleSetSaid : Prop := fnExactAffineCycleSetRow.holds Try.pinned (OpenSpec.ofChange fnExactAffineCycleSetSpec)

/-- ITS FALSE NEIGHBOUR: 'it returns false'. Refute it at one input. -/
def fnExactAffineCycleSetWrong : ChangeSpec := { name := "fnExactAffineCycleSet", fn := fun _ => fun
  | [d1, d2, d3, d4] => { results := [.lit (.bool false)], args := [d1, d2, d3, d4] }
  | _ => none }
def FnExactAffineCycleSetWrongFalsely : Prop := fnExactAffineCycleSetRow.holds Try.pinned (OpenSpec.ofChange fnExactAffineCycleSetWrong)

/-- 'laws.FnRackParts': WHATEVER THE INPUT: true; the input reads as it did. -/
def fnRackPartsSpec : ChangeSpec := { name := "fnRackParts", fn := fun _ => fun
  | [d] => { results := [.lit (.bool true)], args := [d] }
  | _ => none }
def fnRackPartsRow : OpenClaim := { program := "ytmofdccagnbccab", sum := "b4c0dadb557acbceaa6b30af62e163fbae804f4e7b2391944b355ab691c91c70", func := "loop.example/g01119/laws.FnRackParts", spec := "fnRackParts", unfollowed := true, recurses := true, apart := false }
def FnRackPartsSaid : Prop := fnRackPartsRow.holds Try.pinned (OpenSpec.ofChange fnRackPartsSpec)

/-- ITS FALSE NEIGHBOUR: 'it returns false'. Refute it at one input. -/
def fnRackPartsWrong : ChangeSpec := { name := "fnRackParts", fn := fun _ => fun
  | [d] => { results := [.lit (.bool false)], args := [d] }
  | _ => none }
def FnRackPartsWrongFalsely : Prop := fnRackPartsRow.holds Try.pinned (OpenSpec.ofChange fnRackPartsWrong)

/-- 'laws.FnExactCycleSetText': WHATEVER THE INPUT: true; the input reads as it did. -/
def fnExactCycleSetTextSpec : ChangeSpec := { name := "fnExactCycleSetText", fn := fun _ => fun
  | [d] => { results := [.lit (.bool true)], args := [d] }
  | _ => none }
def fnExactCycleSetTextRow : OpenClaim := { program := "ytmofdccagnbccab", sum := "b4c0dadb557acbceaa6b30af62e163fbae804f4e7b2391944b355ab691c91c70", func := "loop.example/g01119/laws.FnExactCycleSetText", spec := "fnExactCycleSetText", inPlace := ["internal/abi.NoEscape", "internal/bytealg.MakeNoZero"], unfollowed := true, recurses := true, apart := false }
def FnExactCycleSetTextSaid : Prop := fnExactCycleSetTextRow.holds Try.pinned (OpenSpec.ofChange fnExactCycleSetTextSpec)

/-- ITS FALSE NEIGHBOUR: 'it returns false'. Refute it at one input. -/
def fnExactCycleSetTextWrong : ChangeSpec := { name := "fnExactCycleSetText", fn := fun _ => fun
  | [d] => { results := [.lit (.bool false)], args := [d] }
  | _ => none }
def FnExactCycleSetTextWrongFalsely : Prop := fnExactCycleSetTextRow.holds Try.pinned (OpenSpec.ofChange fnExactCycleSetTextWrong)

/-- 'laws.FnExactIsInvolutoryRack': WHATEVER THE INPUT: true; the input reads as it did. -/
def fnExactIsInvolutoryRackSpec : ChangeSpec := { name := "fnExactIsInvolutoryRack", fn := fun _ => fun
  | [d] => { results := [.lit (.bool true)], args := [d] }
  | _ => none }
def fnExactIsInvolutoryRackRow : OpenClaim := { program := "ytmofdccagnbccab", sum := "b4c0dadb557acbceaa6b30af62e163fbae804f4e7b2391944b355ab691c91c70", func := "loop.example/g01119/laws.FnExactIsInvolutoryRack", spec := "fnExactIsInvolutoryRack", unfollowed := true, recurses := true, apart := false }
def FnExactIsInvolutoryRackSaid : Prop := fnExactIsInvolutoryRackRow.holds Try.pinned (OpenSpec.ofChange fnExactIsInvolutoryRackSpec)

/-- ITS FALSE NEIGHBOUR: 'it returns false'. Refute it at one input. -/
def fnExactIsInvolutoryRackWrong : ChangeSpec := { name := "fnExactIsInvolutoryRack", fn := fun _ => fun
  | [d] => { results := [.lit (.bool false)], args := [d] }
  | _ => none }
def FnExactIsInvolutoryRackWrongFalsely : Prop := fnExactIsInvolutoryRackRow.holds Try.pinned (OpenSpec.ofChange fnExactIsInvolutoryRackWrong)

/-- 'laws.FnExactKinkOf': WHATEVER THE INPUT: true; the input reads as it did. -/
def fnExactKinkOfSpec : ChangeSpec := { name := "fnExactKinkOf", fn := fun _ => fun
  | [d] => { results := [.lit (.bool true)], args := [d] }
  | _ => none }
def fnExactKinkOfRow : OpenClaim := { program := "ytmofdccagnbccab", sum := "b4c0dadb557acbceaa6b30af62e163fbae804f4e7b2391944b355ab691c91c70", func := "loop.example/g01119/laws.FnExactKinkOf", spec := "fnExactKinkOf", unfollowed := true, recurses := true, apart := false }
def FnExactKinkOfSaid : Prop := fnExactKinkOfRow.holds Try.pinned (OpenSpec.ofChange fnExactKinkOfSpec)

/-- ITS FALSE NEIGHBOUR: 'it returns false'. Refute it at one input. -/
def fnExactKinkOfWrong : ChangeSpec := { name := "fnExactKinkOf", fn := fun _ => fun
  | [d] => { results := [.lit (.bool false)], args := [d] }
  | _ => none }
def FnExactKinkOfWrongFalsely : Prop := fnExactKinkOfRow.holds Try.pinned (OpenSpec.ofChange fnExactKinkOfWrong)

/-- 'laws.FnExactIsSquareFreeCycleSet': WHATEVER THE INPUT: true; the input reads as it did. -/
def fnExactIsSquareFreeCycleSetSpec : ChangeSpec := { name := "fnExactIsSquareFreeCycleSet", fn := fun _ => fun
  | [d] => { results := [.lit (.bool true)], args := [d] }
  | _ => none }
def fnExactIsSquareFreeCycleSetRow : OpenClaim := { program := "ytmofdccagnbccab", sum := "b4c0dadb557acbceaa6b30af62e163fbae804f4e7b2391944b355ab691c91c70", func := "loop.example/g01119/laws.FnExactIsSquareFreeCycleSet", spec := "fnExactIsSquareFreeCycleSet", unfollowed := true, recurses := true, apart := false }
def FnExactIsSquareFreeCycleSetSaid : Prop := fnExactIsSquareFreeCycleSetRow.holds Try.pinned (OpenSpec.ofChange fnExactIsSquareFreeCycleSetSpec)

/-- ITS FALSE NEIGHBOUR: 'it returns false'. Refute it at one input. -/
def fnExactIsSquareFreeCycleSetWrong : ChangeSpec := { name := "fnExactIsSquareFreeCycleSet", fn := fun _ => fun
  | [d] => { results := [.lit (.bool false)], args := [d] }
  | _ => none }
def FnExactIsSquareFreeCycleSetWrongFalsely : Prop := fnExactIsSquareFreeCycleSetRow.holds Try.pinned (OpenSpec.ofChange fnExactIsSquareFreeCycleSetWrong)

/-- 'laws.FnExactIsCongruence': WHATEVER THE INPUT: true; the input reads as it did. -/
def fnExactIsCongruenceSpec : ChangeSpec := { name := "fnExactIsCongruence", fn := fun _ => fun
  | [d1, d2] => { results := [.lit (.bool true)], args := [d1, d2] }
  | _ => none }
def fnExactIsCongruenceRow : OpenClaim := { program := "ytmofdccagnbccab", sum := "b4c0dadb557acbceaa6b30af62e163fbae804f4e7b2391944b355ab691c91c70", func := "loop.example/g01119/laws.FnExactIsCongruence", spec := "fnExactIsCongruence", unfollowed := true, recurses := true, apart := false }
def FnExactIsCongruenceSaid : Prop := fnExactIsCongruenceRow.holds Try.pinned (OpenSpec.ofChange fnExactIsCongruenceSpec)

/-- ITS FALSE NEIGHBOUR: 'it returns false'. Refute it at one input. -/
def fnExactIsCongruenceWrong : ChangeSpec := { name := "fnExactIsCongruence", fn := fun _ => fun
  | [d1, d2] => { results := [.lit (.bool false)], args := [d1, d2] }
  | _ => none }
def FnExactIsCongruenceWrongFalsely : Prop := fnExactIsCongruenceRow.holds Try.pinned (OpenSpec.ofChange fnExactIsCongruenceWrong)

/-- 'laws.FnExactDualRack': WHATEVER THE INPUT: true; the input reads as it did. -/
def fnExactDualRackSpec : ChangeSpec := { name := "fnExactDualRack", fn := fun _ => fun
  | [d] => { results := [.lit (.bool true)], args := [d] }
  | _ => none }
def fnExactDualRackRow : OpenClaim := { program := "ytmofdccagnbccab", sum := "b4c0dadb557acbceaa6b30af62e163fbae804f4e7b2391944b355ab691c91c70", func := "loop.example/g01119/laws.FnExactDualRack", spec := "fnExactDualRack", unfollowed := true, recurses := true, apart := false }
def FnExactDualRackSaid : Prop := fnExactDualRackRow.holds Try.pinned (OpenSpec.ofChange fnExactDualRackSpec)

/-- ITS FALSE NEIGHBOUR: 'it returns false'. Refute it at one input. -/
def fnExactDualRackWrong : ChangeSpec := { name := "fnExactDualRack", fn := fun _ => fun
  | [d] => { results := [.lit (.bool false)], args := [d] }
  | _ => none }
def FnExactDualRackWrongFalsely : Prop := fnExactDualRackRow.holds Try.pinned (OpenSpec.ofChange fnExactDualRackWrong)

/-- 'laws.FnExactIsConnectedRack': WHATEVER THE INPUT: true; the input reads as it did. -/
def fnExactIsConnectedRackSpec : ChangeSpec := { name := "fnExactIsConnectedRack", fn := fun _ => fun
  | [d] => { results := [.lit (.bool true)], args := [d] }
  | _ => none }
def fnExactIsConnectedRackRow : OpenClaim := { program := "ytmofdccagnbccab", sum := "b4c0dadb557acbceaa6b30af62e163fbae804f4e7b2391944b355ab691c91c70", func := "loop.example/g01119/laws.FnExactIsConnectedRack", spec := "fnExactIsConnectedRack", unfollowed := true, recurses := true, apart := false }
def FnExactIsConnectedRackSaid : Prop := fnExactIsConnectedRackRow.holds Try.pinned (OpenSpec.ofChange fnExactIsConnectedRackSpec)

/-- ITS FALSE NEIGHBOUR: 'it returns false'. Refute it at one input. -/
def fnExactIsConnectedRackWrong : ChangeSpec := { name := "fnExactIsConnectedRack", fn := fun _ => fun
  | [d] => { results := [.lit (.bool false)], args := [d] }
  | _ => none }
def FnExactIsConnectedRackWrongFalsely : Prop := fnExactIsConnectedRackRow.holds Try.pinned (OpenSpec.ofChange fnExactIsConnectedRackWrong)

/-- 'laws.FnExactCountRackMaps': WHATEVER THE INPUT: true; the input reads as it did. -/
def fnExactCountRackMapsSpec : ChangeSpec := { name := "fnExactCountRackMaps", fn := fun _ => fun
  | [d1, d2] => { results := [.lit (.bool true)], args := [d1, d2] }
  | _ => none }
def fnExactCountRackMapsRow : OpenClaim := { program := "ytmofdccagnbccab", sum := "b4c0dadb557acbceaa6b30af62e163fbae804f4e7b2391944b355ab691c91c70", func := "loop.example/g01119/laws.FnExactCountRackMaps", spec := "fnExactCountRackMaps", unfollowed := true, recurses := true, apart := false }
def FnExactCountRackMapsSaid : Prop := fnExactCountRackMapsRow.holds Try.pinned (OpenSpec.ofChange fnExactCountRackMapsSpec)

/-- ITS FALSE NEIGHBOUR: 'it returns false'. Refute it at one input. -/
def fnExactCountRackMapsWrong : ChangeSpec := { name := "fnExactCountRackMaps", fn := fun _ => fun
  | [d1, d2] => { results := [.lit (.bool false)], args := [d1, d2] }
  | _ => none }
def FnExactCountRackMapsWrongFalsely : Prop := fnExactCountRackMapsRow.holds Try.pinned (OpenSpec.ofChange fnExactCountRackMapsWrong)

/-- 'laws.FnExactProductRack': WHATEVER THE INPUT: true; the input reads as it did. -/
def fnExactProductRackSpec : ChangeSpec := { name := "fnExactProductRack", fn := fun _ => fun
  | [d1, d2] => { results := [.lit (.bool true)], args := [d1, d2] }
  | _ => none }
def fnExactProductRackRow : OpenClaim := { program := "ytmofdccagnbccab", sum := "b4c0dadb557acbceaa6b30af62e163fbae804f4e7b2391944b355ab691c91c70", func := "loop.example/g01119/laws.FnExactProductRack", spec := "fnExactProductRack", unfollowed := true, recurses := true, apart := false }
def FnExactProductRackSaid : Prop := fnExactProductRackRow.holds Try.pinned (OpenSpec.ofChange fnExactProductRackSpec)

/-- ITS FALSE NEIGHBOUR: 'it returns false'. Refute it at one input. -/
def fnExactProductRackWrong : ChangeSpec := { name := "fnExactProductRack", fn := fun _ => fun
  | [d1, d2] => { results := [.lit (.bool false)], args := [d1, d2] }
  | _ => none }
def FnExactProductRackWrongFalsely : Prop := fnExactProductRackRow.holds Try.pinned (OpenSpec.ofChange fnExactProductRackWrong)

/- THE SECOND FORM. 'bulk': how many values and letters a reading holds, each counted each time it is reached (what is shared counts as often as it is met; a slice's spare places count too). A statement '..UptoSaid' is the law's where the arguments, and the package variables that the reading takes, are together of bulk at most 1048576: NARROWER than '..Said'. Prove '..Said' where nothing that the law and all that it calls make is longer than what came in: it says more and counts as full. Else prove '..UptoSaid'. A law counts once. -/
mutual
def uptoBulk {H : Type} : DataW H → Nat
  | .lit (.string bytes) => bytes.length + 1
  | .lit _ => 1
  | .nil => 1
  | .ptr d => uptoBulk d + 1
  | .slice elems spare => uptoBulkAll elems + uptoBulkAll spare + 1
  | .agg parts => uptoBulkAll parts + 1
  | .iface _ d => uptoBulk d + 1
  | .map entries => uptoBulkEntries entries + 1
  | .held _ => 1
def uptoBulkAll {H : Type} : List (DataW H) → Nat
  | [] => 0
  | d :: r => uptoBulk d + uptoBulkAll r
def uptoBulkEntries {H : Type} : List (Lit × DataW H) → Nat
  | [] => 0
  | x :: r => uptoBulkEntry x + uptoBulkEntries r
def uptoBulkEntry {H : Type} : Lit × DataW H → Nat
  | (.string bytes, d) => bytes.length + uptoBulk d + 1
  | (_, d) => uptoBulk d + 1
 end
def uptoSmall : (H : Type) → List (DataW H) → Bool := fun _ ds => decide (uptoBulkAll ds ≤ 1048576)
def OpenSpec.upto (s : _root_.Go.ChangeSpec) : _root_.Go.OpenSpec := { _root_.Go.OpenSpec.ofChange s with cond := some uptoSmall }

/-- 'laws.FnExactAffineCycleSet', WHERE WHAT IT READS IS OF BULK AT MOST 1048576: true; the input reads as it did. -/
def fnExactAffineCycleSetUptoRow : OpenClaim := { program := "ytmofdccagnbccab", sum := "b4c0dadb557acbceaa6b30af62e163fbae804f4e7b2391944b355ab691c91c70", func := "loop.example/g01119/laws.FnExactAffineCycleSet", spec := "fnExactAffineCycleSet", unfollowed := true, recurses := true, apart := false, narrowed := true }
def FnExactAffineCycleSetUptoSaid : Prop := fnExactAffineCycleSetUptoRow.holds Try.pinned (OpenSpec.upto fnExactAffineCycleSetSpec)

/-- 'laws.FnRackParts', WHERE WHAT IT READS IS OF BULK AT MOST 1048576: true; the input reads as it did. -/
def fnRackPartsUptoRow : OpenClaim := { program := "ytmofdccagnbccab", sum := "b4c0dadb557acbceaa6b30af62e163fbae804f4e7b2391944b355ab691c91c70", func := "loop.example/g01119/laws.FnRackParts", spec := "fnRackParts", unfollowed := true, recurses := true, apart := false, narrowed := true }
def FnRackPartsUptoSaid : Prop := fnRackPartsUptoRow.holds Try.pinned (OpenSpec.upto fnRackPartsSpec)

/-- 'laws.FnExactCycleSetText', WHERE WHAT IT READS IS OF BULK AT MOST 1048576: true; the input reads as it did. -/
def fnExactCycleSetTextUptoRow : OpenClaim := { program := "ytmofdccagnbccab", sum := "b4c0dadb557acbceaa6b30af62e163fbae804f4e7b2391944b355ab691c91c70", func := "loop.example/g01119/laws.FnExactCycleSetText", spec := "fnExactCycleSetText", inPlace := ["internal/abi.NoEscape", "internal/bytealg.MakeNoZero"], unfollowed := true, recurses := true, apart := false, narrowed := true }
def FnExactCycleSetTextUptoSaid : Prop := fnExactCycleSetTextUptoRow.holds Try.pinned (OpenSpec.upto fnExactCycleSetTextSpec)

/-- 'laws.FnExactIsInvolutoryRack', WHERE WHAT IT READS IS OF BULK AT MOST 1048576: true; the input reads as it did. -/
def fnExactIsInvolutoryRackUptoRow : OpenClaim := { program := "ytmofdccagnbccab", sum := "b4c0dadb557acbceaa6b30af62e163fbae804f4e7b2391944b355ab691c91c70", func := "loop.example/g01119/laws.FnExactIsInvolutoryRack", spec := "fnExactIsInvolutoryRack", unfollowed := true, recurses := true, apart := false, narrowed := true }
def FnExactIsInvolutoryRackUptoSaid : Prop := fnExactIsInvolutoryRackUptoRow.holds Try.pinned (OpenSpec.upto fnExactIsInvolutoryRackSpec)

/-- 'laws.FnExactKinkOf', WHERE WHAT IT READS IS OF BULK AT MOST 1048576: true; the input reads as it did. -/
def fnExactKinkOfUptoRow : OpenClaim := { program := "ytmofdccagnbccab", sum := "b4c0dadb557acbceaa6b30af62e163fbae804f4e7b2391944b355ab691c91c70", func := "loop.example/g01119/laws.FnExactKinkOf", spec := "fnExactKinkOf", unfollowed := true, recurses := true, apart := false, narrowed := true }
def FnExactKinkOfUptoSaid : Prop := fnExactKinkOfUptoRow.holds Try.pinned (OpenSpec.upto fnExactKinkOfSpec)

/-- 'laws.FnExactIsSquareFreeCycleSet', WHERE WHAT IT READS IS OF BULK AT MOST 1048576: true; the input reads as it did. -/
def fnExactIsSquareFreeCycleSetUptoRow : OpenClaim := { program := "ytmofdccagnbccab", sum := "b4c0dadb557acbceaa6b30af62e163fbae804f4e7b2391944b355ab691c91c70", func := "loop.example/g01119/laws.FnExactIsSquareFreeCycleSet", spec := "fnExactIsSquareFreeCycleSet", unfollowed := true, recurses := true, apart := false, narrowed := true }
def FnExactIsSquareFreeCycleSetUptoSaid : Prop := fnExactIsSquareFreeCycleSetUptoRow.holds Try.pinned (OpenSpec.upto fnExactIsSquareFreeCycleSetSpec)

/-- 'laws.FnExactIsCongruence', WHERE WHAT IT READS IS OF BULK AT MOST 1048576: true; the input reads as it did. -/
def fnExactIsCongruenceUptoRow : OpenClaim := { program := "ytmofdccagnbccab", sum := "b4c0dadb557acbceaa6b30af62e163fbae804f4e7b2391944b355ab691c91c70", func := "loop.example/g01119/laws.FnExactIsCongruence", spec := "fnExactIsCongruence", unfollowed := true, recurses := true, apart := false, narrowed := true }
def FnExactIsCongruenceUptoSaid : Prop := fnExactIsCongruenceUptoRow.holds Try.pinned (OpenSpec.upto fnExactIsCongruenceSpec)

/-- 'laws.FnExactDualRack', WHERE WHAT IT READS IS OF BULK AT MOST 1048576: true; the input reads as it did. -/
def fnExactDualRackUptoRow : OpenClaim := { program := "ytmofdccagnbccab", sum := "b4c0dadb557acbceaa6b30af62e163fbae804f4e7b2391944b355ab691c91c70", func := "loop.example/g01119/laws.FnExactDualRack", spec := "fnExactDualRack", unfollowed := true, recurses := true, apart := false, narrowed := true }
def FnExactDualRackUptoSaid : Prop := fnExactDualRackUptoRow.holds Try.pinned (OpenSpec.upto fnExactDualRackSpec)

/-- 'laws.FnExactIsConnectedRack', WHERE WHAT IT READS IS OF BULK AT MOST 1048576: true; the input reads as it did. -/
def fnExactIsConnectedRackUptoRow : OpenClaim := { program := "ytmofdccagnbccab", sum := "b4c0dadb557acbceaa6b30af62e163fbae804f4e7b2391944b355ab691c91c70", func := "loop.example/g01119/laws.FnExactIsConnectedRack", spec := "fnExactIsConnectedRack", unfollowed := true, recurses := true, apart := false, narrowed := true }
def FnExactIsConnectedRackUptoSaid : Prop := fnExactIsConnectedRackUptoRow.holds Try.pinned (OpenSpec.upto fnExactIsConnectedRackSpec)

/-- 'laws.FnExactCountRackMaps', WHERE WHAT IT READS IS OF BULK AT MOST 1048576: true; the input reads as it did. -/
def fnExactCountRackMapsUptoRow : OpenClaim := { program := "ytmofdccagnbccab", sum := "b4c0dadb557acbceaa6b30af62e163fbae804f4e7b2391944b355ab691c91c70", func := "loop.example/g01119/laws.FnExactCountRackMaps", spec := "fnExactCountRackMaps", unfollowed := true, recurses := true, apart := false, narrowed := true }
def FnExactCountRackMapsUptoSaid : Prop := fnExactCountRackMapsUptoRow.holds Try.pinned (OpenSpec.upto fnExactCountRackMapsSpec)

/-- 'laws.FnExactProductRack', WHERE WHAT IT READS IS OF BULK AT MOST 1048576: true; the input reads as it did. -/
def fnExactProductRackUptoRow : OpenClaim := { program := "ytmofdccagnbccab", sum := "b4c0dadb557acbceaa6b30af62e163fbae804f4e7b2391944b355ab691c91c70", func := "loop.example/g01119/laws.FnExactProductRack", spec := "fnExactProductRack", unfollowed := true, recurses := true, apart := false, narrowed := true }
def FnExactProductRackUptoSaid : Prop := fnExactProductRackUptoRow.holds Try.pinned (OpenSpec.upto fnExactProductRackSpec)

end Rows
end Go.Proofs.Ytmofdccagnbccab

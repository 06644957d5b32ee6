/-
  No cell of these rows narrows 'for every input' (looked for: loops, veiled, ifaces, maps, wideKeys, modest, calm, conditions, laid).
  DERIVED. THE GIVEN ROWS OF THIS SEAT. 4 by the template 'for every input the law returns true; each argument reads behind the call as it read before'; 0 by the template 'total and deterministic' (their statements: YtbcdcnddnldijaaTotals.lean).
  GIVEN WITH THE SEED: the statements are not yours to turn. If you find one false, say at which input.
  Laid BY PROGRAM, IN A SANDBOX (cutbox-rows.mjs): the forced cells as the released guide's own fill.sh prints them over the translation afea8eabc3e6cf0d… (all of the seat's roots in one cut). By AI agents, Wed Nov 11 2026. No macro, syntax, notation, axiom, sorry.
-/
import Derived.Test.YtbcdcnddnldijaaChecked
import GoSem.Claim
import GoSem.ClaimJoined
import GoSem.ClaimMapViews
import Derived.JoinedTies
import Derived.KernelRfl
namespace Go.Proofs.Ytbcdcnddnldijaa
/- THE CELL 'sum', in the pinned program and in every row, IS THE sha256 OF THE DUMP (.gsa) THAT YtbcdcnddnldijaaProg.lean LOADS. Nothing in Lean hashes anything: it is a label: what it is worth is what the hold of that sum in a sandbox is worth. -/
noncomputable def Try.pinned : Pinned := { name := "ytbcdcnddnldijaa", sum := "afea8eabc3e6cf0d91426f3b09f5068674846a807cd6048e456581470db64d9f", checked := Try.checked }
namespace Rows
def none {H : Type} : Left H := { results := [], args := [] }

/-- 'laws.FnExactCycleSetOfSolution': WHATEVER THE INPUT: true; the input reads as it did. -/
def fnExactCycleSetOfSolutionSpec : ChangeSpec := { name := "fnExactCycleSetOfSolution", fn := fun _ => fun
  | [d] => { results := [.lit (.bool true)], args := [d] }
  | _ => none }
def fnExactCycleSetOfSolutionRow : OpenClaim := { program := "ytbcdcnddnldijaa", sum := "afea8eabc3e6cf0d91426f3b09f5068674846a807cd6048e456581470db64d9f", func := "loop.example/g01119/laws.FnExactCycleSetOfSolution", spec := "fnExactCycleSetOfSolution", unfollowed := true, recurses := true, apart := false }
def FnExactCycleSetOfSolutionSaid : Prop := fnExactCycleSetOfSolutionRow.holds Try.pinned (OpenSpec.ofChange fnExactCycleSetOfSolutionSpec)

/-- ITS FALSE NEIGHBOUR: 'it returns false'. Refute it at one input. -/
def fnExactCycleSetOfSolutionWrong : ChangeSpec := { name := "fnExactCycleSetOfSolution", fn := fun _ => fun
  | [d] => { results := [.lit (.bool false)], args := [d] }
  | _ => none }
def FnExactCycleSetOfSolutionWrongFalsely : Prop := fnExactCycleSetOfSolutionRow.holds Try.pinned (OpenSpec.ofChange fnExactCycleSetOfSolutionWrong)

/-- 'laws.FnExactSubrackFrom': WHATEVER THE INPUT: true; the input reads as it did. -/
def fnExactSubrackFromSpec : ChangeSpec := { name := "fnExactSubrackFrom", fn := fun _ => fun
  | [d1, d2] => { results := [.lit (.bool true)], args := [d1, d2] }
  | _ => none }
def fnExactSubrackFromRow : OpenClaim := { program := "ytbcdcnddnldijaa", sum := "afea8eabc3e6cf0d91426f3b09f5068674846a807cd6048e456581470db64d9f", func := "loop.example/g01119/laws.FnExactSubrackFrom", spec := "fnExactSubrackFrom", unfollowed := true, recurses := true, apart := false }
def FnExactSubrackFromSaid : Prop := fnExactSubrackFromRow.holds Try.pinned (OpenSpec.ofChange fnExactSubrackFromSpec)

/-- ITS FALSE NEIGHBOUR: 'it returns false'. Refute it at one input. -/
def fnExactSubrackFromWrong : ChangeSpec := { name := "fnExactSubrackFrom", fn := fun _ => fun
  | [d1, d2] => { results := [.lit (.bool false)], args := [d1, d2] }
  | _ => none }
def FnExactSubrackFromWrongFalsely : Prop := fnExactSubrackFromRow.holds Try.pinned (OpenSpec.ofChange fnExactSubrackFromWrong)

/-- 'laws.FnExactClassQuandle': WHATEVER THE INPUT: true; the input reads as it did. -/
def fnExactClassQuandleSpec : ChangeSpec := { name := "fnExactClassQuandle", fn := fun _ => fun
  | [d] => { results := [.lit (.bool true)], args := [d] }
  | _ => none }
def fnExactClassQuandleRow : OpenClaim := { program := "ytbcdcnddnldijaa", sum := "afea8eabc3e6cf0d91426f3b09f5068674846a807cd6048e456581470db64d9f", func := "loop.example/g01119/laws.FnExactClassQuandle", spec := "fnExactClassQuandle", unfollowed := true, recurses := true, apart := false }
def FnExactClassQuandleSaid : Prop := fnExactClassQuandleRow.holds Try.pinned (OpenSpec.ofChange fnExactClassQuandleSpec)

/-- ITS FALSE NEIGHBOUR: 'it returns false'. Refute it at one input. -/
def fnExactClassQuandleWrong : ChangeSpec := { name := "fnExactClassQuandle", fn := fun _ => fun
  | [d] => { results := [.lit (.bool false)], args := [d] }
  | _ => none }
def FnExactClassQuandleWrongFalsely : Prop := fnExactClassQuandleRow.holds Try.pinned (OpenSpec.ofChange fnExactClassQuandleWrong)

/-- 'laws.FnExactRackIsomorphism': WHATEVER THE INPUT: true; the input reads as it did. -/
def fnExactRackIsomorphismSpec : ChangeSpec := { name := "fnExactRackIsomorphism", fn := fun _ => fun
  | [d1, d2] => { results := [.lit (.bool true)], args := [d1, d2] }
  | _ => none }
def fnExactRackIsomorphismRow : OpenClaim := { program := "ytbcdcnddnldijaa", sum := "afea8eabc3e6cf0d91426f3b09f5068674846a807cd6048e456581470db64d9f", func := "loop.example/g01119/laws.FnExactRackIsomorphism", spec := "fnExactRackIsomorphism", unfollowed := true, recurses := true, apart := false }
def FnExactRackIsomorphismSaid : Prop := fnExactRackIsomorphismRow.holds Try.pinned (OpenSpec.ofChange fnExactRackIsomorphismSpec)

/-- ITS FALSE NEIGHBOUR: 'it returns false'. Refute it at one input. -/
def fnExactRackIsomorphismWrong : ChangeSpec := { name := "fnExactRackIsomorphism", fn := fun _ => fun
  | [d1, d2] => { results := [.lit (.bool false)], args := [d1, d2] }
  | _ => none }
def FnExactRackIsomorphismWrongFalsely : Prop := fnExactRackIsomorphismRow.holds Try.pinned (OpenSpec.ofChange fnExactRackIsomorphismWrong)

/- THE SECOND FORM. 'bulk': how many values and letters a reading holds, each counted each time it is reached (what is shared counts as often as it is met; a slice's spare places count too). A statement '..UptoSaid' is the law's where the arguments, and the package variables that the reading takes, are together of bulk at most 1048576: NARROWER than '..Said'. Prove '..Said' where nothing that the law and all that it calls make is longer than what came in: it says more and counts as full. Else prove '..UptoSaid'. A law counts once. -/
mutual
def uptoBulk {H : Type} : DataW H → Nat
  | .lit (.string bytes) => bytes.length + 1
  | .lit _ => 1
  | .nil => 1
  | .ptr d => uptoBulk d + 1
  | .slice elems spare => uptoBulkAll elems + uptoBulkAll spare + 1
  | .agg parts => uptoBulkAll parts + 1
  | .iface _ d => uptoBulk d + 1
  | .map entries => uptoBulkEntries entries + 1
  | .held _ => 1
def uptoBulkAll {H : Type} : List (DataW H) → Nat
  | [] => 0
  | d :: r => uptoBulk d + uptoBulkAll r
def uptoBulkEntries {H : Type} : List (Lit × DataW H) → Nat
  | [] => 0
  | x :: r => uptoBulkEntry x + uptoBulkEntries r
def uptoBulkEntry {H : Type} : Lit × DataW H → Nat
  | (.string bytes, d) => bytes.length + uptoBulk d + 1
  | (_, d) => uptoBulk d + 1
 end
def uptoSmall : (H : Type) → List (DataW H) → Bool := fun _ ds => decide (uptoBulkAll ds ≤ 1048576)
def OpenSpec.upto (s : _root_.Go.ChangeSpec) : _root_.Go.OpenSpec := { _root_.Go.OpenSpec.ofChange s with cond := some uptoSmall }

/-- 'laws.FnExactCycleSetOfSolution', WHERE WHAT IT READS IS OF BULK AT MOST 1048576: true; the input reads as it did. -/
def fnExactCycleSetOfSolutionUptoRow : OpenClaim := { program := "ytbcdcnddnldijaa", sum := "afea8eabc3e6cf0d91426f3b09f5068674846a807cd6048e456581470db64d9f", func := "loop.example/g01119/laws.FnExactCycleSetOfSolution", spec := "fnExactCycleSetOfSolution", unfollowed := true, recurses := true, apart := false, narrowed := true }
def FnExactCycleSetOfSolutionUptoSaid : Prop := fnExactCycleSetOfSolutionUptoRow.holds Try.pinned (OpenSpec.upto fnExactCycleSetOfSolutionSpec)

/-- 'laws.FnExactSubrackFrom', WHERE WHAT IT READS IS OF BULK AT MOST 1048576: true; the input reads as it did. -/
def fnExactSubrackFromUptoRow : OpenClaim := { program := "ytbcdcnddnldijaa", sum := "afea8eabc3e6cf0d91426f3b09f5068674846a807cd6048e456581470db64d9f", func := "loop.example/g01119/laws.FnExactSubrackFrom", spec := "fnExactSubrackFrom", unfollowed := true, recurses := true, apart := false, narrowed := true }
def FnExactSubrackFromUptoSaid : Prop := fnExactSubrackFromUptoRow.holds Try.pinned (OpenSpec.upto fnExactSubrackFromSpec)

/-- 'laws.FnExactClassQuandle', WHERE WHAT IT READS IS OF BULK AT MOST 1048576: true; the input reads as it did. -/
def fnExactClassQuandleUptoRow : OpenClaim := { program := "ytbcdcnddnldijaa", sum := "afea8eabc3e6cf0d91426f3b09f5068674846a807cd6048e456581470db64d9f", func := "loop.example/g01119/laws.FnExactClassQuandle", spec := "fnExactClassQuandle", unfollowed := true, recurses := true, apart := false, narrowed := true }
def FnExactClassQuandleUptoSaid : Prop := fnExactClassQuandleUptoRow.holds Try.pinned (OpenSpec.upto fnExactClassQuandleSpec)

/-- 'laws.FnExactRackIsomorphism', WHERE WHAT IT READS IS OF BULK AT MOST 1048576: true; the input reads as it did. -/
def fnExactRackIsomorphismUptoRow : OpenClaim := { program := "ytbcdcnddnldijaa", sum := "afea8eabc3e6cf0d91426f3b09f5068674846a807cd6048e456581470db64d9f", func := "loop.example/g01119/laws.FnExactRackIsomorphism", spec := "fnExactRackIsomorphism", unfollowed := true, recurses := true, apart := false, narrowed := true }
def FnExactRackIsomorphismUptoSaid : Prop := fnExactRackIsomorphismUptoRow.holds Try.pinned (OpenSpec.upto fnExactRackIsomorphismSpec)

end Rows
end Go.Proofs.Ytbcdcnddnldijaa

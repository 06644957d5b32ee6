/- The value layer: what an iterator does for its loop, and the loop over it; no condition. -/
import Derived.Test.YtggeeemecgmhiaaWg
namespace Go.Proofs.Ytggeeemecgmhiaa
def Grw (Z : Nat → Prop) (W : World) (Z' : Nat → Prop) (W' : World) : Prop :=
  W.heap.size ≤ W'.heap.size ∧ (∀ b, b < W.heap.size → ¬ Z b → W'.heap[b]? = W.heap[b]?) ∧ (∀ b, Z' b → b < W'.heap.size ∧ (Z b ∨ W.heap.size ≤ b)) ∧ W'.os = W.os ∧ W'.tape = W.tape ∧ W'.output = W.output
section
variable {P : Program} {G : Glob} {D : Data} {st : St} {a : Act} {w : World} {ofs l : Nat} {rec : LoopState → Option Code → Loop} {R : List (Nat × Ob) → Prop} {o : Loop}
end

end Go.Proofs.Ytggeeemecgmhiaa

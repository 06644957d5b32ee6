/- Plain definitions, the thirteenth part: lists of permutations, drawn tables; no condition. -/
import Derived.Test.YtfpkpefokcphpaaPl
namespace Go.Proofs.Ytfpkpefokcphpaa
def growF : Nat → Int → List Int → List (List Int)
  | 0, _, s => [s]
  | k + 1, n, s => (unitI n).flatMap fun x => if s.contains x then [] else growF k n (s ++ [x])
def growL (n : Int) (s : List Int) : List (List Int) := growF (n - (s.length : Int)).toNat n s
theorem mem_app {α : Type} {l : List α} {x : α} {P : α → Prop} (h : ∀ z ∈ l, P z) (hx : P x) : ∀ z ∈ l ++ [x], P z := fun z hz => by
  rcases List.mem_append.1 hz with h1 | h1
  · exact h z h1
  · rw [List.mem_singleton.1 h1]; exact hx
end Go.Proofs.Ytfpkpefokcphpaa

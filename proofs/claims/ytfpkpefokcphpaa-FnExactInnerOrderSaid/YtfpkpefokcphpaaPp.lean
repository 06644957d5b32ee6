/- Plain definitions, the sixteenth part: quotients by least congruences, racks on least subracks, masks; no condition. -/
import Derived.Test.YtfpkpefokcphpaaPo
namespace Go.Proofs.Ytfpkpefokcphpaa
/-! Least congruences. -/
section
variable {r : List (List Int)} (h : isRk r = true) {x y : Int} (hx : 0 ≤ x ∧ x < (r.length : Int)) (hy : 0 ≤ y ∧ y < (r.length : Int))
include h hx hy
end
/-! Least subracks. -/
section
variable {r : List (List Int)} (h : isRk r = true) {l : List Int} (hl : ∀ x ∈ l, 0 ≤ x ∧ x < (r.length : Int))
include h hl
end
end Go.Proofs.Ytfpkpefokcphpaa

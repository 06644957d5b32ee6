/- The value layer: calls that take over what they are handed; no condition. -/
import Derived.Test.YtbodlnpmplcaoaaWe
namespace Go.Proofs.Ytbodlnpmplcaoaa
section
variable {P : Program} {st : St} {ty : TypeId}

end
theorem set_ltH {α : Type} {f : α → C} {l : List α} {i : Int} {j : Nat} {c : C} (h : 0 ≤ i ∧ i < (l.length : Int)) : i.toNat < ((l.map f).set j c).length := by simp; omega
theorem set_setH {l : List C} {i : Nat} {a b : C} : (l.set i a).set i b = l.set i b := by simp [List.set_set]

end Go.Proofs.Ytbodlnpmplcaoaa

/- Plain definitions, the fourth part: truth of propositions, the one thing with a property, partitions, congruences, products; no condition. -/
import Derived.Test.YtfpkpefokcphpaaPc
namespace Go.Proofs.Ytfpkpefokcphpaa
noncomputable def dec (P : Prop) : Bool := @decide P (Classical.propDecidable P)
theorem dec_iff {P : Prop} : dec P = true ↔ P := @decide_eq_true_iff P (Classical.propDecidable P)
noncomputable def the {α : Type} [Inhabited α] (P : α → Prop) : α := Classical.epsilon P
end Go.Proofs.Ytfpkpefokcphpaa

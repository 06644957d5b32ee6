/- Plain definitions, the fourth part: truth of propositions, the one thing with a property, partitions, congruences, products; no condition. -/
import Derived.Test.YtfpkpefokcphpaaPc
namespace Go.Proofs.Ytfpkpefokcphpaa
noncomputable def dec (P : Prop) : Bool := @decide P (Classical.propDecidable P)
theorem dec_t {P : Prop} (h : P) : dec P = true := @decide_eq_true P (Classical.propDecidable P) h
theorem dec_f {P : Prop} (h : ¬ P) : dec P = false := @decide_eq_false P (Classical.propDecidable P) h
noncomputable def the {α : Type} [Inhabited α] (P : α → Prop) : α := Classical.epsilon P
theorem the_spec {α : Type} [Inhabited α] {P : α → Prop} {a : α} (h : P a) : P (the P) := Classical.epsilon_spec ⟨a, h⟩
end Go.Proofs.Ytfpkpefokcphpaa

/- Plain definitions, the fourth part: truth of propositions, the one thing with a property, partitions, congruences, products; no condition. -/
import Derived.Test.YtbodlnpmplcaoaaPc
namespace Go.Proofs.Ytbodlnpmplcaoaa
noncomputable def dec (P : Prop) : Bool := @decide P (Classical.propDecidable P)
theorem dec_t {P : Prop} (h : P) : dec P = true := @decide_eq_true P (Classical.propDecidable P) h
theorem dec_f {P : Prop} (h : ¬ P) : dec P = false := @decide_eq_false P (Classical.propDecidable P) h
theorem dec_iff {P : Prop} : dec P = true ↔ P := @decide_eq_true_iff P (Classical.propDecidable P)
noncomputable def the {α : Type} [Inhabited α] (P : α → Prop) : α := Classical.epsilon P
end Go.Proofs.Ytbodlnpmplcaoaa

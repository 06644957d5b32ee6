/- Plain definitions, the fourth part: truth of propositions, the one thing with a property, partitions, congruences, products; no condition. -/
import Derived.Test.YtpcnbdjommcaoaaPc
namespace Go.Proofs.Ytpcnbdjommcaoaa
noncomputable def the {α : Type} [Inhabited α] (P : α → Prop) : α := Classical.epsilon P
end Go.Proofs.Ytpcnbdjommcaoaa

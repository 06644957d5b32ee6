/- Plain definitions, the fifth part: orbits, labels in the order in which they come first; no condition. -/
import Derived.Test.YtbodlnpmplcaoaaPd
namespace Go.Proofs.Ytbodlnpmplcaoaa

end Go.Proofs.Ytbodlnpmplcaoaa

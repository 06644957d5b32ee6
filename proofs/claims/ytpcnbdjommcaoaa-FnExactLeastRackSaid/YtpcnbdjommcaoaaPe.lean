/- Plain definitions, the fifth part: orbits, labels in the order in which they come first; no condition. -/
import Derived.Test.YtpcnbdjommcaoaaPd
namespace Go.Proofs.Ytpcnbdjommcaoaa

end Go.Proofs.Ytpcnbdjommcaoaa

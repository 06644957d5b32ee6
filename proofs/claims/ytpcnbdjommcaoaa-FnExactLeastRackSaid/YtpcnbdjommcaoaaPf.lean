/- Plain definitions, the sixth part: subracks, sums of powers of two; no condition. -/
import Derived.Test.YtpcnbdjommcaoaaPe
namespace Go.Proofs.Ytpcnbdjommcaoaa

end Go.Proofs.Ytpcnbdjommcaoaa

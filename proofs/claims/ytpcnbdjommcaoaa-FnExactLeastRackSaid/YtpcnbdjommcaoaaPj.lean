/- Plain definitions, the tenth part: pair maps that are solutions, nondegenerate, involutive; no condition. -/
import Derived.Test.YtpcnbdjommcaoaaPi
namespace Go.Proofs.Ytpcnbdjommcaoaa

end Go.Proofs.Ytpcnbdjommcaoaa

/- Plain definitions, the twelfth part: what draws out of a code keeps; no condition. -/
import Derived.Test.YtpcnbdjommcaoaaPk
import Derived.Test.YtpcnbdjommcaoaaWe
namespace Go.Proofs.Ytpcnbdjommcaoaa

end Go.Proofs.Ytpcnbdjommcaoaa

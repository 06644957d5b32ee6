/- Plain definitions, the twelfth part: what draws out of a code keeps; no condition. -/
import Derived.Test.YtfpkpefokcphpaaPk
import Derived.Test.YtfpkpefokcphpaaWe
namespace Go.Proofs.Ytfpkpefokcphpaa

end Go.Proofs.Ytfpkpefokcphpaa

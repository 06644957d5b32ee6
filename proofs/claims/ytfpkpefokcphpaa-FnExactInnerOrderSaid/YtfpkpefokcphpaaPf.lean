/- Plain definitions, the sixth part: subracks, sums of powers of two; no condition. -/
import Derived.Test.YtfpkpefokcphpaaPe
namespace Go.Proofs.Ytfpkpefokcphpaa

end Go.Proofs.Ytfpkpefokcphpaa

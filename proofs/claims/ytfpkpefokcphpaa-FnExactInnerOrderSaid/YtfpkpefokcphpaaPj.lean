/- Plain definitions, the tenth part: pair maps that are solutions, nondegenerate, involutive; no condition. -/
import Derived.Test.YtfpkpefokcphpaaPi
namespace Go.Proofs.Ytfpkpefokcphpaa

end Go.Proofs.Ytfpkpefokcphpaa

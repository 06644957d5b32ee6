/- Plain definitions, the sixth part: subracks, sums of powers of two; no condition. -/
import Derived.Test.YtbodlnpmplcaoaaPe
namespace Go.Proofs.Ytbodlnpmplcaoaa

end Go.Proofs.Ytbodlnpmplcaoaa

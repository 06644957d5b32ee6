/- Plain definitions, the tenth part: pair maps that are solutions, nondegenerate, involutive; no condition. -/
import Derived.Test.YtbodlnpmplcaoaaPi
namespace Go.Proofs.Ytbodlnpmplcaoaa

end Go.Proofs.Ytbodlnpmplcaoaa

/- Plain definitions, the seventh part: conjugations, solutions, orders, quotients, mirrors; no condition. -/
import Derived.Test.YtfpkpefokcphpaaPf
namespace Go.Proofs.Ytfpkpefokcphpaa

end Go.Proofs.Ytfpkpefokcphpaa

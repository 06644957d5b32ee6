/- Contracts of functions that the law FnRacks reaches: conditions, plain proofs, walks; no condition. -/
import Derived.Test.YtbodlnpmplcaoaaKRackse
import Derived.Test.YtbodlnpmplcaoaaPf
namespace Go.Proofs.Ytbodlnpmplcaoaa


end Go.Proofs.Ytbodlnpmplcaoaa

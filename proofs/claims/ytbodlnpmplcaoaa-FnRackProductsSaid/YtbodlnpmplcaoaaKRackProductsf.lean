/- Contracts of functions that the law FnRackProducts reaches: conditions, plain proofs, walks; no condition. -/
import Derived.Test.YtbodlnpmplcaoaaKRackProductse
import Derived.Test.YtbodlnpmplcaoaaPf
namespace Go.Proofs.Ytbodlnpmplcaoaa


end Go.Proofs.Ytbodlnpmplcaoaa

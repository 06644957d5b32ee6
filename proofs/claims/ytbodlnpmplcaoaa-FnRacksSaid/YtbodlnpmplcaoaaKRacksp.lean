/- Contracts of functions that the law FnRacks reaches: conditions, plain proofs, walks; no condition. -/
import Derived.Test.YtbodlnpmplcaoaaKRackso
import Derived.Test.YtbodlnpmplcaoaaPp
namespace Go.Proofs.Ytbodlnpmplcaoaa


end Go.Proofs.Ytbodlnpmplcaoaa

/- Contracts of functions that the law FnRackProducts reaches: conditions, plain proofs, walks; no condition. -/
import Derived.Test.YtbodlnpmplcaoaaKRackProductso
import Derived.Test.YtbodlnpmplcaoaaPp
namespace Go.Proofs.Ytbodlnpmplcaoaa


end Go.Proofs.Ytbodlnpmplcaoaa

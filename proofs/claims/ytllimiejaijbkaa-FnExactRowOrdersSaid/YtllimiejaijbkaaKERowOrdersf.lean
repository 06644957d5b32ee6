/- Contracts of functions that the law FnExactRowOrders reaches: conditions, plain proofs, walks; no condition. -/
import Derived.Test.YtllimiejaijbkaaKERowOrderse
import Derived.Test.YtllimiejaijbkaaPf
namespace Go.Proofs.Ytllimiejaijbkaa


end Go.Proofs.Ytllimiejaijbkaa

/- Contracts of functions that the law FnExactRackSolution reaches: conditions, plain proofs, walks; no condition. -/
import Derived.Test.YtllimiejaijbkaaKERackSolutione
import Derived.Test.YtllimiejaijbkaaPf
namespace Go.Proofs.Ytllimiejaijbkaa


end Go.Proofs.Ytllimiejaijbkaa

/- Contracts of functions that the law FnExactSolutionOfCycleSet reaches: conditions, plain proofs, walks; no condition. -/
import Derived.Test.YtllimiejaijbkaaKESolutionOfCycleSete
import Derived.Test.YtllimiejaijbkaaPf
namespace Go.Proofs.Ytllimiejaijbkaa


end Go.Proofs.Ytllimiejaijbkaa

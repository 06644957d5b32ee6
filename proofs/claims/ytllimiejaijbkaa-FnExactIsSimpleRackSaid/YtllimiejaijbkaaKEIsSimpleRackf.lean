/- Contracts of functions that the law FnExactIsSimpleRack reaches: conditions, plain proofs, walks; no condition. -/
import Derived.Test.YtllimiejaijbkaaKEIsSimpleRacke
import Derived.Test.YtllimiejaijbkaaPf
namespace Go.Proofs.Ytllimiejaijbkaa


end Go.Proofs.Ytllimiejaijbkaa

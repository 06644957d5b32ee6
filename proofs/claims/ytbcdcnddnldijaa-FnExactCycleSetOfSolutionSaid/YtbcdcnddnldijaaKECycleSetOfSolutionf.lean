/- Contracts of functions that the law FnExactCycleSetOfSolution reaches: conditions, plain proofs, walks; no condition. -/
import Derived.Test.YtbcdcnddnldijaaKECycleSetOfSolutione
import Derived.Test.YtbcdcnddnldijaaPf
namespace Go.Proofs.Ytbcdcnddnldijaa


end Go.Proofs.Ytbcdcnddnldijaa

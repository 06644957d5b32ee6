/- Contracts of functions that the law FnExactIsConnectedRack reaches: conditions, plain proofs, walks; no condition. -/
import Derived.Test.YtgekmhiemakaaaaKEIsConnectedRacke
import Derived.Test.YtgekmhiemakaaaaPf
namespace Go.Proofs.Ytgekmhiemakaaaa


end Go.Proofs.Ytgekmhiemakaaaa

/- Contracts of functions that the law FnExactProductRack reaches: conditions, plain proofs, walks; no condition. -/
import Derived.Test.YtgekmhiemakaaaaKEProductRacke
import Derived.Test.YtgekmhiemakaaaaPf
namespace Go.Proofs.Ytgekmhiemakaaaa


end Go.Proofs.Ytgekmhiemakaaaa

/- Contracts of functions that the law FnExactUnionRack reaches: conditions, plain proofs, walks; no condition. -/
import Derived.Test.YtgekmhiemakaaaaKEUnionRacke
import Derived.Test.YtgekmhiemakaaaaPf
namespace Go.Proofs.Ytgekmhiemakaaaa


end Go.Proofs.Ytgekmhiemakaaaa

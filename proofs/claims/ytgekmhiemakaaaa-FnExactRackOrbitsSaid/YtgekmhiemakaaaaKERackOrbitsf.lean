/- Contracts of functions that the law FnExactRackOrbits reaches: conditions, plain proofs, walks; no condition. -/
import Derived.Test.YtgekmhiemakaaaaKERackOrbitse
import Derived.Test.YtgekmhiemakaaaaPf
namespace Go.Proofs.Ytgekmhiemakaaaa


end Go.Proofs.Ytgekmhiemakaaaa

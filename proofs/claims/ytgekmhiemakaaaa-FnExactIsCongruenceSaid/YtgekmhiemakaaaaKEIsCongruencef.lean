/- Contracts of functions that the law FnExactIsCongruence reaches: conditions, plain proofs, walks; no condition. -/
import Derived.Test.YtgekmhiemakaaaaKEIsCongruencee
import Derived.Test.YtgekmhiemakaaaaPf
namespace Go.Proofs.Ytgekmhiemakaaaa


end Go.Proofs.Ytgekmhiemakaaaa

/- The value layer: the loop that ranges over a function; no condition. -/
import Derived.Test.YtggeeemecgmhiaaWh
namespace Go.Proofs.Ytggeeemecgmhiaa
open Go.RowKit
section
variable {P : Program} {Q : Exit → St → Prop} {st : St}
end

end Go.Proofs.Ytggeeemecgmhiaa

/- The value layer: the loop that ranges over a function, as the printed walks take it; no condition. -/
import Derived.Test.YtggeeemecgmhiaaWj
namespace Go.Proofs.Ytggeeemecgmhiaa
section
variable {P : Program} {Q : Exit → St → Prop} {A0 α : Type}
end

end Go.Proofs.Ytggeeemecgmhiaa

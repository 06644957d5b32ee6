/- The value layer: a list that is owned and read while its holder is turned; no condition. -/
import Derived.Test.YtggeeemecgmhiaaWm
namespace Go.Proofs.Ytggeeemecgmhiaa
section
variable {P : Program} {st : St}
end
end Go.Proofs.Ytggeeemecgmhiaa
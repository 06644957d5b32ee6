/- The value layer: a part of an owned list of numbers turned in place by a function; no condition. -/
import Derived.Test.YtggeeemecgmhiaaWk
import Derived.Shelf.SlicesG.Reverse
namespace Go.Proofs.Ytggeeemecgmhiaa
open Go.Sort
section
variable {P : Program} {ops : Array Oper} {K : St → Prop} {st : St} {rest : List Oper}
end
end Go.Proofs.Ytggeeemecgmhiaa
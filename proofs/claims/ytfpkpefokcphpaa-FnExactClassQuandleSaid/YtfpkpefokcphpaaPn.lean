/- Plain definitions, the fourteenth part: products and unions of racks are racks, duals, quandles of racks; no condition. -/
import Derived.Test.YtfpkpefokcphpaaPm
namespace Go.Proofs.Ytfpkpefokcphpaa
section
variable {a b : List (List Int)}
end
end Go.Proofs.Ytfpkpefokcphpaa

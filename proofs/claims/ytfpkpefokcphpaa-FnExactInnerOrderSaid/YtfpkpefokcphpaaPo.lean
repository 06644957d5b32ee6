/- Plain definitions, the fifteenth part: images of tables, duals and quandles of racks; no condition. -/
import Derived.Test.YtfpkpefokcphpaaPn
namespace Go.Proofs.Ytfpkpefokcphpaa
section
variable {t : List (List Int)} {p : List Int} {x y : Int} {o : List (List Int)}
end
section
variable {r : List (List Int)} (h : isRk r = true)
include h
end

end Go.Proofs.Ytfpkpefokcphpaa

/- Plain definitions, the eleventh part: sorted lists, masks, least subracks; no condition. -/
import Derived.Test.YtbodlnpmplcaoaaPj
import Derived.Lib.SlicesCompact
namespace Go.Proofs.Ytbodlnpmplcaoaa

end Go.Proofs.Ytbodlnpmplcaoaa

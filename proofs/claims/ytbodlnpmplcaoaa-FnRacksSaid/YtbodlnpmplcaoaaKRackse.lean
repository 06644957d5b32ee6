/- Contracts of functions that the law FnRacks reaches: conditions, plain proofs, walks; no condition. -/
import Derived.Test.YtbodlnpmplcaoaaKRacksd
import Derived.Test.YtbodlnpmplcaoaaPe
namespace Go.Proofs.Ytbodlnpmplcaoaa


theorem orbI_len {n : Int} {list : List (List Int)} (hn : 0 ≤ n) (hp : permsN n list) : ((orbI n list).length : Int) = n := (orbI_is hn hp).1
end Go.Proofs.Ytbodlnpmplcaoaa

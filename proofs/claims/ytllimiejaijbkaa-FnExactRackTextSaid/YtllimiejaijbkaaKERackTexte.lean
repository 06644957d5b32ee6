/- Contracts of functions that the law FnExactRackText reaches: conditions, plain proofs, walks; no condition. -/
import Derived.Test.YtllimiejaijbkaaKERackTextd
import Derived.Test.YtllimiejaijbkaaPe
namespace Go.Proofs.Ytllimiejaijbkaa


theorem orbI_len {n : Int} {list : List (List Int)} (hn : 0 ≤ n) (hp : permsN n list) : ((orbI n list).length : Int) = n := (orbI_is hn hp).1
end Go.Proofs.Ytllimiejaijbkaa

/- Contracts of functions that the law FnExactSubrackFrom reaches: conditions, plain proofs, walks; no condition. -/
import Derived.Test.YtbcdcnddnldijaaKESubrackFromd
import Derived.Test.YtbcdcnddnldijaaPe
namespace Go.Proofs.Ytbcdcnddnldijaa


theorem orbI_len {n : Int} {list : List (List Int)} (hn : 0 ≤ n) (hp : permsN n list) : ((orbI n list).length : Int) = n := (orbI_is hn hp).1
end Go.Proofs.Ytbcdcnddnldijaa

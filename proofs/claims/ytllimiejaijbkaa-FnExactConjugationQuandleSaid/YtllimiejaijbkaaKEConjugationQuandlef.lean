/- Contracts of functions that the law FnExactConjugationQuandle reaches: conditions, plain proofs, walks; no condition. -/
import Derived.Test.YtllimiejaijbkaaKEConjugationQuandlee
import Derived.Test.YtllimiejaijbkaaPf
namespace Go.Proofs.Ytllimiejaijbkaa


end Go.Proofs.Ytllimiejaijbkaa

/- Plain definitions, the seventeenth part: pairs of tables, solutions of cycle sets and back; no condition. -/
import Derived.Test.YtfpkpefokcphpaaPp
namespace Go.Proofs.Ytfpkpefokcphpaa
section
variable {c : List (List Int)} (h : isCyc c = true)
include h
end
end Go.Proofs.Ytfpkpefokcphpaa

/- Plain definitions, the eleventh part: sorted lists, masks, least subracks; no condition. -/
import Derived.Test.YtfpkpefokcphpaaPj
import Derived.Lib.SlicesCompact
namespace Go.Proofs.Ytfpkpefokcphpaa
theorem ran_lt (n : Int) : (ran n id).Pairwise (· < ·) := by
  unfold ran
  rw [List.pairwise_map]
  exact (List.pairwise_lt_range).imp fun h => by simp; omega
end Go.Proofs.Ytfpkpefokcphpaa

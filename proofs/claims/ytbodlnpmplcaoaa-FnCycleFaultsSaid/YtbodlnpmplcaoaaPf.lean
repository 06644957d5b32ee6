/- Plain definitions, the sixth part: subracks, sums of powers of two; no condition. -/
import Derived.Test.YtbodlnpmplcaoaaPe
namespace Go.Proofs.Ytbodlnpmplcaoaa
theorem ran_snoc {α : Type} {n : Int} {f : Int → α} (h : 0 ≤ n) : ran (n + 1) f = ran n f ++ [f n] := by
  unfold ran
  rw [show (n + 1).toNat = n.toNat + 1 by omega, List.range_succ, List.map_append]
  simp only [List.map_cons, List.map_nil]
  rw [show ((n.toNat : Nat) : Int) = n by omega]
end Go.Proofs.Ytbodlnpmplcaoaa

/- Contracts of functions that the law FnRacks reaches: conditions, plain proofs, walks; no condition. -/
import Derived.Test.YtbodlnpmplcaoaaKRacksh
import Derived.Test.YtbodlnpmplcaoaaPi
namespace Go.Proofs.Ytbodlnpmplcaoaa

theorem digs_tab : ∀ k : Nat, k < 12 → UInt8.ofNat (byt ([48, 49, 50, 51, 52, 53, 54, 55, 56, 57, 97, 98] : List UInt8) (k : Int)).toNat = dgt (k : Int) := by decide
theorem dig_at {x : Int} (h : 0 ≤ x ∧ x < 12) : UInt8.ofNat (byt ([48, 49, 50, 51, 52, 53, 54, 55, 56, 57, 97, 98] : List UInt8) x).toNat = dgt x := by
  have := digs_tab x.toNat (by omega)
  rwa [Int.toNat_of_nonneg h.1] at this
end Go.Proofs.Ytbodlnpmplcaoaa

/- Contracts of functions that the law FnRacks reaches: conditions, plain proofs, walks; no condition. -/
import Derived.Test.YtbodlnpmplcaoaaKRacksi
import Derived.Test.YtbodlnpmplcaoaaPj
namespace Go.Proofs.Ytbodlnpmplcaoaa

theorem nn_le {n : Int} (h : 1 ≤ n ∧ n ≤ 12) : 0 ≤ n * n ∧ n * n ≤ 144 :=
  ⟨Int.mul_nonneg (by omega) (by omega), by have := Int.mul_le_mul h.2 h.2 (by omega : (0 : Int) ≤ n) (by omega : (0 : Int) ≤ 12); omega⟩
theorem small2_of_tab {t : List (List Int)} (h : isTab t = true) : small2 t := by
  have hn := isTab_len h
  refine ⟨by show (t.length : Int) ≤ 1000000000; omega, fun r hr => ?_⟩
  obtain ⟨i, hi, rfl⟩ := mem_el hr
  have := rk_len h hi
  show ((el t i).length : Int) ≤ 1000000000; omega
end Go.Proofs.Ytbodlnpmplcaoaa

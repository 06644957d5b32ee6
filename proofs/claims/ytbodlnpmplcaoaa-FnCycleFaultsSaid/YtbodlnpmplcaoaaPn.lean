/- Plain definitions, the fourteenth part: products and unions of racks are racks, duals, quandles of racks; no condition. -/
import Derived.Test.YtbodlnpmplcaoaaPm
namespace Go.Proofs.Ytbodlnpmplcaoaa
theorem all_perm_mk {t : List (List Int)} (ht : isTab t = true) (h : ∀ x y z : Int, (0 ≤ x ∧ x < (t.length : Int)) → (0 ≤ y ∧ y < (t.length : Int)) → (0 ≤ z ∧ z < (t.length : Int)) → el (el t x) y = el (el t x) z → y = z) : t.all isPerm = true :=
  all_el.2 fun i i0 i1 => by
    have hl := rk_len ht ⟨i0, i1⟩
    exact perm_of_inj (fun j a b => by have := rk_el ht ⟨i0, i1⟩ (y := j) ⟨a, by omega⟩; omega) fun j k a b c d e => h i j k ⟨i0, i1⟩ ⟨a, by omega⟩ ⟨c, by omega⟩ e
theorem dm_in {n m x : Int} (_hn : 0 ≤ n) (hm : 0 < m) (hx : 0 ≤ x ∧ x < n * m) : (0 ≤ x / m ∧ x / m < n) ∧ (0 ≤ x % m ∧ x % m < m) :=
  ⟨⟨Int.ediv_nonneg hx.1 (by omega), Int.ediv_lt_of_lt_mul hm hx.2⟩, Int.emod_nonneg _ (by omega), Int.emod_lt_of_pos _ hm⟩
section
variable {a b : List (List Int)}
theorem pro_one (ha : isTab a = true) (hb : isTab b = true) : 1 ≤ (a.length : Int) * (b.length : Int) := by
  have h1 := isTab_len ha; have h2 := isTab_len hb
  have := Int.mul_le_mul h1.1 h2.1 (by omega) (by omega)
  omega
end
end Go.Proofs.Ytbodlnpmplcaoaa

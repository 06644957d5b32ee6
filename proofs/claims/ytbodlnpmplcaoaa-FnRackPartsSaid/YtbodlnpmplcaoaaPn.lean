/- Plain definitions, the fourteenth part: products and unions of racks are racks, duals, quandles of racks; no condition. -/
import Derived.Test.YtbodlnpmplcaoaaPm
namespace Go.Proofs.Ytbodlnpmplcaoaa
theorem isRk_mk {t : List (List Int)} (ht : isTab t = true) (hp : t.all isPerm = true) (h : ∀ x y z : Int, (0 ≤ x ∧ x < (t.length : Int)) → (0 ≤ y ∧ y < (t.length : Int)) → (0 ≤ z ∧ z < (t.length : Int)) → el (el t x) (el (el t y) z) = el (el t (el (el t x) y)) (el (el t x) z)) : isRk t = true := by
  have : rackF t = [] := first3_none fun a a0 a1 b b0 b1 c c0 c1 => by simp [rackB, h a b c ⟨a0, a1⟩ ⟨b0, b1⟩ ⟨c0, c1⟩]
  simp [isRk, ht, hp, this]
theorem all_perm_mk {t : List (List Int)} (ht : isTab t = true) (h : ∀ x y z : Int, (0 ≤ x ∧ x < (t.length : Int)) → (0 ≤ y ∧ y < (t.length : Int)) → (0 ≤ z ∧ z < (t.length : Int)) → el (el t x) y = el (el t x) z → y = z) : t.all isPerm = true :=
  all_el.2 fun i i0 i1 => by
    have hl := rk_len ht ⟨i0, i1⟩
    exact perm_of_inj (fun j a b => by have := rk_el ht ⟨i0, i1⟩ (y := j) ⟨a, by omega⟩; omega) fun j k a b c d e => h i j k ⟨i0, i1⟩ ⟨a, by omega⟩ ⟨c, by omega⟩ e
section
variable {a b : List (List Int)}
end
end Go.Proofs.Ytbodlnpmplcaoaa

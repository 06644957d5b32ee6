/- Plain definitions, the twelfth part: what draws out of a code keeps; no condition. -/
import Derived.Test.YtbodlnpmplcaoaaPk
import Derived.Test.YtbodlnpmplcaoaaWe
namespace Go.Proofs.Ytbodlnpmplcaoaa
def bytes (l : List Int) : Prop := ∀ i, 0 ≤ i → i < (l.length : Int) → 0 ≤ el l i ∧ el l i ≤ 255
def okS (c : List Int) (a h : Int) : Prop := (small c ∧ bytes c) ∧ (0 ≤ a ∧ a ≤ (c.length : Int)) ∧ 0 ≤ h ∧ h ≤ 18446744073709551615
def nxP (n r : Int) : Prop := (n < 1 → r = 0) ∧ (¬ n < 1 → 0 ≤ r ∧ r < n)
theorem and_bd (x : Nat) : 0 ≤ ((x &&& (16777215 : Int).toNat : Nat) : Int) ∧ ((x &&& (16777215 : Int).toNat : Nat) : Int) ≤ 16777215 := by
  have : x &&& (16777215 : Int).toNat ≤ (16777215 : Int).toNat := Nat.and_le_right
  omega
theorem shr_bd {u : Int} (h : 0 ≤ u ∧ u ≤ 18446744073709551615) (k : Nat) : 0 ≤ u / (2 : Int) ^ k ∧ u / (2 : Int) ^ k ≤ 18446744073709551615 := by
  have a : 0 ≤ u / (2 : Int) ^ k := Int.ediv_nonneg h.1 (Int.pow_nonneg (by omega))
  have b : u / (2 : Int) ^ k ≤ u := Int.ediv_le_self _ h.1
  omega
theorem isTab_se {o : List (List Int)} (h : isTab o = true) {i j v : Int} (hi : 0 ≤ i ∧ i < (o.length : Int)) (hj : 0 ≤ j ∧ j < (o.length : Int)) (hv : 0 ≤ v ∧ v < (o.length : Int)) : isTab (se o i (se (el o i) j v)) = true := by
  have hl := isTab_len h
  have hlen : ((se o i (se (el o i) j v)).length : Int) = (o.length : Int) := by simp
  refine isTab_mk (by omega) fun x x0 x1 => ?_
  rw [hlen] at x1 ⊢
  by_cases hx : x = i
  · subst hx
    rw [el_se_same hi]
    refine ⟨by simpa using rk_len h hi, fun y y0 y1 => ?_⟩
    have lr := rk_len h hi
    by_cases hy : y = j
    · subst hy; rw [el_se_same (by omega)]; exact hv
    · rw [el_se_ne hj.1 y0 (Ne.symm hy)]; exact rk_el h hi ⟨y0, y1⟩
  · rw [el_se_ne hi.1 x0 (Ne.symm hx)]
    exact ⟨rk_len h ⟨x0, x1⟩, fun y y0 y1 => rk_el h ⟨x0, x1⟩ ⟨y0, y1⟩⟩

end Go.Proofs.Ytbodlnpmplcaoaa

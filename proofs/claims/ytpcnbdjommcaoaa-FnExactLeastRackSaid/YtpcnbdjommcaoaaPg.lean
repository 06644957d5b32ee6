/- Plain definitions, the seventh part: conjugations, solutions, orders, quotients, mirrors; no condition. -/
import Derived.Test.YtpcnbdjommcaoaaPf
namespace Go.Proofs.Ytpcnbdjommcaoaa
theorem el_tab {n : Int} {f : Int → Int → Int} {x y : Int} (hx : 0 ≤ x ∧ x < n) (hy : 0 ≤ y ∧ y < n) : el (el (tab n f) x) y = f x y := by
  unfold tab; rw [el_ran hx, el_ran hy]
theorem len_tab {n : Int} {f : Int → Int → Int} (hn : 0 ≤ n) : ((tab n f).length : Int) = n := by simp; omega
theorem tab_rowlen {n : Int} {f : Int → Int → Int} {x : Int} (hx : 0 ≤ x ∧ x < n) : ((el (tab n f) x).length : Int) = n := by
  unfold tab; rw [el_ran hx]; simp; omega
theorem isTab_tab {n : Int} {f : Int → Int → Int} (hn : 1 ≤ n ∧ n ≤ 12) (h : ∀ x y, 0 ≤ x → x < n → 0 ≤ y → y < n → 0 ≤ f x y ∧ f x y < n) : isTab (tab n f) = true := by
  have hl : ((tab n f).length : Int) = n := len_tab (by omega)
  refine isTab_mk (by omega) fun i i0 i1 => ⟨by rw [tab_rowlen ⟨i0, by omega⟩, hl], fun j j0 j1 => ?_⟩
  rw [el_tab ⟨i0, by omega⟩ ⟨j0, by omega⟩, hl]
  exact h i j i0 (by omega) j0 (by omega)
theorem tab_el {t : List (List Int)} (h : isTab t = true) : t = tab (t.length : Int) fun x y => el (el t x) y := by
  refine eq_ran (by omega) fun i i0 i1 => ?_
  have := rk_len h ⟨i0, i1⟩
  exact eq_ran (by omega) fun j _ _ => rfl
end Go.Proofs.Ytpcnbdjommcaoaa

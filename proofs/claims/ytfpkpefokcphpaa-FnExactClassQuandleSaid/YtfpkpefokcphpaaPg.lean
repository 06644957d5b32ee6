/- Plain definitions, the seventh part: conjugations, solutions, orders, quotients, mirrors; no condition. -/
import Derived.Test.YtfpkpefokcphpaaPf
namespace Go.Proofs.Ytfpkpefokcphpaa
theorem el_tab {n : Int} {f : Int → Int → Int} {x y : Int} (hx : 0 ≤ x ∧ x < n) (hy : 0 ≤ y ∧ y < n) : el (el (tab n f) x) y = f x y := by
  unfold tab; rw [el_ran hx, el_ran hy]
theorem len_tab {n : Int} {f : Int → Int → Int} (hn : 0 ≤ n) : ((tab n f).length : Int) = n := by simp; omega
theorem tab_rowlen {n : Int} {f : Int → Int → Int} {x : Int} (hx : 0 ≤ x ∧ x < n) : ((el (tab n f) x).length : Int) = n := by
  unfold tab; rw [el_ran hx]; simp; omega
theorem isTab_tab {n : Int} {f : Int → Int → Int} (hn : 1 ≤ n ∧ n ≤ 12) (h : ∀ x y, 0 ≤ x → x < n → 0 ≤ y → y < n → 0 ≤ f x y ∧ f x y < n) : isTab (tab n f) = true := by
  have hl : ((tab n f).length : Int) = n := len_tab (by omega)
  refine isTab_mk (by omega) fun i i0 i1 => ⟨by rw [tab_rowlen ⟨i0, by omega⟩, hl], fun j j0 j1 => ?_⟩
  rw [el_tab ⟨i0, by omega⟩ ⟨j0, by omega⟩, hl]
  exact h i j i0 (by omega) j0 (by omega)
theorem small2_tab' {n : Int} {f : Int → Int → Int} (h : n ≤ 1000) : small2 (tab n f) := ⟨by show ((tab n f).length : Int) ≤ 1000000000; simp; omega, fun r hr => by
  obtain ⟨i, hi, rfl⟩ := mem_el hr
  have hl : ((tab n f).length : Int) ≤ n ∨ n < 0 := by simp; omega
  simp only [length_tab] at hi
  have := tab_rowlen (n := n) (f := f) (x := i) ⟨hi.1, by omega⟩
  show ((el (tab n f) i).length : Int) ≤ 1000000000; omega⟩
def idxL (lists : List (List Int)) (list : List Int) : Int := idxF lists (fun own => decide (own = list))
def conjI (x y : List Int) : List Int := ((backI x).map (el y)).map (el x)
def cjD (x y : List Int) : Prop := small x ∧ isPerm x = true ∧ x.length = y.length ∧ isPerm y = true
def GoodL (list : List (List Int)) : Prop := 1 ≤ (list.length : Int) ∧ ∀ i, 0 ≤ i → i < (list.length : Int) → permB (el list i) = true ∧ ((el list i).length : Int) = ((el list 0).length : Int) ∧ ∀ j, 0 ≤ j → j < i → el list j ≠ el list i
def cjV (list : List (List Int)) (x y : Int) : Int := idxL list (conjI (el list x) (el list y))
def cjT (list : List (List Int)) : List (List Int) := tab (list.length : Int) (cjV list)
noncomputable def CjqE (list : List (List Int)) : Int := if dec (GoodL list) then (if (12 : Int) < (list.length : Int) then 3 else if isTab (cjT list) then 0 else 5) else 1
noncomputable def CjqT (list : List (List Int)) : List (List Int) := if CjqE list = 0 then cjT list else []
end Go.Proofs.Ytfpkpefokcphpaa

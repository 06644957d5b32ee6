/- Plain definitions, the seventh part: conjugations, solutions, orders, quotients, mirrors; no condition. -/
import Derived.Test.YtbodlnpmplcaoaaPf
namespace Go.Proofs.Ytbodlnpmplcaoaa
theorem el_tab {n : Int} {f : Int → Int → Int} {x y : Int} (hx : 0 ≤ x ∧ x < n) (hy : 0 ≤ y ∧ y < n) : el (el (tab n f) x) y = f x y := by
  unfold tab; rw [el_ran hx, el_ran hy]
theorem len_tab {n : Int} {f : Int → Int → Int} (hn : 0 ≤ n) : ((tab n f).length : Int) = n := by simp; omega
theorem tab_rowlen {n : Int} {f : Int → Int → Int} {x : Int} (hx : 0 ≤ x ∧ x < n) : ((el (tab n f) x).length : Int) = n := by
  unfold tab; rw [el_ran hx]; simp; omega
theorem isTab_tab {n : Int} {f : Int → Int → Int} (hn : 1 ≤ n ∧ n ≤ 12) (h : ∀ x y, 0 ≤ x → x < n → 0 ≤ y → y < n → 0 ≤ f x y ∧ f x y < n) : isTab (tab n f) = true := by
  have hl : ((tab n f).length : Int) = n := len_tab (by omega)
  refine isTab_mk (by omega) fun i i0 i1 => ⟨by rw [tab_rowlen ⟨i0, by omega⟩, hl], fun j j0 j1 => ?_⟩
  rw [el_tab ⟨i0, by omega⟩ ⟨j0, by omega⟩, hl]
  exact h i j i0 (by omega) j0 (by omega)
def quoV (t : List (List Int)) (c : List Int) (x y : Int) : Int := el c (el (el t (el (firI c) x)) (el (firI c) y))
def quoT (t : List (List Int)) (c : List Int) : List (List Int) := tab (canN 0 c) (quoV t c)
noncomputable def QuoE (r : List (List Int)) (c : List Int) : Int := if isRk r && partB (r.length : Int) c then (if dec (CongP r c) then 0 else 5) else 1
noncomputable def QuoT (r : List (List Int)) (c : List Int) : List (List Int) := if QuoE r c = 0 then quoT r c else []
end Go.Proofs.Ytbodlnpmplcaoaa

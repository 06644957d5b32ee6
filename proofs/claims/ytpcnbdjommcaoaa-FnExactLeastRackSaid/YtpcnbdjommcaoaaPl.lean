/- Plain definitions, the twelfth part: what draws out of a code keeps; no condition. -/
import Derived.Test.YtpcnbdjommcaoaaPk
import Derived.Test.YtpcnbdjommcaoaaWe
namespace Go.Proofs.Ytpcnbdjommcaoaa
theorem isTab_se {o : List (List Int)} (h : isTab o = true) {i j v : Int} (hi : 0 ≤ i ∧ i < (o.length : Int)) (hj : 0 ≤ j ∧ j < (o.length : Int)) (hv : 0 ≤ v ∧ v < (o.length : Int)) : isTab (se o i (se (el o i) j v)) = true := by
  have hl := isTab_len h
  have hlen : ((se o i (se (el o i) j v)).length : Int) = (o.length : Int) := by simp
  refine isTab_mk (by omega) fun x x0 x1 => ?_
  rw [hlen] at x1 ⊢
  by_cases hx : x = i
  · subst hx
    rw [el_se_same hi]
    refine ⟨by simpa using rk_len h hi, fun y y0 y1 => ?_⟩
    have lr := rk_len h hi
    by_cases hy : y = j
    · subst hy; rw [el_se_same (by omega)]; exact hv
    · rw [el_se_ne hj.1 y0 (Ne.symm hy)]; exact rk_el h hi ⟨y0, y1⟩
  · rw [el_se_ne hi.1 x0 (Ne.symm hx)]
    exact ⟨rk_len h ⟨x0, x1⟩, fun y y0 y1 => rk_el h ⟨x0, x1⟩ ⟨y0, y1⟩⟩

end Go.Proofs.Ytpcnbdjommcaoaa

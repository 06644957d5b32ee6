/- Plain definitions, the twentieth part: images of tables, once more; no condition. -/
import Derived.Test.YtpcnbdjommcaoaaPs
namespace Go.Proofs.Ytpcnbdjommcaoaa
theorem img_ren {t r : List (List Int)} {p : List Int} (ht : isTab t = true) (hP : isPerm p = true) (hl : (p.length : Int) = (t.length : Int)) (h1 : isTab r = true) (h2 : r.length = t.length)
    (h3 : ∀ u v : Int, (0 ≤ u ∧ u < (t.length : Int)) → (0 ≤ v ∧ v < (t.length : Int)) → el (el r (el p u)) (el p v) = el p (el (el t u) v)) : r = renT t p := by
  have hr := isTab_ren ht hP hl
  have hn := isTab_len ht
  have lr : ((renT t p).length : Int) = (t.length : Int) := len_tab (by omega)
  rw [tab_el h1, tab_el hr, show (r.length : Int) = (t.length : Int) by omega, lr]
  refine tab_congr fun x y x0 x1 y0 y1 => ?_
  obtain ⟨u, hu, rfl⟩ := isPerm_surj hP (x := x) ⟨x0, by omega⟩
  obtain ⟨v, hv, rfl⟩ := isPerm_surj hP (x := y) ⟨y0, by omega⟩
  rw [h3 u v ⟨hu.1, by omega⟩ ⟨hv.1, by omega⟩, renT_el hP hl ⟨hu.1, by omega⟩ ⟨hv.1, by omega⟩]

end Go.Proofs.Ytpcnbdjommcaoaa

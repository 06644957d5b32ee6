/- Plain definitions, the tenth part: pair maps that are solutions, nondegenerate, involutive; no condition. -/
import Derived.Test.YtbodlnpmplcaoaaPi
namespace Go.Proofs.Ytbodlnpmplcaoaa
theorem pm_tab {s t : List (List Int)} (h : pmB s t = true) : isTab s = true ∧ isTab t = true ∧ (s.length : Int) = (t.length : Int) := by
  simp only [pmB, Bool.and_eq_true, decide_eq_true_eq] at h; exact ⟨h.1.1, h.1.2, h.2⟩
def ndB (s t : List (List Int)) : Bool := s.all isPerm && (trnT t).all isPerm
def ivP (s t : List (List Int)) (x y : Int) : Prop := el (el s (el (el s x) y)) (el (el t x) y) = x ∧ el (el t (el (el s x) y)) (el (el t x) y) = y
noncomputable def ivB (s t : List (List Int)) : Bool := dec (∀ x, 0 ≤ x → x < (s.length : Int) → ∀ y, 0 ≤ y → y < (s.length : Int) → ivP s t x y)
end Go.Proofs.Ytbodlnpmplcaoaa

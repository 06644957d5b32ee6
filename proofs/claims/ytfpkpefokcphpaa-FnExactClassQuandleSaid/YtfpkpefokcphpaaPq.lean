/- Plain definitions, the seventeenth part: pairs of tables, solutions of cycle sets and back; no condition. -/
import Derived.Test.YtfpkpefokcphpaaPp
namespace Go.Proofs.Ytfpkpefokcphpaa
theorem swap_perm {l : List Int} (h : isPerm l = true) {i j : Int} (hi : 0 ≤ i ∧ i < (l.length : Int)) (hj : 0 ≤ j ∧ j < (l.length : Int)) : isPerm (se (se l i (el l j)) j (el l i)) = true := by
  have ln : ((se (se l i (el l j)) j (el l i)).length : Int) = (l.length : Int) := by simp
  refine isPerm_of_all fun x x0 x1 => ?_
  obtain ⟨k, hk, rfl⟩ := isPerm_surj h (x := x) ⟨x0, by omega⟩
  by_cases e1 : k = i
  · subst e1
    have : el (se (se l k (el l j)) j (el l k)) j = el l k := el_se_same ⟨hj.1, by simp; omega⟩
    have hm := el_mem (l := se (se l k (el l j)) j (el l k)) (i := j) ⟨hj.1, by omega⟩; rw [this] at hm; exact hm
  · by_cases e2 : k = j
    · subst e2
      have : el (se (se l i (el l k)) k (el l i)) i = el l k := by rw [el_se_ne hk.1 hi.1 e1, el_se_same hi]
      have hm := el_mem (l := se (se l i (el l k)) k (el l i)) (i := i) ⟨hi.1, by omega⟩; rw [this] at hm; exact hm
    · have : el (se (se l i (el l j)) j (el l i)) k = el l k := by rw [el_se_ne hj.1 hk.1 (Ne.symm e2), el_se_ne hi.1 hk.1 (Ne.symm e1)]
      have hm := el_mem (l := se (se l i (el l j)) j (el l i)) (i := k) ⟨hk.1, by omega⟩; rw [this] at hm; exact hm
section
variable {c : List (List Int)} (h : isCyc c = true)
include h
end
end Go.Proofs.Ytfpkpefokcphpaa

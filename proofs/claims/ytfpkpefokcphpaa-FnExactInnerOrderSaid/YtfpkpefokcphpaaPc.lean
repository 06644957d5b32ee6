/- Plain definitions, the third part: racks, cycle sets; no condition. -/
import Derived.Test.YtfpkpefokcphpaaPb
namespace Go.Proofs.Ytfpkpefokcphpaa
def unitI (n : Int) : List Int := ran n id
def backI (p : List Int) : List Int := ran (p.length : Int) fun x => idxI p x
def rackB (t : List (List Int)) (x y z : Int) : Bool := !decide (el (el t x) (el (el t y) z) = el (el t (el (el t x) y)) (el (el t x) z))
def rackF (t : List (List Int)) : List Int := first3 (t.length : Int) (rackB t)
def isRk (t : List (List Int)) : Bool := isTab t && t.all isPerm && (rackF t).isEmpty
def isCyc (t : List (List Int)) : Bool := isTab t && t.all isPerm && isPerm (diag t) && (cycF t).isEmpty
theorem isRk_tab {t : List (List Int)} (h : isRk t = true) : isTab t = true := by simp only [isRk, Bool.and_eq_true] at h; exact h.1.1
theorem isRk_perm {t : List (List Int)} (h : isRk t = true) : t.all isPerm = true := by simp only [isRk, Bool.and_eq_true] at h; exact h.1.2
theorem isPerm_el {p : List Int} (h : isPerm p = true) {i : Int} (hi : 0 ≤ i ∧ i < (p.length : Int)) : 0 ≤ el p i ∧ el p i < (p.length : Int) := (isPerm_iff.1 h).2 _ (el_mem hi)
theorem isPerm_inj {p : List Int} (h : isPerm p = true) {i j : Int} (hi : 0 ≤ i ∧ i < (p.length : Int)) (hj : 0 ≤ j ∧ j < (p.length : Int)) (e : el p i = el p j) : i = j := by
  have hn := nodup_el.1 (isPerm_iff.1 h).1
  rcases Int.lt_trichotomy i j with h1 | h1 | h1
  · exact absurd e (hn i j hi.1 h1 hj.2)
  · exact h1
  · exact absurd e.symm (hn j i hj.1 h1 hi.2)
@[simp] theorem length_backI (p : List Int) : (backI p).length = p.length := by simp [backI]
@[simp] theorem length_unitI (n : Int) : (unitI n).length = n.toNat := by simp [unitI]
theorem isTab_perm {t : List (List Int)} (h : isTab t = true) : t.all permB = t.all isPerm := by
  have key : ∀ r ∈ t, permB r = isPerm r := fun r hr => by
    obtain ⟨i, hi, rfl⟩ := mem_el hr
    have a := (isTab_row h hi).1
    have b := isTab_len h
    unfold permB
    have e1 : decide (1 ≤ ((el t i).length : Int)) = true := decide_eq_true (by omega)
    have e2 : decide (((el t i).length : Int) ≤ 12) = true := decide_eq_true (by omega)
    rw [e1, e2]; rfl
  rw [Bool.eq_iff_iff, List.all_eq_true, List.all_eq_true]
  exact ⟨fun h r hr => by rw [← key r hr]; exact h r hr, fun h r hr => by rw [key r hr]; exact h r hr⟩
theorem all_perm_el {t : List (List Int)} (h : t.all isPerm = true) {i : Int} (hi : 0 ≤ i ∧ i < (t.length : Int)) : isPerm (el t i) = true := all_el.1 h i hi.1 hi.2
@[simp] theorem length_diag (t : List (List Int)) : (diag t).length = t.length := by simp [diag]
theorem rk_len {t : List (List Int)} (h : isTab t = true) {x : Int} (hx : 0 ≤ x ∧ x < (t.length : Int)) : ((el t x).length : Int) = (t.length : Int) := (isTab_row h hx).1
end Go.Proofs.Ytfpkpefokcphpaa

/- Plain definitions, the third part: racks, cycle sets; no condition. -/
import Derived.Test.YtfpkpefokcphpaaPb
namespace Go.Proofs.Ytfpkpefokcphpaa
def unitI (n : Int) : List Int := ran n id
def backI (p : List Int) : List Int := ran (p.length : Int) fun x => idxI p x
def rackB (t : List (List Int)) (x y z : Int) : Bool := !decide (el (el t x) (el (el t y) z) = el (el t (el (el t x) y)) (el (el t x) z))
def rackF (t : List (List Int)) : List Int := first3 (t.length : Int) (rackB t)
def isRk (t : List (List Int)) : Bool := isTab t && t.all isPerm && (rackF t).isEmpty
def isCyc (t : List (List Int)) : Bool := isTab t && t.all isPerm && isPerm (diag t) && (cycF t).isEmpty
theorem isPerm_el {p : List Int} (h : isPerm p = true) {i : Int} (hi : 0 ≤ i ∧ i < (p.length : Int)) : 0 ≤ el p i ∧ el p i < (p.length : Int) := (isPerm_iff.1 h).2 _ (el_mem hi)
theorem isPerm_inj {p : List Int} (h : isPerm p = true) {i j : Int} (hi : 0 ≤ i ∧ i < (p.length : Int)) (hj : 0 ≤ j ∧ j < (p.length : Int)) (e : el p i = el p j) : i = j := by
  have hn := nodup_el.1 (isPerm_iff.1 h).1
  rcases Int.lt_trichotomy i j with h1 | h1 | h1
  · exact absurd e (hn i j hi.1 h1 hj.2)
  · exact h1
  · exact absurd e.symm (hn j i hj.1 h1 hi.2)
theorem isPerm_surj {p : List Int} (h : isPerm p = true) {x : Int} (hx : 0 ≤ x ∧ x < (p.length : Int)) : ∃ i, (0 ≤ i ∧ i < (p.length : Int)) ∧ el p i = x := mem_el (isPerm_all h hx)
theorem idxI_el {p : List Int} (h : isPerm p = true) {i : Int} (hi : 0 ≤ i ∧ i < (p.length : Int)) : idxI p (el p i) = i :=
  idxF_found hi (fun j h0 h1 => by
    show (el p j == el p i) = false
    rw [beq_eq_false_iff_ne]
    intro e
    have := isPerm_inj h ⟨h0, by omega⟩ hi e
    omega) (by simp)
theorem idxI_spec {l : List Int} {x : Int} (h : x ∈ l) : (0 ≤ idxI l x ∧ idxI l x < (l.length : Int)) ∧ el l (idxI l x) = x := by
  have hc : l.any (fun y => y == x) = true := by simp [h]
  have hlt : l.findIdx (fun y => y == x) < l.length := List.findIdx_lt_length_of_exists ⟨x, h, by simp⟩
  have e : idxI l x = (l.findIdx (fun y => y == x) : Int) := by unfold idxI idxF; rw [if_pos hc]
  rw [e]
  refine ⟨⟨by omega, by omega⟩, ?_⟩
  have := List.findIdx_getElem (w := hlt)
  simp only [beq_iff_eq] at this
  simp [el, List.getD_eq_getElem?_getD, List.getElem?_eq_getElem hlt, this]
@[simp] theorem length_backI (p : List Int) : (backI p).length = p.length := by simp [backI]
theorem el_backI {p : List Int} (h : isPerm p = true) {i : Int} (hi : 0 ≤ i ∧ i < (p.length : Int)) : el (backI p) (el p i) = i := by
  have := isPerm_el h hi
  rw [backI, el_ran this, idxI_el h hi]
theorem el_backI' {p : List Int} (h : isPerm p = true) {x : Int} (hx : 0 ≤ x ∧ x < (p.length : Int)) : (0 ≤ el (backI p) x ∧ el (backI p) x < (p.length : Int)) ∧ el p (el (backI p) x) = x := by
  rw [backI, el_ran hx]
  exact idxI_spec (isPerm_all h hx)
theorem backI_uniq {p q : List Int} (h : isPerm p = true) (hl : q.length = p.length) (hq : ∀ i, 0 ≤ i → i < (p.length : Int) → el q (el p i) = i) : q = backI p :=
  ext_el (by simp [hl]) fun x h0 h1 => by
    obtain ⟨i, hi, rfl⟩ := isPerm_surj h (x := x) ⟨h0, by omega⟩
    rw [hq i hi.1 hi.2, el_backI h hi]
theorem isPerm_backI {p : List Int} (h : isPerm p = true) : isPerm (backI p) = true := by
  refine isPerm_iff.2 ⟨nodup_el.2 fun i j h0 h1 h2 e => ?_, fun x hx => ?_⟩
  · simp at h2
    have a := (el_backI' h (x := i) ⟨h0, by omega⟩).2
    have b := (el_backI' h (x := j) ⟨by omega, by omega⟩).2
    rw [e] at a; omega
  · obtain ⟨i, hi, rfl⟩ := mem_el hx
    simp at hi ⊢
    exact (el_backI' h hi).1
@[simp] theorem length_unitI (n : Int) : (unitI n).length = n.toNat := by simp [unitI]
theorem el_unitI {n i : Int} (h : 0 ≤ i ∧ i < n) : el (unitI n) i = i := by simp [unitI, el_ran h]
theorem isPerm_unitI (n : Int) : isPerm (unitI n) = true := by
  refine isPerm_iff.2 ⟨nodup_ran n, fun x hx => ?_⟩
  have := mem_ran.1 hx
  simp; omega
@[simp] theorem length_diag (t : List (List Int)) : (diag t).length = t.length := by simp [diag]
end Go.Proofs.Ytfpkpefokcphpaa

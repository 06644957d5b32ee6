/- Plain definitions, the third part: racks, cycle sets; no condition. -/
import Derived.Test.YtbodlnpmplcaoaaPb
namespace Go.Proofs.Ytbodlnpmplcaoaa
def unitI (n : Int) : List Int := ran n id
def backI (p : List Int) : List Int := ran (p.length : Int) fun x => idxI p x
def incB (l : List Int) : Bool := (ran ((l.length : Int) - 1) id).all fun i => decide (el l i < el l (i + 1))
def rackB (t : List (List Int)) (x y z : Int) : Bool := !decide (el (el t x) (el (el t y) z) = el (el t (el (el t x) y)) (el (el t x) z))
def rackF (t : List (List Int)) : List Int := first3 (t.length : Int) (rackB t)
def isRk (t : List (List Int)) : Bool := isTab t && t.all isPerm && (rackF t).isEmpty
def isCyc (t : List (List Int)) : Bool := isTab t && t.all isPerm && isPerm (diag t) && (cycF t).isEmpty
def cyE (t : List (List Int)) : Int := if isCyc t then 0 else 1
def inN (n x : Int) : Bool := decide (0 ≤ x) && decide (x ≤ n - 1)
def DpwE (c : List (List Int)) (x k : Int) : Int := if isCyc c then (if inN (c.length : Int) x && inN 1001 k then 0 else 2) else 1
def iterN (f : Int → Int) : Nat → Int → Int
  | 0, x => x
  | n + 1, x => iterN f n (f x)
def DpwV (c : List (List Int)) (x k : Int) : Int := if DpwE c x k = 0 then iterN (fun x => el (el c x) x) k.toNat x else 0
def DsoE (c : List (List Int)) (x z : Int) : Int := if isCyc c then (if inN (c.length : Int) x && inN (c.length : Int) z then 0 else 2) else 1
def DsoV (c : List (List Int)) (x z : Int) : Int := if DsoE c x z = 0 then idxI (el c x) z else 0
theorem isCyc_tab {t : List (List Int)} (h : isCyc t = true) : isTab t = true := by simp only [isCyc, Bool.and_eq_true] at h; exact h.1.1.1
theorem isCyc_perm {t : List (List Int)} (h : isCyc t = true) : t.all isPerm = true := by simp only [isCyc, Bool.and_eq_true] at h; exact h.1.1.2
theorem isPerm_el {p : List Int} (h : isPerm p = true) {i : Int} (hi : 0 ≤ i ∧ i < (p.length : Int)) : 0 ≤ el p i ∧ el p i < (p.length : Int) := (isPerm_iff.1 h).2 _ (el_mem hi)
theorem isPerm_inj {p : List Int} (h : isPerm p = true) {i j : Int} (hi : 0 ≤ i ∧ i < (p.length : Int)) (hj : 0 ≤ j ∧ j < (p.length : Int)) (e : el p i = el p j) : i = j := by
  have hn := nodup_el.1 (isPerm_iff.1 h).1
  rcases Int.lt_trichotomy i j with h1 | h1 | h1
  · exact absurd e (hn i j hi.1 h1 hj.2)
  · exact h1
  · exact absurd e.symm (hn j i hj.1 h1 hi.2)
theorem isPerm_surj {p : List Int} (h : isPerm p = true) {x : Int} (hx : 0 ≤ x ∧ x < (p.length : Int)) : ∃ i, (0 ≤ i ∧ i < (p.length : Int)) ∧ el p i = x := mem_el (isPerm_all h hx)
theorem idxI_el {p : List Int} (h : isPerm p = true) {i : Int} (hi : 0 ≤ i ∧ i < (p.length : Int)) : idxI p (el p i) = i :=
  idxF_found hi (fun j h0 h1 => by
    show (el p j == el p i) = false
    rw [beq_eq_false_iff_ne]
    intro e
    have := isPerm_inj h ⟨h0, by omega⟩ hi e
    omega) (by simp)
theorem idxI_spec {l : List Int} {x : Int} (h : x ∈ l) : (0 ≤ idxI l x ∧ idxI l x < (l.length : Int)) ∧ el l (idxI l x) = x := by
  have hc : l.any (fun y => y == x) = true := by simp [h]
  have hlt : l.findIdx (fun y => y == x) < l.length := List.findIdx_lt_length_of_exists ⟨x, h, by simp⟩
  have e : idxI l x = (l.findIdx (fun y => y == x) : Int) := by unfold idxI idxF; rw [if_pos hc]
  rw [e]
  refine ⟨⟨by omega, by omega⟩, ?_⟩
  have := List.findIdx_getElem (w := hlt)
  simp only [beq_iff_eq] at this
  simp [el, List.getD_eq_getElem?_getD, List.getElem?_eq_getElem hlt, this]
@[simp] theorem length_backI (p : List Int) : (backI p).length = p.length := by simp [backI]
theorem el_backI {p : List Int} (h : isPerm p = true) {i : Int} (hi : 0 ≤ i ∧ i < (p.length : Int)) : el (backI p) (el p i) = i := by
  have := isPerm_el h hi
  rw [backI, el_ran this, idxI_el h hi]
theorem el_backI' {p : List Int} (h : isPerm p = true) {x : Int} (hx : 0 ≤ x ∧ x < (p.length : Int)) : (0 ≤ el (backI p) x ∧ el (backI p) x < (p.length : Int)) ∧ el p (el (backI p) x) = x := by
  rw [backI, el_ran hx]
  exact idxI_spec (isPerm_all h hx)
theorem backI_uniq {p q : List Int} (h : isPerm p = true) (hl : q.length = p.length) (hq : ∀ i, 0 ≤ i → i < (p.length : Int) → el q (el p i) = i) : q = backI p :=
  ext_el (by simp [hl]) fun x h0 h1 => by
    obtain ⟨i, hi, rfl⟩ := isPerm_surj h (x := x) ⟨h0, by omega⟩
    rw [hq i hi.1 hi.2, el_backI h hi]
theorem isPerm_backI {p : List Int} (h : isPerm p = true) : isPerm (backI p) = true := by
  refine isPerm_iff.2 ⟨nodup_el.2 fun i j h0 h1 h2 e => ?_, fun x hx => ?_⟩
  · simp at h2
    have a := (el_backI' h (x := i) ⟨h0, by omega⟩).2
    have b := (el_backI' h (x := j) ⟨by omega, by omega⟩).2
    rw [e] at a; omega
  · obtain ⟨i, hi, rfl⟩ := mem_el hx
    simp at hi ⊢
    exact (el_backI' h hi).1
@[simp] theorem length_unitI (n : Int) : (unitI n).length = n.toNat := by simp [unitI]
theorem el_unitI {n i : Int} (h : 0 ≤ i ∧ i < n) : el (unitI n) i = i := by simp [unitI, el_ran h]
theorem isPerm_unitI (n : Int) : isPerm (unitI n) = true := by
  refine isPerm_iff.2 ⟨nodup_ran n, fun x hx => ?_⟩
  have := mem_ran.1 hx
  simp; omega
theorem eq_unitI {l : List Int} {n : Int} (hl : (l.length : Int) = n) : l = unitI n ↔ ∀ i, 0 ≤ i → i < n → el l i = i :=
  ⟨fun h i h0 h1 => by rw [h, el_unitI ⟨h0, h1⟩], fun h => eq_ran (by omega) h⟩
theorem incB_iff {l : List Int} : incB l = true ↔ ∀ i, 0 ≤ i → i + 1 < (l.length : Int) → el l i < el l (i + 1) := by
  unfold incB
  rw [List.all_eq_true]
  constructor
  · intro h i h0 h1
    simpa using h i (mem_ran.2 ⟨h0, by omega⟩)
  · intro h x hx
    have := mem_ran.1 hx
    simpa using h x this.1 (by omega)
theorem inc_lt {l : List Int} (h : ∀ i, 0 ≤ i → i + 1 < (l.length : Int) → el l i < el l (i + 1)) : ∀ (d : Nat) (i : Int), 0 ≤ i → i + d < (l.length : Int) → el l i + d ≤ el l (i + d)
  | 0, i, _, _ => by simp
  | d + 1, i, h0, h1 => by
    have a := inc_lt h d i h0 (by omega)
    have b := h (i + d) (by omega) (by omega)
    have e : i + ((d + 1 : Nat) : Int) = i + d + 1 := by omega
    rw [e]; omega
theorem incB_unit {l : List Int} (h : ∀ i, 0 ≤ i → i < (l.length : Int) → 0 ≤ el l i ∧ el l i < (l.length : Int)) : incB l = decide (l = unitI (l.length : Int)) := by
  rw [Bool.eq_iff_iff, incB_iff, decide_eq_true_eq, eq_unitI rfl]
  constructor
  · intro hi i h0 h1
    have a := inc_lt hi i.toNat 0 (by omega) (by omega)
    have b := inc_lt hi ((l.length : Int) - 1 - i).toNat i h0 (by omega)
    have e1 : (0 : Int) + (i.toNat : Int) = i := by omega
    have e2 : i + (((l.length : Int) - 1 - i).toNat : Int) = (l.length : Int) - 1 := by omega
    rw [e1] at a
    rw [e2] at b
    have c := h 0 (by omega) (by omega)
    have d := h ((l.length : Int) - 1) (by omega) (by omega)
    omega
  · intro hi i h0 h1
    rw [hi i h0 (by omega), hi (i + 1) (by omega) h1]; omega
theorem isTab_perm {t : List (List Int)} (h : isTab t = true) : t.all permB = t.all isPerm := by
  have key : ∀ r ∈ t, permB r = isPerm r := fun r hr => by
    obtain ⟨i, hi, rfl⟩ := mem_el hr
    have a := (isTab_row h hi).1
    have b := isTab_len h
    unfold permB
    have e1 : decide (1 ≤ ((el t i).length : Int)) = true := decide_eq_true (by omega)
    have e2 : decide (((el t i).length : Int) ≤ 12) = true := decide_eq_true (by omega)
    rw [e1, e2]; rfl
  rw [Bool.eq_iff_iff, List.all_eq_true, List.all_eq_true]
  exact ⟨fun h r hr => by rw [← key r hr]; exact h r hr, fun h r hr => by rw [key r hr]; exact h r hr⟩
theorem all_perm_el {t : List (List Int)} (h : t.all isPerm = true) {i : Int} (hi : 0 ≤ i ∧ i < (t.length : Int)) : isPerm (el t i) = true := all_el.1 h i hi.1 hi.2
@[simp] theorem length_diag (t : List (List Int)) : (diag t).length = t.length := by simp [diag]
theorem rk_el {t : List (List Int)} (h : isTab t = true) {x y : Int} (hx : 0 ≤ x ∧ x < (t.length : Int)) (hy : 0 ≤ y ∧ y < (t.length : Int)) : 0 ≤ el (el t x) y ∧ el (el t x) y < (t.length : Int) := (isTab_row h hx).2 y hy.1 hy.2
theorem rk_len {t : List (List Int)} (h : isTab t = true) {x : Int} (hx : 0 ≤ x ∧ x < (t.length : Int)) : ((el t x).length : Int) = (t.length : Int) := (isTab_row h hx).1
theorem rk_inj {t : List (List Int)} (h : isTab t = true) (hp : t.all isPerm = true) {x y z : Int} (hx : 0 ≤ x ∧ x < (t.length : Int)) (hy : 0 ≤ y ∧ y < (t.length : Int)) (hz : 0 ≤ z ∧ z < (t.length : Int)) (e : el (el t x) y = el (el t x) z) : y = z := by
  have := rk_len h hx
  exact isPerm_inj (all_perm_el hp hx) ⟨hy.1, by omega⟩ ⟨hz.1, by omega⟩ e
theorem perm_of_inj {l : List Int} (h1 : ∀ i, 0 ≤ i → i < (l.length : Int) → 0 ≤ el l i ∧ el l i < (l.length : Int)) (h2 : ∀ i j, 0 ≤ i → i < (l.length : Int) → 0 ≤ j → j < (l.length : Int) → el l i = el l j → i = j) : isPerm l = true := by
  refine isPerm_iff.2 ⟨nodup_el.2 fun i j a b c e => ?_, fun x hx => ?_⟩
  · have := h2 i j a (by omega) (by omega) c e; omega
  · obtain ⟨i, hi, rfl⟩ := mem_el hx; exact h1 i hi.1 hi.2
end Go.Proofs.Ytbodlnpmplcaoaa

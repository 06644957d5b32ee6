/- Plain definitions, the seventeenth part: pairs of tables, solutions of cycle sets and back; no condition. -/
import Derived.Test.YtbodlnpmplcaoaaPp
namespace Go.Proofs.Ytbodlnpmplcaoaa
def rowsN (n : Int) (t : List (List Int)) : Prop := (t.length : Int) = n ∧ ∀ r ∈ t, (r.length : Int) = n ∧ ∀ z ∈ r, 0 ≤ z ∧ z < n
def szT (t : List (List Int)) : Prop := (t.length : Int) ≤ 20 ∧ ∀ r ∈ t, (r.length : Int) ≤ 20
def pairN (n : Int) (a b : List (List Int)) : Prop := isTab a = true ∧ isTab b = true ∧ (a.length : Int) = n ∧ (b.length : Int) = n
def pairM (most : Int) (a b : List (List Int)) : Prop := pairN (a.length : Int) a b ∧ (a.length : Int) ≤ most
theorem szT_rows {n : Int} {t : List (List Int)} (hn : n ≤ 20) (h : rowsN n t) : szT t := ⟨by have := h.1; omega, fun r hr => by have := (h.2 r hr).1; omega⟩
theorem szT_tab {t : List (List Int)} (h : isTab t = true) : szT t := by
  have hn := isTab_len h
  refine ⟨by omega, fun r hr => ?_⟩
  obtain ⟨i, hi, rfl⟩ := mem_el hr
  have := rk_len h hi
  omega
theorem szT_se {t : List (List Int)} {i : Int} {r : List Int} (h : szT t) (hr : (r.length : Int) ≤ 20) : szT (se t i r) :=
  ⟨by have := h.1; simpa using this, fun q hq => by
    rcases List.mem_or_eq_of_mem_set hq with h1 | h1
    · exact h.2 q h1
    · rw [h1]; exact hr⟩
theorem szT_small {t : List (List Int)} (h : szT t) : small2 t := ⟨by have := h.1; show (_ : Int) ≤ _; omega, fun r hr => by have := h.2 r hr; show (_ : Int) ≤ _; omega⟩
theorem pairN_pm {n : Int} {a b : List (List Int)} (h : pairN n a b) : pmB a b = true := by
  obtain ⟨h1, h2, h3, h4⟩ := h
  simp [pmB, h1, h2, h3, h4]
theorem ren_rows {t : List (List Int)} {p : List Int} (ht : isTab t = true) (hp : isPerm p = true) (hl : (p.length : Int) = (t.length : Int)) (hr : t.all isPerm = true) : (renT t p).all isPerm = true := by
  have tr := isTab_ren ht hp hl
  have hn := isTab_len ht
  have hlen : ((renT t p).length : Int) = (t.length : Int) := len_tab (by omega)
  refine all_perm_mk tr fun x y z hx hy hz e => ?_
  obtain ⟨u, hu, rfl⟩ := isPerm_surj hp (x := x) ⟨hx.1, by omega⟩
  obtain ⟨v, hv, rfl⟩ := isPerm_surj hp (x := y) ⟨hy.1, by omega⟩
  obtain ⟨w, hw, rfl⟩ := isPerm_surj hp (x := z) ⟨hz.1, by omega⟩
  rw [renT_el hp hl ⟨hu.1, by omega⟩ ⟨hv.1, by omega⟩, renT_el hp hl ⟨hu.1, by omega⟩ ⟨hw.1, by omega⟩] at e
  have a := rk_el ht (x := u) (y := v) ⟨hu.1, by omega⟩ ⟨hv.1, by omega⟩
  have b := rk_el ht (x := u) (y := w) ⟨hu.1, by omega⟩ ⟨hw.1, by omega⟩
  have e2 := isPerm_inj hp ⟨a.1, by omega⟩ ⟨b.1, by omega⟩ e
  rw [rk_inj ht hr (x := u) (y := v) (z := w) ⟨hu.1, by omega⟩ ⟨hv.1, by omega⟩ ⟨hw.1, by omega⟩ e2]
theorem back_rows {t : List (List Int)} (hr : t.all isPerm = true) : (t.map backI).all isPerm = true := all_el.2 fun i i0 i1 => by
  rw [List.length_map] at i1
  rw [el_map ⟨i0, i1⟩]; exact isPerm_backI (all_perm_el hr ⟨i0, i1⟩)
theorem isTab_back {t : List (List Int)} (ht : isTab t = true) (hr : t.all isPerm = true) : isTab (t.map backI) = true := by
  have hn := isTab_len ht
  refine isTab_rows (n := (t.length : Int)) hn (by simp) fun r h => ?_
  obtain ⟨q, hq, rfl⟩ := List.mem_map.1 h
  obtain ⟨i, hi, rfl⟩ := mem_el hq
  have l := rk_len ht hi
  have p := all_perm_el hr hi
  refine ⟨by simpa using l, fun z hz => ?_⟩
  have := (isPerm_iff.1 (isPerm_backI p)).2 z hz
  rw [length_backI] at this
  omega
theorem unit_rows {n : Int} : (tab n fun _ y => y).all isPerm = true := all_el.2 fun i i0 i1 => by
  have h1 : ((tab n fun _ y => y).length : Int) = max n 0 := by simp
  unfold tab
  rw [el_ran ⟨i0, by omega⟩]; exact isPerm_unitI n
theorem swap_perm {l : List Int} (h : isPerm l = true) {i j : Int} (hi : 0 ≤ i ∧ i < (l.length : Int)) (hj : 0 ≤ j ∧ j < (l.length : Int)) : isPerm (se (se l i (el l j)) j (el l i)) = true := by
  have ln : ((se (se l i (el l j)) j (el l i)).length : Int) = (l.length : Int) := by simp
  refine isPerm_of_all fun x x0 x1 => ?_
  obtain ⟨k, hk, rfl⟩ := isPerm_surj h (x := x) ⟨x0, by omega⟩
  by_cases e1 : k = i
  · subst e1
    have : el (se (se l k (el l j)) j (el l k)) j = el l k := el_se_same ⟨hj.1, by simp; omega⟩
    have hm := el_mem (l := se (se l k (el l j)) j (el l k)) (i := j) ⟨hj.1, by omega⟩; rw [this] at hm; exact hm
  · by_cases e2 : k = j
    · subst e2
      have : el (se (se l i (el l k)) k (el l i)) i = el l k := by rw [el_se_ne hk.1 hi.1 e1, el_se_same hi]
      have hm := el_mem (l := se (se l i (el l k)) k (el l i)) (i := i) ⟨hi.1, by omega⟩; rw [this] at hm; exact hm
    · have : el (se (se l i (el l j)) j (el l i)) k = el l k := by rw [el_se_ne hj.1 hk.1 (Ne.symm e2), el_se_ne hi.1 hk.1 (Ne.symm e1)]
      have hm := el_mem (l := se (se l i (el l j)) j (el l i)) (i := k) ⟨hk.1, by omega⟩; rw [this] at hm; exact hm
section
variable {c : List (List Int)} (h : isCyc c = true)
include h
end
end Go.Proofs.Ytbodlnpmplcaoaa

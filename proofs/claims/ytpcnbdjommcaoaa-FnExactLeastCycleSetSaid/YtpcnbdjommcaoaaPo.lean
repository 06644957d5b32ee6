/- Plain definitions, the fifteenth part: images of tables, duals and quandles of racks; no condition. -/
import Derived.Test.YtpcnbdjommcaoaaPn
namespace Go.Proofs.Ytpcnbdjommcaoaa
def renT (t : List (List Int)) (p : List Int) : List (List Int) := tab (t.length : Int) fun u v => el p (el (el t (idxI p u)) (idxI p v))
structure RnI (t : List (List Int)) (p : List Int) (x y : Int) (o : List (List Int)) : Prop where
  len : (o.length : Int) = (t.length : Int)
  row : ∀ u, 0 ≤ u → u < (t.length : Int) → ((el o u).length : Int) = (t.length : Int)
  val : ∀ u v, 0 ≤ u → u < (t.length : Int) → 0 ≤ v → v < (t.length : Int) → (u < x ∨ (u = x ∧ v < y)) → el (el o (el p u)) (el p v) = el p (el (el t u) v)
section
variable {t : List (List Int)} {p : List Int} {x y : Int} {o : List (List Int)}
theorem rnI_step (hp : isPerm p = true) (hl : (p.length : Int) = (t.length : Int)) (h : RnI t p x y o) (hx : 0 ≤ x ∧ x < (t.length : Int)) (hy : 0 ≤ y ∧ y < (t.length : Int)) :
    RnI t p x (y + 1) (se o (el p x) (se (el o (el p x)) (el p y) (el p (el (el t x) y)))) := by
  have px := isPerm_el hp (i := x) ⟨hx.1, by omega⟩
  have py := isPerm_el hp (i := y) ⟨hy.1, by omega⟩
  have hol := h.len
  have hrow := h.row (el p x) px.1 (by omega)
  refine ⟨by simpa using h.len, fun u u0 u1 => ?_, fun u v u0 u1 v0 v1 hc => ?_⟩
  · by_cases e : u = el p x
    · subst e; rw [el_se_same (by omega)]; simpa using hrow
    · rw [el_se_ne px.1 u0 (Ne.symm e)]; exact h.row u u0 u1
  · have pu := isPerm_el hp (i := u) ⟨u0, by omega⟩
    have pv := isPerm_el hp (i := v) ⟨v0, by omega⟩
    by_cases e : u = x
    · subst e
      rw [el_se_same (by omega)]
      by_cases e2 : v = y
      · subst e2; rw [el_se_same (by omega)]
      · rw [el_se_ne py.1 pv.1 (fun e3 => e2 (isPerm_inj hp ⟨v0, by omega⟩ ⟨hy.1, by omega⟩ e3.symm))]
        exact h.val u v u0 u1 v0 v1 (.inr ⟨rfl, by omega⟩)
    · rw [el_se_ne px.1 pu.1 (fun e3 => e (isPerm_inj hp ⟨u0, by omega⟩ ⟨hx.1, by omega⟩ e3.symm))]
      exact h.val u v u0 u1 v0 v1 (.inl (by omega))
theorem rnI_row (h : RnI t p x (t.length : Int) o) : RnI t p (x + 1) 0 o :=
  ⟨h.len, h.row, fun u v u0 u1 v0 v1 hc => h.val u v u0 u1 v0 v1 (by omega)⟩
theorem rnI_end (hp : isPerm p = true) (hl : (p.length : Int) = (t.length : Int)) (h : RnI t p (t.length : Int) 0 o) : o = renT t p := by
  refine ext_el (by have := h.len; simp [renT, tab]; omega) fun i i0 i1 => ?_
  have hol := h.len
  have ei : el (renT t p) i = ran (t.length : Int) fun v => el p (el (el t (idxI p i)) (idxI p v)) := by unfold renT tab; rw [el_ran ⟨i0, by omega⟩]
  rw [ei]
  refine eq_ran (by have := h.row i i0 (by omega); omega) fun j j0 j1 => ?_
  have a := idxI_spec (isPerm_all hp (x := i) ⟨i0, by omega⟩)
  have b := idxI_spec (isPerm_all hp (x := j) ⟨j0, by omega⟩)
  have := h.val (idxI p i) (idxI p j) a.1.1 (by omega) b.1.1 (by omega) (.inl (by omega))
  rw [a.2, b.2] at this; exact this
theorem isTab_ren (ht : isTab t = true) (hp : isPerm p = true) (hl : (p.length : Int) = (t.length : Int)) : isTab (renT t p) = true :=
  isTab_tab (isTab_len ht) fun u v u0 u1 v0 v1 => by
    have a := (idxI_spec (isPerm_all hp (x := u) ⟨u0, by omega⟩)).1
    have b := (idxI_spec (isPerm_all hp (x := v) ⟨v0, by omega⟩)).1
    have c := rk_el ht (x := idxI p u) (y := idxI p v) ⟨a.1, by omega⟩ ⟨b.1, by omega⟩
    have := isPerm_el hp (i := el (el t (idxI p u)) (idxI p v)) ⟨c.1, by omega⟩
    omega
end
section
variable {r : List (List Int)} (h : isRk r = true)
include h
end

end Go.Proofs.Ytpcnbdjommcaoaa

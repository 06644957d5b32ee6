/- Plain definitions, the fifteenth part: images of tables, duals and quandles of racks; no condition. -/
import Derived.Test.YtbodlnpmplcaoaaPn
namespace Go.Proofs.Ytbodlnpmplcaoaa
/-- The image of a table by a permutation. -/
def renT (t : List (List Int)) (p : List Int) : List (List Int) := tab (t.length : Int) fun u v => el p (el (el t (idxI p u)) (idxI p v))
def imgI (t : List (List Int)) (p : List Int) : List (List Int) := if (p.length : Int) = (t.length : Int) ∧ permB p = true then renT t p else []
/-- What of an image is written. -/
structure RnI (t : List (List Int)) (p : List Int) (x y : Int) (o : List (List Int)) : Prop where
  len : (o.length : Int) = (t.length : Int)
  row : ∀ u, 0 ≤ u → u < (t.length : Int) → ((el o u).length : Int) = (t.length : Int)
  val : ∀ u v, 0 ≤ u → u < (t.length : Int) → 0 ≤ v → v < (t.length : Int) → (u < x ∨ (u = x ∧ v < y)) → el (el o (el p u)) (el p v) = el p (el (el t u) v)
section
variable {t : List (List Int)} {p : List Int} {x y : Int} {o : List (List Int)}
theorem rnI_step (hp : isPerm p = true) (hl : (p.length : Int) = (t.length : Int)) (h : RnI t p x y o) (hx : 0 ≤ x ∧ x < (t.length : Int)) (hy : 0 ≤ y ∧ y < (t.length : Int)) :
    RnI t p x (y + 1) (se o (el p x) (se (el o (el p x)) (el p y) (el p (el (el t x) y)))) := by
  have px := isPerm_el hp (i := x) ⟨hx.1, by omega⟩
  have py := isPerm_el hp (i := y) ⟨hy.1, by omega⟩
  have hol := h.len
  have hrow := h.row (el p x) px.1 (by omega)
  refine ⟨by simpa using h.len, fun u u0 u1 => ?_, fun u v u0 u1 v0 v1 hc => ?_⟩
  · by_cases e : u = el p x
    · subst e; rw [el_se_same (by omega)]; simpa using hrow
    · rw [el_se_ne px.1 u0 (Ne.symm e)]; exact h.row u u0 u1
  · have pu := isPerm_el hp (i := u) ⟨u0, by omega⟩
    have pv := isPerm_el hp (i := v) ⟨v0, by omega⟩
    by_cases e : u = x
    · subst e
      rw [el_se_same (by omega)]
      by_cases e2 : v = y
      · subst e2; rw [el_se_same (by omega)]
      · rw [el_se_ne py.1 pv.1 (fun e3 => e2 (isPerm_inj hp ⟨v0, by omega⟩ ⟨hy.1, by omega⟩ e3.symm))]
        exact h.val u v u0 u1 v0 v1 (.inr ⟨rfl, by omega⟩)
    · rw [el_se_ne px.1 pu.1 (fun e3 => e (isPerm_inj hp ⟨u0, by omega⟩ ⟨hx.1, by omega⟩ e3.symm))]
      exact h.val u v u0 u1 v0 v1 (.inl (by omega))
theorem rnI_row (h : RnI t p x (t.length : Int) o) : RnI t p (x + 1) 0 o :=
  ⟨h.len, h.row, fun u v u0 u1 v0 v1 hc => h.val u v u0 u1 v0 v1 (by omega)⟩
theorem rnI_end (hp : isPerm p = true) (hl : (p.length : Int) = (t.length : Int)) (h : RnI t p (t.length : Int) 0 o) : o = renT t p := by
  refine ext_el (by have := h.len; simp [renT, tab]; omega) fun i i0 i1 => ?_
  have hol := h.len
  have ei : el (renT t p) i = ran (t.length : Int) fun v => el p (el (el t (idxI p i)) (idxI p v)) := by unfold renT tab; rw [el_ran ⟨i0, by omega⟩]
  rw [ei]
  refine eq_ran (by have := h.row i i0 (by omega); omega) fun j j0 j1 => ?_
  have a := idxI_spec (isPerm_all hp (x := i) ⟨i0, by omega⟩)
  have b := idxI_spec (isPerm_all hp (x := j) ⟨j0, by omega⟩)
  have := h.val (idxI p i) (idxI p j) a.1.1 (by omega) b.1.1 (by omega) (.inl (by omega))
  rw [a.2, b.2] at this; exact this
theorem renT_el (hp : isPerm p = true) (hl : (p.length : Int) = (t.length : Int)) (hx : 0 ≤ x ∧ x < (t.length : Int)) (hy : 0 ≤ y ∧ y < (t.length : Int)) : el (el (renT t p) (el p x)) (el p y) = el p (el (el t x) y) := by
  have px := isPerm_el hp (i := x) ⟨hx.1, by omega⟩
  have py := isPerm_el hp (i := y) ⟨hy.1, by omega⟩
  unfold renT
  rw [el_tab ⟨px.1, by omega⟩ ⟨py.1, by omega⟩, idxI_el hp ⟨hx.1, by omega⟩, idxI_el hp ⟨hy.1, by omega⟩]
theorem isTab_ren (ht : isTab t = true) (hp : isPerm p = true) (hl : (p.length : Int) = (t.length : Int)) : isTab (renT t p) = true :=
  isTab_tab (isTab_len ht) fun u v u0 u1 v0 v1 => by
    have a := (idxI_spec (isPerm_all hp (x := u) ⟨u0, by omega⟩)).1
    have b := (idxI_spec (isPerm_all hp (x := v) ⟨v0, by omega⟩)).1
    have c := rk_el ht (x := idxI p u) (y := idxI p v) ⟨a.1, by omega⟩ ⟨b.1, by omega⟩
    have := isPerm_el hp (i := el (el t (idxI p u)) (idxI p v)) ⟨c.1, by omega⟩
    omega
/-- An automorphism leaves the table. -/
theorem renT_auto (ht : isTab t = true) (hp : isPerm p = true) (hl : (p.length : Int) = (t.length : Int)) (h : ∀ u v : Int, (0 ≤ u ∧ u < (t.length : Int)) → (0 ≤ v ∧ v < (t.length : Int)) → el p (el (el t u) v) = el (el t (el p u)) (el p v)) : renT t p = t := by
  have : renT t p = tab (t.length : Int) fun u v => el (el t u) v := by
    unfold renT tab
    refine ran_congr fun u u0 u1 => ran_congr fun v v0 v1 => ?_
    have a := idxI_spec (isPerm_all hp (x := u) ⟨u0, by omega⟩)
    have b := idxI_spec (isPerm_all hp (x := v) ⟨v0, by omega⟩)
    show el p (el (el t (idxI p u)) (idxI p v)) = el (el t u) v
    rw [h _ _ ⟨a.1.1, by omega⟩ ⟨b.1.1, by omega⟩, a.2, b.2]
  rw [this, ← tab_el ht]
end
theorem backI_backI {p : List Int} (h : isPerm p = true) : backI (backI p) = p :=
  (backI_uniq (isPerm_backI h) (by simp) fun i i0 i1 => by simp at i1; exact (el_backI' h ⟨i0, by omega⟩).2).symm
theorem dua_len {r : List (List Int)} (_h : isRk r = true) : ((r.map backI).length : Int) = (r.length : Int) := by simp
theorem dua_row {r : List (List Int)} (_h : isRk r = true) {x : Int} (hx : 0 ≤ x ∧ x < (r.length : Int)) : el (r.map backI) x = backI (el r x) := el_map hx
theorem invB_back {r : List (List Int)} (_h : isRk r = true) {p : List Int} (hp : isPerm p = true) : invB p = true ↔ backI p = p := by
  rw [invB_iff]
  constructor
  · intro hi; exact (backI_uniq hp rfl fun i i0 i1 => hi i i0 i1).symm
  · intro he i i0 i1
    have := el_backI hp (i := i) ⟨i0, i1⟩
    rwa [he] at this
theorem qua_len {r : List (List Int)} (_h : isRk r = true) : ((QuaT r).length : Int) = (r.length : Int) := len_tab (by omega)
section
variable {r : List (List Int)} (h : isRk r = true)
include h
theorem rk_row_auto {x : Int} (hx : 0 ≤ x ∧ x < (r.length : Int)) : imgI r (el r x) = r := by
  have ht := isRk_tab h
  have hp := all_perm_el (isRk_perm h) hx
  have hl := rk_len ht hx
  have h12 := isTab_len ht
  unfold imgI
  rw [if_pos ⟨hl, by simp [permB, hp]; omega⟩]
  exact renT_auto ht hp hl fun u v hu hv => isRk_law h hx hu hv
theorem kink_same {x w : Int} (hx : 0 ≤ x ∧ x < (r.length : Int)) (hw : 0 ≤ w ∧ w < (r.length : Int)) : el (el r (el (el r x) x)) w = el (el r x) w := by
  obtain ⟨z, hz, rfl⟩ := rk_surj (isRk_tab h) (isRk_perm h) hx hw
  rw [← isRk_law h hx hx hz]
theorem kink_in {x : Int} (hx : 0 ≤ x ∧ x < (r.length : Int)) : 0 ≤ el (diag r) x ∧ el (diag r) x < (r.length : Int) := by rw [el_diag hx]; exact rk_el (isRk_tab h) hx hx
/-- The kink is an automorphism. -/
theorem kink_hom {u v : Int} (hu : 0 ≤ u ∧ u < (r.length : Int)) (hv : 0 ≤ v ∧ v < (r.length : Int)) : el (diag r) (el (el r u) v) = el (el r (el (diag r) u)) (el (diag r) v) := by
  have huv := rk_el (isRk_tab h) hu hv
  rw [el_diag huv, el_diag hu, el_diag hv, ← isRk_law h hu hv hv, kink_same h hu (rk_el (isRk_tab h) hv hv)]
theorem rk_kink_auto : imgI r (diag r) = r := by
  have ht := isRk_tab h
  have hp := isPerm_kink h
  have h12 := isTab_len ht
  unfold imgI
  rw [if_pos ⟨by simp, by simp [permB, hp]; omega⟩]
  exact renT_auto ht hp (by simp) fun u v hu hv => kink_hom h hu hv
theorem dua_el {x y : Int} (hx : 0 ≤ x ∧ x < (r.length : Int)) (hy : 0 ≤ y ∧ y < (r.length : Int)) : (0 ≤ el (el (r.map backI) x) y ∧ el (el (r.map backI) x) y < (r.length : Int)) ∧ el (el r x) (el (el (r.map backI) x) y) = y := by
  have hl := rk_len (isRk_tab h) hx
  rw [dua_row h hx]
  have := el_backI' (all_perm_el (isRk_perm h) hx) (x := y) ⟨hy.1, by omega⟩
  exact ⟨⟨this.1.1, by omega⟩, this.2⟩
theorem isTab_dua : isTab (r.map backI) = true :=
  isTab_mk (by rw [dua_len h]; exact isTab_len (isRk_tab h)) fun i i0 i1 => by
    rw [dua_len h] at i1 ⊢
    exact ⟨by rw [dua_row h ⟨i0, i1⟩]; simpa using rk_len (isRk_tab h) ⟨i0, i1⟩, fun j j0 j1 => (dua_el h ⟨i0, i1⟩ ⟨j0, j1⟩).1⟩
theorem isRk_dua : isRk (r.map backI) = true := by
  have ht := isRk_tab h
  have hp := isRk_perm h
  refine isRk_mk (isTab_dua h) (List.all_eq_true.2 fun q hq => ?_) fun x y z hx hy hz => ?_
  · obtain ⟨q', hq', rfl⟩ := List.mem_map.1 hq
    exact isPerm_backI (List.all_eq_true.1 hp q' hq')
  · rw [dua_len h] at hx hy hz
    have u := dua_el h hx hy
    have z1 := dua_el h hx hz
    have z2 := dua_el h hy hz
    have w := dua_el h u.1 z1.1
    have v := dua_el h hx z2.1
    refine rk_inj ht hp hx v.1 w.1 ?_
    rw [v.2]
    refine rk_inj ht hp hy z2.1 (rk_el ht hx w.1) ?_
    rw [z2.2]
    have l := isRk_law h hx u.1 w.1
    rw [w.2, z1.2, u.2] at l
    exact l
theorem dua_dua : (r.map backI).map backI = r := by
  rw [List.map_map]
  have : ∀ q ∈ r, (backI ∘ backI) q = q := fun q hq => backI_backI (List.all_eq_true.1 (isRk_perm h) q hq)
  rw [List.map_congr_left this]; simp
theorem dua_inv : r.all invB = true ↔ r.map backI = r := by
  constructor
  · intro hi
    have : ∀ q ∈ r, backI q = q := fun q hq => (invB_back h (List.all_eq_true.1 (isRk_perm h) q hq)).1 (List.all_eq_true.1 hi q hq)
    rw [List.map_congr_left this]; simp
  · intro he
    refine all_el.2 fun i i0 i1 => (invB_back h (all_perm_el (isRk_perm h) ⟨i0, i1⟩)).2 ?_
    rw [← dua_row h ⟨i0, i1⟩, he]
/-! The quandle of a rack. -/
theorem qua_el {x y : Int} (hx : 0 ≤ x ∧ x < (r.length : Int)) (hy : 0 ≤ y ∧ y < (r.length : Int)) : (0 ≤ el (el (QuaT r) x) y ∧ el (el (QuaT r) x) y < (r.length : Int)) ∧ el (diag r) (el (el (QuaT r) x) y) = el (el r x) y := by
  have e : el (el (QuaT r) x) y = el (backI (diag r)) (el (el r x) y) := el_tab hx hy
  have a := rk_el (isRk_tab h) hx hy
  have := el_backI' (isPerm_kink h) (x := el (el r x) y) ⟨a.1, by simp; omega⟩
  rw [e]; simp at this; exact this
theorem kink_inj {u v : Int} (hu : 0 ≤ u ∧ u < (r.length : Int)) (hv : 0 ≤ v ∧ v < (r.length : Int)) (e : el (diag r) u = el (diag r) v) : u = v := isPerm_inj (isPerm_kink h) ⟨hu.1, by simp; omega⟩ ⟨hv.1, by simp; omega⟩ e
theorem isTab_qua : isTab (QuaT r) = true := isTab_tab (isTab_len (isRk_tab h)) fun x y x0 x1 y0 y1 => by
  have := (qua_el h ⟨x0, x1⟩ ⟨y0, y1⟩).1
  have e : el (el (QuaT r) x) y = el (backI (diag r)) (el (el r x) y) := el_tab ⟨x0, x1⟩ ⟨y0, y1⟩
  rwa [e] at this
theorem kink_row {x w : Int} (hx : 0 ≤ x ∧ x < (r.length : Int)) (hw : 0 ≤ w ∧ w < (r.length : Int)) : el (el r (el (diag r) x)) w = el (el r x) w := by rw [el_diag hx]; exact kink_same h hx hw
theorem isRk_qua : isRk (QuaT r) = true := by
  have ht := isRk_tab h
  have hp := isRk_perm h
  refine isRk_mk (isTab_qua h) (all_perm_mk (isTab_qua h) fun x y z hx hy hz e => ?_) fun x y z hx hy hz => ?_
  · rw [qua_len h] at hx hy hz
    have a := (qua_el h hx hy).2
    have b := (qua_el h hx hz).2
    rw [e] at a
    exact rk_inj ht hp hx hy hz (a.symm.trans b)
  · rw [qua_len h] at hx hy hz
    have yz := qua_el h hy hz
    have xy := qua_el h hx hy
    have xz := qua_el h hx hz
    have L := qua_el h hx yz.1
    have R := qua_el h xy.1 xz.1
    refine kink_inj h L.1 R.1 (kink_inj h (kink_in h L.1) (kink_in h R.1) ?_)
    rw [L.2, R.2, kink_hom h hx yz.1, kink_hom h xy.1 xz.1, yz.2, xy.2, xz.2, kink_row h hx (rk_el ht hy hz)]
    exact isRk_law h hx hy hz
theorem qua_diag : diag (QuaT r) = unitI ((QuaT r).length : Int) := diag_unit.2 fun x x0 x1 => by
  rw [qua_len h] at x1
  have a := qua_el h ⟨x0, x1⟩ ⟨x0, x1⟩
  refine kink_inj h a.1 ⟨x0, x1⟩ ?_
  rw [a.2, el_diag ⟨x0, x1⟩]
theorem qua_self : diag r = unitI (r.length : Int) ↔ QuaT r = r := by
  constructor
  · intro hd
    have : QuaT r = tab (r.length : Int) fun x y => el (el r x) y := by
      unfold QuaT tab
      refine ran_congr fun x x0 x1 => ran_congr fun y y0 y1 => ?_
      have a := qua_el h ⟨x0, x1⟩ ⟨y0, y1⟩
      have e : el (el (QuaT r) x) y = el (backI (diag r)) (el (el r x) y) := el_tab ⟨x0, x1⟩ ⟨y0, y1⟩
      rw [hd, el_unitI a.1] at a
      show el (backI (diag r)) (el (el r x) y) = el (el r x) y
      rw [← e]; exact a.2
    rw [this, ← tab_el (isRk_tab h)]
  · intro he
    refine diag_unit.2 fun x x0 x1 => ?_
    have a := qua_diag h
    rw [he] at a
    exact diag_unit.1 a x x0 x1
end
end Go.Proofs.Ytbodlnpmplcaoaa

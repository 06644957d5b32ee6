/- Plain definitions, the seventh part: conjugations, solutions, orders, quotients, mirrors; no condition. -/
import Derived.Test.YtbodlnpmplcaoaaPf
namespace Go.Proofs.Ytbodlnpmplcaoaa
theorem el_tab {n : Int} {f : Int → Int → Int} {x y : Int} (hx : 0 ≤ x ∧ x < n) (hy : 0 ≤ y ∧ y < n) : el (el (tab n f) x) y = f x y := by
  unfold tab; rw [el_ran hx, el_ran hy]
theorem len_tab {n : Int} {f : Int → Int → Int} (hn : 0 ≤ n) : ((tab n f).length : Int) = n := by simp; omega
theorem tab_rowlen {n : Int} {f : Int → Int → Int} {x : Int} (hx : 0 ≤ x ∧ x < n) : ((el (tab n f) x).length : Int) = n := by
  unfold tab; rw [el_ran hx]; simp; omega
theorem isTab_tab {n : Int} {f : Int → Int → Int} (hn : 1 ≤ n ∧ n ≤ 12) (h : ∀ x y, 0 ≤ x → x < n → 0 ≤ y → y < n → 0 ≤ f x y ∧ f x y < n) : isTab (tab n f) = true := by
  have hl : ((tab n f).length : Int) = n := len_tab (by omega)
  refine isTab_mk (by omega) fun i i0 i1 => ⟨by rw [tab_rowlen ⟨i0, by omega⟩, hl], fun j j0 j1 => ?_⟩
  rw [el_tab ⟨i0, by omega⟩ ⟨j0, by omega⟩, hl]
  exact h i j i0 (by omega) j0 (by omega)
def cyA (c : List (List Int)) (x y : Int) : Int := idxI (el c x) y
def cyB (c : List (List Int)) (x y : Int) : Int := el (el c (cyA c x y)) x
def cyAT (c : List (List Int)) : List (List Int) := tab (c.length : Int) (cyA c)
def cyBT (c : List (List Int)) : List (List Int) := tab (c.length : Int) (cyB c)
def SocA (c : List (List Int)) : List (List Int) := if isCyc c then cyAT c else []
def SocB (c : List (List Int)) : List (List Int) := if isCyc c then cyBT c else []
def colI (t : List (List Int)) (y : Int) : List Int := ran (t.length : Int) fun x => el (el t x) y
def trnT (t : List (List Int)) : List (List Int) := tab (t.length : Int) fun x y => el (el t y) x
def pmB (a b : List (List Int)) : Bool := isTab a && isTab b && decide ((a.length : Int) = (b.length : Int))
theorem isTab_trnT {t : List (List Int)} (h : isTab t = true) : isTab (trnT t) = true := isTab_tab (isTab_len h) fun _ _ x0 x1 y0 y1 => rk_el h ⟨y0, y1⟩ ⟨x0, x1⟩
theorem len_trnT {t : List (List Int)} : (trnT t).length = t.length := by simp [trnT]
theorem cy_in {c : List (List Int)} (ht : isTab c = true) (hp : c.all isPerm = true) {x y : Int} (hx : 0 ≤ x ∧ x < (c.length : Int)) (hy : 0 ≤ y ∧ y < (c.length : Int)) :
    ((0 ≤ cyA c x y ∧ cyA c x y < (c.length : Int)) ∧ el (el c x) (cyA c x y) = y) ∧ 0 ≤ cyB c x y ∧ cyB c x y < (c.length : Int) := by
  have l := rk_len ht hx
  have m := isPerm_all (all_perm_el hp hx) (x := y) ⟨hy.1, by omega⟩
  obtain ⟨h1, h2⟩ := idxI_spec m
  have h1' : 0 ≤ cyA c x y ∧ cyA c x y < (c.length : Int) := ⟨h1.1, by unfold cyA; omega⟩
  exact ⟨⟨h1', h2⟩, rk_el ht h1' hx⟩
theorem isTab_cyAT {c : List (List Int)} (ht : isTab c = true) (hp : c.all isPerm = true) : isTab (cyAT c) = true := isTab_tab (isTab_len ht) fun _ _ x0 x1 y0 y1 => (cy_in ht hp ⟨x0, x1⟩ ⟨y0, y1⟩).1.1
theorem isTab_cyBT {c : List (List Int)} (ht : isTab c = true) (hp : c.all isPerm = true) : isTab (cyBT c) = true := isTab_tab (isTab_len ht) fun _ _ x0 x1 y0 y1 => (cy_in ht hp ⟨x0, x1⟩ ⟨y0, y1⟩).2
theorem cy_nondeg {c : List (List Int)} (h : isCyc c = true) : (trnT (cyBT c)).all isPerm = true := by
  have ht := isCyc_tab h
  have hp := isCyc_perm h
  have hd := isCyc_diag h
  have hn := isTab_len ht
  have hlB : ((cyBT c).length : Int) = (c.length : Int) := len_tab (by omega)
  have hlT : ((trnT (cyBT c)).length : Int) = (c.length : Int) := by rw [len_trnT]; exact hlB
  have hval : ∀ {y x : Int}, (0 ≤ y ∧ y < (c.length : Int)) → (0 ≤ x ∧ x < (c.length : Int)) → el (el (trnT (cyBT c)) y) x = cyB c x y := fun {y x} hy hx => by
    unfold trnT
    rw [el_tab ⟨hy.1, by omega⟩ ⟨hx.1, by omega⟩]
    exact el_tab hx hy
  refine all_el.2 fun y y0 y1 => ?_
  have hy : 0 ≤ y ∧ y < (c.length : Int) := ⟨y0, by omega⟩
  have hrl : ((el (trnT (cyBT c)) y).length : Int) = (c.length : Int) := by
    unfold trnT; rw [tab_rowlen ⟨y0, by omega⟩]; exact hlB
  refine perm_of_inj (fun x x0 x1 => ?_) fun x z x0 x1 z0 z1 e => ?_
  · rw [hval hy ⟨x0, by omega⟩, hrl]; exact (cy_in ht hp ⟨x0, by omega⟩ hy).2
  · have hx : 0 ≤ x ∧ x < (c.length : Int) := ⟨x0, by omega⟩
    have hz : 0 ≤ z ∧ z < (c.length : Int) := ⟨z0, by omega⟩
    rw [hval hy hx, hval hy hz] at e
    obtain ⟨⟨u1, u2⟩, b1⟩ := cy_in ht hp hx hy
    obtain ⟨⟨w1, w2⟩, b2⟩ := cy_in ht hp hz hy
    have l1 := isCyc_law h hx u1 u1
    have l2 := isCyc_law h hz w1 w1
    rw [u2] at l1
    rw [w2] at l2
    have e1 : el (el c (cyA c x y)) x = el (el c (cyA c z y)) z := e
    rw [e1] at l1
    have r1 := rk_el ht u1 u1
    have r2 := rk_el ht w1 w1
    have e2 := rk_inj ht hp (show 0 ≤ el (el c (cyA c z y)) z ∧ el (el c (cyA c z y)) z < (c.length : Int) from b2) r1 r2 (l1.symm.trans l2)
    have e3 : cyA c x y = cyA c z y := isPerm_inj hd ⟨u1.1, by simp; omega⟩ ⟨w1.1, by simp; omega⟩ (by rw [el_diag u1, el_diag w1]; exact e2)
    rw [e3] at e1
    exact rk_inj ht hp w1 hx hz e1

end Go.Proofs.Ytbodlnpmplcaoaa

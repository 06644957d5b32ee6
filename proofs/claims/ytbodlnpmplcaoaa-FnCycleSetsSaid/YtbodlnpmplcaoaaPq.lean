/- Plain definitions, the seventeenth part: pairs of tables, solutions of cycle sets and back; no condition. -/
import Derived.Test.YtbodlnpmplcaoaaPp
namespace Go.Proofs.Ytbodlnpmplcaoaa
def rowsN (n : Int) (t : List (List Int)) : Prop := (t.length : Int) = n ∧ ∀ r ∈ t, (r.length : Int) = n ∧ ∀ z ∈ r, 0 ≤ z ∧ z < n
def szT (t : List (List Int)) : Prop := (t.length : Int) ≤ 20 ∧ ∀ r ∈ t, (r.length : Int) ≤ 20
def pairN (n : Int) (a b : List (List Int)) : Prop := isTab a = true ∧ isTab b = true ∧ (a.length : Int) = n ∧ (b.length : Int) = n
def pairM (most : Int) (a b : List (List Int)) : Prop := pairN (a.length : Int) a b ∧ (a.length : Int) ≤ most
noncomputable def sqB (s t : List (List Int)) : Bool := dec (∀ x, 0 ≤ x → x < (s.length : Int) → el (el s x) x = x ∧ el (el t x) x = x)
theorem szT_rows {n : Int} {t : List (List Int)} (hn : n ≤ 20) (h : rowsN n t) : szT t := ⟨by have := h.1; omega, fun r hr => by have := (h.2 r hr).1; omega⟩
theorem szT_tab {t : List (List Int)} (h : isTab t = true) : szT t := by
  have hn := isTab_len h
  refine ⟨by omega, fun r hr => ?_⟩
  obtain ⟨i, hi, rfl⟩ := mem_el hr
  have := rk_len h hi
  omega
theorem szT_se {t : List (List Int)} {i : Int} {r : List Int} (h : szT t) (hr : (r.length : Int) ≤ 20) : szT (se t i r) :=
  ⟨by have := h.1; simpa using this, fun q hq => by
    rcases List.mem_or_eq_of_mem_set hq with h1 | h1
    · exact h.2 q h1
    · rw [h1]; exact hr⟩
theorem szT_small {t : List (List Int)} (h : szT t) : small2 t := ⟨by have := h.1; show (_ : Int) ≤ _; omega, fun r hr => by have := h.2 r hr; show (_ : Int) ≤ _; omega⟩
theorem pairN_pm {n : Int} {a b : List (List Int)} (h : pairN n a b) : pmB a b = true := by
  obtain ⟨h1, h2, h3, h4⟩ := h
  simp [pmB, h1, h2, h3, h4]
theorem ren_rows {t : List (List Int)} {p : List Int} (ht : isTab t = true) (hp : isPerm p = true) (hl : (p.length : Int) = (t.length : Int)) (hr : t.all isPerm = true) : (renT t p).all isPerm = true := by
  have tr := isTab_ren ht hp hl
  have hn := isTab_len ht
  have hlen : ((renT t p).length : Int) = (t.length : Int) := len_tab (by omega)
  refine all_perm_mk tr fun x y z hx hy hz e => ?_
  obtain ⟨u, hu, rfl⟩ := isPerm_surj hp (x := x) ⟨hx.1, by omega⟩
  obtain ⟨v, hv, rfl⟩ := isPerm_surj hp (x := y) ⟨hy.1, by omega⟩
  obtain ⟨w, hw, rfl⟩ := isPerm_surj hp (x := z) ⟨hz.1, by omega⟩
  rw [renT_el hp hl ⟨hu.1, by omega⟩ ⟨hv.1, by omega⟩, renT_el hp hl ⟨hu.1, by omega⟩ ⟨hw.1, by omega⟩] at e
  have a := rk_el ht (x := u) (y := v) ⟨hu.1, by omega⟩ ⟨hv.1, by omega⟩
  have b := rk_el ht (x := u) (y := w) ⟨hu.1, by omega⟩ ⟨hw.1, by omega⟩
  have e2 := isPerm_inj hp ⟨a.1, by omega⟩ ⟨b.1, by omega⟩ e
  rw [rk_inj ht hr (x := u) (y := v) (z := w) ⟨hu.1, by omega⟩ ⟨hv.1, by omega⟩ ⟨hw.1, by omega⟩ e2]
theorem back_rows {t : List (List Int)} (hr : t.all isPerm = true) : (t.map backI).all isPerm = true := all_el.2 fun i i0 i1 => by
  rw [List.length_map] at i1
  rw [el_map ⟨i0, i1⟩]; exact isPerm_backI (all_perm_el hr ⟨i0, i1⟩)
theorem isTab_back {t : List (List Int)} (ht : isTab t = true) (hr : t.all isPerm = true) : isTab (t.map backI) = true := by
  have hn := isTab_len ht
  refine isTab_rows (n := (t.length : Int)) hn (by simp) fun r h => ?_
  obtain ⟨q, hq, rfl⟩ := List.mem_map.1 h
  obtain ⟨i, hi, rfl⟩ := mem_el hq
  have l := rk_len ht hi
  have p := all_perm_el hr hi
  refine ⟨by simpa using l, fun z hz => ?_⟩
  have := (isPerm_iff.1 (isPerm_backI p)).2 z hz
  rw [length_backI] at this
  omega
theorem unit_rows {n : Int} : (tab n fun _ y => y).all isPerm = true := all_el.2 fun i i0 i1 => by
  have h1 : ((tab n fun _ y => y).length : Int) = max n 0 := by simp
  unfold tab
  rw [el_ran ⟨i0, by omega⟩]; exact isPerm_unitI n
theorem swap_perm {l : List Int} (h : isPerm l = true) {i j : Int} (hi : 0 ≤ i ∧ i < (l.length : Int)) (hj : 0 ≤ j ∧ j < (l.length : Int)) : isPerm (se (se l i (el l j)) j (el l i)) = true := by
  have ln : ((se (se l i (el l j)) j (el l i)).length : Int) = (l.length : Int) := by simp
  refine isPerm_of_all fun x x0 x1 => ?_
  obtain ⟨k, hk, rfl⟩ := isPerm_surj h (x := x) ⟨x0, by omega⟩
  by_cases e1 : k = i
  · subst e1
    have : el (se (se l k (el l j)) j (el l k)) j = el l k := el_se_same ⟨hj.1, by simp; omega⟩
    have hm := el_mem (l := se (se l k (el l j)) j (el l k)) (i := j) ⟨hj.1, by omega⟩; rw [this] at hm; exact hm
  · by_cases e2 : k = j
    · subst e2
      have : el (se (se l i (el l k)) k (el l i)) i = el l k := by rw [el_se_ne hk.1 hi.1 e1, el_se_same hi]
      have hm := el_mem (l := se (se l i (el l k)) k (el l i)) (i := i) ⟨hi.1, by omega⟩; rw [this] at hm; exact hm
    · have : el (se (se l i (el l j)) j (el l i)) k = el l k := by rw [el_se_ne hj.1 hk.1 (Ne.symm e2), el_se_ne hi.1 hk.1 (Ne.symm e1)]
      have hm := el_mem (l := se (se l i (el l j)) j (el l i)) (i := k) ⟨hk.1, by omega⟩; rw [this] at hm; exact hm
theorem cy_a {c : List (List Int)} (_h : isCyc c = true) {x y : Int} (hx : 0 ≤ x ∧ x < (c.length : Int)) (hy : 0 ≤ y ∧ y < (c.length : Int)) : el (el (cyAT c) x) y = cyA c x y := el_tab hx hy
theorem cy_b {c : List (List Int)} (_h : isCyc c = true) {x y : Int} (hx : 0 ≤ x ∧ x < (c.length : Int)) (hy : 0 ≤ y ∧ y < (c.length : Int)) : el (el (cyBT c) x) y = cyB c x y := el_tab hx hy
section
variable {c : List (List Int)} (h : isCyc c = true)
include h
theorem cy_pair : pairN (c.length : Int) (cyAT c) (cyBT c) :=
  have hn := isTab_len (isCyc_tab h)
  ⟨isTab_cyAT (isCyc_tab h) (isCyc_perm h), isTab_cyBT (isCyc_tab h) (isCyc_perm h), len_tab (by omega), len_tab (by omega)⟩
theorem cyA_iff {x y u : Int} (hx : 0 ≤ x ∧ x < (c.length : Int)) (hu : 0 ≤ u ∧ u < (c.length : Int)) (e : el (el c x) u = y) : cyA c x y = u := by
  have hy : 0 ≤ y ∧ y < (c.length : Int) := by rw [← e]; exact rk_el (isCyc_tab h) hx hu
  have a := (cy_in (isCyc_tab h) (isCyc_perm h) hx hy).1
  exact rk_inj (isCyc_tab h) (isCyc_perm h) hx a.1 hu (a.2.trans e.symm)
theorem cy_iv {x y : Int} (hx : 0 ≤ x ∧ x < (c.length : Int)) (hy : 0 ≤ y ∧ y < (c.length : Int)) : cyA c (cyA c x y) (cyB c x y) = x ∧ cyB c (cyA c x y) (cyB c x y) = y := by
  obtain ⟨⟨u, e⟩, v⟩ := cy_in (isCyc_tab h) (isCyc_perm h) hx hy
  have h1 : cyA c (cyA c x y) (cyB c x y) = x := cyA_iff h u hx rfl
  refine ⟨h1, ?_⟩
  show el (el c (cyA c (cyA c x y) (cyB c x y))) (cyA c x y) = y
  rw [h1]; exact e
theorem cy_yb {x y z : Int} (hx : 0 ≤ x ∧ x < (c.length : Int)) (hy : 0 ≤ y ∧ y < (c.length : Int)) (hz : 0 ≤ z ∧ z < (c.length : Int)) :
    cyA c (cyA c x y) (cyA c (cyB c x y) z) = cyA c x (cyA c y z) ∧
    cyB c (cyA c x y) (cyA c (cyB c x y) z) = cyA c (cyB c x (cyA c y z)) (cyB c y z) ∧
    cyB c (cyB c x y) z = cyB c (cyB c x (cyA c y z)) (cyB c y z) := by
  have ht := isCyc_tab h
  have hp := isCyc_perm h
  obtain ⟨⟨u, eu⟩, v⟩ := cy_in ht hp hx hy
  obtain ⟨⟨w, ew⟩, _⟩ := cy_in ht hp v hz
  obtain ⟨⟨t, et⟩, _⟩ := cy_in ht hp u w
  obtain ⟨⟨p, ep⟩, r⟩ := cy_in ht hp hy hz
  generalize hU : cyA c x y = U at *
  generalize hP : cyA c y z = P at *
  have hV : cyB c x y = el (el c U) x := by rw [← hU]; rfl
  have hR : cyB c y z = el (el c P) y := by rw [← hP]; rfl
  rw [hV] at v w ew t et ⊢
  rw [hR] at r ⊢
  generalize hW : cyA c (el (el c U) x) z = W at *
  generalize hT : cyA c U W = T at *
  have l1 := isCyc_law h u hx t
  rw [et, ew, eu] at l1
  have xt := rk_el ht hx t
  have pT : el (el c x) T = P := rk_inj ht hp hy xt p (l1.symm.trans ep.symm)
  have a1 : cyA c x P = T := cyA_iff h hx t pT
  have hB : cyB c U W = el (el c T) U := by rw [← hT]; rfl
  have hQ : cyB c x P = el (el c T) x := by rw [← a1]; rfl
  have tx := rk_el ht t hx
  have tu := rk_el ht t u
  have l2 := isCyc_law h t hx u
  rw [pT, eu] at l2
  have a2 : cyA c (el (el c T) x) (el (el c P) y) = el (el c T) U := cyA_iff h tx tu l2
  refine ⟨by rw [a1], by rw [hB, hQ, a2], ?_⟩
  rw [hQ]
  show el (el c (cyA c (el (el c U) x) z)) (el (el c U) x) = el (el c (cyA c (el (el c T) x) (el (el c P) y))) (el (el c T) x)
  rw [hW, a2, ← et]
  exact isCyc_law h u t hx
theorem cy_sol : solB (cyAT c) (cyBT c) = true ∧ ndB (cyAT c) (cyBT c) = true ∧ ivB (cyAT c) (cyBT c) = true := by
  have ht := isCyc_tab h
  have hp := isCyc_perm h
  obtain ⟨ta, tb, la, lb⟩ := cy_pair h
  have inA : ∀ {x y : Int}, (0 ≤ x ∧ x < (c.length : Int)) → (0 ≤ y ∧ y < (c.length : Int)) → 0 ≤ cyA c x y ∧ cyA c x y < (c.length : Int) := fun hx hy => (cy_in ht hp hx hy).1.1
  have inB : ∀ {x y : Int}, (0 ≤ x ∧ x < (c.length : Int)) → (0 ≤ y ∧ y < (c.length : Int)) → 0 ≤ cyB c x y ∧ cyB c x y < (c.length : Int) := fun hx hy => (cy_in ht hp hx hy).2
  have hn := isTab_len ht
  refine ⟨?_, ?_, ?_⟩
  · have e1 : colF (cyAT c) (cyBT c) = [] := first2_none fun a a0 a1 b b0 b1 => by
      rw [la] at a1 b1
      obtain ⟨da, ma⟩ := divmod (by omega) ⟨a0, a1⟩
      obtain ⟨db, mb⟩ := divmod (by omega) ⟨b0, b1⟩
      rw [← Bool.not_eq_true]
      intro g
      simp only [colB, Bool.and_eq_true, Bool.not_eq_true', decide_eq_true_eq, decide_eq_false_iff_not] at g
      rw [la, cy_a h da ma, cy_a h db mb, cy_b h da ma, cy_b h db mb] at g
      obtain ⟨⟨g1, g2⟩, g3⟩ := g
      have i1 := cy_iv h da ma
      have i2 := cy_iv h db mb
      rw [g2, g3] at i1
      exact g1 (dm_eq (i1.1.symm.trans i2.1) (i1.2.symm.trans i2.2))
    have e2 : eqF (cyAT c) (cyBT c) = [] := first3_none fun x x0 x1 y y0 y1 z z0 z1 => by
      rw [la] at x1 y1 z1
      have hx : 0 ≤ x ∧ x < (c.length : Int) := ⟨x0, x1⟩
      have hy : 0 ≤ y ∧ y < (c.length : Int) := ⟨y0, y1⟩
      have hz : 0 ≤ z ∧ z < (c.length : Int) := ⟨z0, z1⟩
      obtain ⟨q1, q2, q3⟩ := cy_yb h hx hy hz
      unfold eqB
      rw [cy_a h hx hy, cy_b h hx hy, cy_a h hy hz, cy_b h hy hz, cy_a h (inB hx hy) hz, cy_b h (inB hx hy) hz, cy_a h hx (inA hy hz), cy_b h hx (inA hy hz), cy_a h (inA hx hy) (inA (inB hx hy) hz), cy_b h (inA hx hy) (inA (inB hx hy) hz),
        cy_a h (inB hx (inA hy hz)) (inB hy hz), cy_b h (inB hx (inA hy hz)) (inB hy hz), decide_eq_true q1, decide_eq_true q2, decide_eq_true q3]
      rfl
    simp only [solB, e1, e2, pairN_pm (cy_pair h)]; rfl
  · simp only [ndB, Bool.and_eq_true]
    refine ⟨all_perm_mk ta fun x y z hx hy hz e => ?_, cy_nondeg h⟩
    rw [la] at hx hy hz
    rw [cy_a h hx hy, cy_a h hx hz] at e
    have e1 := (cy_in ht hp hx hy).1.2
    have e2 := (cy_in ht hp hx hz).1.2
    rw [e] at e1
    exact e1.symm.trans e2
  · refine dec_t fun x x0 x1 y y0 y1 => ?_
    rw [la] at x1 y1
    have hx : 0 ≤ x ∧ x < (c.length : Int) := ⟨x0, x1⟩
    have hy : 0 ≤ y ∧ y < (c.length : Int) := ⟨y0, y1⟩
    unfold ivP
    rw [cy_a h hx hy, cy_b h hx hy, cy_a h (inA hx hy) (inB hx hy), cy_b h (inA hx hy) (inB hx hy)]
    exact cy_iv h hx hy
theorem cy_back : (cyAT c).map backI = c := by
  have ht := isCyc_tab h
  have hp := isCyc_perm h
  obtain ⟨ta, tb, la, lb⟩ := cy_pair h
  refine ext_el (by simp; omega) fun i i0 i1 => ?_
  rw [List.length_map, la] at i1
  rw [el_map ⟨i0, by omega⟩]
  have l1 := rk_len ta (x := i) ⟨i0, by omega⟩
  have l2 := rk_len ht (x := i) ⟨i0, by omega⟩
  have nd := (cy_sol h).2.1
  simp only [ndB, Bool.and_eq_true] at nd
  have pa := all_perm_el nd.1 (i := i) ⟨i0, by omega⟩
  refine (backI_uniq pa (by omega) fun j j0 j1 => ?_).symm
  rw [cy_a h ⟨i0, i1⟩ ⟨j0, by omega⟩]
  exact (cy_in ht hp ⟨i0, i1⟩ ⟨j0, by omega⟩).1.2
theorem cy_sq : sqB (cyAT c) (cyBT c) = decide (diag c = unitI (c.length : Int)) := by
  have ht := isCyc_tab h
  have hp := isCyc_perm h
  obtain ⟨ta, tb, la, lb⟩ := cy_pair h
  rw [Bool.eq_iff_iff, decide_eq_true_eq, diag_unit]
  unfold sqB
  rw [dec_iff]
  refine ⟨fun g x x0 x1 => ?_, fun g x x0 x1 => ?_⟩
  · have hx : 0 ≤ x ∧ x < (c.length : Int) := ⟨x0, x1⟩
    have q := (g x x0 (by omega)).1
    rw [cy_a h hx hx] at q
    have := (cy_in ht hp hx hx).1.2
    rw [q] at this; exact this
  · have hx : 0 ≤ x ∧ x < (c.length : Int) := ⟨x0, by omega⟩
    have q := cyA_iff h hx hx (g x x0 (by omega))
    rw [cy_a h hx hx, cy_b h hx hx]
    refine ⟨q, ?_⟩
    show el (el c (cyA c x x)) x = x
    rw [q]; exact g x x0 (by omega)
end
theorem so_cy {a b : List (List Int)} (h1 : solB a b = true) (h2 : ndB a b = true) (h3 : ivB a b = true) : isCyc (a.map backI) = true ∧ cyAT (a.map backI) = a ∧ cyBT (a.map backI) = b := by
  simp only [solB, Bool.and_eq_true] at h1
  obtain ⟨⟨hpm, _⟩, he⟩ := h1
  obtain ⟨ta, tb, hl⟩ := pm_tab hpm
  simp only [ndB, Bool.and_eq_true] at h2
  obtain ⟨pa, pb⟩ := h2
  have hiv := dec_iff.1 h3
  have hn := isTab_len ta
  generalize hC : a.map backI = c
  have lc : (c.length : Int) = (a.length : Int) := by rw [← hC]; simp
  have tc : isTab c = true := by rw [← hC]; exact isTab_back ta pa
  have pc : c.all isPerm = true := by rw [← hC]; exact back_rows pa
  have ca : ∀ {x y : Int}, (0 ≤ x ∧ x < (a.length : Int)) → (0 ≤ y ∧ y < (a.length : Int)) → el (el c x) (el (el a x) y) = y := fun {x y} hx hy => by
    rw [← hC, el_map hx]; exact el_backI (all_perm_el pa hx) ⟨hy.1, by rw [rk_len ta hx]; exact hy.2⟩
  have ac : ∀ {x y : Int}, (0 ≤ x ∧ x < (a.length : Int)) → (0 ≤ y ∧ y < (a.length : Int)) → el (el a x) (el (el c x) y) = y := fun {x y} hx hy => by
    rw [← hC, el_map hx]; exact (el_backI' (all_perm_el pa hx) ⟨hy.1, by rw [rk_len ta hx]; exact hy.2⟩).2
  have cin : ∀ {x y : Int}, (0 ≤ x ∧ x < (a.length : Int)) → (0 ≤ y ∧ y < (a.length : Int)) → 0 ≤ el (el c x) y ∧ el (el c x) y < (a.length : Int) := fun {x y} hx hy => by
    have := rk_el tc (x := x) (y := y) (by omega) (by omega); omega
  have ain : ∀ {x y : Int}, (0 ≤ x ∧ x < (a.length : Int)) → (0 ≤ y ∧ y < (a.length : Int)) → 0 ≤ el (el a x) y ∧ el (el a x) y < (a.length : Int) := fun hx hy => rk_el ta hx hy
  have bin : ∀ {x y : Int}, (0 ≤ x ∧ x < (a.length : Int)) → (0 ≤ y ∧ y < (a.length : Int)) → 0 ≤ el (el b x) y ∧ el (el b x) y < (a.length : Int) := fun {x y} hx hy => by
    have := rk_el tb (x := x) (y := y) (by omega) (by omega); omega
  have bc : ∀ {x y : Int}, (0 ≤ x ∧ x < (a.length : Int)) → (0 ≤ y ∧ y < (a.length : Int)) → el (el b x) y = el (el c (el (el a x) y)) x := fun {x y} hx hy => by
    have q := (hiv x hx.1 hx.2 y hy.1 hy.2).1
    have e := ca (ain hx hy) (bin hx hy)
    rw [q] at e; exact e.symm
  have law : ∀ {x u t : Int}, (0 ≤ x ∧ x < (a.length : Int)) → (0 ≤ u ∧ u < (a.length : Int)) → (0 ≤ t ∧ t < (a.length : Int)) → el (el c (el (el c x) u)) (el (el c x) t) = el (el c (el (el c u) x)) (el (el c u) t) := fun {x u t} hx hu ht => by
    have hy := cin hx hu
    have hxt := cin hx ht
    have hz := cin hy hxt
    have e := first3_nil (List.isEmpty_iff.1 he) hx hy hz
    simp only [eqB, Bool.not_eq_false', Bool.and_eq_true, decide_eq_true_eq] at e
    have e1 := e.1.1
    have au := ac hx hu
    rw [ac hy hxt, ac hx ht, bc hx hy, au] at e1
    have hv := cin hu hx
    have e2 := congrArg (el (el c u)) e1
    rw [ca hu (ain hv hz)] at e2
    have e3 := congrArg (el (el c (el (el c u) x))) e2
    rw [ca hv hz] at e3
    exact e3
  have hcy : isCyc c = true := by
    simp only [isCyc, Bool.and_eq_true]
    refine ⟨⟨⟨tc, pc⟩, ?_⟩, ?_⟩
    · refine perm_of_inj (fun x x0 x1 => ?_) fun x z x0 x1 z0 z1 e => ?_
      · rw [length_diag] at x1 ⊢
        rw [el_diag ⟨x0, x1⟩]; exact rk_el tc ⟨x0, x1⟩ ⟨x0, x1⟩
      · rw [length_diag] at x1 z1
        rw [el_diag ⟨x0, x1⟩, el_diag ⟨z0, z1⟩] at e
        have hx : 0 ≤ x ∧ x < (a.length : Int) := ⟨x0, by omega⟩
        have hz : 0 ≤ z ∧ z < (a.length : Int) := ⟨z0, by omega⟩
        have hy := cin hx hx
        have b1 := bc hx hy
        rw [ac hx hx] at b1
        have b2 := bc hz hy
        rw [e, ac hz hz] at b2
        rw [e] at b1
        have eb : el (el b x) (el (el c z) z) = el (el b z) (el (el c z) z) := b1.trans b2.symm
        rw [e] at hy
        have lt : ((trnT b).length : Int) = (a.length : Int) := by rw [len_trnT]; omega
        have pcol := all_perm_el pb (i := el (el c z) z) ⟨hy.1, by omega⟩
        have lrow := rk_len (isTab_trnT tb) (x := el (el c z) z) ⟨hy.1, by omega⟩
        have t1 : ∀ {w : Int}, (0 ≤ w ∧ w < (a.length : Int)) → el (el (trnT b) (el (el c z) z)) w = el (el b w) (el (el c z) z) := fun {w} hw => el_tab ⟨hy.1, by omega⟩ ⟨hw.1, by omega⟩
        exact isPerm_inj pcol ⟨x0, by omega⟩ ⟨z0, by omega⟩ (by rw [t1 hx, t1 hz]; exact eb)
    · rw [List.isEmpty_iff]
      refine first3_none fun x x0 x1 y y0 y1 z z0 z1 => ?_
      unfold cycB
      rw [decide_eq_true (law (x := x) (u := y) (t := z) ⟨x0, by omega⟩ ⟨y0, by omega⟩ ⟨z0, by omega⟩)]; rfl
  have eA : ∀ {x y : Int}, (0 ≤ x ∧ x < (a.length : Int)) → (0 ≤ y ∧ y < (a.length : Int)) → cyA c x y = el (el a x) y := fun {x y} hx hy => by
    have q := ain hx hy
    exact cyA_iff hcy ⟨hx.1, by omega⟩ ⟨q.1, by omega⟩ (ca hx hy)
  refine ⟨hcy, ?_, ?_⟩
  · refine ext_el (by simp [cyAT]; omega) fun i i0 i1 => ?_
    have hi : 0 ≤ i ∧ i < (a.length : Int) := ⟨i0, by simp [cyAT] at i1; omega⟩
    have l1 := rk_len ta hi
    unfold cyAT tab
    rw [el_ran ⟨i0, by omega⟩]
    exact (eq_ran (by omega) fun j j0 j1 => (eA hi ⟨j0, by omega⟩).symm).symm
  · refine ext_el (by simp [cyBT]; omega) fun i i0 i1 => ?_
    have hi : 0 ≤ i ∧ i < (a.length : Int) := ⟨i0, by simp [cyBT] at i1; omega⟩
    have l1 := rk_len tb (x := i) (by omega)
    unfold cyBT tab
    rw [el_ran ⟨i0, by omega⟩]
    refine (eq_ran (by omega) fun j j0 j1 => ?_).symm
    have hj : 0 ≤ j ∧ j < (a.length : Int) := ⟨j0, by omega⟩
    unfold cyB
    rw [eA hi hj]; exact bc hi hj

end Go.Proofs.Ytbodlnpmplcaoaa

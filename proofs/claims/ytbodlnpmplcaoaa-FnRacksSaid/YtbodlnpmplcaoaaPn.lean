/- Plain definitions, the fourteenth part: products and unions of racks are racks, duals, quandles of racks; no condition. -/
import Derived.Test.YtbodlnpmplcaoaaPm
namespace Go.Proofs.Ytbodlnpmplcaoaa
/-- One more than the greatest of some numbers of at least 0. -/
def mostI (l : List Int) : Int := l.foldl (fun n x => if n ≤ x then x + 1 else n) 0
theorem most_fold : ∀ (l : List Int) (n : Int), n ≤ l.foldl (fun n x => if n ≤ x then x + 1 else n) n ∧ (∀ x ∈ l, x < l.foldl (fun n x => if n ≤ x then x + 1 else n) n) ∧ (l.foldl (fun n x => if n ≤ x then x + 1 else n) n = n ∨ l.foldl (fun n x => if n ≤ x then x + 1 else n) n - 1 ∈ l)
  | [], n => ⟨Int.le_refl _, by simp, .inl rfl⟩
  | y :: l, n => by
    obtain ⟨h1, h2, h3⟩ := most_fold l (if n ≤ y then y + 1 else n)
    have hc : n ≤ (if n ≤ y then y + 1 else n) ∧ y < (if n ≤ y then y + 1 else n) ∧ ((if n ≤ y then y + 1 else n) = n ∨ (if n ≤ y then y + 1 else n) = y + 1) := by split <;> omega
    simp only [List.foldl_cons]
    generalize (if n ≤ y then y + 1 else n) = m at *
    refine ⟨by omega, fun x hx => ?_, ?_⟩
    · rcases List.mem_cons.1 hx with rfl | hx
      · omega
      · exact h2 x hx
    · rcases h3 with h3 | h3
      · rw [h3]
        rcases hc.2.2 with h4 | h4
        · exact .inl h4
        · exact .inr (by rw [h4]; simp)
      · exact .inr (List.mem_cons_of_mem _ h3)
theorem most_nonneg (l : List Int) : 0 ≤ mostI l := (most_fold l 0).1
theorem most_lt {l : List Int} {x : Int} (h : x ∈ l) : x < mostI l := (most_fold l 0).2.1 x h
theorem most_mem (l : List Int) : mostI l = 0 ∨ mostI l - 1 ∈ l := (most_fold l 0).2.2
theorem most_le {l : List Int} {n : Int} (h0 : 0 ≤ n) (h : ∀ x ∈ l, x < n) : mostI l ≤ n := by
  rcases most_mem l with h1 | h1
  · omega
  · have := h _ h1; omega
theorem most_step {l : List Int} {i : Int} (hi : 0 ≤ i ∧ i < (l.length : Int)) : mostI (l.take (i + 1).toNat) = if mostI (l.take i.toNat) ≤ el l i then el l i + 1 else mostI (l.take i.toNat) := by
  have e := el_get hi
  rw [List.getElem?_eq_getElem (by omega), Option.some.injEq] at e
  rw [show (i + 1).toNat = i.toNat + 1 by omega, List.take_succ_eq_append_getElem (by omega), e]
  unfold mostI
  rw [List.foldl_append]
  rfl
/-- A rack, by its laws. -/
theorem isRk_mk {t : List (List Int)} (ht : isTab t = true) (hp : t.all isPerm = true) (h : ∀ x y z : Int, (0 ≤ x ∧ x < (t.length : Int)) → (0 ≤ y ∧ y < (t.length : Int)) → (0 ≤ z ∧ z < (t.length : Int)) → el (el t x) (el (el t y) z) = el (el t (el (el t x) y)) (el (el t x) z)) : isRk t = true := by
  have : rackF t = [] := first3_none fun a a0 a1 b b0 b1 c c0 c1 => by simp [rackB, h a b c ⟨a0, a1⟩ ⟨b0, b1⟩ ⟨c0, c1⟩]
  simp [isRk, ht, hp, this]
theorem all_perm_mk {t : List (List Int)} (ht : isTab t = true) (h : ∀ x y z : Int, (0 ≤ x ∧ x < (t.length : Int)) → (0 ≤ y ∧ y < (t.length : Int)) → (0 ≤ z ∧ z < (t.length : Int)) → el (el t x) y = el (el t x) z → y = z) : t.all isPerm = true :=
  all_el.2 fun i i0 i1 => by
    have hl := rk_len ht ⟨i0, i1⟩
    exact perm_of_inj (fun j a b => by have := rk_el ht ⟨i0, i1⟩ (y := j) ⟨a, by omega⟩; omega) fun j k a b c d e => h i j k ⟨i0, i1⟩ ⟨a, by omega⟩ ⟨c, by omega⟩ e
theorem diag_unit {t : List (List Int)} : diag t = unitI (t.length : Int) ↔ ∀ x, 0 ≤ x → x < (t.length : Int) → el (el t x) x = x := by
  rw [eq_unitI (by simp)]
  exact ⟨fun h x a b => by rw [← el_diag ⟨a, b⟩]; exact h x a b, fun h x a b => by rw [el_diag ⟨a, b⟩]; exact h x a b⟩
/-- Quotients and remainders below a product. -/
theorem dm_in {n m x : Int} (_hn : 0 ≤ n) (hm : 0 < m) (hx : 0 ≤ x ∧ x < n * m) : (0 ≤ x / m ∧ x / m < n) ∧ (0 ≤ x % m ∧ x % m < m) :=
  ⟨⟨Int.ediv_nonneg hx.1 (by omega), Int.ediv_lt_of_lt_mul hm hx.2⟩, Int.emod_nonneg _ (by omega), Int.emod_lt_of_pos _ hm⟩
theorem dm_of {a b m : Int} (hm : 0 < m) (hb : 0 ≤ b ∧ b < m) : (a * m + b) / m = a ∧ (a * m + b) % m = b := by
  constructor
  · rw [Int.add_comm, Int.add_mul_ediv_right _ _ (by omega), Int.ediv_eq_zero_of_lt hb.1 hb.2]; omega
  · rw [Int.add_comm, Int.add_mul_emod_self_right]; exact Int.emod_eq_of_lt hb.1 hb.2
theorem dm_eq {x y m : Int} (h1 : x / m = y / m) (h2 : x % m = y % m) : x = y := by
  have a := Int.mul_ediv_add_emod x m
  have b := Int.mul_ediv_add_emod y m
  rw [h1, h2] at a; omega
section
variable {a b : List (List Int)}
theorem pro_len (ha : isTab a = true) (hb : isTab b = true) : ((proT a b).length : Int) = (a.length : Int) * (b.length : Int) :=
  len_tab (Int.mul_nonneg (by have := isTab_len ha; omega) (by have := isTab_len hb; omega))
theorem pro_one (ha : isTab a = true) (hb : isTab b = true) : 1 ≤ (a.length : Int) * (b.length : Int) := by
  have h1 := isTab_len ha; have h2 := isTab_len hb
  have := Int.mul_le_mul h1.1 h2.1 (by omega) (by omega)
  omega
theorem pro_el {x y : Int} (hx : 0 ≤ x ∧ x < (a.length : Int) * (b.length : Int)) (hy : 0 ≤ y ∧ y < (a.length : Int) * (b.length : Int)) :
    el (el (proT a b) x) y = el (el a (x / (b.length : Int))) (y / (b.length : Int)) * (b.length : Int) + el (el b (x % (b.length : Int))) (y % (b.length : Int)) := el_tab hx hy
theorem isTab_pro (ha : isTab a = true) (hb : isTab b = true) (h : (a.length : Int) * (b.length : Int) ≤ 12) : isTab (proT a b) = true := by
  have h1 := isTab_len ha; have h2 := isTab_len hb
  refine isTab_tab ⟨pro_one ha hb, h⟩ fun x y x0 x1 y0 y1 => ?_
  have dx := dm_in (by omega) (by omega : 0 < (b.length : Int)) ⟨x0, x1⟩
  have dy := dm_in (by omega) (by omega : 0 < (b.length : Int)) ⟨y0, y1⟩
  have va := rk_el ha dx.1 dy.1
  have vb := rk_el hb dx.2 dy.2
  have e1 : 0 ≤ el (el a (x / (b.length : Int))) (y / (b.length : Int)) * (b.length : Int) := Int.mul_nonneg va.1 (by omega)
  have e2 : (el (el a (x / (b.length : Int))) (y / (b.length : Int)) + 1) * (b.length : Int) ≤ (a.length : Int) * (b.length : Int) := Int.mul_le_mul_of_nonneg_right (by omega) (by omega)
  rw [Int.add_mul] at e2
  omega
theorem isRk_pro (ha : isRk a = true) (hb : isRk b = true) (h : (a.length : Int) * (b.length : Int) ≤ 12) : isRk (proT a b) = true := by
  have ta := isRk_tab ha; have tb := isRk_tab hb
  have h1 := isTab_len ta; have h2 := isTab_len tb
  have ht := isTab_pro ta tb h
  have hl := pro_len ta tb
  have hm : 0 < (b.length : Int) := by omega
  refine isRk_mk ht (all_perm_mk ht fun x y z hx hy hz e => ?_) fun x y z hx hy hz => ?_
  · rw [hl] at hx hy hz
    have dx := dm_in (by omega) hm hx
    have dy := dm_in (by omega) hm hy
    have dz := dm_in (by omega) hm hz
    rw [pro_el hx hy, pro_el hx hz] at e
    have y1 := dm_of (a := el (el a (x / (b.length : Int))) (y / (b.length : Int))) hm (rk_el tb dx.2 dy.2)
    have z1 := dm_of (a := el (el a (x / (b.length : Int))) (z / (b.length : Int))) hm (rk_el tb dx.2 dz.2)
    rw [e] at y1
    exact dm_eq (rk_inj ta (isRk_perm ha) dx.1 dy.1 dz.1 (y1.1.symm.trans z1.1)) (rk_inj tb (isRk_perm hb) dx.2 dy.2 dz.2 (y1.2.symm.trans z1.2))
  · have ryz := rk_el ht hy hz
    have rxy := rk_el ht hx hy
    have rxz := rk_el ht hx hz
    rw [hl] at hx hy hz ryz rxy rxz
    rw [pro_el hx ryz, pro_el rxy rxz, pro_el hy hz, pro_el hx hy, pro_el hx hz]
    have dx := dm_in (by omega) hm hx
    have dy := dm_in (by omega) hm hy
    have dz := dm_in (by omega) hm hz
    have y1 := dm_of (a := el (el a (y / (b.length : Int))) (z / (b.length : Int))) hm (rk_el tb dy.2 dz.2)
    have z1 := dm_of (a := el (el a (x / (b.length : Int))) (y / (b.length : Int))) hm (rk_el tb dx.2 dy.2)
    have w1 := dm_of (a := el (el a (x / (b.length : Int))) (z / (b.length : Int))) hm (rk_el tb dx.2 dz.2)
    rw [y1.1, y1.2, z1.1, z1.2, w1.1, w1.2, isRk_law ha dx.1 dy.1 dz.1, isRk_law hb dx.2 dy.2 dz.2]
theorem diag_pro (ta : isTab a = true) (tb : isTab b = true) : diag (proT a b) = unitI ((proT a b).length : Int) ↔ diag a = unitI (a.length : Int) ∧ diag b = unitI (b.length : Int) := by
  have h1 := isTab_len ta; have h2 := isTab_len tb
  have hm : 0 < (b.length : Int) := by omega
  rw [diag_unit, diag_unit, diag_unit, pro_len ta tb]
  constructor
  · intro h
    have key : ∀ u v, (0 ≤ u ∧ u < (a.length : Int)) → (0 ≤ v ∧ v < (b.length : Int)) → el (el a u) u = u ∧ el (el b v) v = v := fun u v hu hv => by
      have e2 : (u + 1) * (b.length : Int) ≤ (a.length : Int) * (b.length : Int) := Int.mul_le_mul_of_nonneg_right (by omega) (by omega)
      have e1 : 0 ≤ u * (b.length : Int) := Int.mul_nonneg hu.1 (by omega)
      rw [Int.add_mul] at e2
      have d := dm_of (a := u) hm hv
      have hx : 0 ≤ u * (b.length : Int) + v ∧ u * (b.length : Int) + v < (a.length : Int) * (b.length : Int) := ⟨by omega, by omega⟩
      have := h _ hx.1 hx.2
      rw [pro_el hx hx, d.1, d.2] at this
      have d2 := dm_of (a := el (el a u) u) hm (rk_el tb hv hv)
      rw [this, d.1, d.2] at d2
      exact ⟨d2.1.symm, d2.2.symm⟩
    exact ⟨fun u u0 u1 => (key u 0 ⟨u0, u1⟩ ⟨by omega, by omega⟩).1, fun v v0 v1 => (key 0 v ⟨by omega, by omega⟩ ⟨v0, v1⟩).2⟩
  · rintro ⟨ha, hb⟩ x x0 x1
    have dx := dm_in (by omega) hm ⟨x0, x1⟩
    rw [pro_el ⟨x0, x1⟩ ⟨x0, x1⟩, ha _ dx.1.1 dx.1.2, hb _ dx.2.1 dx.2.2]
    have := Int.mul_ediv_add_emod x (b.length : Int)
    rw [Int.mul_comm] at this; exact this
/-! Unions. -/
theorem uni_len : ((uniT a b).length : Int) = (a.length : Int) + (b.length : Int) := len_tab (by omega)
theorem uni_el {x y : Int} (hx : 0 ≤ x ∧ x < (a.length : Int) + (b.length : Int)) (hy : 0 ≤ y ∧ y < (a.length : Int) + (b.length : Int)) : el (el (uniT a b) x) y = uniV a b x y := el_tab hx hy
theorem uvA {x y : Int} (hx : x < (a.length : Int)) (hy : y < (a.length : Int)) : uniV a b x y = el (el a x) y := by unfold uniV; rw [if_pos ⟨hx, hy⟩]
theorem uvB {x y : Int} (hx : (a.length : Int) ≤ x) (hy : (a.length : Int) ≤ y) : uniV a b x y = (a.length : Int) + el (el b (x - (a.length : Int))) (y - (a.length : Int)) := by unfold uniV; rw [if_neg (by omega), if_pos ⟨hx, hy⟩]
theorem uvAB {x y : Int} (hx : x < (a.length : Int)) (hy : (a.length : Int) ≤ y) : uniV a b x y = y := by unfold uniV; rw [if_neg (by omega), if_neg (by omega)]
theorem uvBA {x y : Int} (hx : (a.length : Int) ≤ x) (hy : y < (a.length : Int)) : uniV a b x y = y := by unfold uniV; rw [if_neg (by omega), if_neg (by omega)]
/-- Where a value of a union lies. -/
theorem uvIn (ta : isTab a = true) (tb : isTab b = true) {x y : Int} (hx : 0 ≤ x ∧ x < (a.length : Int) + (b.length : Int)) (hy : 0 ≤ y ∧ y < (a.length : Int) + (b.length : Int)) : (0 ≤ uniV a b x y ∧ uniV a b x y < (a.length : Int) + (b.length : Int)) ∧ (uniV a b x y < (a.length : Int) ↔ y < (a.length : Int)) := by
  rcases Int.lt_or_le x (a.length : Int) with h1 | h1 <;> rcases Int.lt_or_le y (a.length : Int) with h2 | h2
  · rw [uvA h1 h2]; have := rk_el ta ⟨hx.1, h1⟩ ⟨hy.1, h2⟩; omega
  · rw [uvAB h1 h2]; omega
  · rw [uvBA h1 h2]; omega
  · rw [uvB h1 h2]; have := rk_el tb (x := x - (a.length : Int)) (y := y - (a.length : Int)) ⟨by omega, by omega⟩ ⟨by omega, by omega⟩; omega
theorem isTab_uni (ta : isTab a = true) (tb : isTab b = true) (h : (a.length : Int) + (b.length : Int) ≤ 12) : isTab (uniT a b) = true :=
  isTab_tab ⟨by have := isTab_len ta; omega, h⟩ fun _ _ x0 x1 y0 y1 => (uvIn ta tb ⟨x0, x1⟩ ⟨y0, y1⟩).1
theorem isRk_uni (ha : isRk a = true) (hb : isRk b = true) (h : (a.length : Int) + (b.length : Int) ≤ 12) : isRk (uniT a b) = true := by
  have ta := isRk_tab ha; have tb := isRk_tab hb
  have ht := isTab_uni ta tb h
  have hl : ((uniT a b).length : Int) = (a.length : Int) + (b.length : Int) := uni_len
  refine isRk_mk ht (all_perm_mk ht fun x y z hx hy hz e => ?_) fun x y z hx hy hz => ?_
  · rw [hl] at hx hy hz
    rw [uni_el hx hy, uni_el hx hz] at e
    have iy := uvIn ta tb hx hy
    have iz := uvIn ta tb hx hz
    rw [e] at iy
    rcases Int.lt_or_le x (a.length : Int) with h1 | h1 <;> rcases Int.lt_or_le y (a.length : Int) with h2 | h2
    · have h3 : z < (a.length : Int) := iz.2.1 (iy.2.2 h2)
      rw [uvA h1 h2, uvA h1 h3] at e
      exact rk_inj ta (isRk_perm ha) ⟨hx.1, h1⟩ ⟨hy.1, h2⟩ ⟨hz.1, h3⟩ e
    · have h3 : (a.length : Int) ≤ z := by have := iz.2; have := iy.2; omega
      rw [uvAB h1 h2, uvAB h1 h3] at e; exact e
    · have h3 : z < (a.length : Int) := iz.2.1 (iy.2.2 h2)
      rw [uvBA h1 h2, uvBA h1 h3] at e; exact e
    · have h3 : (a.length : Int) ≤ z := by have := iz.2; have := iy.2; omega
      rw [uvB h1 h2, uvB h1 h3] at e
      have := rk_inj tb (isRk_perm hb) (x := x - (a.length : Int)) (y := y - (a.length : Int)) (z := z - (a.length : Int)) ⟨by omega, by omega⟩ ⟨by omega, by omega⟩ ⟨by omega, by omega⟩ (by omega)
      omega
  · rw [hl] at hx hy hz
    have iyz := uvIn ta tb hy hz
    have ixy := uvIn ta tb hx hy
    have ixz := uvIn ta tb hx hz
    rw [uni_el hy hz, uni_el hx hy, uni_el hx hz, uni_el hx iyz.1, uni_el ixy.1 ixz.1]
    rcases Int.lt_or_le x (a.length : Int) with h1 | h1 <;> rcases Int.lt_or_le y (a.length : Int) with h2 | h2 <;> rcases Int.lt_or_le z (a.length : Int) with h3 | h3
    · have g1 := rk_el ta ⟨hy.1, h2⟩ ⟨hz.1, h3⟩; have g2 := rk_el ta ⟨hx.1, h1⟩ ⟨hy.1, h2⟩; have g3 := rk_el ta ⟨hx.1, h1⟩ ⟨hz.1, h3⟩
      rw [uvA h2 h3, uvA h1 h2, uvA h1 h3, uvA h1 g1.2, uvA g2.2 g3.2]
      exact isRk_law ha ⟨hx.1, h1⟩ ⟨hy.1, h2⟩ ⟨hz.1, h3⟩
    · have g2 := rk_el ta ⟨hx.1, h1⟩ ⟨hy.1, h2⟩
      rw [uvAB h2 h3, uvA h1 h2, uvAB h1 h3, uvAB g2.2 h3]
    · have g3 := rk_el ta ⟨hx.1, h1⟩ ⟨hz.1, h3⟩
      rw [uvBA h2 h3, uvAB h1 h2, uvA h1 h3, uvBA h2 g3.2]
    · have g1 : (a.length : Int) ≤ uniV a b y z := by have := iyz.2; omega
      rw [uvAB h1 h2, uvAB h1 h3, uvAB h1 g1]
    · have g1 := rk_el ta ⟨hy.1, h2⟩ ⟨hz.1, h3⟩
      rw [uvA h2 h3, uvBA h1 h2, uvBA h1 h3, uvBA h1 g1.2, uvA h2 h3]
    · have g3 : (a.length : Int) ≤ uniV a b x z := by have := ixz.2; omega
      rw [uvAB h2 h3, uvBA h1 h2, uvAB h2 g3]
    · have g2 : (a.length : Int) ≤ uniV a b x y := by have := ixy.2; omega
      rw [uvBA h2 h3, uvBA h1 h3, uvBA g2 h3]
    · have q1 := rk_el tb (x := y - (a.length : Int)) (y := z - (a.length : Int)) ⟨by omega, by omega⟩ ⟨by omega, by omega⟩
      have q2 := rk_el tb (x := x - (a.length : Int)) (y := y - (a.length : Int)) ⟨by omega, by omega⟩ ⟨by omega, by omega⟩
      have q3 := rk_el tb (x := x - (a.length : Int)) (y := z - (a.length : Int)) ⟨by omega, by omega⟩ ⟨by omega, by omega⟩
      rw [uvB h2 h3, uvB h1 h2, uvB h1 h3, uvB h1 (by omega), uvB (by omega) (by omega)]
      have s : ∀ w : Int, (a.length : Int) + w - (a.length : Int) = w := fun w => by omega
      rw [s, s, s, isRk_law hb ⟨by omega, by omega⟩ ⟨by omega, by omega⟩ ⟨by omega, by omega⟩]
theorem diag_uni (ta : isTab a = true) (tb : isTab b = true) : diag (uniT a b) = unitI ((uniT a b).length : Int) ↔ diag a = unitI (a.length : Int) ∧ diag b = unitI (b.length : Int) := by
  have h1 := isTab_len ta; have h2 := isTab_len tb
  rw [diag_unit, diag_unit, diag_unit, uni_len]
  constructor
  · intro h
    refine ⟨fun x x0 x1 => ?_, fun x x0 x1 => ?_⟩
    · have := h x x0 (by omega)
      rw [uni_el ⟨x0, by omega⟩ ⟨x0, by omega⟩, uvA x1 x1] at this; exact this
    · have := h ((a.length : Int) + x) (by omega) (by omega)
      rw [uni_el ⟨by omega, by omega⟩ ⟨by omega, by omega⟩, uvB (by omega) (by omega), show (a.length : Int) + x - (a.length : Int) = x by omega] at this
      omega
  · rintro ⟨ha, hb⟩ x x0 x1
    rw [uni_el ⟨x0, x1⟩ ⟨x0, x1⟩]
    rcases Int.lt_or_le x (a.length : Int) with g | g
    · rw [uvA g g]; exact ha x x0 g
    · rw [uvB g g, hb _ (by omega) (by omega)]; omega
theorem permsN_rk {t : List (List Int)} (h : isRk t = true) : permsN (t.length : Int) t := fun p hp => by
  obtain ⟨i, hi, rfl⟩ := mem_el hp
  exact ⟨rk_len (isRk_tab h) hi, all_perm_el (isRk_perm h) hi⟩
/-- Each number below the greatest label is one. -/
theorem can_used {l : List Int} (h : CanP l) {c : Int} (hc : 0 ≤ c ∧ c < mostI l) : ∃ j, (0 ≤ j ∧ j < (l.length : Int)) ∧ el l j = c := by
  rcases most_mem l with h1 | h1
  · omega
  · obtain ⟨i, hi, e⟩ := mem_el h1
    by_cases h2 : c = mostI l - 1
    · exact ⟨i, hi, by rw [e, h2]⟩
    · obtain ⟨j, hj, e2⟩ := (h i hi.1 hi.2).2 c hc.1 (by omega)
      exact ⟨j, ⟨hj.1, by omega⟩, e2⟩
theorem rch_uni_a (ha : isRk a = true) (hb : isRk b = true) {x y : Int} (hx : 0 ≤ x ∧ x < (a.length : Int)) : Rch (uniT a b) x y ↔ (0 ≤ y ∧ y < (a.length : Int)) ∧ Rch a x y := by
  have ta := isRk_tab ha; have tb := isRk_tab hb
  constructor
  · intro h
    induction h with
    | base => exact ⟨hx, .base⟩
    | step h hp ih =>
      rename_i y p
      obtain ⟨i, hi, rfl⟩ := mem_el hp
      rw [uni_len] at hi
      obtain ⟨iy, ir⟩ := ih
      rw [uni_el hi ⟨iy.1, by omega⟩]
      rcases Int.lt_or_le i (a.length : Int) with g | g
      · rw [uvA g iy.2]; exact ⟨rk_el ta ⟨hi.1, g⟩ iy, .step ir (el_mem ⟨hi.1, g⟩)⟩
      · rw [uvBA g iy.2]; exact ⟨iy, ir⟩
  · rintro ⟨h0, h⟩
    clear h0
    induction h with
    | base => exact .base
    | step h hp ih =>
      rename_i y p
      obtain ⟨i, hi, rfl⟩ := mem_el hp
      have iy := rch_in (permsN_rk ha) hx h
      have e : el (el a i) y = el (el (uniT a b) i) y := by rw [uni_el ⟨hi.1, by omega⟩ ⟨iy.1, by omega⟩, uvA hi.2 iy.2]
      rw [e]; exact .step ih (el_mem ⟨hi.1, by rw [uni_len]; omega⟩)
theorem rch_uni_b (ha : isRk a = true) (hb : isRk b = true) {x y : Int} (hx : 0 ≤ x ∧ x < (b.length : Int)) : Rch (uniT a b) ((a.length : Int) + x) y ↔ (0 ≤ y - (a.length : Int) ∧ y - (a.length : Int) < (b.length : Int)) ∧ Rch b x (y - (a.length : Int)) := by
  have ta := isRk_tab ha; have tb := isRk_tab hb
  have s : ∀ w : Int, (a.length : Int) + w - (a.length : Int) = w := fun w => by omega
  constructor
  · intro h
    induction h with
    | base => rw [s]; exact ⟨hx, .base⟩
    | step h hp ih =>
      rename_i y p
      obtain ⟨i, hi, rfl⟩ := mem_el hp
      rw [uni_len] at hi
      obtain ⟨iy, ir⟩ := ih
      rw [uni_el hi ⟨by omega, by omega⟩]
      rcases Int.lt_or_le i (a.length : Int) with g | g
      · rw [uvAB g (by omega)]; exact ⟨iy, ir⟩
      · rw [uvB g (by omega), s]; exact ⟨rk_el tb ⟨by omega, by omega⟩ iy, .step ir (el_mem ⟨by omega, by omega⟩)⟩
  · rintro ⟨_, h⟩
    have key : ∀ w, Rch b x w → Rch (uniT a b) ((a.length : Int) + x) ((a.length : Int) + w) := fun w h => by
      induction h with
      | base => exact .base
      | step h hp ih =>
        rename_i y p
        obtain ⟨i, hi, rfl⟩ := mem_el hp
        have iy := rch_in (permsN_rk hb) hx h
        have e : (a.length : Int) + el (el b i) y = el (el (uniT a b) ((a.length : Int) + i)) ((a.length : Int) + y) := by rw [uni_el ⟨by omega, by omega⟩ ⟨by omega, by omega⟩, uvB (by omega) (by omega), s, s]
        rw [e]; exact .step ih (el_mem ⟨by omega, by rw [uni_len]; omega⟩)
    have := key _ h
    rwa [show (a.length : Int) + (y - (a.length : Int)) = y by omega] at this
/-- The orbits of a union are those of both. -/
theorem orb_uni (ha : isRk a = true) (hb : isRk b = true) : orbI ((uniT a b).length : Int) (uniT a b) = orbI (a.length : Int) a ++ (orbI (b.length : Int) b).map (mostI (orbI (a.length : Int) a) + ·) ∨ ¬ ((a.length : Int) + (b.length : Int) ≤ 12) := by
  by_cases h12 : (a.length : Int) + (b.length : Int) ≤ 12
  · left
    have hu := isRk_uni ha hb h12
    have oa := orbI_is (n := (a.length : Int)) (by omega) (permsN_rk ha)
    have ob := orbI_is (n := (b.length : Int)) (by omega) (permsN_rk hb)
    have ou := orbI_is (n := ((uniT a b).length : Int)) (by omega) (permsN_rk hu)
    generalize orbI (a.length : Int) a = A at *
    generalize orbI (b.length : Int) b = B at *
    obtain ⟨la, ca, ra⟩ := oa
    obtain ⟨lb, cb, rb⟩ := ob
    have eA : ∀ {i : Int} {k : Int}, 0 ≤ i → i < (a.length : Int) → el (A ++ B.map (k + ·)) i = el A i := fun h0 h1 => el_append_l ⟨h0, by omega⟩
    have eB : ∀ {i : Int} {k : Int}, (a.length : Int) ≤ i → i < (a.length : Int) + (b.length : Int) → el (A ++ B.map (k + ·)) i = k + el B (i - (a.length : Int)) := fun h0 h1 => by
      rw [el_append_r (by omega), la, el_map ⟨by omega, by omega⟩]
    refine isOrb_uniq _ _ ou ⟨by rw [uni_len]; simp; omega, fun i i0 i1 => ?_, fun x y hx hy => ?_⟩
    · simp at i1
      rcases Int.lt_or_le i (a.length : Int) with g | g
      · rw [eA i0 g]
        refine ⟨(ca i i0 (by omega)).1, fun c c0 c1 => ?_⟩
        obtain ⟨j, hj, e⟩ := (ca i i0 (by omega)).2 c c0 c1
        exact ⟨j, hj, by rw [eA hj.1 (by omega)]; exact e⟩
      · rw [eB g (by omega)]
        have cbi := cb (i - (a.length : Int)) (by omega) (by omega)
        have := most_nonneg A
        refine ⟨by omega, fun c c0 c1 => ?_⟩
        rcases Int.lt_or_le c (mostI A) with q | q
        · obtain ⟨j, hj, e⟩ := can_used ca ⟨c0, q⟩
          exact ⟨j, ⟨hj.1, by omega⟩, by rw [eA hj.1 (by omega)]; exact e⟩
        · obtain ⟨j, hj, e⟩ := cbi.2 (c - mostI A) (by omega) (by omega)
          exact ⟨(a.length : Int) + j, ⟨by omega, by omega⟩, by rw [eB (by omega) (by omega), show (a.length : Int) + j - (a.length : Int) = j by omega, e]; omega⟩
    · rw [uni_len] at hx hy
      have low : ∀ {z : Int}, 0 ≤ z → z < (a.length : Int) → el A z < mostI A := fun z0 z1 => most_lt (el_mem ⟨z0, by omega⟩)
      have pos : ∀ {z : Int}, 0 ≤ z → z < (b.length : Int) → 0 ≤ el B z := fun z0 z1 => (cb _ z0 (by omega)).1
      rcases Int.lt_or_le x (a.length : Int) with gx | gx <;> rcases Int.lt_or_le y (a.length : Int) with gy | gy
      · rw [eA hx.1 gx, eA hy.1 gy, rch_uni_a ha hb ⟨hx.1, gx⟩, ra x y ⟨hx.1, gx⟩ ⟨hy.1, gy⟩]
        exact ⟨fun h => ⟨⟨hy.1, gy⟩, h⟩, fun h => h.2⟩
      · rw [eA hx.1 gx, eB gy hy.2, rch_uni_a ha hb ⟨hx.1, gx⟩]
        have := low hx.1 gx; have := pos (z := y - (a.length : Int)) (by omega) (by omega)
        exact ⟨fun h => by omega, fun h => by omega⟩
      · rw [eB gx hx.2, eA hy.1 gy, show x = (a.length : Int) + (x - (a.length : Int)) by omega, rch_uni_b ha hb ⟨by omega, by omega⟩, show (a.length : Int) + (x - (a.length : Int)) - (a.length : Int) = x - (a.length : Int) by omega]
        have := low hy.1 gy; have := pos (z := x - (a.length : Int)) (by omega) (by omega)
        exact ⟨fun h => by omega, fun h => by omega⟩
      · have e := rb (x - (a.length : Int)) (y - (a.length : Int)) ⟨by omega, by omega⟩ ⟨by omega, by omega⟩
        have e2 := rch_uni_b (a := a) (y := y) ha hb (x := x - (a.length : Int)) ⟨by omega, by omega⟩
        rw [show (a.length : Int) + (x - (a.length : Int)) = x by omega] at e2
        rw [eB gx hx.2, eB gy hy.2, e2]
        constructor
        · intro h; exact ⟨⟨by omega, by omega⟩, e.1 (by omega)⟩
        · intro h; have := e.2 h.2; omega
  · exact .inr h12
end
theorem most_app {A B : List Int} (hb : 0 < mostI B) : mostI (A ++ B.map (mostI A + ·)) = mostI A + mostI B := by
  have hB : mostI B - 1 ∈ B := by
    rcases most_mem B with h | h
    · omega
    · exact h
  have h1 : mostI A + (mostI B - 1) < mostI (A ++ B.map (mostI A + ·)) := most_lt (List.mem_append_right _ (List.mem_map.2 ⟨_, hB, rfl⟩))
  have h2 : mostI (A ++ B.map (mostI A + ·)) ≤ mostI A + mostI B := most_le (by have := most_nonneg A; omega) fun x hx => by
    rcases List.mem_append.1 hx with hx | hx
    · have := most_lt hx; omega
    · obtain ⟨y, hy, rfl⟩ := List.mem_map.1 hx
      have := most_lt hy; omega
  omega
end Go.Proofs.Ytbodlnpmplcaoaa

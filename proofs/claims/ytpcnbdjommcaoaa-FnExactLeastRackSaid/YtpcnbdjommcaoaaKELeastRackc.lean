/- Contracts of functions that the law FnExactLeastRack reaches: conditions, plain proofs, walks; no condition. -/
import Derived.Test.YtpcnbdjommcaoaaKELeastRackb
import Derived.Test.YtpcnbdjommcaoaaPt
namespace Go.Proofs.Ytpcnbdjommcaoaa

def wp_cmp_isNaN_int64_ (x : Int) (Q : Bool → Prop) : Prop :=
 Q (!(decide (x = x)))

def wp_cmp_Compare_int64_ (x : Int) (y : Int) (Q : Int → Prop) : Prop :=
 ((x < y →
 Q (-1)) ∧
 (¬ (x < y) →
 ((y < x →
 Q 1) ∧
 (¬ (y < x) →
 Q 0))))

def wp_slices_Compare___int64_int64_ (s1 : List Int) (s2 : List Int) (Q : Int → Prop) : Prop :=
 ∃ (H1 : Int → Prop) (m1 : Int → Nat),
 H1 0 ∧
 ∀ (v11_1 : Int), H1 v11_1 →
 ( ((v11_1 < (s1.length : Int) →
 (0 ≤ v11_1 ∧ v11_1 < (s1.length : Int)) ∧
 (((s2.length : Int) ≤ v11_1 →
 Q 1) ∧
 (¬ ((s2.length : Int) ≤ v11_1) →
 (0 ≤ v11_1 ∧ v11_1 < (s2.length : Int)) ∧
 ((¬ (cmp1 (el s1 v11_1) (el s2 v11_1) = 0) →
 Q (cmp1 (el s1 v11_1) (el s2 v11_1))) ∧
 (cmp1 (el s1 v11_1) (el s2 v11_1) = 0 →
 (InI (v11_1 + 1)) ∧
 (H1 (v11_1 + 1) ∧ m1 (v11_1 + 1) < m1 v11_1)))))) ∧
 (¬ (v11_1 < (s1.length : Int)) →
 (((s1.length : Int) < (s2.length : Int) →
 Q (-1)) ∧
 (¬ ((s1.length : Int) < (s2.length : Int)) →
 Q 0)))))

def wp_slices_CompareFunc_____int64_____int64___int64___int64_ (s1 : List (List Int)) (s2 : List (List Int)) (cmp : List Int → List Int → Int) (cmp_D : List Int → List Int → Prop) (Q : Int → Prop) : Prop :=
 ∃ (H1 : Int → Prop) (m1 : Int → Nat),
 H1 0 ∧
 ∀ (v13_1 : Int), H1 v13_1 →
 ( ((v13_1 < (s1.length : Int) →
 (0 ≤ v13_1 ∧ v13_1 < (s1.length : Int)) ∧
 (((s2.length : Int) ≤ v13_1 →
 Q 1) ∧
 (¬ ((s2.length : Int) ≤ v13_1) →
 (0 ≤ v13_1 ∧ v13_1 < (s2.length : Int)) ∧
 (cmp_D (el s1 v13_1) (el s2 v13_1)) ∧
 ((¬ (cmp (el s1 v13_1) (el s2 v13_1) = 0) →
 Q (cmp (el s1 v13_1) (el s2 v13_1))) ∧
 (cmp (el s1 v13_1) (el s2 v13_1) = 0 →
 (InI (v13_1 + 1)) ∧
 (H1 (v13_1 + 1) ∧ m1 (v13_1 + 1) < m1 v13_1)))))) ∧
 (¬ (v13_1 < (s1.length : Int)) →
 (((s1.length : Int) < (s2.length : Int) →
 Q (-1)) ∧
 (¬ ((s1.length : Int) < (s2.length : Int)) →
 Q 0)))))

def wp_impl_compareTables_1 (a : List Int) (b : List Int) (Q : Int → Prop) : Prop :=
 (small a ∧ small b) ∧
 Q (cmpG cmp1 a b)

def wp_impl_compareTables (s : List (List Int)) (t : List (List Int)) (Q : Int → Prop) : Prop :=
 (small2 s ∧ small2 t ∧ ∀ x_ y_ : List Int, small x_ → small y_ → (fun z0 z1 => small z0 ∧ small z1) x_ y_) ∧
 Q (cmpG (fun z0 z1 => cmpG cmp1 z0 z1) s t)

def wp_spec_l01Less (a : List Int) (b : List Int) (Q : Bool → Prop) : Prop :=
 ∃ (H1 : Int → Prop) (m1 : Int → Nat),
 H1 0 ∧
 ∀ (v5_1 : Int), H1 v5_1 →
 ( ((v5_1 < (a.length : Int) →
 ((v5_1 < (b.length : Int) →
 (0 ≤ v5_1 ∧ v5_1 < (a.length : Int)) ∧
 (0 ≤ v5_1 ∧ v5_1 < (b.length : Int)) ∧
 ((¬ (el a v5_1 = el b v5_1) →
 (0 ≤ v5_1 ∧ v5_1 < (a.length : Int)) ∧
 (0 ≤ v5_1 ∧ v5_1 < (b.length : Int)) ∧
 Q (decide (el a v5_1 < el b v5_1))) ∧
 (el a v5_1 = el b v5_1 →
 (InI (v5_1 + 1)) ∧
 (H1 (v5_1 + 1) ∧ m1 (v5_1 + 1) < m1 v5_1)))) ∧
 (¬ (v5_1 < (b.length : Int)) →
 Q (decide ((a.length : Int) < (b.length : Int)))))) ∧
 (¬ (v5_1 < (a.length : Int)) →
 Q (decide ((a.length : Int) < (b.length : Int))))))

def wp_impl_nextPermutation (p : List Int) (Q : Bool → List Int → Prop) : Prop :=
 (InI ((p.length : Int) - 2)) ∧
 ∃ (H1 : Int → Prop) (m1 : Int → Nat),
 H1 ((p.length : Int) - 2) ∧
 ∀ (v3_1 : Int), H1 v3_1 →
 ( ((0 ≤ v3_1 →
 (0 ≤ v3_1 ∧ v3_1 < (p.length : Int)) ∧
 (InI (v3_1 + 1)) ∧
 (0 ≤ v3_1 + 1 ∧ v3_1 + 1 < (p.length : Int)) ∧
 ((el p (v3_1 + 1) < el p v3_1 →
 (InI (v3_1 - 1)) ∧
 (H1 (v3_1 - 1) ∧ m1 (v3_1 - 1) < m1 v3_1)) ∧
 (¬ (el p (v3_1 + 1) < el p v3_1) →
 ((v3_1 < 0 →
 Q false p) ∧
 (¬ (v3_1 < 0) →
 (InI ((p.length : Int) - 1)) ∧
 ∃ (H2 : Int → Prop) (m2 : Int → Nat),
 H2 ((p.length : Int) - 1) ∧
 ∀ (v4_2 : Int), H2 v4_2 →
 ( (0 ≤ v4_2 ∧ v4_2 < (p.length : Int)) ∧
 (0 ≤ v3_1 ∧ v3_1 < (p.length : Int)) ∧
 ((el p v4_2 < el p v3_1 →
 (InI (v4_2 - 1)) ∧
 (H2 (v4_2 - 1) ∧ m2 (v4_2 - 1) < m2 v4_2)) ∧
 (¬ (el p v4_2 < el p v3_1) →
 (0 ≤ v4_2 ∧ v4_2 < (p.length : Int)) ∧
 (0 ≤ v3_1 ∧ v3_1 < (p.length : Int)) ∧
 (0 ≤ v3_1 ∧ v3_1 < (p.length : Int)) ∧
 (0 ≤ v4_2 ∧ v4_2 < ((se p v3_1 (el p v4_2)).length : Int)) ∧
 (InI (v3_1 + 1)) ∧
 (0 ≤ v3_1 + 1 ∧ v3_1 + 1 ≤ ((se (se p v3_1 (el p v4_2)) v4_2 (el p v3_1)).length : Int)) ∧
 (small (se (se p v3_1 (el p v4_2)) v4_2 (el p v3_1))) ∧
 Q true ((se (se p v3_1 (el p v4_2)) v4_2 (el p v3_1)).take (v3_1 + 1).toNat ++ List.reverse ((se (se p v3_1 (el p v4_2)) v4_2 (el p v3_1)).drop (v3_1 + 1).toNat)))))))))) ∧
 (¬ (0 ≤ v3_1) →
 ((v3_1 < 0 →
 Q false p) ∧
 (¬ (v3_1 < 0) →
 (InI ((p.length : Int) - 1)) ∧
 ∃ (H3 : Int → Prop) (m3 : Int → Nat),
 H3 ((p.length : Int) - 1) ∧
 ∀ (v4_2 : Int), H3 v4_2 →
 ( (0 ≤ v4_2 ∧ v4_2 < (p.length : Int)) ∧
 (0 ≤ v3_1 ∧ v3_1 < (p.length : Int)) ∧
 ((el p v4_2 < el p v3_1 →
 (InI (v4_2 - 1)) ∧
 (H3 (v4_2 - 1) ∧ m3 (v4_2 - 1) < m3 v4_2)) ∧
 (¬ (el p v4_2 < el p v3_1) →
 (0 ≤ v4_2 ∧ v4_2 < (p.length : Int)) ∧
 (0 ≤ v3_1 ∧ v3_1 < (p.length : Int)) ∧
 (0 ≤ v3_1 ∧ v3_1 < (p.length : Int)) ∧
 (0 ≤ v4_2 ∧ v4_2 < ((se p v3_1 (el p v4_2)).length : Int)) ∧
 (InI (v3_1 + 1)) ∧
 (0 ≤ v3_1 + 1 ∧ v3_1 + 1 ≤ ((se (se p v3_1 (el p v4_2)) v4_2 (el p v3_1)).length : Int)) ∧
 (small (se (se p v3_1 (el p v4_2)) v4_2 (el p v3_1))) ∧
 Q true ((se (se p v3_1 (el p v4_2)) v4_2 (el p v3_1)).take (v3_1 + 1).toNat ++ List.reverse ((se (se p v3_1 (el p v4_2)) v4_2 (el p v3_1)).drop (v3_1 + 1).toNat))))))))))

def wp_impl_cloneTable (t : List (List Int)) (Q : List (List Int) → Prop) : Prop :=
 (0 ≤ (t.length : Int) ∧ (t.length : Int) ≤ 1000000000) ∧
 ∃ (H1 : Int → List (List Int) → Prop) (m1 : Int → List (List Int) → Nat),
 H1 0 (List.replicate (t.length : Int).toNat ([] : List Int)) ∧
 ∀ (v11_1 : Int) (o8_1 : List (List Int)), H1 v11_1 o8_1 →
 ( ((v11_1 < (t.length : Int) →
 (0 ≤ v11_1 ∧ v11_1 < (t.length : Int)) ∧
 (small (el t v11_1)) ∧
 (0 ≤ v11_1 ∧ v11_1 < (o8_1.length : Int)) ∧
 (InI (v11_1 + 1)) ∧
 (H1 (v11_1 + 1) (se o8_1 v11_1 (el t v11_1)) ∧ m1 (v11_1 + 1) (se o8_1 v11_1 (el t v11_1)) < m1 v11_1 o8_1)) ∧
 (¬ (v11_1 < (t.length : Int)) →
 Q o8_1)))

def wp_impl_renamed_1 (u : Int) (v : Int) (p : List Int) (t : List (List Int)) (back : List Int) (Q : Int → Prop) : Prop :=
 (0 ≤ u ∧ u < (back.length : Int)) ∧
 (0 ≤ el back u ∧ el back u < (t.length : Int)) ∧
 (0 ≤ v ∧ v < (back.length : Int)) ∧
 (0 ≤ el back v ∧ el back v < ((el t (el back u)).length : Int)) ∧
 (0 ≤ el (el t (el back u)) (el back v) ∧ el (el t (el back u)) (el back v) < (p.length : Int)) ∧
 Q (el p (el (el t (el back u)) (el back v)))

def wp_impl_renamed (t : List (List Int)) (p : List Int) (Q : List (List Int) → Prop) : Prop :=
 (small p ∧ isPerm p = true) ∧
 (0 ≤ (t.length : Int) ∧ (t.length : Int) ≤ 1000000 ∧ ∀ x_ y_, 0 ≤ x_ → x_ < (t.length : Int) → 0 ≤ y_ → y_ < (t.length : Int) → (fun z0 z1 => isTab t = true ∧ p.length = t.length ∧ (backI p).length = t.length ∧ isPerm p = true ∧ isPerm (backI p) = true ∧ (0 ≤ z0 ∧ z0 < (t.length : Int)) ∧ 0 ≤ z1 ∧ z1 < (t.length : Int)) x_ y_) ∧
 Q (tab (t.length : Int) (fun z0 z1 => el p (el (el t (el (backI p) z0)) (el (backI p) z1))))

def wp_impl_LeastTable (t : List (List Int)) (Q : List (List Int) → Int → Prop) : Prop :=
 (small2 t) ∧
 (((isTab t) = false →
 Q ([]) 1) ∧
 ((isTab t) = true →
 ((7 < (t.length : Int) →
 Q ([]) 3) ∧
 (¬ (7 < (t.length : Int)) →
 (small2 t) ∧
 (0 ≤ (t.length : Int) ∧ (t.length : Int) ≤ 12) ∧
 ∃ (H1 : Nat → (List (List Int)) → Prop), H1 0 t ∧
 ((∀ (k1 : Nat) (f4_0_1 : List (List Int)) (e1 : List Int), (growL (t.length : Int) [])[k1]? = some e1 → H1 k1 f4_0_1 →
 (isTab t = true ∧ (e1.length : Int) = (t.length : Int) ∧ isPerm e1 = true) ∧
 (small2 (renT t e1) ∧ small2 f4_0_1) ∧
 ((cmpT (renT t e1) f4_0_1 < 0 →
 H1 (k1 + 1) (renT t e1)) ∧
 (¬ (cmpT (renT t e1) f4_0_1 < 0) →
 H1 (k1 + 1) f4_0_1))) ∧
 (∀ (f4_0_1 : List (List Int)), H1 (growL (t.length : Int) []).length f4_0_1 →
 Q f4_0_1 0))))))

theorem p_cmp_isNaN_int64_ (x : Int) : wp_cmp_isNaN_int64_ x (fun y0 => y0 = false) := by unfold wp_cmp_isNaN_int64_; simp
theorem p_cmp_Compare_int64_ (x y : Int) : wp_cmp_Compare_int64_ x y (fun y0 => y0 = cmp1 x y) := by
  unfold wp_cmp_Compare_int64_ cmp1
  exact ⟨fun h => by rw [if_pos h], fun h => ⟨fun g => by rw [if_neg h, if_pos g], fun g => by rw [if_neg h, if_neg g]⟩⟩
theorem p_slices_Compare___int64_int64_ (s1 s2 : List Int) (hp : small s1 ∧ small s2) : wp_slices_Compare___int64_int64_ s1 s2 (fun y0 => y0 = cmpG cmp1 s1 s2) := by
  have h1 : (s1.length : Int) ≤ 1000000000 := hp.1
  refine ⟨fun i => (0 ≤ i ∧ i ≤ (s1.length : Int) ∧ i ≤ (s2.length : Int)) ∧ Upto i fun j => cmp1 (el s1 j) (el s2 j) = 0, fun i => ((s1.length : Int) - i).toNat, ⟨⟨by omega, by omega, by omega⟩, upto0⟩, ?_⟩
  rintro i ⟨⟨i0, i1, i2⟩, hu⟩
  dsimp only
  refine ⟨fun hlt => ⟨⟨i0, hlt⟩, fun g => (cmpG_long hu ⟨i0, hlt⟩ (by omega)).symm, fun g => ⟨⟨i0, by omega⟩, fun h => (cmpG_ne hu ⟨i0, hlt⟩ (by omega) h).symm, fun h => ⟨⟨by omega, by omega⟩, ⟨⟨by omega, by omega, by omega⟩, upto1 hu h⟩, by omega⟩⟩⟩, fun hge => ⟨fun g => (cmpG_short hu ⟨i0, by omega⟩ (by omega)).symm, fun g => (cmpG_same hu ⟨i0, by omega⟩ (by omega)).symm⟩⟩
theorem p_slices_CompareFunc_____int64_____int64___int64___int64_ (s1 s2 : List (List Int)) (cmp : List Int → List Int → Int) (cmp_D : List Int → List Int → Prop) (hp : small2 s1 ∧ small2 s2 ∧ ∀ x_ y_ : List Int, small x_ → small y_ → cmp_D x_ y_) : wp_slices_CompareFunc_____int64_____int64___int64___int64_ s1 s2 cmp cmp_D (fun y0 => y0 = cmpG cmp s1 s2) := by
  obtain ⟨⟨h1, h1'⟩, ⟨h2, h2'⟩, hd⟩ := hp
  have h1 : (s1.length : Int) ≤ 1000000000 := h1
  refine ⟨fun i => (0 ≤ i ∧ i ≤ (s1.length : Int) ∧ i ≤ (s2.length : Int)) ∧ Upto i fun j => cmp (el s1 j) (el s2 j) = 0, fun i => ((s1.length : Int) - i).toNat, ⟨⟨by omega, by omega, by omega⟩, upto0⟩, ?_⟩
  rintro i ⟨⟨i0, i1, i2⟩, hu⟩
  dsimp only
  refine ⟨fun hlt => ⟨⟨i0, hlt⟩, fun g => (cmpG_long hu ⟨i0, hlt⟩ (by omega)).symm, fun g => ⟨⟨i0, by omega⟩, hd _ _ (h1' _ (el_mem ⟨i0, hlt⟩)) (h2' _ (el_mem ⟨i0, by omega⟩)), fun h => (cmpG_ne hu ⟨i0, hlt⟩ (by omega) h).symm, fun h => ⟨⟨by omega, by omega⟩, ⟨⟨by omega, by omega, by omega⟩, upto1 hu h⟩, by omega⟩⟩⟩, fun hge => ⟨fun g => (cmpG_short hu ⟨i0, by omega⟩ (by omega)).symm, fun g => (cmpG_same hu ⟨i0, by omega⟩ (by omega)).symm⟩⟩
theorem p_impl_compareTables_1 (a b : List Int) (hp : small a ∧ small b) : wp_impl_compareTables_1 a b (fun y0 => y0 = cmpG cmp1 a b) := ⟨hp, rfl⟩
theorem p_impl_compareTables (s t : List (List Int)) (hp : small2 s ∧ small2 t) : wp_impl_compareTables s t (fun y0 => y0 = cmpT s t) := ⟨⟨hp.1, hp.2, fun _ _ h1 h2 => ⟨h1, h2⟩⟩, rfl⟩
theorem p_spec_l01Less (a b : List Int) (hp : small a ∧ small b) : wp_spec_l01Less a b (fun y0 => y0 = decide (cmpG cmp1 a b < 0)) := by
  have h1 : (a.length : Int) ≤ 1000000000 := hp.1
  refine ⟨fun i => (0 ≤ i ∧ i ≤ (a.length : Int) ∧ i ≤ (b.length : Int)) ∧ Upto i fun j => cmp1 (el a j) (el b j) = 0, fun i => ((a.length : Int) - i).toNat, ⟨⟨by omega, by omega, by omega⟩, upto0⟩, ?_⟩
  rintro i ⟨⟨i0, i1, i2⟩, hu⟩
  have fin : ¬ (i < (a.length : Int) ∧ i < (b.length : Int)) → decide ((a.length : Int) < (b.length : Int)) = decide (cmpG cmp1 a b < 0) := fun g => by
    by_cases ha : i < (a.length : Int)
    · rw [cmpG_long hu ⟨i0, ha⟩ (by omega)]; simp; omega
    · by_cases hb : i < (b.length : Int)
      · rw [cmpG_short hu ⟨i0, by omega⟩ hb]; simp; omega
      · rw [cmpG_same hu ⟨i0, by omega⟩ (by omega)]; simp; omega
  dsimp only
  refine ⟨fun hlt => ⟨fun hb => ⟨⟨i0, hlt⟩, ⟨i0, hb⟩, fun h => ⟨⟨i0, hlt⟩, ⟨i0, hb⟩, ?_⟩, fun h => ⟨⟨by omega, by omega⟩, ⟨⟨by omega, by omega, by omega⟩, upto1 hu (cmp1_zero.2 h)⟩, by omega⟩⟩, fun hb => fin fun g => hb g.2⟩, fun hge => fin fun g => hge g.1⟩
  rw [cmpG_ne hu ⟨i0, hlt⟩ hb fun g => h (cmp1_zero.1 g)]
  unfold cmp1
  split
  · simp [*]
  · split <;> simp [*]
theorem p_impl_cloneTable (t : List (List Int)) (hp : small2 t) : wp_impl_cloneTable t (fun y0 => y0 = t) := by
  obtain ⟨h1, h2⟩ := hp
  have h1 : (t.length : Int) ≤ 1000000000 := h1
  refine ⟨⟨by omega, h1⟩, fun i o => (0 ≤ i ∧ i ≤ (t.length : Int)) ∧ o.length = t.length ∧ Upto i fun j => el o j = el t j, fun i _ => ((t.length : Int) - i).toNat, ⟨⟨by omega, by omega⟩, by simp, upto0⟩, ?_⟩
  rintro i o ⟨⟨i0, i1⟩, ol, hu⟩
  dsimp only
  refine ⟨fun hlt => ⟨⟨i0, hlt⟩, h2 _ (el_mem ⟨i0, hlt⟩), ⟨i0, by omega⟩, ⟨by omega, by omega⟩, ⟨⟨by omega, by omega⟩, by simpa using ol, ?_⟩, by omega⟩, fun hge => ext_el ol fun j j0 j1 => hu j j0 (by omega)⟩
  refine upto1 (fun j j0 j1 => ?_) ?_
  · rw [el_se_ne i0 j0 (by omega)]; exact hu j j0 j1
  · rw [el_se_same ⟨i0, by omega⟩]
theorem p_impl_renamed_1 (u v : Int) (p : List Int) (t : List (List Int)) (back : List Int) (hp : isTab t = true ∧ p.length = t.length ∧ back.length = t.length ∧ isPerm p = true ∧ isPerm back = true ∧ (0 ≤ u ∧ u < (t.length : Int)) ∧ 0 ≤ v ∧ v < (t.length : Int)) : wp_impl_renamed_1 u v p t back (fun y0 => y0 = el p (el (el t (el back u)) (el back v))) := by
  obtain ⟨ht, h1, h2, h3, h4, hu, hv⟩ := hp
  have a := isPerm_el h4 (i := u) ⟨hu.1, by omega⟩
  have b := isPerm_el h4 (i := v) ⟨hv.1, by omega⟩
  have c := rk_el ht (x := el back u) (y := el back v) ⟨a.1, by omega⟩ ⟨b.1, by omega⟩
  have l := rk_len ht (x := el back u) ⟨a.1, by omega⟩
  exact ⟨⟨hu.1, by omega⟩, ⟨a.1, by omega⟩, ⟨hv.1, by omega⟩, ⟨b.1, by omega⟩, ⟨c.1, by omega⟩, rfl⟩
theorem p_impl_renamed (t : List (List Int)) (p : List Int) (hp : isTab t = true ∧ (p.length : Int) = (t.length : Int) ∧ isPerm p = true) : wp_impl_renamed t p (fun y0 => y0 = renT t p) := by
  obtain ⟨ht, hl, hP⟩ := hp
  have hn := isTab_len ht
  refine ⟨⟨by show (_ : Int) ≤ _; omega, hP⟩, ⟨by omega, by omega, fun x y x0 x1 y0 y1 => ⟨ht, by omega, by simp; omega, hP, isPerm_backI hP, ⟨x0, x1⟩, y0, y1⟩⟩, ?_⟩
  refine tab_congr fun i j i0 i1 j0 j1 => ?_
  have b : ∀ z : Int, 0 ≤ z → z < (t.length : Int) → el (backI p) z = idxI p z := fun z z0 z1 => el_ran ⟨z0, by omega⟩
  rw [b i i0 i1, b j j0 j1]
theorem p_impl_LeastTable (t : List (List Int)) (hp : small2 t) : wp_impl_LeastTable t (fun y0 y1 => y0 = LeaT t ∧ y1 = LeaE t) := by
  refine ⟨hp, fun h => ?_, fun h => ⟨fun g => ?_, fun g => ?_⟩⟩
  · have e : LeaE t = 1 := by unfold LeaE; simp [h]
    exact ⟨by unfold LeaT; rw [e]; rfl, e.symm⟩
  · have e : LeaE t = 3 := by unfold LeaE; rw [if_pos h, if_pos g]
    exact ⟨by unfold LeaT; rw [e]; rfl, e.symm⟩
  · have e : LeaE t = 0 := by unfold LeaE; rw [if_pos h, if_neg g]
    have hn := isTab_len h
    refine ⟨hp, ⟨by omega, by omega⟩, fun k b => isTab b = true ∧ b = ((growL (t.length : Int) []).take k).foldl (lesT t) t, ⟨h, rfl⟩, fun k b p hk ⟨hb, hbe⟩ => ?_, fun b ⟨hb, hbe⟩ => ⟨?_, e.symm⟩⟩
    · obtain ⟨pl, pP⟩ := growL_perm (by omega) (List.mem_of_getElem? hk)
      have tr := isTab_ren h pP pl
      refine ⟨⟨h, pl, pP⟩, ⟨isTab_small tr, isTab_small hb⟩, fun hc => ⟨tr, ?_⟩, fun hc => ⟨hb, ?_⟩⟩
      · rw [foldl_take hk, ← hbe]; unfold lesT; rw [if_pos hc]
      · rw [foldl_take hk, ← hbe]; unfold lesT; rw [if_neg hc]
    · unfold LeaT; rw [if_pos e, hbe, List.take_length]
theorem p_impl_nextPermutation (p : List Int) (hp : isPerm p = true ∧ (p.length : Int) ≤ 12) : wp_impl_nextPermutation p (fun y0 w0 => (y0 = true ∧ ∃ i_ k_, NxI p i_ k_ ∧ w0 = nxtL p i_ k_) ∨ (y0 = false ∧ w0 = p ∧ ∀ j_ : Int, -1 < j_ → j_ + 1 < (p.length : Int) → el p (j_ + 1) < el p j_)) := by
  obtain ⟨hP, hl⟩ := hp
  refine ⟨⟨by omega, by omega⟩, fun i => (-2 ≤ i ∧ i ≤ (p.length : Int) - 2) ∧ (i = -2 → (p.length : Int) = 0) ∧ ∀ j, i < j → 0 ≤ j → j + 1 < (p.length : Int) → el p (j + 1) < el p j, fun i => (i + 2).toNat, ⟨⟨by omega, by omega⟩, fun _ => by omega, fun j j0 _ j1 => by omega⟩, ?_⟩
  rintro i ⟨⟨i0, i1⟩, i2, dn⟩
  have last : ¬ (0 ≤ i) → (false = true ∧ ∃ i_ k_, NxI p i_ k_ ∧ p = nxtL p i_ k_) ∨ (false = false ∧ p = p ∧ ∀ j_ : Int, -1 < j_ → j_ + 1 < (p.length : Int) → el p (j_ + 1) < el p j_) := fun g => .inr ⟨rfl, rfl, fun j j0 j1 => dn j (by omega) (by omega) j1⟩
  dsimp only
  refine ⟨fun h0 => ⟨⟨h0, by omega⟩, ⟨by omega, by omega⟩, ⟨by omega, by omega⟩, fun hc => ⟨⟨by omega, by omega⟩, ⟨⟨by omega, by omega⟩, fun e => by omega, fun j j0 j1 j2 => ?_⟩, by omega⟩, fun hc => ⟨fun g => by omega, fun _ => ⟨⟨by omega, by omega⟩, ?_⟩⟩⟩, fun h0 => ⟨fun _ => last h0, fun g => by omega⟩⟩
  · by_cases e : j = i
    · subst e; exact hc
    · exact dn j (by omega) j1 j2
  · have hup : el p i < el p (i + 1) := by
      have : el p i ≠ el p (i + 1) := fun e => by have := isPerm_inj hP (i := i) (j := i + 1) ⟨h0, by omega⟩ ⟨by omega, by omega⟩ e; omega
      omega
    refine ⟨fun k => (i < k ∧ k < (p.length : Int)) ∧ ∀ j, k < j → j < (p.length : Int) → el p j < el p i, fun k => k.toNat, ⟨⟨by omega, by omega⟩, fun j j0 j1 => by omega⟩, ?_⟩
    rintro k ⟨⟨k0, k1⟩, kd⟩
    dsimp only
    refine ⟨⟨by omega, k1⟩, ⟨h0, by omega⟩, fun hk => ⟨⟨by omega, by omega⟩, ⟨⟨?_, by omega⟩, fun j j0 j1 => ?_⟩, by omega⟩, fun hk => ⟨⟨by omega, k1⟩, ⟨h0, by omega⟩, ⟨h0, by omega⟩, ⟨by omega, by simp; omega⟩, ⟨by omega, by omega⟩, ⟨by omega, by simp; omega⟩, by show (_ : Int) ≤ _; simp; omega, .inl ⟨rfl, i, k, ⟨⟨h0, by omega⟩, hup, fun j j0 j1 => dn j j0 (by omega) j1, ⟨k0, k1⟩, ?_, kd⟩, rfl⟩⟩⟩
    · rcases Int.lt_or_le i (k - 1) with g | g
      · exact g
      · rw [show k = i + 1 by omega] at hk; omega
    · by_cases e : j = k
      · subst e; exact hk
      · exact kd j (by omega) j1
    · have : el p k ≠ el p i := fun e => by have := isPerm_inj hP (i := k) (j := i) ⟨by omega, by omega⟩ ⟨h0, by omega⟩ e; omega
      omega

set_option maxRecDepth 100000 in
set_option maxHeartbeats 4000000 in
theorem w_cmp_isNaN_int64_ (x : Int) (Q : Bool → Prop) (h : wp_cmp_isNaN_int64_ x Q) : AF Try.prog 145 [ci x] (fun R_ => ∃ y0, Q y0 ∧ R_ = cb y0) := by
  refine AF.ofWQ (af_enter (n := 6) Try.func145 rfl (by rfl) rfl (Nat.le_of_ble_eq_true rfl) ?_)
  unfold wp_cmp_isNaN_int64_ at h
  refine aw_seq ?_
  refine aw_gh (gh_to (n := 6) (σ' := []) (env' := [(0, .c (ci x))]) rfl rfl ⟨rfl, trivial⟩) ?_
  refine aw_region ?_
  refine run_s (ss_assign rfl) rfl ?_
  refine run_nil ?_
  refine aw_seq ?_
  refine aw_region ?_
  refine run_s (ss_move rfl) rfl ?_
  refine run_s (ss_move rfl) rfl ?_
  refine run_s (ss_neq rfl rfl) rfl ?_
  refine run_s (ss_assign rfl) rfl ?_
  refine run_nil ?_
  refine aw_ret ?_
  exact retAF_mk (retv1 rfl (rv_tmp rfl)) rfl rfl ⟨_, (cle_refl _), _, h, rfl⟩

theorem c_cmp_isNaN_int64_ (x : Int)  : AF Try.prog 145 [ci x] (fun R_ => R_ = cb false) :=
  (w_cmp_isNaN_int64_ x (fun y0 => y0 = false) (p_cmp_isNaN_int64_ x)).mono (by rintro r ⟨_, rfl, rfl⟩; rfl)

set_option maxRecDepth 100000 in
set_option maxHeartbeats 4000000 in
theorem w_cmp_Compare_int64_ (x : Int) (y : Int) (Q : Int → Prop) (h : wp_cmp_Compare_int64_ x y Q) : AF Try.prog 118 [ci x, ci y] (fun R_ => ∃ y0, Q y0 ∧ R_ = ci y0) := by
  refine AF.ofWQ (af_enter (n := 20) Try.func118 rfl (by rfl) rfl (Nat.le_of_ble_eq_true rfl) ?_)
  unfold wp_cmp_Compare_int64_ at h
  refine aw_seq ?_
  refine aw_gh (gh_to (n := 20) (σ' := []) (env' := [(0, .c (ci x)), (1, .c (ci y))]) rfl rfl ⟨rfl, rfl, trivial⟩) ?_
  refine aw_region ?_
  refine run_s (ss_assign rfl) rfl ?_
  refine run_nil ?_
  refine aw_seq ?_
  refine aw_region ?_
  refine run_s (ss_move rfl) rfl ?_
  refine run_w (ws_call (xs := [.tmp 7]) (ids := []) rfl rfl rfl rfl (c_cmp_isNaN_int64_ x) rfl ?_ )
  rintro _ rfl
  refine ⟨rfl, ?_⟩
  refine run_s (ss_assign rfl) rfl ?_
  refine run_nil ?_
  refine aw_seq ?_
  refine aw_region ?_
  refine run_s (ss_move rfl) rfl ?_
  refine run_w (ws_call (xs := [.tmp 9]) (ids := []) rfl rfl rfl rfl (c_cmp_isNaN_int64_ y) rfl ?_ )
  rintro _ rfl
  refine ⟨rfl, ?_⟩
  refine run_s (ss_assign rfl) rfl ?_
  refine run_nil ?_
  refine aw_seq ?_
  refine aw_seq ?_
  refine aw_gh (gh_to (n := 20) (σ' := []) (env' := [(0, .c (ci x)), (1, .c (ci y)), (5, .c (cb false)), (6, .c (cb false))]) rfl rfl ⟨rfl, rfl, rfl, rfl, trivial⟩) ?_
  refine aw_region ?_
  refine run_s (ss_move rfl) rfl ?_
  refine run_nil ?_
  refine aw_cond rfl (fun q3 => ?_) (fun q3 => ?_)
  ·cases q3
  ·skip
   refine aw_skip ?_
   refine aw_seq ?_
   refine aw_seq ?_
   refine aw_region ?_
   refine run_s (ss_move rfl) rfl ?_
   refine run_nil ?_
   refine aw_cond rfl (fun q4 => ?_) (fun q4 => ?_)
   ·cases q4
   ·skip
    refine aw_skip ?_
    refine aw_seq ?_
    refine aw_seq ?_
    refine aw_region ?_
    refine run_s (ss_move rfl) rfl ?_
    refine run_s (ss_move rfl) rfl ?_
    refine run_s (ss_lss rfl rfl) rfl ?_
    refine run_nil ?_
    refine aw_cond rfl (fun q5 => ?_) (fun q5 => ?_)
    ·replace h := h.1 (of_decide_eq_true q5)
     refine aw_seq ?_
     refine aw_gh (gh_to (n := 20) (σ' := []) (env' := []) rfl rfl trivial) ?_
     refine aw_region ?_
     refine run_s (ss_assign rfl) rfl ?_
     refine run_nil ?_
     refine aw_ret ?_
     exact retAF_mk (retv1 rfl (rv_tmp rfl)) rfl rfl ⟨_, (cle_refl _), _, h, rfl⟩
    ·replace h := h.2 (of_decide_eq_false q5)
     refine aw_skip ?_
     refine aw_seq ?_
     refine aw_seq ?_
     refine aw_gh (gh_to (n := 20) (σ' := []) (env' := [(0, .c (ci x)), (1, .c (ci y))]) rfl rfl ⟨rfl, rfl, trivial⟩) ?_
     refine aw_region ?_
     refine run_s (ss_move rfl) rfl ?_
     refine run_s (ss_move rfl) rfl ?_
     refine run_s (ss_gtr rfl rfl) rfl ?_
     refine run_nil ?_
     refine aw_cond rfl (fun q6 => ?_) (fun q6 => ?_)
     ·replace h := h.1 (of_decide_eq_true q6)
      refine aw_seq ?_
      refine aw_gh (gh_to (n := 20) (σ' := []) (env' := []) rfl rfl trivial) ?_
      refine aw_region ?_
      refine run_s (ss_assign rfl) rfl ?_
      refine run_nil ?_
      refine aw_ret ?_
      exact retAF_mk (retv1 rfl (rv_tmp rfl)) rfl rfl ⟨_, (cle_refl _), _, h, rfl⟩
     ·replace h := h.2 (of_decide_eq_false q6)
      refine aw_skip ?_
      refine aw_seq ?_
      refine aw_gh (gh_to (n := 20) (σ' := []) (env' := []) rfl rfl trivial) ?_
      refine aw_region ?_
      refine run_s (ss_assign rfl) rfl ?_
      refine run_nil ?_
      refine aw_ret ?_
      exact retAF_mk (retv1 rfl (rv_tmp rfl)) rfl rfl ⟨_, (cle_refl _), _, h, rfl⟩

theorem c_cmp_Compare_int64_ (x : Int) (y : Int)  : AF Try.prog 118 [ci x, ci y] (fun R_ => R_ = ci (cmp1 x y)) :=
  (w_cmp_Compare_int64_ x y (fun y0 => y0 = cmp1 x y) (p_cmp_Compare_int64_ x y)).mono (by rintro r ⟨_, rfl, rfl⟩; rfl)

set_option maxRecDepth 100000 in
set_option maxHeartbeats 4000000 in
theorem w_slices_Compare___int64_int64_ (s1 : List Int) (s2 : List Int) (Q : Int → Prop) (h : wp_slices_Compare___int64_int64_ s1 s2 Q) : AF Try.prog 68 [.lst (ints s1), .lst (ints s2)] (fun R_ => ∃ y0, Q y0 ∧ R_ = ci y0) := by
  refine AF.ofWQ (af_enter (n := 36) Try.func68 rfl (by rfl) rfl (Nat.le_of_ble_eq_true rfl) ?_)
  unfold wp_slices_Compare___int64_int64_ at h
  refine aw_seq ?_
  refine aw_gh (gh_to (n := 36) (σ' := []) (env' := [(0, .c (.lst (ints s1))), (1, .c (.lst (ints s2)))]) rfl rfl ⟨rfl, rfl, trivial⟩) ?_
  refine aw_region ?_
  refine run_s (ss_assign rfl) rfl ?_
  refine run_nil ?_
  refine aw_seq ?_
  refine aw_seq ?_
  refine aw_region ?_
  refine run_s (ss_move rfl) rfl ?_
  refine run_s (ss_lenL (f := ci) rfl) rfl ?_
  refine run_s (ss_move rfl) rfl ?_
  refine run_nil ?_
  refine aw_block ?_
  obtain ⟨H1, m1, q1, h⟩ := h
  refine aw_loop1 (fun (v11_1 : Int) => ⟨[], [(0, .c (.lst (ints s1))), (1, .c (.lst (ints s2))), (9, .c (.lst (ints s1))), (10, .c (ci (s1.length : Int))), (11, .c (ci v11_1))], 36⟩) H1 m1 ⟨0, ghe_to (n := 36) rfl rfl ⟨rfl, rfl, rfl, rfl, rfl, trivial⟩, q1⟩ ?_
  rintro v11_1 q1
  replace h := h v11_1 q1
  refine aw_seq ?_
  refine aw_region ?_
  refine run_s (ss_lss rfl rfl) rfl ?_
  refine run_nil ?_
  refine aw_seq ?_
  refine aw_cond rfl (fun q2 => ?_) (fun q2 => ?_)
  ·replace h := h.1 (of_decide_eq_true q2)
   refine aw_skip ?_
   refine aw_seq ?_
   refine aw_block ?_
   refine aw_seq ?_
   refine aw_region ?_
   refine run_s (ss_move rfl) rfl ?_
   obtain ⟨q3, h⟩ := h
   refine run_s (ss_idxL rfl rfl q3) rfl ?_
   refine run_s (ss_loadL (f := ci) rfl q3) rfl ?_
   refine run_s (ss_assign rfl) rfl ?_
   refine run_s (ss_assign rfl) rfl ?_
   refine run_nil ?_
   refine aw_seq ?_
   refine aw_seq ?_
   refine aw_region ?_
   refine run_s (ss_move rfl) rfl ?_
   refine run_s (ss_move rfl) rfl ?_
   refine run_s (ss_lenL (f := ci) rfl) rfl ?_
   refine run_s (ss_geq rfl rfl) rfl ?_
   refine run_nil ?_
   refine aw_cond rfl (fun q4 => ?_) (fun q4 => ?_)
   ·replace h := h.1 (of_decide_eq_true q4)
    refine aw_seq ?_
    refine aw_gh (gh_to (n := 36) (σ' := []) (env' := []) rfl rfl trivial) ?_
    refine aw_region ?_
    refine run_s (ss_assign rfl) rfl ?_
    refine run_nil ?_
    refine aw_ret ?_
    exact retAF_mk (retv1 rfl (rv_tmp rfl)) rfl rfl ⟨_, (cle_refl _), _, h, rfl⟩
   ·replace h := h.2 (of_decide_eq_false q4)
    refine aw_skip ?_
    refine aw_seq ?_
    refine aw_gh (gh_to (n := 36) (σ' := []) (env' := [(0, .c (.lst (ints s1))), (1, .c (.lst (ints s2))), (5, .c (ci v11_1)), (6, .c (ci (el s1 v11_1))), (9, .c (.lst (ints s1))), (10, .c (ci (s1.length : Int))), (11, .c (ci v11_1))]) rfl rfl ⟨rfl, rfl, rfl, rfl, rfl, rfl, rfl, trivial⟩) ?_
    refine aw_region ?_
    refine run_s (ss_move rfl) rfl ?_
    refine run_s (ss_move rfl) rfl ?_
    obtain ⟨q5, h⟩ := h
    refine run_s (ss_idxL rfl rfl q5) rfl ?_
    refine run_s (ss_loadL (f := ci) rfl q5) rfl ?_
    refine run_s (ss_assign rfl) rfl ?_
    refine run_nil ?_
    refine aw_seq ?_
    refine aw_region ?_
    refine run_s (ss_move rfl) rfl ?_
    refine run_s (ss_move rfl) rfl ?_
    refine run_w (ws_call (xs := [.tmp 24, .tmp 25]) (ids := []) rfl rfl rfl rfl (c_cmp_Compare_int64_ (el s1 v11_1) (el s2 v11_1)) rfl ?_ )
    rintro _ rfl
    refine ⟨rfl, ?_⟩
    refine run_s (ss_assign rfl) rfl ?_
    refine run_nil ?_
    refine aw_seq ?_
    refine aw_gh (gh_to (n := 36) (σ' := []) (env' := [(0, .c (.lst (ints s1))), (1, .c (.lst (ints s2))), (8, .c (ci (cmp1 (el s1 v11_1) (el s2 v11_1)))), (9, .c (.lst (ints s1))), (10, .c (ci (s1.length : Int))), (11, .c (ci v11_1))]) rfl rfl ⟨rfl, rfl, rfl, rfl, rfl, rfl, trivial⟩) ?_
    refine aw_region ?_
    refine run_s (ss_move rfl) rfl ?_
    refine run_s (ss_neq rfl rfl) rfl ?_
    refine run_nil ?_
    refine aw_cond rfl (fun q7 => ?_) (fun q7 => ?_)
    ·replace h := h.1 (of_decide_eq_false (bnot_t q7))
     refine aw_seq ?_
     refine aw_gh (gh_to (n := 36) (σ' := []) (env' := [(8, .c (ci (cmp1 (el s1 v11_1) (el s2 v11_1))))]) rfl rfl ⟨rfl, trivial⟩) ?_
     refine aw_region ?_
     refine run_s (ss_move rfl) rfl ?_
     refine run_s (ss_assign rfl) rfl ?_
     refine run_nil ?_
     refine aw_ret ?_
     exact retAF_mk (retv1 rfl (rv_tmp rfl)) rfl rfl ⟨_, (cle_refl _), _, h, rfl⟩
    ·replace h := h.2 (of_decide_eq_true (bnot_f q7))
     refine aw_skip ?_
     refine aw_region ?_
     obtain ⟨q8, h⟩ := h
     refine run_s (ss_add rfl rfl q8) rfl ?_
     refine run_s (ss_move rfl) rfl ?_
     refine run_nil ?_
     exact ⟨v11_1 + 1, ghe_to (n := 36) rfl rfl ⟨rfl, rfl, rfl, rfl, rfl, trivial⟩, h.1, h.2⟩
  ·replace h := h.2 (of_decide_eq_false q2)
   refine aw_exit ?_
   refine aw_seq ?_
   refine aw_seq ?_
   refine aw_region ?_
   refine run_s (ss_move rfl) rfl ?_
   refine run_s (ss_lenL (f := ci) rfl) rfl ?_
   refine run_s (ss_move rfl) rfl ?_
   refine run_s (ss_lenL (f := ci) rfl) rfl ?_
   refine run_s (ss_lss rfl rfl) rfl ?_
   refine run_nil ?_
   refine aw_cond rfl (fun q9 => ?_) (fun q9 => ?_)
   ·replace h := h.1 (of_decide_eq_true q9)
    refine aw_seq ?_
    refine aw_gh (gh_to (n := 36) (σ' := []) (env' := []) rfl rfl trivial) ?_
    refine aw_region ?_
    refine run_s (ss_assign rfl) rfl ?_
    refine run_nil ?_
    refine aw_ret ?_
    exact retAF_mk (retv1 rfl (rv_tmp rfl)) rfl rfl ⟨_, (cle_refl _), _, h, rfl⟩
   ·replace h := h.2 (of_decide_eq_false q9)
    refine aw_skip ?_
    refine aw_seq ?_
    refine aw_gh (gh_to (n := 36) (σ' := []) (env' := []) rfl rfl trivial) ?_
    refine aw_region ?_
    refine run_s (ss_assign rfl) rfl ?_
    refine run_nil ?_
    refine aw_ret ?_
    exact retAF_mk (retv1 rfl (rv_tmp rfl)) rfl rfl ⟨_, (cle_refl _), _, h, rfl⟩

theorem c_slices_Compare___int64_int64_ (s1 : List Int) (s2 : List Int) (hp : small s1 ∧ small s2) : AF Try.prog 68 [.lst (ints s1), .lst (ints s2)] (fun R_ => R_ = ci (cmpG cmp1 s1 s2)) :=
  (w_slices_Compare___int64_int64_ s1 s2 (fun y0 => y0 = cmpG cmp1 s1 s2) (p_slices_Compare___int64_int64_ s1 s2 hp)).mono (by rintro r ⟨_, rfl, rfl⟩; rfl)

set_option maxRecDepth 100000 in
set_option maxHeartbeats 4000000 in
theorem w_slices_CompareFunc_____int64_____int64___int64___int64_ (s1 : List (List Int)) (s2 : List (List Int)) (cmp_g : Nat) (cmp_c : List C) (cmp : List Int → List Int → Int) (cmp_D : List Int → List Int → Prop) (cmp_h : ∀ x0 x1, cmp_D x0 x1 → AF Try.prog cmp_g ([.lst (ints x0), .lst (ints x1)] ++ cmp_c) (fun R_ => R_ = ci (cmp x0 x1))) (Q : Int → Prop) (h : wp_slices_CompareFunc_____int64_____int64___int64___int64_ s1 s2 cmp cmp_D Q) : AF Try.prog 128 [.lst (rows s1), .lst (rows s2), .clo cmp_g cmp_c] (fun R_ => ∃ y0, Q y0 ∧ R_ = ci y0) := by
  refine AF.ofWQ (af_enter (n := 39) Try.func128 rfl (by rfl) rfl (Nat.le_of_ble_eq_true rfl) ?_)
  unfold wp_slices_CompareFunc_____int64_____int64___int64___int64_ at h
  refine aw_seq ?_
  refine aw_gh (gh_to (n := 39) (σ' := []) (env' := [(0, .c (.lst (rows s1))), (1, .c (.lst (rows s2))), (2, .c (.clo cmp_g cmp_c))]) rfl rfl ⟨rfl, rfl, rfl, trivial⟩) ?_
  refine aw_region ?_
  refine run_s (ss_assign rfl) rfl ?_
  refine run_nil ?_
  refine aw_seq ?_
  refine aw_seq ?_
  refine aw_region ?_
  refine run_s (ss_move rfl) rfl ?_
  refine run_s (ss_lenL (f := (fun r => C.lst (ints r))) rfl) rfl ?_
  refine run_s (ss_move rfl) rfl ?_
  refine run_nil ?_
  refine aw_block ?_
  obtain ⟨H1, m1, q1, h⟩ := h
  refine aw_loop1 (fun (v13_1 : Int) => ⟨[], [(0, .c (.lst (rows s1))), (1, .c (.lst (rows s2))), (2, .c (.clo cmp_g cmp_c)), (11, .c (.lst (rows s1))), (12, .c (ci (s1.length : Int))), (13, .c (ci v13_1))], 39⟩) H1 m1 ⟨0, ghe_to (n := 39) rfl rfl ⟨rfl, rfl, rfl, rfl, rfl, rfl, trivial⟩, q1⟩ ?_
  rintro v13_1 q1
  replace h := h v13_1 q1
  refine aw_seq ?_
  refine aw_region ?_
  refine run_s (ss_lss rfl rfl) rfl ?_
  refine run_nil ?_
  refine aw_seq ?_
  refine aw_cond rfl (fun q2 => ?_) (fun q2 => ?_)
  ·replace h := h.1 (of_decide_eq_true q2)
   refine aw_skip ?_
   refine aw_seq ?_
   refine aw_block ?_
   refine aw_seq ?_
   refine aw_region ?_
   refine run_s (ss_move rfl) rfl ?_
   obtain ⟨q3, h⟩ := h
   refine run_s (ss_idxL rfl rfl q3) rfl ?_
   refine run_s (ss_loadL (f := (fun r => C.lst (ints r))) rfl q3) rfl ?_
   refine run_s (ss_assign rfl) rfl ?_
   refine run_s (ss_assign rfl) rfl ?_
   refine run_nil ?_
   refine aw_seq ?_
   refine aw_seq ?_
   refine aw_region ?_
   refine run_s (ss_move rfl) rfl ?_
   refine run_s (ss_move rfl) rfl ?_
   refine run_s (ss_lenL (f := (fun r => C.lst (ints r))) rfl) rfl ?_
   refine run_s (ss_geq rfl rfl) rfl ?_
   refine run_nil ?_
   refine aw_cond rfl (fun q4 => ?_) (fun q4 => ?_)
   ·replace h := h.1 (of_decide_eq_true q4)
    refine aw_seq ?_
    refine aw_gh (gh_to (n := 39) (σ' := []) (env' := []) rfl rfl trivial) ?_
    refine aw_region ?_
    refine run_s (ss_assign rfl) rfl ?_
    refine run_nil ?_
    refine aw_ret ?_
    exact retAF_mk (retv1 rfl (rv_tmp rfl)) rfl rfl ⟨_, (cle_refl _), _, h, rfl⟩
   ·replace h := h.2 (of_decide_eq_false q4)
    refine aw_skip ?_
    refine aw_seq ?_
    refine aw_gh (gh_to (n := 39) (σ' := []) (env' := [(0, .c (.lst (rows s1))), (1, .c (.lst (rows s2))), (2, .c (.clo cmp_g cmp_c)), (7, .c (ci v13_1)), (8, .c (.lst (ints (el s1 v13_1)))), (11, .c (.lst (rows s1))), (12, .c (ci (s1.length : Int))), (13, .c (ci v13_1))]) rfl rfl ⟨rfl, rfl, rfl, rfl, rfl, rfl, rfl, rfl, trivial⟩) ?_
    refine aw_region ?_
    refine run_s (ss_move rfl) rfl ?_
    refine run_s (ss_move rfl) rfl ?_
    obtain ⟨q5, h⟩ := h
    refine run_s (ss_idxL rfl rfl q5) rfl ?_
    refine run_s (ss_loadL (f := (fun r => C.lst (ints r))) rfl q5) rfl ?_
    refine run_s (ss_assign rfl) rfl ?_
    refine run_nil ?_
    refine aw_seq ?_
    refine aw_region ?_
    refine run_s (ss_move rfl) rfl ?_
    refine run_s (ss_move rfl) rfl ?_
    refine run_s (ss_move rfl) rfl ?_
    obtain ⟨q6, h⟩ := h
    refine run_w (ws_call (xs := [.tmp 27, .tmp 28]) (ids := []) rfl rfl rfl rfl (cmp_h (el s1 v13_1) (el s2 v13_1) q6) rfl ?_ )
    rintro _ rfl
    refine ⟨rfl, ?_⟩
    refine run_s (ss_assign rfl) rfl ?_
    refine run_nil ?_
    refine aw_seq ?_
    refine aw_gh (gh_to (n := 39) (σ' := []) (env' := [(0, .c (.lst (rows s1))), (1, .c (.lst (rows s2))), (2, .c (.clo cmp_g cmp_c)), (10, .c (ci (cmp (el s1 v13_1) (el s2 v13_1)))), (11, .c (.lst (rows s1))), (12, .c (ci (s1.length : Int))), (13, .c (ci v13_1))]) rfl rfl ⟨rfl, rfl, rfl, rfl, rfl, rfl, rfl, trivial⟩) ?_
    refine aw_region ?_
    refine run_s (ss_move rfl) rfl ?_
    refine run_s (ss_neq rfl rfl) rfl ?_
    refine run_nil ?_
    refine aw_cond rfl (fun q7 => ?_) (fun q7 => ?_)
    ·replace h := h.1 (of_decide_eq_false (bnot_t q7))
     refine aw_seq ?_
     refine aw_gh (gh_to (n := 39) (σ' := []) (env' := [(10, .c (ci (cmp (el s1 v13_1) (el s2 v13_1))))]) rfl rfl ⟨rfl, trivial⟩) ?_
     refine aw_region ?_
     refine run_s (ss_move rfl) rfl ?_
     refine run_s (ss_assign rfl) rfl ?_
     refine run_nil ?_
     refine aw_ret ?_
     exact retAF_mk (retv1 rfl (rv_tmp rfl)) rfl rfl ⟨_, (cle_refl _), _, h, rfl⟩
    ·replace h := h.2 (of_decide_eq_true (bnot_f q7))
     refine aw_skip ?_
     refine aw_region ?_
     obtain ⟨q8, h⟩ := h
     refine run_s (ss_add rfl rfl q8) rfl ?_
     refine run_s (ss_move rfl) rfl ?_
     refine run_nil ?_
     exact ⟨v13_1 + 1, ghe_to (n := 39) rfl rfl ⟨rfl, rfl, rfl, rfl, rfl, rfl, trivial⟩, h.1, h.2⟩
  ·replace h := h.2 (of_decide_eq_false q2)
   refine aw_exit ?_
   refine aw_seq ?_
   refine aw_seq ?_
   refine aw_region ?_
   refine run_s (ss_move rfl) rfl ?_
   refine run_s (ss_lenL (f := (fun r => C.lst (ints r))) rfl) rfl ?_
   refine run_s (ss_move rfl) rfl ?_
   refine run_s (ss_lenL (f := (fun r => C.lst (ints r))) rfl) rfl ?_
   refine run_s (ss_lss rfl rfl) rfl ?_
   refine run_nil ?_
   refine aw_cond rfl (fun q9 => ?_) (fun q9 => ?_)
   ·replace h := h.1 (of_decide_eq_true q9)
    refine aw_seq ?_
    refine aw_gh (gh_to (n := 39) (σ' := []) (env' := []) rfl rfl trivial) ?_
    refine aw_region ?_
    refine run_s (ss_assign rfl) rfl ?_
    refine run_nil ?_
    refine aw_ret ?_
    exact retAF_mk (retv1 rfl (rv_tmp rfl)) rfl rfl ⟨_, (cle_refl _), _, h, rfl⟩
   ·replace h := h.2 (of_decide_eq_false q9)
    refine aw_skip ?_
    refine aw_seq ?_
    refine aw_gh (gh_to (n := 39) (σ' := []) (env' := []) rfl rfl trivial) ?_
    refine aw_region ?_
    refine run_s (ss_assign rfl) rfl ?_
    refine run_nil ?_
    refine aw_ret ?_
    exact retAF_mk (retv1 rfl (rv_tmp rfl)) rfl rfl ⟨_, (cle_refl _), _, h, rfl⟩

theorem c_slices_CompareFunc_____int64_____int64___int64___int64_ (s1 : List (List Int)) (s2 : List (List Int)) (cmp_g : Nat) (cmp_c : List C) (cmp : List Int → List Int → Int) (cmp_D : List Int → List Int → Prop) (cmp_h : ∀ x0 x1, cmp_D x0 x1 → AF Try.prog cmp_g ([.lst (ints x0), .lst (ints x1)] ++ cmp_c) (fun R_ => R_ = ci (cmp x0 x1))) (hp : small2 s1 ∧ small2 s2 ∧ ∀ x_ y_ : List Int, small x_ → small y_ → cmp_D x_ y_) : AF Try.prog 128 [.lst (rows s1), .lst (rows s2), .clo cmp_g cmp_c] (fun R_ => R_ = ci (cmpG cmp s1 s2)) :=
  (w_slices_CompareFunc_____int64_____int64___int64___int64_ s1 s2 cmp_g cmp_c cmp cmp_D cmp_h (fun y0 => y0 = cmpG cmp s1 s2) (p_slices_CompareFunc_____int64_____int64___int64___int64_ s1 s2 cmp cmp_D hp)).mono (by rintro r ⟨_, rfl, rfl⟩; rfl)

set_option maxRecDepth 100000 in
set_option maxHeartbeats 4000000 in
theorem w_impl_compareTables_1 (a : List Int) (b : List Int) (Q : Int → Prop) (h : wp_impl_compareTables_1 a b Q) : AF Try.prog 129 [.lst (ints a), .lst (ints b)] (fun R_ => ∃ y0, Q y0 ∧ R_ = ci y0) := by
  refine AF.ofWQ (af_enter (n := 8) Try.func129 rfl (by rfl) rfl (Nat.le_of_ble_eq_true rfl) ?_)
  unfold wp_impl_compareTables_1 at h
  refine aw_seq ?_
  refine aw_gh (gh_to (n := 8) (σ' := []) (env' := [(0, .c (.lst (ints a))), (1, .c (.lst (ints b)))]) rfl rfl ⟨rfl, rfl, trivial⟩) ?_
  refine aw_region ?_
  refine run_s (ss_assign rfl) rfl ?_
  refine run_nil ?_
  refine aw_seq ?_
  refine aw_region ?_
  refine run_s (ss_move rfl) rfl ?_
  refine run_s (ss_move rfl) rfl ?_
  obtain ⟨q1, h⟩ := h
  refine run_w (ws_call (xs := [.tmp 5, .tmp 6]) (ids := []) rfl rfl rfl rfl (c_slices_Compare___int64_int64_ a b q1) rfl ?_ )
  rintro _ rfl
  refine ⟨rfl, ?_⟩
  refine run_s (ss_assign rfl) rfl ?_
  refine run_nil ?_
  refine aw_ret ?_
  exact retAF_mk (retv1 rfl (rv_tmp rfl)) rfl rfl ⟨_, (cle_refl _), _, h, rfl⟩

theorem c_impl_compareTables_1 (a : List Int) (b : List Int) (hp : small a ∧ small b) : AF Try.prog 129 [.lst (ints a), .lst (ints b)] (fun R_ => R_ = ci (cmpG cmp1 a b)) :=
  (w_impl_compareTables_1 a b (fun y0 => y0 = cmpG cmp1 a b) (p_impl_compareTables_1 a b hp)).mono (by rintro r ⟨_, rfl, rfl⟩; rfl)

set_option maxRecDepth 100000 in
set_option maxHeartbeats 4000000 in
theorem w_impl_compareTables (s : List (List Int)) (t : List (List Int)) (Q : Int → Prop) (h : wp_impl_compareTables s t Q) : AF Try.prog 85 [.lst (rows s), .lst (rows t)] (fun R_ => ∃ y0, Q y0 ∧ R_ = ci y0) := by
  refine AF.ofWQ (af_enter (n := 8) Try.func85 rfl (by rfl) rfl (Nat.le_of_ble_eq_true rfl) ?_)
  unfold wp_impl_compareTables at h
  refine aw_seq ?_
  refine aw_gh (gh_to (n := 8) (σ' := []) (env' := [(0, .c (.lst (rows s))), (1, .c (.lst (rows t)))]) rfl rfl ⟨rfl, rfl, trivial⟩) ?_
  refine aw_region ?_
  refine run_s (ss_assign rfl) rfl ?_
  refine run_nil ?_
  refine aw_seq ?_
  refine aw_region ?_
  refine run_s (ss_move rfl) rfl ?_
  refine run_s (ss_move rfl) rfl ?_
  obtain ⟨q1, h⟩ := h
  refine run_w (ws_call (xs := [.tmp 5, .tmp 6, .func 129]) (ids := []) rfl rfl rfl rfl (c_slices_CompareFunc_____int64_____int64___int64___int64_ s t 129 [] (fun z0 z1 => cmpG cmp1 z0 z1) (fun z0 z1 => small z0 ∧ small z1) (fun z0 z1 hD => c_impl_compareTables_1 z0 z1 hD) q1) rfl ?_ )
  rintro _ rfl
  refine ⟨rfl, ?_⟩
  refine run_s (ss_assign rfl) rfl ?_
  refine run_nil ?_
  refine aw_ret ?_
  exact retAF_mk (retv1 rfl (rv_tmp rfl)) rfl rfl ⟨_, (cle_refl _), _, h, rfl⟩

theorem c_impl_compareTables (s : List (List Int)) (t : List (List Int)) (hp : small2 s ∧ small2 t) : AF Try.prog 85 [.lst (rows s), .lst (rows t)] (fun R_ => R_ = ci (cmpT s t)) :=
  (w_impl_compareTables s t (fun y0 => y0 = cmpT s t) (p_impl_compareTables s t hp)).mono (by rintro r ⟨_, rfl, rfl⟩; rfl)

set_option maxRecDepth 100000 in
set_option maxHeartbeats 4000000 in
theorem w_spec_l01Less (a : List Int) (b : List Int) (Q : Bool → Prop) (h : wp_spec_l01Less a b Q) : AF Try.prog 107 [.lst (ints a), .lst (ints b)] (fun R_ => ∃ y0, Q y0 ∧ R_ = cb y0) := by
  refine AF.ofWQ (af_enter (n := 41) Try.func107 rfl (by rfl) rfl (Nat.le_of_ble_eq_true rfl) ?_)
  unfold wp_spec_l01Less at h
  refine aw_seq ?_
  refine aw_gh (gh_to (n := 41) (σ' := []) (env' := [(0, .c (.lst (ints a))), (1, .c (.lst (ints b)))]) rfl rfl ⟨rfl, rfl, trivial⟩) ?_
  refine aw_region ?_
  refine run_s (ss_assign rfl) rfl ?_
  refine run_nil ?_
  refine aw_seq ?_
  refine aw_seq ?_
  refine aw_region ?_
  refine run_s (ss_assign rfl) rfl ?_
  refine run_nil ?_
  refine aw_block ?_
  obtain ⟨H1, m1, q1, h⟩ := h
  refine aw_loop1 (fun (v5_1 : Int) => ⟨[], [(0, .c (.lst (ints a))), (1, .c (.lst (ints b))), (5, .c (ci v5_1))], 41⟩) H1 m1 ⟨0, ghe_to (n := 41) rfl rfl ⟨rfl, rfl, rfl, trivial⟩, q1⟩ ?_
  rintro v5_1 q1
  replace h := h v5_1 q1
  refine aw_seq ?_
  refine aw_seq ?_
  refine aw_region ?_
  refine run_s (ss_move rfl) rfl ?_
  refine run_s (ss_move rfl) rfl ?_
  refine run_s (ss_lenL (f := ci) rfl) rfl ?_
  refine run_s (ss_lss rfl rfl) rfl ?_
  refine run_s (ss_move rfl) rfl ?_
  refine run_split (s := 10) rfl (fun q2 => ?_) (fun q2 => ?_)
  ·replace h := h.1 (of_decide_eq_true q2)
   refine run_gt rfl rfl q2 ?_
   refine run_s (ss_move rfl) rfl ?_
   refine run_gt rfl rfl q2 ?_
   refine run_s (ss_move rfl) rfl ?_
   refine run_gt rfl rfl q2 ?_
   refine run_s (ss_lenL (f := ci) rfl) rfl ?_
   refine run_gt rfl rfl q2 ?_
   refine run_s (ss_lss rfl rfl) rfl ?_
   refine run_s (ss_pickT rfl q2 rfl) rfl ?_
   refine run_nil ?_
   refine aw_cond rfl (fun q3 => ?_) (fun q3 => ?_)
   ·replace h := h.1 (of_decide_eq_true q3)
    refine aw_skip ?_
    refine aw_seq ?_
    refine aw_block ?_
    refine aw_seq ?_
    refine aw_gh (gh_to (n := 41) (σ' := []) (env' := [(0, .c (.lst (ints a))), (1, .c (.lst (ints b))), (5, .c (ci v5_1)), (11, .c (ci v5_1)), (12, .c (.lst (ints b))), (13, .c (ci (b.length : Int))), (14, .c (cb (decide (v5_1 < (b.length : Int)))))]) rfl rfl ⟨rfl, rfl, rfl, rfl, rfl, rfl, rfl, trivial⟩) ?_
    refine aw_regionD (kd := kdl [0, 0, 0, 1, 0, 0, 0, 1, 0]) (ord := [0, 1, 2, 4, 5, 6, 3, 7, 8]) [] mixed (by kernel_rfl) ?_
    refine rd_s rfl rfl trivial (ss_move rfl) rfl ?_
    refine rd_s rfl rfl trivial (ss_move rfl) rfl ?_
    obtain ⟨q4, h⟩ := h
    refine rd_s rfl rfl trivial (ss_idxL rfl rfl q4) rfl ?_
    refine rd_s rfl rfl trivial (ss_move rfl) rfl ?_
    refine rd_s rfl rfl trivial (ss_move rfl) rfl ?_
    obtain ⟨q5, h⟩ := h
    refine rd_s rfl rfl trivial (ss_idxL rfl rfl q5) rfl ?_
    refine rd_l rfl rfl trivial (ss_loadL (f := ci) rfl q4) rfl ?_
    refine rd_l rfl rfl trivial (ss_loadL (f := ci) rfl q5) rfl ?_
    refine rd_s rfl rfl trivial (ss_neq rfl rfl) rfl ?_
    refine rd_nil ?_
    refine aw_cond rfl (fun q6 => ?_) (fun q6 => ?_)
    ·replace h := h.1 (of_decide_eq_false (bnot_t q6))
     refine aw_seq ?_
     refine aw_gh (gh_to (n := 41) (σ' := []) (env' := [(0, .c (.lst (ints a))), (1, .c (.lst (ints b))), (5, .c (ci v5_1))]) rfl rfl ⟨rfl, rfl, rfl, trivial⟩) ?_
     refine aw_regionD (kd := kdl [0, 0, 0, 1, 0, 0, 0, 1, 0, 0]) (ord := [0, 1, 2, 4, 5, 6, 3, 7, 8, 9]) [] mixed (by kernel_rfl) ?_
     refine rd_s rfl rfl trivial (ss_move rfl) rfl ?_
     refine rd_s rfl rfl trivial (ss_move rfl) rfl ?_
     obtain ⟨q7, h⟩ := h
     refine rd_s rfl rfl trivial (ss_idxL rfl rfl q7) rfl ?_
     refine rd_s rfl rfl trivial (ss_move rfl) rfl ?_
     refine rd_s rfl rfl trivial (ss_move rfl) rfl ?_
     obtain ⟨q8, h⟩ := h
     refine rd_s rfl rfl trivial (ss_idxL rfl rfl q8) rfl ?_
     refine rd_l rfl rfl trivial (ss_loadL (f := ci) rfl q7) rfl ?_
     refine rd_l rfl rfl trivial (ss_loadL (f := ci) rfl q8) rfl ?_
     refine rd_s rfl rfl trivial (ss_lss rfl rfl) rfl ?_
     refine rd_s rfl rfl trivial (ss_assign rfl) rfl ?_
     refine rd_nil ?_
     refine aw_ret ?_
     exact retAF_mk (retv1 rfl (rv_tmp rfl)) rfl rfl ⟨_, (cle_refl _), _, h, rfl⟩
    ·replace h := h.2 (of_decide_eq_true (bnot_f q6))
     refine aw_skip ?_
     refine aw_gh (gh_to (n := 41) (σ' := []) (env' := [(0, .c (.lst (ints a))), (1, .c (.lst (ints b))), (5, .c (ci v5_1)), (11, .c (ci v5_1)), (12, .c (.lst (ints b))), (13, .c (ci (b.length : Int))), (14, .c (cb (decide (v5_1 < (b.length : Int)))))]) rfl rfl ⟨rfl, rfl, rfl, rfl, rfl, rfl, rfl, trivial⟩) ?_
     refine aw_region ?_
     refine run_s (ss_move rfl) rfl ?_
     obtain ⟨q9, h⟩ := h
     refine run_s (ss_add rfl rfl q9) rfl ?_
     refine run_s (ss_assign rfl) rfl ?_
     refine run_nil ?_
     exact ⟨v5_1 + 1, ghe_to (n := 41) rfl rfl ⟨rfl, rfl, rfl, trivial⟩, h.1, h.2⟩
   ·replace h := h.2 (of_decide_eq_false q3)
    refine aw_exit ?_
    refine aw_seq ?_
    refine aw_gh (gh_to (n := 41) (σ' := []) (env' := [(0, .c (.lst (ints a))), (1, .c (.lst (ints b)))]) rfl rfl ⟨rfl, rfl, trivial⟩) ?_
    refine aw_region ?_
    refine run_s (ss_move rfl) rfl ?_
    refine run_s (ss_lenL (f := ci) rfl) rfl ?_
    refine run_s (ss_move rfl) rfl ?_
    refine run_s (ss_lenL (f := ci) rfl) rfl ?_
    refine run_s (ss_lss rfl rfl) rfl ?_
    refine run_s (ss_assign rfl) rfl ?_
    refine run_nil ?_
    refine aw_ret ?_
    exact retAF_mk (retv1 rfl (rv_tmp rfl)) rfl rfl ⟨_, (cle_refl _), _, h, rfl⟩
  ·replace h := h.2 (of_decide_eq_false q2)
   refine run_gf rfl rfl q2 rfl ?_
   refine run_gf rfl rfl q2 rfl ?_
   refine run_gf rfl rfl q2 rfl ?_
   refine run_gf rfl rfl q2 rfl ?_
   refine run_s (ss_pickF rfl q2 rfl) rfl ?_
   refine run_nil ?_
   refine aw_cond rfl (fun q10 => ?_) (fun q10 => ?_)
   ·cases q10
   ·skip
    refine aw_exit ?_
    refine aw_seq ?_
    refine aw_gh (gh_to (n := 41) (σ' := []) (env' := [(0, .c (.lst (ints a))), (1, .c (.lst (ints b)))]) rfl rfl ⟨rfl, rfl, trivial⟩) ?_
    refine aw_region ?_
    refine run_s (ss_move rfl) rfl ?_
    refine run_s (ss_lenL (f := ci) rfl) rfl ?_
    refine run_s (ss_move rfl) rfl ?_
    refine run_s (ss_lenL (f := ci) rfl) rfl ?_
    refine run_s (ss_lss rfl rfl) rfl ?_
    refine run_s (ss_assign rfl) rfl ?_
    refine run_nil ?_
    refine aw_ret ?_
    exact retAF_mk (retv1 rfl (rv_tmp rfl)) rfl rfl ⟨_, (cle_refl _), _, h, rfl⟩

theorem c_spec_l01Less (a : List Int) (b : List Int) (hp : small a ∧ small b) : AF Try.prog 107 [.lst (ints a), .lst (ints b)] (fun R_ => R_ = cb (decide (cmpG cmp1 a b < 0))) :=
  (w_spec_l01Less a b (fun y0 => y0 = decide (cmpG cmp1 a b < 0)) (p_spec_l01Less a b hp)).mono (by rintro r ⟨_, rfl, rfl⟩; rfl)

set_option maxRecDepth 100000 in
set_option maxHeartbeats 4000000 in
theorem w_impl_nextPermutation (p : List Int) (Q : Bool → List Int → Prop) (h : wp_impl_nextPermutation p Q) : AM Try.prog 111 [.own (ints p)] (fun R_ O_ => ∃ y0 w0, Q y0 w0 ∧ R_ = cb y0 ∧ O_ = [.own (ints w0)]) := by
  refine am_enter (n := 59) (m := 1) Try.func111 rfl (by rfl) rfl rfl (Nat.le_of_ble_eq_true rfl) [800] rfl ?_
  unfold wp_impl_nextPermutation at h
  refine aw_seq ?_
  refine aw_gh (gh_to (n := 59) (σ' := [(800, ⟨ints p, []⟩)]) (env' := [(0, .ref 800), (59, .ref 800)]) rfl rfl ⟨rfl, rfl, trivial⟩) ?_
  refine aw_region ?_
  refine run_s (ss_assign rfl) rfl ?_
  refine run_nil ?_
  refine aw_seq ?_
  refine aw_region ?_
  refine run_s (ss_move rfl) rfl ?_
  refine run_s (ss_lenR (f := ci) rfl rfl) rfl ?_
  obtain ⟨q1, h⟩ := h
  refine run_s (ss_sub rfl rfl q1) rfl ?_
  refine run_s (ss_assign rfl) rfl ?_
  refine run_nil ?_
  refine aw_seq ?_
  refine aw_block ?_
  obtain ⟨H1, m1, q2, h⟩ := h
  refine aw_loop1 (fun (v3_1 : Int) => ⟨[(800, ⟨ints p, []⟩)], [(0, .ref 800), (3, .c (ci v3_1)), (59, .ref 800)], 59⟩) H1 m1 ⟨(p.length : Int) - 2, ghe_to (n := 59) rfl rfl ⟨rfl, rfl, rfl, trivial⟩, q2⟩ ?_
  rintro v3_1 q2
  replace h := h v3_1 q2
  refine aw_seq ?_
  refine aw_seq ?_
  refine aw_gh (gh_to (n := 59) (σ' := [(800, ⟨ints p, []⟩)]) (env' := [(0, .ref 800), (3, .c (ci v3_1)), (59, .ref 800)]) rfl rfl ⟨rfl, rfl, rfl, trivial⟩) ?_
  refine aw_regionD (kd := kdl [0, 0, 0, 0, 0, 0, 1, 0, 0, 0, 0, 1, 0, 0]) (ord := [0, 1, 2, 3, 4, 5, 7, 8, 9, 10, 6, 11, 12, 13]) [] mixed (by kernel_rfl) ?_
  refine rd_s rfl rfl trivial (ss_move rfl) rfl ?_
  refine rd_s rfl rfl trivial (ss_geq rfl rfl) rfl ?_
  refine rd_s rfl rfl trivial (ss_move rfl) rfl ?_
  refine rd_split (s := 10) rfl (fun q3 => ?_) (fun q3 => ?_)
  ·replace h := h.1 (of_decide_eq_true q3)
   refine rd_s rfl rfl ⟨_, _, rfl, rfl, q3⟩ (ss_move rfl) rfl ?_
   refine rd_s rfl rfl ⟨_, _, rfl, rfl, q3⟩ (ss_move rfl) rfl ?_
   obtain ⟨q4, h⟩ := h
   refine rd_s rfl rfl ⟨_, _, rfl, rfl, q3⟩ (ss_idxR (f := ci) rfl rfl rfl q4) rfl ?_
   refine rd_s rfl rfl ⟨_, _, rfl, rfl, q3⟩ (ss_move rfl) rfl ?_
   refine rd_s rfl rfl ⟨_, _, rfl, rfl, q3⟩ (ss_move rfl) rfl ?_
   obtain ⟨q5, h⟩ := h
   refine rd_s rfl rfl ⟨_, _, rfl, rfl, q3⟩ (ss_add rfl rfl q5) rfl ?_
   obtain ⟨q6, h⟩ := h
   refine rd_s rfl rfl ⟨_, _, rfl, rfl, q3⟩ (ss_idxR (f := ci) rfl rfl rfl q6) rfl ?_
   refine rd_l rfl rfl ⟨_, _, rfl, rfl, q3⟩ (ss_loadR (f := ci) rfl rfl q4 rfl rfl) rfl ?_
   refine rd_l rfl rfl ⟨_, _, rfl, rfl, q3⟩ (ss_loadR (f := ci) rfl rfl q6 rfl rfl) rfl ?_
   refine rd_s rfl rfl ⟨_, _, rfl, rfl, q3⟩ (ss_gtr rfl rfl) rfl ?_
   refine rd_s rfl rfl trivial (ss_pickT rfl q3 rfl) rfl ?_
   refine rd_nil ?_
   refine aw_cond rfl (fun q7 => ?_) (fun q7 => ?_)
   ·replace h := h.1 (of_decide_eq_true q7)
    refine aw_skip ?_
    refine aw_block ?_
    refine aw_gh (gh_to (n := 59) (σ' := [(800, ⟨ints p, []⟩)]) (env' := [(0, .ref 800), (3, .c (ci v3_1)), (11, .ref 800), (12, .c (ci v3_1)), (13, .cell 800 v3_1.toNat), (14, .c (ci (el p v3_1))), (15, .ref 800), (16, .c (ci v3_1)), (17, .c (ci (v3_1 + 1))), (18, .cell 800 (v3_1 + 1).toNat), (19, .c (ci (el p (v3_1 + 1)))), (20, .c (cb (decide (el p (v3_1 + 1) < el p v3_1)))), (59, .ref 800)]) rfl rfl ⟨rfl, rfl, rfl, rfl, rfl, rfl, rfl, rfl, rfl, rfl, rfl, rfl, rfl, trivial⟩) ?_
    refine aw_region ?_
    refine run_s (ss_move rfl) rfl ?_
    obtain ⟨q8, h⟩ := h
    refine run_s (ss_sub rfl rfl q8) rfl ?_
    refine run_s (ss_assign rfl) rfl ?_
    refine run_nil ?_
    exact ⟨v3_1 - 1, ghe_to (n := 59) rfl rfl ⟨rfl, rfl, rfl, trivial⟩, h.1, h.2⟩
   ·replace h := h.2 (of_decide_eq_false q7)
    refine aw_exit ?_
    refine aw_seq ?_
    refine aw_seq ?_
    refine aw_gh (gh_to (n := 59) (σ' := [(800, ⟨ints p, []⟩)]) (env' := [(0, .ref 800), (3, .c (ci v3_1)), (59, .ref 800)]) rfl rfl ⟨rfl, rfl, rfl, trivial⟩) ?_
    refine aw_region ?_
    refine run_s (ss_move rfl) rfl ?_
    refine run_s (ss_lss rfl rfl) rfl ?_
    refine run_nil ?_
    refine aw_cond rfl (fun q9 => ?_) (fun q9 => ?_)
    ·replace h := h.1 (of_decide_eq_true q9)
     refine aw_seq ?_
     refine aw_gh (gh_to (n := 59) (σ' := [(800, ⟨ints p, []⟩)]) (env' := [(59, .ref 800)]) rfl rfl ⟨rfl, trivial⟩) ?_
     refine aw_region ?_
     refine run_s (ss_assign rfl) rfl ?_
     refine run_nil ?_
     refine aw_ret ?_
     exact retAM_mk (retv1 rfl (rv_tmp rfl)) rfl rfl rfl ⟨_, _, h, rfl, rfl⟩
    ·replace h := h.2 (of_decide_eq_false q9)
     refine aw_skip ?_
     refine aw_seq ?_
     refine aw_region ?_
     refine run_s (ss_move rfl) rfl ?_
     refine run_s (ss_lenR (f := ci) rfl rfl) rfl ?_
     obtain ⟨q10, h⟩ := h
     refine run_s (ss_sub rfl rfl q10) rfl ?_
     refine run_s (ss_assign rfl) rfl ?_
     refine run_nil ?_
     refine aw_seq ?_
     refine aw_block ?_
     obtain ⟨H2, m2, q11, h⟩ := h
     refine aw_loop1 (fun (v4_2 : Int) => ⟨[(800, ⟨ints p, []⟩)], [(0, .ref 800), (3, .c (ci v3_1)), (4, .c (ci v4_2)), (59, .ref 800)], 59⟩) H2 m2 ⟨(p.length : Int) - 1, ghe_to (n := 59) rfl rfl ⟨rfl, rfl, rfl, rfl, trivial⟩, q11⟩ ?_
     rintro v4_2 q11
     replace h := h v4_2 q11
     refine aw_seq ?_
     refine aw_seq ?_
     refine aw_gh (gh_to (n := 59) (σ' := [(800, ⟨ints p, []⟩)]) (env' := [(0, .ref 800), (3, .c (ci v3_1)), (4, .c (ci v4_2)), (59, .ref 800)]) rfl rfl ⟨rfl, rfl, rfl, rfl, trivial⟩) ?_
     refine aw_regionD (kd := kdl [0, 0, 0, 1, 0, 0, 0, 1, 0]) (ord := [0, 1, 2, 4, 5, 6, 3, 7, 8]) [] mixed (by kernel_rfl) ?_
     refine rd_s rfl rfl trivial (ss_move rfl) rfl ?_
     refine rd_s rfl rfl trivial (ss_move rfl) rfl ?_
     obtain ⟨q12, h⟩ := h
     refine rd_s rfl rfl trivial (ss_idxR (f := ci) rfl rfl rfl q12) rfl ?_
     refine rd_s rfl rfl trivial (ss_move rfl) rfl ?_
     refine rd_s rfl rfl trivial (ss_move rfl) rfl ?_
     obtain ⟨q13, h⟩ := h
     refine rd_s rfl rfl trivial (ss_idxR (f := ci) rfl rfl rfl q13) rfl ?_
     refine rd_l rfl rfl trivial (ss_loadR (f := ci) rfl rfl q12 rfl rfl) rfl ?_
     refine rd_l rfl rfl trivial (ss_loadR (f := ci) rfl rfl q13 rfl rfl) rfl ?_
     refine rd_s rfl rfl trivial (ss_lss rfl rfl) rfl ?_
     refine rd_nil ?_
     refine aw_cond rfl (fun q14 => ?_) (fun q14 => ?_)
     ·replace h := h.1 (of_decide_eq_true q14)
      refine aw_skip ?_
      refine aw_block ?_
      refine aw_gh (gh_to (n := 59) (σ' := [(800, ⟨ints p, []⟩)]) (env' := [(0, .ref 800), (3, .c (ci v3_1)), (4, .c (ci v4_2)), (59, .ref 800)]) rfl rfl ⟨rfl, rfl, rfl, rfl, trivial⟩) ?_
      refine aw_region ?_
      refine run_s (ss_move rfl) rfl ?_
      obtain ⟨q15, h⟩ := h
      refine run_s (ss_sub rfl rfl q15) rfl ?_
      refine run_s (ss_assign rfl) rfl ?_
      refine run_nil ?_
      exact ⟨v4_2 - 1, ghe_to (n := 59) rfl rfl ⟨rfl, rfl, rfl, rfl, trivial⟩, h.1, h.2⟩
     ·replace h := h.2 (of_decide_eq_false q14)
      refine aw_exit ?_
      refine aw_seq ?_
      refine aw_gh (gh_to (n := 59) (σ' := [(800, ⟨ints p, []⟩)]) (env' := [(0, .ref 800), (3, .c (ci v3_1)), (4, .c (ci v4_2)), (59, .ref 800)]) rfl rfl ⟨rfl, rfl, rfl, rfl, trivial⟩) ?_
      refine aw_regionD (kd := kdl [0, 0, 0, 0, 0, 0, 0, 1, 0, 0, 0, 1, 0, 3, 0, 3]) (ord := [0, 1, 2, 3, 4, 5, 6, 8, 9, 10, 7, 11, 12, 13, 14, 15]) [] mixed (by kernel_rfl) ?_
      refine rd_s rfl rfl trivial (ss_move rfl) rfl ?_
      refine rd_s rfl rfl trivial (ss_move rfl) rfl ?_
      refine rd_s rfl rfl trivial (ss_move rfl) rfl ?_
      refine rd_s rfl rfl trivial (ss_move rfl) rfl ?_
      refine rd_s rfl rfl trivial (ss_move rfl) rfl ?_
      refine rd_s rfl rfl trivial (ss_move rfl) rfl ?_
      obtain ⟨q16, h⟩ := h
      refine rd_s rfl rfl trivial (ss_idxR (f := ci) rfl rfl rfl q16) rfl ?_
      refine rd_s rfl rfl trivial (ss_move rfl) rfl ?_
      refine rd_s rfl rfl trivial (ss_move rfl) rfl ?_
      obtain ⟨q17, h⟩ := h
      refine rd_s rfl rfl trivial (ss_idxR (f := ci) rfl rfl rfl q17) rfl ?_
      refine rd_l rfl rfl trivial (ss_loadR (f := ci) rfl rfl q16 rfl rfl) rfl ?_
      refine rd_l rfl rfl trivial (ss_loadR (f := ci) rfl rfl q17 rfl rfl) rfl ?_
      obtain ⟨q18, h⟩ := h
      refine rd_s rfl rfl trivial (ss_idxR (f := ci) rfl rfl rfl q18) rfl ?_
      refine rd_f rfl rfl trivial (ws_storeE rfl rfl (map_lt q18) rfl rfl (map_se (f := ci)) rfl ⟨rfl, ?_⟩)
      obtain ⟨q19, h⟩ := h
      refine rd_s rfl rfl trivial (ss_idxR (f := ci) rfl rfl rfl q19) rfl ?_
      refine rd_f rfl rfl trivial (ws_storeE rfl rfl (map_lt q19) rfl rfl (map_se (f := ci)) rfl ⟨rfl, ?_⟩)
      refine rd_nil ?_
      refine aw_seq ?_
      refine aw_gh (gh_to (n := 59) (σ' := [(800, ⟨ints (se (se p v3_1 (el p v4_2)) v4_2 (el p v3_1)), []⟩)]) (env' := [(0, .ref 800), (3, .c (ci v3_1)), (59, .ref 800)]) rfl rfl ⟨rfl, rfl, rfl, trivial⟩) ?_
      refine aw_region ?_
      refine run_s (ss_move rfl) rfl ?_
      refine run_s (ss_move rfl) rfl ?_
      obtain ⟨q20, h⟩ := h
      refine run_s (ss_add rfl rfl q20) rfl ?_
      obtain ⟨q21, h⟩ := h
      obtain ⟨q22, h⟩ := h
      refine run_part (F := List.reverse) at_Reverse rfl rfl rfl q21 q22 rfl rfl rfl ?_
      refine run_nil ?_
      refine aw_seq ?_
      refine aw_gh (gh_to (n := 59) (σ' := [(800, ⟨ints ((se (se p v3_1 (el p v4_2)) v4_2 (el p v3_1)).take (v3_1 + 1).toNat ++ List.reverse ((se (se p v3_1 (el p v4_2)) v4_2 (el p v3_1)).drop (v3_1 + 1).toNat)), []⟩)]) (env' := [(59, .ref 800)]) rfl rfl ⟨rfl, trivial⟩) ?_
      refine aw_region ?_
      refine run_s (ss_assign rfl) rfl ?_
      refine run_nil ?_
      refine aw_ret ?_
      exact retAM_mk (retv1 rfl (rv_tmp rfl)) rfl rfl rfl ⟨_, _, h, rfl, rfl⟩
  ·replace h := h.2 (of_decide_eq_false q3)
   refine rd_no rfl rfl rfl q3 rfl ?_
   refine rd_no rfl rfl rfl q3 rfl ?_
   refine rd_no rfl rfl rfl q3 rfl ?_
   refine rd_no rfl rfl rfl q3 rfl ?_
   refine rd_no rfl rfl rfl q3 rfl ?_
   refine rd_no rfl rfl rfl q3 rfl ?_
   refine rd_no rfl rfl rfl q3 rfl ?_
   refine rd_no rfl rfl rfl q3 rfl ?_
   refine rd_no rfl rfl rfl q3 rfl ?_
   refine rd_no rfl rfl rfl q3 rfl ?_
   refine rd_s rfl rfl trivial (ss_pickF rfl q3 rfl) rfl ?_
   refine rd_nil ?_
   refine aw_cond rfl (fun q23 => ?_) (fun q23 => ?_)
   ·cases q23
   ·skip
    refine aw_exit ?_
    refine aw_seq ?_
    refine aw_seq ?_
    refine aw_gh (gh_to (n := 59) (σ' := [(800, ⟨ints p, []⟩)]) (env' := [(0, .ref 800), (3, .c (ci v3_1)), (59, .ref 800)]) rfl rfl ⟨rfl, rfl, rfl, trivial⟩) ?_
    refine aw_region ?_
    refine run_s (ss_move rfl) rfl ?_
    refine run_s (ss_lss rfl rfl) rfl ?_
    refine run_nil ?_
    refine aw_cond rfl (fun q24 => ?_) (fun q24 => ?_)
    ·replace h := h.1 (of_decide_eq_true q24)
     refine aw_seq ?_
     refine aw_gh (gh_to (n := 59) (σ' := [(800, ⟨ints p, []⟩)]) (env' := [(59, .ref 800)]) rfl rfl ⟨rfl, trivial⟩) ?_
     refine aw_region ?_
     refine run_s (ss_assign rfl) rfl ?_
     refine run_nil ?_
     refine aw_ret ?_
     exact retAM_mk (retv1 rfl (rv_tmp rfl)) rfl rfl rfl ⟨_, _, h, rfl, rfl⟩
    ·replace h := h.2 (of_decide_eq_false q24)
     refine aw_skip ?_
     refine aw_seq ?_
     refine aw_region ?_
     refine run_s (ss_move rfl) rfl ?_
     refine run_s (ss_lenR (f := ci) rfl rfl) rfl ?_
     obtain ⟨q25, h⟩ := h
     refine run_s (ss_sub rfl rfl q25) rfl ?_
     refine run_s (ss_assign rfl) rfl ?_
     refine run_nil ?_
     refine aw_seq ?_
     refine aw_block ?_
     obtain ⟨H3, m3, q26, h⟩ := h
     refine aw_loop1 (fun (v4_2 : Int) => ⟨[(800, ⟨ints p, []⟩)], [(0, .ref 800), (3, .c (ci v3_1)), (4, .c (ci v4_2)), (59, .ref 800)], 59⟩) H3 m3 ⟨(p.length : Int) - 1, ghe_to (n := 59) rfl rfl ⟨rfl, rfl, rfl, rfl, trivial⟩, q26⟩ ?_
     rintro v4_2 q26
     replace h := h v4_2 q26
     refine aw_seq ?_
     refine aw_seq ?_
     refine aw_gh (gh_to (n := 59) (σ' := [(800, ⟨ints p, []⟩)]) (env' := [(0, .ref 800), (3, .c (ci v3_1)), (4, .c (ci v4_2)), (59, .ref 800)]) rfl rfl ⟨rfl, rfl, rfl, rfl, trivial⟩) ?_
     refine aw_regionD (kd := kdl [0, 0, 0, 1, 0, 0, 0, 1, 0]) (ord := [0, 1, 2, 4, 5, 6, 3, 7, 8]) [] mixed (by kernel_rfl) ?_
     refine rd_s rfl rfl trivial (ss_move rfl) rfl ?_
     refine rd_s rfl rfl trivial (ss_move rfl) rfl ?_
     obtain ⟨q27, h⟩ := h
     refine rd_s rfl rfl trivial (ss_idxR (f := ci) rfl rfl rfl q27) rfl ?_
     refine rd_s rfl rfl trivial (ss_move rfl) rfl ?_
     refine rd_s rfl rfl trivial (ss_move rfl) rfl ?_
     obtain ⟨q28, h⟩ := h
     refine rd_s rfl rfl trivial (ss_idxR (f := ci) rfl rfl rfl q28) rfl ?_
     refine rd_l rfl rfl trivial (ss_loadR (f := ci) rfl rfl q27 rfl rfl) rfl ?_
     refine rd_l rfl rfl trivial (ss_loadR (f := ci) rfl rfl q28 rfl rfl) rfl ?_
     refine rd_s rfl rfl trivial (ss_lss rfl rfl) rfl ?_
     refine rd_nil ?_
     refine aw_cond rfl (fun q29 => ?_) (fun q29 => ?_)
     ·replace h := h.1 (of_decide_eq_true q29)
      refine aw_skip ?_
      refine aw_block ?_
      refine aw_gh (gh_to (n := 59) (σ' := [(800, ⟨ints p, []⟩)]) (env' := [(0, .ref 800), (3, .c (ci v3_1)), (4, .c (ci v4_2)), (59, .ref 800)]) rfl rfl ⟨rfl, rfl, rfl, rfl, trivial⟩) ?_
      refine aw_region ?_
      refine run_s (ss_move rfl) rfl ?_
      obtain ⟨q30, h⟩ := h
      refine run_s (ss_sub rfl rfl q30) rfl ?_
      refine run_s (ss_assign rfl) rfl ?_
      refine run_nil ?_
      exact ⟨v4_2 - 1, ghe_to (n := 59) rfl rfl ⟨rfl, rfl, rfl, rfl, trivial⟩, h.1, h.2⟩
     ·replace h := h.2 (of_decide_eq_false q29)
      refine aw_exit ?_
      refine aw_seq ?_
      refine aw_gh (gh_to (n := 59) (σ' := [(800, ⟨ints p, []⟩)]) (env' := [(0, .ref 800), (3, .c (ci v3_1)), (4, .c (ci v4_2)), (59, .ref 800)]) rfl rfl ⟨rfl, rfl, rfl, rfl, trivial⟩) ?_
      refine aw_regionD (kd := kdl [0, 0, 0, 0, 0, 0, 0, 1, 0, 0, 0, 1, 0, 3, 0, 3]) (ord := [0, 1, 2, 3, 4, 5, 6, 8, 9, 10, 7, 11, 12, 13, 14, 15]) [] mixed (by kernel_rfl) ?_
      refine rd_s rfl rfl trivial (ss_move rfl) rfl ?_
      refine rd_s rfl rfl trivial (ss_move rfl) rfl ?_
      refine rd_s rfl rfl trivial (ss_move rfl) rfl ?_
      refine rd_s rfl rfl trivial (ss_move rfl) rfl ?_
      refine rd_s rfl rfl trivial (ss_move rfl) rfl ?_
      refine rd_s rfl rfl trivial (ss_move rfl) rfl ?_
      obtain ⟨q31, h⟩ := h
      refine rd_s rfl rfl trivial (ss_idxR (f := ci) rfl rfl rfl q31) rfl ?_
      refine rd_s rfl rfl trivial (ss_move rfl) rfl ?_
      refine rd_s rfl rfl trivial (ss_move rfl) rfl ?_
      obtain ⟨q32, h⟩ := h
      refine rd_s rfl rfl trivial (ss_idxR (f := ci) rfl rfl rfl q32) rfl ?_
      refine rd_l rfl rfl trivial (ss_loadR (f := ci) rfl rfl q31 rfl rfl) rfl ?_
      refine rd_l rfl rfl trivial (ss_loadR (f := ci) rfl rfl q32 rfl rfl) rfl ?_
      obtain ⟨q33, h⟩ := h
      refine rd_s rfl rfl trivial (ss_idxR (f := ci) rfl rfl rfl q33) rfl ?_
      refine rd_f rfl rfl trivial (ws_storeE rfl rfl (map_lt q33) rfl rfl (map_se (f := ci)) rfl ⟨rfl, ?_⟩)
      obtain ⟨q34, h⟩ := h
      refine rd_s rfl rfl trivial (ss_idxR (f := ci) rfl rfl rfl q34) rfl ?_
      refine rd_f rfl rfl trivial (ws_storeE rfl rfl (map_lt q34) rfl rfl (map_se (f := ci)) rfl ⟨rfl, ?_⟩)
      refine rd_nil ?_
      refine aw_seq ?_
      refine aw_gh (gh_to (n := 59) (σ' := [(800, ⟨ints (se (se p v3_1 (el p v4_2)) v4_2 (el p v3_1)), []⟩)]) (env' := [(0, .ref 800), (3, .c (ci v3_1)), (59, .ref 800)]) rfl rfl ⟨rfl, rfl, rfl, trivial⟩) ?_
      refine aw_region ?_
      refine run_s (ss_move rfl) rfl ?_
      refine run_s (ss_move rfl) rfl ?_
      obtain ⟨q35, h⟩ := h
      refine run_s (ss_add rfl rfl q35) rfl ?_
      obtain ⟨q36, h⟩ := h
      obtain ⟨q37, h⟩ := h
      refine run_part (F := List.reverse) at_Reverse rfl rfl rfl q36 q37 rfl rfl rfl ?_
      refine run_nil ?_
      refine aw_seq ?_
      refine aw_gh (gh_to (n := 59) (σ' := [(800, ⟨ints ((se (se p v3_1 (el p v4_2)) v4_2 (el p v3_1)).take (v3_1 + 1).toNat ++ List.reverse ((se (se p v3_1 (el p v4_2)) v4_2 (el p v3_1)).drop (v3_1 + 1).toNat)), []⟩)]) (env' := [(59, .ref 800)]) rfl rfl ⟨rfl, trivial⟩) ?_
      refine aw_region ?_
      refine run_s (ss_assign rfl) rfl ?_
      refine run_nil ?_
      refine aw_ret ?_
      exact retAM_mk (retv1 rfl (rv_tmp rfl)) rfl rfl rfl ⟨_, _, h, rfl, rfl⟩

theorem c_impl_nextPermutation (p : List Int) (hp : isPerm p = true ∧ (p.length : Int) ≤ 12) : AM Try.prog 111 [.own (ints p)] (fun R_ O_ => ∃ y0 w0, ((y0 = true ∧ ∃ i_ k_, NxI p i_ k_ ∧ w0 = nxtL p i_ k_) ∨ (y0 = false ∧ w0 = p ∧ ∀ j_ : Int, -1 < j_ → j_ + 1 < (p.length : Int) → el p (j_ + 1) < el p j_)) ∧ R_ = cb y0 ∧ O_ = [.own (ints w0)]) :=
  w_impl_nextPermutation p (fun y0 w0 => (y0 = true ∧ ∃ i_ k_, NxI p i_ k_ ∧ w0 = nxtL p i_ k_) ∨ (y0 = false ∧ w0 = p ∧ ∀ j_ : Int, -1 < j_ → j_ + 1 < (p.length : Int) → el p (j_ + 1) < el p j_)) (p_impl_nextPermutation p hp)

/-- The iterator of impl.permutations yields the permutations in order. -/
theorem sq_permutations (n : Int) (hp : 0 ≤ n ∧ n ≤ 12) : SeqA Try.prog 110 [.ptr [ci n]] ((growL n []).map fun p_ => .lst (ints p_)) := by
  have hfirst := growL_first hp.1
  have hpos : 0 < (growL n []).length := (List.getElem?_eq_some_iff.1 hfirst).1
  have hat : ∀ k, k < (growL n []).length → (growL n [])[k]? = some ((growL n []).getD k []) := fun k hk => by
    rw [List.getD_eq_getElem?_getD, List.getElem?_eq_getElem hk]; rfl
  have hfz : ∀ l : List Int, frzL (ints l) = ints l := fun l => by
    induction l with
    | nil => rfl
    | cons x l ih => show frzL (ci x :: ints l) = _; simp only [frzL, ih]; rfl
  refine seq_loop (n := 12) (id := 5) (N := (growL n []).length)
    (fun l k => ⟨[(5, ⟨ints ((growL n []).getD k []), []⟩)], [(0, .c (.val (yv l))), (1, .c (.ptr [ci n])), (3, .ref 5)], 12⟩)
    (fun k => ints ((growL n []).getD k [])) Try.func110 rfl (by rfl) rfl (Nat.le_of_ble_eq_true rfl) rfl hpos (by simp) (fun _ _ => rfl) ⟨by decide, by decide, by decide⟩
    (fun _ _ => rfl) (fun _ _ => rfl) (fun _ _ => rfl) (fun _ _ => rfl) (fun _ _ _ => rfl) (fun k hk => ?_) (fun l => ?_) (fun l k hk => ?_) (fun l k hk => ?_)
  · rw [List.getElem?_map, hat k hk, hfz]; rfl
  · -- the first permutation
    refine aw_region ?_
    refine run_s (ss_load_ptr rfl rfl) rfl ?_
    refine run_w (ws_call (xs := [.tmp 4]) (ids := [5]) rfl rfl rfl rfl (c_impl_identity n ⟨hp.1, by omega⟩) rfl ?_)
    rintro _ rfl
    refine ⟨rfl, ?_⟩
    refine run_s (ss_assign rfl) rfl ?_
    refine run_nil ?_
    have e : (growL n []).getD 0 [] = unitI n := by rw [List.getD_eq_getElem?_getD, hfirst]; rfl
    refine ⟨[], ?_⟩
    rw [e]
    exact gh_to (n := 12) (σ' := [(5, ⟨ints (unitI n), []⟩)]) (env' := [(0, .c (.val (yv l))), (1, .c (.ptr [ci n])), (3, .ref 5)]) rfl rfl ⟨rfl, rfl, rfl, trivial⟩
  · obtain ⟨pl, pP⟩ := growL_perm hp.1 (List.mem_of_getElem? (hat k hk))
    have hk2 := hat k hk
    generalize hpe : (growL n []).getD k [] = p at *
    refine aw_cond rfl (fun _ => ?_) (fun q => by cases q)
    refine aw_skip ?_
    refine aw_block ?_
    refine aw_seq ?_
    refine aw_gh (gh_to (n := 12) (σ' := [(5, ⟨ints p, []⟩)]) (env' := [(0, .c (.val (yv l))), (1, .c (.ptr [ci n])), (3, .ref 5)]) rfl rfl ⟨rfl, rfl, rfl, trivial⟩) ?_
    refine aw_region ?_
    refine run_s (ss_move rfl) rfl ?_
    refine run_w (ws_callM (xs := [.tmp 9]) (cs := [.own (ints p)]) (ids := []) rfl (.inr ⟨rfl, rfl⟩) rfl rfl rfl (c_impl_nextPermutation p ⟨pP, by omega⟩) rfl rfl ?_ )
    rintro _ _ ⟨r0, o0, q, rfl, rfl⟩
    refine ⟨rfl, rfl, ?_⟩
    refine run_s (ss_not rfl) rfl ?_
    refine run_nil ?_
    rcases q with ⟨rfl, i, j, hx, rfl⟩ | ⟨rfl, rfl, hx⟩
    · refine aw_cond rfl (fun q => by cases q) (fun _ => ?_)
      refine aw_skip ?_
      have h1 := growL_next hp.1 hk2 hx
      refine ⟨(List.getElem?_eq_some_iff.1 h1).1, [], ?_⟩
      have e : (growL n []).getD (k + 1) [] = nxtL p i j := by rw [List.getD_eq_getElem?_getD, h1]; rfl
      show Gh [] _ ⟨[(5, ⟨ints ((growL n []).getD (k + 1) []), []⟩)], _, 12⟩
      rw [e]
      exact gh_to (n := 12) (σ' := [(5, ⟨ints (nxtL p i j), []⟩)]) (env' := [(0, .c (.val (yv l))), (1, .c (.ptr [ci n])), (3, .ref 5)]) rfl rfl ⟨rfl, rfl, rfl, trivial⟩
    · refine aw_cond rfl (fun _ => ?_) (fun q => by cases q)
      refine aw_ret ?_
      exact growL_last hp.1 hk2 hx
  · refine aw_cond rfl (fun q => by cases q) (fun _ => ?_)
    exact aw_exit rfl
theorem c_impl_permutations (n : Int) (_hp : 0 ≤ n ∧ n ≤ 12) : AF Try.prog 64 [ci n] (fun R_ => R_ = .clo 110 [.ptr [ci n]]) := by
  refine af_enter (n := 4) Try.func64 rfl (by rfl) rfl (Nat.le_of_ble_eq_true rfl) ?_
  refine aw_seq ?_
  refine aw_gh (gh_to (n := 4) (σ' := []) (env' := [(0, .c (ci n))]) rfl rfl ⟨rfl, trivial⟩) ?_
  refine aw_region ?_
  refine run_w (ws_boxR rfl (.inr rfl) rfl ⟨rfl, ?_⟩)
  refine run_s (ss_assign rfl) rfl ?_
  refine run_nil ?_
  refine aw_seq ?_
  refine aw_region ?_
  refine run_s (ss_makeFunc (os := [.tmp 1]) rfl) rfl ?_
  refine run_s (ss_assign rfl) rfl ?_
  refine run_nil ?_
  refine aw_ret ?_
  exact retAF_mk (retv1 rfl (rv_tmp rfl)) rfl rfl rfl



set_option maxRecDepth 100000 in
set_option maxHeartbeats 4000000 in
theorem w_impl_cloneTable (t : List (List Int)) (Q : List (List Int) → Prop) (h : wp_impl_cloneTable t Q) : AF Try.prog 83 [.lst (rows t)] (fun R_ => ∃ y0, Q y0 ∧ R_ = .own (orows y0)) := by
  refine AF.ofWQ (af_enter (n := 23) Try.func83 rfl (by rfl) rfl (Nat.le_of_ble_eq_true rfl) ?_)
  unfold wp_impl_cloneTable at h
  refine aw_seq ?_
  refine aw_gh (gh_to (n := 23) (σ' := []) (env' := [(0, .c (.lst (rows t)))]) rfl rfl ⟨rfl, trivial⟩) ?_
  refine aw_region ?_
  refine run_s (ss_assign rfl) rfl ?_
  refine run_nil ?_
  refine aw_seq ?_
  refine aw_region ?_
  refine run_s (ss_move rfl) rfl ?_
  refine run_s (ss_lenL (f := (fun r => C.lst (ints r))) rfl) rfl ?_
  obtain ⟨q1, h⟩ := h
  refine run_w (ws_makeSlice (id := 8) rfl rfl q1 (Nat.le_of_ble_eq_true rfl) rfl ⟨rfl, ?_⟩)
  refine run_gh (gh_weakR (id := 8) (f := (fun r => C.own (ints r))) rfl cle_nilO) ?_
  refine run_s (ss_assign rfl) rfl ?_
  refine run_nil ?_
  refine aw_seq ?_
  refine aw_seq ?_
  refine aw_region ?_
  refine run_s (ss_move rfl) rfl ?_
  refine run_s (ss_lenL (f := (fun r => C.lst (ints r))) rfl) rfl ?_
  refine run_s (ss_move rfl) rfl ?_
  refine run_nil ?_
  refine aw_block ?_
  obtain ⟨H1, m1, q2, h⟩ := h
  refine aw_loop2 (fun (v11_1 : Int) (o8_1 : List (List Int)) => ⟨[(8, ⟨orows o8_1, []⟩)], [(3, .ref 8), (9, .c (.lst (rows t))), (10, .c (ci (t.length : Int))), (11, .c (ci v11_1))], 23⟩) H1 m1 ⟨0, List.replicate (t.length : Int).toNat ([] : List Int), ghe_to (n := 23) rfl rfl ⟨rfl, rfl, rfl, rfl, trivial⟩, q2⟩ ?_
  rintro v11_1 o8_1 q2
  replace h := h v11_1 o8_1 q2
  refine aw_seq ?_
  refine aw_region ?_
  refine run_s (ss_lss rfl rfl) rfl ?_
  refine run_nil ?_
  refine aw_seq ?_
  refine aw_cond rfl (fun q3 => ?_) (fun q3 => ?_)
  ·replace h := h.1 (of_decide_eq_true q3)
   refine aw_skip ?_
   refine aw_seq ?_
   refine aw_block ?_
   refine aw_seq ?_
   refine aw_region ?_
   refine run_s (ss_move rfl) rfl ?_
   obtain ⟨q4, h⟩ := h
   refine run_s (ss_idxL rfl rfl q4) rfl ?_
   refine run_s (ss_loadL (f := (fun r => C.lst (ints r))) rfl q4) rfl ?_
   refine run_s (ss_assign rfl) rfl ?_
   refine run_s (ss_assign rfl) rfl ?_
   refine run_nil ?_
   refine aw_region ?_
   refine run_s (ss_move rfl) rfl ?_
   refine run_s (ss_move rfl) rfl ?_
   refine run_s (ss_move rfl) rfl ?_
   obtain ⟨q5, h⟩ := h
   refine run_w (ws_call (xs := [.tmp 18]) (ids := [19]) rfl rfl rfl rfl (c_k_Clone (el t v11_1) q5) rfl ?_ )
   rintro _ rfl
   refine ⟨rfl, ?_⟩
   obtain ⟨q7, h⟩ := h
   refine run_s (ss_idxR (f := (fun r => C.own (ints r))) rfl rfl rfl q7) rfl ?_
   refine run_w (ws_storeV rfl rfl (map_lt q7) rfl rfl rfl rfl ⟨rfl, ?_⟩)
   refine run_nil ?_
   refine aw_gh (gh_to (n := 23) (σ' := [(19, ⟨ints (el t v11_1), []⟩), (8, ⟨(orows o8_1).set v11_1.toNat .hole, [(v11_1.toNat, .ref 19)]⟩)]) (env' := [(3, .ref 8), (9, .c (.lst (rows t))), (10, .c (ci (t.length : Int))), (11, .c (ci v11_1))]) rfl rfl ⟨rfl, rfl, rfl, rfl, trivial⟩) ?_
   refine aw_region ?_
   obtain ⟨q8, h⟩ := h
   refine run_s (ss_add rfl rfl q8) rfl ?_
   refine run_s (ss_move rfl) rfl ?_
   refine run_nil ?_
   exact ⟨v11_1 + 1, se o8_1 v11_1 (el t v11_1), ghe_step (gh_fillA (id := 8) (id2 := 19) (f := (fun r => C.own (ints r))) (v := (el t v11_1)) rfl lk_self rfl q7 rfl rfl kr_self) (ghe_to (n := 23) rfl rfl ⟨rfl, rfl, rfl, rfl, trivial⟩), h.1, h.2⟩
  ·replace h := h.2 (of_decide_eq_false q3)
   refine aw_exit ?_
   refine aw_seq ?_
   refine aw_region ?_
   refine run_s (ss_move rfl) rfl ?_
   refine run_s (ss_assign rfl) rfl ?_
   refine run_nil ?_
   refine aw_ret ?_
   exact retAF_mk (retv1 rfl (rv_tmp rfl)) rfl rfl ⟨_, (cle_refl _), _, h, rfl⟩

theorem c_impl_cloneTable (t : List (List Int)) (hp : small2 t) : AF Try.prog 83 [.lst (rows t)] (fun R_ => R_ = .own (orows t)) :=
  (w_impl_cloneTable t (fun y0 => y0 = t) (p_impl_cloneTable t hp)).mono (by rintro r ⟨_, rfl, rfl⟩; rfl)

set_option maxRecDepth 100000 in
set_option maxHeartbeats 4000000 in
theorem w_impl_renamed_1 (u : Int) (v : Int) (p : List Int) (t : List (List Int)) (back : List Int) (Q : Int → Prop) (h : wp_impl_renamed_1 u v p t back Q) : AF Try.prog 127 [ci u, ci v, .ptr [.lst (ints p)], .ptr [.lst (rows t)], .ptr [.lst (ints back)]] (fun R_ => ∃ y0, Q y0 ∧ R_ = ci y0) := by
  refine AF.ofWQ (af_enter (n := 24) Try.func127 rfl (by rfl) rfl (Nat.le_of_ble_eq_true rfl) ?_)
  unfold wp_impl_renamed_1 at h
  refine aw_seq ?_
  refine aw_gh (gh_to (n := 24) (σ' := []) (env' := [(0, .c (ci u)), (1, .c (ci v)), (2, .c (.ptr [.lst (ints p)])), (3, .c (.ptr [.lst (rows t)])), (4, .c (.ptr [.lst (ints back)]))]) rfl rfl ⟨rfl, rfl, rfl, rfl, rfl, trivial⟩) ?_
  refine aw_region ?_
  refine run_s (ss_assign rfl) rfl ?_
  refine run_nil ?_
  refine aw_seq ?_
  refine aw_gh (gh_to (n := 24) (σ' := []) (env' := [(0, .c (ci u)), (1, .c (ci v)), (2, .c (.ptr [.lst (ints p)])), (3, .c (.ptr [.lst (rows t)])), (4, .c (.ptr [.lst (ints back)])), (7, .c (ci 0))]) rfl rfl ⟨rfl, rfl, rfl, rfl, rfl, rfl, trivial⟩) ?_
  refine aw_regionD (kd := kdl [1, 1, 1, 0, 0, 1, 0, 1, 1, 0, 0, 1, 0, 1, 0, 1, 0]) (ord := [3, 9, 0, 1, 2, 4, 5, 6, 7, 8, 10, 11, 12, 13, 14, 15, 16]) [] mixed (by kernel_rfl) ?_
  refine rd_s rfl rfl trivial (ss_move rfl) rfl ?_
  refine rd_s rfl rfl trivial (ss_move rfl) rfl ?_
  refine rd_l rfl rfl trivial (ss_load_ptr rfl rfl) rfl ?_
  refine rd_l rfl rfl trivial (ss_load_ptr rfl rfl) rfl ?_
  refine rd_l rfl rfl trivial (ss_load_ptr rfl rfl) rfl ?_
  obtain ⟨q1, h⟩ := h
  refine rd_s rfl rfl trivial (ss_idxL rfl rfl q1) rfl ?_
  refine rd_l rfl rfl trivial (ss_loadL (f := ci) rfl q1) rfl ?_
  obtain ⟨q2, h⟩ := h
  refine rd_s rfl rfl trivial (ss_idxL rfl rfl q2) rfl ?_
  refine rd_l rfl rfl trivial (ss_loadL (f := (fun r => C.lst (ints r))) rfl q2) rfl ?_
  refine rd_l rfl rfl trivial (ss_load_ptr rfl rfl) rfl ?_
  obtain ⟨q3, h⟩ := h
  refine rd_s rfl rfl trivial (ss_idxL rfl rfl q3) rfl ?_
  refine rd_l rfl rfl trivial (ss_loadL (f := ci) rfl q3) rfl ?_
  obtain ⟨q4, h⟩ := h
  refine rd_s rfl rfl trivial (ss_idxL rfl rfl q4) rfl ?_
  refine rd_l rfl rfl trivial (ss_loadL (f := ci) rfl q4) rfl ?_
  obtain ⟨q5, h⟩ := h
  refine rd_s rfl rfl trivial (ss_idxL rfl rfl q5) rfl ?_
  refine rd_l rfl rfl trivial (ss_loadL (f := ci) rfl q5) rfl ?_
  refine rd_s rfl rfl trivial (ss_assign rfl) rfl ?_
  refine rd_nil ?_
  refine aw_ret ?_
  exact retAF_mk (retv1 rfl (rv_tmp rfl)) rfl rfl ⟨_, (cle_refl _), _, h, rfl⟩

theorem c_impl_renamed_1 (u : Int) (v : Int) (p : List Int) (t : List (List Int)) (back : List Int) (hp : isTab t = true ∧ p.length = t.length ∧ back.length = t.length ∧ isPerm p = true ∧ isPerm back = true ∧ (0 ≤ u ∧ u < (t.length : Int)) ∧ 0 ≤ v ∧ v < (t.length : Int)) : AF Try.prog 127 [ci u, ci v, .ptr [.lst (ints p)], .ptr [.lst (rows t)], .ptr [.lst (ints back)]] (fun R_ => R_ = ci (el p (el (el t (el back u)) (el back v)))) :=
  (w_impl_renamed_1 u v p t back (fun y0 => y0 = el p (el (el t (el back u)) (el back v))) (p_impl_renamed_1 u v p t back hp)).mono (by rintro r ⟨_, rfl, rfl⟩; rfl)

set_option maxRecDepth 100000 in
set_option maxHeartbeats 4000000 in
theorem w_impl_renamed (t : List (List Int)) (p : List Int) (Q : List (List Int) → Prop) (h : wp_impl_renamed t p Q) : AF Try.prog 84 [.lst (rows t), .lst (ints p)] (fun R_ => ∃ y0, Q y0 ∧ R_ = .own (orows y0)) := by
  refine AF.ofWQ (af_enter (n := 12) Try.func84 rfl (by rfl) rfl (Nat.le_of_ble_eq_true rfl) ?_)
  unfold wp_impl_renamed at h
  refine aw_seq ?_
  refine aw_gh (gh_to (n := 12) (σ' := []) (env' := [(0, .c (.lst (rows t))), (1, .c (.lst (ints p)))]) rfl rfl ⟨rfl, rfl, trivial⟩) ?_
  refine aw_region ?_
  refine run_w (ws_boxR rfl (.inr rfl) rfl ⟨rfl, ?_⟩)
  refine run_w (ws_boxR rfl (.inr rfl) rfl ⟨rfl, ?_⟩)
  refine run_s (ss_assign rfl) rfl ?_
  refine run_nil ?_
  refine aw_seq ?_
  refine aw_region ?_
  refine run_s (ss_load_ptr rfl rfl) rfl ?_
  obtain ⟨q1, h⟩ := h
  refine run_w (ws_call (xs := [.tmp 6]) (ids := [7]) rfl rfl rfl rfl (c_impl_inverse p q1) rfl ?_ )
  rintro _ rfl
  refine ⟨rfl, ?_⟩
  refine run_w (ws_alloc (id := 5) rfl (Nat.le_of_ble_eq_true rfl) ⟨rfl, ?_⟩)
  refine run_w (ws_store rfl rfl (Nat.le_of_ble_eq_true rfl) rfl rfl ⟨rfl, ?_⟩)
  refine run_nil ?_
  refine aw_seq ?_
  refine aw_region ?_
  refine run_s (ss_load_ptr rfl rfl) rfl ?_
  refine run_s (ss_lenL (f := (fun r => C.lst (ints r))) rfl) rfl ?_
  refine run_gh (gh_frzE (id := 7) ci rfl (fun _ => rfl)) ?_
  refine run_gh (gh_fillc (id := 5) (j := 0) rfl rfl (Nat.le_of_ble_eq_true rfl)) ?_
  refine run_gh (gh_freeze (id := 5) rfl rfl) ?_
  refine run_gh (gh_to (n := 12) (σ' := []) (env' := [(0, .c (.lst (rows t))), (1, .c (.lst (ints p))), (2, .c (.ptr [.lst (rows t)])), (3, .c (.ptr [.lst (ints p)])), (4, .c (cnil)), (5, .c (.ptr [.lst (ints (backI p))])), (6, .c (.lst (ints p))), (7, .c (.lst (ints (backI p)))), (8, .c (.lst (rows t))), (9, .c (ci (t.length : Int)))]) rfl rfl ⟨rfl, rfl, rfl, rfl, rfl, rfl, rfl, rfl, rfl, rfl, trivial⟩) ?_
  refine run_s (ss_makeFunc (os := [.tmp 3, .tmp 2, .tmp 5]) rfl) rfl ?_
  obtain ⟨q3, h⟩ := h
  refine run_w (ws_call (xs := [.tmp 9, .tmp 10]) (ids := [11]) rfl rfl rfl rfl (c_impl_tableBy (t.length : Int) 127 [.ptr [.lst (ints p)], .ptr [.lst (rows t)], .ptr [.lst (ints (backI p))]] (fun z0 z1 => el p (el (el t (el (backI p) z0)) (el (backI p) z1))) (fun z0 z1 => isTab t = true ∧ p.length = t.length ∧ (backI p).length = t.length ∧ isPerm p = true ∧ isPerm (backI p) = true ∧ (0 ≤ z0 ∧ z0 < (t.length : Int)) ∧ 0 ≤ z1 ∧ z1 < (t.length : Int)) (fun z0 z1 hD => c_impl_renamed_1 z0 z1 p t (backI p) hD) q3) rfl ?_ )
  rintro _ rfl
  refine ⟨rfl, ?_⟩
  refine run_s (ss_assign rfl) rfl ?_
  refine run_nil ?_
  refine aw_ret ?_
  exact retAF_mk (retv1 rfl (rv_tmp rfl)) rfl rfl ⟨_, (cle_refl _), _, h, rfl⟩

theorem c_impl_renamed (t : List (List Int)) (p : List Int) (hp : isTab t = true ∧ (p.length : Int) = (t.length : Int) ∧ isPerm p = true) : AF Try.prog 84 [.lst (rows t), .lst (ints p)] (fun R_ => R_ = .own (orows (renT t p))) :=
  (w_impl_renamed t p (fun y0 => y0 = renT t p) (p_impl_renamed t p hp)).mono (by rintro r ⟨_, rfl, rfl⟩; rfl)

set_option maxRecDepth 100000 in
set_option maxHeartbeats 4000000 in
theorem w_impl_LeastTable (t : List (List Int)) (Q : List (List Int) → Int → Prop) (h : wp_impl_LeastTable t Q) : AF Try.prog 46 [.lst (rows t)] (fun R_ => ∃ y0 y1, Q y0 y1 ∧ R_ = .tup [.own (orows y0), ci y1]) := by
  refine AF.ofWQ (af_enterK (n := 28) Try.func46 rfl (by rfl) rfl (Nat.le_of_ble_eq_true rfl) ?_)
  unfold wp_impl_LeastTable at h
  refine ar_seq ?_
  refine aw_gh (gh_to (n := 28) (σ' := []) (env' := [(0, .c (.lst (rows t)))]) rfl rfl ⟨rfl, trivial⟩) ?_
  refine aw_region ?_
  refine run_w (ws_boxR rfl (.inr rfl) rfl ⟨rfl, ?_⟩)
  refine run_s (ss_assign rfl) rfl ?_
  refine run_s (ss_assign rfl) rfl ?_
  refine run_nil ?_
  refine ar_seq ?_
  refine aw_seq ?_
  refine aw_region ?_
  refine run_s (ss_load_ptr rfl rfl) rfl ?_
  obtain ⟨q1, h⟩ := h
  refine run_w (ws_call (xs := [.tmp 7]) (ids := []) rfl rfl rfl rfl (c_impl_IsTable t q1) rfl ?_ )
  rintro _ rfl
  refine ⟨rfl, ?_⟩
  refine run_s (ss_not rfl) rfl ?_
  refine run_nil ?_
  refine aw_cond rfl (fun q3 => ?_) (fun q3 => ?_)
  ·replace h := h.1 ((bnot_t q3))
   refine aw_seq ?_
   refine aw_gh (gh_to (n := 28) (σ' := []) (env' := [(2, .c (cnil)), (3, .c (ci 0))]) rfl rfl ⟨rfl, rfl, trivial⟩) ?_
   refine aw_region ?_
   refine run_s (ss_assign rfl) rfl ?_
   refine run_s (ss_assign rfl) rfl ?_
   refine run_nil ?_
   refine aw_ret ?_
   exact retAF_mk (retv2 rfl (rv_tmp rfl) (rv_tmp rfl)) rfl rfl ⟨_, (cle_tup (cleL_cons cle_nilO (cleL_cons (cle_refl _) cleL_nil))), _, _, h, rfl⟩
  ·replace h := h.2 ((bnot_f q3))
   refine aw_skip ?_
   refine ar_seq ?_
   refine aw_seq ?_
   refine aw_region ?_
   refine run_s (ss_load_ptr rfl rfl) rfl ?_
   refine run_s (ss_lenL (f := (fun r => C.lst (ints r))) rfl) rfl ?_
   refine run_s (ss_gtr rfl rfl) rfl ?_
   refine run_nil ?_
   refine aw_cond rfl (fun q4 => ?_) (fun q4 => ?_)
   ·replace h := h.1 (of_decide_eq_true q4)
    refine aw_seq ?_
    refine aw_gh (gh_to (n := 28) (σ' := []) (env' := [(2, .c (cnil)), (3, .c (ci 0))]) rfl rfl ⟨rfl, rfl, trivial⟩) ?_
    refine aw_region ?_
    refine run_s (ss_assign rfl) rfl ?_
    refine run_s (ss_assign rfl) rfl ?_
    refine run_nil ?_
    refine aw_ret ?_
    exact retAF_mk (retv2 rfl (rv_tmp rfl) (rv_tmp rfl)) rfl rfl ⟨_, (cle_tup (cleL_cons cle_nilO (cleL_cons (cle_refl _) cleL_nil))), _, _, h, rfl⟩
   ·replace h := h.2 (of_decide_eq_false q4)
    refine aw_skip ?_
    refine ar_seq ?_
    refine aw_gh (gh_to (n := 28) (σ' := []) (env' := [(1, .c (.ptr [.lst (rows t)])), (2, .c (cnil)), (3, .c (ci 0))]) rfl rfl ⟨rfl, rfl, rfl, trivial⟩) ?_
    refine aw_region ?_
    refine run_s (ss_load_ptr rfl rfl) rfl ?_
    obtain ⟨q5, h⟩ := h
    refine run_w (ws_call (xs := [.tmp 13]) (ids := [14]) rfl rfl rfl rfl (c_impl_cloneTable t q5) rfl ?_ )
    rintro _ rfl
    refine ⟨rfl, ?_⟩
    refine run_w (ws_alloc (id := 4) rfl (Nat.le_of_ble_eq_true rfl) ⟨rfl, ?_⟩)
    refine run_w (ws_store rfl rfl (Nat.le_of_ble_eq_true rfl) rfl rfl ⟨rfl, ?_⟩)
    refine run_nil ?_
    refine ar_seqK ?_
    refine ar_seq ?_
    refine aw_region ?_
    refine run_s (ss_load_ptr rfl rfl) rfl ?_
    refine run_s (ss_lenL (f := (fun r => C.lst (ints r))) rfl) rfl ?_
    obtain ⟨q7, h⟩ := h
    refine run_w (ws_call (xs := [.tmp 16]) (ids := []) rfl rfl rfl rfl (c_impl_permutations (t.length : Int) q7) rfl ?_ )
    rintro _ rfl
    refine ⟨rfl, ?_⟩
    refine run_nil ?_
    refine ar_block ?_
    refine ar_gh (gh_fill (id := 4) (id2 := 14) (j := 0) rfl rfl (Nat.le_of_ble_eq_true rfl) rfl rfl rfl) ?_
    refine ar_gh (gh_to (n := 28) (σ' := [(4, ⟨[.own (orows t)], []⟩)]) (env' := [(1, .c (.ptr [.lst (rows t)])), (2, .c (cnil)), (3, .c (ci 0)), (4, .cell 4 0), (17, .c (.clo 110 [.ptr [ci (t.length : Int)]]))]) rfl rfl ⟨rfl, rfl, rfl, rfl, rfl, trivial⟩) ?_
    obtain ⟨H1, q9, h⟩ := h
    refine ar_rangeE (en := (fun p_ => .lst (ints p_))) 5000 [(5001, .c (.ptr [.lst (rows t)])), (5002, .c (cnil)), (5003, .c (ci 0)), (5004, .cell 4 0), (5017, .c (.clo 110 [.ptr [ci (t.length : Int)]]))] (fun (f4_0_1 : List (List Int)) => [(4, ⟨[.own (orows f4_0_1)], []⟩)]) H1 (sq_permutations (t.length : Int) q7) rfl rfl rfl rfl rfl ⟨t, ghe_to (n := 28) rfl rfl ⟨rfl, rfl, rfl, rfl, rfl, trivial⟩, (by simp [σok, slfL, C.slf, slf_ints, slf_orows, slf_ci, ci, cb]), q9⟩ (fun k1 f4_0_1 e1 q10 q11 => ?_) (fun f4_0_1 q11 => ?_)
    ·replace h := h.1 k1 f4_0_1 e1 q10 q11
     refine aw_gh (gh_to (n := 28) (σ' := [(4, ⟨[.own (orows f4_0_1)], []⟩)]) (env' := [(1, .c (.ptr [.lst (rows t)])), (2, .c (cnil)), (3, .c (ci 0)), (4, .cell 4 0), (17, .c (.clo 110 [.ptr [ci (t.length : Int)]])), (18, .c (.lst (ints e1))), (5001, .c (.ptr [.lst (rows t)])), (5002, .c (cnil)), (5003, .c (ci 0)), (5004, .cell 4 0), (5017, .c (.clo 110 [.ptr [ci (t.length : Int)]]))]) rfl rfl ⟨rfl, rfl, rfl, rfl, rfl, rfl, rfl, rfl, rfl, rfl, rfl, trivial⟩) ?_
     refine aw_gh (gh_to (n := 28) (σ' := [(4, ⟨[.own (orows f4_0_1)], []⟩)]) (env' := [(1, .c (.ptr [.lst (rows t)])), (4, .cell 4 0), (18, .c (.lst (ints e1))), (5001, .c (.ptr [.lst (rows t)])), (5002, .c (cnil)), (5003, .c (ci 0)), (5004, .cell 4 0), (5017, .c (.clo 110 [.ptr [ci (t.length : Int)]]))]) rfl rfl ⟨rfl, rfl, rfl, rfl, rfl, rfl, rfl, rfl, trivial⟩) ?_
     refine aw_region ?_
     refine run_s (ss_assign rfl) rfl ?_
     refine run_nil ?_
     refine aw_block ?_
     refine aw_seq ?_
     refine aw_region ?_
     refine run_s (ss_load_ptr rfl rfl) rfl ?_
     refine run_s (ss_move rfl) rfl ?_
     obtain ⟨q12, h⟩ := h
     refine run_w (ws_call (xs := [.tmp 19, .tmp 20]) (ids := [21]) rfl rfl rfl rfl (c_impl_renamed t e1 q12) rfl ?_ )
     rintro _ rfl
     refine ⟨rfl, ?_⟩
     refine run_s (ss_assign rfl) rfl ?_
     refine run_nil ?_
     refine aw_seq ?_
     refine aw_gh (gh_to (n := 28) (σ' := [(21, ⟨orows (renT t e1), []⟩), (4, ⟨[.own (orows f4_0_1)], []⟩)]) (env' := [(4, .cell 4 0), (6, .ref 21), (5001, .c (.ptr [.lst (rows t)])), (5002, .c (cnil)), (5003, .c (ci 0)), (5004, .cell 4 0), (5017, .c (.clo 110 [.ptr [ci (t.length : Int)]]))]) rfl rfl ⟨rfl, rfl, rfl, rfl, rfl, rfl, rfl, trivial⟩) ?_
     refine aw_region ?_
     refine run_s (ss_move rfl) rfl ?_
     refine run_gh (gh_open 1001 (id := 4) (j := 0) rfl rfl rfl) ?_
     refine run_s (ss_loadH rfl rfl rfl rfl) rfl ?_
     obtain ⟨q14, h⟩ := h
     refine run_w (ws_callR (xs := [.tmp 22, .tmp 23]) (cs := [.own (orows (renT t e1)), .own (orows f4_0_1)]) (ids := []) rfl (.inr ⟨rfl, rfl⟩) rfl rfl (fz_cons (fz_own (fz_map (fun _ => (fz_own (fz_map (fun _ => rfl) _))) _)) (fz_cons (fz_own (fz_map (fun _ => (fz_own (fz_map (fun _ => rfl) _))) _)) fz_nil)) (c_impl_compareTables (renT t e1) f4_0_1 q14) rfl ?_ )
     rintro _ rfl
     refine ⟨rfl, rfl, ?_⟩
     refine run_s (ss_lss rfl rfl) rfl ?_
     refine run_nil ?_
     refine aw_cond rfl (fun q16 => ?_) (fun q16 => ?_)
     ·replace h := h.1 (of_decide_eq_true q16)
      refine aw_gh (gh_to (n := 28) (σ' := [(1001, ⟨orows f4_0_1, []⟩), (21, ⟨orows (renT t e1), []⟩), (4, ⟨[.hole], [(0, .ref 1001)]⟩)]) (env' := [(4, .cell 4 0), (6, .ref 21), (5001, .c (.ptr [.lst (rows t)])), (5002, .c (cnil)), (5003, .c (ci 0)), (5004, .cell 4 0), (5017, .c (.clo 110 [.ptr [ci (t.length : Int)]]))]) rfl rfl ⟨rfl, rfl, rfl, rfl, rfl, rfl, rfl, trivial⟩) ?_
      refine aw_region ?_
      refine run_s (ss_move rfl) rfl ?_
      refine run_w (ws_store rfl rfl (Nat.le_of_ble_eq_true rfl) rfl rfl ⟨rfl, ?_⟩)
      refine run_nil ?_
      exact ⟨renT t e1, ghe_step (gh_fill (id := 4) (id2 := 21) (j := 0) rfl rfl (Nat.le_of_ble_eq_true rfl) rfl rfl rfl) (ghe_step (gh_frzE (id := 1001) (fun r => C.lst (ints r)) rfl (fun _ => (fz_own (fz_map (fun _ => rfl) _)))) (ghe_to (n := 28) rfl rfl ⟨rfl, rfl, rfl, rfl, rfl, trivial⟩)), (by simp [σok, slfL, C.slf, slf_ints, slf_orows, slf_ci, ci, cb]), h⟩
     ·replace h := h.2 (of_decide_eq_false q16)
      refine aw_skip ?_
      exact ⟨f4_0_1, ghe_step (gh_fill (id := 4) (id2 := 1001) (j := 0) rfl rfl (Nat.le_of_ble_eq_true rfl) rfl rfl rfl) (ghe_step (gh_frzE (id := 21) (fun r => C.lst (ints r)) rfl (fun _ => (fz_own (fz_map (fun _ => rfl) _)))) (ghe_to (n := 28) rfl rfl ⟨rfl, rfl, rfl, rfl, rfl, trivial⟩)), (by simp [σok, slfL, C.slf, slf_ints, slf_orows, slf_ci, ci, cb]), h⟩
    ·replace h := h.2 f4_0_1 q11
     refine ar_aw ?_
     refine aw_seq ?_
     refine aw_gh (gh_to (n := 28) (σ' := [(4, ⟨[.own (orows f4_0_1)], []⟩)]) (env' := [(2, .c (cnil)), (3, .c (ci 0)), (4, .cell 4 0)]) rfl rfl ⟨rfl, rfl, rfl, trivial⟩) ?_
     refine aw_region ?_
     refine run_gh (gh_open 1002 (id := 4) (j := 0) rfl rfl rfl) ?_
     refine run_s (ss_loadH rfl rfl rfl rfl) rfl ?_
     refine run_s (ss_assign rfl) rfl ?_
     refine run_s (ss_assign rfl) rfl ?_
     refine run_nil ?_
     refine aw_ret ?_
     exact retAF_mk (retv2 rfl (rv_tmp rfl) (rv_tmp rfl)) rfl rfl ⟨_, (cle_refl _), _, _, h, rfl⟩

theorem c_impl_LeastTable (t : List (List Int)) (hp : small2 t) : AF Try.prog 46 [.lst (rows t)] (fun R_ => R_ = .tup [.own (orows (LeaT t)), ci (LeaE t)]) :=
  (w_impl_LeastTable t (fun y0 y1 => y0 = LeaT t ∧ y1 = LeaE t) (p_impl_LeastTable t hp)).mono (by rintro r ⟨_, _, ⟨rfl, rfl⟩, rfl⟩; rfl)

def wp_spec_l03Before (a : List (List (List Int))) (b : List (List (List Int))) (Q : Bool → Prop) : Prop :=
 ∃ (H1 : Int → Prop) (m1 : Int → Nat),
 H1 0 ∧
 ∀ (v5_1 : Int), H1 v5_1 →
 ( ((v5_1 < (a.length : Int) →
 ∃ (H2 : Int → Prop) (m2 : Int → Nat),
 H2 0 ∧
 ∀ (v6_2 : Int), H2 v6_2 →
 ( (0 ≤ v5_1 ∧ v5_1 < (a.length : Int)) ∧
 ((v6_2 < ((el a v5_1).length : Int) →
 (0 ≤ v5_1 ∧ v5_1 < (a.length : Int)) ∧
 (0 ≤ v5_1 ∧ v5_1 < (b.length : Int)) ∧
 (0 ≤ v6_2 ∧ v6_2 < ((el a v5_1).length : Int)) ∧
 (0 ≤ v6_2 ∧ v6_2 < ((el b v5_1).length : Int)) ∧
 (small (el (el a v5_1) v6_2) ∧ small (el (el b v5_1) v6_2)) ∧
 ((¬ ((el (el a v5_1) v6_2) = (el (el b v5_1) v6_2)) →
 (0 ≤ v5_1 ∧ v5_1 < (a.length : Int)) ∧
 (0 ≤ v5_1 ∧ v5_1 < (b.length : Int)) ∧
 (0 ≤ v6_2 ∧ v6_2 < ((el a v5_1).length : Int)) ∧
 (0 ≤ v6_2 ∧ v6_2 < ((el b v5_1).length : Int)) ∧
 (small (el (el a v5_1) v6_2) ∧ small (el (el b v5_1) v6_2)) ∧
 Q (decide (cmpG cmp1 (el (el a v5_1) v6_2) (el (el b v5_1) v6_2) < 0))) ∧
 ((el (el a v5_1) v6_2) = (el (el b v5_1) v6_2) →
 (InI (v6_2 + 1)) ∧
 (H2 (v6_2 + 1) ∧ m2 (v6_2 + 1) < m2 v6_2)))) ∧
 (¬ (v6_2 < ((el a v5_1).length : Int)) →
 (InI (v5_1 + 1)) ∧
 (H1 (v5_1 + 1) ∧ m1 (v5_1 + 1) < m1 v5_1))))) ∧
 (¬ (v5_1 < (a.length : Int)) →
 Q false)))

def wp_spec_l03Least (a : List (List (List Int))) (zero : Bool) (Q : List (List (List Int)) → Prop) : Prop :=
 ((0 : Int) ≤ 0 ∧ 0 < (a.length : Int)) ∧
 (0 ≤ ((el a 0).length : Int) ∧ ((el a 0).length : Int) ≤ 8) ∧
 ∃ (H1 : List (List (List Int)) → Int → Prop) (m1 : List (List (List Int)) → Int → Nat),
 H1 a 0 ∧
 ∀ (v6_1 : List (List (List Int))) (v7_1 : Int), H1 v6_1 v7_1 →
 ( ((v7_1 < ((growL ((el a 0).length : Int) []).length : Int) →
 ((zero = true →
 (0 ≤ v7_1 ∧ v7_1 < ((growL ((el a 0).length : Int) []).length : Int)) ∧
 ((0 : Int) ≤ 0 ∧ 0 < ((el (growL ((el a 0).length : Int) []) v7_1).length : Int)) ∧
 ((¬ (el (el (growL ((el a 0).length : Int) []) v7_1) 0 = 0) →
 (InI (v7_1 + 1)) ∧
 (H1 v6_1 (v7_1 + 1) ∧ m1 v6_1 (v7_1 + 1) < m1 v6_1 v7_1)) ∧
 (el (el (growL ((el a 0).length : Int) []) v7_1) 0 = 0 →
 ∃ (H2 : Int → List (List (List Int)) → Prop) (m2 : Int → List (List (List Int)) → Nat),
 H2 0 ([] : List (List (List Int))) ∧
 ∀ (v9_2 : Int) (o34_2 : List (List (List Int))), H2 v9_2 o34_2 →
 ( ((v9_2 < (a.length : Int) →
 (0 ≤ v9_2 ∧ v9_2 < (a.length : Int)) ∧
 (0 ≤ v7_1 ∧ v7_1 < ((growL ((el a 0).length : Int) []).length : Int)) ∧
 (isTab (el a v9_2) = true ∧ ((el (growL ((el a 0).length : Int) []) v7_1).length : Int) = ((el a v9_2).length : Int) ∧ ∀ z_ ∈ (el (growL ((el a 0).length : Int) []) v7_1), 0 ≤ z_ ∧ z_ < ((el a v9_2).length : Int)) ∧
 ∀ (r1_0 : List (List Int)), (isTab r1_0 = true ∧ r1_0.length = (el a v9_2).length ∧ (isPerm (el (growL ((el a 0).length : Int) []) v7_1) = true → ∀ u_ v_ : Int, (0 ≤ u_ ∧ u_ < ((el a v9_2).length : Int)) → (0 ≤ v_ ∧ v_ < ((el a v9_2).length : Int)) → el (el r1_0 (el (el (growL ((el a 0).length : Int) []) v7_1) u_)) (el (el (growL ((el a 0).length : Int) []) v7_1) v_) = el (el (growL ((el a 0).length : Int) []) v7_1) (el (el (el a v9_2) u_) v_))) →
 ((o34_2.length : Int) + (([r1_0]).length : Int) ≤ 1000000000) ∧
 (InI (v9_2 + 1)) ∧
 (H2 (v9_2 + 1) (o34_2 ++ ([r1_0])) ∧ m2 (v9_2 + 1) (o34_2 ++ ([r1_0])) < m2 v9_2 o34_2)) ∧
 (¬ (v9_2 < (a.length : Int)) →
 (∃ t_ u_ : List (List Int), o34_2 = [t_] ∧ v6_1 = [u_] ∧ isTab t_ = true ∧ isTab u_ = true ∧ t_.length = u_.length) ∧
 ((cmpT (el o34_2 0) (el v6_1 0) < 0 →
 (InI (v7_1 + 1)) ∧
 (H1 o34_2 (v7_1 + 1) ∧ m1 o34_2 (v7_1 + 1) < m1 v6_1 v7_1)) ∧
 (¬ (cmpT (el o34_2 0) (el v6_1 0) < 0) →
 (InI (v7_1 + 1)) ∧
 (H1 v6_1 (v7_1 + 1) ∧ m1 v6_1 (v7_1 + 1) < m1 v6_1 v7_1))))))))) ∧
 (zero = false →
 ∃ (H3 : Int → List (List (List Int)) → Prop) (m3 : Int → List (List (List Int)) → Nat),
 H3 0 ([] : List (List (List Int))) ∧
 ∀ (v9_2 : Int) (o34_2 : List (List (List Int))), H3 v9_2 o34_2 →
 ( ((v9_2 < (a.length : Int) →
 (0 ≤ v9_2 ∧ v9_2 < (a.length : Int)) ∧
 (0 ≤ v7_1 ∧ v7_1 < ((growL ((el a 0).length : Int) []).length : Int)) ∧
 (isTab (el a v9_2) = true ∧ ((el (growL ((el a 0).length : Int) []) v7_1).length : Int) = ((el a v9_2).length : Int) ∧ ∀ z_ ∈ (el (growL ((el a 0).length : Int) []) v7_1), 0 ≤ z_ ∧ z_ < ((el a v9_2).length : Int)) ∧
 ∀ (r2_0 : List (List Int)), (isTab r2_0 = true ∧ r2_0.length = (el a v9_2).length ∧ (isPerm (el (growL ((el a 0).length : Int) []) v7_1) = true → ∀ u_ v_ : Int, (0 ≤ u_ ∧ u_ < ((el a v9_2).length : Int)) → (0 ≤ v_ ∧ v_ < ((el a v9_2).length : Int)) → el (el r2_0 (el (el (growL ((el a 0).length : Int) []) v7_1) u_)) (el (el (growL ((el a 0).length : Int) []) v7_1) v_) = el (el (growL ((el a 0).length : Int) []) v7_1) (el (el (el a v9_2) u_) v_))) →
 ((o34_2.length : Int) + (([r2_0]).length : Int) ≤ 1000000000) ∧
 (InI (v9_2 + 1)) ∧
 (H3 (v9_2 + 1) (o34_2 ++ ([r2_0])) ∧ m3 (v9_2 + 1) (o34_2 ++ ([r2_0])) < m3 v9_2 o34_2)) ∧
 (¬ (v9_2 < (a.length : Int)) →
 (∃ t_ u_ : List (List Int), o34_2 = [t_] ∧ v6_1 = [u_] ∧ isTab t_ = true ∧ isTab u_ = true ∧ t_.length = u_.length) ∧
 ((cmpT (el o34_2 0) (el v6_1 0) < 0 →
 (InI (v7_1 + 1)) ∧
 (H1 o34_2 (v7_1 + 1) ∧ m1 o34_2 (v7_1 + 1) < m1 v6_1 v7_1)) ∧
 (¬ (cmpT (el o34_2 0) (el v6_1 0) < 0) →
 (InI (v7_1 + 1)) ∧
 (H1 v6_1 (v7_1 + 1) ∧ m1 v6_1 (v7_1 + 1) < m1 v6_1 v7_1))))))))) ∧
 (¬ (v7_1 < ((growL ((el a 0).length : Int) []).length : Int)) →
 ∃ (H4 : Int → List (List (List Int)) → Prop) (m4 : Int → List (List (List Int)) → Nat),
 H4 0 ([] : List (List (List Int))) ∧
 ∀ (v11_2 : Int) (o57_2 : List (List (List Int))), H4 v11_2 o57_2 →
 ( ((v11_2 < (v6_1.length : Int) →
 (0 ≤ v11_2 ∧ v11_2 < (v6_1.length : Int)) ∧
 (small2 (el v6_1 v11_2)) ∧
 ((o57_2.length : Int) + (([(el v6_1 v11_2)]).length : Int) ≤ 1000000000) ∧
 (InI (v11_2 + 1)) ∧
 (H4 (v11_2 + 1) (o57_2 ++ ([(el v6_1 v11_2)])) ∧ m4 (v11_2 + 1) (o57_2 ++ ([(el v6_1 v11_2)])) < m4 v11_2 o57_2)) ∧
 (¬ (v11_2 < (v6_1.length : Int)) →
 Q o57_2))))))

def wp_impl_LeastRack (r : List (List Int)) (Q : List (List Int) → Int → Prop) : Prop :=
 (small2 r) ∧
 (((isRk r) = false →
 Q ([]) 1) ∧
 ((isRk r) = true →
 (small2 r) ∧
 Q (LeaT r) (LeaE r)))

def wp_spec_LeastRack (r : List (List Int)) (Q : List (List Int) → Int → Prop) : Prop :=
 (small2 r) ∧
 (((isRk r) = false →
 Q ([]) 1) ∧
 ((isRk r) = true →
 ((7 < (r.length : Int) →
 Q ([]) 3) ∧
 (¬ (7 < (r.length : Int)) →
 (∃ t_ : List (List Int), ([r]) = [t_] ∧ isTab t_ = true ∧ (t_.length : Int) ≤ 7 ∧ false = false) ∧
 ((0 : Int) ≤ 0 ∧ 0 < (([LeaT (el ([r]) 0)]).length : Int)) ∧
 Q (el ([LeaT (el ([r]) 0)]) 0) 0))))

theorem p_spec_l03Before (a b : List (List (List Int))) (hp : ∃ t_ u_ : List (List Int), a = [t_] ∧ b = [u_] ∧ isTab t_ = true ∧ isTab u_ = true ∧ t_.length = u_.length) : wp_spec_l03Before a b (fun y0 => y0 = decide (cmpT (el a 0) (el b 0) < 0)) := by
  obtain ⟨t, u, rfl, rfl, ht, hu, hl⟩ := hp
  have z : ∀ x y : List Int, cmpG cmp1 x y = 0 ↔ x = y := cmpG_zero fun _ _ => cmp1_zero
  have st := isTab_small ht
  have su := isTab_small hu
  have hn := isTab_len ht
  have e0 : el [t] 0 = t := rfl
  have f0 : el [u] 0 = u := rfl
  refine ⟨fun i => (0 ≤ i ∧ i ≤ 1) ∧ (i = 1 → t = u), fun i => (1 - i).toNat, ⟨⟨by omega, by omega⟩, fun h => by omega⟩, ?_⟩
  rintro i ⟨⟨i0, i1⟩, hi⟩
  dsimp only
  refine ⟨fun hlt => ?_, fun hge => ?_⟩
  · obtain rfl : i = 0 := by simp at hlt; omega
    rw [e0, f0]
    refine ⟨fun j => (0 ≤ j ∧ j ≤ (t.length : Int)) ∧ Upto j fun m => cmpG cmp1 (el t m) (el u m) = 0, fun j => ((t.length : Int) - j).toNat, ⟨⟨by omega, by omega⟩, upto0⟩, ?_⟩
    rintro j ⟨⟨j0, j1⟩, hv⟩
    dsimp only
    refine ⟨⟨by omega, by simp⟩, fun jlt => ?_, fun jge => ⟨⟨by omega, by omega⟩, ⟨⟨by omega, by omega⟩, fun _ => ext_el hl fun m m0 m1 => (z _ _).1 (hv m m0 (by omega))⟩, by omega⟩⟩
    have s1 := st.2 _ (el_mem (l := t) ⟨j0, jlt⟩)
    have s2 := su.2 _ (el_mem (l := u) (i := j) ⟨j0, by omega⟩)
    refine ⟨⟨by omega, by simp⟩, ⟨by omega, by simp⟩, ⟨j0, jlt⟩, ⟨j0, by omega⟩, ⟨s1, s2⟩, fun h => ⟨⟨by omega, by simp⟩, ⟨by omega, by simp⟩, ⟨j0, jlt⟩, ⟨j0, by omega⟩, ⟨s1, s2⟩, ?_⟩, fun h => ⟨⟨by omega, by omega⟩, ⟨⟨by omega, by omega⟩, upto1 hv ((z _ _).2 h)⟩, by omega⟩⟩
    unfold cmpT
    rw [cmpG_ne hv ⟨j0, jlt⟩ (by omega) fun g => h ((z _ _).1 g)]
  · have : t = u := hi (by simp at hge; omega)
    rw [e0, f0, this]
    have : cmpT u u = 0 := (cmpG_zero z u u).2 rfl
    rw [this]; rfl
theorem p_spec_l03Least (a : List (List (List Int))) (zero : Bool) (hp : ∃ t_ : List (List Int), a = [t_] ∧ isTab t_ = true ∧ (t_.length : Int) ≤ 7 ∧ zero = false) : wp_spec_l03Least a zero (fun y0 => y0 = [LeaT (el a 0)]) := by
  obtain ⟨t, rfl, ht, h7, rfl⟩ := hp
  have hn := isTab_len ht
  have h8 := growL_len8 (n := (t.length : Int)) ⟨by omega, by omega⟩
  have e : LeaE t = 0 := by unfold LeaE; rw [if_pos ht, if_neg (by omega)]
  have e0 : el [t] 0 = t := rfl
  unfold wp_spec_l03Least
  rw [e0]
  refine ⟨⟨by omega, by simp⟩, ⟨by omega, by omega⟩, fun b i => (0 ≤ i ∧ i ≤ ((growL (t.length : Int) []).length : Int)) ∧ ∃ c, b = [c] ∧ isTab c = true ∧ c.length = t.length ∧ c = ((growL (t.length : Int) []).take i.toNat).foldl (lesT t) t, fun _ i => (((growL (t.length : Int) []).length : Int) - i).toNat, ⟨⟨by omega, by omega⟩, t, rfl, ht, rfl, rfl⟩, ?_⟩
  rintro b i ⟨⟨i0, i1⟩, c, rfl, hc, hcl, hce⟩
  dsimp only
  refine ⟨fun hlt => ⟨fun h => (by cases h), fun _ => ?_⟩, fun hge => ?_⟩
  · have hk : (growL (t.length : Int) [])[i.toNat]? = some (el (growL (t.length : Int) []) i) := by
      have hi : i.toNat < (growL (t.length : Int) []).length := by omega
      simp [el, List.getD_eq_getElem?_getD, List.getElem?_eq_getElem hi]
    obtain ⟨pl, pP⟩ := growL_perm (by omega) (List.mem_of_getElem? hk)
    have tr := isTab_ren ht pP pl
    have hs : (i + 1).toNat = i.toNat + 1 := by omega
    have lr : (renT t (el (growL (t.length : Int) []) i)).length = t.length := by
      have : ((renT t (el (growL (t.length : Int) []) i)).length : Int) = (t.length : Int) := len_tab (by omega)
      omega
    generalize hpe : el (growL (t.length : Int) []) i = p at *
    refine ⟨fun j o => (j = 0 ∧ o = []) ∨ (j = 1 ∧ o = [renT t p]), fun j _ => (1 - j).toNat, .inl ⟨rfl, rfl⟩, ?_⟩
    rintro j o hj
    dsimp only
    refine ⟨fun jlt => ?_, fun jge => ?_⟩
    · obtain ⟨rfl, rfl⟩ : j = 0 ∧ o = [] := hj.resolve_right fun g => by have := g.1; simp at jlt; omega
      rw [e0]
      refine ⟨⟨by omega, by simp⟩, ⟨i0, hlt⟩, ⟨ht, pl, fun z hz => by have := (isPerm_iff.1 pP).2 z hz; omega⟩, ?_⟩
      rintro r ⟨r1, r2, r3⟩
      have := img_ren ht pP pl r1 r2 (r3 pP)
      subst this
      exact ⟨by simp, ⟨by omega, by omega⟩, .inr ⟨rfl, by simp⟩, by omega⟩
    · obtain ⟨rfl, rfl⟩ := hj.resolve_left fun g => by have := g.1; simp at jge; omega
      have e1 : el [renT t p] 0 = renT t p := rfl
      have e2 : el [c] 0 = c := rfl
      rw [e1, e2]
      refine ⟨⟨_, _, rfl, rfl, tr, hc, by omega⟩, fun hl => ⟨⟨by omega, by omega⟩, ⟨⟨by omega, by omega⟩, _, rfl, tr, lr, ?_⟩, by omega⟩, fun hl => ⟨⟨by omega, by omega⟩, ⟨⟨by omega, by omega⟩, c, rfl, hc, hcl, ?_⟩, by omega⟩⟩
      · rw [hs, foldl_take hk, ← hce]; unfold lesT; rw [if_pos hl]
      · rw [hs, foldl_take hk, ← hce]; unfold lesT; rw [if_neg hl]
  · have hfin : c = LeaT t := by unfold LeaT; rw [if_pos e, hce, List.take_of_length_le (by omega)]
    refine ⟨fun j o => (j = 0 ∧ o = []) ∨ (j = 1 ∧ o = [c]), fun j _ => (1 - j).toNat, .inl ⟨rfl, rfl⟩, ?_⟩
    rintro j o hj
    dsimp only
    refine ⟨fun jlt => ?_, fun jge => ?_⟩
    · obtain ⟨rfl, rfl⟩ : j = 0 ∧ o = [] := hj.resolve_right fun g => by have := g.1; simp at jlt; omega
      exact ⟨⟨by omega, by simp⟩, isTab_small hc, by simp, ⟨by omega, by omega⟩, .inr ⟨rfl, rfl⟩, by omega⟩
    · obtain ⟨rfl, rfl⟩ := hj.resolve_left fun g => by have := g.1; simp at jge; omega
      rw [hfin]
theorem p_impl_LeastRack (r : List (List Int)) (hp : small2 r) : wp_impl_LeastRack r (fun y0 y1 => y0 = (if isRk r then LeaT r else []) ∧ y1 = (if isRk r then LeaE r else 1)) :=
  ⟨hp, fun h => by simp [h], fun h => ⟨hp, by simp [h]⟩⟩
theorem p_spec_LeastRack (r : List (List Int)) (hp : small2 r) : wp_spec_LeastRack r (fun y0 y1 => y0 = (if isRk r then LeaT r else []) ∧ y1 = (if isRk r then LeaE r else 1)) := by
  refine ⟨hp, fun h => by simp [h], fun h => ?_⟩
  have ht := isRk_tab h
  rw [h]
  refine ⟨fun g => ?_, fun g => ⟨⟨r, rfl, ht, by omega, rfl⟩, ⟨by omega, by simp⟩, ?_⟩⟩
  · have e : LeaE r = 3 := by unfold LeaE; rw [if_pos ht, if_pos g]
    exact ⟨by unfold LeaT; rw [e]; rfl, by rw [e]; rfl⟩
  · have e : LeaE r = 0 := by unfold LeaE; rw [if_pos ht, if_neg g]
    exact ⟨rfl, by rw [e]; rfl⟩

set_option maxRecDepth 100000 in
set_option maxHeartbeats 4000000 in
theorem w_spec_l03Before (a : List (List (List Int))) (b : List (List (List Int))) (Q : Bool → Prop) (h : wp_spec_l03Before a b Q) : AF Try.prog 92 [.lst (tabs a), .lst (tabs b)] (fun R_ => ∃ y0, Q y0 ∧ R_ = cb y0) := by
  refine AF.ofWQ (af_enter (n := 53) Try.func92 rfl (by rfl) rfl (Nat.le_of_ble_eq_true rfl) ?_)
  unfold wp_spec_l03Before at h
  refine aw_seq ?_
  refine aw_gh (gh_to (n := 53) (σ' := []) (env' := [(0, .c (.lst (tabs a))), (1, .c (.lst (tabs b)))]) rfl rfl ⟨rfl, rfl, trivial⟩) ?_
  refine aw_region ?_
  refine run_s (ss_assign rfl) rfl ?_
  refine run_nil ?_
  refine aw_seq ?_
  refine aw_seq ?_
  refine aw_region ?_
  refine run_s (ss_assign rfl) rfl ?_
  refine run_nil ?_
  refine aw_block ?_
  obtain ⟨H1, m1, q1, h⟩ := h
  refine aw_loop1 (fun (v5_1 : Int) => ⟨[], [(0, .c (.lst (tabs a))), (1, .c (.lst (tabs b))), (5, .c (ci v5_1))], 53⟩) H1 m1 ⟨0, ghe_to (n := 53) rfl rfl ⟨rfl, rfl, rfl, trivial⟩, q1⟩ ?_
  rintro v5_1 q1
  replace h := h v5_1 q1
  refine aw_seq ?_
  refine aw_seq ?_
  refine aw_region ?_
  refine run_s (ss_move rfl) rfl ?_
  refine run_s (ss_move rfl) rfl ?_
  refine run_s (ss_lenL (f := (fun r => C.lst (rows r))) rfl) rfl ?_
  refine run_s (ss_lss rfl rfl) rfl ?_
  refine run_nil ?_
  refine aw_cond rfl (fun q2 => ?_) (fun q2 => ?_)
  ·replace h := h.1 (of_decide_eq_true q2)
   refine aw_skip ?_
   refine aw_seq ?_
   refine aw_block ?_
   refine aw_seq ?_
   refine aw_gh (gh_to (n := 53) (σ' := []) (env' := [(0, .c (.lst (tabs a))), (1, .c (.lst (tabs b))), (5, .c (ci v5_1))]) rfl rfl ⟨rfl, rfl, rfl, trivial⟩) ?_
   refine aw_region ?_
   refine run_s (ss_assign rfl) rfl ?_
   refine run_nil ?_
   refine aw_block ?_
   obtain ⟨H2, m2, q3, h⟩ := h
   refine aw_loop1 (fun (v6_2 : Int) => ⟨[], [(0, .c (.lst (tabs a))), (1, .c (.lst (tabs b))), (5, .c (ci v5_1)), (6, .c (ci v6_2))], 53⟩) H2 m2 ⟨0, ghe_to (n := 53) rfl rfl ⟨rfl, rfl, rfl, rfl, trivial⟩, q3⟩ ?_
   rintro v6_2 q3
   replace h := h v6_2 q3
   refine aw_seq ?_
   refine aw_seq ?_
   refine aw_region ?_
   refine run_s (ss_move rfl) rfl ?_
   refine run_s (ss_move rfl) rfl ?_
   refine run_s (ss_move rfl) rfl ?_
   obtain ⟨q4, h⟩ := h
   refine run_s (ss_idxL rfl rfl q4) rfl ?_
   refine run_s (ss_loadL (f := (fun r => C.lst (rows r))) rfl q4) rfl ?_
   refine run_s (ss_lenL (f := (fun r => C.lst (ints r))) rfl) rfl ?_
   refine run_s (ss_lss rfl rfl) rfl ?_
   refine run_nil ?_
   refine aw_cond rfl (fun q5 => ?_) (fun q5 => ?_)
   ·replace h := h.1 (of_decide_eq_true q5)
    refine aw_skip ?_
    refine aw_seq ?_
    refine aw_block ?_
    refine aw_seq ?_
    refine aw_gh (gh_to (n := 53) (σ' := []) (env' := [(0, .c (.lst (tabs a))), (1, .c (.lst (tabs b))), (5, .c (ci v5_1)), (6, .c (ci v6_2))]) rfl rfl ⟨rfl, rfl, rfl, rfl, trivial⟩) ?_
    refine aw_regionD (kd := kdl [0, 0, 0, 1, 0, 0, 1, 0, 0, 0, 1, 0, 0, 1, 2, 0]) (ord := [0, 1, 2, 4, 7, 8, 9, 11, 3, 5, 6, 10, 12, 13, 14, 15]) [] mixed (by kernel_rfl) ?_
    refine rd_s rfl rfl trivial (ss_move rfl) rfl ?_
    refine rd_s rfl rfl trivial (ss_move rfl) rfl ?_
    obtain ⟨q6, h⟩ := h
    refine rd_s rfl rfl trivial (ss_idxL rfl rfl q6) rfl ?_
    refine rd_s rfl rfl trivial (ss_move rfl) rfl ?_
    refine rd_s rfl rfl trivial (ss_move rfl) rfl ?_
    refine rd_s rfl rfl trivial (ss_move rfl) rfl ?_
    obtain ⟨q7, h⟩ := h
    refine rd_s rfl rfl trivial (ss_idxL rfl rfl q7) rfl ?_
    refine rd_s rfl rfl trivial (ss_move rfl) rfl ?_
    refine rd_l rfl rfl trivial (ss_loadL (f := (fun r => C.lst (rows r))) rfl q6) rfl ?_
    obtain ⟨q8, h⟩ := h
    refine rd_s rfl rfl trivial (ss_idxL rfl rfl q8) rfl ?_
    refine rd_l rfl rfl trivial (ss_loadL (f := (fun r => C.lst (ints r))) rfl q8) rfl ?_
    refine rd_l rfl rfl trivial (ss_loadL (f := (fun r => C.lst (rows r))) rfl q7) rfl ?_
    obtain ⟨q9, h⟩ := h
    refine rd_s rfl rfl trivial (ss_idxL rfl rfl q9) rfl ?_
    refine rd_l rfl rfl trivial (ss_loadL (f := (fun r => C.lst (ints r))) rfl q9) rfl ?_
    obtain ⟨q10, h⟩ := h
    refine rd_w rfl rfl trivial rfl rfl (ws_call (xs := [.tmp 28, .tmp 35]) (ids := []) rfl rfl rfl rfl (c_spec_l01Same (el (el a v5_1) v6_2) (el (el b v5_1) v6_2) q10) rfl ?_ )
    rintro _ rfl
    refine ⟨rfl, ?_⟩
    refine rd_s rfl rfl trivial (ss_not rfl) rfl ?_
    refine rd_nil ?_
    refine aw_cond rfl (fun q12 => ?_) (fun q12 => ?_)
    ·replace h := h.1 (of_decide_eq_false (bnot_t q12))
     refine aw_seq ?_
     refine aw_gh (gh_to (n := 53) (σ' := []) (env' := [(0, .c (.lst (tabs a))), (1, .c (.lst (tabs b))), (5, .c (ci v5_1)), (6, .c (ci v6_2))]) rfl rfl ⟨rfl, rfl, rfl, rfl, trivial⟩) ?_
     refine aw_regionD (kd := kdl [0, 0, 0, 1, 0, 0, 1, 0, 0, 0, 1, 0, 0, 1, 2, 0]) (ord := [0, 1, 2, 4, 7, 8, 9, 11, 3, 5, 6, 10, 12, 13, 14, 15]) [] mixed (by kernel_rfl) ?_
     refine rd_s rfl rfl trivial (ss_move rfl) rfl ?_
     refine rd_s rfl rfl trivial (ss_move rfl) rfl ?_
     obtain ⟨q13, h⟩ := h
     refine rd_s rfl rfl trivial (ss_idxL rfl rfl q13) rfl ?_
     refine rd_s rfl rfl trivial (ss_move rfl) rfl ?_
     refine rd_s rfl rfl trivial (ss_move rfl) rfl ?_
     refine rd_s rfl rfl trivial (ss_move rfl) rfl ?_
     obtain ⟨q14, h⟩ := h
     refine rd_s rfl rfl trivial (ss_idxL rfl rfl q14) rfl ?_
     refine rd_s rfl rfl trivial (ss_move rfl) rfl ?_
     refine rd_l rfl rfl trivial (ss_loadL (f := (fun r => C.lst (rows r))) rfl q13) rfl ?_
     obtain ⟨q15, h⟩ := h
     refine rd_s rfl rfl trivial (ss_idxL rfl rfl q15) rfl ?_
     refine rd_l rfl rfl trivial (ss_loadL (f := (fun r => C.lst (ints r))) rfl q15) rfl ?_
     refine rd_l rfl rfl trivial (ss_loadL (f := (fun r => C.lst (rows r))) rfl q14) rfl ?_
     obtain ⟨q16, h⟩ := h
     refine rd_s rfl rfl trivial (ss_idxL rfl rfl q16) rfl ?_
     refine rd_l rfl rfl trivial (ss_loadL (f := (fun r => C.lst (ints r))) rfl q16) rfl ?_
     obtain ⟨q17, h⟩ := h
     refine rd_w rfl rfl trivial rfl rfl (ws_call (xs := [.tmp 44, .tmp 51]) (ids := []) rfl rfl rfl rfl (c_spec_l01Less (el (el a v5_1) v6_2) (el (el b v5_1) v6_2) q17) rfl ?_ )
     rintro _ rfl
     refine ⟨rfl, ?_⟩
     refine rd_s rfl rfl trivial (ss_assign rfl) rfl ?_
     refine rd_nil ?_
     refine aw_ret ?_
     exact retAF_mk (retv1 rfl (rv_tmp rfl)) rfl rfl ⟨_, (cle_refl _), _, h, rfl⟩
    ·replace h := h.2 (of_decide_eq_true (bnot_f q12))
     refine aw_skip ?_
     refine aw_gh (gh_to (n := 53) (σ' := []) (env' := [(0, .c (.lst (tabs a))), (1, .c (.lst (tabs b))), (5, .c (ci v5_1)), (6, .c (ci v6_2))]) rfl rfl ⟨rfl, rfl, rfl, rfl, trivial⟩) ?_
     refine aw_region ?_
     refine run_s (ss_move rfl) rfl ?_
     obtain ⟨q19, h⟩ := h
     refine run_s (ss_add rfl rfl q19) rfl ?_
     refine run_s (ss_assign rfl) rfl ?_
     refine run_nil ?_
     exact ⟨v6_2 + 1, ghe_to (n := 53) rfl rfl ⟨rfl, rfl, rfl, rfl, trivial⟩, h.1, h.2⟩
   ·replace h := h.2 (of_decide_eq_false q5)
    refine aw_exit ?_
    refine aw_gh (gh_to (n := 53) (σ' := []) (env' := [(0, .c (.lst (tabs a))), (1, .c (.lst (tabs b))), (5, .c (ci v5_1))]) rfl rfl ⟨rfl, rfl, rfl, trivial⟩) ?_
    refine aw_region ?_
    refine run_s (ss_move rfl) rfl ?_
    obtain ⟨q20, h⟩ := h
    refine run_s (ss_add rfl rfl q20) rfl ?_
    refine run_s (ss_assign rfl) rfl ?_
    refine run_nil ?_
    exact ⟨v5_1 + 1, ghe_to (n := 53) rfl rfl ⟨rfl, rfl, rfl, trivial⟩, h.1, h.2⟩
  ·replace h := h.2 (of_decide_eq_false q2)
   refine aw_exit ?_
   refine aw_seq ?_
   refine aw_gh (gh_to (n := 53) (σ' := []) (env' := []) rfl rfl trivial) ?_
   refine aw_region ?_
   refine run_s (ss_assign rfl) rfl ?_
   refine run_nil ?_
   refine aw_ret ?_
   exact retAF_mk (retv1 rfl (rv_tmp rfl)) rfl rfl ⟨_, (cle_refl _), _, h, rfl⟩

theorem c_spec_l03Before (a : List (List (List Int))) (b : List (List (List Int))) (hp : ∃ t_ u_ : List (List Int), a = [t_] ∧ b = [u_] ∧ isTab t_ = true ∧ isTab u_ = true ∧ t_.length = u_.length) : AF Try.prog 92 [.lst (tabs a), .lst (tabs b)] (fun R_ => R_ = cb (decide (cmpT (el a 0) (el b 0) < 0))) :=
  (w_spec_l03Before a b (fun y0 => y0 = decide (cmpT (el a 0) (el b 0) < 0)) (p_spec_l03Before a b hp)).mono (by rintro r ⟨_, rfl, rfl⟩; rfl)

set_option maxRecDepth 100000 in
set_option maxHeartbeats 4000000 in
theorem w_spec_l03Least (a : List (List (List Int))) (zero : Bool) (Q : List (List (List Int)) → Prop) (h : wp_spec_l03Least a zero Q) : AF Try.prog 51 [.lst (tabs a), cb zero] (fun R_ => ∃ y0, Q y0 ∧ R_ = .own (otabs y0)) := by
  refine AF.ofWQ (af_enter (n := 73) Try.func51 rfl (by rfl) rfl (Nat.le_of_ble_eq_true rfl) ?_)
  unfold wp_spec_l03Least at h
  refine aw_seq ?_
  refine aw_gh (gh_to (n := 73) (σ' := []) (env' := [(0, .c (.lst (tabs a))), (1, .c (cb zero))]) rfl rfl ⟨rfl, rfl, trivial⟩) ?_
  refine aw_region ?_
  refine run_s (ss_assign rfl) rfl ?_
  refine run_nil ?_
  refine aw_seq ?_
  refine aw_region ?_
  refine run_s (ss_move rfl) rfl ?_
  obtain ⟨q1, h⟩ := h
  refine run_s (ss_idxL rfl rfl q1) rfl ?_
  refine run_s (ss_loadL (f := (fun r => C.lst (rows r))) rfl q1) rfl ?_
  refine run_s (ss_lenL (f := (fun r => C.lst (ints r))) rfl) rfl ?_
  obtain ⟨q2, h⟩ := h
  refine run_w (ws_call (xs := [.tmp 15]) (ids := [16]) rfl rfl rfl rfl (c_spec_l01Perms ((el a 0).length : Int) q2) rfl ?_ )
  rintro _ rfl
  refine ⟨rfl, ?_⟩
  refine run_s (ss_move rfl) rfl ?_
  refine run_s (ss_assign rfl) rfl ?_
  refine run_s (ss_assign rfl) rfl ?_
  refine run_nil ?_
  refine aw_gh (gh_frzE (id := 16) (fun r => C.lst (ints r)) rfl (fun _ => (fz_own (fz_map (fun _ => rfl) _)))) ?_
  refine aw_seq ?_
  refine aw_seq ?_
  refine aw_region ?_
  refine run_s (ss_assign rfl) rfl ?_
  refine run_nil ?_
  refine aw_block ?_
  obtain ⟨H1, m1, q4, h⟩ := h
  refine aw_loop2 (fun (v6_1 : List (List (List Int))) (v7_1 : Int) => ⟨[], [(0, .c (.lst (tabs a))), (1, .c (cb zero)), (5, .c (.lst (rows (growL ((el a 0).length : Int) [])))), (6, .c (.lst (tabs v6_1))), (7, .c (ci v7_1))], 73⟩) H1 m1 ⟨a, 0, ghe_to (n := 73) rfl rfl ⟨rfl, rfl, rfl, rfl, rfl, trivial⟩, q4⟩ ?_
  rintro v6_1 v7_1 q4
  replace h := h v6_1 v7_1 q4
  refine aw_seq ?_
  refine aw_seq ?_
  refine aw_region ?_
  refine run_s (ss_move rfl) rfl ?_
  refine run_s (ss_move rfl) rfl ?_
  refine run_s (ss_lenL (f := (fun r => C.lst (ints r))) rfl) rfl ?_
  refine run_s (ss_lss rfl rfl) rfl ?_
  refine run_nil ?_
  refine aw_cond rfl (fun q5 => ?_) (fun q5 => ?_)
  ·replace h := h.1 (of_decide_eq_true q5)
   refine aw_skip ?_
   refine aw_seq ?_
   refine aw_block ?_
   refine aw_seq ?_
   refine aw_seq ?_
   refine aw_region ?_
   refine run_s (ss_move rfl) rfl ?_
   refine run_s (ss_move rfl) rfl ?_
   refine run_split (s := 25) rfl (fun q6 => ?_) (fun q6 => ?_)
   ·replace h := h.1 (q6)
    refine run_gt rfl rfl q6 ?_
    refine run_s (ss_move rfl) rfl ?_
    refine run_gt rfl rfl q6 ?_
    refine run_s (ss_move rfl) rfl ?_
    refine run_gt rfl rfl q6 ?_
    obtain ⟨q7, h⟩ := h
    refine run_s (ss_idxL rfl rfl q7) rfl ?_
    refine run_gt rfl rfl q6 ?_
    refine run_s (ss_loadL (f := (fun r => C.lst (ints r))) rfl q7) rfl ?_
    refine run_gt rfl rfl q6 ?_
    obtain ⟨q8, h⟩ := h
    refine run_s (ss_idxL rfl rfl q8) rfl ?_
    refine run_gt rfl rfl q6 ?_
    refine run_s (ss_loadL (f := ci) rfl q8) rfl ?_
    refine run_gt rfl rfl q6 ?_
    refine run_s (ss_neq rfl rfl) rfl ?_
    refine run_s (ss_pickT rfl q6 rfl) rfl ?_
    refine run_nil ?_
    refine aw_cond rfl (fun q9 => ?_) (fun q9 => ?_)
    ·replace h := h.1 (of_decide_eq_false (bnot_t q9))
     refine aw_exit ?_
     refine aw_gh (gh_to (n := 73) (σ' := []) (env' := [(0, .c (.lst (tabs a))), (1, .c (cb zero)), (5, .c (.lst (rows (growL ((el a 0).length : Int) [])))), (6, .c (.lst (tabs v6_1))), (7, .c (ci v7_1)), (26, .c (.lst (rows (growL ((el a 0).length : Int) [])))), (27, .c (ci v7_1)), (28, .c (.ptr ((rows (growL ((el a 0).length : Int) [])).drop v7_1.toNat))), (29, .c (.lst (ints (el (growL ((el a 0).length : Int) []) v7_1)))), (30, .c (.ptr ((ints (el (growL ((el a 0).length : Int) []) v7_1)).drop (0 : Int).toNat))), (31, .c (ci (el (el (growL ((el a 0).length : Int) []) v7_1) 0))), (32, .c (cb (!(decide (el (el (growL ((el a 0).length : Int) []) v7_1) 0 = 0)))))]) rfl rfl ⟨rfl, rfl, rfl, rfl, rfl, rfl, rfl, rfl, rfl, rfl, rfl, rfl, trivial⟩) ?_
     refine aw_region ?_
     refine run_s (ss_move rfl) rfl ?_
     obtain ⟨q10, h⟩ := h
     refine run_s (ss_add rfl rfl q10) rfl ?_
     refine run_s (ss_assign rfl) rfl ?_
     refine run_nil ?_
     exact ⟨v6_1, v7_1 + 1, ghe_to (n := 73) rfl rfl ⟨rfl, rfl, rfl, rfl, rfl, trivial⟩, h.1, h.2⟩
    ·replace h := h.2 (of_decide_eq_true (bnot_f q9))
     refine aw_skip ?_
     refine aw_seq ?_
     refine aw_gh (gh_to (n := 73) (σ' := []) (env' := [(0, .c (.lst (tabs a))), (1, .c (cb zero)), (5, .c (.lst (rows (growL ((el a 0).length : Int) [])))), (6, .c (.lst (tabs v6_1))), (7, .c (ci v7_1)), (26, .c (.lst (rows (growL ((el a 0).length : Int) [])))), (27, .c (ci v7_1)), (28, .c (.ptr ((rows (growL ((el a 0).length : Int) [])).drop v7_1.toNat))), (29, .c (.lst (ints (el (growL ((el a 0).length : Int) []) v7_1)))), (30, .c (.ptr ((ints (el (growL ((el a 0).length : Int) []) v7_1)).drop (0 : Int).toNat))), (31, .c (ci (el (el (growL ((el a 0).length : Int) []) v7_1) 0))), (32, .c (cb (!(decide (el (el (growL ((el a 0).length : Int) []) v7_1) 0 = 0)))))]) rfl rfl ⟨rfl, rfl, rfl, rfl, rfl, rfl, rfl, rfl, rfl, rfl, rfl, rfl, trivial⟩) ?_
     refine aw_region ?_
     refine run_w (ws_buildSlice (id := 34) (ps := []) rfl rfl (Nat.le_of_ble_eq_true rfl) rfl ⟨rfl, ?_⟩)
     refine run_s (ss_assign rfl) rfl ?_
     refine run_nil ?_
     refine aw_seq ?_
     refine aw_seq ?_
     refine aw_region ?_
     refine run_s (ss_assign rfl) rfl ?_
     refine run_nil ?_
     refine aw_block ?_
     obtain ⟨H2, m2, q11, h⟩ := h
     refine aw_loop2 (fun (v9_2 : Int) (o34_2 : List (List (List Int))) => ⟨[(34, ⟨otabs o34_2, []⟩)], [(0, .c (.lst (tabs a))), (1, .c (cb zero)), (5, .c (.lst (rows (growL ((el a 0).length : Int) [])))), (6, .c (.lst (tabs v6_1))), (7, .c (ci v7_1)), (8, .ref 34), (9, .c (ci v9_2)), (26, .c (.lst (rows (growL ((el a 0).length : Int) [])))), (27, .c (ci v7_1)), (28, .c (.ptr ((rows (growL ((el a 0).length : Int) [])).drop v7_1.toNat))), (29, .c (.lst (ints (el (growL ((el a 0).length : Int) []) v7_1)))), (30, .c (.ptr ((ints (el (growL ((el a 0).length : Int) []) v7_1)).drop (0 : Int).toNat))), (31, .c (ci (el (el (growL ((el a 0).length : Int) []) v7_1) 0))), (32, .c (cb (!(decide (el (el (growL ((el a 0).length : Int) []) v7_1) 0 = 0)))))], 73⟩) H2 m2 ⟨0, ([] : List (List (List Int))), ghe_to (n := 73) rfl rfl ⟨rfl, rfl, rfl, rfl, rfl, rfl, rfl, rfl, rfl, rfl, rfl, rfl, rfl, rfl, trivial⟩, q11⟩ ?_
     rintro v9_2 o34_2 q11
     replace h := h v9_2 o34_2 q11
     refine aw_seq ?_
     refine aw_seq ?_
     refine aw_region ?_
     refine run_s (ss_move rfl) rfl ?_
     refine run_s (ss_move rfl) rfl ?_
     refine run_s (ss_lenL (f := (fun r => C.lst (rows r))) rfl) rfl ?_
     refine run_s (ss_lss rfl rfl) rfl ?_
     refine run_nil ?_
     refine aw_cond rfl (fun q12 => ?_) (fun q12 => ?_)
     ·replace h := h.1 (of_decide_eq_true q12)
      refine aw_skip ?_
      refine aw_seq ?_
      refine aw_block ?_
      refine aw_gh (gh_to (n := 73) (σ' := [(34, ⟨otabs o34_2, []⟩)]) (env' := [(0, .c (.lst (tabs a))), (1, .c (cb zero)), (5, .c (.lst (rows (growL ((el a 0).length : Int) [])))), (6, .c (.lst (tabs v6_1))), (7, .c (ci v7_1)), (8, .ref 34), (9, .c (ci v9_2)), (26, .c (.lst (rows (growL ((el a 0).length : Int) [])))), (27, .c (ci v7_1)), (28, .c (.ptr ((rows (growL ((el a 0).length : Int) [])).drop v7_1.toNat))), (29, .c (.lst (ints (el (growL ((el a 0).length : Int) []) v7_1)))), (30, .c (.ptr ((ints (el (growL ((el a 0).length : Int) []) v7_1)).drop (0 : Int).toNat))), (31, .c (ci (el (el (growL ((el a 0).length : Int) []) v7_1) 0))), (32, .c (cb (!(decide (el (el (growL ((el a 0).length : Int) []) v7_1) 0 = 0)))))]) rfl rfl ⟨rfl, rfl, rfl, rfl, rfl, rfl, rfl, rfl, rfl, rfl, rfl, rfl, rfl, rfl, trivial⟩) ?_
      refine aw_regionD (kd := kdl [0, 0, 0, 0, 1, 0, 0, 0, 1, 2, 2, 2, 0]) (ord := [0, 1, 2, 3, 5, 6, 7, 4, 8, 9, 10, 11, 12]) [34, 50, 51] mixed (by kernel_rfl) ?_
      refine rd_s rfl rfl trivial (ss_move rfl) rfl ?_
      refine rd_s rfl rfl trivial (ss_move rfl) rfl ?_
      refine rd_s rfl rfl trivial (ss_move rfl) rfl ?_
      obtain ⟨q13, h⟩ := h
      refine rd_s rfl rfl trivial (ss_idxL rfl rfl q13) rfl ?_
      refine rd_s rfl rfl trivial (ss_move rfl) rfl ?_
      refine rd_s rfl rfl trivial (ss_move rfl) rfl ?_
      obtain ⟨q14, h⟩ := h
      refine rd_s rfl rfl trivial (ss_idxL rfl rfl q14) rfl ?_
      refine rd_l rfl rfl trivial (ss_loadL (f := (fun r => C.lst (rows r))) rfl q13) rfl ?_
      refine rd_l rfl rfl trivial (ss_loadL (f := (fun r => C.lst (ints r))) rfl q14) rfl ?_
      obtain ⟨q15, h⟩ := h
      refine rd_w rfl rfl trivial rfl rfl (ws_call (xs := [.tmp 45, .tmp 49]) (ids := [50]) rfl rfl rfl rfl (c_spec_l03Image (el a v9_2) (el (growL ((el a 0).length : Int) []) v7_1) q15) rfl ?_ )
      rintro _ ⟨r1_0, q16, rfl⟩
      replace h := h r1_0 q16
      refine ⟨rfl, ?_⟩
      refine rd_w rfl rfl trivial rfl rfl (ws_buildSlice (id := 51) (ps := [(0, .tmp 50)]) rfl rfl (Nat.le_of_ble_eq_true rfl) rfl ⟨rfl, ?_⟩)
      obtain ⟨q17, h⟩ := h
      refine rd_w rfl rfl trivial rfl rfl (ws_gh (gh_fill (id := 51) (id2 := 50) (j := 0) rfl rfl (Nat.le_of_ble_eq_true rfl) rfl rfl rfl) (ws_app1 (fun r => C.own (orows r)) (l := o34_2) (m := [r1_0]) rfl rfl rfl rfl rfl (Nat.le_of_ble_eq_true rfl) q17 ⟨rfl, ?_⟩))
      refine rd_s rfl rfl trivial (ss_assign rfl) rfl ?_
      refine rd_nil ?_
      refine aw_gh (gh_to (n := 73) (σ' := [(34, ⟨otabs (o34_2 ++ ([r1_0])), []⟩)]) (env' := [(0, .c (.lst (tabs a))), (1, .c (cb zero)), (5, .c (.lst (rows (growL ((el a 0).length : Int) [])))), (6, .c (.lst (tabs v6_1))), (7, .c (ci v7_1)), (8, .ref 34), (9, .c (ci v9_2)), (26, .c (.lst (rows (growL ((el a 0).length : Int) [])))), (27, .c (ci v7_1)), (28, .c (.ptr ((rows (growL ((el a 0).length : Int) [])).drop v7_1.toNat))), (29, .c (.lst (ints (el (growL ((el a 0).length : Int) []) v7_1)))), (30, .c (.ptr ((ints (el (growL ((el a 0).length : Int) []) v7_1)).drop (0 : Int).toNat))), (31, .c (ci (el (el (growL ((el a 0).length : Int) []) v7_1) 0))), (32, .c (cb (!(decide (el (el (growL ((el a 0).length : Int) []) v7_1) 0 = 0)))))]) rfl rfl ⟨rfl, rfl, rfl, rfl, rfl, rfl, rfl, rfl, rfl, rfl, rfl, rfl, rfl, rfl, trivial⟩) ?_
      refine aw_region ?_
      refine run_s (ss_move rfl) rfl ?_
      obtain ⟨q18, h⟩ := h
      refine run_s (ss_add rfl rfl q18) rfl ?_
      refine run_s (ss_assign rfl) rfl ?_
      refine run_nil ?_
      exact ⟨v9_2 + 1, o34_2 ++ ([r1_0]), ghe_to (n := 73) rfl rfl ⟨rfl, rfl, rfl, rfl, rfl, rfl, rfl, rfl, rfl, rfl, rfl, rfl, rfl, rfl, trivial⟩, h.1, h.2⟩
     ·replace h := h.2 (of_decide_eq_false q12)
      refine aw_exit ?_
      refine aw_seq ?_
      refine aw_region ?_
      refine run_s (ss_move rfl) rfl ?_
      refine run_s (ss_move rfl) rfl ?_
      obtain ⟨q19, h⟩ := h
      refine run_w (ws_callR (xs := [.tmp 53, .tmp 54]) (cs := [.own (otabs o34_2), .lst (tabs v6_1)]) (ids := []) rfl (.inr ⟨rfl, rfl⟩) rfl rfl (fz_cons (fz_own (fz_map (fun _ => (fz_own (fz_map (fun _ => (fz_own (fz_map (fun _ => rfl) _))) _))) _)) (fz_cons rfl fz_nil)) (c_spec_l03Before o34_2 v6_1 q19) rfl ?_ )
      rintro _ rfl
      refine ⟨rfl, rfl, ?_⟩
      refine run_nil ?_
      refine aw_cond rfl (fun q21 => ?_) (fun q21 => ?_)
      ·replace h := h.1 (of_decide_eq_true q21)
       refine aw_gh (gh_to (n := 73) (σ' := [(34, ⟨otabs o34_2, []⟩)]) (env' := [(0, .c (.lst (tabs a))), (1, .c (cb zero)), (5, .c (.lst (rows (growL ((el a 0).length : Int) [])))), (6, .c (.lst (tabs v6_1))), (7, .c (ci v7_1)), (8, .ref 34), (26, .c (.lst (rows (growL ((el a 0).length : Int) [])))), (27, .c (ci v7_1)), (28, .c (.ptr ((rows (growL ((el a 0).length : Int) [])).drop v7_1.toNat))), (29, .c (.lst (ints (el (growL ((el a 0).length : Int) []) v7_1)))), (30, .c (.ptr ((ints (el (growL ((el a 0).length : Int) []) v7_1)).drop (0 : Int).toNat))), (31, .c (ci (el (el (growL ((el a 0).length : Int) []) v7_1) 0))), (32, .c (cb (!(decide (el (el (growL ((el a 0).length : Int) []) v7_1) 0 = 0)))))]) rfl rfl ⟨rfl, rfl, rfl, rfl, rfl, rfl, rfl, rfl, rfl, rfl, rfl, rfl, rfl, trivial⟩) ?_
       refine aw_region ?_
       refine run_s (ss_move rfl) rfl ?_
       refine run_s (ss_assign rfl) rfl ?_
       refine run_nil ?_
       refine aw_region ?_
       refine run_s (ss_move rfl) rfl ?_
       obtain ⟨q22, h⟩ := h
       refine run_s (ss_add rfl rfl q22) rfl ?_
       refine run_s (ss_assign rfl) rfl ?_
       refine run_nil ?_
       exact ⟨o34_2, v7_1 + 1, ghe_step (gh_frzE (id := 34) (fun r => C.lst (rows r)) rfl (fun _ => (fz_own (fz_map (fun _ => (fz_own (fz_map (fun _ => rfl) _))) _)))) (ghe_to (n := 73) rfl rfl ⟨rfl, rfl, rfl, rfl, rfl, trivial⟩), h.1, h.2⟩
      ·replace h := h.2 (of_decide_eq_false q21)
       refine aw_skip ?_
       refine aw_gh (gh_to (n := 73) (σ' := [(34, ⟨otabs o34_2, []⟩)]) (env' := [(0, .c (.lst (tabs a))), (1, .c (cb zero)), (5, .c (.lst (rows (growL ((el a 0).length : Int) [])))), (6, .c (.lst (tabs v6_1))), (7, .c (ci v7_1)), (26, .c (.lst (rows (growL ((el a 0).length : Int) [])))), (27, .c (ci v7_1)), (28, .c (.ptr ((rows (growL ((el a 0).length : Int) [])).drop v7_1.toNat))), (29, .c (.lst (ints (el (growL ((el a 0).length : Int) []) v7_1)))), (30, .c (.ptr ((ints (el (growL ((el a 0).length : Int) []) v7_1)).drop (0 : Int).toNat))), (31, .c (ci (el (el (growL ((el a 0).length : Int) []) v7_1) 0))), (32, .c (cb (!(decide (el (el (growL ((el a 0).length : Int) []) v7_1) 0 = 0)))))]) rfl rfl ⟨rfl, rfl, rfl, rfl, rfl, rfl, rfl, rfl, rfl, rfl, rfl, rfl, trivial⟩) ?_
       refine aw_region ?_
       refine run_s (ss_move rfl) rfl ?_
       obtain ⟨q23, h⟩ := h
       refine run_s (ss_add rfl rfl q23) rfl ?_
       refine run_s (ss_assign rfl) rfl ?_
       refine run_nil ?_
       exact ⟨v6_1, v7_1 + 1, ghe_step (gh_frzE (id := 34) (fun r => C.lst (rows r)) rfl (fun _ => (fz_own (fz_map (fun _ => (fz_own (fz_map (fun _ => rfl) _))) _)))) (ghe_to (n := 73) rfl rfl ⟨rfl, rfl, rfl, rfl, rfl, trivial⟩), h.1, h.2⟩
   ·replace h := h.2 (q6)
    refine run_gf rfl rfl q6 rfl ?_
    refine run_gf rfl rfl q6 rfl ?_
    refine run_gf rfl rfl q6 rfl ?_
    refine run_gf rfl rfl q6 rfl ?_
    refine run_gf rfl rfl q6 rfl ?_
    refine run_gf rfl rfl q6 rfl ?_
    refine run_gf rfl rfl q6 rfl ?_
    refine run_s (ss_pickF rfl q6 rfl) rfl ?_
    refine run_nil ?_
    refine aw_cond rfl (fun q24 => ?_) (fun q24 => ?_)
    ·cases q24
    ·skip
     refine aw_skip ?_
     refine aw_seq ?_
     refine aw_gh (gh_to (n := 73) (σ' := []) (env' := [(0, .c (.lst (tabs a))), (1, .c (cb zero)), (5, .c (.lst (rows (growL ((el a 0).length : Int) [])))), (6, .c (.lst (tabs v6_1))), (7, .c (ci v7_1))]) rfl rfl ⟨rfl, rfl, rfl, rfl, rfl, trivial⟩) ?_
     refine aw_region ?_
     refine run_w (ws_buildSlice (id := 34) (ps := []) rfl rfl (Nat.le_of_ble_eq_true rfl) rfl ⟨rfl, ?_⟩)
     refine run_s (ss_assign rfl) rfl ?_
     refine run_nil ?_
     refine aw_seq ?_
     refine aw_seq ?_
     refine aw_region ?_
     refine run_s (ss_assign rfl) rfl ?_
     refine run_nil ?_
     refine aw_block ?_
     obtain ⟨H3, m3, q25, h⟩ := h
     refine aw_loop2 (fun (v9_2 : Int) (o34_2 : List (List (List Int))) => ⟨[(34, ⟨otabs o34_2, []⟩)], [(0, .c (.lst (tabs a))), (1, .c (cb zero)), (5, .c (.lst (rows (growL ((el a 0).length : Int) [])))), (6, .c (.lst (tabs v6_1))), (7, .c (ci v7_1)), (8, .ref 34), (9, .c (ci v9_2))], 73⟩) H3 m3 ⟨0, ([] : List (List (List Int))), ghe_to (n := 73) rfl rfl ⟨rfl, rfl, rfl, rfl, rfl, rfl, rfl, trivial⟩, q25⟩ ?_
     rintro v9_2 o34_2 q25
     replace h := h v9_2 o34_2 q25
     refine aw_seq ?_
     refine aw_seq ?_
     refine aw_region ?_
     refine run_s (ss_move rfl) rfl ?_
     refine run_s (ss_move rfl) rfl ?_
     refine run_s (ss_lenL (f := (fun r => C.lst (rows r))) rfl) rfl ?_
     refine run_s (ss_lss rfl rfl) rfl ?_
     refine run_nil ?_
     refine aw_cond rfl (fun q26 => ?_) (fun q26 => ?_)
     ·replace h := h.1 (of_decide_eq_true q26)
      refine aw_skip ?_
      refine aw_seq ?_
      refine aw_block ?_
      refine aw_gh (gh_to (n := 73) (σ' := [(34, ⟨otabs o34_2, []⟩)]) (env' := [(0, .c (.lst (tabs a))), (1, .c (cb zero)), (5, .c (.lst (rows (growL ((el a 0).length : Int) [])))), (6, .c (.lst (tabs v6_1))), (7, .c (ci v7_1)), (8, .ref 34), (9, .c (ci v9_2))]) rfl rfl ⟨rfl, rfl, rfl, rfl, rfl, rfl, rfl, trivial⟩) ?_
      refine aw_regionD (kd := kdl [0, 0, 0, 0, 1, 0, 0, 0, 1, 2, 2, 2, 0]) (ord := [0, 1, 2, 3, 5, 6, 7, 4, 8, 9, 10, 11, 12]) [34, 50, 51] mixed (by kernel_rfl) ?_
      refine rd_s rfl rfl trivial (ss_move rfl) rfl ?_
      refine rd_s rfl rfl trivial (ss_move rfl) rfl ?_
      refine rd_s rfl rfl trivial (ss_move rfl) rfl ?_
      obtain ⟨q27, h⟩ := h
      refine rd_s rfl rfl trivial (ss_idxL rfl rfl q27) rfl ?_
      refine rd_s rfl rfl trivial (ss_move rfl) rfl ?_
      refine rd_s rfl rfl trivial (ss_move rfl) rfl ?_
      obtain ⟨q28, h⟩ := h
      refine rd_s rfl rfl trivial (ss_idxL rfl rfl q28) rfl ?_
      refine rd_l rfl rfl trivial (ss_loadL (f := (fun r => C.lst (rows r))) rfl q27) rfl ?_
      refine rd_l rfl rfl trivial (ss_loadL (f := (fun r => C.lst (ints r))) rfl q28) rfl ?_
      obtain ⟨q29, h⟩ := h
      refine rd_w rfl rfl trivial rfl rfl (ws_call (xs := [.tmp 45, .tmp 49]) (ids := [50]) rfl rfl rfl rfl (c_spec_l03Image (el a v9_2) (el (growL ((el a 0).length : Int) []) v7_1) q29) rfl ?_ )
      rintro _ ⟨r2_0, q30, rfl⟩
      replace h := h r2_0 q30
      refine ⟨rfl, ?_⟩
      refine rd_w rfl rfl trivial rfl rfl (ws_buildSlice (id := 51) (ps := [(0, .tmp 50)]) rfl rfl (Nat.le_of_ble_eq_true rfl) rfl ⟨rfl, ?_⟩)
      obtain ⟨q31, h⟩ := h
      refine rd_w rfl rfl trivial rfl rfl (ws_gh (gh_fill (id := 51) (id2 := 50) (j := 0) rfl rfl (Nat.le_of_ble_eq_true rfl) rfl rfl rfl) (ws_app1 (fun r => C.own (orows r)) (l := o34_2) (m := [r2_0]) rfl rfl rfl rfl rfl (Nat.le_of_ble_eq_true rfl) q31 ⟨rfl, ?_⟩))
      refine rd_s rfl rfl trivial (ss_assign rfl) rfl ?_
      refine rd_nil ?_
      refine aw_gh (gh_to (n := 73) (σ' := [(34, ⟨otabs (o34_2 ++ ([r2_0])), []⟩)]) (env' := [(0, .c (.lst (tabs a))), (1, .c (cb zero)), (5, .c (.lst (rows (growL ((el a 0).length : Int) [])))), (6, .c (.lst (tabs v6_1))), (7, .c (ci v7_1)), (8, .ref 34), (9, .c (ci v9_2))]) rfl rfl ⟨rfl, rfl, rfl, rfl, rfl, rfl, rfl, trivial⟩) ?_
      refine aw_region ?_
      refine run_s (ss_move rfl) rfl ?_
      obtain ⟨q32, h⟩ := h
      refine run_s (ss_add rfl rfl q32) rfl ?_
      refine run_s (ss_assign rfl) rfl ?_
      refine run_nil ?_
      exact ⟨v9_2 + 1, o34_2 ++ ([r2_0]), ghe_to (n := 73) rfl rfl ⟨rfl, rfl, rfl, rfl, rfl, rfl, rfl, trivial⟩, h.1, h.2⟩
     ·replace h := h.2 (of_decide_eq_false q26)
      refine aw_exit ?_
      refine aw_seq ?_
      refine aw_region ?_
      refine run_s (ss_move rfl) rfl ?_
      refine run_s (ss_move rfl) rfl ?_
      obtain ⟨q33, h⟩ := h
      refine run_w (ws_callR (xs := [.tmp 53, .tmp 54]) (cs := [.own (otabs o34_2), .lst (tabs v6_1)]) (ids := []) rfl (.inr ⟨rfl, rfl⟩) rfl rfl (fz_cons (fz_own (fz_map (fun _ => (fz_own (fz_map (fun _ => (fz_own (fz_map (fun _ => rfl) _))) _))) _)) (fz_cons rfl fz_nil)) (c_spec_l03Before o34_2 v6_1 q33) rfl ?_ )
      rintro _ rfl
      refine ⟨rfl, rfl, ?_⟩
      refine run_nil ?_
      refine aw_cond rfl (fun q35 => ?_) (fun q35 => ?_)
      ·replace h := h.1 (of_decide_eq_true q35)
       refine aw_gh (gh_to (n := 73) (σ' := [(34, ⟨otabs o34_2, []⟩)]) (env' := [(0, .c (.lst (tabs a))), (1, .c (cb zero)), (5, .c (.lst (rows (growL ((el a 0).length : Int) [])))), (6, .c (.lst (tabs v6_1))), (7, .c (ci v7_1)), (8, .ref 34)]) rfl rfl ⟨rfl, rfl, rfl, rfl, rfl, rfl, trivial⟩) ?_
       refine aw_region ?_
       refine run_s (ss_move rfl) rfl ?_
       refine run_s (ss_assign rfl) rfl ?_
       refine run_nil ?_
       refine aw_region ?_
       refine run_s (ss_move rfl) rfl ?_
       obtain ⟨q36, h⟩ := h
       refine run_s (ss_add rfl rfl q36) rfl ?_
       refine run_s (ss_assign rfl) rfl ?_
       refine run_nil ?_
       exact ⟨o34_2, v7_1 + 1, ghe_step (gh_frzE (id := 34) (fun r => C.lst (rows r)) rfl (fun _ => (fz_own (fz_map (fun _ => (fz_own (fz_map (fun _ => rfl) _))) _)))) (ghe_to (n := 73) rfl rfl ⟨rfl, rfl, rfl, rfl, rfl, trivial⟩), h.1, h.2⟩
      ·replace h := h.2 (of_decide_eq_false q35)
       refine aw_skip ?_
       refine aw_region ?_
       refine run_s (ss_move rfl) rfl ?_
       obtain ⟨q37, h⟩ := h
       refine run_s (ss_add rfl rfl q37) rfl ?_
       refine run_s (ss_assign rfl) rfl ?_
       refine run_nil ?_
       exact ⟨v6_1, v7_1 + 1, ghe_step (gh_frzE (id := 34) (fun r => C.lst (rows r)) rfl (fun _ => (fz_own (fz_map (fun _ => (fz_own (fz_map (fun _ => rfl) _))) _)))) (ghe_to (n := 73) rfl rfl ⟨rfl, rfl, rfl, rfl, rfl, trivial⟩), h.1, h.2⟩
  ·replace h := h.2 (of_decide_eq_false q5)
   refine aw_exit ?_
   refine aw_seq ?_
   refine aw_gh (gh_to (n := 73) (σ' := []) (env' := [(6, .c (.lst (tabs v6_1)))]) rfl rfl ⟨rfl, trivial⟩) ?_
   refine aw_region ?_
   refine run_w (ws_buildSlice (id := 57) (ps := []) rfl rfl (Nat.le_of_ble_eq_true rfl) rfl ⟨rfl, ?_⟩)
   refine run_s (ss_assign rfl) rfl ?_
   refine run_nil ?_
   refine aw_seq ?_
   refine aw_seq ?_
   refine aw_region ?_
   refine run_s (ss_assign rfl) rfl ?_
   refine run_nil ?_
   refine aw_block ?_
   obtain ⟨H4, m4, q38, h⟩ := h
   refine aw_loop2 (fun (v11_2 : Int) (o57_2 : List (List (List Int))) => ⟨[(57, ⟨otabs o57_2, []⟩)], [(6, .c (.lst (tabs v6_1))), (10, .ref 57), (11, .c (ci v11_2))], 73⟩) H4 m4 ⟨0, ([] : List (List (List Int))), ghe_to (n := 73) rfl rfl ⟨rfl, rfl, rfl, trivial⟩, q38⟩ ?_
   rintro v11_2 o57_2 q38
   replace h := h v11_2 o57_2 q38
   refine aw_seq ?_
   refine aw_seq ?_
   refine aw_region ?_
   refine run_s (ss_move rfl) rfl ?_
   refine run_s (ss_move rfl) rfl ?_
   refine run_s (ss_lenL (f := (fun r => C.lst (rows r))) rfl) rfl ?_
   refine run_s (ss_lss rfl rfl) rfl ?_
   refine run_nil ?_
   refine aw_cond rfl (fun q39 => ?_) (fun q39 => ?_)
   ·replace h := h.1 (of_decide_eq_true q39)
    refine aw_skip ?_
    refine aw_seq ?_
    refine aw_block ?_
    refine aw_region ?_
    refine run_s (ss_move rfl) rfl ?_
    refine run_s (ss_move rfl) rfl ?_
    refine run_s (ss_move rfl) rfl ?_
    obtain ⟨q40, h⟩ := h
    refine run_s (ss_idxL rfl rfl q40) rfl ?_
    refine run_s (ss_loadL (f := (fun r => C.lst (rows r))) rfl q40) rfl ?_
    obtain ⟨q41, h⟩ := h
    refine run_w (ws_call (xs := [.tmp 68]) (ids := [69]) rfl rfl rfl rfl (c_spec_l01Own2 (el v6_1 v11_2) q41) rfl ?_ )
    rintro _ rfl
    refine ⟨rfl, ?_⟩
    refine run_w (ws_buildSlice (id := 70) (ps := [(0, .tmp 69)]) rfl rfl (Nat.le_of_ble_eq_true rfl) rfl ⟨rfl, ?_⟩)
    refine run_gh (gh_fill (id := 70) (id2 := 69) (j := 0) rfl rfl (Nat.le_of_ble_eq_true rfl) rfl rfl rfl) ?_
    obtain ⟨q43, h⟩ := h
    refine run_w (ws_app1 (fun r => C.own (orows r)) (l := o57_2) (m := [(el v6_1 v11_2)]) rfl rfl rfl rfl rfl (Nat.le_of_ble_eq_true rfl) q43 ⟨rfl, ?_⟩)
    refine run_s (ss_assign rfl) rfl ?_
    refine run_nil ?_
    refine aw_gh (gh_to (n := 73) (σ' := [(57, ⟨otabs (o57_2 ++ ([(el v6_1 v11_2)])), []⟩)]) (env' := [(6, .c (.lst (tabs v6_1))), (10, .ref 57), (11, .c (ci v11_2))]) rfl rfl ⟨rfl, rfl, rfl, trivial⟩) ?_
    refine aw_region ?_
    refine run_s (ss_move rfl) rfl ?_
    obtain ⟨q44, h⟩ := h
    refine run_s (ss_add rfl rfl q44) rfl ?_
    refine run_s (ss_assign rfl) rfl ?_
    refine run_nil ?_
    exact ⟨v11_2 + 1, o57_2 ++ ([(el v6_1 v11_2)]), ghe_to (n := 73) rfl rfl ⟨rfl, rfl, rfl, trivial⟩, h.1, h.2⟩
   ·replace h := h.2 (of_decide_eq_false q39)
    refine aw_exit ?_
    refine aw_seq ?_
    refine aw_gh (gh_to (n := 73) (σ' := [(57, ⟨otabs o57_2, []⟩)]) (env' := [(10, .ref 57)]) rfl rfl ⟨rfl, trivial⟩) ?_
    refine aw_region ?_
    refine run_s (ss_move rfl) rfl ?_
    refine run_s (ss_assign rfl) rfl ?_
    refine run_nil ?_
    refine aw_ret ?_
    exact retAF_mk (retv1 rfl (rv_tmp rfl)) rfl rfl ⟨_, (cle_refl _), _, h, rfl⟩

theorem c_spec_l03Least (a : List (List (List Int))) (zero : Bool) (hp : ∃ t_ : List (List Int), a = [t_] ∧ isTab t_ = true ∧ (t_.length : Int) ≤ 7 ∧ zero = false) : AF Try.prog 51 [.lst (tabs a), cb zero] (fun R_ => R_ = .own (otabs ([LeaT (el a 0)]))) :=
  (w_spec_l03Least a zero (fun y0 => y0 = [LeaT (el a 0)]) (p_spec_l03Least a zero hp)).mono (by rintro r ⟨_, rfl, rfl⟩; rfl)

set_option maxRecDepth 100000 in
set_option maxHeartbeats 4000000 in
theorem w_impl_LeastRack (r : List (List Int)) (Q : List (List Int) → Int → Prop) (h : wp_impl_LeastRack r Q) : AF Try.prog 25 [.agg [.lst (rows r)]] (fun R_ => ∃ y0 y1, Q y0 y1 ∧ R_ = .tup [.agg [.own (orows y0)], ci y1]) := by
  refine AF.ofWQ (af_enter (n := 19) Try.func25 rfl (by rfl) rfl (Nat.le_of_ble_eq_true rfl) ?_)
  unfold wp_impl_LeastRack at h
  refine aw_seq ?_
  refine aw_gh (gh_to (n := 19) (σ' := []) (env' := [(0, .c (.agg [.lst (rows r)]))]) rfl rfl ⟨rfl, trivial⟩) ?_
  refine aw_region ?_
  refine run_w (ws_boxR rfl (.inl rfl) rfl ⟨rfl, ?_⟩)
  refine run_w (ws_alloc (id := 2) rfl (Nat.le_of_ble_eq_true rfl) ⟨rfl, ?_⟩)
  refine run_s (ss_assign rfl) rfl ?_
  refine run_nil ?_
  refine aw_seq ?_
  refine aw_seq ?_
  refine aw_region ?_
  refine run_s (ss_load_struct rfl (Nat.le_of_ble_eq_true rfl)) rfl ?_
  obtain ⟨q1, h⟩ := h
  refine run_w (ws_call (xs := [.tmp 6]) (ids := []) rfl rfl rfl rfl (c_impl_IsRack r q1) rfl ?_ )
  rintro _ rfl
  refine ⟨rfl, ?_⟩
  refine run_s (ss_not rfl) rfl ?_
  refine run_nil ?_
  refine aw_cond rfl (fun q3 => ?_) (fun q3 => ?_)
  ·replace h := h.1 ((bnot_t q3))
   refine aw_seq ?_
   refine aw_gh (gh_to (n := 19) (σ' := [(2, ⟨[cnil], []⟩)]) (env' := [(2, .cell 2 0), (3, .c (ci 0))]) rfl rfl ⟨rfl, rfl, trivial⟩) ?_
   refine aw_region ?_
   refine run_s (ss_build0) rfl ?_
   refine run_w (ws_storeS rfl rfl (Nat.le_of_ble_eq_true rfl) rfl rfl rfl ⟨rfl, ?_⟩)
   refine run_s (ss_assign rfl) rfl ?_
   refine run_nil ?_
   refine aw_ret ?_
   exact retAF_mk (retv2 rfl (rv_struct rfl rfl rfl) (rv_tmp rfl)) rfl rfl ⟨_, (cle_tup (cleL_cons (cle_agg (cleL_cons cle_nilO cleL_nil)) (cleL_cons (cle_refl _) cleL_nil))), _, _, h, rfl⟩
  ·replace h := h.2 ((bnot_f q3))
   refine aw_skip ?_
   refine aw_seq ?_
   refine aw_region ?_
   refine run_s (ss_field_ptr rfl) rfl ?_
   refine run_s (ss_load_ptr rfl rfl) rfl ?_
   obtain ⟨q4, h⟩ := h
   refine run_w (ws_call (xs := [.tmp 12]) (ids := [13]) rfl rfl rfl rfl (c_impl_LeastTable r q4) rfl ?_ )
   rintro _ rfl
   refine ⟨rfl, ?_⟩
   refine run_s (ss_move rfl) rfl ?_
   refine run_s (ss_extract rfl rfl) rfl ?_
   refine run_s (ss_extract rfl rfl) rfl ?_
   refine run_s (ss_assign rfl) rfl ?_
   refine run_s (ss_assign rfl) rfl ?_
   refine run_nil ?_
   refine aw_seq ?_
   refine aw_gh (gh_to (n := 19) (σ' := [(13, ⟨orows (LeaT r), []⟩), (2, ⟨[cnil], []⟩)]) (env' := [(2, .cell 2 0), (3, .c (ci 0)), (4, .ref 13), (5, .c (ci (LeaE r)))]) rfl rfl ⟨rfl, rfl, rfl, rfl, trivial⟩) ?_
   refine aw_region ?_
   refine run_s (ss_move rfl) rfl ?_
   refine run_s (ss_build (ps := [(0, .tmp 16)]) rfl rfl) rfl ?_
   refine run_s (ss_move rfl) rfl ?_
   refine run_w (ws_storeS rfl rfl (Nat.le_of_ble_eq_true rfl) rfl rfl rfl ⟨rfl, ?_⟩)
   refine run_s (ss_assign rfl) rfl ?_
   refine run_nil ?_
   refine aw_ret ?_
   exact retAF_mk (retv2 rfl (rv_struct rfl rfl rfl) (rv_tmp rfl)) rfl rfl ⟨_, (cle_refl _), _, _, h, rfl⟩

theorem c_impl_LeastRack (r : List (List Int)) (hp : small2 r) : AF Try.prog 25 [.agg [.lst (rows r)]] (fun R_ => R_ = .tup [.agg [.own (orows (if isRk r then LeaT r else []))], ci (if isRk r then LeaE r else 1)]) :=
  (w_impl_LeastRack r (fun y0 y1 => y0 = (if isRk r then LeaT r else []) ∧ y1 = (if isRk r then LeaE r else 1)) (p_impl_LeastRack r hp)).mono (by rintro r ⟨_, _, ⟨rfl, rfl⟩, rfl⟩; rfl)

set_option maxRecDepth 100000 in
set_option maxHeartbeats 4000000 in
theorem w_spec_LeastRack (r : List (List Int)) (Q : List (List Int) → Int → Prop) (h : wp_spec_LeastRack r Q) : AF Try.prog 24 [.agg [.lst (rows r)]] (fun R_ => ∃ y0 y1, Q y0 y1 ∧ R_ = .tup [.agg [.lst (rows y0)], ci y1]) := by
  refine AF.ofWQ (af_enter (n := 22) Try.func24 rfl (by rfl) rfl (Nat.le_of_ble_eq_true rfl) ?_)
  unfold wp_spec_LeastRack at h
  refine aw_seq ?_
  refine aw_gh (gh_to (n := 22) (σ' := []) (env' := [(0, .c (.agg [.lst (rows r)]))]) rfl rfl ⟨rfl, trivial⟩) ?_
  refine aw_region ?_
  refine run_w (ws_boxR rfl (.inl rfl) rfl ⟨rfl, ?_⟩)
  refine run_w (ws_alloc (id := 2) rfl (Nat.le_of_ble_eq_true rfl) ⟨rfl, ?_⟩)
  refine run_s (ss_assign rfl) rfl ?_
  refine run_nil ?_
  refine aw_seq ?_
  refine aw_block ?_
  refine aw_seq ?_
  refine aw_region ?_
  refine run_s (ss_load_struct rfl (Nat.le_of_ble_eq_true rfl)) rfl ?_
  obtain ⟨q1, h⟩ := h
  refine run_w (ws_call (xs := [.tmp 5]) (ids := []) rfl rfl rfl rfl (c_spec_l03Is r q1) rfl ?_ )
  rintro _ rfl
  refine ⟨rfl, ?_⟩
  refine run_s (ss_not rfl) rfl ?_
  refine run_s (ss_assign rfl) rfl ?_
  refine run_nil ?_
  refine aw_cond rfl (fun q3 => ?_) (fun q3 => ?_)
  ·replace h := h.1 ((bnot_t q3))
   refine aw_seq ?_
   refine aw_gh (gh_to (n := 22) (σ' := [(2, ⟨[cnil], []⟩)]) (env' := [(2, .cell 2 0), (3, .c (ci 0))]) rfl rfl ⟨rfl, rfl, trivial⟩) ?_
   refine aw_region ?_
   refine run_s (ss_build0) rfl ?_
   refine run_w (ws_storeS rfl rfl (Nat.le_of_ble_eq_true rfl) rfl rfl rfl ⟨rfl, ?_⟩)
   refine run_s (ss_assign rfl) rfl ?_
   refine run_nil ?_
   refine aw_ret ?_
   exact retAF_mk (retv2 rfl (rv_struct rfl rfl rfl) (rv_tmp rfl)) rfl rfl ⟨_, (cle_tup (cleL_cons (cle_agg (cleL_cons cle_nilL cleL_nil)) (cleL_cons (cle_refl _) cleL_nil))), _, _, h, rfl⟩
  ·replace h := h.2 ((bnot_f q3))
   refine aw_seq ?_
   refine aw_region ?_
   refine run_s (ss_field_ptr rfl) rfl ?_
   refine run_s (ss_load_ptr rfl rfl) rfl ?_
   refine run_s (ss_lenL (f := (fun r => C.lst (ints r))) rfl) rfl ?_
   refine run_s (ss_gtr rfl rfl) rfl ?_
   refine run_s (ss_assign rfl) rfl ?_
   refine run_nil ?_
   refine aw_cond rfl (fun q4 => ?_) (fun q4 => ?_)
   ·replace h := h.1 (of_decide_eq_true q4)
    refine aw_seq ?_
    refine aw_gh (gh_to (n := 22) (σ' := [(2, ⟨[cnil], []⟩)]) (env' := [(2, .cell 2 0), (3, .c (ci 0))]) rfl rfl ⟨rfl, rfl, trivial⟩) ?_
    refine aw_region ?_
    refine run_s (ss_build0) rfl ?_
    refine run_w (ws_storeS rfl rfl (Nat.le_of_ble_eq_true rfl) rfl rfl rfl ⟨rfl, ?_⟩)
    refine run_s (ss_assign rfl) rfl ?_
    refine run_nil ?_
    refine aw_ret ?_
    exact retAF_mk (retv2 rfl (rv_struct rfl rfl rfl) (rv_tmp rfl)) rfl rfl ⟨_, (cle_tup (cleL_cons (cle_agg (cleL_cons cle_nilL cleL_nil)) (cleL_cons (cle_refl _) cleL_nil))), _, _, h, rfl⟩
   ·replace h := h.2 (of_decide_eq_false q4)
    refine aw_skip ?_
    refine aw_seq ?_
    refine aw_gh (gh_to (n := 22) (σ' := [(2, ⟨[cnil], []⟩)]) (env' := [(1, .c (.ptr [.lst (rows r)])), (2, .cell 2 0), (3, .c (ci 0))]) rfl rfl ⟨rfl, rfl, rfl, trivial⟩) ?_
    refine aw_region ?_
    refine run_s (ss_field_ptr rfl) rfl ?_
    refine run_s (ss_load_ptr rfl rfl) rfl ?_
    refine run_w (ws_buildSlice (id := 17) (ps := [(0, .tmp 16)]) rfl rfl (Nat.le_of_ble_eq_true rfl) rfl ⟨rfl, ?_⟩)
    obtain ⟨q5, h⟩ := h
    refine run_w (ws_callR (xs := [.tmp 17, .const (.bool false)]) (cs := [.own (tabs ([r])), cb false]) (ids := [18]) rfl (.inr ⟨rfl, rfl⟩) rfl rfl (fz_cons (fz_own (fz_map (fun _ => rfl) _)) (fz_cons rfl fz_nil)) (c_spec_l03Least ([r]) false q5) rfl ?_ )
    rintro _ rfl
    refine ⟨(slf_own (slfL_map (f := (fun r => C.own (orows r))) (fun _ => (slf_own (slfL_map (f := (fun r => C.own (ints r))) (fun _ => (slf_own (slfL_map (f := ci) (fun _ => rfl) _))) _))) _)), rfl, ?_⟩
    obtain ⟨q7, h⟩ := h
    refine run_s (ss_idxR (f := (fun r => C.own (orows r))) rfl rfl rfl q7) rfl ?_
    refine run_gh (gh_open 1001 (id := 18) (j := (0 : Int).toNat) rfl (map_get (f := (fun r => C.own (orows r))) q7) rfl) ?_
    refine run_s (ss_loadH rfl rfl lk_self rfl) rfl ?_
    refine run_s (ss_build (ps := [(0, .tmp 20)]) rfl rfl) rfl ?_
    refine run_w (ws_storeS rfl rfl (Nat.le_of_ble_eq_true rfl) rfl rfl rfl ⟨rfl, ?_⟩)
    refine run_s (ss_assign rfl) rfl ?_
    refine run_nil ?_
    refine aw_gh (gh_frzE (id := 1001) (fun r => C.lst (ints r)) rfl (fun _ => (fz_own (fz_map (fun _ => rfl) _)))) ?_
    refine aw_ret ?_
    exact retAF_mk (retv2 rfl (rv_struct rfl rfl rfl) (rv_tmp rfl)) rfl rfl ⟨_, (cle_refl _), _, _, h, rfl⟩

theorem c_spec_LeastRack (r : List (List Int)) (hp : small2 r) : AF Try.prog 24 [.agg [.lst (rows r)]] (fun R_ => R_ = .tup [.agg [.lst (rows (if isRk r then LeaT r else []))], ci (if isRk r then LeaE r else 1)]) :=
  (w_spec_LeastRack r (fun y0 y1 => y0 = (if isRk r then LeaT r else []) ∧ y1 = (if isRk r then LeaE r else 1)) (p_spec_LeastRack r hp)).mono (by rintro r ⟨_, _, ⟨rfl, rfl⟩, rfl⟩; rfl)

end Go.Proofs.Ytpcnbdjommcaoaa

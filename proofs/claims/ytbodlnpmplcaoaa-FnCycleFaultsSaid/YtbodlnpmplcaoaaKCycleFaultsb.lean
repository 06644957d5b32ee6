/- Contracts of functions that the law FnCycleFaults reaches: conditions, plain proofs, walks; no condition. -/
import Derived.Test.YtbodlnpmplcaoaaKCycleFaultsa
import Derived.Test.YtbodlnpmplcaoaaPj
namespace Go.Proofs.Ytbodlnpmplcaoaa

def wp_k_Index (s : List Int) (v : Int) (Q : Int → Prop) : Prop :=
 ∃ (H1 : Int → Prop) (m1 : Int → Nat),
 H1 0 ∧
 ∀ (v8_1 : Int), H1 v8_1 →
 ( ((v8_1 < (s.length : Int) →
 (0 ≤ v8_1 ∧ v8_1 < (s.length : Int)) ∧
 ((v = el s v8_1 →
 Q v8_1) ∧
 (¬ (v = el s v8_1) →
 (InI (v8_1 + 1)) ∧
 (H1 (v8_1 + 1) ∧ m1 (v8_1 + 1) < m1 v8_1)))) ∧
 (¬ (v8_1 < (s.length : Int)) →
 Q (-1))))

def wp_spec_l01Unit (n : Int) (Q : List Int → Prop) : Prop :=
 ∃ (H1 : Int → List Int → Prop) (m1 : Int → List Int → Nat),
 H1 0 ([] : List Int) ∧
 ∀ (v4_1 : Int) (o5_1 : List Int), H1 v4_1 o5_1 →
 ( ((v4_1 < n →
 ((o5_1.length : Int) + (([v4_1]).length : Int) ≤ 1000000000) ∧
 (InI (v4_1 + 1)) ∧
 (H1 (v4_1 + 1) (o5_1 ++ ([v4_1])) ∧ m1 (v4_1 + 1) (o5_1 ++ ([v4_1])) < m1 v4_1 o5_1)) ∧
 (¬ (v4_1 < n) →
 Q o5_1)))

def wp_spec_l01Then (p : List Int) (q : List Int) (Q : List Int → Prop) : Prop :=
 ∃ (H1 : Int → List Int → Prop) (m1 : Int → List Int → Nat),
 H1 0 ([] : List Int) ∧
 ∀ (v6_1 : Int) (o7_1 : List Int), H1 v6_1 o7_1 →
 ( ((v6_1 < (p.length : Int) →
 (0 ≤ v6_1 ∧ v6_1 < (p.length : Int)) ∧
 (0 ≤ el p v6_1 ∧ el p v6_1 < (q.length : Int)) ∧
 ((o7_1.length : Int) + (([el q (el p v6_1)]).length : Int) ≤ 1000000000) ∧
 (InI (v6_1 + 1)) ∧
 (H1 (v6_1 + 1) (o7_1 ++ ([el q (el p v6_1)])) ∧ m1 (v6_1 + 1) (o7_1 ++ ([el q (el p v6_1)])) < m1 v6_1 o7_1)) ∧
 (¬ (v6_1 < (p.length : Int)) →
 Q o7_1)))

def wp_impl_then (p : List Int) (q : List Int) (Q : List Int → Prop) : Prop :=
 (0 ≤ (p.length : Int) ∧ (p.length : Int) ≤ 1000000000) ∧
 ∃ (H1 : Int → List Int → Prop) (m1 : Int → List Int → Nat),
 H1 0 (List.replicate (p.length : Int).toNat (0 : Int)) ∧
 ∀ (v13_1 : Int) (o10_1 : List Int), H1 v13_1 o10_1 →
 ( ((v13_1 < (p.length : Int) →
 (0 ≤ v13_1 ∧ v13_1 < (p.length : Int)) ∧
 (0 ≤ el p v13_1 ∧ el p v13_1 < (q.length : Int)) ∧
 (0 ≤ v13_1 ∧ v13_1 < (o10_1.length : Int)) ∧
 (InI (v13_1 + 1)) ∧
 (H1 (v13_1 + 1) (se o10_1 v13_1 (el q (el p v13_1))) ∧ m1 (v13_1 + 1) (se o10_1 v13_1 (el q (el p v13_1))) < m1 v13_1 o10_1)) ∧
 (¬ (v13_1 < (p.length : Int)) →
 Q o10_1)))

def wp_spec_l01Back (p : List Int) (Q : List Int → Prop) : Prop :=
 (0 ≤ (p.length : Int) ∧ (p.length : Int) ≤ 1000000000) ∧
 ∃ (H1 : Int → List Int → Prop) (m1 : Int → List Int → Nat),
 H1 0 (List.replicate (p.length : Int).toNat (0 : Int)) ∧
 ∀ (v4_1 : Int) (o7_1 : List Int), H1 v4_1 o7_1 →
 ( ((v4_1 < (p.length : Int) →
 (0 ≤ v4_1 ∧ v4_1 < (p.length : Int)) ∧
 (0 ≤ el p v4_1 ∧ el p v4_1 < (o7_1.length : Int)) ∧
 (InI (v4_1 + 1)) ∧
 (H1 (v4_1 + 1) (se o7_1 (el p v4_1) v4_1) ∧ m1 (v4_1 + 1) (se o7_1 (el p v4_1) v4_1) < m1 v4_1 o7_1)) ∧
 (¬ (v4_1 < (p.length : Int)) →
 Q o7_1)))

def wp_spec_l01Rows (t : List (List Int)) (Q : Bool → Prop) : Prop :=
 ∃ (H1 : Int → Prop) (m1 : Int → Nat),
 H1 0 ∧
 ∀ (v3_1 : Int), H1 v3_1 →
 ( ((v3_1 < (t.length : Int) →
 (0 ≤ v3_1 ∧ v3_1 < (t.length : Int)) ∧
 (small (el t v3_1)) ∧
 (((permB (el t v3_1)) = false →
 Q false) ∧
 ((permB (el t v3_1)) = true →
 (InI (v3_1 + 1)) ∧
 (H1 (v3_1 + 1) ∧ m1 (v3_1 + 1) < m1 v3_1)))) ∧
 (¬ (v3_1 < (t.length : Int)) →
 Q true)))

def wp_impl_permutationRows_1 (row : List Int) (Q : Bool → Prop) : Prop :=
 (small row) ∧
 Q (!((isPerm row)))

def wp_impl_permutationRows (t : List (List Int)) (Q : Bool → Prop) : Prop :=
 (small t ∧ ∀ r_ ∈ t, (fun z0 => small z0) r_) ∧
 Q (!((t.any (fun z0 => !isPerm z0))))

def wp_impl_increasing (list : List Int) (Q : Bool → Prop) : Prop :=
 ∃ (H1 : Int → Prop) (m1 : Int → Nat),
 H1 1 ∧
 ∀ (v3_1 : Int), H1 v3_1 →
 ( ((v3_1 < (list.length : Int) →
 (InI (v3_1 - 1)) ∧
 (0 ≤ v3_1 - 1 ∧ v3_1 - 1 < (list.length : Int)) ∧
 (0 ≤ v3_1 ∧ v3_1 < (list.length : Int)) ∧
 ((el list v3_1 ≤ el list (v3_1 - 1) →
 Q false) ∧
 (¬ (el list v3_1 ≤ el list (v3_1 - 1)) →
 (InI (v3_1 + 1)) ∧
 (H1 (v3_1 + 1) ∧ m1 (v3_1 + 1) < m1 v3_1)))) ∧
 (¬ (v3_1 < (list.length : Int)) →
 Q true)))

def wp_impl_isIdentity (p : List Int) (Q : Bool → Prop) : Prop :=
 (small p) ∧
 Q (incB p)

def wp_impl_indexIn (list : List Int) (x : Int) (Q : Int → Prop) : Prop :=
 (small list) ∧
 Q (idxI list x)

def wp_impl_areElements (n : Int) (list : List Int) (Q : Bool → Prop) : Prop :=
 (InI (n - 1)) ∧
 (small list) ∧
 Q (list.all (fun z_ => decide ((0 : Int) ≤ z_) && decide (z_ ≤ (n - 1))))

def wp_impl_IsCycleSet (c : List (List Int)) (Q : Bool → Prop) : Prop :=
 (small2 c) ∧
 (((isTab c) = true →
 (small2 c) ∧
 (((c.all isPerm) = true →
 (isTab c = true) ∧
 (small (diag c)) ∧
 (((isPerm (diag c)) = true →
 (((cycF c) = [] →
 (isTab c = true) ∧
 Q true) ∧
 (¬ (cycF c) = [] →
 (isTab c = true) ∧
 Q false))) ∧
 ((isPerm (diag c)) = false →
 Q false))) ∧
 ((c.all isPerm) = false →
 Q false))) ∧
 ((isTab c) = false →
 Q false))

def wp_spec_l05Is (c : List (List Int)) (Q : Bool → Prop) : Prop :=
 (small2 c) ∧
 (((isTab c) = true →
 (small2 c) ∧
 (((c.all permB) = true →
 (isTab c = true) ∧
 (small (diag c)) ∧
 (((permB (diag c)) = true →
 (isTab c = true) ∧
 Q (decide (((cycF c).length : Int) = 0))) ∧
 ((permB (diag c)) = false →
 Q false))) ∧
 ((c.all permB) = false →
 Q false))) ∧
 ((isTab c) = false →
 Q false))

def wp_spec_l05Affine (n : Int) (a : Int) (b : Int) (c : Int) (Q : List (List Int) → Prop) : Prop :=
 ∃ (H1 : Int → List (List Int) → Prop) (m1 : Int → List (List Int) → Nat),
 H1 0 ([] : List (List Int)) ∧
 ∀ (v10_1 : Int) (o200144_1 : List (List Int)), H1 v10_1 o200144_1 →
 ( ((v10_1 < n →
 ∃ (H2 : Int → List Int → Prop) (m2 : Int → List Int → Nat),
 H2 0 ([] : List Int) ∧
 ∀ (v12_2 : Int) (o19_2 : List Int), H2 v12_2 o19_2 →
 ( ((v12_2 < n →
 (InI (a * v10_1)) ∧
 (InI (b * v12_2)) ∧
 (InI ((a * v10_1) + (b * v12_2))) ∧
 (InI (((a * v10_1) + (b * v12_2)) + c)) ∧
 ((0 : Int) ≤ ((a * v10_1) + (b * v12_2)) + c ∧ (0 : Int) < n) ∧
 ((o19_2.length : Int) + (([(((a * v10_1) + (b * v12_2)) + c) % n]).length : Int) ≤ 1000000000) ∧
 (InI (v12_2 + 1)) ∧
 (H2 (v12_2 + 1) (o19_2 ++ ([(((a * v10_1) + (b * v12_2)) + c) % n])) ∧ m2 (v12_2 + 1) (o19_2 ++ ([(((a * v10_1) + (b * v12_2)) + c) % n])) < m2 v12_2 o19_2)) ∧
 (¬ (v12_2 < n) →
 ((o200144_1.length : Int) + (([o19_2]).length : Int) ≤ 1000000000) ∧
 (InI (v10_1 + 1)) ∧
 (H1 (v10_1 + 1) (o200144_1 ++ ([o19_2])) ∧ m1 (v10_1 + 1) (o200144_1 ++ ([o19_2])) < m1 v10_1 o200144_1))))) ∧
 (¬ (v10_1 < n) →
 Q o200144_1)))

def wp_impl_DotPower (c : List (List Int)) (x : Int) (k : Int) (Q : Int → Int → Prop) : Prop :=
 (small2 c) ∧
 (((isCyc c) = false →
 Q 0 1) ∧
 ((isCyc c) = true →
 (small ([x]) ∧ 0 ≤ (c.length : Int) ∧ (c.length : Int) ≤ 1000000000) ∧
 (((([x]).all (fun z_ => decide (0 ≤ z_) && decide (z_ ≤ (c.length : Int) - 1))) = false →
 Q 0 2) ∧
 ((([x]).all (fun z_ => decide (0 ≤ z_) && decide (z_ ≤ (c.length : Int) - 1))) = true →
 (((decide ((0 : Int) ≤ k) && decide (k ≤ (1000 : Int))) = false →
 Q 0 2) ∧
 ((decide ((0 : Int) ≤ k) && decide (k ≤ (1000 : Int))) = true →
 ∃ (H1 : Int → Int → Prop) (m1 : Int → Int → Nat),
 H1 x 0 ∧
 ∀ (v1_1 : Int) (v24_1 : Int), H1 v1_1 v24_1 →
 ( ((v24_1 < k →
 (0 ≤ v1_1 ∧ v1_1 < (c.length : Int)) ∧
 (0 ≤ v1_1 ∧ v1_1 < ((el c v1_1).length : Int)) ∧
 (InI (v24_1 + 1)) ∧
 (H1 (el (el c v1_1) v1_1) (v24_1 + 1) ∧ m1 (el (el c v1_1) v1_1) (v24_1 + 1) < m1 v1_1 v24_1)) ∧
 (¬ (v24_1 < k) →
 Q v1_1 0)))))))))

def wp_impl_DotSolve (c : List (List Int)) (x : Int) (z : Int) (Q : Int → Int → Prop) : Prop :=
 (small2 c) ∧
 (((isCyc c) = false →
 Q 0 1) ∧
 ((isCyc c) = true →
 (small ([x, z]) ∧ 0 ≤ (c.length : Int) ∧ (c.length : Int) ≤ 1000000000) ∧
 (((([x, z]).all (fun z_ => decide (0 ≤ z_) && decide (z_ ≤ (c.length : Int) - 1))) = false →
 Q 0 2) ∧
 ((([x, z]).all (fun z_ => decide (0 ≤ z_) && decide (z_ ≤ (c.length : Int) - 1))) = true →
 (0 ≤ x ∧ x < (c.length : Int)) ∧
 (small (el c x)) ∧
 Q (idxI (el c x) z) 0))))

theorem p_k_Index (s : List Int) (v : Int) (hp : small s) : wp_k_Index s v (fun y0 => y0 = idxI s v) := by
  unfold wp_k_Index idxI
  refine ⟨fun i => 0 ≤ i ∧ i ≤ (s.length : Int) ∧ Upto i fun j => (el s j == v) = false, fun i => ((s.length : Int) - i).toNat, ⟨by omega, by omega, upto0⟩, ?_⟩
  rintro i ⟨h0, h1, hI⟩
  dsimp only
  refine ⟨fun hlt => ⟨⟨h0, hlt⟩, fun hf => (idxF_found ⟨h0, hlt⟩ hI (by simp [hf])).symm, fun ht => ⟨⟨by omega, by omega⟩, ⟨by omega, by omega, upto1 hI (by simpa using fun e => ht e.symm)⟩, by omega⟩⟩, fun hge => ?_⟩
  exact (idxF_none (by rwa [show i = (s.length : Int) by omega] at hI)).symm
theorem p_spec_l01Unit (n : Int) (hp : 0 ≤ n ∧ n ≤ 1000000) : wp_spec_l01Unit n (fun y0 => y0 = unitI n) := by
  unfold wp_spec_l01Unit
  refine ⟨fun i o => 0 ≤ i ∧ i ≤ n ∧ o.length = i.toNat ∧ Upto i fun x => el o x = x, fun i _ => (n - i).toNat, ⟨by omega, by omega, by simp, upto0⟩, ?_⟩
  rintro i o ⟨i0, i1, il, iI⟩
  dsimp only
  exact ⟨fun ilt => ⟨by simp; omega, ⟨by omega, by omega⟩, ⟨by omega, by omega, by simp; omega, app1 (f := fun x => x) (by omega) iI rfl⟩, by omega⟩, fun ige => eq_ran (f := id) (by omega) fun j a b => iI j a (by omega)⟩
theorem p_spec_l01Then (p q : List Int) (hp : small p ∧ ∀ x_ ∈ p, 0 ≤ x_ ∧ x_ < (q.length : Int)) : wp_spec_l01Then p q (fun y0 => y0 = p.map (el q)) := by
  unfold wp_spec_l01Then
  obtain ⟨h1, h2⟩ := hp
  refine ⟨fun i o => 0 ≤ i ∧ i ≤ (p.length : Int) ∧ o.length = i.toNat ∧ Upto i fun x => el o x = el q (el p x), fun i _ => ((p.length : Int) - i).toNat, ⟨by omega, by omega, by simp, upto0⟩, ?_⟩
  rintro i o ⟨i0, i1, il, iI⟩
  dsimp only
  refine ⟨fun ilt => ⟨⟨i0, ilt⟩, h2 _ (el_mem ⟨i0, ilt⟩), by simp; omega, ⟨by omega, by omega⟩, ⟨by omega, by omega, by simp; omega, app1 (f := fun x => el q (el p x)) (by omega) iI rfl⟩, by omega⟩, fun ige => ext_el (by simp; omega) fun j a b => ?_⟩
  rw [el_map ⟨a, by omega⟩]; exact iI j a (by omega)
theorem p_impl_then (p q : List Int) (hp : small p ∧ ∀ x_ ∈ p, 0 ≤ x_ ∧ x_ < (q.length : Int)) : wp_impl_then p q (fun y0 => y0 = p.map (el q)) := by
  unfold wp_impl_then
  obtain ⟨h1, h2⟩ := hp
  refine ⟨⟨by omega, h1⟩, fun i o => 0 ≤ i ∧ i ≤ (p.length : Int) ∧ o.length = p.length ∧ Upto i fun j => el o j = el q (el p j), fun i _ => ((p.length : Int) - i).toNat, ⟨by omega, by omega, by simp, upto0⟩, ?_⟩
  rintro i o ⟨h0, h3, hl, hI⟩
  dsimp only
  refine ⟨fun hlt => ⟨⟨h0, hlt⟩, h2 _ (el_mem ⟨h0, hlt⟩), ⟨h0, by omega⟩, ⟨by omega, by omega⟩, ⟨by omega, by omega, by simp [hl], fill1 (f := fun j => el q (el p j)) ⟨h0, by omega⟩ hI rfl⟩, by omega⟩, fun hge => ext_el (by simp [hl]) fun j a b => ?_⟩
  rw [el_map ⟨a, by omega⟩]; exact hI j a (by omega)
theorem p_spec_l01Back (p : List Int) (hp : small p ∧ isPerm p = true) : wp_spec_l01Back p (fun y0 => y0 = backI p) := by
  unfold wp_spec_l01Back
  obtain ⟨h1, h2⟩ := hp
  refine ⟨⟨by omega, h1⟩, fun i o => 0 ≤ i ∧ i ≤ (p.length : Int) ∧ o.length = p.length ∧ Upto i fun j => el o (el p j) = j, fun i _ => ((p.length : Int) - i).toNat, ⟨by omega, by omega, by simp, upto0⟩, ?_⟩
  rintro i o ⟨h0, h3, hl, hI⟩
  dsimp only
  refine ⟨fun hlt => ?_, fun hge => backI_uniq h2 hl fun j a b => hI j a (by omega)⟩
  have hb := isPerm_el h2 ⟨h0, hlt⟩
  refine ⟨⟨h0, hlt⟩, ⟨hb.1, by omega⟩, ⟨by omega, by omega⟩, ⟨by omega, by omega, by simp [hl], upto1 (fun j a b => ?_) (by rw [el_se_same ⟨hb.1, by omega⟩])⟩, by omega⟩
  have hj := isPerm_el h2 (i := j) ⟨a, by omega⟩
  rw [el_se_ne hb.1 hj.1 fun e => by have := isPerm_inj h2 ⟨h0, hlt⟩ ⟨a, by omega⟩ e; omega]
  exact hI j a b
theorem p_spec_l01Rows (t : List (List Int)) (hp : small2 t) : wp_spec_l01Rows t (fun y0 => y0 = t.all permB) := by
  unfold wp_spec_l01Rows
  obtain ⟨h1, h2⟩ := hp
  refine ⟨fun i => 0 ≤ i ∧ i ≤ (t.length : Int) ∧ Upto i fun j => permB (el t j) = true, fun i => ((t.length : Int) - i).toNat, ⟨by omega, by omega, upto0⟩, ?_⟩
  rintro i ⟨h0, h3, hI⟩
  dsimp only
  refine ⟨fun hlt => ⟨⟨h0, hlt⟩, h2 _ (el_mem ⟨h0, hlt⟩), fun hf => (all_f ⟨h0, hlt⟩ hf).symm, fun ht => ⟨⟨by omega, by omega⟩, ⟨by omega, by omega, upto1 hI ht⟩, by omega⟩⟩, fun hge => ?_⟩
  exact (all_t (by rwa [show i = (t.length : Int) by omega] at hI)).symm
theorem p_impl_permutationRows_1 (row : List Int) (hp : small row) : wp_impl_permutationRows_1 row (fun y0 => y0 = !isPerm row) := ⟨hp, rfl⟩
theorem p_impl_permutationRows (t : List (List Int)) (hp : small2 t) : wp_impl_permutationRows t (fun y0 => y0 = t.all isPerm) := by
  refine ⟨⟨hp.1, hp.2⟩, ?_⟩
  rw [List.not_any_eq_all_not]; simp
theorem p_impl_increasing (list : List Int) (hp : small list) : wp_impl_increasing list (fun y0 => y0 = incB list) := by
  unfold wp_impl_increasing
  refine ⟨fun i => 1 ≤ i ∧ (i ≤ (list.length : Int) ∨ i = 1) ∧ ∀ j, 0 ≤ j → j + 1 < i → el list j < el list (j + 1), fun i => ((list.length : Int) - i).toNat, ⟨by omega, by omega, fun j _ _ => by omega⟩, ?_⟩
  rintro i ⟨h0, h3, hI⟩
  dsimp only
  refine ⟨fun hlt => ⟨⟨by omega, by omega⟩, ⟨by omega, by omega⟩, ⟨by omega, hlt⟩, fun hf => ?_, fun ht => ⟨⟨by omega, by omega⟩, ⟨by omega, by omega, fun j a b => ?_⟩, by omega⟩⟩, fun hge => ?_⟩
  · symm; rw [Bool.eq_false_iff]; intro hc
    have := incB_iff.1 hc (i - 1) (by omega) (by omega)
    rw [show i - 1 + 1 = i by omega] at this
    omega
  · by_cases e : j + 1 = i
    · have e2 : j = i - 1 := by omega
      subst e2
      rw [show i - 1 + 1 = i by omega]; omega
    · exact hI j a (by omega)
  · exact (incB_iff.2 fun j a b => hI j a (by omega)).symm
theorem p_impl_isIdentity (p : List Int) (hp : small p) : wp_impl_isIdentity p (fun y0 => y0 = incB p) := ⟨hp, rfl⟩
theorem p_impl_indexIn (list : List Int) (x : Int) (hp : small list) : wp_impl_indexIn list x (fun y0 => y0 = idxI list x) := ⟨hp, rfl⟩
theorem p_impl_areElements (n : Int) (list : List Int) (hp : small list ∧ 0 ≤ n ∧ n ≤ 1000000000) : wp_impl_areElements n list (fun y0 => y0 = list.all (fun z_ => decide (0 ≤ z_) && decide (z_ ≤ n - 1))) := ⟨⟨by omega, by omega⟩, hp.1, rfl⟩
theorem isEmpty_iff_nil {l : List Int} : l.isEmpty = decide ((l.length : Int) = 0) := by cases l <;> simp; omega
theorem small_diag {c : List (List Int)} (h : isTab c = true) : small (diag c) := by have := isTab_len h; show ((diag c).length : Int) ≤ 1000000000; simp; omega
theorem p_impl_IsCycleSet (c : List (List Int)) (hp : small2 c) : wp_impl_IsCycleSet c (fun y0 => y0 = isCyc c) := by
  unfold wp_impl_IsCycleSet isCyc
  refine ⟨hp, fun h => ⟨hp, fun h2 => ⟨h, small_diag h, fun h3 => ⟨fun h4 => ⟨h, ?_⟩, fun h4 => ⟨h, ?_⟩⟩, fun h3 => ?_⟩, fun h2 => ?_⟩, fun h => ?_⟩
  · rw [h, h2, h3, h4]; rfl
  · rw [h, h2, h3]; cases e : cycF c with
    | nil => exact absurd e h4
    | cons x l => rfl
  · rw [h, h2, h3]; rfl
  · rw [h, h2]; rfl
  · rw [h]; rfl
theorem permB_diag {c : List (List Int)} (h : isTab c = true) : permB (diag c) = isPerm (diag c) := by
  have := isTab_len h
  unfold permB
  have e1 : decide (1 ≤ ((diag c).length : Int)) = true := decide_eq_true (by simp; omega)
  have e2 : decide (((diag c).length : Int) ≤ 12) = true := decide_eq_true (by simp; omega)
  rw [e1, e2]; rfl
theorem p_spec_l05Is (c : List (List Int)) (hp : small2 c) : wp_spec_l05Is c (fun y0 => y0 = isCyc c) := by
  unfold wp_spec_l05Is isCyc
  refine ⟨hp, fun h => ⟨hp, fun h2 => ⟨h, small_diag h, fun h3 => ⟨h, ?_⟩, fun h3 => ?_⟩, fun h2 => ?_⟩, fun h => ?_⟩
  · rw [isTab_perm h] at h2
    rw [permB_diag h] at h3
    rw [h, h2, h3, isEmpty_iff_nil]; rfl
  · rw [isTab_perm h] at h2
    rw [permB_diag h] at h3
    rw [h, h2, h3]; rfl
  · rw [isTab_perm h] at h2
    rw [h, h2]; rfl
  · rw [h]; rfl
theorem tab_rows {r : List (List Int)} (h : isTab r = true) : ∀ q ∈ r, small q := (isTab_small h).2
theorem dual_loop {r : List (List Int)} (_ht : isTab r = true) (_hr : r.all isPerm = true) {o : List (List Int)} {i : Int} (il : o.length = i.toNat) (hi : (r.length : Int) ≤ i ∧ i ≤ (r.length : Int)) (hI : Upto i fun x => el o x = backI (el r x)) : o = r.map backI :=
  ext_el (by simp; omega) fun j a b => by rw [el_map ⟨a, by omega⟩]; exact hI j a (by omega)
theorem p_spec_l05Affine (n a b c : Int) (hp : 1 ≤ n ∧ n ≤ 12 ∧ 0 ≤ a ∧ a < n ∧ 0 ≤ b ∧ b < n ∧ 0 ≤ c ∧ c < n) : wp_spec_l05Affine n a b c (fun y0 => y0 = tab n (fun x_ y_ => (a * x_ + b * y_ + c) % n)) := by
  unfold wp_spec_l05Affine
  refine ⟨fun i o => 0 ≤ i ∧ i ≤ n ∧ o.length = i.toNat ∧ Upto i fun x => el o x = ran n fun y => (a * x + b * y + c) % n, fun i _ => (n - i).toNat, ⟨by omega, by omega, by simp, upto0⟩, ?_⟩
  rintro i o ⟨i0, i1, il, iI⟩
  dsimp only
  refine ⟨fun ilt => ?_, fun ige => eq_ran (by omega) fun j a b => iI j a (by omega)⟩
  refine ⟨fun j q => 0 ≤ j ∧ j ≤ n ∧ q.length = j.toNat ∧ Upto j fun y => el q y = (a * i + b * y + c) % n, fun j _ => (n - j).toNat, ⟨by omega, by omega, by simp, upto0⟩, ?_⟩
  rintro j q ⟨j0, j1, jl, jI⟩
  dsimp only
  have m1 := mulA (a := a) (i := i) ⟨by omega, by omega⟩ ⟨by omega, by omega⟩
  have m2 := mulA (a := b) (i := j) ⟨by omega, by omega⟩ ⟨by omega, by omega⟩
  refine ⟨fun jlt => ⟨⟨by omega, by omega⟩, ⟨by omega, by omega⟩, ⟨by omega, by omega⟩, ⟨by omega, by omega⟩, ⟨by omega, by omega⟩, by simp; omega, ⟨by omega, by omega⟩, ⟨by omega, by omega, by simp; omega, app1 (f := fun y => (a * i + b * y + c) % n) (by omega) jI rfl⟩, by omega⟩, fun jge => ?_⟩
  have hq : q = ran n fun y => (a * i + b * y + c) % n := eq_ran (by omega) fun k a b => jI k a (by omega)
  exact ⟨by simp; omega, ⟨by omega, by omega⟩, ⟨by omega, by omega, by simp; omega, app1 (f := fun x => ran n fun y => (a * x + b * y + c) % n) (by omega) iI hq⟩, by omega⟩
theorem dpw1 {c : List (List Int)} {x k : Int} (h : isCyc c = false) : 0 = DpwV c x k ∧ 1 = DpwE c x k := by
  have e : DpwE c x k = 1 := by unfold DpwE; rw [h]; rfl
  exact ⟨by unfold DpwV; rw [e]; rfl, e.symm⟩
theorem dpw2 {c : List (List Int)} {x k : Int} (h : isCyc c = true) (h2 : (inN (c.length : Int) x && inN 1001 k) = false) : 0 = DpwV c x k ∧ 2 = DpwE c x k := by
  have e : DpwE c x k = 2 := by unfold DpwE; rw [h, h2]; rfl
  exact ⟨by unfold DpwV; rw [e]; rfl, e.symm⟩
theorem dpw0 {c : List (List Int)} {x k : Int} (h : isCyc c = true) (h2 : (inN (c.length : Int) x && inN 1001 k) = true) : iterN (fun x => el (el c x) x) k.toNat x = DpwV c x k ∧ 0 = DpwE c x k := by
  have e : DpwE c x k = 0 := by unfold DpwE; rw [h, h2]; rfl
  exact ⟨by unfold DpwV; rw [e]; rfl, e.symm⟩
theorem p_impl_DotPower (c : List (List Int)) (x k : Int) (hp : small2 c ∧ InI x ∧ InI k) : wp_impl_DotPower c x k (fun y0 y1 => y0 = DpwV c x k ∧ y1 = DpwE c x k) := by
  unfold wp_impl_DotPower
  refine ⟨hp.1, fun h => dpw1 h, fun h => ?_⟩
  have ht := isCyc_tab h
  have hn := isTab_len ht
  have ha : ([x].all fun z_ => decide (0 ≤ z_) && decide (z_ ≤ (c.length : Int) - 1)) = inN (c.length : Int) x := by simp [inN]
  rw [ha]
  refine ⟨⟨by simp, by omega, by omega⟩, fun hx => dpw2 h (by rw [hx]; rfl), fun hx => ⟨fun hk => dpw2 h (by rw [show inN 1001 k = false from hk]; exact Bool.and_false _), fun hk => ?_⟩⟩
  have h0 := dpw0 (x := x) (k := k) h (by rw [hx, show inN 1001 k = true from hk]; rfl)
  simp only [inN, Bool.and_eq_true, decide_eq_true_eq] at hx hk
  refine ⟨fun v i => 0 ≤ i ∧ i ≤ k ∧ (0 ≤ v ∧ v < (c.length : Int)) ∧ iterN (fun x => el (el c x) x) (k - i).toNat v = iterN (fun x => el (el c x) x) k.toNat x, fun _ i => (k - i).toNat, ⟨by omega, by omega, ⟨by omega, by omega⟩, by rw [show k - 0 = k by omega]⟩, ?_⟩
  rintro v i ⟨i0, i1, hv, hI⟩
  dsimp only
  have hr := isTab_row ht hv
  refine ⟨fun hlt => ⟨hv, ⟨hv.1, by omega⟩, ⟨by omega, by omega⟩, ⟨by omega, by omega, hr.2 v hv.1 hv.2, ?_⟩, by omega⟩, fun hge => ?_⟩
  · rw [← hI, show (k - i).toNat = (k - (i + 1)).toNat + 1 by omega]; rfl
  · have : (k - i).toNat = 0 := by omega
    rw [this] at hI
    exact ⟨by rw [← h0.1, ← hI]; rfl, h0.2⟩
theorem dso1 {c : List (List Int)} {x z : Int} (h : isCyc c = false) : 0 = DsoV c x z ∧ 1 = DsoE c x z := by
  have e : DsoE c x z = 1 := by unfold DsoE; rw [h]; rfl
  exact ⟨by unfold DsoV; rw [e]; rfl, e.symm⟩
theorem dso2 {c : List (List Int)} {x z : Int} (h : isCyc c = true) (h2 : (inN (c.length : Int) x && inN (c.length : Int) z) = false) : 0 = DsoV c x z ∧ 2 = DsoE c x z := by
  have e : DsoE c x z = 2 := by unfold DsoE; rw [h, h2]; rfl
  exact ⟨by unfold DsoV; rw [e]; rfl, e.symm⟩
theorem dso0 {c : List (List Int)} {x z : Int} (h : isCyc c = true) (h2 : (inN (c.length : Int) x && inN (c.length : Int) z) = true) : idxI (el c x) z = DsoV c x z ∧ 0 = DsoE c x z := by
  have e : DsoE c x z = 0 := by unfold DsoE; rw [h, h2]; rfl
  exact ⟨by unfold DsoV; rw [e]; rfl, e.symm⟩
theorem p_impl_DotSolve (c : List (List Int)) (x z : Int) (hp : small2 c ∧ InI x ∧ InI z) : wp_impl_DotSolve c x z (fun y0 y1 => y0 = DsoV c x z ∧ y1 = DsoE c x z) := by
  unfold wp_impl_DotSolve
  refine ⟨hp.1, fun h => dso1 h, fun h => ?_⟩
  have ht := isCyc_tab h
  have hn := isTab_len ht
  have ha : ([x, z].all fun z_ => decide (0 ≤ z_) && decide (z_ ≤ (c.length : Int) - 1)) = (inN (c.length : Int) x && inN (c.length : Int) z) := by simp [inN]
  rw [ha]
  refine ⟨⟨by simp, by omega, by omega⟩, fun hx => dso2 h hx, fun hx => ?_⟩
  have h0 := dso0 (x := x) (z := z) h hx
  simp only [inN, Bool.and_eq_true, decide_eq_true_eq] at hx
  exact ⟨⟨by omega, by omega⟩, hp.1.2 _ (el_mem ⟨by omega, by omega⟩), h0⟩
set_option maxRecDepth 100000 in
set_option maxHeartbeats 4000000 in
theorem w_k_Index (s : List Int) (v : Int) (Q : Int → Prop) (h : wp_k_Index s v Q) : AF Try.prog 90 [.lst (ints s), ci v] (fun R_ => ∃ y0, Q y0 ∧ R_ = ci y0) := by
  refine AF.ofWQ (af_enter (n := 19) Try.func90 rfl (by rfl) rfl (Nat.le_of_ble_eq_true rfl) ?_)
  unfold wp_k_Index at h
  refine aw_seq ?_
  refine aw_gh (gh_to (n := 19) (σ' := []) (env' := [(0, .c (.lst (ints s))), (1, .c (ci v))]) rfl rfl ⟨rfl, rfl, trivial⟩) ?_
  refine aw_region ?_
  refine run_s (ss_assign rfl) rfl ?_
  refine run_nil ?_
  refine aw_seq ?_
  refine aw_seq ?_
  refine aw_region ?_
  refine run_s (ss_move rfl) rfl ?_
  refine run_s (ss_lenL (f := ci) rfl) rfl ?_
  refine run_s (ss_move rfl) rfl ?_
  refine run_nil ?_
  refine aw_block ?_
  obtain ⟨H1, m1, q1, h⟩ := h
  refine aw_loop1 (fun (v8_1 : Int) => ⟨[], [(0, .c (.lst (ints s))), (1, .c (ci v)), (7, .c (ci (s.length : Int))), (8, .c (ci v8_1))], 19⟩) H1 m1 ⟨0, ghe_to (n := 19) rfl rfl ⟨rfl, rfl, rfl, rfl, trivial⟩, q1⟩ ?_
  rintro v8_1 q1
  replace h := h v8_1 q1
  refine aw_seq ?_
  refine aw_region ?_
  refine run_s (ss_lss rfl rfl) rfl ?_
  refine run_nil ?_
  refine aw_seq ?_
  refine aw_cond rfl (fun q2 => ?_) (fun q2 => ?_)
  ·replace h := h.1 (of_decide_eq_true q2)
   refine aw_skip ?_
   refine aw_seq ?_
   refine aw_block ?_
   refine aw_seq ?_
   refine aw_region ?_
   refine run_s (ss_move rfl) rfl ?_
   refine run_s (ss_assign rfl) rfl ?_
   refine run_nil ?_
   refine aw_seq ?_
   refine aw_region ?_
   refine run_s (ss_move rfl) rfl ?_
   refine run_s (ss_move rfl) rfl ?_
   refine run_s (ss_move rfl) rfl ?_
   obtain ⟨q3, h⟩ := h
   refine run_s (ss_idxL rfl rfl q3) rfl ?_
   refine run_s (ss_loadL (f := ci) rfl q3) rfl ?_
   refine run_s (ss_eql rfl rfl) rfl ?_
   refine run_nil ?_
   refine aw_cond rfl (fun q4 => ?_) (fun q4 => ?_)
   ·replace h := h.1 (of_decide_eq_true q4)
    refine aw_seq ?_
    refine aw_gh (gh_to (n := 19) (σ' := []) (env' := [(5, .c (ci v8_1))]) rfl rfl ⟨rfl, trivial⟩) ?_
    refine aw_region ?_
    refine run_s (ss_move rfl) rfl ?_
    refine run_s (ss_assign rfl) rfl ?_
    refine run_nil ?_
    refine aw_ret ?_
    exact retAF_mk (retv1 rfl (rv_tmp rfl)) rfl rfl ⟨_, (cle_refl _), _, h, rfl⟩
   ·replace h := h.2 (of_decide_eq_false q4)
    refine aw_skip ?_
    refine aw_gh (gh_to (n := 19) (σ' := []) (env' := [(0, .c (.lst (ints s))), (1, .c (ci v)), (7, .c (ci (s.length : Int))), (8, .c (ci v8_1))]) rfl rfl ⟨rfl, rfl, rfl, rfl, trivial⟩) ?_
    refine aw_region ?_
    obtain ⟨q5, h⟩ := h
    refine run_s (ss_add rfl rfl q5) rfl ?_
    refine run_s (ss_move rfl) rfl ?_
    refine run_nil ?_
    exact ⟨v8_1 + 1, ghe_to (n := 19) rfl rfl ⟨rfl, rfl, rfl, rfl, trivial⟩, h.1, h.2⟩
  ·replace h := h.2 (of_decide_eq_false q2)
   refine aw_exit ?_
   refine aw_seq ?_
   refine aw_gh (gh_to (n := 19) (σ' := []) (env' := []) rfl rfl trivial) ?_
   refine aw_region ?_
   refine run_s (ss_assign rfl) rfl ?_
   refine run_nil ?_
   refine aw_ret ?_
   exact retAF_mk (retv1 rfl (rv_tmp rfl)) rfl rfl ⟨_, (cle_refl _), _, h, rfl⟩

theorem c_k_Index (s : List Int) (v : Int) (hp : small s) : AF Try.prog 90 [.lst (ints s), ci v] (fun R_ => R_ = ci (idxI s v)) :=
  (w_k_Index s v (fun y0 => y0 = idxI s v) (p_k_Index s v hp)).mono (by rintro r ⟨_, rfl, rfl⟩; rfl)

set_option maxRecDepth 100000 in
set_option maxHeartbeats 4000000 in
theorem w_spec_l01Unit (n : Int) (Q : List Int → Prop) (h : wp_spec_l01Unit n Q) : AF Try.prog 157 [ci n] (fun R_ => ∃ y0, Q y0 ∧ R_ = .own (ints y0)) := by
  refine AF.ofWQ (af_enter (n := 16) Try.func157 rfl (by rfl) rfl (Nat.le_of_ble_eq_true rfl) ?_)
  unfold wp_spec_l01Unit at h
  refine aw_seq ?_
  refine aw_gh (gh_to (n := 16) (σ' := []) (env' := [(0, .c (ci n))]) rfl rfl ⟨rfl, trivial⟩) ?_
  refine aw_region ?_
  refine run_s (ss_assign rfl) rfl ?_
  refine run_nil ?_
  refine aw_seq ?_
  refine aw_region ?_
  refine run_w (ws_buildSlice (id := 5) (ps := []) rfl rfl (Nat.le_of_ble_eq_true rfl) rfl ⟨rfl, ?_⟩)
  refine run_s (ss_assign rfl) rfl ?_
  refine run_nil ?_
  refine aw_seq ?_
  refine aw_seq ?_
  refine aw_region ?_
  refine run_s (ss_assign rfl) rfl ?_
  refine run_nil ?_
  refine aw_block ?_
  obtain ⟨H1, m1, q1, h⟩ := h
  refine aw_loop2 (fun (v4_1 : Int) (o5_1 : List Int) => ⟨[(5, ⟨ints o5_1, []⟩)], [(0, .c (ci n)), (3, .ref 5), (4, .c (ci v4_1))], 16⟩) H1 m1 ⟨0, ([] : List Int), ghe_to (n := 16) rfl rfl ⟨rfl, rfl, rfl, trivial⟩, q1⟩ ?_
  rintro v4_1 o5_1 q1
  replace h := h v4_1 o5_1 q1
  refine aw_seq ?_
  refine aw_seq ?_
  refine aw_region ?_
  refine run_s (ss_move rfl) rfl ?_
  refine run_s (ss_move rfl) rfl ?_
  refine run_s (ss_lss rfl rfl) rfl ?_
  refine run_nil ?_
  refine aw_cond rfl (fun q2 => ?_) (fun q2 => ?_)
  ·replace h := h.1 (of_decide_eq_true q2)
   refine aw_skip ?_
   refine aw_seq ?_
   refine aw_block ?_
   refine aw_region ?_
   refine run_s (ss_move rfl) rfl ?_
   refine run_s (ss_move rfl) rfl ?_
   refine run_w (ws_buildSlice (id := 13) (ps := [(0, .tmp 12)]) rfl rfl (Nat.le_of_ble_eq_true rfl) rfl ⟨rfl, ?_⟩)
   obtain ⟨q3, h⟩ := h
   refine run_w (ws_app1 ci (l := o5_1) (m := [v4_1]) rfl rfl rfl rfl rfl (Nat.le_of_ble_eq_true rfl) q3 ⟨rfl, ?_⟩)
   refine run_s (ss_assign rfl) rfl ?_
   refine run_nil ?_
   refine aw_gh (gh_to (n := 16) (σ' := [(5, ⟨ints (o5_1 ++ ([v4_1])), []⟩)]) (env' := [(0, .c (ci n)), (3, .ref 5), (4, .c (ci v4_1))]) rfl rfl ⟨rfl, rfl, rfl, trivial⟩) ?_
   refine aw_region ?_
   refine run_s (ss_move rfl) rfl ?_
   obtain ⟨q4, h⟩ := h
   refine run_s (ss_add rfl rfl q4) rfl ?_
   refine run_s (ss_assign rfl) rfl ?_
   refine run_nil ?_
   exact ⟨v4_1 + 1, o5_1 ++ ([v4_1]), ghe_to (n := 16) rfl rfl ⟨rfl, rfl, rfl, trivial⟩, h.1, h.2⟩
  ·replace h := h.2 (of_decide_eq_false q2)
   refine aw_exit ?_
   refine aw_seq ?_
   refine aw_gh (gh_to (n := 16) (σ' := [(5, ⟨ints o5_1, []⟩)]) (env' := [(3, .ref 5)]) rfl rfl ⟨rfl, trivial⟩) ?_
   refine aw_region ?_
   refine run_s (ss_move rfl) rfl ?_
   refine run_s (ss_assign rfl) rfl ?_
   refine run_nil ?_
   refine aw_ret ?_
   exact retAF_mk (retv1 rfl (rv_tmp rfl)) rfl rfl ⟨_, (cle_refl _), _, h, rfl⟩

theorem c_spec_l01Unit (n : Int) (hp : 0 ≤ n ∧ n ≤ 1000000) : AF Try.prog 157 [ci n] (fun R_ => R_ = .own (ints (unitI n))) :=
  (w_spec_l01Unit n (fun y0 => y0 = unitI n) (p_spec_l01Unit n hp)).mono (by rintro r ⟨_, rfl, rfl⟩; rfl)

set_option maxRecDepth 100000 in
set_option maxHeartbeats 4000000 in
theorem w_spec_l01Then (p : List Int) (q : List Int) (Q : List Int → Prop) (h : wp_spec_l01Then p q Q) : AF Try.prog 207 [.lst (ints p), .lst (ints q)] (fun R_ => ∃ y0, Q y0 ∧ R_ = .own (ints y0)) := by
  refine AF.ofWQ (af_enter (n := 25) Try.func207 rfl (by rfl) rfl (Nat.le_of_ble_eq_true rfl) ?_)
  unfold wp_spec_l01Then at h
  refine aw_seq ?_
  refine aw_gh (gh_to (n := 25) (σ' := []) (env' := [(0, .c (.lst (ints p))), (1, .c (.lst (ints q)))]) rfl rfl ⟨rfl, rfl, trivial⟩) ?_
  refine aw_region ?_
  refine run_s (ss_assign rfl) rfl ?_
  refine run_nil ?_
  refine aw_seq ?_
  refine aw_region ?_
  refine run_w (ws_buildSlice (id := 7) (ps := []) rfl rfl (Nat.le_of_ble_eq_true rfl) rfl ⟨rfl, ?_⟩)
  refine run_s (ss_assign rfl) rfl ?_
  refine run_nil ?_
  refine aw_seq ?_
  refine aw_seq ?_
  refine aw_region ?_
  refine run_s (ss_assign rfl) rfl ?_
  refine run_nil ?_
  refine aw_block ?_
  obtain ⟨H1, m1, q1, h⟩ := h
  refine aw_loop2 (fun (v6_1 : Int) (o7_1 : List Int) => ⟨[(7, ⟨ints o7_1, []⟩)], [(0, .c (.lst (ints p))), (1, .c (.lst (ints q))), (5, .ref 7), (6, .c (ci v6_1))], 25⟩) H1 m1 ⟨0, ([] : List Int), ghe_to (n := 25) rfl rfl ⟨rfl, rfl, rfl, rfl, trivial⟩, q1⟩ ?_
  rintro v6_1 o7_1 q1
  replace h := h v6_1 o7_1 q1
  refine aw_seq ?_
  refine aw_seq ?_
  refine aw_region ?_
  refine run_s (ss_move rfl) rfl ?_
  refine run_s (ss_move rfl) rfl ?_
  refine run_s (ss_lenL (f := ci) rfl) rfl ?_
  refine run_s (ss_lss rfl rfl) rfl ?_
  refine run_nil ?_
  refine aw_cond rfl (fun q2 => ?_) (fun q2 => ?_)
  ·replace h := h.1 (of_decide_eq_true q2)
   refine aw_skip ?_
   refine aw_seq ?_
   refine aw_block ?_
   refine aw_region ?_
   refine run_s (ss_move rfl) rfl ?_
   refine run_s (ss_move rfl) rfl ?_
   refine run_s (ss_move rfl) rfl ?_
   refine run_s (ss_move rfl) rfl ?_
   obtain ⟨q3, h⟩ := h
   refine run_s (ss_idxL rfl rfl q3) rfl ?_
   refine run_s (ss_loadL (f := ci) rfl q3) rfl ?_
   obtain ⟨q4, h⟩ := h
   refine run_s (ss_idxL rfl rfl q4) rfl ?_
   refine run_s (ss_loadL (f := ci) rfl q4) rfl ?_
   refine run_w (ws_buildSlice (id := 22) (ps := [(0, .tmp 21)]) rfl rfl (Nat.le_of_ble_eq_true rfl) rfl ⟨rfl, ?_⟩)
   obtain ⟨q5, h⟩ := h
   refine run_w (ws_app1 ci (l := o7_1) (m := [el q (el p v6_1)]) rfl rfl rfl rfl rfl (Nat.le_of_ble_eq_true rfl) q5 ⟨rfl, ?_⟩)
   refine run_s (ss_assign rfl) rfl ?_
   refine run_nil ?_
   refine aw_gh (gh_to (n := 25) (σ' := [(7, ⟨ints (o7_1 ++ ([el q (el p v6_1)])), []⟩)]) (env' := [(0, .c (.lst (ints p))), (1, .c (.lst (ints q))), (5, .ref 7), (6, .c (ci v6_1))]) rfl rfl ⟨rfl, rfl, rfl, rfl, trivial⟩) ?_
   refine aw_region ?_
   refine run_s (ss_move rfl) rfl ?_
   obtain ⟨q6, h⟩ := h
   refine run_s (ss_add rfl rfl q6) rfl ?_
   refine run_s (ss_assign rfl) rfl ?_
   refine run_nil ?_
   exact ⟨v6_1 + 1, o7_1 ++ ([el q (el p v6_1)]), ghe_to (n := 25) rfl rfl ⟨rfl, rfl, rfl, rfl, trivial⟩, h.1, h.2⟩
  ·replace h := h.2 (of_decide_eq_false q2)
   refine aw_exit ?_
   refine aw_seq ?_
   refine aw_gh (gh_to (n := 25) (σ' := [(7, ⟨ints o7_1, []⟩)]) (env' := [(5, .ref 7)]) rfl rfl ⟨rfl, trivial⟩) ?_
   refine aw_region ?_
   refine run_s (ss_move rfl) rfl ?_
   refine run_s (ss_assign rfl) rfl ?_
   refine run_nil ?_
   refine aw_ret ?_
   exact retAF_mk (retv1 rfl (rv_tmp rfl)) rfl rfl ⟨_, (cle_refl _), _, h, rfl⟩

theorem c_spec_l01Then (p : List Int) (q : List Int) (hp : small p ∧ ∀ x_ ∈ p, 0 ≤ x_ ∧ x_ < (q.length : Int)) : AF Try.prog 207 [.lst (ints p), .lst (ints q)] (fun R_ => R_ = .own (ints (p.map (el q)))) :=
  (w_spec_l01Then p q (fun y0 => y0 = p.map (el q)) (p_spec_l01Then p q hp)).mono (by rintro r ⟨_, rfl, rfl⟩; rfl)

set_option maxRecDepth 100000 in
set_option maxHeartbeats 4000000 in
theorem w_impl_then (p : List Int) (q : List Int) (Q : List Int → Prop) (h : wp_impl_then p q Q) : AF Try.prog 107 [.lst (ints p), .lst (ints q)] (fun R_ => ∃ y0, Q y0 ∧ R_ = .own (ints y0)) := by
  refine AF.ofWQ (af_enter (n := 27) Try.func107 rfl (by rfl) rfl (Nat.le_of_ble_eq_true rfl) ?_)
  unfold wp_impl_then at h
  refine aw_seq ?_
  refine aw_gh (gh_to (n := 27) (σ' := []) (env' := [(0, .c (.lst (ints p))), (1, .c (.lst (ints q)))]) rfl rfl ⟨rfl, rfl, trivial⟩) ?_
  refine aw_region ?_
  refine run_s (ss_assign rfl) rfl ?_
  refine run_nil ?_
  refine aw_seq ?_
  refine aw_region ?_
  refine run_s (ss_move rfl) rfl ?_
  refine run_s (ss_lenL (f := ci) rfl) rfl ?_
  obtain ⟨q1, h⟩ := h
  refine run_w (ws_mk (id := 10) ci (0 : Int) rfl rfl rfl q1 (Nat.le_of_ble_eq_true rfl) rfl ⟨rfl, ?_⟩)
  refine run_s (ss_assign rfl) rfl ?_
  refine run_nil ?_
  refine aw_seq ?_
  refine aw_seq ?_
  refine aw_region ?_
  refine run_s (ss_move rfl) rfl ?_
  refine run_s (ss_lenL (f := ci) rfl) rfl ?_
  refine run_s (ss_move rfl) rfl ?_
  refine run_nil ?_
  refine aw_block ?_
  obtain ⟨H1, m1, q2, h⟩ := h
  refine aw_loop2 (fun (v13_1 : Int) (o10_1 : List Int) => ⟨[(10, ⟨ints o10_1, []⟩)], [(1, .c (.lst (ints q))), (5, .ref 10), (11, .c (.lst (ints p))), (12, .c (ci (p.length : Int))), (13, .c (ci v13_1))], 27⟩) H1 m1 ⟨0, List.replicate (p.length : Int).toNat (0 : Int), ghe_to (n := 27) rfl rfl ⟨rfl, rfl, rfl, rfl, rfl, trivial⟩, q2⟩ ?_
  rintro v13_1 o10_1 q2
  replace h := h v13_1 o10_1 q2
  refine aw_seq ?_
  refine aw_region ?_
  refine run_s (ss_lss rfl rfl) rfl ?_
  refine run_nil ?_
  refine aw_seq ?_
  refine aw_cond rfl (fun q3 => ?_) (fun q3 => ?_)
  ·replace h := h.1 (of_decide_eq_true q3)
   refine aw_skip ?_
   refine aw_seq ?_
   refine aw_block ?_
   refine aw_seq ?_
   refine aw_region ?_
   refine run_s (ss_move rfl) rfl ?_
   obtain ⟨q4, h⟩ := h
   refine run_s (ss_idxL rfl rfl q4) rfl ?_
   refine run_s (ss_loadL (f := ci) rfl q4) rfl ?_
   refine run_s (ss_assign rfl) rfl ?_
   refine run_s (ss_assign rfl) rfl ?_
   refine run_nil ?_
   refine aw_region ?_
   refine run_s (ss_move rfl) rfl ?_
   refine run_s (ss_move rfl) rfl ?_
   refine run_s (ss_move rfl) rfl ?_
   refine run_s (ss_move rfl) rfl ?_
   obtain ⟨q5, h⟩ := h
   refine run_s (ss_idxL rfl rfl q5) rfl ?_
   refine run_s (ss_loadL (f := ci) rfl q5) rfl ?_
   obtain ⟨q6, h⟩ := h
   refine run_s (ss_idxR (f := ci) rfl rfl rfl q6) rfl ?_
   refine run_w (ws_storeE rfl rfl (map_lt q6) rfl rfl (map_se (f := ci)) rfl ⟨rfl, ?_⟩)
   refine run_nil ?_
   refine aw_gh (gh_to (n := 27) (σ' := [(10, ⟨ints (se o10_1 v13_1 (el q (el p v13_1))), []⟩)]) (env' := [(1, .c (.lst (ints q))), (5, .ref 10), (11, .c (.lst (ints p))), (12, .c (ci (p.length : Int))), (13, .c (ci v13_1))]) rfl rfl ⟨rfl, rfl, rfl, rfl, rfl, trivial⟩) ?_
   refine aw_region ?_
   obtain ⟨q7, h⟩ := h
   refine run_s (ss_add rfl rfl q7) rfl ?_
   refine run_s (ss_move rfl) rfl ?_
   refine run_nil ?_
   exact ⟨v13_1 + 1, se o10_1 v13_1 (el q (el p v13_1)), ghe_to (n := 27) rfl rfl ⟨rfl, rfl, rfl, rfl, rfl, trivial⟩, h.1, h.2⟩
  ·replace h := h.2 (of_decide_eq_false q3)
   refine aw_exit ?_
   refine aw_seq ?_
   refine aw_gh (gh_to (n := 27) (σ' := [(10, ⟨ints o10_1, []⟩)]) (env' := [(5, .ref 10)]) rfl rfl ⟨rfl, trivial⟩) ?_
   refine aw_region ?_
   refine run_s (ss_move rfl) rfl ?_
   refine run_s (ss_assign rfl) rfl ?_
   refine run_nil ?_
   refine aw_ret ?_
   exact retAF_mk (retv1 rfl (rv_tmp rfl)) rfl rfl ⟨_, (cle_refl _), _, h, rfl⟩

theorem c_impl_then (p : List Int) (q : List Int) (hp : small p ∧ ∀ x_ ∈ p, 0 ≤ x_ ∧ x_ < (q.length : Int)) : AF Try.prog 107 [.lst (ints p), .lst (ints q)] (fun R_ => R_ = .own (ints (p.map (el q)))) :=
  (w_impl_then p q (fun y0 => y0 = p.map (el q)) (p_impl_then p q hp)).mono (by rintro r ⟨_, rfl, rfl⟩; rfl)

set_option maxRecDepth 100000 in
set_option maxHeartbeats 4000000 in
theorem w_spec_l01Back (p : List Int) (Q : List Int → Prop) (h : wp_spec_l01Back p Q) : AF Try.prog 178 [.lst (ints p)] (fun R_ => ∃ y0, Q y0 ∧ R_ = .own (ints y0)) := by
  refine AF.ofWQ (af_enter (n := 22) Try.func178 rfl (by rfl) rfl (Nat.le_of_ble_eq_true rfl) ?_)
  unfold wp_spec_l01Back at h
  refine aw_seq ?_
  refine aw_gh (gh_to (n := 22) (σ' := []) (env' := [(0, .c (.lst (ints p)))]) rfl rfl ⟨rfl, trivial⟩) ?_
  refine aw_region ?_
  refine run_s (ss_assign rfl) rfl ?_
  refine run_nil ?_
  refine aw_seq ?_
  refine aw_region ?_
  refine run_s (ss_move rfl) rfl ?_
  refine run_s (ss_lenL (f := ci) rfl) rfl ?_
  obtain ⟨q1, h⟩ := h
  refine run_w (ws_mk (id := 7) ci (0 : Int) rfl rfl rfl q1 (Nat.le_of_ble_eq_true rfl) rfl ⟨rfl, ?_⟩)
  refine run_s (ss_assign rfl) rfl ?_
  refine run_nil ?_
  refine aw_seq ?_
  refine aw_seq ?_
  refine aw_gh (gh_to (n := 22) (σ' := [(7, ⟨ints (List.replicate (p.length : Int).toNat (0 : Int)), []⟩)]) (env' := [(0, .c (.lst (ints p))), (3, .ref 7)]) rfl rfl ⟨rfl, rfl, trivial⟩) ?_
  refine aw_region ?_
  refine run_s (ss_assign rfl) rfl ?_
  refine run_nil ?_
  refine aw_block ?_
  obtain ⟨H1, m1, q2, h⟩ := h
  refine aw_loop2 (fun (v4_1 : Int) (o7_1 : List Int) => ⟨[(7, ⟨ints o7_1, []⟩)], [(0, .c (.lst (ints p))), (3, .ref 7), (4, .c (ci v4_1))], 22⟩) H1 m1 ⟨0, List.replicate (p.length : Int).toNat (0 : Int), ghe_to (n := 22) rfl rfl ⟨rfl, rfl, rfl, trivial⟩, q2⟩ ?_
  rintro v4_1 o7_1 q2
  replace h := h v4_1 o7_1 q2
  refine aw_seq ?_
  refine aw_seq ?_
  refine aw_region ?_
  refine run_s (ss_move rfl) rfl ?_
  refine run_s (ss_move rfl) rfl ?_
  refine run_s (ss_lenL (f := ci) rfl) rfl ?_
  refine run_s (ss_lss rfl rfl) rfl ?_
  refine run_nil ?_
  refine aw_cond rfl (fun q3 => ?_) (fun q3 => ?_)
  ·replace h := h.1 (of_decide_eq_true q3)
   refine aw_skip ?_
   refine aw_seq ?_
   refine aw_block ?_
   refine aw_region ?_
   refine run_s (ss_move rfl) rfl ?_
   refine run_s (ss_move rfl) rfl ?_
   refine run_s (ss_move rfl) rfl ?_
   obtain ⟨q4, h⟩ := h
   refine run_s (ss_idxL rfl rfl q4) rfl ?_
   refine run_s (ss_loadL (f := ci) rfl q4) rfl ?_
   refine run_s (ss_move rfl) rfl ?_
   obtain ⟨q5, h⟩ := h
   refine run_s (ss_idxR (f := ci) rfl rfl rfl q5) rfl ?_
   refine run_w (ws_storeE rfl rfl (map_lt q5) rfl rfl (map_se (f := ci)) rfl ⟨rfl, ?_⟩)
   refine run_nil ?_
   refine aw_gh (gh_to (n := 22) (σ' := [(7, ⟨ints (se o7_1 (el p v4_1) v4_1), []⟩)]) (env' := [(0, .c (.lst (ints p))), (3, .ref 7), (4, .c (ci v4_1))]) rfl rfl ⟨rfl, rfl, rfl, trivial⟩) ?_
   refine aw_region ?_
   refine run_s (ss_move rfl) rfl ?_
   obtain ⟨q6, h⟩ := h
   refine run_s (ss_add rfl rfl q6) rfl ?_
   refine run_s (ss_assign rfl) rfl ?_
   refine run_nil ?_
   exact ⟨v4_1 + 1, se o7_1 (el p v4_1) v4_1, ghe_to (n := 22) rfl rfl ⟨rfl, rfl, rfl, trivial⟩, h.1, h.2⟩
  ·replace h := h.2 (of_decide_eq_false q3)
   refine aw_exit ?_
   refine aw_seq ?_
   refine aw_gh (gh_to (n := 22) (σ' := [(7, ⟨ints o7_1, []⟩)]) (env' := [(3, .ref 7)]) rfl rfl ⟨rfl, trivial⟩) ?_
   refine aw_region ?_
   refine run_s (ss_move rfl) rfl ?_
   refine run_s (ss_assign rfl) rfl ?_
   refine run_nil ?_
   refine aw_ret ?_
   exact retAF_mk (retv1 rfl (rv_tmp rfl)) rfl rfl ⟨_, (cle_refl _), _, h, rfl⟩

theorem c_spec_l01Back (p : List Int) (hp : small p ∧ isPerm p = true) : AF Try.prog 178 [.lst (ints p)] (fun R_ => R_ = .own (ints (backI p))) :=
  (w_spec_l01Back p (fun y0 => y0 = backI p) (p_spec_l01Back p hp)).mono (by rintro r ⟨_, rfl, rfl⟩; rfl)

set_option maxRecDepth 100000 in
set_option maxHeartbeats 4000000 in
theorem w_spec_l01Rows (t : List (List Int)) (Q : Bool → Prop) (h : wp_spec_l01Rows t Q) : AF Try.prog 165 [.lst (rows t)] (fun R_ => ∃ y0, Q y0 ∧ R_ = cb y0) := by
  refine AF.ofWQ (af_enter (n := 16) Try.func165 rfl (by rfl) rfl (Nat.le_of_ble_eq_true rfl) ?_)
  unfold wp_spec_l01Rows at h
  refine aw_seq ?_
  refine aw_gh (gh_to (n := 16) (σ' := []) (env' := [(0, .c (.lst (rows t)))]) rfl rfl ⟨rfl, trivial⟩) ?_
  refine aw_region ?_
  refine run_s (ss_assign rfl) rfl ?_
  refine run_nil ?_
  refine aw_seq ?_
  refine aw_seq ?_
  refine aw_region ?_
  refine run_s (ss_assign rfl) rfl ?_
  refine run_nil ?_
  refine aw_block ?_
  obtain ⟨H1, m1, q1, h⟩ := h
  refine aw_loop1 (fun (v3_1 : Int) => ⟨[], [(0, .c (.lst (rows t))), (3, .c (ci v3_1))], 16⟩) H1 m1 ⟨0, ghe_to (n := 16) rfl rfl ⟨rfl, rfl, trivial⟩, q1⟩ ?_
  rintro v3_1 q1
  replace h := h v3_1 q1
  refine aw_seq ?_
  refine aw_seq ?_
  refine aw_region ?_
  refine run_s (ss_move rfl) rfl ?_
  refine run_s (ss_move rfl) rfl ?_
  refine run_s (ss_lenL (f := (fun r => C.lst (ints r))) rfl) rfl ?_
  refine run_s (ss_lss rfl rfl) rfl ?_
  refine run_nil ?_
  refine aw_cond rfl (fun q2 => ?_) (fun q2 => ?_)
  ·replace h := h.1 (of_decide_eq_true q2)
   refine aw_skip ?_
   refine aw_seq ?_
   refine aw_block ?_
   refine aw_seq ?_
   refine aw_region ?_
   refine run_s (ss_move rfl) rfl ?_
   refine run_s (ss_move rfl) rfl ?_
   obtain ⟨q3, h⟩ := h
   refine run_s (ss_idxL rfl rfl q3) rfl ?_
   refine run_s (ss_loadL (f := (fun r => C.lst (ints r))) rfl q3) rfl ?_
   obtain ⟨q4, h⟩ := h
   refine run_w (ws_call (xs := [.tmp 13]) (ids := []) rfl rfl rfl rfl (c_spec_l01Perm (el t v3_1) q4) rfl ?_ )
   rintro _ rfl
   refine ⟨rfl, ?_⟩
   refine run_s (ss_not rfl) rfl ?_
   refine run_nil ?_
   refine aw_cond rfl (fun q6 => ?_) (fun q6 => ?_)
   ·replace h := h.1 ((bnot_t q6))
    refine aw_seq ?_
    refine aw_gh (gh_to (n := 16) (σ' := []) (env' := []) rfl rfl trivial) ?_
    refine aw_region ?_
    refine run_s (ss_assign rfl) rfl ?_
    refine run_nil ?_
    refine aw_ret ?_
    exact retAF_mk (retv1 rfl (rv_tmp rfl)) rfl rfl ⟨_, (cle_refl _), _, h, rfl⟩
   ·replace h := h.2 ((bnot_f q6))
    refine aw_skip ?_
    refine aw_gh (gh_to (n := 16) (σ' := []) (env' := [(0, .c (.lst (rows t))), (3, .c (ci v3_1))]) rfl rfl ⟨rfl, rfl, trivial⟩) ?_
    refine aw_region ?_
    refine run_s (ss_move rfl) rfl ?_
    obtain ⟨q7, h⟩ := h
    refine run_s (ss_add rfl rfl q7) rfl ?_
    refine run_s (ss_assign rfl) rfl ?_
    refine run_nil ?_
    exact ⟨v3_1 + 1, ghe_to (n := 16) rfl rfl ⟨rfl, rfl, trivial⟩, h.1, h.2⟩
  ·replace h := h.2 (of_decide_eq_false q2)
   refine aw_exit ?_
   refine aw_seq ?_
   refine aw_gh (gh_to (n := 16) (σ' := []) (env' := []) rfl rfl trivial) ?_
   refine aw_region ?_
   refine run_s (ss_assign rfl) rfl ?_
   refine run_nil ?_
   refine aw_ret ?_
   exact retAF_mk (retv1 rfl (rv_tmp rfl)) rfl rfl ⟨_, (cle_refl _), _, h, rfl⟩

theorem c_spec_l01Rows (t : List (List Int)) (hp : small2 t) : AF Try.prog 165 [.lst (rows t)] (fun R_ => R_ = cb (t.all permB)) :=
  (w_spec_l01Rows t (fun y0 => y0 = t.all permB) (p_spec_l01Rows t hp)).mono (by rintro r ⟨_, rfl, rfl⟩; rfl)

set_option maxRecDepth 100000 in
set_option maxHeartbeats 4000000 in
theorem w_impl_permutationRows_1 (row : List Int) (Q : Bool → Prop) (h : wp_impl_permutationRows_1 row Q) : AF Try.prog 153 [.lst (ints row)] (fun R_ => ∃ y0, Q y0 ∧ R_ = cb y0) := by
  refine AF.ofWQ (af_enter (n := 6) Try.func153 rfl (by rfl) rfl (Nat.le_of_ble_eq_true rfl) ?_)
  unfold wp_impl_permutationRows_1 at h
  refine aw_seq ?_
  refine aw_gh (gh_to (n := 6) (σ' := []) (env' := [(0, .c (.lst (ints row)))]) rfl rfl ⟨rfl, trivial⟩) ?_
  refine aw_region ?_
  refine run_s (ss_assign rfl) rfl ?_
  refine run_nil ?_
  refine aw_seq ?_
  refine aw_region ?_
  refine run_s (ss_move rfl) rfl ?_
  obtain ⟨q1, h⟩ := h
  refine run_w (ws_call (xs := [.tmp 3]) (ids := []) rfl rfl rfl rfl (c_impl_isPermuted row q1) rfl ?_ )
  rintro _ rfl
  refine ⟨rfl, ?_⟩
  refine run_s (ss_not rfl) rfl ?_
  refine run_s (ss_assign rfl) rfl ?_
  refine run_nil ?_
  refine aw_ret ?_
  exact retAF_mk (retv1 rfl (rv_tmp rfl)) rfl rfl ⟨_, (cle_refl _), _, h, rfl⟩

theorem c_impl_permutationRows_1 (row : List Int) (hp : small row) : AF Try.prog 153 [.lst (ints row)] (fun R_ => R_ = cb (!isPerm row)) :=
  (w_impl_permutationRows_1 row (fun y0 => y0 = !isPerm row) (p_impl_permutationRows_1 row hp)).mono (by rintro r ⟨_, rfl, rfl⟩; rfl)

set_option maxRecDepth 100000 in
set_option maxHeartbeats 4000000 in
theorem w_impl_permutationRows (t : List (List Int)) (Q : Bool → Prop) (h : wp_impl_permutationRows t Q) : AF Try.prog 92 [.lst (rows t)] (fun R_ => ∃ y0, Q y0 ∧ R_ = cb y0) := by
  refine AF.ofWQ (af_enter (n := 6) Try.func92 rfl (by rfl) rfl (Nat.le_of_ble_eq_true rfl) ?_)
  unfold wp_impl_permutationRows at h
  refine aw_seq ?_
  refine aw_gh (gh_to (n := 6) (σ' := []) (env' := [(0, .c (.lst (rows t)))]) rfl rfl ⟨rfl, trivial⟩) ?_
  refine aw_region ?_
  refine run_s (ss_assign rfl) rfl ?_
  refine run_nil ?_
  refine aw_seq ?_
  refine aw_region ?_
  refine run_s (ss_move rfl) rfl ?_
  obtain ⟨q1, h⟩ := h
  refine run_w (ws_call (xs := [.tmp 3, .func 153]) (ids := []) rfl rfl rfl rfl (c_k_ContainsFunc_rows t 153 [] (fun z0 => !isPerm z0) (fun z0 => small z0) (fun z0 hD => c_impl_permutationRows_1 z0 hD) q1) rfl ?_ )
  rintro _ rfl
  refine ⟨rfl, ?_⟩
  refine run_s (ss_not rfl) rfl ?_
  refine run_s (ss_assign rfl) rfl ?_
  refine run_nil ?_
  refine aw_ret ?_
  exact retAF_mk (retv1 rfl (rv_tmp rfl)) rfl rfl ⟨_, (cle_refl _), _, h, rfl⟩

theorem c_impl_permutationRows (t : List (List Int)) (hp : small2 t) : AF Try.prog 92 [.lst (rows t)] (fun R_ => R_ = cb (t.all isPerm)) :=
  (w_impl_permutationRows t (fun y0 => y0 = t.all isPerm) (p_impl_permutationRows t hp)).mono (by rintro r ⟨_, rfl, rfl⟩; rfl)

set_option maxRecDepth 100000 in
set_option maxHeartbeats 4000000 in
theorem w_impl_increasing (list : List Int) (Q : Bool → Prop) (h : wp_impl_increasing list Q) : AF Try.prog 86 [.lst (ints list)] (fun R_ => ∃ y0, Q y0 ∧ R_ = cb y0) := by
  refine AF.ofWQ (af_enter (n := 20) Try.func86 rfl (by rfl) rfl (Nat.le_of_ble_eq_true rfl) ?_)
  unfold wp_impl_increasing at h
  refine aw_seq ?_
  refine aw_gh (gh_to (n := 20) (σ' := []) (env' := [(0, .c (.lst (ints list)))]) rfl rfl ⟨rfl, trivial⟩) ?_
  refine aw_region ?_
  refine run_s (ss_assign rfl) rfl ?_
  refine run_nil ?_
  refine aw_seq ?_
  refine aw_seq ?_
  refine aw_region ?_
  refine run_s (ss_assign rfl) rfl ?_
  refine run_nil ?_
  refine aw_block ?_
  obtain ⟨H1, m1, q1, h⟩ := h
  refine aw_loop1 (fun (v3_1 : Int) => ⟨[], [(0, .c (.lst (ints list))), (3, .c (ci v3_1))], 20⟩) H1 m1 ⟨1, ghe_to (n := 20) rfl rfl ⟨rfl, rfl, trivial⟩, q1⟩ ?_
  rintro v3_1 q1
  replace h := h v3_1 q1
  refine aw_seq ?_
  refine aw_seq ?_
  refine aw_region ?_
  refine run_s (ss_move rfl) rfl ?_
  refine run_s (ss_move rfl) rfl ?_
  refine run_s (ss_lenL (f := ci) rfl) rfl ?_
  refine run_s (ss_lss rfl rfl) rfl ?_
  refine run_nil ?_
  refine aw_cond rfl (fun q2 => ?_) (fun q2 => ?_)
  ·replace h := h.1 (of_decide_eq_true q2)
   refine aw_skip ?_
   refine aw_seq ?_
   refine aw_block ?_
   refine aw_seq ?_
   refine aw_gh (gh_to (n := 20) (σ' := []) (env' := [(0, .c (.lst (ints list))), (3, .c (ci v3_1))]) rfl rfl ⟨rfl, rfl, trivial⟩) ?_
   refine aw_regionD (kd := kdl [0, 0, 0, 0, 1, 0, 0, 0, 1, 0]) (ord := [0, 1, 2, 3, 5, 6, 7, 4, 8, 9]) [] mixed (by kernel_rfl) ?_
   refine rd_s rfl rfl trivial (ss_move rfl) rfl ?_
   refine rd_s rfl rfl trivial (ss_move rfl) rfl ?_
   obtain ⟨q3, h⟩ := h
   refine rd_s rfl rfl trivial (ss_sub rfl rfl q3) rfl ?_
   obtain ⟨q4, h⟩ := h
   refine rd_s rfl rfl trivial (ss_idxL rfl rfl q4) rfl ?_
   refine rd_s rfl rfl trivial (ss_move rfl) rfl ?_
   refine rd_s rfl rfl trivial (ss_move rfl) rfl ?_
   obtain ⟨q5, h⟩ := h
   refine rd_s rfl rfl trivial (ss_idxL rfl rfl q5) rfl ?_
   refine rd_l rfl rfl trivial (ss_loadL (f := ci) rfl q4) rfl ?_
   refine rd_l rfl rfl trivial (ss_loadL (f := ci) rfl q5) rfl ?_
   refine rd_s rfl rfl trivial (ss_geq rfl rfl) rfl ?_
   refine rd_nil ?_
   refine aw_cond rfl (fun q6 => ?_) (fun q6 => ?_)
   ·replace h := h.1 (of_decide_eq_true q6)
    refine aw_seq ?_
    refine aw_gh (gh_to (n := 20) (σ' := []) (env' := []) rfl rfl trivial) ?_
    refine aw_region ?_
    refine run_s (ss_assign rfl) rfl ?_
    refine run_nil ?_
    refine aw_ret ?_
    exact retAF_mk (retv1 rfl (rv_tmp rfl)) rfl rfl ⟨_, (cle_refl _), _, h, rfl⟩
   ·replace h := h.2 (of_decide_eq_false q6)
    refine aw_skip ?_
    refine aw_gh (gh_to (n := 20) (σ' := []) (env' := [(0, .c (.lst (ints list))), (3, .c (ci v3_1))]) rfl rfl ⟨rfl, rfl, trivial⟩) ?_
    refine aw_region ?_
    refine run_s (ss_move rfl) rfl ?_
    obtain ⟨q7, h⟩ := h
    refine run_s (ss_add rfl rfl q7) rfl ?_
    refine run_s (ss_assign rfl) rfl ?_
    refine run_nil ?_
    exact ⟨v3_1 + 1, ghe_to (n := 20) rfl rfl ⟨rfl, rfl, trivial⟩, h.1, h.2⟩
  ·replace h := h.2 (of_decide_eq_false q2)
   refine aw_exit ?_
   refine aw_seq ?_
   refine aw_gh (gh_to (n := 20) (σ' := []) (env' := []) rfl rfl trivial) ?_
   refine aw_region ?_
   refine run_s (ss_assign rfl) rfl ?_
   refine run_nil ?_
   refine aw_ret ?_
   exact retAF_mk (retv1 rfl (rv_tmp rfl)) rfl rfl ⟨_, (cle_refl _), _, h, rfl⟩

theorem c_impl_increasing (list : List Int) (hp : small list) : AF Try.prog 86 [.lst (ints list)] (fun R_ => R_ = cb (incB list)) :=
  (w_impl_increasing list (fun y0 => y0 = incB list) (p_impl_increasing list hp)).mono (by rintro r ⟨_, rfl, rfl⟩; rfl)

set_option maxRecDepth 100000 in
set_option maxHeartbeats 4000000 in
theorem w_impl_isIdentity (p : List Int) (Q : Bool → Prop) (h : wp_impl_isIdentity p Q) : AF Try.prog 104 [.lst (ints p)] (fun R_ => ∃ y0, Q y0 ∧ R_ = cb y0) := by
  refine AF.ofWQ (af_enter (n := 5) Try.func104 rfl (by rfl) rfl (Nat.le_of_ble_eq_true rfl) ?_)
  unfold wp_impl_isIdentity at h
  refine aw_seq ?_
  refine aw_gh (gh_to (n := 5) (σ' := []) (env' := [(0, .c (.lst (ints p)))]) rfl rfl ⟨rfl, trivial⟩) ?_
  refine aw_region ?_
  refine run_s (ss_assign rfl) rfl ?_
  refine run_nil ?_
  refine aw_seq ?_
  refine aw_region ?_
  refine run_s (ss_move rfl) rfl ?_
  obtain ⟨q1, h⟩ := h
  refine run_w (ws_call (xs := [.tmp 3]) (ids := []) rfl rfl rfl rfl (c_impl_increasing p q1) rfl ?_ )
  rintro _ rfl
  refine ⟨rfl, ?_⟩
  refine run_s (ss_assign rfl) rfl ?_
  refine run_nil ?_
  refine aw_ret ?_
  exact retAF_mk (retv1 rfl (rv_tmp rfl)) rfl rfl ⟨_, (cle_refl _), _, h, rfl⟩

theorem c_impl_isIdentity (p : List Int) (hp : small p) : AF Try.prog 104 [.lst (ints p)] (fun R_ => R_ = cb (incB p)) :=
  (w_impl_isIdentity p (fun y0 => y0 = incB p) (p_impl_isIdentity p hp)).mono (by rintro r ⟨_, rfl, rfl⟩; rfl)

set_option maxRecDepth 100000 in
set_option maxHeartbeats 4000000 in
theorem w_impl_indexIn (list : List Int) (x : Int) (Q : Int → Prop) (h : wp_impl_indexIn list x Q) : AF Try.prog 119 [.lst (ints list), ci x] (fun R_ => ∃ y0, Q y0 ∧ R_ = ci y0) := by
  refine AF.ofWQ (af_enter (n := 8) Try.func119 rfl (by rfl) rfl (Nat.le_of_ble_eq_true rfl) ?_)
  unfold wp_impl_indexIn at h
  refine aw_seq ?_
  refine aw_gh (gh_to (n := 8) (σ' := []) (env' := [(0, .c (.lst (ints list))), (1, .c (ci x))]) rfl rfl ⟨rfl, rfl, trivial⟩) ?_
  refine aw_region ?_
  refine run_s (ss_assign rfl) rfl ?_
  refine run_nil ?_
  refine aw_seq ?_
  refine aw_region ?_
  refine run_s (ss_move rfl) rfl ?_
  refine run_s (ss_move rfl) rfl ?_
  obtain ⟨q1, h⟩ := h
  refine run_w (ws_call (xs := [.tmp 5, .tmp 6]) (ids := []) rfl rfl rfl rfl (c_k_Index list x q1) rfl ?_ )
  rintro _ rfl
  refine ⟨rfl, ?_⟩
  refine run_s (ss_assign rfl) rfl ?_
  refine run_nil ?_
  refine aw_ret ?_
  exact retAF_mk (retv1 rfl (rv_tmp rfl)) rfl rfl ⟨_, (cle_refl _), _, h, rfl⟩

theorem c_impl_indexIn (list : List Int) (x : Int) (hp : small list) : AF Try.prog 119 [.lst (ints list), ci x] (fun R_ => R_ = ci (idxI list x)) :=
  (w_impl_indexIn list x (fun y0 => y0 = idxI list x) (p_impl_indexIn list x hp)).mono (by rintro r ⟨_, rfl, rfl⟩; rfl)

set_option maxRecDepth 100000 in
set_option maxHeartbeats 4000000 in
theorem w_impl_areElements (n : Int) (list : List Int) (Q : Bool → Prop) (h : wp_impl_areElements n list Q) : AF Try.prog 77 [ci n, .lst (ints list)] (fun R_ => ∃ y0, Q y0 ∧ R_ = cb y0) := by
  refine AF.ofWQ (af_enter (n := 9) Try.func77 rfl (by rfl) rfl (Nat.le_of_ble_eq_true rfl) ?_)
  unfold wp_impl_areElements at h
  refine aw_seq ?_
  refine aw_gh (gh_to (n := 9) (σ' := []) (env' := [(0, .c (ci n)), (1, .c (.lst (ints list)))]) rfl rfl ⟨rfl, rfl, trivial⟩) ?_
  refine aw_region ?_
  refine run_s (ss_assign rfl) rfl ?_
  refine run_nil ?_
  refine aw_seq ?_
  refine aw_region ?_
  refine run_s (ss_move rfl) rfl ?_
  refine run_s (ss_move rfl) rfl ?_
  obtain ⟨q1, h⟩ := h
  refine run_s (ss_sub rfl rfl q1) rfl ?_
  obtain ⟨q2, h⟩ := h
  refine run_w (ws_call (xs := [.tmp 5, .const (.int .i64 (0)), .tmp 7]) (ids := []) rfl rfl rfl rfl (c_impl_allWithin list 0 (n - 1) q2) rfl ?_ )
  rintro _ rfl
  refine ⟨rfl, ?_⟩
  refine run_s (ss_assign rfl) rfl ?_
  refine run_nil ?_
  refine aw_ret ?_
  exact retAF_mk (retv1 rfl (rv_tmp rfl)) rfl rfl ⟨_, (cle_refl _), _, h, rfl⟩

theorem c_impl_areElements (n : Int) (list : List Int) (hp : small list ∧ 0 ≤ n ∧ n ≤ 1000000000) : AF Try.prog 77 [ci n, .lst (ints list)] (fun R_ => R_ = cb (list.all (fun z_ => decide (0 ≤ z_) && decide (z_ ≤ n - 1)))) :=
  (w_impl_areElements n list (fun y0 => y0 = list.all (fun z_ => decide (0 ≤ z_) && decide (z_ ≤ n - 1))) (p_impl_areElements n list hp)).mono (by rintro r ⟨_, rfl, rfl⟩; rfl)

set_option maxRecDepth 100000 in
set_option maxHeartbeats 4000000 in
theorem w_impl_IsCycleSet (c : List (List Int)) (Q : Bool → Prop) (h : wp_impl_IsCycleSet c Q) : AF Try.prog 43 [.agg [.lst (rows c)]] (fun R_ => ∃ y0, Q y0 ∧ R_ = cb y0) := by
  refine AF.ofWQ (af_enter (n := 22) Try.func43 rfl (by rfl) rfl (Nat.le_of_ble_eq_true rfl) ?_)
  unfold wp_impl_IsCycleSet at h
  refine aw_seq ?_
  refine aw_gh (gh_to (n := 22) (σ' := []) (env' := [(0, .c (.agg [.lst (rows c)]))]) rfl rfl ⟨rfl, trivial⟩) ?_
  refine aw_region ?_
  refine run_w (ws_boxR rfl (.inl rfl) rfl ⟨rfl, ?_⟩)
  refine run_s (ss_assign rfl) rfl ?_
  refine run_nil ?_
  refine aw_seq ?_
  refine aw_region ?_
  refine run_s (ss_field_ptr rfl) rfl ?_
  refine run_s (ss_load_ptr rfl rfl) rfl ?_
  obtain ⟨q1, h⟩ := h
  refine run_w (ws_call (xs := [.tmp 4]) (ids := []) rfl rfl rfl rfl (c_impl_IsTable c q1) rfl ?_ )
  rintro _ rfl
  refine ⟨rfl, ?_⟩
  refine run_s (ss_move rfl) rfl ?_
  refine run_split (s := 6) rfl (fun q3 => ?_) (fun q3 => ?_)
  ·replace h := h.1 (q3)
   refine run_gt rfl rfl q3 ?_
   refine run_s (ss_field_ptr rfl) rfl ?_
   refine run_gt rfl rfl q3 ?_
   refine run_s (ss_load_ptr rfl rfl) rfl ?_
   refine run_gt rfl rfl q3 ?_
   obtain ⟨q4, h⟩ := h
   refine run_w (ws_call (xs := [.tmp 8]) (ids := []) rfl rfl rfl rfl (c_impl_permutationRows c q4) rfl ?_ )
   rintro _ rfl
   refine ⟨rfl, ?_⟩
   refine run_s (ss_pickT rfl q3 rfl) rfl ?_
   refine run_s (ss_move rfl) rfl ?_
   refine run_split (s := 11) rfl (fun q6 => ?_) (fun q6 => ?_)
   ·replace h := h.1 (q6)
    refine run_gt rfl rfl q6 ?_
    refine run_s (ss_load_struct rfl (Nat.le_of_ble_eq_true rfl)) rfl ?_
    refine run_gt rfl rfl q6 ?_
    obtain ⟨q7, h⟩ := h
    refine run_w (ws_call (xs := [.tmp 12]) (ids := [13]) rfl rfl rfl rfl (c_impl_squaresOf c q7) rfl ?_ )
    rintro _ rfl
    refine ⟨rfl, ?_⟩
    refine run_gt rfl rfl q6 ?_
    obtain ⟨q9, h⟩ := h
    refine run_w (ws_callR (xs := [.tmp 13]) (cs := [.own (ints (diag c))]) (ids := []) rfl (.inr ⟨rfl, rfl⟩) rfl rfl (fz_cons (fz_own (fz_map (fun _ => rfl) _)) fz_nil) (c_impl_isPermuted (diag c) q9) rfl ?_ )
    rintro _ rfl
    refine ⟨rfl, rfl, ?_⟩
    refine run_s (ss_pickT rfl q6 rfl) rfl ?_
    refine run_s (ss_move rfl) rfl ?_
    refine run_split (s := 16) rfl (fun q11 => ?_) (fun q11 => ?_)
    ·replace h := h.1 (q11)
     refine run_gt rfl rfl q11 ?_
     refine run_s (ss_field_ptr rfl) rfl ?_
     refine run_gt rfl rfl q11 ?_
     refine run_s (ss_load_ptr rfl rfl) rfl ?_
     refine run_gt rfl rfl q11 ?_
     by_cases q12 : (cycF c) = []
     ·replace h := h.1 q12
      obtain ⟨q13, h⟩ := h
      refine run_w (ws_call (xs := [.tmp 18]) (ids := []) rfl rfl rfl rfl (AF.onil_n (c_impl_cycleFault c q13) q12) rfl ?_ )
      rintro _ rfl
      refine ⟨rfl, ?_⟩
      refine run_gt rfl rfl q11 ?_
      refine run_s (ss_eql_nil rfl rfl) rfl ?_
      refine run_s (ss_pickT rfl q11 rfl) rfl ?_
      refine run_s (ss_assign rfl) rfl ?_
      refine run_nil ?_
      refine aw_ret ?_
      exact retAF_mk (retv1 rfl (rv_tmp rfl)) rfl rfl ⟨_, (cle_refl _), _, h, rfl⟩
     ·replace h := h.2 q12
      obtain ⟨q15, h⟩ := h
      refine run_w (ws_call (xs := [.tmp 18]) (ids := [19]) rfl rfl rfl rfl (AF.onil_o (c_impl_cycleFault c q15) q12) rfl ?_ )
      rintro _ rfl
      refine ⟨rfl, ?_⟩
      refine run_gt rfl rfl q11 ?_
      refine run_s (ss_eql_refNil rfl rfl (map_ne q12) rfl) rfl ?_
      refine run_s (ss_pickT rfl q11 rfl) rfl ?_
      refine run_s (ss_assign rfl) rfl ?_
      refine run_nil ?_
      refine aw_ret ?_
      exact retAF_mk (retv1 rfl (rv_tmp rfl)) rfl rfl ⟨_, (cle_refl _), _, h, rfl⟩
    ·replace h := h.2 (q11)
     refine run_gf rfl rfl q11 rfl ?_
     refine run_gf rfl rfl q11 rfl ?_
     refine run_gf rfl rfl q11 rfl ?_
     refine run_gf rfl rfl q11 rfl ?_
     refine run_s (ss_pickF rfl q11 rfl) rfl ?_
     refine run_s (ss_assign rfl) rfl ?_
     refine run_nil ?_
     refine aw_ret ?_
     exact retAF_mk (retv1 rfl (rv_tmp rfl)) rfl rfl ⟨_, (cle_refl _), _, h, rfl⟩
   ·replace h := h.2 (q6)
    refine run_gf rfl rfl q6 rfl ?_
    refine run_gf rfl rfl q6 rfl ?_
    refine run_gf rfl rfl q6 rfl ?_
    refine run_s (ss_pickF rfl q6 rfl) rfl ?_
    refine run_s (ss_move rfl) rfl ?_
    refine run_split (s := 16) rfl (fun q17 => ?_) (fun q17 => ?_)
    ·cases q17
    ·skip
     refine run_gf rfl rfl q17 rfl ?_
     refine run_gf rfl rfl q17 rfl ?_
     refine run_gf rfl rfl q17 rfl ?_
     refine run_gf rfl rfl q17 rfl ?_
     refine run_s (ss_pickF rfl q17 rfl) rfl ?_
     refine run_s (ss_assign rfl) rfl ?_
     refine run_nil ?_
     refine aw_ret ?_
     exact retAF_mk (retv1 rfl (rv_tmp rfl)) rfl rfl ⟨_, (cle_refl _), _, h, rfl⟩
  ·replace h := h.2 (q3)
   refine run_gf rfl rfl q3 rfl ?_
   refine run_gf rfl rfl q3 rfl ?_
   refine run_gf rfl rfl q3 rfl ?_
   refine run_s (ss_pickF rfl q3 rfl) rfl ?_
   refine run_s (ss_move rfl) rfl ?_
   refine run_split (s := 11) rfl (fun q18 => ?_) (fun q18 => ?_)
   ·cases q18
   ·skip
    refine run_gf rfl rfl q18 rfl ?_
    refine run_gf rfl rfl q18 rfl ?_
    refine run_gf rfl rfl q18 rfl ?_
    refine run_s (ss_pickF rfl q18 rfl) rfl ?_
    refine run_s (ss_move rfl) rfl ?_
    refine run_split (s := 16) rfl (fun q19 => ?_) (fun q19 => ?_)
    ·cases q19
    ·skip
     refine run_gf rfl rfl q19 rfl ?_
     refine run_gf rfl rfl q19 rfl ?_
     refine run_gf rfl rfl q19 rfl ?_
     refine run_gf rfl rfl q19 rfl ?_
     refine run_s (ss_pickF rfl q19 rfl) rfl ?_
     refine run_s (ss_assign rfl) rfl ?_
     refine run_nil ?_
     refine aw_ret ?_
     exact retAF_mk (retv1 rfl (rv_tmp rfl)) rfl rfl ⟨_, (cle_refl _), _, h, rfl⟩

theorem c_impl_IsCycleSet (c : List (List Int)) (hp : small2 c) : AF Try.prog 43 [.agg [.lst (rows c)]] (fun R_ => R_ = cb (isCyc c)) :=
  (w_impl_IsCycleSet c (fun y0 => y0 = isCyc c) (p_impl_IsCycleSet c hp)).mono (by rintro r ⟨_, rfl, rfl⟩; rfl)

set_option maxRecDepth 100000 in
set_option maxHeartbeats 4000000 in
theorem w_spec_l05Is (c : List (List Int)) (Q : Bool → Prop) (h : wp_spec_l05Is c Q) : AF Try.prog 132 [.agg [.lst (rows c)]] (fun R_ => ∃ y0, Q y0 ∧ R_ = cb y0) := by
  refine AF.ofWQ (af_enter (n := 24) Try.func132 rfl (by rfl) rfl (Nat.le_of_ble_eq_true rfl) ?_)
  unfold wp_spec_l05Is at h
  refine aw_seq ?_
  refine aw_gh (gh_to (n := 24) (σ' := []) (env' := [(0, .c (.agg [.lst (rows c)]))]) rfl rfl ⟨rfl, trivial⟩) ?_
  refine aw_region ?_
  refine run_w (ws_boxR rfl (.inl rfl) rfl ⟨rfl, ?_⟩)
  refine run_s (ss_assign rfl) rfl ?_
  refine run_nil ?_
  refine aw_seq ?_
  refine aw_region ?_
  refine run_s (ss_field_ptr rfl) rfl ?_
  refine run_s (ss_load_ptr rfl rfl) rfl ?_
  obtain ⟨q1, h⟩ := h
  refine run_w (ws_call (xs := [.tmp 4]) (ids := []) rfl rfl rfl rfl (c_spec_l01Table c q1) rfl ?_ )
  rintro _ rfl
  refine ⟨rfl, ?_⟩
  refine run_s (ss_move rfl) rfl ?_
  refine run_split (s := 6) rfl (fun q3 => ?_) (fun q3 => ?_)
  ·replace h := h.1 (q3)
   refine run_gt rfl rfl q3 ?_
   refine run_s (ss_field_ptr rfl) rfl ?_
   refine run_gt rfl rfl q3 ?_
   refine run_s (ss_load_ptr rfl rfl) rfl ?_
   refine run_gt rfl rfl q3 ?_
   obtain ⟨q4, h⟩ := h
   refine run_w (ws_call (xs := [.tmp 8]) (ids := []) rfl rfl rfl rfl (c_spec_l01Rows c q4) rfl ?_ )
   rintro _ rfl
   refine ⟨rfl, ?_⟩
   refine run_s (ss_pickT rfl q3 rfl) rfl ?_
   refine run_s (ss_move rfl) rfl ?_
   refine run_split (s := 11) rfl (fun q6 => ?_) (fun q6 => ?_)
   ·replace h := h.1 (q6)
    refine run_gt rfl rfl q6 ?_
    refine run_s (ss_field_ptr rfl) rfl ?_
    refine run_gt rfl rfl q6 ?_
    refine run_s (ss_load_ptr rfl rfl) rfl ?_
    refine run_gt rfl rfl q6 ?_
    obtain ⟨q7, h⟩ := h
    refine run_w (ws_call (xs := [.tmp 13]) (ids := [14]) rfl rfl rfl rfl (c_spec_l05Squares c q7) rfl ?_ )
    rintro _ rfl
    refine ⟨rfl, ?_⟩
    refine run_gt rfl rfl q6 ?_
    obtain ⟨q9, h⟩ := h
    refine run_w (ws_callR (xs := [.tmp 14]) (cs := [.own (ints (diag c))]) (ids := []) rfl (.inr ⟨rfl, rfl⟩) rfl rfl (fz_cons (fz_own (fz_map (fun _ => rfl) _)) fz_nil) (c_spec_l01Perm (diag c) q9) rfl ?_ )
    rintro _ rfl
    refine ⟨rfl, rfl, ?_⟩
    refine run_s (ss_pickT rfl q6 rfl) rfl ?_
    refine run_s (ss_move rfl) rfl ?_
    refine run_split (s := 17) rfl (fun q11 => ?_) (fun q11 => ?_)
    ·replace h := h.1 (q11)
     refine run_gt rfl rfl q11 ?_
     refine run_s (ss_field_ptr rfl) rfl ?_
     refine run_gt rfl rfl q11 ?_
     refine run_s (ss_load_ptr rfl rfl) rfl ?_
     refine run_gt rfl rfl q11 ?_
     obtain ⟨q12, h⟩ := h
     refine run_w (ws_call (xs := [.tmp 19]) (ids := [20]) rfl rfl rfl rfl (c_spec_l05Fault c q12) rfl ?_ )
     rintro _ rfl
     refine ⟨rfl, ?_⟩
     refine run_gt rfl rfl q11 ?_
     refine run_s (ss_lenR (f := ci) rfl rfl) rfl ?_
     refine run_gt rfl rfl q11 ?_
     refine run_s (ss_eql rfl rfl) rfl ?_
     refine run_s (ss_pickT rfl q11 rfl) rfl ?_
     refine run_s (ss_assign rfl) rfl ?_
     refine run_nil ?_
     refine aw_ret ?_
     exact retAF_mk (retv1 rfl (rv_tmp rfl)) rfl rfl ⟨_, (cle_refl _), _, h, rfl⟩
    ·replace h := h.2 (q11)
     refine run_gf rfl rfl q11 rfl ?_
     refine run_gf rfl rfl q11 rfl ?_
     refine run_gf rfl rfl q11 rfl ?_
     refine run_gf rfl rfl q11 rfl ?_
     refine run_gf rfl rfl q11 rfl ?_
     refine run_s (ss_pickF rfl q11 rfl) rfl ?_
     refine run_s (ss_assign rfl) rfl ?_
     refine run_nil ?_
     refine aw_ret ?_
     exact retAF_mk (retv1 rfl (rv_tmp rfl)) rfl rfl ⟨_, (cle_refl _), _, h, rfl⟩
   ·replace h := h.2 (q6)
    refine run_gf rfl rfl q6 rfl ?_
    refine run_gf rfl rfl q6 rfl ?_
    refine run_gf rfl rfl q6 rfl ?_
    refine run_gf rfl rfl q6 rfl ?_
    refine run_s (ss_pickF rfl q6 rfl) rfl ?_
    refine run_s (ss_move rfl) rfl ?_
    refine run_split (s := 17) rfl (fun q14 => ?_) (fun q14 => ?_)
    ·cases q14
    ·skip
     refine run_gf rfl rfl q14 rfl ?_
     refine run_gf rfl rfl q14 rfl ?_
     refine run_gf rfl rfl q14 rfl ?_
     refine run_gf rfl rfl q14 rfl ?_
     refine run_gf rfl rfl q14 rfl ?_
     refine run_s (ss_pickF rfl q14 rfl) rfl ?_
     refine run_s (ss_assign rfl) rfl ?_
     refine run_nil ?_
     refine aw_ret ?_
     exact retAF_mk (retv1 rfl (rv_tmp rfl)) rfl rfl ⟨_, (cle_refl _), _, h, rfl⟩
  ·replace h := h.2 (q3)
   refine run_gf rfl rfl q3 rfl ?_
   refine run_gf rfl rfl q3 rfl ?_
   refine run_gf rfl rfl q3 rfl ?_
   refine run_s (ss_pickF rfl q3 rfl) rfl ?_
   refine run_s (ss_move rfl) rfl ?_
   refine run_split (s := 11) rfl (fun q15 => ?_) (fun q15 => ?_)
   ·cases q15
   ·skip
    refine run_gf rfl rfl q15 rfl ?_
    refine run_gf rfl rfl q15 rfl ?_
    refine run_gf rfl rfl q15 rfl ?_
    refine run_gf rfl rfl q15 rfl ?_
    refine run_s (ss_pickF rfl q15 rfl) rfl ?_
    refine run_s (ss_move rfl) rfl ?_
    refine run_split (s := 17) rfl (fun q16 => ?_) (fun q16 => ?_)
    ·cases q16
    ·skip
     refine run_gf rfl rfl q16 rfl ?_
     refine run_gf rfl rfl q16 rfl ?_
     refine run_gf rfl rfl q16 rfl ?_
     refine run_gf rfl rfl q16 rfl ?_
     refine run_gf rfl rfl q16 rfl ?_
     refine run_s (ss_pickF rfl q16 rfl) rfl ?_
     refine run_s (ss_assign rfl) rfl ?_
     refine run_nil ?_
     refine aw_ret ?_
     exact retAF_mk (retv1 rfl (rv_tmp rfl)) rfl rfl ⟨_, (cle_refl _), _, h, rfl⟩

theorem c_spec_l05Is (c : List (List Int)) (hp : small2 c) : AF Try.prog 132 [.agg [.lst (rows c)]] (fun R_ => R_ = cb (isCyc c)) :=
  (w_spec_l05Is c (fun y0 => y0 = isCyc c) (p_spec_l05Is c hp)).mono (by rintro r ⟨_, rfl, rfl⟩; rfl)

set_option maxRecDepth 100000 in
set_option maxHeartbeats 4000000 in
theorem w_spec_l05Affine (n : Int) (a : Int) (b : Int) (c : Int) (Q : List (List Int) → Prop) (h : wp_spec_l05Affine n a b c Q) : AF Try.prog 196 [ci n, ci a, ci b, ci c] (fun R_ => ∃ y0, Q y0 ∧ R_ = .agg [.own (orows y0)]) := by
  refine AF.ofWQ (af_enter (n := 46) Try.func196 rfl (by rfl) rfl (Nat.le_of_ble_eq_true rfl) ?_)
  unfold wp_spec_l05Affine at h
  refine aw_seq ?_
  refine aw_gh (gh_to (n := 46) (σ' := []) (env' := [(0, .c (ci n)), (1, .c (ci a)), (2, .c (ci b)), (3, .c (ci c))]) rfl rfl ⟨rfl, rfl, rfl, rfl, trivial⟩) ?_
  refine aw_region ?_
  refine run_w (ws_alloc (id := 8) rfl (Nat.le_of_ble_eq_true rfl) ⟨rfl, ?_⟩)
  refine run_nil ?_
  refine aw_seq ?_
  refine aw_region ?_
  refine run_s (ss_build0) rfl ?_
  refine run_w (ws_alloc (id := 9) rfl (Nat.le_of_ble_eq_true rfl) ⟨rfl, ?_⟩)
  refine run_w (ws_storeS rfl rfl (Nat.le_of_ble_eq_true rfl) rfl rfl rfl ⟨rfl, ?_⟩)
  refine run_nil ?_
  refine aw_seq ?_
  refine aw_seq ?_
  refine aw_region ?_
  refine run_s (ss_assign rfl) rfl ?_
  refine run_nil ?_
  refine aw_block ?_
  obtain ⟨H1, m1, q1, h⟩ := h
  refine aw_loop2 (fun (v10_1 : Int) (o200144_1 : List (List Int)) => ⟨[(200144, ⟨orows o200144_1, []⟩), (9, ⟨[.hole], [(0, .ref 200144)]⟩), (8, ⟨[cnil], []⟩)], [(0, .c (ci n)), (1, .c (ci a)), (2, .c (ci b)), (3, .c (ci c)), (8, .cell 8 0), (9, .cell 9 0), (10, .c (ci v10_1))], 46⟩) H1 m1 ⟨0, ([] : List (List Int)), ghe_step (gh_nilH (id0 := 9) (j := 0) (id := 200144) rfl rfl rfl rfl) (ghe_to (n := 46) rfl rfl ⟨rfl, rfl, rfl, rfl, rfl, rfl, rfl, trivial⟩), q1⟩ ?_
  rintro v10_1 o200144_1 q1
  replace h := h v10_1 o200144_1 q1
  refine aw_seq ?_
  refine aw_seq ?_
  refine aw_region ?_
  refine run_s (ss_move rfl) rfl ?_
  refine run_s (ss_move rfl) rfl ?_
  refine run_s (ss_lss rfl rfl) rfl ?_
  refine run_nil ?_
  refine aw_cond rfl (fun q2 => ?_) (fun q2 => ?_)
  ·replace h := h.1 (of_decide_eq_true q2)
   refine aw_skip ?_
   refine aw_seq ?_
   refine aw_block ?_
   refine aw_seq ?_
   refine aw_region ?_
   refine run_w (ws_buildSlice (id := 19) (ps := []) rfl rfl (Nat.le_of_ble_eq_true rfl) rfl ⟨rfl, ?_⟩)
   refine run_s (ss_assign rfl) rfl ?_
   refine run_nil ?_
   refine aw_seq ?_
   refine aw_seq ?_
   refine aw_gh (gh_to (n := 46) (σ' := [(19, ⟨ints ([] : List Int), []⟩), (200144, ⟨orows o200144_1, []⟩), (9, ⟨[.hole], [(0, .ref 200144)]⟩), (8, ⟨[cnil], []⟩)]) (env' := [(0, .c (ci n)), (1, .c (ci a)), (2, .c (ci b)), (3, .c (ci c)), (8, .cell 8 0), (9, .cell 9 0), (10, .c (ci v10_1)), (11, .ref 19)]) rfl rfl ⟨rfl, rfl, rfl, rfl, rfl, rfl, rfl, rfl, trivial⟩) ?_
   refine aw_region ?_
   refine run_s (ss_assign rfl) rfl ?_
   refine run_nil ?_
   refine aw_block ?_
   obtain ⟨H2, m2, q3, h⟩ := h
   refine aw_loop2 (fun (v12_2 : Int) (o19_2 : List Int) => ⟨[(19, ⟨ints o19_2, []⟩), (200144, ⟨orows o200144_1, []⟩), (9, ⟨[.hole], [(0, .ref 200144)]⟩), (8, ⟨[cnil], []⟩)], [(0, .c (ci n)), (1, .c (ci a)), (2, .c (ci b)), (3, .c (ci c)), (8, .cell 8 0), (9, .cell 9 0), (10, .c (ci v10_1)), (11, .ref 19), (12, .c (ci v12_2))], 46⟩) H2 m2 ⟨0, ([] : List Int), ghe_to (n := 46) rfl rfl ⟨rfl, rfl, rfl, rfl, rfl, rfl, rfl, rfl, rfl, trivial⟩, q3⟩ ?_
   rintro v12_2 o19_2 q3
   replace h := h v12_2 o19_2 q3
   refine aw_seq ?_
   refine aw_seq ?_
   refine aw_region ?_
   refine run_s (ss_move rfl) rfl ?_
   refine run_s (ss_move rfl) rfl ?_
   refine run_s (ss_lss rfl rfl) rfl ?_
   refine run_nil ?_
   refine aw_cond rfl (fun q4 => ?_) (fun q4 => ?_)
   ·replace h := h.1 (of_decide_eq_true q4)
    refine aw_skip ?_
    refine aw_seq ?_
    refine aw_block ?_
    refine aw_region ?_
    refine run_s (ss_move rfl) rfl ?_
    refine run_s (ss_move rfl) rfl ?_
    refine run_s (ss_move rfl) rfl ?_
    obtain ⟨q5, h⟩ := h
    refine run_s (ss_mul rfl rfl q5) rfl ?_
    refine run_s (ss_move rfl) rfl ?_
    refine run_s (ss_move rfl) rfl ?_
    obtain ⟨q6, h⟩ := h
    refine run_s (ss_mul rfl rfl q6) rfl ?_
    obtain ⟨q7, h⟩ := h
    refine run_s (ss_add rfl rfl q7) rfl ?_
    refine run_s (ss_move rfl) rfl ?_
    obtain ⟨q8, h⟩ := h
    refine run_s (ss_add rfl rfl q8) rfl ?_
    refine run_s (ss_move rfl) rfl ?_
    obtain ⟨q9, h⟩ := h
    refine run_s (ss_rem rfl rfl q9) rfl ?_
    refine run_w (ws_buildSlice (id := 37) (ps := [(0, .tmp 36)]) rfl rfl (Nat.le_of_ble_eq_true rfl) rfl ⟨rfl, ?_⟩)
    obtain ⟨q10, h⟩ := h
    refine run_w (ws_app1 ci (l := o19_2) (m := [(((a * v10_1) + (b * v12_2)) + c) % n]) rfl rfl rfl rfl rfl (Nat.le_of_ble_eq_true rfl) q10 ⟨rfl, ?_⟩)
    refine run_s (ss_assign rfl) rfl ?_
    refine run_nil ?_
    refine aw_gh (gh_to (n := 46) (σ' := [(19, ⟨ints (o19_2 ++ ([(((a * v10_1) + (b * v12_2)) + c) % n])), []⟩), (200144, ⟨orows o200144_1, []⟩), (9, ⟨[.hole], [(0, .ref 200144)]⟩), (8, ⟨[cnil], []⟩)]) (env' := [(0, .c (ci n)), (1, .c (ci a)), (2, .c (ci b)), (3, .c (ci c)), (8, .cell 8 0), (9, .cell 9 0), (10, .c (ci v10_1)), (11, .ref 19), (12, .c (ci v12_2))]) rfl rfl ⟨rfl, rfl, rfl, rfl, rfl, rfl, rfl, rfl, rfl, trivial⟩) ?_
    refine aw_region ?_
    refine run_s (ss_move rfl) rfl ?_
    obtain ⟨q11, h⟩ := h
    refine run_s (ss_add rfl rfl q11) rfl ?_
    refine run_s (ss_assign rfl) rfl ?_
    refine run_nil ?_
    exact ⟨v12_2 + 1, o19_2 ++ ([(((a * v10_1) + (b * v12_2)) + c) % n]), ghe_to (n := 46) rfl rfl ⟨rfl, rfl, rfl, rfl, rfl, rfl, rfl, rfl, rfl, trivial⟩, h.1, h.2⟩
   ·replace h := h.2 (of_decide_eq_false q4)
    refine aw_exit ?_
    refine aw_region ?_
    refine run_s (ss_field_cell rfl) rfl ?_
    refine run_s (ss_loadH rfl rfl rfl rfl) rfl ?_
    refine run_s (ss_move rfl) rfl ?_
    refine run_w (ws_buildSlice (id := 42) (ps := [(0, .tmp 41)]) rfl rfl (Nat.le_of_ble_eq_true rfl) rfl ⟨rfl, ?_⟩)
    refine run_gh (gh_fill (id := 42) (id2 := 19) (j := 0) rfl rfl (Nat.le_of_ble_eq_true rfl) rfl rfl rfl) ?_
    obtain ⟨q12, h⟩ := h
    refine run_w (ws_app1 (fun r => C.own (ints r)) (l := o200144_1) (m := [o19_2]) rfl rfl rfl rfl rfl (Nat.le_of_ble_eq_true rfl) q12 ⟨rfl, ?_⟩)
    refine run_s (ss_field_cell rfl) rfl ?_
    refine run_w (ws_store rfl rfl (Nat.le_of_ble_eq_true rfl) rfl rfl ⟨rfl, ?_⟩)
    refine run_nil ?_
    refine aw_gh (gh_to (n := 46) (σ' := [(200144, ⟨orows (o200144_1 ++ ([o19_2])), []⟩), (9, ⟨[.hole], [(0, .ref 200144)]⟩), (8, ⟨[cnil], []⟩)]) (env' := [(0, .c (ci n)), (1, .c (ci a)), (2, .c (ci b)), (3, .c (ci c)), (8, .cell 8 0), (9, .cell 9 0), (10, .c (ci v10_1))]) rfl rfl ⟨rfl, rfl, rfl, rfl, rfl, rfl, rfl, trivial⟩) ?_
    refine aw_region ?_
    refine run_s (ss_move rfl) rfl ?_
    obtain ⟨q13, h⟩ := h
    refine run_s (ss_add rfl rfl q13) rfl ?_
    refine run_s (ss_assign rfl) rfl ?_
    refine run_nil ?_
    exact ⟨v10_1 + 1, o200144_1 ++ ([o19_2]), ghe_to (n := 46) rfl rfl ⟨rfl, rfl, rfl, rfl, rfl, rfl, rfl, trivial⟩, h.1, h.2⟩
  ·replace h := h.2 (of_decide_eq_false q2)
   refine aw_exit ?_
   refine aw_seq ?_
   refine aw_gh (gh_to (n := 46) (σ' := [(200144, ⟨orows o200144_1, []⟩), (9, ⟨[.hole], [(0, .ref 200144)]⟩), (8, ⟨[cnil], []⟩)]) (env' := [(8, .cell 8 0), (9, .cell 9 0)]) rfl rfl ⟨rfl, rfl, trivial⟩) ?_
   refine aw_region ?_
   refine run_s (ss_loadS rfl rfl rfl rfl) rfl ?_
   refine run_w (ws_storeS rfl rfl (Nat.le_of_ble_eq_true rfl) rfl rfl rfl ⟨rfl, ?_⟩)
   refine run_nil ?_
   refine aw_ret ?_
   exact retAF_mk (retv1 rfl (rv_struct rfl rfl rfl)) rfl rfl ⟨_, (cle_refl _), _, h, rfl⟩

theorem c_spec_l05Affine (n : Int) (a : Int) (b : Int) (c : Int) (hp : 1 ≤ n ∧ n ≤ 12 ∧ 0 ≤ a ∧ a < n ∧ 0 ≤ b ∧ b < n ∧ 0 ≤ c ∧ c < n) : AF Try.prog 196 [ci n, ci a, ci b, ci c] (fun R_ => R_ = .agg [.own (orows (tab n (fun x_ y_ => (a * x_ + b * y_ + c) % n)))]) :=
  (w_spec_l05Affine n a b c (fun y0 => y0 = tab n (fun x_ y_ => (a * x_ + b * y_ + c) % n)) (p_spec_l05Affine n a b c hp)).mono (by rintro r ⟨_, rfl, rfl⟩; rfl)

set_option maxRecDepth 100000 in
set_option maxHeartbeats 4000000 in
theorem w_impl_DotPower (c : List (List Int)) (x : Int) (k : Int) (Q : Int → Int → Prop) (h : wp_impl_DotPower c x k Q) : AF Try.prog 48 [.agg [.lst (rows c)], ci x, ci k] (fun R_ => ∃ y0 y1, Q y0 y1 ∧ R_ = .tup [ci y0, ci y1]) := by
  refine AF.ofWQ (af_enter (n := 36) Try.func48 rfl (by rfl) rfl (Nat.le_of_ble_eq_true rfl) ?_)
  unfold wp_impl_DotPower at h
  refine aw_seq ?_
  refine aw_gh (gh_to (n := 36) (σ' := []) (env' := [(0, .c (.agg [.lst (rows c)])), (1, .c (ci x)), (2, .c (ci k))]) rfl rfl ⟨rfl, rfl, rfl, trivial⟩) ?_
  refine aw_region ?_
  refine run_w (ws_boxR rfl (.inl rfl) rfl ⟨rfl, ?_⟩)
  refine run_s (ss_assign rfl) rfl ?_
  refine run_s (ss_assign rfl) rfl ?_
  refine run_nil ?_
  refine aw_seq ?_
  refine aw_seq ?_
  refine aw_region ?_
  refine run_s (ss_load_struct rfl (Nat.le_of_ble_eq_true rfl)) rfl ?_
  obtain ⟨q1, h⟩ := h
  refine run_w (ws_call (xs := [.tmp 8]) (ids := []) rfl rfl rfl rfl (c_impl_IsCycleSet c q1) rfl ?_ )
  rintro _ rfl
  refine ⟨rfl, ?_⟩
  refine run_s (ss_not rfl) rfl ?_
  refine run_nil ?_
  refine aw_cond rfl (fun q3 => ?_) (fun q3 => ?_)
  ·replace h := h.1 ((bnot_t q3))
   refine aw_seq ?_
   refine aw_gh (gh_to (n := 36) (σ' := []) (env' := [(6, .c (ci 0)), (7, .c (ci 0))]) rfl rfl ⟨rfl, rfl, trivial⟩) ?_
   refine aw_region ?_
   refine run_s (ss_assign rfl) rfl ?_
   refine run_s (ss_assign rfl) rfl ?_
   refine run_nil ?_
   refine aw_ret ?_
   exact retAF_mk (retv2 rfl (rv_tmp rfl) (rv_tmp rfl)) rfl rfl ⟨_, (cle_refl _), _, _, h, rfl⟩
  ·replace h := h.2 ((bnot_f q3))
   refine aw_skip ?_
   refine aw_seq ?_
   refine aw_seq ?_
   refine aw_region ?_
   refine run_s (ss_field_ptr rfl) rfl ?_
   refine run_s (ss_load_ptr rfl rfl) rfl ?_
   refine run_s (ss_lenL (f := (fun r => C.lst (ints r))) rfl) rfl ?_
   refine run_s (ss_move rfl) rfl ?_
   refine run_w (ws_buildSlice (id := 15) (ps := [(0, .tmp 14)]) rfl rfl (Nat.le_of_ble_eq_true rfl) rfl ⟨rfl, ?_⟩)
   obtain ⟨q4, h⟩ := h
   refine run_w (ws_callR (xs := [.tmp 13, .tmp 15]) (cs := [ci (c.length : Int), .own (ints ([x]))]) (ids := []) rfl (.inr ⟨rfl, rfl⟩) rfl rfl (fz_cons rfl (fz_cons (fz_own (fz_map (fun _ => rfl) _)) fz_nil)) (c_impl_areElements (c.length : Int) ([x]) q4) rfl ?_ )
   rintro _ rfl
   refine ⟨rfl, rfl, ?_⟩
   refine run_s (ss_not rfl) rfl ?_
   refine run_s (ss_move rfl) rfl ?_
   refine run_split (s := 18) rfl (fun q6 => ?_) (fun q6 => ?_)
   ·replace h := h.1 ((bnot_t q6))
    refine run_gf rfl rfl q6 rfl ?_
    refine run_gf rfl rfl q6 rfl ?_
    refine run_gf rfl rfl q6 rfl ?_
    refine run_s (ss_pickT rfl q6 rfl) rfl ?_
    refine run_nil ?_
    refine aw_cond rfl (fun q7 => ?_) (fun q7 => ?_)
    ·skip
     refine aw_seq ?_
     refine aw_gh (gh_to (n := 36) (σ' := [(15, ⟨ints ([x]), []⟩)]) (env' := [(6, .c (ci 0)), (7, .c (ci 0))]) rfl rfl ⟨rfl, rfl, trivial⟩) ?_
     refine aw_region ?_
     refine run_s (ss_assign rfl) rfl ?_
     refine run_s (ss_assign rfl) rfl ?_
     refine run_nil ?_
     refine aw_ret ?_
     exact retAF_mk (retv2 rfl (rv_tmp rfl) (rv_tmp rfl)) rfl rfl ⟨_, (cle_refl _), _, _, h, rfl⟩
    ·cases q7
   ·replace h := h.2 ((bnot_f q6))
    refine run_gt rfl rfl q6 ?_
    refine run_s (ss_move rfl) rfl ?_
    refine run_gt rfl rfl q6 ?_
    refine run_w (ws_call (xs := [.tmp 19, .const (.int .i64 (0)), .const (.int .i64 (1000))]) (ids := []) rfl rfl rfl rfl (c_impl_within k 0 1000) rfl ?_ )
    rintro _ rfl
    refine ⟨rfl, ?_⟩
    refine run_gt rfl rfl q6 ?_
    refine run_s (ss_not rfl) rfl ?_
    refine run_s (ss_pickF rfl q6 rfl) rfl ?_
    refine run_nil ?_
    refine aw_cond rfl (fun q9 => ?_) (fun q9 => ?_)
    ·replace h := h.1 ((bnot_t q9))
     refine aw_seq ?_
     refine aw_gh (gh_to (n := 36) (σ' := [(15, ⟨ints ([x]), []⟩)]) (env' := [(6, .c (ci 0)), (7, .c (ci 0))]) rfl rfl ⟨rfl, rfl, trivial⟩) ?_
     refine aw_region ?_
     refine run_s (ss_assign rfl) rfl ?_
     refine run_s (ss_assign rfl) rfl ?_
     refine run_nil ?_
     refine aw_ret ?_
     exact retAF_mk (retv2 rfl (rv_tmp rfl) (rv_tmp rfl)) rfl rfl ⟨_, (cle_refl _), _, _, h, rfl⟩
    ·replace h := h.2 ((bnot_f q9))
     refine aw_skip ?_
     refine aw_seq ?_
     refine aw_seq ?_
     refine aw_gh (gh_to (n := 36) (σ' := [(15, ⟨ints ([x]), []⟩)]) (env' := [(1, .c (ci x)), (2, .c (ci k)), (3, .c (.ptr [.lst (rows c)]))]) rfl rfl ⟨rfl, rfl, rfl, trivial⟩) ?_
     refine aw_region ?_
     refine run_s (ss_move rfl) rfl ?_
     refine run_s (ss_move rfl) rfl ?_
     refine run_nil ?_
     refine aw_block ?_
     refine aw_gh (gh_frzE (id := 15) ci rfl (fun _ => rfl)) ?_
     obtain ⟨H1, m1, q10, h⟩ := h
     refine aw_loop2 (fun (v1_1 : Int) (v24_1 : Int) => ⟨[], [(1, .c (ci v1_1)), (3, .c (.ptr [.lst (rows c)])), (23, .c (ci k)), (24, .c (ci v24_1))], 36⟩) H1 m1 ⟨x, 0, ghe_to (n := 36) rfl rfl ⟨rfl, rfl, rfl, rfl, trivial⟩, q10⟩ ?_
     rintro v1_1 v24_1 q10
     replace h := h v1_1 v24_1 q10
     refine aw_seq ?_
     refine aw_region ?_
     refine run_s (ss_lss rfl rfl) rfl ?_
     refine run_nil ?_
     refine aw_seq ?_
     refine aw_cond rfl (fun q11 => ?_) (fun q11 => ?_)
     ·replace h := h.1 (of_decide_eq_true q11)
      refine aw_skip ?_
      refine aw_seq ?_
      refine aw_block ?_
      refine aw_region ?_
      refine run_s (ss_field_ptr rfl) rfl ?_
      refine run_s (ss_load_ptr rfl rfl) rfl ?_
      refine run_s (ss_move rfl) rfl ?_
      obtain ⟨q12, h⟩ := h
      refine run_s (ss_idxL rfl rfl q12) rfl ?_
      refine run_s (ss_loadL (f := (fun r => C.lst (ints r))) rfl q12) rfl ?_
      refine run_s (ss_move rfl) rfl ?_
      obtain ⟨q13, h⟩ := h
      refine run_s (ss_idxL rfl rfl q13) rfl ?_
      refine run_s (ss_loadL (f := ci) rfl q13) rfl ?_
      refine run_s (ss_assign rfl) rfl ?_
      refine run_nil ?_
      refine aw_gh (gh_to (n := 36) (σ' := []) (env' := [(1, .c (ci (el (el c v1_1) v1_1))), (3, .c (.ptr [.lst (rows c)])), (23, .c (ci k)), (24, .c (ci v24_1))]) rfl rfl ⟨rfl, rfl, rfl, rfl, trivial⟩) ?_
      refine aw_region ?_
      obtain ⟨q14, h⟩ := h
      refine run_s (ss_add rfl rfl q14) rfl ?_
      refine run_s (ss_move rfl) rfl ?_
      refine run_nil ?_
      exact ⟨el (el c v1_1) v1_1, v24_1 + 1, ghe_to (n := 36) rfl rfl ⟨rfl, rfl, rfl, rfl, trivial⟩, h.1, h.2⟩
     ·replace h := h.2 (of_decide_eq_false q11)
      refine aw_exit ?_
      refine aw_seq ?_
      refine aw_region ?_
      refine run_s (ss_move rfl) rfl ?_
      refine run_s (ss_assign rfl) rfl ?_
      refine run_s (ss_assign rfl) rfl ?_
      refine run_nil ?_
      refine aw_ret ?_
      exact retAF_mk (retv2 rfl (rv_tmp rfl) (rv_tmp rfl)) rfl rfl ⟨_, (cle_refl _), _, _, h, rfl⟩

theorem c_impl_DotPower (c : List (List Int)) (x : Int) (k : Int) (hp : small2 c ∧ InI x ∧ InI k) : AF Try.prog 48 [.agg [.lst (rows c)], ci x, ci k] (fun R_ => R_ = .tup [ci (DpwV c x k), ci (DpwE c x k)]) :=
  (w_impl_DotPower c x k (fun y0 y1 => y0 = DpwV c x k ∧ y1 = DpwE c x k) (p_impl_DotPower c x k hp)).mono (by rintro r ⟨_, _, ⟨rfl, rfl⟩, rfl⟩; rfl)

set_option maxRecDepth 100000 in
set_option maxHeartbeats 4000000 in
theorem w_impl_DotSolve (c : List (List Int)) (x : Int) (z : Int) (Q : Int → Int → Prop) (h : wp_impl_DotSolve c x z Q) : AF Try.prog 47 [.agg [.lst (rows c)], ci x, ci z] (fun R_ => ∃ y0 y1, Q y0 y1 ∧ R_ = .tup [ci y0, ci y1]) := by
  refine AF.ofWQ (af_enter (n := 26) Try.func47 rfl (by rfl) rfl (Nat.le_of_ble_eq_true rfl) ?_)
  unfold wp_impl_DotSolve at h
  refine aw_seq ?_
  refine aw_gh (gh_to (n := 26) (σ' := []) (env' := [(0, .c (.agg [.lst (rows c)])), (1, .c (ci x)), (2, .c (ci z))]) rfl rfl ⟨rfl, rfl, rfl, trivial⟩) ?_
  refine aw_region ?_
  refine run_w (ws_boxR rfl (.inl rfl) rfl ⟨rfl, ?_⟩)
  refine run_s (ss_assign rfl) rfl ?_
  refine run_s (ss_assign rfl) rfl ?_
  refine run_nil ?_
  refine aw_seq ?_
  refine aw_seq ?_
  refine aw_region ?_
  refine run_s (ss_load_struct rfl (Nat.le_of_ble_eq_true rfl)) rfl ?_
  obtain ⟨q1, h⟩ := h
  refine run_w (ws_call (xs := [.tmp 8]) (ids := []) rfl rfl rfl rfl (c_impl_IsCycleSet c q1) rfl ?_ )
  rintro _ rfl
  refine ⟨rfl, ?_⟩
  refine run_s (ss_not rfl) rfl ?_
  refine run_nil ?_
  refine aw_cond rfl (fun q3 => ?_) (fun q3 => ?_)
  ·replace h := h.1 ((bnot_t q3))
   refine aw_seq ?_
   refine aw_gh (gh_to (n := 26) (σ' := []) (env' := [(6, .c (ci 0)), (7, .c (ci 0))]) rfl rfl ⟨rfl, rfl, trivial⟩) ?_
   refine aw_region ?_
   refine run_s (ss_assign rfl) rfl ?_
   refine run_s (ss_assign rfl) rfl ?_
   refine run_nil ?_
   refine aw_ret ?_
   exact retAF_mk (retv2 rfl (rv_tmp rfl) (rv_tmp rfl)) rfl rfl ⟨_, (cle_refl _), _, _, h, rfl⟩
  ·replace h := h.2 ((bnot_f q3))
   refine aw_skip ?_
   refine aw_seq ?_
   refine aw_seq ?_
   refine aw_region ?_
   refine run_s (ss_field_ptr rfl) rfl ?_
   refine run_s (ss_load_ptr rfl rfl) rfl ?_
   refine run_s (ss_lenL (f := (fun r => C.lst (ints r))) rfl) rfl ?_
   refine run_s (ss_move rfl) rfl ?_
   refine run_s (ss_move rfl) rfl ?_
   refine run_w (ws_buildSlice (id := 16) (ps := [(0, .tmp 14), (1, .tmp 15)]) rfl rfl (Nat.le_of_ble_eq_true rfl) rfl ⟨rfl, ?_⟩)
   obtain ⟨q4, h⟩ := h
   refine run_w (ws_callR (xs := [.tmp 13, .tmp 16]) (cs := [ci (c.length : Int), .own (ints ([x, z]))]) (ids := []) rfl (.inr ⟨rfl, rfl⟩) rfl rfl (fz_cons rfl (fz_cons (fz_own (fz_map (fun _ => rfl) _)) fz_nil)) (c_impl_areElements (c.length : Int) ([x, z]) q4) rfl ?_ )
   rintro _ rfl
   refine ⟨rfl, rfl, ?_⟩
   refine run_s (ss_not rfl) rfl ?_
   refine run_nil ?_
   refine aw_cond rfl (fun q6 => ?_) (fun q6 => ?_)
   ·replace h := h.1 ((bnot_t q6))
    refine aw_seq ?_
    refine aw_gh (gh_to (n := 26) (σ' := [(16, ⟨ints ([x, z]), []⟩)]) (env' := [(6, .c (ci 0)), (7, .c (ci 0))]) rfl rfl ⟨rfl, rfl, trivial⟩) ?_
    refine aw_region ?_
    refine run_s (ss_assign rfl) rfl ?_
    refine run_s (ss_assign rfl) rfl ?_
    refine run_nil ?_
    refine aw_ret ?_
    exact retAF_mk (retv2 rfl (rv_tmp rfl) (rv_tmp rfl)) rfl rfl ⟨_, (cle_refl _), _, _, h, rfl⟩
   ·replace h := h.2 ((bnot_f q6))
    refine aw_skip ?_
    refine aw_seq ?_
    refine aw_gh (gh_to (n := 26) (σ' := [(16, ⟨ints ([x, z]), []⟩)]) (env' := [(1, .c (ci x)), (2, .c (ci z)), (3, .c (.ptr [.lst (rows c)])), (6, .c (ci 0)), (7, .c (ci 0))]) rfl rfl ⟨rfl, rfl, rfl, rfl, rfl, trivial⟩) ?_
    refine aw_region ?_
    refine run_s (ss_field_ptr rfl) rfl ?_
    refine run_s (ss_load_ptr rfl rfl) rfl ?_
    refine run_s (ss_move rfl) rfl ?_
    obtain ⟨q7, h⟩ := h
    refine run_s (ss_idxL rfl rfl q7) rfl ?_
    refine run_s (ss_loadL (f := (fun r => C.lst (ints r))) rfl q7) rfl ?_
    refine run_s (ss_move rfl) rfl ?_
    obtain ⟨q8, h⟩ := h
    refine run_w (ws_call (xs := [.tmp 23, .tmp 24]) (ids := []) rfl rfl rfl rfl (c_impl_indexIn (el c x) z q8) rfl ?_ )
    rintro _ rfl
    refine ⟨rfl, ?_⟩
    refine run_s (ss_assign rfl) rfl ?_
    refine run_s (ss_assign rfl) rfl ?_
    refine run_nil ?_
    refine aw_ret ?_
    exact retAF_mk (retv2 rfl (rv_tmp rfl) (rv_tmp rfl)) rfl rfl ⟨_, (cle_refl _), _, _, h, rfl⟩

theorem c_impl_DotSolve (c : List (List Int)) (x : Int) (z : Int) (hp : small2 c ∧ InI x ∧ InI z) : AF Try.prog 47 [.agg [.lst (rows c)], ci x, ci z] (fun R_ => R_ = .tup [ci (DsoV c x z), ci (DsoE c x z)]) :=
  (w_impl_DotSolve c x z (fun y0 y1 => y0 = DsoV c x z ∧ y1 = DsoE c x z) (p_impl_DotSolve c x z hp)).mono (by rintro r ⟨_, _, ⟨rfl, rfl⟩, rfl⟩; rfl)

def wp_spec_l01Own2 (lists : List (List Int)) (Q : List (List Int) → Prop) : Prop :=
 ∃ (H1 : Int → List (List Int) → Prop) (m1 : Int → List (List Int) → Nat),
 H1 0 ([] : List (List Int)) ∧
 ∀ (v4_1 : Int) (o5_1 : List (List Int)), H1 v4_1 o5_1 →
 ( ((v4_1 < (lists.length : Int) →
 (0 ≤ v4_1 ∧ v4_1 < (lists.length : Int)) ∧
 (small (el lists v4_1)) ∧
 ((o5_1.length : Int) + (([(el lists v4_1)]).length : Int) ≤ 1000000000) ∧
 (InI (v4_1 + 1)) ∧
 (H1 (v4_1 + 1) (o5_1 ++ ([(el lists v4_1)])) ∧ m1 (v4_1 + 1) (o5_1 ++ ([(el lists v4_1)])) < m1 v4_1 o5_1)) ∧
 (¬ (v4_1 < (lists.length : Int)) →
 Q o5_1)))

def wp_impl_PermutationOrder (p : List Int) (Q : Int → Int → Prop) : Prop :=
 (small p) ∧
 (((permB p) = false →
 Q 0 1) ∧
 ((permB p) = true →
 ∃ (H1 : Int → List Int → Prop) (m1 : Int → List Int → Nat),
 H1 1 p ∧
 ∀ (v4_1 : Int) (v5_1 : List Int), H1 v4_1 v5_1 →
 ( (small v5_1) ∧
 (((incB v5_1) = false →
 (InI (v4_1 + 1)) ∧
 (small v5_1 ∧ ∀ x_ ∈ v5_1, 0 ≤ x_ ∧ x_ < (p.length : Int)) ∧
 (H1 (v4_1 + 1) (v5_1.map (el p)) ∧ m1 (v4_1 + 1) (v5_1.map (el p)) < m1 v4_1 v5_1)) ∧
 ((incB v5_1) = true →
 Q v4_1 0)))))

def wp_spec_l02Empty (n : Int) (Q : List (List Int) → List (List Int) → Prop) : Prop :=
 ∃ (H1 : Int → List (List Int) → List (List Int) → Prop) (m1 : Int → List (List Int) → List (List Int) → Nat),
 H1 0 ([] : List (List Int)) ([] : List (List Int)) ∧
 ∀ (v4_1 : Int) (o200048_1 : List (List Int)) (o200049_1 : List (List Int)), H1 v4_1 o200048_1 o200049_1 →
 ( ((v4_1 < n →
 (0 ≤ n ∧ n ≤ 1000000000) ∧
 ((o200048_1.length : Int) + (([List.replicate n.toNat (0 : Int)]).length : Int) ≤ 1000000000) ∧
 (0 ≤ n ∧ n ≤ 1000000000) ∧
 ((o200049_1.length : Int) + (([List.replicate n.toNat (0 : Int)]).length : Int) ≤ 1000000000) ∧
 (InI (v4_1 + 1)) ∧
 (H1 (v4_1 + 1) (o200048_1 ++ ([List.replicate n.toNat (0 : Int)])) (o200049_1 ++ ([List.replicate n.toNat (0 : Int)])) ∧ m1 (v4_1 + 1) (o200048_1 ++ ([List.replicate n.toNat (0 : Int)])) (o200049_1 ++ ([List.replicate n.toNat (0 : Int)])) < m1 v4_1 o200048_1 o200049_1)) ∧
 (¬ (v4_1 < n) →
 Q o200048_1 o200049_1)))

def wp_spec_l01Column (t : List (List Int)) (y : Int) (Q : List Int → Prop) : Prop :=
 ∃ (H1 : Int → List Int → Prop) (m1 : Int → List Int → Nat),
 H1 0 ([] : List Int) ∧
 ∀ (v6_1 : Int) (o7_1 : List Int), H1 v6_1 o7_1 →
 ( ((v6_1 < (t.length : Int) →
 (0 ≤ v6_1 ∧ v6_1 < (t.length : Int)) ∧
 (0 ≤ y ∧ y < ((el t v6_1).length : Int)) ∧
 ((o7_1.length : Int) + (([el (el t v6_1) y]).length : Int) ≤ 1000000000) ∧
 (InI (v6_1 + 1)) ∧
 (H1 (v6_1 + 1) (o7_1 ++ ([el (el t v6_1) y])) ∧ m1 (v6_1 + 1) (o7_1 ++ ([el (el t v6_1) y])) < m1 v6_1 o7_1)) ∧
 (¬ (v6_1 < (t.length : Int)) →
 Q o7_1)))

def wp_spec_l01Turn (t : List (List Int)) (Q : List (List Int) → Prop) : Prop :=
 ∃ (H1 : Int → List (List Int) → Prop) (m1 : Int → List (List Int) → Nat),
 H1 0 ([] : List (List Int)) ∧
 ∀ (v4_1 : Int) (o5_1 : List (List Int)), H1 v4_1 o5_1 →
 ( ((v4_1 < (t.length : Int) →
 (isTab t = true ∧ 0 ≤ v4_1 ∧ v4_1 < (t.length : Int)) ∧
 ((o5_1.length : Int) + (([colI t v4_1]).length : Int) ≤ 1000000000) ∧
 (InI (v4_1 + 1)) ∧
 (H1 (v4_1 + 1) (o5_1 ++ ([colI t v4_1])) ∧ m1 (v4_1 + 1) (o5_1 ++ ([colI t v4_1])) < m1 v4_1 o5_1)) ∧
 (¬ (v4_1 < (t.length : Int)) →
 Q o5_1)))

def wp_impl_solutionCycle (s1 : List (List Int)) (_s2 : List (List Int)) (Q : List (List Int) → Prop) : Prop :=
 ∃ (H1 : Int → List (List Int) → Prop) (m1 : Int → List (List Int) → Nat),
 H1 0 ([] : List (List Int)) ∧
 ∀ (v9_1 : Int) (o200048_1 : List (List Int)), H1 v9_1 o200048_1 →
 ( ((v9_1 < (s1.length : Int) →
 (0 ≤ v9_1 ∧ v9_1 < (s1.length : Int)) ∧
 (small (el s1 v9_1) ∧ isPerm (el s1 v9_1) = true) ∧
 ((o200048_1.length : Int) + (([backI (el s1 v9_1)]).length : Int) ≤ 1000000000) ∧
 (InI (v9_1 + 1)) ∧
 (H1 (v9_1 + 1) (o200048_1 ++ ([backI (el s1 v9_1)])) ∧ m1 (v9_1 + 1) (o200048_1 ++ ([backI (el s1 v9_1)])) < m1 v9_1 o200048_1)) ∧
 (¬ (v9_1 < (s1.length : Int)) →
 Q o200048_1)))

def wp_spec_l05Cycle (s1 : List (List Int)) (_s2 : List (List Int)) (Q : List (List Int) → Prop) : Prop :=
 ∃ (H1 : Int → List (List Int) → Prop) (m1 : Int → List (List Int) → Nat),
 H1 0 ([] : List (List Int)) ∧
 ∀ (v4_1 : Int) (o200048_1 : List (List Int)), H1 v4_1 o200048_1 →
 ( ((v4_1 < (s1.length : Int) →
 (0 ≤ v4_1 ∧ v4_1 < (s1.length : Int)) ∧
 (small (el s1 v4_1) ∧ isPerm (el s1 v4_1) = true) ∧
 ((o200048_1.length : Int) + (([backI (el s1 v4_1)]).length : Int) ≤ 1000000000) ∧
 (InI (v4_1 + 1)) ∧
 (H1 (v4_1 + 1) (o200048_1 ++ ([backI (el s1 v4_1)])) ∧ m1 (v4_1 + 1) (o200048_1 ++ ([backI (el s1 v4_1)])) < m1 v4_1 o200048_1)) ∧
 (¬ (v4_1 < (s1.length : Int)) →
 Q o200048_1)))

def wp_impl_RowOrders (c : List (List Int)) (Q : List Int → Int → Prop) : Prop :=
 (small2 c) ∧
 (((isCyc c) = false →
 Q ([]) 1) ∧
 ((isCyc c) = true →
 (0 ≤ (c.length : Int) ∧ (c.length : Int) ≤ 1000000000) ∧
 ∃ (H1 : Int → List Int → Prop) (m1 : Int → List Int → Nat),
 H1 0 (List.replicate (c.length : Int).toNat (0 : Int)) ∧
 ∀ (v17_1 : Int) (o13_1 : List Int), H1 v17_1 o13_1 →
 ( ((v17_1 < (c.length : Int) →
 (0 ≤ v17_1 ∧ v17_1 < (c.length : Int)) ∧
 (small (el c v17_1)) ∧
 (0 ≤ v17_1 ∧ v17_1 < (o13_1.length : Int)) ∧
 (InI (v17_1 + 1)) ∧
 (H1 (v17_1 + 1) (se o13_1 v17_1 (PorV (el c v17_1))) ∧ m1 (v17_1 + 1) (se o13_1 v17_1 (PorV (el c v17_1))) < m1 v17_1 o13_1)) ∧
 (¬ (v17_1 < (c.length : Int)) →
 Q o13_1 0)))))

theorem p_spec_l01Own2 (lists : List (List Int)) (hp : small2 lists) : wp_spec_l01Own2 lists (fun y0 => y0 = lists) := by
  unfold wp_spec_l01Own2
  have h1 := hp.1
  refine ⟨fun i o => 0 ≤ i ∧ i ≤ (lists.length : Int) ∧ o.length = i.toNat ∧ Upto i fun x => el o x = el lists x, fun i _ => ((lists.length : Int) - i).toNat, ⟨by omega, by omega, by simp, upto0⟩, ?_⟩
  rintro i o ⟨i0, i1, il, iI⟩
  dsimp only
  exact ⟨fun ilt => ⟨⟨i0, ilt⟩, hp.2 _ (el_mem ⟨i0, ilt⟩), by simp; omega, ⟨by omega, by omega⟩, ⟨by omega, by omega, by simp; omega, app1 (f := fun x => el lists x) (by omega) iI rfl⟩, by omega⟩, fun ige => ext_el (by omega) fun j a b => iI j a (by omega)⟩
theorem p_impl_PermutationOrder (p : List Int) (hp : small p) : wp_impl_PermutationOrder p (fun y0 y1 => y0 = PorV p ∧ y1 = PorE p) := by
  unfold wp_impl_PermutationOrder PorV PorE
  refine ⟨hp, fun h => by rw [h]; exact ⟨rfl, rfl⟩, fun h => ?_⟩
  rw [h]
  have hl := permB_len h
  have hq := permB_isPerm h
  refine ⟨fun k q => (1 ≤ k ∧ k ≤ 27720) ∧ q = powN p (k - 1).toNat ∧ ∀ j, 1 ≤ j → j < k → powN p (j - 1).toNat ≠ unitI (p.length : Int), fun k _ => (27720 - k).toNat, ⟨⟨by omega, by omega⟩, rfl, fun j a b => by omega⟩, ?_⟩
  rintro k q ⟨hk, rfl, hI⟩
  dsimp only
  have pl := powN_len p (k - 1).toNat
  have ps : small (powN p (k - 1).toNat) := by show _ ≤ (1000000000 : Int); omega
  have hu : incB (powN p (k - 1).toNat) = decide (powN p (k - 1).toNat = unitI (p.length : Int)) := by
    rw [incB_unit fun i a b => by have := powN_in hq _ (el_mem (l := powN p (k - 1).toNat) (i := i) ⟨a, b⟩); omega, pl]
  rw [hu]
  refine ⟨ps, fun h1 => ?_, fun h1 => ⟨the_eq ⟨hk.1, of_decide_eq_true h1, hI⟩ ordP_uniq, rfl⟩⟩
  have h2 := of_decide_eq_false h1
  have hlt : k < 27720 := by
    by_cases e : k = 27720
    · subst e
      exact absurd (powN_27719 hq (by omega)) h2
    · omega
  refine ⟨⟨by omega, by omega⟩, ⟨ps, powN_in hq⟩, ⟨⟨by omega, by omega⟩, ?_, fun j a b => ?_⟩, by omega⟩
  · rw [show (k + 1 - 1).toNat = (k - 1).toNat + 1 by omega]; rfl
  · by_cases e : j = k
    · subst e; exact h2
    · exact hI j a (by omega)
theorem p_spec_l02Empty (n : Int) (hp : 0 ≤ n ∧ n ≤ 1000000) : wp_spec_l02Empty n (fun y0 y1 => y0 = tab n (fun _ _ => 0) ∧ y1 = tab n (fun _ _ => 0)) := by
  unfold wp_spec_l02Empty
  have hr : List.replicate n.toNat (0 : Int) = ran n fun _ => 0 := eq_ran (by simp) fun i a b => el_rep ⟨a, by omega⟩
  refine ⟨fun i o q => 0 ≤ i ∧ i ≤ n ∧ (o.length = i.toNat ∧ Upto i fun x => el o x = ran n fun _ => 0) ∧ (q.length = i.toNat ∧ Upto i fun x => el q x = ran n fun _ => 0), fun i _ _ => (n - i).toNat, ⟨by omega, by omega, ⟨by simp, upto0⟩, by simp, upto0⟩, ?_⟩
  rintro i o q ⟨i0, i1, ⟨il, iI⟩, ql, qI⟩
  dsimp only
  refine ⟨fun ilt => ⟨⟨by omega, by omega⟩, by simp; omega, ⟨by omega, by omega⟩, by simp; omega, ⟨by omega, by omega⟩, ⟨by omega, by omega, ⟨by simp; omega, app1 (f := fun _ => ran n fun _ => 0) (by omega) iI hr⟩, by simp; omega, app1 (f := fun _ => ran n fun _ => 0) (by omega) qI hr⟩, by omega⟩, fun ige => ⟨eq_ran (by omega) fun j a b => iI j a (by omega), eq_ran (by omega) fun j a b => qI j a (by omega)⟩⟩
theorem p_spec_l01Column (t : List (List Int)) (y : Int) (hp : isTab t = true ∧ 0 ≤ y ∧ y < (t.length : Int)) : wp_spec_l01Column t y (fun y0 => y0 = colI t y) := by
  unfold wp_spec_l01Column
  obtain ⟨ht, y0, y1⟩ := hp
  have hn := isTab_len ht
  refine ⟨fun i o => 0 ≤ i ∧ i ≤ (t.length : Int) ∧ o.length = i.toNat ∧ Upto i fun x => el o x = el (el t x) y, fun i _ => ((t.length : Int) - i).toNat, ⟨by omega, by omega, by simp, upto0⟩, ?_⟩
  rintro i o ⟨i0, i1, il, iI⟩
  dsimp only
  refine ⟨fun ilt => ?_, fun ige => eq_ran (by omega) fun j a b => iI j a (by omega)⟩
  have l := rk_len ht (x := i) ⟨i0, ilt⟩
  exact ⟨⟨i0, ilt⟩, ⟨y0, by omega⟩, by simp; omega, ⟨by omega, by omega⟩, ⟨by omega, by omega, by simp; omega, app1 (f := fun x => el (el t x) y) (by omega) iI rfl⟩, by omega⟩
theorem p_spec_l01Turn (t : List (List Int)) (hp : isTab t = true) : wp_spec_l01Turn t (fun y0 => y0 = trnT t) := by
  unfold wp_spec_l01Turn
  have hn := isTab_len hp
  refine ⟨fun i o => 0 ≤ i ∧ i ≤ (t.length : Int) ∧ o.length = i.toNat ∧ Upto i fun x => el o x = colI t x, fun i _ => ((t.length : Int) - i).toNat, ⟨by omega, by omega, by simp, upto0⟩, ?_⟩
  rintro i o ⟨i0, i1, il, iI⟩
  dsimp only
  exact ⟨fun ilt => ⟨⟨hp, i0, ilt⟩, by simp; omega, ⟨by omega, by omega⟩, ⟨by omega, by omega, by simp; omega, app1 (f := colI t) (by omega) iI rfl⟩, by omega⟩, fun ige => eq_ran (by omega) fun j a b => iI j a (by omega)⟩
theorem p_impl_solutionCycle (s1 s2 : List (List Int)) (hp : isTab s1 = true ∧ s1.all isPerm = true) : wp_impl_solutionCycle s1 s2 (fun y0 => y0 = s1.map backI) := by
  unfold wp_impl_solutionCycle
  obtain ⟨ht, hr⟩ := hp
  have hn := isTab_len ht
  refine ⟨fun i o => 0 ≤ i ∧ i ≤ (s1.length : Int) ∧ o.length = i.toNat ∧ Upto i fun x => el o x = backI (el s1 x), fun i _ => ((s1.length : Int) - i).toNat, ⟨by omega, by omega, by simp, upto0⟩, ?_⟩
  rintro i o ⟨i0, i1, il, iI⟩
  dsimp only
  exact ⟨fun ilt => ⟨⟨i0, ilt⟩, ⟨tab_rows ht _ (el_mem ⟨i0, ilt⟩), all_perm_el hr ⟨i0, ilt⟩⟩, by simp; omega, ⟨by omega, by omega⟩, ⟨by omega, by omega, by simp; omega, app1 (f := fun x => backI (el s1 x)) (by omega) iI rfl⟩, by omega⟩, fun ige => dual_loop ht hr il ⟨by omega, by omega⟩ iI⟩
theorem p_spec_l05Cycle (s1 s2 : List (List Int)) (hp : isTab s1 = true ∧ s1.all isPerm = true) : wp_spec_l05Cycle s1 s2 (fun y0 => y0 = s1.map backI) := p_impl_solutionCycle s1 s2 hp
theorem cyc_permB {c : List (List Int)} (h : isCyc c = true) {i : Int} (hi : 0 ≤ i ∧ i < (c.length : Int)) : permB (el c i) = true := by
  have := isTab_perm (isCyc_tab h)
  rw [isCyc_perm h] at this
  exact all_el.1 this i hi.1 hi.2
theorem p_impl_RowOrders (c : List (List Int)) (hp : small2 c) : wp_impl_RowOrders c (fun y0 y1 => y0 = RowT c ∧ y1 = cyE c) := by
  unfold wp_impl_RowOrders RowT cyE
  refine ⟨hp, fun h => by rw [h]; exact ⟨rfl, rfl⟩, fun h => ?_⟩
  rw [h]
  have hn := isTab_len (isCyc_tab h)
  refine ⟨⟨by omega, by omega⟩, fun i o => 0 ≤ i ∧ i ≤ (c.length : Int) ∧ (o.length : Int) = (c.length : Int) ∧ Upto i fun x => el o x = ordI (el c x), fun i _ => ((c.length : Int) - i).toNat, ⟨by omega, by omega, by simp, upto0⟩, ?_⟩
  rintro i o ⟨i0, i1, il, iI⟩
  dsimp only
  refine ⟨fun ilt => ⟨⟨i0, ilt⟩, hp.2 _ (el_mem ⟨i0, ilt⟩), ⟨i0, by omega⟩, ⟨by omega, by omega⟩, ⟨by omega, by omega, by simpa using il, fill1 (f := fun x => ordI (el c x)) ⟨i0, by omega⟩ iI (by unfold PorV; rw [cyc_permB h ⟨i0, ilt⟩]; rfl)⟩, by omega⟩, fun ige => ⟨ext_el (by simp; omega) fun j a b => ?_, rfl⟩⟩
  show el o j = el (c.map ordI) j
  rw [el_map ⟨a, by omega⟩]; exact iI j a (by omega)
set_option maxRecDepth 100000 in
set_option maxHeartbeats 4000000 in
theorem w_spec_l01Own2 (lists : List (List Int)) (Q : List (List Int) → Prop) (h : wp_spec_l01Own2 lists Q) : AF Try.prog 208 [.lst (rows lists)] (fun R_ => ∃ y0, Q y0 ∧ R_ = .own (orows y0)) := by
  refine AF.ofWQ (af_enter (n := 21) Try.func208 rfl (by rfl) rfl (Nat.le_of_ble_eq_true rfl) ?_)
  unfold wp_spec_l01Own2 at h
  refine aw_seq ?_
  refine aw_gh (gh_to (n := 21) (σ' := []) (env' := [(0, .c (.lst (rows lists)))]) rfl rfl ⟨rfl, trivial⟩) ?_
  refine aw_region ?_
  refine run_s (ss_assign rfl) rfl ?_
  refine run_nil ?_
  refine aw_seq ?_
  refine aw_region ?_
  refine run_w (ws_buildSlice (id := 5) (ps := []) rfl rfl (Nat.le_of_ble_eq_true rfl) rfl ⟨rfl, ?_⟩)
  refine run_s (ss_assign rfl) rfl ?_
  refine run_nil ?_
  refine aw_seq ?_
  refine aw_seq ?_
  refine aw_region ?_
  refine run_s (ss_assign rfl) rfl ?_
  refine run_nil ?_
  refine aw_block ?_
  obtain ⟨H1, m1, q1, h⟩ := h
  refine aw_loop2 (fun (v4_1 : Int) (o5_1 : List (List Int)) => ⟨[(5, ⟨orows o5_1, []⟩)], [(0, .c (.lst (rows lists))), (3, .ref 5), (4, .c (ci v4_1))], 21⟩) H1 m1 ⟨0, ([] : List (List Int)), ghe_to (n := 21) rfl rfl ⟨rfl, rfl, rfl, trivial⟩, q1⟩ ?_
  rintro v4_1 o5_1 q1
  replace h := h v4_1 o5_1 q1
  refine aw_seq ?_
  refine aw_seq ?_
  refine aw_region ?_
  refine run_s (ss_move rfl) rfl ?_
  refine run_s (ss_move rfl) rfl ?_
  refine run_s (ss_lenL (f := (fun r => C.lst (ints r))) rfl) rfl ?_
  refine run_s (ss_lss rfl rfl) rfl ?_
  refine run_nil ?_
  refine aw_cond rfl (fun q2 => ?_) (fun q2 => ?_)
  ·replace h := h.1 (of_decide_eq_true q2)
   refine aw_skip ?_
   refine aw_seq ?_
   refine aw_block ?_
   refine aw_region ?_
   refine run_s (ss_move rfl) rfl ?_
   refine run_s (ss_move rfl) rfl ?_
   refine run_s (ss_move rfl) rfl ?_
   obtain ⟨q3, h⟩ := h
   refine run_s (ss_idxL rfl rfl q3) rfl ?_
   refine run_s (ss_loadL (f := (fun r => C.lst (ints r))) rfl q3) rfl ?_
   obtain ⟨q4, h⟩ := h
   refine run_w (ws_call (xs := [.tmp 16]) (ids := [17]) rfl rfl rfl rfl (c_spec_l01Own (el lists v4_1) q4) rfl ?_ )
   rintro _ rfl
   refine ⟨rfl, ?_⟩
   refine run_w (ws_buildSlice (id := 18) (ps := [(0, .tmp 17)]) rfl rfl (Nat.le_of_ble_eq_true rfl) rfl ⟨rfl, ?_⟩)
   refine run_gh (gh_fill (id := 18) (id2 := 17) (j := 0) rfl rfl (Nat.le_of_ble_eq_true rfl) rfl rfl rfl) ?_
   obtain ⟨q6, h⟩ := h
   refine run_w (ws_app1 (fun r => C.own (ints r)) (l := o5_1) (m := [(el lists v4_1)]) rfl rfl rfl rfl rfl (Nat.le_of_ble_eq_true rfl) q6 ⟨rfl, ?_⟩)
   refine run_s (ss_assign rfl) rfl ?_
   refine run_nil ?_
   refine aw_gh (gh_to (n := 21) (σ' := [(5, ⟨orows (o5_1 ++ ([(el lists v4_1)])), []⟩)]) (env' := [(0, .c (.lst (rows lists))), (3, .ref 5), (4, .c (ci v4_1))]) rfl rfl ⟨rfl, rfl, rfl, trivial⟩) ?_
   refine aw_region ?_
   refine run_s (ss_move rfl) rfl ?_
   obtain ⟨q7, h⟩ := h
   refine run_s (ss_add rfl rfl q7) rfl ?_
   refine run_s (ss_assign rfl) rfl ?_
   refine run_nil ?_
   exact ⟨v4_1 + 1, o5_1 ++ ([(el lists v4_1)]), ghe_to (n := 21) rfl rfl ⟨rfl, rfl, rfl, trivial⟩, h.1, h.2⟩
  ·replace h := h.2 (of_decide_eq_false q2)
   refine aw_exit ?_
   refine aw_seq ?_
   refine aw_gh (gh_to (n := 21) (σ' := [(5, ⟨orows o5_1, []⟩)]) (env' := [(3, .ref 5)]) rfl rfl ⟨rfl, trivial⟩) ?_
   refine aw_region ?_
   refine run_s (ss_move rfl) rfl ?_
   refine run_s (ss_assign rfl) rfl ?_
   refine run_nil ?_
   refine aw_ret ?_
   exact retAF_mk (retv1 rfl (rv_tmp rfl)) rfl rfl ⟨_, (cle_refl _), _, h, rfl⟩

theorem c_spec_l01Own2 (lists : List (List Int)) (hp : small2 lists) : AF Try.prog 208 [.lst (rows lists)] (fun R_ => R_ = .own (orows lists)) :=
  (w_spec_l01Own2 lists (fun y0 => y0 = lists) (p_spec_l01Own2 lists hp)).mono (by rintro r ⟨_, rfl, rfl⟩; rfl)

set_option maxRecDepth 100000 in
set_option maxHeartbeats 4000000 in
theorem w_impl_PermutationOrder (p : List Int) (Q : Int → Int → Prop) (h : wp_impl_PermutationOrder p Q) : AF Try.prog 50 [.lst (ints p)] (fun R_ => ∃ y0 y1, Q y0 y1 ∧ R_ = .tup [ci y0, ci y1]) := by
  refine AF.ofWQ (af_enter (n := 19) Try.func50 rfl (by rfl) rfl (Nat.le_of_ble_eq_true rfl) ?_)
  unfold wp_impl_PermutationOrder at h
  refine aw_seq ?_
  refine aw_gh (gh_to (n := 19) (σ' := []) (env' := [(0, .c (.lst (ints p)))]) rfl rfl ⟨rfl, trivial⟩) ?_
  refine aw_region ?_
  refine run_s (ss_assign rfl) rfl ?_
  refine run_s (ss_assign rfl) rfl ?_
  refine run_nil ?_
  refine aw_seq ?_
  refine aw_seq ?_
  refine aw_region ?_
  refine run_s (ss_move rfl) rfl ?_
  obtain ⟨q1, h⟩ := h
  refine run_w (ws_call (xs := [.tmp 6]) (ids := []) rfl rfl rfl rfl (c_impl_IsPermutation p q1) rfl ?_ )
  rintro _ rfl
  refine ⟨rfl, ?_⟩
  refine run_s (ss_not rfl) rfl ?_
  refine run_nil ?_
  refine aw_cond rfl (fun q3 => ?_) (fun q3 => ?_)
  ·replace h := h.1 ((bnot_t q3))
   refine aw_seq ?_
   refine aw_gh (gh_to (n := 19) (σ' := []) (env' := [(2, .c (ci 0)), (3, .c (ci 0))]) rfl rfl ⟨rfl, rfl, trivial⟩) ?_
   refine aw_region ?_
   refine run_s (ss_assign rfl) rfl ?_
   refine run_s (ss_assign rfl) rfl ?_
   refine run_nil ?_
   refine aw_ret ?_
   exact retAF_mk (retv2 rfl (rv_tmp rfl) (rv_tmp rfl)) rfl rfl ⟨_, (cle_refl _), _, _, h, rfl⟩
  ·replace h := h.2 ((bnot_f q3))
   refine aw_skip ?_
   refine aw_seq ?_
   refine aw_gh (gh_to (n := 19) (σ' := []) (env' := [(0, .c (.lst (ints p)))]) rfl rfl ⟨rfl, trivial⟩) ?_
   refine aw_region ?_
   refine run_s (ss_assign rfl) rfl ?_
   refine run_nil ?_
   refine aw_seq ?_
   refine aw_seq ?_
   refine aw_region ?_
   refine run_s (ss_move rfl) rfl ?_
   refine run_s (ss_assign rfl) rfl ?_
   refine run_nil ?_
   refine aw_block ?_
   obtain ⟨H1, m1, q4, h⟩ := h
   refine aw_loop2 (fun (v4_1 : Int) (v5_1 : List Int) => ⟨[], [(0, .c (.lst (ints p))), (4, .c (ci v4_1)), (5, .c (.lst (ints v5_1)))], 19⟩) H1 m1 ⟨1, p, ghe_to (n := 19) rfl rfl ⟨rfl, rfl, rfl, trivial⟩, q4⟩ ?_
   rintro v4_1 v5_1 q4
   replace h := h v4_1 v5_1 q4
   refine aw_seq ?_
   refine aw_seq ?_
   refine aw_region ?_
   refine run_s (ss_move rfl) rfl ?_
   obtain ⟨q5, h⟩ := h
   refine run_w (ws_call (xs := [.tmp 10]) (ids := []) rfl rfl rfl rfl (c_impl_isIdentity v5_1 q5) rfl ?_ )
   rintro _ rfl
   refine ⟨rfl, ?_⟩
   refine run_s (ss_not rfl) rfl ?_
   refine run_nil ?_
   refine aw_cond rfl (fun q7 => ?_) (fun q7 => ?_)
   ·replace h := h.1 ((bnot_t q7))
    refine aw_skip ?_
    refine aw_seq ?_
    refine aw_block ?_
    refine aw_region ?_
    refine run_s (ss_move rfl) rfl ?_
    obtain ⟨q8, h⟩ := h
    refine run_s (ss_add rfl rfl q8) rfl ?_
    refine run_s (ss_assign rfl) rfl ?_
    refine run_nil ?_
    refine aw_region ?_
    refine run_s (ss_move rfl) rfl ?_
    refine run_s (ss_move rfl) rfl ?_
    obtain ⟨q9, h⟩ := h
    refine run_w (ws_call (xs := [.tmp 13, .tmp 14]) (ids := [15]) rfl rfl rfl rfl (c_impl_then v5_1 p q9) rfl ?_ )
    rintro _ rfl
    refine ⟨rfl, ?_⟩
    refine run_s (ss_assign rfl) rfl ?_
    refine run_nil ?_
    exact ⟨v4_1 + 1, v5_1.map (el p), ghe_step (gh_frzE (id := 15) ci rfl (fun _ => rfl)) (ghe_to (n := 19) rfl rfl ⟨rfl, rfl, rfl, trivial⟩), h.1, h.2⟩
   ·replace h := h.2 ((bnot_f q7))
    refine aw_exit ?_
    refine aw_seq ?_
    refine aw_region ?_
    refine run_s (ss_move rfl) rfl ?_
    refine run_s (ss_assign rfl) rfl ?_
    refine run_s (ss_assign rfl) rfl ?_
    refine run_nil ?_
    refine aw_ret ?_
    exact retAF_mk (retv2 rfl (rv_tmp rfl) (rv_tmp rfl)) rfl rfl ⟨_, (cle_refl _), _, _, h, rfl⟩

theorem c_impl_PermutationOrder (p : List Int) (hp : small p) : AF Try.prog 50 [.lst (ints p)] (fun R_ => R_ = .tup [ci (PorV p), ci (PorE p)]) :=
  (w_impl_PermutationOrder p (fun y0 y1 => y0 = PorV p ∧ y1 = PorE p) (p_impl_PermutationOrder p hp)).mono (by rintro r ⟨_, _, ⟨rfl, rfl⟩, rfl⟩; rfl)

set_option maxRecDepth 100000 in
set_option maxHeartbeats 4000000 in
theorem w_spec_l02Empty (n : Int) (Q : List (List Int) → List (List Int) → Prop) (h : wp_spec_l02Empty n Q) : AF Try.prog 167 [ci n] (fun R_ => ∃ y0 y1, Q y0 y1 ∧ R_ = .agg [.own (orows y0), .own (orows y1)]) := by
  refine AF.ofWQ (af_enter (n := 26) Try.func167 rfl (by rfl) rfl (Nat.le_of_ble_eq_true rfl) ?_)
  unfold wp_spec_l02Empty at h
  refine aw_seq ?_
  refine aw_gh (gh_to (n := 26) (σ' := []) (env' := [(0, .c (ci n))]) rfl rfl ⟨rfl, trivial⟩) ?_
  refine aw_region ?_
  refine run_w (ws_alloc (id := 2) rfl (Nat.le_of_ble_eq_true rfl) ⟨rfl, ?_⟩)
  refine run_nil ?_
  refine aw_seq ?_
  refine aw_region ?_
  refine run_s (ss_build0) rfl ?_
  refine run_w (ws_alloc (id := 3) rfl (Nat.le_of_ble_eq_true rfl) ⟨rfl, ?_⟩)
  refine run_w (ws_storeN rfl rfl (Nat.le_of_ble_eq_true rfl) rfl rfl rfl rfl ⟨rfl, ?_⟩)
  refine run_nil ?_
  refine aw_seq ?_
  refine aw_seq ?_
  refine aw_region ?_
  refine run_s (ss_assign rfl) rfl ?_
  refine run_nil ?_
  refine aw_block ?_
  obtain ⟨H1, m1, q1, h⟩ := h
  refine aw_loop3 (fun (v4_1 : Int) (o200048_1 : List (List Int)) (o200049_1 : List (List Int)) => ⟨[(200049, ⟨orows o200049_1, []⟩), (200048, ⟨orows o200048_1, []⟩), (3, ⟨[.hole, .hole], [(1, .ref 200049), (0, .ref 200048)]⟩), (2, ⟨[cnil, cnil], []⟩)], [(0, .c (ci n)), (2, .cell 2 0), (3, .cell 3 0), (4, .c (ci v4_1))], 26⟩) H1 m1 ⟨0, ([] : List (List Int)), ([] : List (List Int)), ghe_step (gh_nilH (id0 := 3) (j := 0) (id := 200048) rfl rfl rfl rfl) (ghe_step (gh_nilH (id0 := 3) (j := 1) (id := 200049) rfl rfl rfl rfl) (ghe_to (n := 26) rfl rfl ⟨rfl, rfl, rfl, rfl, trivial⟩)), q1⟩ ?_
  rintro v4_1 o200048_1 o200049_1 q1
  replace h := h v4_1 o200048_1 o200049_1 q1
  refine aw_seq ?_
  refine aw_seq ?_
  refine aw_region ?_
  refine run_s (ss_move rfl) rfl ?_
  refine run_s (ss_move rfl) rfl ?_
  refine run_s (ss_lss rfl rfl) rfl ?_
  refine run_nil ?_
  refine aw_cond rfl (fun q2 => ?_) (fun q2 => ?_)
  ·replace h := h.1 (of_decide_eq_true q2)
   refine aw_skip ?_
   refine aw_seq ?_
   refine aw_block ?_
   refine aw_seq ?_
   refine aw_gh (gh_to (n := 26) (σ' := [(200049, ⟨orows o200049_1, []⟩), (200048, ⟨orows o200048_1, []⟩), (3, ⟨[.hole, .hole], [(1, .ref 200049), (0, .ref 200048)]⟩), (2, ⟨[cnil, cnil], []⟩)]) (env' := [(0, .c (ci n)), (2, .cell 2 0), (3, .cell 3 0), (4, .c (ci v4_1))]) rfl rfl ⟨rfl, rfl, rfl, rfl, trivial⟩) ?_
   refine aw_regionD (kd := kdl [0, 1, 0, 2, 2, 2, 0, 3]) (ord := [0, 2, 1, 3, 4, 5, 6, 7]) [14, 15, 200048] mixed (by kernel_rfl) ?_
   refine rd_s rfl rfl trivial (ss_field_cell rfl) rfl ?_
   refine rd_s rfl rfl trivial (ss_move rfl) rfl ?_
   refine rd_l rfl rfl trivial (ss_loadH rfl rfl rfl rfl) rfl ?_
   obtain ⟨q3, h⟩ := h
   refine rd_w rfl rfl trivial rfl rfl (ws_mk (id := 14) ci (0 : Int) rfl rfl rfl q3 (Nat.le_of_ble_eq_true rfl) rfl ⟨rfl, ?_⟩)
   refine rd_w rfl rfl trivial rfl rfl (ws_buildSlice (id := 15) (ps := [(0, .tmp 14)]) rfl rfl (Nat.le_of_ble_eq_true rfl) rfl ⟨rfl, ?_⟩)
   obtain ⟨q4, h⟩ := h
   refine rd_w rfl rfl trivial rfl rfl (ws_gh (gh_fill (id := 15) (id2 := 14) (j := 0) rfl rfl (Nat.le_of_ble_eq_true rfl) rfl rfl rfl) (ws_app1 (fun r => C.own (ints r)) (l := o200048_1) (m := [List.replicate n.toNat (0 : Int)]) rfl rfl rfl rfl rfl (Nat.le_of_ble_eq_true rfl) q4 ⟨rfl, ?_⟩))
   refine rd_s rfl rfl trivial (ss_field_cell rfl) rfl ?_
   refine rd_f rfl rfl trivial (ws_store rfl rfl (Nat.le_of_ble_eq_true rfl) rfl rfl ⟨rfl, ?_⟩)
   refine rd_nil ?_
   refine aw_gh (gh_to (n := 26) (σ' := [(200049, ⟨orows o200049_1, []⟩), (200048, ⟨orows (o200048_1 ++ ([List.replicate n.toNat (0 : Int)])), []⟩), (3, ⟨[.hole, .hole], [(0, .ref 200048), (1, .ref 200049)]⟩), (2, ⟨[cnil, cnil], []⟩)]) (env' := [(0, .c (ci n)), (2, .cell 2 0), (3, .cell 3 0), (4, .c (ci v4_1))]) rfl rfl ⟨rfl, rfl, rfl, rfl, trivial⟩) ?_
   refine aw_regionD (kd := kdl [0, 1, 0, 2, 2, 2, 0, 3]) (ord := [0, 2, 1, 3, 4, 5, 6, 7]) [21, 22, 200049] mixed (by kernel_rfl) ?_
   refine rd_s rfl rfl trivial (ss_field_cell rfl) rfl ?_
   refine rd_s rfl rfl trivial (ss_move rfl) rfl ?_
   refine rd_l rfl rfl trivial (ss_loadH rfl rfl rfl rfl) rfl ?_
   obtain ⟨q5, h⟩ := h
   refine rd_w rfl rfl trivial rfl rfl (ws_mk (id := 21) ci (0 : Int) rfl rfl rfl q5 (Nat.le_of_ble_eq_true rfl) rfl ⟨rfl, ?_⟩)
   refine rd_w rfl rfl trivial rfl rfl (ws_buildSlice (id := 22) (ps := [(0, .tmp 21)]) rfl rfl (Nat.le_of_ble_eq_true rfl) rfl ⟨rfl, ?_⟩)
   obtain ⟨q6, h⟩ := h
   refine rd_w rfl rfl trivial rfl rfl (ws_gh (gh_fill (id := 22) (id2 := 21) (j := 0) rfl rfl (Nat.le_of_ble_eq_true rfl) rfl rfl rfl) (ws_app1 (fun r => C.own (ints r)) (l := o200049_1) (m := [List.replicate n.toNat (0 : Int)]) rfl rfl rfl rfl rfl (Nat.le_of_ble_eq_true rfl) q6 ⟨rfl, ?_⟩))
   refine rd_s rfl rfl trivial (ss_field_cell rfl) rfl ?_
   refine rd_f rfl rfl trivial (ws_store rfl rfl (Nat.le_of_ble_eq_true rfl) rfl rfl ⟨rfl, ?_⟩)
   refine rd_nil ?_
   refine aw_gh (gh_to (n := 26) (σ' := [(200049, ⟨orows (o200049_1 ++ ([List.replicate n.toNat (0 : Int)])), []⟩), (200048, ⟨orows (o200048_1 ++ ([List.replicate n.toNat (0 : Int)])), []⟩), (3, ⟨[.hole, .hole], [(1, .ref 200049), (0, .ref 200048)]⟩), (2, ⟨[cnil, cnil], []⟩)]) (env' := [(0, .c (ci n)), (2, .cell 2 0), (3, .cell 3 0), (4, .c (ci v4_1))]) rfl rfl ⟨rfl, rfl, rfl, rfl, trivial⟩) ?_
   refine aw_region ?_
   refine run_s (ss_move rfl) rfl ?_
   obtain ⟨q7, h⟩ := h
   refine run_s (ss_add rfl rfl q7) rfl ?_
   refine run_s (ss_assign rfl) rfl ?_
   refine run_nil ?_
   exact ⟨v4_1 + 1, o200048_1 ++ ([List.replicate n.toNat (0 : Int)]), o200049_1 ++ ([List.replicate n.toNat (0 : Int)]), ghe_to (n := 26) rfl rfl ⟨rfl, rfl, rfl, rfl, trivial⟩, h.1, h.2⟩
  ·replace h := h.2 (of_decide_eq_false q2)
   refine aw_exit ?_
   refine aw_seq ?_
   refine aw_gh (gh_to (n := 26) (σ' := [(200049, ⟨orows o200049_1, []⟩), (200048, ⟨orows o200048_1, []⟩), (3, ⟨[.hole, .hole], [(1, .ref 200049), (0, .ref 200048)]⟩), (2, ⟨[cnil, cnil], []⟩)]) (env' := [(2, .cell 2 0), (3, .cell 3 0)]) rfl rfl ⟨rfl, rfl, trivial⟩) ?_
   refine aw_region ?_
   refine run_s (ss_loadS rfl rfl rfl rfl) rfl ?_
   refine run_w (ws_storeN rfl rfl (Nat.le_of_ble_eq_true rfl) rfl rfl rfl rfl ⟨rfl, ?_⟩)
   refine run_nil ?_
   refine aw_ret ?_
   exact retAF_mk (retv1 rfl (rv_struct rfl rfl rfl)) rfl rfl ⟨_, (cle_refl _), _, _, h, rfl⟩

theorem c_spec_l02Empty (n : Int) (hp : 0 ≤ n ∧ n ≤ 1000000) : AF Try.prog 167 [ci n] (fun R_ => R_ = .agg [.own (orows (tab n (fun _ _ => 0))), .own (orows (tab n (fun _ _ => 0)))]) :=
  (w_spec_l02Empty n (fun y0 y1 => y0 = tab n (fun _ _ => 0) ∧ y1 = tab n (fun _ _ => 0)) (p_spec_l02Empty n hp)).mono (by rintro r ⟨_, _, ⟨rfl, rfl⟩, rfl⟩; rfl)

set_option maxRecDepth 100000 in
set_option maxHeartbeats 4000000 in
theorem w_spec_l01Column (t : List (List Int)) (y : Int) (Q : List Int → Prop) (h : wp_spec_l01Column t y Q) : AF Try.prog 202 [.lst (rows t), ci y] (fun R_ => ∃ y0, Q y0 ∧ R_ = .own (ints y0)) := by
  refine AF.ofWQ (af_enter (n := 25) Try.func202 rfl (by rfl) rfl (Nat.le_of_ble_eq_true rfl) ?_)
  unfold wp_spec_l01Column at h
  refine aw_seq ?_
  refine aw_gh (gh_to (n := 25) (σ' := []) (env' := [(0, .c (.lst (rows t))), (1, .c (ci y))]) rfl rfl ⟨rfl, rfl, trivial⟩) ?_
  refine aw_region ?_
  refine run_s (ss_assign rfl) rfl ?_
  refine run_nil ?_
  refine aw_seq ?_
  refine aw_region ?_
  refine run_w (ws_buildSlice (id := 7) (ps := []) rfl rfl (Nat.le_of_ble_eq_true rfl) rfl ⟨rfl, ?_⟩)
  refine run_s (ss_assign rfl) rfl ?_
  refine run_nil ?_
  refine aw_seq ?_
  refine aw_seq ?_
  refine aw_region ?_
  refine run_s (ss_assign rfl) rfl ?_
  refine run_nil ?_
  refine aw_block ?_
  obtain ⟨H1, m1, q1, h⟩ := h
  refine aw_loop2 (fun (v6_1 : Int) (o7_1 : List Int) => ⟨[(7, ⟨ints o7_1, []⟩)], [(0, .c (.lst (rows t))), (1, .c (ci y)), (5, .ref 7), (6, .c (ci v6_1))], 25⟩) H1 m1 ⟨0, ([] : List Int), ghe_to (n := 25) rfl rfl ⟨rfl, rfl, rfl, rfl, trivial⟩, q1⟩ ?_
  rintro v6_1 o7_1 q1
  replace h := h v6_1 o7_1 q1
  refine aw_seq ?_
  refine aw_seq ?_
  refine aw_region ?_
  refine run_s (ss_move rfl) rfl ?_
  refine run_s (ss_move rfl) rfl ?_
  refine run_s (ss_lenL (f := (fun r => C.lst (ints r))) rfl) rfl ?_
  refine run_s (ss_lss rfl rfl) rfl ?_
  refine run_nil ?_
  refine aw_cond rfl (fun q2 => ?_) (fun q2 => ?_)
  ·replace h := h.1 (of_decide_eq_true q2)
   refine aw_skip ?_
   refine aw_seq ?_
   refine aw_block ?_
   refine aw_region ?_
   refine run_s (ss_move rfl) rfl ?_
   refine run_s (ss_move rfl) rfl ?_
   refine run_s (ss_move rfl) rfl ?_
   obtain ⟨q3, h⟩ := h
   refine run_s (ss_idxL rfl rfl q3) rfl ?_
   refine run_s (ss_loadL (f := (fun r => C.lst (ints r))) rfl q3) rfl ?_
   refine run_s (ss_move rfl) rfl ?_
   obtain ⟨q4, h⟩ := h
   refine run_s (ss_idxL rfl rfl q4) rfl ?_
   refine run_s (ss_loadL (f := ci) rfl q4) rfl ?_
   refine run_w (ws_buildSlice (id := 22) (ps := [(0, .tmp 21)]) rfl rfl (Nat.le_of_ble_eq_true rfl) rfl ⟨rfl, ?_⟩)
   obtain ⟨q5, h⟩ := h
   refine run_w (ws_app1 ci (l := o7_1) (m := [el (el t v6_1) y]) rfl rfl rfl rfl rfl (Nat.le_of_ble_eq_true rfl) q5 ⟨rfl, ?_⟩)
   refine run_s (ss_assign rfl) rfl ?_
   refine run_nil ?_
   refine aw_gh (gh_to (n := 25) (σ' := [(7, ⟨ints (o7_1 ++ ([el (el t v6_1) y])), []⟩)]) (env' := [(0, .c (.lst (rows t))), (1, .c (ci y)), (5, .ref 7), (6, .c (ci v6_1))]) rfl rfl ⟨rfl, rfl, rfl, rfl, trivial⟩) ?_
   refine aw_region ?_
   refine run_s (ss_move rfl) rfl ?_
   obtain ⟨q6, h⟩ := h
   refine run_s (ss_add rfl rfl q6) rfl ?_
   refine run_s (ss_assign rfl) rfl ?_
   refine run_nil ?_
   exact ⟨v6_1 + 1, o7_1 ++ ([el (el t v6_1) y]), ghe_to (n := 25) rfl rfl ⟨rfl, rfl, rfl, rfl, trivial⟩, h.1, h.2⟩
  ·replace h := h.2 (of_decide_eq_false q2)
   refine aw_exit ?_
   refine aw_seq ?_
   refine aw_gh (gh_to (n := 25) (σ' := [(7, ⟨ints o7_1, []⟩)]) (env' := [(5, .ref 7)]) rfl rfl ⟨rfl, trivial⟩) ?_
   refine aw_region ?_
   refine run_s (ss_move rfl) rfl ?_
   refine run_s (ss_assign rfl) rfl ?_
   refine run_nil ?_
   refine aw_ret ?_
   exact retAF_mk (retv1 rfl (rv_tmp rfl)) rfl rfl ⟨_, (cle_refl _), _, h, rfl⟩

theorem c_spec_l01Column (t : List (List Int)) (y : Int) (hp : isTab t = true ∧ 0 ≤ y ∧ y < (t.length : Int)) : AF Try.prog 202 [.lst (rows t), ci y] (fun R_ => R_ = .own (ints (colI t y))) :=
  (w_spec_l01Column t y (fun y0 => y0 = colI t y) (p_spec_l01Column t y hp)).mono (by rintro r ⟨_, rfl, rfl⟩; rfl)

set_option maxRecDepth 100000 in
set_option maxHeartbeats 4000000 in
theorem w_spec_l01Turn (t : List (List Int)) (Q : List (List Int) → Prop) (h : wp_spec_l01Turn t Q) : AF Try.prog 177 [.lst (rows t)] (fun R_ => ∃ y0, Q y0 ∧ R_ = .own (orows y0)) := by
  refine AF.ofWQ (af_enter (n := 19) Try.func177 rfl (by rfl) rfl (Nat.le_of_ble_eq_true rfl) ?_)
  unfold wp_spec_l01Turn at h
  refine aw_seq ?_
  refine aw_gh (gh_to (n := 19) (σ' := []) (env' := [(0, .c (.lst (rows t)))]) rfl rfl ⟨rfl, trivial⟩) ?_
  refine aw_region ?_
  refine run_s (ss_assign rfl) rfl ?_
  refine run_nil ?_
  refine aw_seq ?_
  refine aw_region ?_
  refine run_w (ws_buildSlice (id := 5) (ps := []) rfl rfl (Nat.le_of_ble_eq_true rfl) rfl ⟨rfl, ?_⟩)
  refine run_s (ss_assign rfl) rfl ?_
  refine run_nil ?_
  refine aw_seq ?_
  refine aw_seq ?_
  refine aw_region ?_
  refine run_s (ss_assign rfl) rfl ?_
  refine run_nil ?_
  refine aw_block ?_
  obtain ⟨H1, m1, q1, h⟩ := h
  refine aw_loop2 (fun (v4_1 : Int) (o5_1 : List (List Int)) => ⟨[(5, ⟨orows o5_1, []⟩)], [(0, .c (.lst (rows t))), (3, .ref 5), (4, .c (ci v4_1))], 19⟩) H1 m1 ⟨0, ([] : List (List Int)), ghe_to (n := 19) rfl rfl ⟨rfl, rfl, rfl, trivial⟩, q1⟩ ?_
  rintro v4_1 o5_1 q1
  replace h := h v4_1 o5_1 q1
  refine aw_seq ?_
  refine aw_seq ?_
  refine aw_region ?_
  refine run_s (ss_move rfl) rfl ?_
  refine run_s (ss_move rfl) rfl ?_
  refine run_s (ss_lenL (f := (fun r => C.lst (ints r))) rfl) rfl ?_
  refine run_s (ss_lss rfl rfl) rfl ?_
  refine run_nil ?_
  refine aw_cond rfl (fun q2 => ?_) (fun q2 => ?_)
  ·replace h := h.1 (of_decide_eq_true q2)
   refine aw_skip ?_
   refine aw_seq ?_
   refine aw_block ?_
   refine aw_region ?_
   refine run_s (ss_move rfl) rfl ?_
   refine run_s (ss_move rfl) rfl ?_
   refine run_s (ss_move rfl) rfl ?_
   obtain ⟨q3, h⟩ := h
   refine run_w (ws_call (xs := [.tmp 13, .tmp 14]) (ids := [15]) rfl rfl rfl rfl (c_spec_l01Column t v4_1 q3) rfl ?_ )
   rintro _ rfl
   refine ⟨rfl, ?_⟩
   refine run_w (ws_buildSlice (id := 16) (ps := [(0, .tmp 15)]) rfl rfl (Nat.le_of_ble_eq_true rfl) rfl ⟨rfl, ?_⟩)
   refine run_gh (gh_fill (id := 16) (id2 := 15) (j := 0) rfl rfl (Nat.le_of_ble_eq_true rfl) rfl rfl rfl) ?_
   obtain ⟨q5, h⟩ := h
   refine run_w (ws_app1 (fun r => C.own (ints r)) (l := o5_1) (m := [colI t v4_1]) rfl rfl rfl rfl rfl (Nat.le_of_ble_eq_true rfl) q5 ⟨rfl, ?_⟩)
   refine run_s (ss_assign rfl) rfl ?_
   refine run_nil ?_
   refine aw_gh (gh_to (n := 19) (σ' := [(5, ⟨orows (o5_1 ++ ([colI t v4_1])), []⟩)]) (env' := [(0, .c (.lst (rows t))), (3, .ref 5), (4, .c (ci v4_1))]) rfl rfl ⟨rfl, rfl, rfl, trivial⟩) ?_
   refine aw_region ?_
   refine run_s (ss_move rfl) rfl ?_
   obtain ⟨q6, h⟩ := h
   refine run_s (ss_add rfl rfl q6) rfl ?_
   refine run_s (ss_assign rfl) rfl ?_
   refine run_nil ?_
   exact ⟨v4_1 + 1, o5_1 ++ ([colI t v4_1]), ghe_to (n := 19) rfl rfl ⟨rfl, rfl, rfl, trivial⟩, h.1, h.2⟩
  ·replace h := h.2 (of_decide_eq_false q2)
   refine aw_exit ?_
   refine aw_seq ?_
   refine aw_gh (gh_to (n := 19) (σ' := [(5, ⟨orows o5_1, []⟩)]) (env' := [(3, .ref 5)]) rfl rfl ⟨rfl, trivial⟩) ?_
   refine aw_region ?_
   refine run_s (ss_move rfl) rfl ?_
   refine run_s (ss_assign rfl) rfl ?_
   refine run_nil ?_
   refine aw_ret ?_
   exact retAF_mk (retv1 rfl (rv_tmp rfl)) rfl rfl ⟨_, (cle_refl _), _, h, rfl⟩

theorem c_spec_l01Turn (t : List (List Int)) (hp : isTab t = true) : AF Try.prog 177 [.lst (rows t)] (fun R_ => R_ = .own (orows (trnT t))) :=
  (w_spec_l01Turn t (fun y0 => y0 = trnT t) (p_spec_l01Turn t hp)).mono (by rintro r ⟨_, rfl, rfl⟩; rfl)

set_option maxRecDepth 100000 in
set_option maxHeartbeats 4000000 in
theorem w_spec_l05Cycle (s1 : List (List Int)) (s2 : List (List Int)) (Q : List (List Int) → Prop) (h : wp_spec_l05Cycle s1 s2 Q) : AF Try.prog 145 [.agg [.lst (rows s1), .lst (rows s2)]] (fun R_ => ∃ y0, Q y0 ∧ R_ = .agg [.own (orows y0)]) := by
  refine AF.ofWQ (af_enter (n := 25) Try.func145 rfl (by rfl) rfl (Nat.le_of_ble_eq_true rfl) ?_)
  unfold wp_spec_l05Cycle at h
  refine aw_seq ?_
  refine aw_gh (gh_to (n := 25) (σ' := []) (env' := [(0, .c (.agg [.lst (rows s1), .lst (rows s2)]))]) rfl rfl ⟨rfl, trivial⟩) ?_
  refine aw_region ?_
  refine run_w (ws_boxR rfl (.inl rfl) rfl ⟨rfl, ?_⟩)
  refine run_w (ws_alloc (id := 2) rfl (Nat.le_of_ble_eq_true rfl) ⟨rfl, ?_⟩)
  refine run_nil ?_
  refine aw_seq ?_
  refine aw_region ?_
  refine run_s (ss_build0) rfl ?_
  refine run_w (ws_alloc (id := 3) rfl (Nat.le_of_ble_eq_true rfl) ⟨rfl, ?_⟩)
  refine run_w (ws_storeS rfl rfl (Nat.le_of_ble_eq_true rfl) rfl rfl rfl ⟨rfl, ?_⟩)
  refine run_nil ?_
  refine aw_seq ?_
  refine aw_seq ?_
  refine aw_region ?_
  refine run_s (ss_assign rfl) rfl ?_
  refine run_nil ?_
  refine aw_block ?_
  obtain ⟨H1, m1, q1, h⟩ := h
  refine aw_loop2 (fun (v4_1 : Int) (o200048_1 : List (List Int)) => ⟨[(200048, ⟨orows o200048_1, []⟩), (3, ⟨[.hole], [(0, .ref 200048)]⟩), (2, ⟨[cnil], []⟩)], [(1, .c (.ptr [.lst (rows s1), .lst (rows s2)])), (2, .cell 2 0), (3, .cell 3 0), (4, .c (ci v4_1))], 25⟩) H1 m1 ⟨0, ([] : List (List Int)), ghe_step (gh_nilH (id0 := 3) (j := 0) (id := 200048) rfl rfl rfl rfl) (ghe_to (n := 25) rfl rfl ⟨rfl, rfl, rfl, rfl, trivial⟩), q1⟩ ?_
  rintro v4_1 o200048_1 q1
  replace h := h v4_1 o200048_1 q1
  refine aw_seq ?_
  refine aw_seq ?_
  refine aw_region ?_
  refine run_s (ss_move rfl) rfl ?_
  refine run_s (ss_field_ptr rfl) rfl ?_
  refine run_s (ss_load_ptr rfl rfl) rfl ?_
  refine run_s (ss_lenL (f := (fun r => C.lst (ints r))) rfl) rfl ?_
  refine run_s (ss_lss rfl rfl) rfl ?_
  refine run_nil ?_
  refine aw_cond rfl (fun q2 => ?_) (fun q2 => ?_)
  ·replace h := h.1 (of_decide_eq_true q2)
   refine aw_skip ?_
   refine aw_seq ?_
   refine aw_block ?_
   refine aw_gh (gh_to (n := 25) (σ' := [(200048, ⟨orows o200048_1, []⟩), (3, ⟨[.hole], [(0, .ref 200048)]⟩), (2, ⟨[cnil], []⟩)]) (env' := [(1, .c (.ptr [.lst (rows s1), .lst (rows s2)])), (2, .cell 2 0), (3, .cell 3 0), (4, .c (ci v4_1))]) rfl rfl ⟨rfl, rfl, rfl, rfl, trivial⟩) ?_
   refine aw_regionD (kd := kdl [0, 1, 0, 1, 0, 0, 1, 2, 2, 2, 0, 3]) (ord := [0, 2, 4, 1, 3, 5, 6, 7, 8, 9, 10, 11]) [20, 21, 200048] mixed (by kernel_rfl) ?_
   refine rd_s rfl rfl trivial (ss_field_cell rfl) rfl ?_
   refine rd_s rfl rfl trivial (ss_field_ptr rfl) rfl ?_
   refine rd_s rfl rfl trivial (ss_move rfl) rfl ?_
   refine rd_l rfl rfl trivial (ss_loadH rfl rfl rfl rfl) rfl ?_
   refine rd_l rfl rfl trivial (ss_load_ptr rfl rfl) rfl ?_
   obtain ⟨q3, h⟩ := h
   refine rd_s rfl rfl trivial (ss_idxL rfl rfl q3) rfl ?_
   refine rd_l rfl rfl trivial (ss_loadL (f := (fun r => C.lst (ints r))) rfl q3) rfl ?_
   obtain ⟨q4, h⟩ := h
   refine rd_w rfl rfl trivial rfl rfl (ws_call (xs := [.tmp 19]) (ids := [20]) rfl rfl rfl rfl (c_spec_l01Back (el s1 v4_1) q4) rfl ?_ )
   rintro _ rfl
   refine ⟨rfl, ?_⟩
   refine rd_w rfl rfl trivial rfl rfl (ws_buildSlice (id := 21) (ps := [(0, .tmp 20)]) rfl rfl (Nat.le_of_ble_eq_true rfl) rfl ⟨rfl, ?_⟩)
   obtain ⟨q6, h⟩ := h
   refine rd_w rfl rfl trivial rfl rfl (ws_gh (gh_fill (id := 21) (id2 := 20) (j := 0) rfl rfl (Nat.le_of_ble_eq_true rfl) rfl rfl rfl) (ws_app1 (fun r => C.own (ints r)) (l := o200048_1) (m := [backI (el s1 v4_1)]) rfl rfl rfl rfl rfl (Nat.le_of_ble_eq_true rfl) q6 ⟨rfl, ?_⟩))
   refine rd_s rfl rfl trivial (ss_field_cell rfl) rfl ?_
   refine rd_f rfl rfl trivial (ws_store rfl rfl (Nat.le_of_ble_eq_true rfl) rfl rfl ⟨rfl, ?_⟩)
   refine rd_nil ?_
   refine aw_gh (gh_to (n := 25) (σ' := [(200048, ⟨orows (o200048_1 ++ ([backI (el s1 v4_1)])), []⟩), (3, ⟨[.hole], [(0, .ref 200048)]⟩), (2, ⟨[cnil], []⟩)]) (env' := [(1, .c (.ptr [.lst (rows s1), .lst (rows s2)])), (2, .cell 2 0), (3, .cell 3 0), (4, .c (ci v4_1))]) rfl rfl ⟨rfl, rfl, rfl, rfl, trivial⟩) ?_
   refine aw_region ?_
   refine run_s (ss_move rfl) rfl ?_
   obtain ⟨q7, h⟩ := h
   refine run_s (ss_add rfl rfl q7) rfl ?_
   refine run_s (ss_assign rfl) rfl ?_
   refine run_nil ?_
   exact ⟨v4_1 + 1, o200048_1 ++ ([backI (el s1 v4_1)]), ghe_to (n := 25) rfl rfl ⟨rfl, rfl, rfl, rfl, trivial⟩, h.1, h.2⟩
  ·replace h := h.2 (of_decide_eq_false q2)
   refine aw_exit ?_
   refine aw_seq ?_
   refine aw_gh (gh_to (n := 25) (σ' := [(200048, ⟨orows o200048_1, []⟩), (3, ⟨[.hole], [(0, .ref 200048)]⟩), (2, ⟨[cnil], []⟩)]) (env' := [(2, .cell 2 0), (3, .cell 3 0)]) rfl rfl ⟨rfl, rfl, trivial⟩) ?_
   refine aw_region ?_
   refine run_s (ss_loadS rfl rfl rfl rfl) rfl ?_
   refine run_w (ws_storeS rfl rfl (Nat.le_of_ble_eq_true rfl) rfl rfl rfl ⟨rfl, ?_⟩)
   refine run_nil ?_
   refine aw_ret ?_
   exact retAF_mk (retv1 rfl (rv_struct rfl rfl rfl)) rfl rfl ⟨_, (cle_refl _), _, h, rfl⟩

theorem c_spec_l05Cycle (s1 : List (List Int)) (s2 : List (List Int)) (hp : isTab s1 = true ∧ s1.all isPerm = true) : AF Try.prog 145 [.agg [.lst (rows s1), .lst (rows s2)]] (fun R_ => R_ = .agg [.own (orows (s1.map backI))]) :=
  (w_spec_l05Cycle s1 s2 (fun y0 => y0 = s1.map backI) (p_spec_l05Cycle s1 s2 hp)).mono (by rintro r ⟨_, rfl, rfl⟩; rfl)

set_option maxRecDepth 100000 in
set_option maxHeartbeats 4000000 in
theorem w_impl_RowOrders (c : List (List Int)) (Q : List Int → Int → Prop) (h : wp_impl_RowOrders c Q) : AF Try.prog 49 [.agg [.lst (rows c)]] (fun R_ => ∃ y0 y1, Q y0 y1 ∧ R_ = .tup [.own (ints y0), ci y1]) := by
  refine AF.ofWQ (af_enter (n := 32) Try.func49 rfl (by rfl) rfl (Nat.le_of_ble_eq_true rfl) ?_)
  unfold wp_impl_RowOrders at h
  refine aw_seq ?_
  refine aw_gh (gh_to (n := 32) (σ' := []) (env' := [(0, .c (.agg [.lst (rows c)]))]) rfl rfl ⟨rfl, trivial⟩) ?_
  refine aw_region ?_
  refine run_w (ws_boxR rfl (.inl rfl) rfl ⟨rfl, ?_⟩)
  refine run_s (ss_assign rfl) rfl ?_
  refine run_s (ss_assign rfl) rfl ?_
  refine run_nil ?_
  refine aw_seq ?_
  refine aw_seq ?_
  refine aw_region ?_
  refine run_s (ss_load_struct rfl (Nat.le_of_ble_eq_true rfl)) rfl ?_
  obtain ⟨q1, h⟩ := h
  refine run_w (ws_call (xs := [.tmp 7]) (ids := []) rfl rfl rfl rfl (c_impl_IsCycleSet c q1) rfl ?_ )
  rintro _ rfl
  refine ⟨rfl, ?_⟩
  refine run_s (ss_not rfl) rfl ?_
  refine run_nil ?_
  refine aw_cond rfl (fun q3 => ?_) (fun q3 => ?_)
  ·replace h := h.1 ((bnot_t q3))
   refine aw_seq ?_
   refine aw_gh (gh_to (n := 32) (σ' := []) (env' := [(2, .c (cnil)), (3, .c (ci 0))]) rfl rfl ⟨rfl, rfl, trivial⟩) ?_
   refine aw_region ?_
   refine run_s (ss_assign rfl) rfl ?_
   refine run_s (ss_assign rfl) rfl ?_
   refine run_nil ?_
   refine aw_ret ?_
   exact retAF_mk (retv2 rfl (rv_tmp rfl) (rv_tmp rfl)) rfl rfl ⟨_, (cle_tup (cleL_cons cle_nilO (cleL_cons (cle_refl _) cleL_nil))), _, _, h, rfl⟩
  ·replace h := h.2 ((bnot_f q3))
   refine aw_skip ?_
   refine aw_seq ?_
   refine aw_region ?_
   refine run_s (ss_field_ptr rfl) rfl ?_
   refine run_s (ss_load_ptr rfl rfl) rfl ?_
   refine run_s (ss_lenL (f := (fun r => C.lst (ints r))) rfl) rfl ?_
   obtain ⟨q4, h⟩ := h
   refine run_w (ws_mk (id := 13) ci (0 : Int) rfl rfl rfl q4 (Nat.le_of_ble_eq_true rfl) rfl ⟨rfl, ?_⟩)
   refine run_s (ss_assign rfl) rfl ?_
   refine run_nil ?_
   refine aw_seq ?_
   refine aw_seq ?_
   refine aw_gh (gh_to (n := 32) (σ' := [(13, ⟨ints (List.replicate (c.length : Int).toNat (0 : Int)), []⟩)]) (env' := [(1, .c (.ptr [.lst (rows c)])), (4, .ref 13)]) rfl rfl ⟨rfl, rfl, trivial⟩) ?_
   refine aw_region ?_
   refine run_s (ss_field_ptr rfl) rfl ?_
   refine run_s (ss_load_ptr rfl rfl) rfl ?_
   refine run_s (ss_lenL (f := (fun r => C.lst (ints r))) rfl) rfl ?_
   refine run_s (ss_move rfl) rfl ?_
   refine run_nil ?_
   refine aw_block ?_
   obtain ⟨H1, m1, q5, h⟩ := h
   refine aw_loop2 (fun (v17_1 : Int) (o13_1 : List Int) => ⟨[(13, ⟨ints o13_1, []⟩)], [(4, .ref 13), (15, .c (.lst (rows c))), (16, .c (ci (c.length : Int))), (17, .c (ci v17_1))], 32⟩) H1 m1 ⟨0, List.replicate (c.length : Int).toNat (0 : Int), ghe_to (n := 32) rfl rfl ⟨rfl, rfl, rfl, rfl, trivial⟩, q5⟩ ?_
   rintro v17_1 o13_1 q5
   replace h := h v17_1 o13_1 q5
   refine aw_seq ?_
   refine aw_region ?_
   refine run_s (ss_lss rfl rfl) rfl ?_
   refine run_nil ?_
   refine aw_seq ?_
   refine aw_cond rfl (fun q6 => ?_) (fun q6 => ?_)
   ·replace h := h.1 (of_decide_eq_true q6)
    refine aw_skip ?_
    refine aw_seq ?_
    refine aw_block ?_
    refine aw_seq ?_
    refine aw_region ?_
    refine run_s (ss_move rfl) rfl ?_
    obtain ⟨q7, h⟩ := h
    refine run_s (ss_idxL rfl rfl q7) rfl ?_
    refine run_s (ss_loadL (f := (fun r => C.lst (ints r))) rfl q7) rfl ?_
    refine run_s (ss_assign rfl) rfl ?_
    refine run_s (ss_assign rfl) rfl ?_
    refine run_nil ?_
    refine aw_region ?_
    refine run_s (ss_move rfl) rfl ?_
    refine run_s (ss_move rfl) rfl ?_
    refine run_s (ss_move rfl) rfl ?_
    obtain ⟨q8, h⟩ := h
    refine run_w (ws_call (xs := [.tmp 25]) (ids := []) rfl rfl rfl rfl (c_impl_PermutationOrder (el c v17_1) q8) rfl ?_ )
    rintro _ rfl
    refine ⟨rfl, ?_⟩
    refine run_s (ss_move rfl) rfl ?_
    refine run_s (ss_extract rfl rfl) rfl ?_
    refine run_s (ss_extract rfl rfl) rfl ?_
    obtain ⟨q10, h⟩ := h
    refine run_s (ss_idxR (f := ci) rfl rfl rfl q10) rfl ?_
    refine run_w (ws_storeE rfl rfl (map_lt q10) rfl rfl (map_se (f := ci)) rfl ⟨rfl, ?_⟩)
    refine run_nil ?_
    refine aw_gh (gh_to (n := 32) (σ' := [(13, ⟨ints (se o13_1 v17_1 (PorV (el c v17_1))), []⟩)]) (env' := [(4, .ref 13), (15, .c (.lst (rows c))), (16, .c (ci (c.length : Int))), (17, .c (ci v17_1))]) rfl rfl ⟨rfl, rfl, rfl, rfl, trivial⟩) ?_
    refine aw_region ?_
    obtain ⟨q11, h⟩ := h
    refine run_s (ss_add rfl rfl q11) rfl ?_
    refine run_s (ss_move rfl) rfl ?_
    refine run_nil ?_
    exact ⟨v17_1 + 1, se o13_1 v17_1 (PorV (el c v17_1)), ghe_to (n := 32) rfl rfl ⟨rfl, rfl, rfl, rfl, trivial⟩, h.1, h.2⟩
   ·replace h := h.2 (of_decide_eq_false q6)
    refine aw_exit ?_
    refine aw_seq ?_
    refine aw_region ?_
    refine run_s (ss_move rfl) rfl ?_
    refine run_s (ss_assign rfl) rfl ?_
    refine run_s (ss_assign rfl) rfl ?_
    refine run_nil ?_
    refine aw_ret ?_
    exact retAF_mk (retv2 rfl (rv_tmp rfl) (rv_tmp rfl)) rfl rfl ⟨_, (cle_refl _), _, _, h, rfl⟩

theorem c_impl_RowOrders (c : List (List Int)) (hp : small2 c) : AF Try.prog 49 [.agg [.lst (rows c)]] (fun R_ => R_ = .tup [.own (ints (RowT c)), ci (cyE c)]) :=
  (w_impl_RowOrders c (fun y0 y1 => y0 = RowT c ∧ y1 = cyE c) (p_impl_RowOrders c hp)).mono (by rintro r ⟨_, _, ⟨rfl, rfl⟩, rfl⟩; rfl)

def wp_spec_l02Good (s1 : List (List Int)) (s2 : List (List Int)) (Q : Bool → Prop) : Prop :=
 (small2 s1) ∧
 (((s1.all permB) = true →
 (isTab s2 = true) ∧
 (small2 (trnT s2)) ∧
 Q ((trnT s2).all permB)) ∧
 ((s1.all permB) = false →
 Q false))

def wp_spec_l02Twice (s1 : List (List Int)) (s2 : List (List Int)) (Q : Bool → Prop) : Prop :=
 ∃ (H1 : Int → Prop) (m1 : Int → Nat),
 H1 0 ∧
 ∀ (v3_1 : Int), H1 v3_1 →
 ( ((v3_1 < (s1.length : Int) →
 ∃ (H2 : Int → Prop) (m2 : Int → Nat),
 H2 0 ∧
 ∀ (v4_2 : Int), H2 v4_2 →
 ( ((v4_2 < (s1.length : Int) →
 (0 ≤ v3_1 ∧ v3_1 < (s1.length : Int)) ∧
 (0 ≤ v4_2 ∧ v4_2 < ((el s1 v3_1).length : Int)) ∧
 (0 ≤ v3_1 ∧ v3_1 < (s2.length : Int)) ∧
 (0 ≤ v4_2 ∧ v4_2 < ((el s2 v3_1).length : Int)) ∧
 (0 ≤ el (el s1 v3_1) v4_2 ∧ el (el s1 v3_1) v4_2 < (s1.length : Int)) ∧
 (0 ≤ el (el s2 v3_1) v4_2 ∧ el (el s2 v3_1) v4_2 < ((el s1 (el (el s1 v3_1) v4_2)).length : Int)) ∧
 ((¬ (el (el s1 (el (el s1 v3_1) v4_2)) (el (el s2 v3_1) v4_2) = v3_1) →
 Q false) ∧
 (el (el s1 (el (el s1 v3_1) v4_2)) (el (el s2 v3_1) v4_2) = v3_1 →
 (0 ≤ el (el s1 v3_1) v4_2 ∧ el (el s1 v3_1) v4_2 < (s2.length : Int)) ∧
 (0 ≤ el (el s2 v3_1) v4_2 ∧ el (el s2 v3_1) v4_2 < ((el s2 (el (el s1 v3_1) v4_2)).length : Int)) ∧
 ((¬ (el (el s2 (el (el s1 v3_1) v4_2)) (el (el s2 v3_1) v4_2) = v4_2) →
 Q false) ∧
 (el (el s2 (el (el s1 v3_1) v4_2)) (el (el s2 v3_1) v4_2) = v4_2 →
 (InI (v4_2 + 1)) ∧
 (H2 (v4_2 + 1) ∧ m2 (v4_2 + 1) < m2 v4_2)))))) ∧
 (¬ (v4_2 < (s1.length : Int)) →
 (InI (v3_1 + 1)) ∧
 (H1 (v3_1 + 1) ∧ m1 (v3_1 + 1) < m1 v3_1))))) ∧
 (¬ (v3_1 < (s1.length : Int)) →
 Q true)))

theorem small2_of_tab {t : List (List Int)} (h : isTab t = true) : small2 t := by
  have hn := isTab_len h
  refine ⟨by show (t.length : Int) ≤ 1000000000; omega, fun r hr => ?_⟩
  obtain ⟨i, hi, rfl⟩ := mem_el hr
  have := rk_len h hi
  show ((el t i).length : Int) ≤ 1000000000; omega
theorem p_spec_l02Good (s1 s2 : List (List Int)) (hp : pmB s1 s2 = true) : wp_spec_l02Good s1 s2 (fun y0 => y0 = ndB s1 s2) := by
  obtain ⟨hs, ht, he⟩ := pm_tab hp
  have e1 := isTab_perm hs
  have e2 := isTab_perm (isTab_trnT ht)
  exact ⟨small2_of_tab hs, fun h => ⟨ht, small2_of_tab (isTab_trnT ht), by rw [e2]; rw [e1] at h; simp [ndB, h]⟩, fun h => by rw [e1] at h; simp [ndB, h]⟩
theorem p_spec_l02Twice (s1 s2 : List (List Int)) (hp : pmB s1 s2 = true) : wp_spec_l02Twice s1 s2 (fun y0 => y0 = ivB s1 s2) := by
  obtain ⟨hs, ht, he⟩ := pm_tab hp
  have hn := isTab_len hs
  refine ⟨fun x => 0 ≤ x ∧ x ≤ (s1.length : Int) ∧ Upto x fun x => ∀ y, 0 ≤ y → y < (s1.length : Int) → ivP s1 s2 x y, fun x => ((s1.length : Int) - x).toNat, ⟨by omega, by omega, upto0⟩, ?_⟩
  rintro x ⟨x0, x1, xI⟩
  dsimp only
  refine ⟨fun xlt => ?_, fun xge => (dec_t fun a h1 h2 => xI a h1 (by omega)).symm⟩
  have lx := rk_len hs ⟨x0, xlt⟩
  refine ⟨fun y => 0 ≤ y ∧ y ≤ (s1.length : Int) ∧ Upto y fun y => ivP s1 s2 x y, fun y => ((s1.length : Int) - y).toNat, ⟨by omega, by omega, upto0⟩, ?_⟩
  rintro y ⟨y0, y1, yI⟩
  dsimp only
  refine ⟨fun ylt => ?_, fun yge => ⟨⟨by omega, by omega⟩, ⟨by omega, by omega, upto1 xI fun b h1 h2 => yI b h1 (by omega)⟩, by omega⟩⟩
  have lx2 := rk_len ht (x := x) ⟨x0, by omega⟩
  have u := rk_el hs (x := x) (y := y) ⟨x0, xlt⟩ ⟨y0, by omega⟩
  have v := rk_el ht (x := x) (y := y) ⟨x0, by omega⟩ ⟨y0, by omega⟩
  have lu := rk_len hs u
  have lu2 := rk_len ht (x := el (el s1 x) y) ⟨u.1, by omega⟩
  have no : ¬ ivP s1 s2 x y → false = ivB s1 s2 := fun h => (dec_f fun k => h (k x x0 xlt y y0 (by omega))).symm
  exact ⟨⟨x0, xlt⟩, ⟨y0, by omega⟩, ⟨x0, by omega⟩, ⟨y0, by omega⟩, u, ⟨v.1, by omega⟩, fun h1 => no fun k => h1 k.1, fun h1 => ⟨⟨u.1, by omega⟩, ⟨v.1, by omega⟩, fun h2 => no fun k => h2 k.2, fun h2 => ⟨⟨by omega, by omega⟩, ⟨by omega, by omega, upto1 yI ⟨h1, h2⟩⟩, by omega⟩⟩⟩
set_option maxRecDepth 100000 in
set_option maxHeartbeats 4000000 in
theorem w_spec_l02Good (s1 : List (List Int)) (s2 : List (List Int)) (Q : Bool → Prop) (h : wp_spec_l02Good s1 s2 Q) : AF Try.prog 143 [.agg [.lst (rows s1), .lst (rows s2)]] (fun R_ => ∃ y0, Q y0 ∧ R_ = cb y0) := by
  refine AF.ofWQ (af_enter (n := 12) Try.func143 rfl (by rfl) rfl (Nat.le_of_ble_eq_true rfl) ?_)
  unfold wp_spec_l02Good at h
  refine aw_seq ?_
  refine aw_gh (gh_to (n := 12) (σ' := []) (env' := [(0, .c (.agg [.lst (rows s1), .lst (rows s2)]))]) rfl rfl ⟨rfl, trivial⟩) ?_
  refine aw_region ?_
  refine run_w (ws_boxR rfl (.inl rfl) rfl ⟨rfl, ?_⟩)
  refine run_s (ss_assign rfl) rfl ?_
  refine run_nil ?_
  refine aw_seq ?_
  refine aw_region ?_
  refine run_s (ss_field_ptr rfl) rfl ?_
  refine run_s (ss_load_ptr rfl rfl) rfl ?_
  obtain ⟨q1, h⟩ := h
  refine run_w (ws_call (xs := [.tmp 4]) (ids := []) rfl rfl rfl rfl (c_spec_l01Rows s1 q1) rfl ?_ )
  rintro _ rfl
  refine ⟨rfl, ?_⟩
  refine run_s (ss_move rfl) rfl ?_
  refine run_split (s := 6) rfl (fun q3 => ?_) (fun q3 => ?_)
  ·replace h := h.1 (q3)
   refine run_gt rfl rfl q3 ?_
   refine run_s (ss_field_ptr rfl) rfl ?_
   refine run_gt rfl rfl q3 ?_
   refine run_s (ss_load_ptr rfl rfl) rfl ?_
   refine run_gt rfl rfl q3 ?_
   obtain ⟨q4, h⟩ := h
   refine run_w (ws_call (xs := [.tmp 8]) (ids := [9]) rfl rfl rfl rfl (c_spec_l01Turn s2 q4) rfl ?_ )
   rintro _ rfl
   refine ⟨rfl, ?_⟩
   refine run_gt rfl rfl q3 ?_
   obtain ⟨q6, h⟩ := h
   refine run_w (ws_callR (xs := [.tmp 9]) (cs := [.own (orows (trnT s2))]) (ids := []) rfl (.inr ⟨rfl, rfl⟩) rfl rfl (fz_cons (fz_own (fz_map (fun _ => (fz_own (fz_map (fun _ => rfl) _))) _)) fz_nil) (c_spec_l01Rows (trnT s2) q6) rfl ?_ )
   rintro _ rfl
   refine ⟨rfl, rfl, ?_⟩
   refine run_s (ss_pickT rfl q3 rfl) rfl ?_
   refine run_s (ss_assign rfl) rfl ?_
   refine run_nil ?_
   refine aw_ret ?_
   exact retAF_mk (retv1 rfl (rv_tmp rfl)) rfl rfl ⟨_, (cle_refl _), _, h, rfl⟩
  ·replace h := h.2 (q3)
   refine run_gf rfl rfl q3 rfl ?_
   refine run_gf rfl rfl q3 rfl ?_
   refine run_gf rfl rfl q3 rfl ?_
   refine run_gf rfl rfl q3 rfl ?_
   refine run_s (ss_pickF rfl q3 rfl) rfl ?_
   refine run_s (ss_assign rfl) rfl ?_
   refine run_nil ?_
   refine aw_ret ?_
   exact retAF_mk (retv1 rfl (rv_tmp rfl)) rfl rfl ⟨_, (cle_refl _), _, h, rfl⟩

theorem c_spec_l02Good (s1 : List (List Int)) (s2 : List (List Int)) (hp : pmB s1 s2 = true) : AF Try.prog 143 [.agg [.lst (rows s1), .lst (rows s2)]] (fun R_ => R_ = cb (ndB s1 s2)) :=
  (w_spec_l02Good s1 s2 (fun y0 => y0 = ndB s1 s2) (p_spec_l02Good s1 s2 hp)).mono (by rintro r ⟨_, rfl, rfl⟩; rfl)

set_option maxRecDepth 100000 in
set_option maxHeartbeats 4000000 in
theorem w_spec_l02Twice (s1 : List (List Int)) (s2 : List (List Int)) (Q : Bool → Prop) (h : wp_spec_l02Twice s1 s2 Q) : AF Try.prog 144 [.agg [.lst (rows s1), .lst (rows s2)]] (fun R_ => ∃ y0, Q y0 ∧ R_ = cb y0) := by
  refine AF.ofWQ (af_enter (n := 59) Try.func144 rfl (by rfl) rfl (Nat.le_of_ble_eq_true rfl) ?_)
  unfold wp_spec_l02Twice at h
  refine aw_seq ?_
  refine aw_gh (gh_to (n := 59) (σ' := []) (env' := [(0, .c (.agg [.lst (rows s1), .lst (rows s2)]))]) rfl rfl ⟨rfl, trivial⟩) ?_
  refine aw_region ?_
  refine run_w (ws_boxR rfl (.inl rfl) rfl ⟨rfl, ?_⟩)
  refine run_s (ss_assign rfl) rfl ?_
  refine run_nil ?_
  refine aw_seq ?_
  refine aw_seq ?_
  refine aw_region ?_
  refine run_s (ss_assign rfl) rfl ?_
  refine run_nil ?_
  refine aw_block ?_
  obtain ⟨H1, m1, q1, h⟩ := h
  refine aw_loop1 (fun (v3_1 : Int) => ⟨[], [(1, .c (.ptr [.lst (rows s1), .lst (rows s2)])), (3, .c (ci v3_1))], 59⟩) H1 m1 ⟨0, ghe_to (n := 59) rfl rfl ⟨rfl, rfl, trivial⟩, q1⟩ ?_
  rintro v3_1 q1
  replace h := h v3_1 q1
  refine aw_seq ?_
  refine aw_seq ?_
  refine aw_region ?_
  refine run_s (ss_move rfl) rfl ?_
  refine run_s (ss_field_ptr rfl) rfl ?_
  refine run_s (ss_load_ptr rfl rfl) rfl ?_
  refine run_s (ss_lenL (f := (fun r => C.lst (ints r))) rfl) rfl ?_
  refine run_s (ss_lss rfl rfl) rfl ?_
  refine run_nil ?_
  refine aw_cond rfl (fun q2 => ?_) (fun q2 => ?_)
  ·replace h := h.1 (of_decide_eq_true q2)
   refine aw_skip ?_
   refine aw_seq ?_
   refine aw_block ?_
   refine aw_seq ?_
   refine aw_region ?_
   refine run_s (ss_assign rfl) rfl ?_
   refine run_nil ?_
   refine aw_block ?_
   obtain ⟨H2, m2, q3, h⟩ := h
   refine aw_loop1 (fun (v4_2 : Int) => ⟨[], [(1, .c (.ptr [.lst (rows s1), .lst (rows s2)])), (3, .c (ci v3_1)), (4, .c (ci v4_2))], 59⟩) H2 m2 ⟨0, ghe_to (n := 59) rfl rfl ⟨rfl, rfl, rfl, trivial⟩, q3⟩ ?_
   rintro v4_2 q3
   replace h := h v4_2 q3
   refine aw_seq ?_
   refine aw_seq ?_
   refine aw_region ?_
   refine run_s (ss_move rfl) rfl ?_
   refine run_s (ss_field_ptr rfl) rfl ?_
   refine run_s (ss_load_ptr rfl rfl) rfl ?_
   refine run_s (ss_lenL (f := (fun r => C.lst (ints r))) rfl) rfl ?_
   refine run_s (ss_lss rfl rfl) rfl ?_
   refine run_nil ?_
   refine aw_cond rfl (fun q4 => ?_) (fun q4 => ?_)
   ·replace h := h.1 (of_decide_eq_true q4)
    refine aw_skip ?_
    refine aw_seq ?_
    refine aw_block ?_
    refine aw_seq ?_
    refine aw_gh (gh_to (n := 59) (σ' := []) (env' := [(1, .c (.ptr [.lst (rows s1), .lst (rows s2)])), (3, .c (ci v3_1)), (4, .c (ci v4_2))]) rfl rfl ⟨rfl, rfl, rfl, trivial⟩) ?_
    refine aw_regionD (kd := kdl [0, 1, 0, 0, 1, 0, 0, 1, 0, 1, 0, 0, 1, 0, 0, 1, 0, 0]) (ord := [0, 2, 5, 8, 10, 13, 1, 3, 4, 6, 7, 16, 9, 11, 12, 14, 15, 17]) [] mixed (by kernel_rfl) ?_
    refine rd_s rfl rfl trivial (ss_field_ptr rfl) rfl ?_
    refine rd_s rfl rfl trivial (ss_move rfl) rfl ?_
    refine rd_s rfl rfl trivial (ss_move rfl) rfl ?_
    refine rd_s rfl rfl trivial (ss_field_ptr rfl) rfl ?_
    refine rd_s rfl rfl trivial (ss_move rfl) rfl ?_
    refine rd_s rfl rfl trivial (ss_move rfl) rfl ?_
    refine rd_l rfl rfl trivial (ss_load_ptr rfl rfl) rfl ?_
    obtain ⟨q5, h⟩ := h
    refine rd_s rfl rfl trivial (ss_idxL rfl rfl q5) rfl ?_
    refine rd_l rfl rfl trivial (ss_loadL (f := (fun r => C.lst (ints r))) rfl q5) rfl ?_
    obtain ⟨q6, h⟩ := h
    refine rd_s rfl rfl trivial (ss_idxL rfl rfl q6) rfl ?_
    refine rd_l rfl rfl trivial (ss_loadL (f := ci) rfl q6) rfl ?_
    refine rd_s rfl rfl trivial (ss_assign rfl) rfl ?_
    refine rd_l rfl rfl trivial (ss_load_ptr rfl rfl) rfl ?_
    obtain ⟨q7, h⟩ := h
    refine rd_s rfl rfl trivial (ss_idxL rfl rfl q7) rfl ?_
    refine rd_l rfl rfl trivial (ss_loadL (f := (fun r => C.lst (ints r))) rfl q7) rfl ?_
    obtain ⟨q8, h⟩ := h
    refine rd_s rfl rfl trivial (ss_idxL rfl rfl q8) rfl ?_
    refine rd_l rfl rfl trivial (ss_loadL (f := ci) rfl q8) rfl ?_
    refine rd_s rfl rfl trivial (ss_assign rfl) rfl ?_
    refine rd_nil ?_
    refine aw_seq ?_
    refine aw_region ?_
    refine run_s (ss_field_ptr rfl) rfl ?_
    refine run_s (ss_load_ptr rfl rfl) rfl ?_
    refine run_s (ss_move rfl) rfl ?_
    obtain ⟨q9, h⟩ := h
    refine run_s (ss_idxL rfl rfl q9) rfl ?_
    refine run_s (ss_loadL (f := (fun r => C.lst (ints r))) rfl q9) rfl ?_
    refine run_s (ss_move rfl) rfl ?_
    obtain ⟨q10, h⟩ := h
    refine run_s (ss_idxL rfl rfl q10) rfl ?_
    refine run_s (ss_loadL (f := ci) rfl q10) rfl ?_
    refine run_s (ss_move rfl) rfl ?_
    refine run_s (ss_neq rfl rfl) rfl ?_
    refine run_s (ss_move rfl) rfl ?_
    refine run_split (s := 47) rfl (fun q11 => ?_) (fun q11 => ?_)
    ·replace h := h.1 (of_decide_eq_false (bnot_t q11))
     refine run_gf rfl rfl q11 rfl ?_
     refine run_gf rfl rfl q11 rfl ?_
     refine run_gf rfl rfl q11 rfl ?_
     refine run_gf rfl rfl q11 rfl ?_
     refine run_gf rfl rfl q11 rfl ?_
     refine run_gf rfl rfl q11 rfl ?_
     refine run_gf rfl rfl q11 rfl ?_
     refine run_gf rfl rfl q11 rfl ?_
     refine run_gf rfl rfl q11 rfl ?_
     refine run_gf rfl rfl q11 rfl ?_
     refine run_s (ss_pickT rfl q11 rfl) rfl ?_
     refine run_nil ?_
     refine aw_cond rfl (fun q12 => ?_) (fun q12 => ?_)
     ·skip
      refine aw_seq ?_
      refine aw_gh (gh_to (n := 59) (σ' := []) (env' := []) rfl rfl trivial) ?_
      refine aw_region ?_
      refine run_s (ss_assign rfl) rfl ?_
      refine run_nil ?_
      refine aw_ret ?_
      exact retAF_mk (retv1 rfl (rv_tmp rfl)) rfl rfl ⟨_, (cle_refl _), _, h, rfl⟩
     ·cases q12
    ·replace h := h.2 (of_decide_eq_true (bnot_f q11))
     refine run_gt rfl rfl q11 ?_
     refine run_s (ss_field_ptr rfl) rfl ?_
     refine run_gt rfl rfl q11 ?_
     refine run_s (ss_load_ptr rfl rfl) rfl ?_
     refine run_gt rfl rfl q11 ?_
     refine run_s (ss_move rfl) rfl ?_
     refine run_gt rfl rfl q11 ?_
     obtain ⟨q13, h⟩ := h
     refine run_s (ss_idxL rfl rfl q13) rfl ?_
     refine run_gt rfl rfl q11 ?_
     refine run_s (ss_loadL (f := (fun r => C.lst (ints r))) rfl q13) rfl ?_
     refine run_gt rfl rfl q11 ?_
     refine run_s (ss_move rfl) rfl ?_
     refine run_gt rfl rfl q11 ?_
     obtain ⟨q14, h⟩ := h
     refine run_s (ss_idxL rfl rfl q14) rfl ?_
     refine run_gt rfl rfl q11 ?_
     refine run_s (ss_loadL (f := ci) rfl q14) rfl ?_
     refine run_gt rfl rfl q11 ?_
     refine run_s (ss_move rfl) rfl ?_
     refine run_gt rfl rfl q11 ?_
     refine run_s (ss_neq rfl rfl) rfl ?_
     refine run_s (ss_pickF rfl q11 rfl) rfl ?_
     refine run_nil ?_
     refine aw_cond rfl (fun q15 => ?_) (fun q15 => ?_)
     ·replace h := h.1 (of_decide_eq_false (bnot_t q15))
      refine aw_seq ?_
      refine aw_gh (gh_to (n := 59) (σ' := []) (env' := []) rfl rfl trivial) ?_
      refine aw_region ?_
      refine run_s (ss_assign rfl) rfl ?_
      refine run_nil ?_
      refine aw_ret ?_
      exact retAF_mk (retv1 rfl (rv_tmp rfl)) rfl rfl ⟨_, (cle_refl _), _, h, rfl⟩
     ·replace h := h.2 (of_decide_eq_true (bnot_f q15))
      refine aw_skip ?_
      refine aw_gh (gh_to (n := 59) (σ' := []) (env' := [(1, .c (.ptr [.lst (rows s1), .lst (rows s2)])), (3, .c (ci v3_1)), (4, .c (ci v4_2)), (48, .c (.ptr [.lst (rows s2)])), (49, .c (.lst (rows s2))), (50, .c (ci (el (el s1 v3_1) v4_2))), (51, .c (.ptr ((rows s2).drop (el (el s1 v3_1) v4_2).toNat))), (52, .c (.lst (ints (el s2 (el (el s1 v3_1) v4_2))))), (53, .c (ci (el (el s2 v3_1) v4_2))), (54, .c (.ptr ((ints (el s2 (el (el s1 v3_1) v4_2))).drop (el (el s2 v3_1) v4_2).toNat))), (55, .c (ci (el (el s2 (el (el s1 v3_1) v4_2)) (el (el s2 v3_1) v4_2)))), (56, .c (ci v4_2)), (57, .c (cb (!(decide (el (el s2 (el (el s1 v3_1) v4_2)) (el (el s2 v3_1) v4_2) = v4_2)))))]) rfl rfl ⟨rfl, rfl, rfl, rfl, rfl, rfl, rfl, rfl, rfl, rfl, rfl, rfl, rfl, trivial⟩) ?_
      refine aw_region ?_
      refine run_s (ss_move rfl) rfl ?_
      obtain ⟨q16, h⟩ := h
      refine run_s (ss_add rfl rfl q16) rfl ?_
      refine run_s (ss_assign rfl) rfl ?_
      refine run_nil ?_
      exact ⟨v4_2 + 1, ghe_to (n := 59) rfl rfl ⟨rfl, rfl, rfl, trivial⟩, h.1, h.2⟩
   ·replace h := h.2 (of_decide_eq_false q4)
    refine aw_exit ?_
    refine aw_region ?_
    refine run_s (ss_move rfl) rfl ?_
    obtain ⟨q17, h⟩ := h
    refine run_s (ss_add rfl rfl q17) rfl ?_
    refine run_s (ss_assign rfl) rfl ?_
    refine run_nil ?_
    exact ⟨v3_1 + 1, ghe_to (n := 59) rfl rfl ⟨rfl, rfl, trivial⟩, h.1, h.2⟩
  ·replace h := h.2 (of_decide_eq_false q2)
   refine aw_exit ?_
   refine aw_seq ?_
   refine aw_gh (gh_to (n := 59) (σ' := []) (env' := []) rfl rfl trivial) ?_
   refine aw_region ?_
   refine run_s (ss_assign rfl) rfl ?_
   refine run_nil ?_
   refine aw_ret ?_
   exact retAF_mk (retv1 rfl (rv_tmp rfl)) rfl rfl ⟨_, (cle_refl _), _, h, rfl⟩

theorem c_spec_l02Twice (s1 : List (List Int)) (s2 : List (List Int)) (hp : pmB s1 s2 = true) : AF Try.prog 144 [.agg [.lst (rows s1), .lst (rows s2)]] (fun R_ => R_ = cb (ivB s1 s2)) :=
  (w_spec_l02Twice s1 s2 (fun y0 => y0 = ivB s1 s2) (p_spec_l02Twice s1 s2 hp)).mono (by rintro r ⟨_, rfl, rfl⟩; rfl)

end Go.Proofs.Ytbodlnpmplcaoaa

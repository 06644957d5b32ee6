/- Contracts of functions that the law FnRackParts reaches: conditions, plain proofs, walks; no condition. -/
import Derived.Test.YtbodlnpmplcaoaaKRackPartsa
import Derived.Test.YtbodlnpmplcaoaaPg
namespace Go.Proofs.Ytbodlnpmplcaoaa

def wp_k_Index (s : List Int) (v : Int) (Q : Int → Prop) : Prop :=
 ∃ (H1 : Int → Prop) (m1 : Int → Nat),
 H1 0 ∧
 ∀ (v8_1 : Int), H1 v8_1 →
 ( ((v8_1 < (s.length : Int) →
 (0 ≤ v8_1 ∧ v8_1 < (s.length : Int)) ∧
 ((v = el s v8_1 →
 Q v8_1) ∧
 (¬ (v = el s v8_1) →
 (InI (v8_1 + 1)) ∧
 (H1 (v8_1 + 1) ∧ m1 (v8_1 + 1) < m1 v8_1)))) ∧
 (¬ (v8_1 < (s.length : Int)) →
 Q (-1))))

def wp_k_Contains (s : List Int) (v : Int) (Q : Bool → Prop) : Prop :=
 (small s) ∧
 Q (decide (0 ≤ idxI s v))

def wp_k_Clone (s : List Int) (Q : List Int → Prop) : Prop :=
 ∀ (b1 : Bool), (b1 = true → s = []) →
 ((b1 = true →
 Q ([])) ∧
 (b1 = false →
 ((([] : List Int).length : Int) + (s.length : Int) ≤ 1000000000) ∧
 Q (([] : List Int) ++ s)))

def wp_spec_l01Same (a : List Int) (b : List Int) (Q : Bool → Prop) : Prop :=
 ((¬ ((a.length : Int) = (b.length : Int)) →
 Q false) ∧
 ((a.length : Int) = (b.length : Int) →
 ∃ (H1 : Int → Prop) (m1 : Int → Nat),
 H1 0 ∧
 ∀ (v5_1 : Int), H1 v5_1 →
 ( ((v5_1 < (a.length : Int) →
 (0 ≤ v5_1 ∧ v5_1 < (a.length : Int)) ∧
 (0 ≤ v5_1 ∧ v5_1 < (b.length : Int)) ∧
 ((¬ (el a v5_1 = el b v5_1) →
 Q false) ∧
 (el a v5_1 = el b v5_1 →
 (InI (v5_1 + 1)) ∧
 (H1 (v5_1 + 1) ∧ m1 (v5_1 + 1) < m1 v5_1)))) ∧
 (¬ (v5_1 < (a.length : Int)) →
 Q true)))))

def wp_spec_l01Then (p : List Int) (q : List Int) (Q : List Int → Prop) : Prop :=
 ∃ (H1 : Int → List Int → Prop) (m1 : Int → List Int → Nat),
 H1 0 ([] : List Int) ∧
 ∀ (v6_1 : Int) (o7_1 : List Int), H1 v6_1 o7_1 →
 ( ((v6_1 < (p.length : Int) →
 (0 ≤ v6_1 ∧ v6_1 < (p.length : Int)) ∧
 (0 ≤ el p v6_1 ∧ el p v6_1 < (q.length : Int)) ∧
 ((o7_1.length : Int) + (([el q (el p v6_1)]).length : Int) ≤ 1000000000) ∧
 (InI (v6_1 + 1)) ∧
 (H1 (v6_1 + 1) (o7_1 ++ ([el q (el p v6_1)])) ∧ m1 (v6_1 + 1) (o7_1 ++ ([el q (el p v6_1)])) < m1 v6_1 o7_1)) ∧
 (¬ (v6_1 < (p.length : Int)) →
 Q o7_1)))

def wp_spec_l01Back (p : List Int) (Q : List Int → Prop) : Prop :=
 (0 ≤ (p.length : Int) ∧ (p.length : Int) ≤ 1000000000) ∧
 ∃ (H1 : Int → List Int → Prop) (m1 : Int → List Int → Nat),
 H1 0 (List.replicate (p.length : Int).toNat (0 : Int)) ∧
 ∀ (v4_1 : Int) (o7_1 : List Int), H1 v4_1 o7_1 →
 ( ((v4_1 < (p.length : Int) →
 (0 ≤ v4_1 ∧ v4_1 < (p.length : Int)) ∧
 (0 ≤ el p v4_1 ∧ el p v4_1 < (o7_1.length : Int)) ∧
 (InI (v4_1 + 1)) ∧
 (H1 (v4_1 + 1) (se o7_1 (el p v4_1) v4_1) ∧ m1 (v4_1 + 1) (se o7_1 (el p v4_1) v4_1) < m1 v4_1 o7_1)) ∧
 (¬ (v4_1 < (p.length : Int)) →
 Q o7_1)))

def wp_impl_permutationRows_1 (row : List Int) (Q : Bool → Prop) : Prop :=
 (small row) ∧
 Q (!((isPerm row)))

def wp_impl_permutationRows (t : List (List Int)) (Q : Bool → Prop) : Prop :=
 (small t ∧ ∀ r_ ∈ t, (fun z0 => small z0) r_) ∧
 Q (!((t.any (fun z0 => !isPerm z0))))

def wp_impl_increasing (list : List Int) (Q : Bool → Prop) : Prop :=
 ∃ (H1 : Int → Prop) (m1 : Int → Nat),
 H1 1 ∧
 ∀ (v3_1 : Int), H1 v3_1 →
 ( ((v3_1 < (list.length : Int) →
 (InI (v3_1 - 1)) ∧
 (0 ≤ v3_1 - 1 ∧ v3_1 - 1 < (list.length : Int)) ∧
 (0 ≤ v3_1 ∧ v3_1 < (list.length : Int)) ∧
 ((el list v3_1 ≤ el list (v3_1 - 1) →
 Q false) ∧
 (¬ (el list v3_1 ≤ el list (v3_1 - 1)) →
 (InI (v3_1 + 1)) ∧
 (H1 (v3_1 + 1) ∧ m1 (v3_1 + 1) < m1 v3_1)))) ∧
 (¬ (v3_1 < (list.length : Int)) →
 Q true)))

def wp_impl_areElements (n : Int) (list : List Int) (Q : Bool → Prop) : Prop :=
 (InI (n - 1)) ∧
 (small list) ∧
 Q (list.all (fun z_ => decide ((0 : Int) ≤ z_) && decide (z_ ≤ (n - 1))))

def wp_spec_l04Elements (n : Int) (list : List Int) (Q : Bool → Prop) : Prop :=
 ∃ (H1 : Int → Prop) (m1 : Int → Nat),
 H1 0 ∧
 ∀ (v5_1 : Int), H1 v5_1 →
 ( ((v5_1 < (list.length : Int) →
 (0 ≤ v5_1 ∧ v5_1 < (list.length : Int)) ∧
 (InI (n - 1)) ∧
 (((decide ((0 : Int) ≤ (el list v5_1)) && decide ((el list v5_1) ≤ (n - 1))) = false →
 Q false) ∧
 ((decide ((0 : Int) ≤ (el list v5_1)) && decide ((el list v5_1) ≤ (n - 1))) = true →
 (InI (v5_1 + 1)) ∧
 (H1 (v5_1 + 1) ∧ m1 (v5_1 + 1) < m1 v5_1)))) ∧
 (¬ (v5_1 < (list.length : Int)) →
 Q true)))

def wp_impl_rackFault (t : List (List Int)) (Q : List Int → Prop) : Prop :=
 ∃ (H1 : Int → Prop) (m1 : Int → Nat),
 H1 0 ∧
 ∀ (v10_1 : Int), H1 v10_1 →
 ( ((v10_1 < (t.length : Int) →
 ∃ (H2 : Int → Prop) (m2 : Int → Nat),
 H2 0 ∧
 ∀ (v14_2 : Int), H2 v14_2 →
 ( ((v14_2 < (t.length : Int) →
 ∃ (H3 : Int → Prop) (m3 : Int → Nat),
 H3 0 ∧
 ∀ (v18_3 : Int), H3 v18_3 →
 ( ((v18_3 < (t.length : Int) →
 (0 ≤ v10_1 ∧ v10_1 < (t.length : Int)) ∧
 (0 ≤ v14_2 ∧ v14_2 < (t.length : Int)) ∧
 (0 ≤ v10_1 ∧ v10_1 < (t.length : Int)) ∧
 (0 ≤ v10_1 ∧ v10_1 < (t.length : Int)) ∧
 (0 ≤ v18_3 ∧ v18_3 < ((el t v14_2).length : Int)) ∧
 (0 ≤ el (el t v14_2) v18_3 ∧ el (el t v14_2) v18_3 < ((el t v10_1).length : Int)) ∧
 (0 ≤ v14_2 ∧ v14_2 < ((el t v10_1).length : Int)) ∧
 (0 ≤ el (el t v10_1) v14_2 ∧ el (el t v10_1) v14_2 < (t.length : Int)) ∧
 (0 ≤ v18_3 ∧ v18_3 < ((el t v10_1).length : Int)) ∧
 (0 ≤ el (el t v10_1) v18_3 ∧ el (el t v10_1) v18_3 < ((el t (el (el t v10_1) v14_2)).length : Int)) ∧
 ((¬ (el (el t v10_1) (el (el t v14_2) v18_3) = el (el t (el (el t v10_1) v14_2)) (el (el t v10_1) v18_3)) →
 Q ([v10_1, v14_2, v18_3])) ∧
 (el (el t v10_1) (el (el t v14_2) v18_3) = el (el t (el (el t v10_1) v14_2)) (el (el t v10_1) v18_3) →
 (InI (v18_3 + 1)) ∧
 (H3 (v18_3 + 1) ∧ m3 (v18_3 + 1) < m3 v18_3)))) ∧
 (¬ (v18_3 < (t.length : Int)) →
 (InI (v14_2 + 1)) ∧
 (H2 (v14_2 + 1) ∧ m2 (v14_2 + 1) < m2 v14_2))))) ∧
 (¬ (v14_2 < (t.length : Int)) →
 (InI (v10_1 + 1)) ∧
 (H1 (v10_1 + 1) ∧ m1 (v10_1 + 1) < m1 v10_1))))) ∧
 (¬ (v10_1 < (t.length : Int)) →
 Q ([]))))

def wp_spec_l03Fault (t : List (List Int)) (Q : List Int → Prop) : Prop :=
 ∃ (H1 : Int → Prop) (m1 : Int → Nat),
 H1 0 ∧
 ∀ (v4_1 : Int), H1 v4_1 →
 ( ((v4_1 < (t.length : Int) →
 ∃ (H2 : Int → Prop) (m2 : Int → Nat),
 H2 0 ∧
 ∀ (v5_2 : Int), H2 v5_2 →
 ( ((v5_2 < (t.length : Int) →
 ∃ (H3 : Int → Prop) (m3 : Int → Nat),
 H3 0 ∧
 ∀ (v6_3 : Int), H3 v6_3 →
 ( ((v6_3 < (t.length : Int) →
 (0 ≤ v4_1 ∧ v4_1 < (t.length : Int)) ∧
 (0 ≤ v5_2 ∧ v5_2 < (t.length : Int)) ∧
 (0 ≤ v4_1 ∧ v4_1 < (t.length : Int)) ∧
 (0 ≤ v4_1 ∧ v4_1 < (t.length : Int)) ∧
 (0 ≤ v6_3 ∧ v6_3 < ((el t v5_2).length : Int)) ∧
 (0 ≤ el (el t v5_2) v6_3 ∧ el (el t v5_2) v6_3 < ((el t v4_1).length : Int)) ∧
 (0 ≤ v5_2 ∧ v5_2 < ((el t v4_1).length : Int)) ∧
 (0 ≤ el (el t v4_1) v5_2 ∧ el (el t v4_1) v5_2 < (t.length : Int)) ∧
 (0 ≤ v6_3 ∧ v6_3 < ((el t v4_1).length : Int)) ∧
 (0 ≤ el (el t v4_1) v6_3 ∧ el (el t v4_1) v6_3 < ((el t (el (el t v4_1) v5_2)).length : Int)) ∧
 ((¬ (el (el t v4_1) (el (el t v5_2) v6_3) = el (el t (el (el t v4_1) v5_2)) (el (el t v4_1) v6_3)) →
 Q ([v4_1, v5_2, v6_3])) ∧
 (el (el t v4_1) (el (el t v5_2) v6_3) = el (el t (el (el t v4_1) v5_2)) (el (el t v4_1) v6_3) →
 (InI (v6_3 + 1)) ∧
 (H3 (v6_3 + 1) ∧ m3 (v6_3 + 1) < m3 v6_3)))) ∧
 (¬ (v6_3 < (t.length : Int)) →
 (InI (v5_2 + 1)) ∧
 (H2 (v5_2 + 1) ∧ m2 (v5_2 + 1) < m2 v5_2))))) ∧
 (¬ (v5_2 < (t.length : Int)) →
 (InI (v4_1 + 1)) ∧
 (H1 (v4_1 + 1) ∧ m1 (v4_1 + 1) < m1 v4_1))))) ∧
 (¬ (v4_1 < (t.length : Int)) →
 Q ([]))))

def wp_impl_IsRack (r : List (List Int)) (Q : Bool → Prop) : Prop :=
 (small2 r) ∧
 (((isTab r) = true →
 (small2 r) ∧
 (((r.all isPerm) = true →
 (((rackF r) = [] →
 (isTab r = true) ∧
 Q true) ∧
 (¬ (rackF r) = [] →
 (isTab r = true) ∧
 Q false))) ∧
 ((r.all isPerm) = false →
 Q false))) ∧
 ((isTab r) = false →
 Q false))

def wp_spec_l03Is (r : List (List Int)) (Q : Bool → Prop) : Prop :=
 (small2 r) ∧
 (((isTab r) = false →
 Q false) ∧
 ((isTab r) = true →
 ∃ (H1 : Int → Prop) (m1 : Int → Nat),
 H1 0 ∧
 ∀ (v3_1 : Int), H1 v3_1 →
 ( ((v3_1 < (r.length : Int) →
 (0 ≤ v3_1 ∧ v3_1 < (r.length : Int)) ∧
 (small (el r v3_1)) ∧
 (((permB (el r v3_1)) = false →
 Q false) ∧
 ((permB (el r v3_1)) = true →
 (InI (v3_1 + 1)) ∧
 (H1 (v3_1 + 1) ∧ m1 (v3_1 + 1) < m1 v3_1)))) ∧
 (¬ (v3_1 < (r.length : Int)) →
 (isTab r = true) ∧
 Q (decide (((rackF r).length : Int) = 0)))))))

theorem p_k_Index (s : List Int) (v : Int) (hp : small s) : wp_k_Index s v (fun y0 => y0 = idxI s v) := by
  unfold wp_k_Index idxI
  refine ⟨fun i => 0 ≤ i ∧ i ≤ (s.length : Int) ∧ Upto i fun j => (el s j == v) = false, fun i => ((s.length : Int) - i).toNat, ⟨by omega, by omega, upto0⟩, ?_⟩
  rintro i ⟨h0, h1, hI⟩
  dsimp only
  refine ⟨fun hlt => ⟨⟨h0, hlt⟩, fun hf => (idxF_found ⟨h0, hlt⟩ hI (by simp [hf])).symm, fun ht => ⟨⟨by omega, by omega⟩, ⟨by omega, by omega, upto1 hI (by simpa using fun e => ht e.symm)⟩, by omega⟩⟩, fun hge => ?_⟩
  exact (idxF_none (by rwa [show i = (s.length : Int) by omega] at hI)).symm
theorem p_k_Contains (s : List Int) (v : Int) (hp : small s) : wp_k_Contains s v (fun y0 => y0 = s.contains v) := ⟨hp, idxI_has⟩
theorem p_k_Clone (s : List Int) (hp : small s) : wp_k_Clone s (fun y0 => y0 = s) := by
  unfold wp_k_Clone
  exact fun b hb => ⟨fun h => (hb h).symm, fun _ => ⟨by simp; omega, rfl⟩⟩
theorem p_spec_l01Same (a b : List Int) (hp : small a ∧ small b) : wp_spec_l01Same a b (fun y0 => y0 = decide (a = b)) := by
  unfold wp_spec_l01Same
  obtain ⟨ha, hb⟩ := hp
  refine ⟨fun h => (decide_eq_false fun e => h (by rw [e])).symm, fun h => ⟨fun i => 0 ≤ i ∧ i ≤ (a.length : Int) ∧ Upto i fun j => el a j = el b j, fun i => ((a.length : Int) - i).toNat, ⟨by omega, by omega, upto0⟩, ?_⟩⟩
  rintro i ⟨h0, h1, hI⟩
  dsimp only
  refine ⟨fun hlt => ⟨⟨h0, hlt⟩, ⟨h0, by omega⟩, fun hf => (decide_eq_false fun e => hf (by rw [e])).symm, fun ht => ⟨⟨by omega, by omega⟩, ⟨by omega, by omega, upto1 hI ht⟩, by omega⟩⟩, fun hge => ?_⟩
  exact (decide_eq_true (ext_el (by omega) fun j h2 h3 => hI j h2 (by omega))).symm
theorem p_spec_l01Then (p q : List Int) (hp : small p ∧ ∀ x_ ∈ p, 0 ≤ x_ ∧ x_ < (q.length : Int)) : wp_spec_l01Then p q (fun y0 => y0 = p.map (el q)) := by
  unfold wp_spec_l01Then
  obtain ⟨h1, h2⟩ := hp
  refine ⟨fun i o => 0 ≤ i ∧ i ≤ (p.length : Int) ∧ o.length = i.toNat ∧ Upto i fun x => el o x = el q (el p x), fun i _ => ((p.length : Int) - i).toNat, ⟨by omega, by omega, by simp, upto0⟩, ?_⟩
  rintro i o ⟨i0, i1, il, iI⟩
  dsimp only
  refine ⟨fun ilt => ⟨⟨i0, ilt⟩, h2 _ (el_mem ⟨i0, ilt⟩), by simp; omega, ⟨by omega, by omega⟩, ⟨by omega, by omega, by simp; omega, app1 (f := fun x => el q (el p x)) (by omega) iI rfl⟩, by omega⟩, fun ige => ext_el (by simp; omega) fun j a b => ?_⟩
  rw [el_map ⟨a, by omega⟩]; exact iI j a (by omega)
theorem p_spec_l01Back (p : List Int) (hp : small p ∧ isPerm p = true) : wp_spec_l01Back p (fun y0 => y0 = backI p) := by
  unfold wp_spec_l01Back
  obtain ⟨h1, h2⟩ := hp
  refine ⟨⟨by omega, h1⟩, fun i o => 0 ≤ i ∧ i ≤ (p.length : Int) ∧ o.length = p.length ∧ Upto i fun j => el o (el p j) = j, fun i _ => ((p.length : Int) - i).toNat, ⟨by omega, by omega, by simp, upto0⟩, ?_⟩
  rintro i o ⟨h0, h3, hl, hI⟩
  dsimp only
  refine ⟨fun hlt => ?_, fun hge => backI_uniq h2 hl fun j a b => hI j a (by omega)⟩
  have hb := isPerm_el h2 ⟨h0, hlt⟩
  refine ⟨⟨h0, hlt⟩, ⟨hb.1, by omega⟩, ⟨by omega, by omega⟩, ⟨by omega, by omega, by simp [hl], upto1 (fun j a b => ?_) (by rw [el_se_same ⟨hb.1, by omega⟩])⟩, by omega⟩
  have hj := isPerm_el h2 (i := j) ⟨a, by omega⟩
  rw [el_se_ne hb.1 hj.1 fun e => by have := isPerm_inj h2 ⟨h0, hlt⟩ ⟨a, by omega⟩ e; omega]
  exact hI j a b
theorem p_impl_permutationRows_1 (row : List Int) (hp : small row) : wp_impl_permutationRows_1 row (fun y0 => y0 = !isPerm row) := ⟨hp, rfl⟩
theorem p_impl_permutationRows (t : List (List Int)) (hp : small2 t) : wp_impl_permutationRows t (fun y0 => y0 = t.all isPerm) := by
  refine ⟨⟨hp.1, hp.2⟩, ?_⟩
  rw [List.not_any_eq_all_not]; simp
theorem p_impl_increasing (list : List Int) (hp : small list) : wp_impl_increasing list (fun y0 => y0 = incB list) := by
  unfold wp_impl_increasing
  refine ⟨fun i => 1 ≤ i ∧ (i ≤ (list.length : Int) ∨ i = 1) ∧ ∀ j, 0 ≤ j → j + 1 < i → el list j < el list (j + 1), fun i => ((list.length : Int) - i).toNat, ⟨by omega, by omega, fun j _ _ => by omega⟩, ?_⟩
  rintro i ⟨h0, h3, hI⟩
  dsimp only
  refine ⟨fun hlt => ⟨⟨by omega, by omega⟩, ⟨by omega, by omega⟩, ⟨by omega, hlt⟩, fun hf => ?_, fun ht => ⟨⟨by omega, by omega⟩, ⟨by omega, by omega, fun j a b => ?_⟩, by omega⟩⟩, fun hge => ?_⟩
  · symm; rw [Bool.eq_false_iff]; intro hc
    have := incB_iff.1 hc (i - 1) (by omega) (by omega)
    rw [show i - 1 + 1 = i by omega] at this
    omega
  · by_cases e : j + 1 = i
    · have e2 : j = i - 1 := by omega
      subst e2
      rw [show i - 1 + 1 = i by omega]; omega
    · exact hI j a (by omega)
  · exact (incB_iff.2 fun j a b => hI j a (by omega)).symm
theorem p_impl_areElements (n : Int) (list : List Int) (hp : small list ∧ 0 ≤ n ∧ n ≤ 1000000000) : wp_impl_areElements n list (fun y0 => y0 = list.all (fun z_ => decide (0 ≤ z_) && decide (z_ ≤ n - 1))) := ⟨⟨by omega, by omega⟩, hp.1, rfl⟩
theorem p_spec_l04Elements (n : Int) (list : List Int) (hp : small list ∧ 0 ≤ n ∧ n ≤ 1000000000) : wp_spec_l04Elements n list (fun y0 => y0 = list.all (fun z_ => decide (0 ≤ z_) && decide (z_ ≤ n - 1))) := by
  unfold wp_spec_l04Elements
  obtain ⟨h1, h2, h3⟩ := hp
  refine ⟨fun i => 0 ≤ i ∧ i ≤ (list.length : Int) ∧ Upto i fun j => (decide (0 ≤ el list j) && decide (el list j ≤ n - 1)) = true, fun i => ((list.length : Int) - i).toNat, ⟨by omega, by omega, upto0⟩, ?_⟩
  rintro i ⟨h0, h4, hI⟩
  dsimp only
  refine ⟨fun hlt => ⟨⟨h0, hlt⟩, ⟨by omega, by omega⟩, fun hf => (all_f ⟨h0, hlt⟩ hf).symm, fun ht => ⟨⟨by omega, by omega⟩, ⟨by omega, by omega, upto1 hI ht⟩, by omega⟩⟩, fun hge => ?_⟩
  exact (all_t (by rwa [show i = (list.length : Int) by omega] at hI)).symm
theorem p_spec_l03Fault (t : List (List Int)) (hp : isTab t = true) : wp_spec_l03Fault t (fun y0 => y0 = rackF t) := by
  unfold wp_spec_l03Fault rackF
  have hn := isTab_len hp
  have tr := fun (i : Int) (hi : 0 ≤ i ∧ i < (t.length : Int)) => isTab_row hp hi
  refine ⟨fun x => 0 ≤ x ∧ x ≤ (t.length : Int) ∧ Upto x fun a => ∀ b, 0 ≤ b → b < (t.length : Int) → ∀ c, 0 ≤ c → c < (t.length : Int) → rackB t a b c = false, fun x => ((t.length : Int) - x).toNat, ⟨by omega, by omega, upto0⟩, ?_⟩
  rintro x ⟨x0, x1, xI⟩
  dsimp only
  refine ⟨fun xlt => ?_, fun xge => (first3_none fun a h1 h2 => xI a h1 (by omega)).symm⟩
  refine ⟨fun y => 0 ≤ y ∧ y ≤ (t.length : Int) ∧ Upto y fun b => ∀ c, 0 ≤ c → c < (t.length : Int) → rackB t x b c = false, fun y => ((t.length : Int) - y).toNat, ⟨by omega, by omega, upto0⟩, ?_⟩
  rintro y ⟨y0, y1, yI⟩
  dsimp only
  refine ⟨fun ylt => ?_, fun yge => ⟨⟨by omega, by omega⟩, ⟨by omega, by omega, upto1 xI fun b h1 h2 => yI b h1 (by omega)⟩, by omega⟩⟩
  refine ⟨fun z => 0 ≤ z ∧ z ≤ (t.length : Int) ∧ Upto z fun c => rackB t x y c = false, fun z => ((t.length : Int) - z).toNat, ⟨by omega, by omega, upto0⟩, ?_⟩
  rintro z ⟨z0, z1, zI⟩
  dsimp only
  refine ⟨fun zlt => ?_, fun zge => ⟨⟨by omega, by omega⟩, ⟨by omega, by omega, upto1 yI fun c h1 h2 => zI c h1 (by omega)⟩, by omega⟩⟩
  have hx := tr x ⟨x0, xlt⟩
  have hy := tr y ⟨y0, ylt⟩
  have xy := hx.2 y y0 ylt
  have xz := hx.2 z z0 zlt
  have yz := hy.2 z z0 zlt
  have r1 := tr _ xy
  refine ⟨⟨x0, xlt⟩, ⟨y0, ylt⟩, ⟨x0, xlt⟩, ⟨x0, xlt⟩, ⟨z0, by omega⟩, ⟨yz.1, by omega⟩, ⟨y0, by omega⟩, xy, ⟨z0, by omega⟩, ⟨xz.1, by omega⟩, fun h => ?_, fun h => ⟨⟨by omega, by omega⟩, ⟨by omega, by omega, upto1 zI (by simp [rackB, h])⟩, by omega⟩⟩
  exact (first3_found ⟨x0, xlt⟩ ⟨y0, ylt⟩ ⟨z0, zlt⟩ (by simp [rackB, h]) xI yI zI).symm
theorem p_impl_rackFault (t : List (List Int)) (hp : isTab t = true) : wp_impl_rackFault t (fun y0 => y0 = rackF t) := p_spec_l03Fault t hp
theorem isEmpty_iff_nil {l : List Int} : l.isEmpty = decide ((l.length : Int) = 0) := by cases l <;> simp; omega
theorem p_impl_IsRack (r : List (List Int)) (hp : small2 r) : wp_impl_IsRack r (fun y0 => y0 = isRk r) := by
  unfold wp_impl_IsRack isRk
  refine ⟨hp, fun h => ⟨hp, fun h2 => ⟨fun h3 => ⟨h, ?_⟩, fun h3 => ⟨h, ?_⟩⟩, fun h2 => ?_⟩, fun h => ?_⟩
  · rw [h, h2, h3]; rfl
  · rw [h, h2]; cases e : rackF r with
    | nil => exact absurd e h3
    | cons x l => rfl
  · rw [h, h2]; rfl
  · rw [h]; rfl
theorem p_spec_l03Is (r : List (List Int)) (hp : small2 r) : wp_spec_l03Is r (fun y0 => y0 = isRk r) := by
  unfold wp_spec_l03Is isRk
  refine ⟨hp, fun h => by rw [h]; rfl, fun h => ?_⟩
  rw [h, ← isTab_perm h, isEmpty_iff_nil]
  refine ⟨fun i => 0 ≤ i ∧ i ≤ (r.length : Int) ∧ Upto i fun j => permB (el r j) = true, fun i => ((r.length : Int) - i).toNat, ⟨by omega, by omega, upto0⟩, ?_⟩
  rintro i ⟨h0, h3, hI⟩
  dsimp only
  refine ⟨fun hlt => ⟨⟨h0, hlt⟩, hp.2 _ (el_mem ⟨h0, hlt⟩), fun hf => by rw [all_f ⟨h0, hlt⟩ hf]; rfl, fun ht => ⟨⟨by have := isTab_len h; omega, by have := isTab_len h; omega⟩, ⟨by omega, by omega, upto1 hI ht⟩, by omega⟩⟩, fun hge => ⟨rfl, ?_⟩⟩
  rw [all_t (by rwa [show i = (r.length : Int) by omega] at hI)]; rfl
set_option maxRecDepth 100000 in
set_option maxHeartbeats 4000000 in
theorem w_k_Index (s : List Int) (v : Int) (Q : Int → Prop) (h : wp_k_Index s v Q) : AF Try.prog 90 [.lst (ints s), ci v] (fun R_ => ∃ y0, Q y0 ∧ R_ = ci y0) := by
  refine AF.ofWQ (af_enter (n := 19) Try.func90 rfl (by rfl) rfl (Nat.le_of_ble_eq_true rfl) ?_)
  unfold wp_k_Index at h
  refine aw_seq ?_
  refine aw_gh (gh_to (n := 19) (σ' := []) (env' := [(0, .c (.lst (ints s))), (1, .c (ci v))]) rfl rfl ⟨rfl, rfl, trivial⟩) ?_
  refine aw_region ?_
  refine run_s (ss_assign rfl) rfl ?_
  refine run_nil ?_
  refine aw_seq ?_
  refine aw_seq ?_
  refine aw_region ?_
  refine run_s (ss_move rfl) rfl ?_
  refine run_s (ss_lenL (f := ci) rfl) rfl ?_
  refine run_s (ss_move rfl) rfl ?_
  refine run_nil ?_
  refine aw_block ?_
  obtain ⟨H1, m1, q1, h⟩ := h
  refine aw_loop1 (fun (v8_1 : Int) => ⟨[], [(0, .c (.lst (ints s))), (1, .c (ci v)), (7, .c (ci (s.length : Int))), (8, .c (ci v8_1))], 19⟩) H1 m1 ⟨0, ghe_to (n := 19) rfl rfl ⟨rfl, rfl, rfl, rfl, trivial⟩, q1⟩ ?_
  rintro v8_1 q1
  replace h := h v8_1 q1
  refine aw_seq ?_
  refine aw_region ?_
  refine run_s (ss_lss rfl rfl) rfl ?_
  refine run_nil ?_
  refine aw_seq ?_
  refine aw_cond rfl (fun q2 => ?_) (fun q2 => ?_)
  · replace h := h.1 (of_decide_eq_true q2)
    refine aw_skip ?_
    refine aw_seq ?_
    refine aw_block ?_
    refine aw_seq ?_
    refine aw_region ?_
    refine run_s (ss_move rfl) rfl ?_
    refine run_s (ss_assign rfl) rfl ?_
    refine run_nil ?_
    refine aw_seq ?_
    refine aw_region ?_
    refine run_s (ss_move rfl) rfl ?_
    refine run_s (ss_move rfl) rfl ?_
    refine run_s (ss_move rfl) rfl ?_
    obtain ⟨q3, h⟩ := h
    refine run_s (ss_idxL rfl rfl q3) rfl ?_
    refine run_s (ss_loadL (f := ci) rfl q3) rfl ?_
    refine run_s (ss_eql rfl rfl) rfl ?_
    refine run_nil ?_
    refine aw_cond rfl (fun q4 => ?_) (fun q4 => ?_)
    · replace h := h.1 (of_decide_eq_true q4)
      refine aw_seq ?_
      refine aw_gh (gh_to (n := 19) (σ' := []) (env' := [(5, .c (ci v8_1))]) rfl rfl ⟨rfl, trivial⟩) ?_
      refine aw_region ?_
      refine run_s (ss_move rfl) rfl ?_
      refine run_s (ss_assign rfl) rfl ?_
      refine run_nil ?_
      refine aw_ret ?_
      exact retAF_mk (retv1 rfl (rv_tmp rfl)) rfl rfl ⟨_, (cle_refl _), _, h, rfl⟩
    · replace h := h.2 (of_decide_eq_false q4)
      refine aw_skip ?_
      refine aw_gh (gh_to (n := 19) (σ' := []) (env' := [(0, .c (.lst (ints s))), (1, .c (ci v)), (7, .c (ci (s.length : Int))), (8, .c (ci v8_1))]) rfl rfl ⟨rfl, rfl, rfl, rfl, trivial⟩) ?_
      refine aw_region ?_
      obtain ⟨q5, h⟩ := h
      refine run_s (ss_add rfl rfl q5) rfl ?_
      refine run_s (ss_move rfl) rfl ?_
      refine run_nil ?_
      exact ⟨v8_1 + 1, ghe_to (n := 19) rfl rfl ⟨rfl, rfl, rfl, rfl, trivial⟩, h.1, h.2⟩
  · replace h := h.2 (of_decide_eq_false q2)
    refine aw_exit ?_
    refine aw_seq ?_
    refine aw_gh (gh_to (n := 19) (σ' := []) (env' := []) rfl rfl trivial) ?_
    refine aw_region ?_
    refine run_s (ss_assign rfl) rfl ?_
    refine run_nil ?_
    refine aw_ret ?_
    exact retAF_mk (retv1 rfl (rv_tmp rfl)) rfl rfl ⟨_, (cle_refl _), _, h, rfl⟩

theorem c_k_Index (s : List Int) (v : Int) (hp : small s) : AF Try.prog 90 [.lst (ints s), ci v] (fun R_ => R_ = ci (idxI s v)) :=
  (w_k_Index s v (fun y0 => y0 = idxI s v) (p_k_Index s v hp)).mono (by rintro r ⟨_, rfl, rfl⟩; rfl)

set_option maxRecDepth 100000 in
set_option maxHeartbeats 4000000 in
theorem w_k_Contains (s : List Int) (v : Int) (Q : Bool → Prop) (h : wp_k_Contains s v Q) : AF Try.prog 81 [.lst (ints s), ci v] (fun R_ => ∃ y0, Q y0 ∧ R_ = cb y0) := by
  refine AF.ofWQ (af_enter (n := 9) Try.func81 rfl (by rfl) rfl (Nat.le_of_ble_eq_true rfl) ?_)
  unfold wp_k_Contains at h
  refine aw_seq ?_
  refine aw_gh (gh_to (n := 9) (σ' := []) (env' := [(0, .c (.lst (ints s))), (1, .c (ci v))]) rfl rfl ⟨rfl, rfl, trivial⟩) ?_
  refine aw_region ?_
  refine run_s (ss_assign rfl) rfl ?_
  refine run_nil ?_
  refine aw_seq ?_
  refine aw_region ?_
  refine run_s (ss_move rfl) rfl ?_
  refine run_s (ss_move rfl) rfl ?_
  obtain ⟨q1, h⟩ := h
  refine run_w (ws_call (xs := [.tmp 5, .tmp 6]) (ids := []) rfl rfl rfl rfl (c_k_Index s v q1) rfl ?_ )
  rintro _ rfl
  refine ⟨rfl, ?_⟩
  refine run_s (ss_geq rfl rfl) rfl ?_
  refine run_s (ss_assign rfl) rfl ?_
  refine run_nil ?_
  refine aw_ret ?_
  exact retAF_mk (retv1 rfl (rv_tmp rfl)) rfl rfl ⟨_, (cle_refl _), _, h, rfl⟩

theorem c_k_Contains (s : List Int) (v : Int) (hp : small s) : AF Try.prog 81 [.lst (ints s), ci v] (fun R_ => R_ = cb (s.contains v)) :=
  (w_k_Contains s v (fun y0 => y0 = s.contains v) (p_k_Contains s v hp)).mono (by rintro r ⟨_, rfl, rfl⟩; rfl)

set_option maxRecDepth 100000 in
set_option maxHeartbeats 4000000 in
theorem w_k_Clone (s : List Int) (Q : List Int → Prop) (h : wp_k_Clone s Q) : AF Try.prog 78 [.lst (ints s)] (fun R_ => ∃ y0, Q y0 ∧ R_ = .own (ints y0)) := by
  refine AF.ofWQ (af_enter (n := 8) Try.func78 rfl (by rfl) rfl (Nat.le_of_ble_eq_true rfl) ?_)
  unfold wp_k_Clone at h
  refine aw_seq ?_
  refine aw_gh (gh_to (n := 8) (σ' := []) (env' := [(0, .c (.lst (ints s)))]) rfl rfl ⟨rfl, trivial⟩) ?_
  refine aw_region ?_
  refine run_s (ss_assign rfl) rfl ?_
  refine run_nil ?_
  refine aw_seq ?_
  refine aw_seq ?_
  refine aw_region ?_
  refine run_s (ss_move rfl) rfl ?_
  refine run_w (ws_eqlNilL (f := ci) rfl rfl ?_ )
  intro b1 q1
  replace h := h b1 q1
  refine ⟨rfl, ?_⟩
  refine run_nil ?_
  refine aw_cond rfl (fun q2 => ?_) (fun q2 => ?_)
  · replace h := h.1 (q2)
    refine aw_seq ?_
    refine aw_gh (gh_to (n := 8) (σ' := []) (env' := [(2, .c (cnil))]) rfl rfl ⟨rfl, trivial⟩) ?_
    refine aw_region ?_
    refine run_s (ss_assign rfl) rfl ?_
    refine run_nil ?_
    refine aw_ret ?_
    exact retAF_mk (retv1 rfl (rv_tmp rfl)) rfl rfl ⟨_, cle_nilO, _, h, rfl⟩
  · replace h := h.2 (q2)
    refine aw_skip ?_
    refine aw_seq ?_
    refine aw_region ?_
    refine run_w (ws_buildSlice (id := 5) (ps := []) rfl rfl (Nat.le_of_ble_eq_true rfl) rfl ⟨rfl, ?_⟩)
    refine run_s (ss_move rfl) rfl ?_
    obtain ⟨q3, h⟩ := h
    refine run_w (ws_appL ci (l := ([] : List Int)) (m := s) rfl rfl rfl (Nat.le_of_ble_eq_true rfl) q3 ⟨rfl, ?_⟩)
    refine run_s (ss_assign rfl) rfl ?_
    refine run_nil ?_
    refine aw_ret ?_
    exact retAF_mk (retv1 rfl (rv_tmp rfl)) rfl rfl ⟨_, (cle_refl _), _, h, rfl⟩

theorem c_k_Clone (s : List Int) (hp : small s) : AF Try.prog 78 [.lst (ints s)] (fun R_ => R_ = .own (ints s)) :=
  (w_k_Clone s (fun y0 => y0 = s) (p_k_Clone s hp)).mono (by rintro r ⟨_, rfl, rfl⟩; rfl)

set_option maxRecDepth 100000 in
set_option maxHeartbeats 4000000 in
theorem w_spec_l01Same (a : List Int) (b : List Int) (Q : Bool → Prop) (h : wp_spec_l01Same a b Q) : AF Try.prog 200 [.lst (ints a), .lst (ints b)] (fun R_ => ∃ y0, Q y0 ∧ R_ = cb y0) := by
  refine AF.ofWQ (af_enter (n := 26) Try.func200 rfl (by rfl) rfl (Nat.le_of_ble_eq_true rfl) ?_)
  unfold wp_spec_l01Same at h
  refine aw_seq ?_
  refine aw_gh (gh_to (n := 26) (σ' := []) (env' := [(0, .c (.lst (ints a))), (1, .c (.lst (ints b)))]) rfl rfl ⟨rfl, rfl, trivial⟩) ?_
  refine aw_region ?_
  refine run_s (ss_assign rfl) rfl ?_
  refine run_nil ?_
  refine aw_seq ?_
  refine aw_seq ?_
  refine aw_region ?_
  refine run_s (ss_move rfl) rfl ?_
  refine run_s (ss_lenL (f := ci) rfl) rfl ?_
  refine run_s (ss_move rfl) rfl ?_
  refine run_s (ss_lenL (f := ci) rfl) rfl ?_
  refine run_s (ss_neq rfl rfl) rfl ?_
  refine run_nil ?_
  refine aw_cond rfl (fun q1 => ?_) (fun q1 => ?_)
  · replace h := h.1 (of_decide_eq_false (bnot_t q1))
    refine aw_seq ?_
    refine aw_gh (gh_to (n := 26) (σ' := []) (env' := [(4, .c (cb false))]) rfl rfl ⟨rfl, trivial⟩) ?_
    refine aw_region ?_
    refine run_s (ss_assign rfl) rfl ?_
    refine run_nil ?_
    refine aw_ret ?_
    exact retAF_mk (retv1 rfl (rv_tmp rfl)) rfl rfl ⟨_, (cle_refl _), _, h, rfl⟩
  · replace h := h.2 (of_decide_eq_true (bnot_f q1))
    refine aw_skip ?_
    refine aw_seq ?_
    refine aw_seq ?_
    refine aw_gh (gh_to (n := 26) (σ' := []) (env' := [(0, .c (.lst (ints a))), (1, .c (.lst (ints b)))]) rfl rfl ⟨rfl, rfl, trivial⟩) ?_
    refine aw_region ?_
    refine run_s (ss_assign rfl) rfl ?_
    refine run_nil ?_
    refine aw_block ?_
    obtain ⟨H1, m1, q2, h⟩ := h
    refine aw_loop1 (fun (v5_1 : Int) => ⟨[], [(0, .c (.lst (ints a))), (1, .c (.lst (ints b))), (5, .c (ci v5_1))], 26⟩) H1 m1 ⟨0, ghe_to (n := 26) rfl rfl ⟨rfl, rfl, rfl, trivial⟩, q2⟩ ?_
    rintro v5_1 q2
    replace h := h v5_1 q2
    refine aw_seq ?_
    refine aw_seq ?_
    refine aw_region ?_
    refine run_s (ss_move rfl) rfl ?_
    refine run_s (ss_move rfl) rfl ?_
    refine run_s (ss_lenL (f := ci) rfl) rfl ?_
    refine run_s (ss_lss rfl rfl) rfl ?_
    refine run_nil ?_
    refine aw_cond rfl (fun q3 => ?_) (fun q3 => ?_)
    · replace h := h.1 (of_decide_eq_true q3)
      refine aw_skip ?_
      refine aw_seq ?_
      refine aw_block ?_
      refine aw_seq ?_
      refine aw_gh (gh_to (n := 26) (σ' := []) (env' := [(0, .c (.lst (ints a))), (1, .c (.lst (ints b))), (5, .c (ci v5_1))]) rfl rfl ⟨rfl, rfl, rfl, trivial⟩) ?_
      refine aw_regionD (kd := kdl [0, 0, 0, 1, 0, 0, 0, 1, 0]) (ord := [0, 1, 2, 4, 5, 6, 3, 7, 8]) [] mixed (by kernel_rfl) ?_
      refine rd_s rfl rfl trivial (ss_move rfl) rfl ?_
      refine rd_s rfl rfl trivial (ss_move rfl) rfl ?_
      obtain ⟨q4, h⟩ := h
      refine rd_s rfl rfl trivial (ss_idxL rfl rfl q4) rfl ?_
      refine rd_s rfl rfl trivial (ss_move rfl) rfl ?_
      refine rd_s rfl rfl trivial (ss_move rfl) rfl ?_
      obtain ⟨q5, h⟩ := h
      refine rd_s rfl rfl trivial (ss_idxL rfl rfl q5) rfl ?_
      refine rd_l rfl rfl trivial (ss_loadL (f := ci) rfl q4) rfl ?_
      refine rd_l rfl rfl trivial (ss_loadL (f := ci) rfl q5) rfl ?_
      refine rd_s rfl rfl trivial (ss_neq rfl rfl) rfl ?_
      refine rd_nil ?_
      refine aw_cond rfl (fun q6 => ?_) (fun q6 => ?_)
      · replace h := h.1 (of_decide_eq_false (bnot_t q6))
        refine aw_seq ?_
        refine aw_gh (gh_to (n := 26) (σ' := []) (env' := []) rfl rfl trivial) ?_
        refine aw_region ?_
        refine run_s (ss_assign rfl) rfl ?_
        refine run_nil ?_
        refine aw_ret ?_
        exact retAF_mk (retv1 rfl (rv_tmp rfl)) rfl rfl ⟨_, (cle_refl _), _, h, rfl⟩
      · replace h := h.2 (of_decide_eq_true (bnot_f q6))
        refine aw_skip ?_
        refine aw_gh (gh_to (n := 26) (σ' := []) (env' := [(0, .c (.lst (ints a))), (1, .c (.lst (ints b))), (5, .c (ci v5_1))]) rfl rfl ⟨rfl, rfl, rfl, trivial⟩) ?_
        refine aw_region ?_
        refine run_s (ss_move rfl) rfl ?_
        obtain ⟨q7, h⟩ := h
        refine run_s (ss_add rfl rfl q7) rfl ?_
        refine run_s (ss_assign rfl) rfl ?_
        refine run_nil ?_
        exact ⟨v5_1 + 1, ghe_to (n := 26) rfl rfl ⟨rfl, rfl, rfl, trivial⟩, h.1, h.2⟩
    · replace h := h.2 (of_decide_eq_false q3)
      refine aw_exit ?_
      refine aw_seq ?_
      refine aw_gh (gh_to (n := 26) (σ' := []) (env' := []) rfl rfl trivial) ?_
      refine aw_region ?_
      refine run_s (ss_assign rfl) rfl ?_
      refine run_nil ?_
      refine aw_ret ?_
      exact retAF_mk (retv1 rfl (rv_tmp rfl)) rfl rfl ⟨_, (cle_refl _), _, h, rfl⟩

theorem c_spec_l01Same (a : List Int) (b : List Int) (hp : small a ∧ small b) : AF Try.prog 200 [.lst (ints a), .lst (ints b)] (fun R_ => R_ = cb (decide (a = b))) :=
  (w_spec_l01Same a b (fun y0 => y0 = decide (a = b)) (p_spec_l01Same a b hp)).mono (by rintro r ⟨_, rfl, rfl⟩; rfl)

set_option maxRecDepth 100000 in
set_option maxHeartbeats 4000000 in
theorem w_spec_l01Then (p : List Int) (q : List Int) (Q : List Int → Prop) (h : wp_spec_l01Then p q Q) : AF Try.prog 207 [.lst (ints p), .lst (ints q)] (fun R_ => ∃ y0, Q y0 ∧ R_ = .own (ints y0)) := by
  refine AF.ofWQ (af_enter (n := 25) Try.func207 rfl (by rfl) rfl (Nat.le_of_ble_eq_true rfl) ?_)
  unfold wp_spec_l01Then at h
  refine aw_seq ?_
  refine aw_gh (gh_to (n := 25) (σ' := []) (env' := [(0, .c (.lst (ints p))), (1, .c (.lst (ints q)))]) rfl rfl ⟨rfl, rfl, trivial⟩) ?_
  refine aw_region ?_
  refine run_s (ss_assign rfl) rfl ?_
  refine run_nil ?_
  refine aw_seq ?_
  refine aw_region ?_
  refine run_w (ws_buildSlice (id := 7) (ps := []) rfl rfl (Nat.le_of_ble_eq_true rfl) rfl ⟨rfl, ?_⟩)
  refine run_s (ss_assign rfl) rfl ?_
  refine run_nil ?_
  refine aw_seq ?_
  refine aw_seq ?_
  refine aw_region ?_
  refine run_s (ss_assign rfl) rfl ?_
  refine run_nil ?_
  refine aw_block ?_
  obtain ⟨H1, m1, q1, h⟩ := h
  refine aw_loop2 (fun (v6_1 : Int) (o7_1 : List Int) => ⟨[(7, ⟨ints o7_1, []⟩)], [(0, .c (.lst (ints p))), (1, .c (.lst (ints q))), (5, .ref 7), (6, .c (ci v6_1))], 25⟩) H1 m1 ⟨0, ([] : List Int), ghe_to (n := 25) rfl rfl ⟨rfl, rfl, rfl, rfl, trivial⟩, q1⟩ ?_
  rintro v6_1 o7_1 q1
  replace h := h v6_1 o7_1 q1
  refine aw_seq ?_
  refine aw_seq ?_
  refine aw_region ?_
  refine run_s (ss_move rfl) rfl ?_
  refine run_s (ss_move rfl) rfl ?_
  refine run_s (ss_lenL (f := ci) rfl) rfl ?_
  refine run_s (ss_lss rfl rfl) rfl ?_
  refine run_nil ?_
  refine aw_cond rfl (fun q2 => ?_) (fun q2 => ?_)
  · replace h := h.1 (of_decide_eq_true q2)
    refine aw_skip ?_
    refine aw_seq ?_
    refine aw_block ?_
    refine aw_region ?_
    refine run_s (ss_move rfl) rfl ?_
    refine run_s (ss_move rfl) rfl ?_
    refine run_s (ss_move rfl) rfl ?_
    refine run_s (ss_move rfl) rfl ?_
    obtain ⟨q3, h⟩ := h
    refine run_s (ss_idxL rfl rfl q3) rfl ?_
    refine run_s (ss_loadL (f := ci) rfl q3) rfl ?_
    obtain ⟨q4, h⟩ := h
    refine run_s (ss_idxL rfl rfl q4) rfl ?_
    refine run_s (ss_loadL (f := ci) rfl q4) rfl ?_
    refine run_w (ws_buildSlice (id := 22) (ps := [(0, .tmp 21)]) rfl rfl (Nat.le_of_ble_eq_true rfl) rfl ⟨rfl, ?_⟩)
    obtain ⟨q5, h⟩ := h
    refine run_w (ws_app1 ci (l := o7_1) (m := [el q (el p v6_1)]) rfl rfl rfl rfl rfl (Nat.le_of_ble_eq_true rfl) q5 ⟨rfl, ?_⟩)
    refine run_s (ss_assign rfl) rfl ?_
    refine run_nil ?_
    refine aw_gh (gh_to (n := 25) (σ' := [(7, ⟨ints (o7_1 ++ ([el q (el p v6_1)])), []⟩)]) (env' := [(0, .c (.lst (ints p))), (1, .c (.lst (ints q))), (5, .ref 7), (6, .c (ci v6_1))]) rfl rfl ⟨rfl, rfl, rfl, rfl, trivial⟩) ?_
    refine aw_region ?_
    refine run_s (ss_move rfl) rfl ?_
    obtain ⟨q6, h⟩ := h
    refine run_s (ss_add rfl rfl q6) rfl ?_
    refine run_s (ss_assign rfl) rfl ?_
    refine run_nil ?_
    exact ⟨v6_1 + 1, o7_1 ++ ([el q (el p v6_1)]), ghe_to (n := 25) rfl rfl ⟨rfl, rfl, rfl, rfl, trivial⟩, h.1, h.2⟩
  · replace h := h.2 (of_decide_eq_false q2)
    refine aw_exit ?_
    refine aw_seq ?_
    refine aw_gh (gh_to (n := 25) (σ' := [(7, ⟨ints o7_1, []⟩)]) (env' := [(5, .ref 7)]) rfl rfl ⟨rfl, trivial⟩) ?_
    refine aw_region ?_
    refine run_s (ss_move rfl) rfl ?_
    refine run_s (ss_assign rfl) rfl ?_
    refine run_nil ?_
    refine aw_ret ?_
    exact retAF_mk (retv1 rfl (rv_tmp rfl)) rfl rfl ⟨_, (cle_refl _), _, h, rfl⟩

theorem c_spec_l01Then (p : List Int) (q : List Int) (hp : small p ∧ ∀ x_ ∈ p, 0 ≤ x_ ∧ x_ < (q.length : Int)) : AF Try.prog 207 [.lst (ints p), .lst (ints q)] (fun R_ => R_ = .own (ints (p.map (el q)))) :=
  (w_spec_l01Then p q (fun y0 => y0 = p.map (el q)) (p_spec_l01Then p q hp)).mono (by rintro r ⟨_, rfl, rfl⟩; rfl)

set_option maxRecDepth 100000 in
set_option maxHeartbeats 4000000 in
theorem w_spec_l01Back (p : List Int) (Q : List Int → Prop) (h : wp_spec_l01Back p Q) : AF Try.prog 178 [.lst (ints p)] (fun R_ => ∃ y0, Q y0 ∧ R_ = .own (ints y0)) := by
  refine AF.ofWQ (af_enter (n := 22) Try.func178 rfl (by rfl) rfl (Nat.le_of_ble_eq_true rfl) ?_)
  unfold wp_spec_l01Back at h
  refine aw_seq ?_
  refine aw_gh (gh_to (n := 22) (σ' := []) (env' := [(0, .c (.lst (ints p)))]) rfl rfl ⟨rfl, trivial⟩) ?_
  refine aw_region ?_
  refine run_s (ss_assign rfl) rfl ?_
  refine run_nil ?_
  refine aw_seq ?_
  refine aw_region ?_
  refine run_s (ss_move rfl) rfl ?_
  refine run_s (ss_lenL (f := ci) rfl) rfl ?_
  obtain ⟨q1, h⟩ := h
  refine run_w (ws_mk (id := 7) ci (0 : Int) rfl rfl rfl q1 (Nat.le_of_ble_eq_true rfl) rfl ⟨rfl, ?_⟩)
  refine run_s (ss_assign rfl) rfl ?_
  refine run_nil ?_
  refine aw_seq ?_
  refine aw_seq ?_
  refine aw_gh (gh_to (n := 22) (σ' := [(7, ⟨ints (List.replicate (p.length : Int).toNat (0 : Int)), []⟩)]) (env' := [(0, .c (.lst (ints p))), (3, .ref 7)]) rfl rfl ⟨rfl, rfl, trivial⟩) ?_
  refine aw_region ?_
  refine run_s (ss_assign rfl) rfl ?_
  refine run_nil ?_
  refine aw_block ?_
  obtain ⟨H1, m1, q2, h⟩ := h
  refine aw_loop2 (fun (v4_1 : Int) (o7_1 : List Int) => ⟨[(7, ⟨ints o7_1, []⟩)], [(0, .c (.lst (ints p))), (3, .ref 7), (4, .c (ci v4_1))], 22⟩) H1 m1 ⟨0, List.replicate (p.length : Int).toNat (0 : Int), ghe_to (n := 22) rfl rfl ⟨rfl, rfl, rfl, trivial⟩, q2⟩ ?_
  rintro v4_1 o7_1 q2
  replace h := h v4_1 o7_1 q2
  refine aw_seq ?_
  refine aw_seq ?_
  refine aw_region ?_
  refine run_s (ss_move rfl) rfl ?_
  refine run_s (ss_move rfl) rfl ?_
  refine run_s (ss_lenL (f := ci) rfl) rfl ?_
  refine run_s (ss_lss rfl rfl) rfl ?_
  refine run_nil ?_
  refine aw_cond rfl (fun q3 => ?_) (fun q3 => ?_)
  · replace h := h.1 (of_decide_eq_true q3)
    refine aw_skip ?_
    refine aw_seq ?_
    refine aw_block ?_
    refine aw_region ?_
    refine run_s (ss_move rfl) rfl ?_
    refine run_s (ss_move rfl) rfl ?_
    refine run_s (ss_move rfl) rfl ?_
    obtain ⟨q4, h⟩ := h
    refine run_s (ss_idxL rfl rfl q4) rfl ?_
    refine run_s (ss_loadL (f := ci) rfl q4) rfl ?_
    refine run_s (ss_move rfl) rfl ?_
    obtain ⟨q5, h⟩ := h
    refine run_s (ss_idxR (f := ci) rfl rfl rfl q5) rfl ?_
    refine run_w (ws_storeE rfl rfl (map_lt q5) rfl rfl (map_se (f := ci)) rfl ⟨rfl, ?_⟩)
    refine run_nil ?_
    refine aw_gh (gh_to (n := 22) (σ' := [(7, ⟨ints (se o7_1 (el p v4_1) v4_1), []⟩)]) (env' := [(0, .c (.lst (ints p))), (3, .ref 7), (4, .c (ci v4_1))]) rfl rfl ⟨rfl, rfl, rfl, trivial⟩) ?_
    refine aw_region ?_
    refine run_s (ss_move rfl) rfl ?_
    obtain ⟨q6, h⟩ := h
    refine run_s (ss_add rfl rfl q6) rfl ?_
    refine run_s (ss_assign rfl) rfl ?_
    refine run_nil ?_
    exact ⟨v4_1 + 1, se o7_1 (el p v4_1) v4_1, ghe_to (n := 22) rfl rfl ⟨rfl, rfl, rfl, trivial⟩, h.1, h.2⟩
  · replace h := h.2 (of_decide_eq_false q3)
    refine aw_exit ?_
    refine aw_seq ?_
    refine aw_gh (gh_to (n := 22) (σ' := [(7, ⟨ints o7_1, []⟩)]) (env' := [(3, .ref 7)]) rfl rfl ⟨rfl, trivial⟩) ?_
    refine aw_region ?_
    refine run_s (ss_move rfl) rfl ?_
    refine run_s (ss_assign rfl) rfl ?_
    refine run_nil ?_
    refine aw_ret ?_
    exact retAF_mk (retv1 rfl (rv_tmp rfl)) rfl rfl ⟨_, (cle_refl _), _, h, rfl⟩

theorem c_spec_l01Back (p : List Int) (hp : small p ∧ isPerm p = true) : AF Try.prog 178 [.lst (ints p)] (fun R_ => R_ = .own (ints (backI p))) :=
  (w_spec_l01Back p (fun y0 => y0 = backI p) (p_spec_l01Back p hp)).mono (by rintro r ⟨_, rfl, rfl⟩; rfl)

set_option maxRecDepth 100000 in
set_option maxHeartbeats 4000000 in
theorem w_impl_permutationRows_1 (row : List Int) (Q : Bool → Prop) (h : wp_impl_permutationRows_1 row Q) : AF Try.prog 153 [.lst (ints row)] (fun R_ => ∃ y0, Q y0 ∧ R_ = cb y0) := by
  refine AF.ofWQ (af_enter (n := 6) Try.func153 rfl (by rfl) rfl (Nat.le_of_ble_eq_true rfl) ?_)
  unfold wp_impl_permutationRows_1 at h
  refine aw_seq ?_
  refine aw_gh (gh_to (n := 6) (σ' := []) (env' := [(0, .c (.lst (ints row)))]) rfl rfl ⟨rfl, trivial⟩) ?_
  refine aw_region ?_
  refine run_s (ss_assign rfl) rfl ?_
  refine run_nil ?_
  refine aw_seq ?_
  refine aw_region ?_
  refine run_s (ss_move rfl) rfl ?_
  obtain ⟨q1, h⟩ := h
  refine run_w (ws_call (xs := [.tmp 3]) (ids := []) rfl rfl rfl rfl (c_impl_isPermuted row q1) rfl ?_ )
  rintro _ rfl
  refine ⟨rfl, ?_⟩
  refine run_s (ss_not rfl) rfl ?_
  refine run_s (ss_assign rfl) rfl ?_
  refine run_nil ?_
  refine aw_ret ?_
  exact retAF_mk (retv1 rfl (rv_tmp rfl)) rfl rfl ⟨_, (cle_refl _), _, h, rfl⟩

theorem c_impl_permutationRows_1 (row : List Int) (hp : small row) : AF Try.prog 153 [.lst (ints row)] (fun R_ => R_ = cb (!isPerm row)) :=
  (w_impl_permutationRows_1 row (fun y0 => y0 = !isPerm row) (p_impl_permutationRows_1 row hp)).mono (by rintro r ⟨_, rfl, rfl⟩; rfl)

set_option maxRecDepth 100000 in
set_option maxHeartbeats 4000000 in
theorem w_impl_permutationRows (t : List (List Int)) (Q : Bool → Prop) (h : wp_impl_permutationRows t Q) : AF Try.prog 92 [.lst (rows t)] (fun R_ => ∃ y0, Q y0 ∧ R_ = cb y0) := by
  refine AF.ofWQ (af_enter (n := 6) Try.func92 rfl (by rfl) rfl (Nat.le_of_ble_eq_true rfl) ?_)
  unfold wp_impl_permutationRows at h
  refine aw_seq ?_
  refine aw_gh (gh_to (n := 6) (σ' := []) (env' := [(0, .c (.lst (rows t)))]) rfl rfl ⟨rfl, trivial⟩) ?_
  refine aw_region ?_
  refine run_s (ss_assign rfl) rfl ?_
  refine run_nil ?_
  refine aw_seq ?_
  refine aw_region ?_
  refine run_s (ss_move rfl) rfl ?_
  obtain ⟨q1, h⟩ := h
  refine run_w (ws_call (xs := [.tmp 3, .func 153]) (ids := []) rfl rfl rfl rfl (c_k_ContainsFunc_rows t 153 [] (fun z0 => !isPerm z0) (fun z0 => small z0) (fun z0 hD => c_impl_permutationRows_1 z0 hD) q1) rfl ?_ )
  rintro _ rfl
  refine ⟨rfl, ?_⟩
  refine run_s (ss_not rfl) rfl ?_
  refine run_s (ss_assign rfl) rfl ?_
  refine run_nil ?_
  refine aw_ret ?_
  exact retAF_mk (retv1 rfl (rv_tmp rfl)) rfl rfl ⟨_, (cle_refl _), _, h, rfl⟩

theorem c_impl_permutationRows (t : List (List Int)) (hp : small2 t) : AF Try.prog 92 [.lst (rows t)] (fun R_ => R_ = cb (t.all isPerm)) :=
  (w_impl_permutationRows t (fun y0 => y0 = t.all isPerm) (p_impl_permutationRows t hp)).mono (by rintro r ⟨_, rfl, rfl⟩; rfl)

set_option maxRecDepth 100000 in
set_option maxHeartbeats 4000000 in
theorem w_impl_increasing (list : List Int) (Q : Bool → Prop) (h : wp_impl_increasing list Q) : AF Try.prog 86 [.lst (ints list)] (fun R_ => ∃ y0, Q y0 ∧ R_ = cb y0) := by
  refine AF.ofWQ (af_enter (n := 20) Try.func86 rfl (by rfl) rfl (Nat.le_of_ble_eq_true rfl) ?_)
  unfold wp_impl_increasing at h
  refine aw_seq ?_
  refine aw_gh (gh_to (n := 20) (σ' := []) (env' := [(0, .c (.lst (ints list)))]) rfl rfl ⟨rfl, trivial⟩) ?_
  refine aw_region ?_
  refine run_s (ss_assign rfl) rfl ?_
  refine run_nil ?_
  refine aw_seq ?_
  refine aw_seq ?_
  refine aw_region ?_
  refine run_s (ss_assign rfl) rfl ?_
  refine run_nil ?_
  refine aw_block ?_
  obtain ⟨H1, m1, q1, h⟩ := h
  refine aw_loop1 (fun (v3_1 : Int) => ⟨[], [(0, .c (.lst (ints list))), (3, .c (ci v3_1))], 20⟩) H1 m1 ⟨1, ghe_to (n := 20) rfl rfl ⟨rfl, rfl, trivial⟩, q1⟩ ?_
  rintro v3_1 q1
  replace h := h v3_1 q1
  refine aw_seq ?_
  refine aw_seq ?_
  refine aw_region ?_
  refine run_s (ss_move rfl) rfl ?_
  refine run_s (ss_move rfl) rfl ?_
  refine run_s (ss_lenL (f := ci) rfl) rfl ?_
  refine run_s (ss_lss rfl rfl) rfl ?_
  refine run_nil ?_
  refine aw_cond rfl (fun q2 => ?_) (fun q2 => ?_)
  · replace h := h.1 (of_decide_eq_true q2)
    refine aw_skip ?_
    refine aw_seq ?_
    refine aw_block ?_
    refine aw_seq ?_
    refine aw_gh (gh_to (n := 20) (σ' := []) (env' := [(0, .c (.lst (ints list))), (3, .c (ci v3_1))]) rfl rfl ⟨rfl, rfl, trivial⟩) ?_
    refine aw_regionD (kd := kdl [0, 0, 0, 0, 1, 0, 0, 0, 1, 0]) (ord := [0, 1, 2, 3, 5, 6, 7, 4, 8, 9]) [] mixed (by kernel_rfl) ?_
    refine rd_s rfl rfl trivial (ss_move rfl) rfl ?_
    refine rd_s rfl rfl trivial (ss_move rfl) rfl ?_
    obtain ⟨q3, h⟩ := h
    refine rd_s rfl rfl trivial (ss_sub rfl rfl q3) rfl ?_
    obtain ⟨q4, h⟩ := h
    refine rd_s rfl rfl trivial (ss_idxL rfl rfl q4) rfl ?_
    refine rd_s rfl rfl trivial (ss_move rfl) rfl ?_
    refine rd_s rfl rfl trivial (ss_move rfl) rfl ?_
    obtain ⟨q5, h⟩ := h
    refine rd_s rfl rfl trivial (ss_idxL rfl rfl q5) rfl ?_
    refine rd_l rfl rfl trivial (ss_loadL (f := ci) rfl q4) rfl ?_
    refine rd_l rfl rfl trivial (ss_loadL (f := ci) rfl q5) rfl ?_
    refine rd_s rfl rfl trivial (ss_geq rfl rfl) rfl ?_
    refine rd_nil ?_
    refine aw_cond rfl (fun q6 => ?_) (fun q6 => ?_)
    · replace h := h.1 (of_decide_eq_true q6)
      refine aw_seq ?_
      refine aw_gh (gh_to (n := 20) (σ' := []) (env' := []) rfl rfl trivial) ?_
      refine aw_region ?_
      refine run_s (ss_assign rfl) rfl ?_
      refine run_nil ?_
      refine aw_ret ?_
      exact retAF_mk (retv1 rfl (rv_tmp rfl)) rfl rfl ⟨_, (cle_refl _), _, h, rfl⟩
    · replace h := h.2 (of_decide_eq_false q6)
      refine aw_skip ?_
      refine aw_gh (gh_to (n := 20) (σ' := []) (env' := [(0, .c (.lst (ints list))), (3, .c (ci v3_1))]) rfl rfl ⟨rfl, rfl, trivial⟩) ?_
      refine aw_region ?_
      refine run_s (ss_move rfl) rfl ?_
      obtain ⟨q7, h⟩ := h
      refine run_s (ss_add rfl rfl q7) rfl ?_
      refine run_s (ss_assign rfl) rfl ?_
      refine run_nil ?_
      exact ⟨v3_1 + 1, ghe_to (n := 20) rfl rfl ⟨rfl, rfl, trivial⟩, h.1, h.2⟩
  · replace h := h.2 (of_decide_eq_false q2)
    refine aw_exit ?_
    refine aw_seq ?_
    refine aw_gh (gh_to (n := 20) (σ' := []) (env' := []) rfl rfl trivial) ?_
    refine aw_region ?_
    refine run_s (ss_assign rfl) rfl ?_
    refine run_nil ?_
    refine aw_ret ?_
    exact retAF_mk (retv1 rfl (rv_tmp rfl)) rfl rfl ⟨_, (cle_refl _), _, h, rfl⟩

theorem c_impl_increasing (list : List Int) (hp : small list) : AF Try.prog 86 [.lst (ints list)] (fun R_ => R_ = cb (incB list)) :=
  (w_impl_increasing list (fun y0 => y0 = incB list) (p_impl_increasing list hp)).mono (by rintro r ⟨_, rfl, rfl⟩; rfl)

set_option maxRecDepth 100000 in
set_option maxHeartbeats 4000000 in
theorem w_impl_areElements (n : Int) (list : List Int) (Q : Bool → Prop) (h : wp_impl_areElements n list Q) : AF Try.prog 77 [ci n, .lst (ints list)] (fun R_ => ∃ y0, Q y0 ∧ R_ = cb y0) := by
  refine AF.ofWQ (af_enter (n := 9) Try.func77 rfl (by rfl) rfl (Nat.le_of_ble_eq_true rfl) ?_)
  unfold wp_impl_areElements at h
  refine aw_seq ?_
  refine aw_gh (gh_to (n := 9) (σ' := []) (env' := [(0, .c (ci n)), (1, .c (.lst (ints list)))]) rfl rfl ⟨rfl, rfl, trivial⟩) ?_
  refine aw_region ?_
  refine run_s (ss_assign rfl) rfl ?_
  refine run_nil ?_
  refine aw_seq ?_
  refine aw_region ?_
  refine run_s (ss_move rfl) rfl ?_
  refine run_s (ss_move rfl) rfl ?_
  obtain ⟨q1, h⟩ := h
  refine run_s (ss_sub rfl rfl q1) rfl ?_
  obtain ⟨q2, h⟩ := h
  refine run_w (ws_call (xs := [.tmp 5, .const (.int .i64 (0)), .tmp 7]) (ids := []) rfl rfl rfl rfl (c_impl_allWithin list 0 (n - 1) q2) rfl ?_ )
  rintro _ rfl
  refine ⟨rfl, ?_⟩
  refine run_s (ss_assign rfl) rfl ?_
  refine run_nil ?_
  refine aw_ret ?_
  exact retAF_mk (retv1 rfl (rv_tmp rfl)) rfl rfl ⟨_, (cle_refl _), _, h, rfl⟩

theorem c_impl_areElements (n : Int) (list : List Int) (hp : small list ∧ 0 ≤ n ∧ n ≤ 1000000000) : AF Try.prog 77 [ci n, .lst (ints list)] (fun R_ => R_ = cb (list.all (fun z_ => decide (0 ≤ z_) && decide (z_ ≤ n - 1)))) :=
  (w_impl_areElements n list (fun y0 => y0 = list.all (fun z_ => decide (0 ≤ z_) && decide (z_ ≤ n - 1))) (p_impl_areElements n list hp)).mono (by rintro r ⟨_, rfl, rfl⟩; rfl)

set_option maxRecDepth 100000 in
set_option maxHeartbeats 4000000 in
theorem w_spec_l04Elements (n : Int) (list : List Int) (Q : Bool → Prop) (h : wp_spec_l04Elements n list Q) : AF Try.prog 83 [ci n, .lst (ints list)] (fun R_ => ∃ y0, Q y0 ∧ R_ = cb y0) := by
  refine AF.ofWQ (af_enter (n := 20) Try.func83 rfl (by rfl) rfl (Nat.le_of_ble_eq_true rfl) ?_)
  unfold wp_spec_l04Elements at h
  refine aw_seq ?_
  refine aw_gh (gh_to (n := 20) (σ' := []) (env' := [(0, .c (ci n)), (1, .c (.lst (ints list)))]) rfl rfl ⟨rfl, rfl, trivial⟩) ?_
  refine aw_region ?_
  refine run_s (ss_assign rfl) rfl ?_
  refine run_nil ?_
  refine aw_seq ?_
  refine aw_seq ?_
  refine aw_region ?_
  refine run_s (ss_assign rfl) rfl ?_
  refine run_nil ?_
  refine aw_block ?_
  obtain ⟨H1, m1, q1, h⟩ := h
  refine aw_loop1 (fun (v5_1 : Int) => ⟨[], [(0, .c (ci n)), (1, .c (.lst (ints list))), (5, .c (ci v5_1))], 20⟩) H1 m1 ⟨0, ghe_to (n := 20) rfl rfl ⟨rfl, rfl, rfl, trivial⟩, q1⟩ ?_
  rintro v5_1 q1
  replace h := h v5_1 q1
  refine aw_seq ?_
  refine aw_seq ?_
  refine aw_region ?_
  refine run_s (ss_move rfl) rfl ?_
  refine run_s (ss_move rfl) rfl ?_
  refine run_s (ss_lenL (f := ci) rfl) rfl ?_
  refine run_s (ss_lss rfl rfl) rfl ?_
  refine run_nil ?_
  refine aw_cond rfl (fun q2 => ?_) (fun q2 => ?_)
  · replace h := h.1 (of_decide_eq_true q2)
    refine aw_skip ?_
    refine aw_seq ?_
    refine aw_block ?_
    refine aw_seq ?_
    refine aw_region ?_
    refine run_s (ss_move rfl) rfl ?_
    refine run_s (ss_move rfl) rfl ?_
    obtain ⟨q3, h⟩ := h
    refine run_s (ss_idxL rfl rfl q3) rfl ?_
    refine run_s (ss_loadL (f := ci) rfl q3) rfl ?_
    refine run_s (ss_move rfl) rfl ?_
    obtain ⟨q4, h⟩ := h
    refine run_s (ss_sub rfl rfl q4) rfl ?_
    refine run_w (ws_call (xs := [.tmp 15, .const (.int .i64 (0)), .tmp 17]) (ids := []) rfl rfl rfl rfl (c_spec_l01In (el list v5_1) 0 (n - 1)) rfl ?_ )
    rintro _ rfl
    refine ⟨rfl, ?_⟩
    refine run_s (ss_not rfl) rfl ?_
    refine run_nil ?_
    refine aw_cond rfl (fun q6 => ?_) (fun q6 => ?_)
    · replace h := h.1 ((bnot_t q6))
      refine aw_seq ?_
      refine aw_gh (gh_to (n := 20) (σ' := []) (env' := []) rfl rfl trivial) ?_
      refine aw_region ?_
      refine run_s (ss_assign rfl) rfl ?_
      refine run_nil ?_
      refine aw_ret ?_
      exact retAF_mk (retv1 rfl (rv_tmp rfl)) rfl rfl ⟨_, (cle_refl _), _, h, rfl⟩
    · replace h := h.2 ((bnot_f q6))
      refine aw_skip ?_
      refine aw_gh (gh_to (n := 20) (σ' := []) (env' := [(0, .c (ci n)), (1, .c (.lst (ints list))), (5, .c (ci v5_1))]) rfl rfl ⟨rfl, rfl, rfl, trivial⟩) ?_
      refine aw_region ?_
      refine run_s (ss_move rfl) rfl ?_
      obtain ⟨q7, h⟩ := h
      refine run_s (ss_add rfl rfl q7) rfl ?_
      refine run_s (ss_assign rfl) rfl ?_
      refine run_nil ?_
      exact ⟨v5_1 + 1, ghe_to (n := 20) rfl rfl ⟨rfl, rfl, rfl, trivial⟩, h.1, h.2⟩
  · replace h := h.2 (of_decide_eq_false q2)
    refine aw_exit ?_
    refine aw_seq ?_
    refine aw_gh (gh_to (n := 20) (σ' := []) (env' := []) rfl rfl trivial) ?_
    refine aw_region ?_
    refine run_s (ss_assign rfl) rfl ?_
    refine run_nil ?_
    refine aw_ret ?_
    exact retAF_mk (retv1 rfl (rv_tmp rfl)) rfl rfl ⟨_, (cle_refl _), _, h, rfl⟩

theorem c_spec_l04Elements (n : Int) (list : List Int) (hp : small list ∧ 0 ≤ n ∧ n ≤ 1000000000) : AF Try.prog 83 [ci n, .lst (ints list)] (fun R_ => R_ = cb (list.all (fun z_ => decide (0 ≤ z_) && decide (z_ ≤ n - 1)))) :=
  (w_spec_l04Elements n list (fun y0 => y0 = list.all (fun z_ => decide (0 ≤ z_) && decide (z_ ≤ n - 1))) (p_spec_l04Elements n list hp)).mono (by rintro r ⟨_, rfl, rfl⟩; rfl)

set_option maxRecDepth 100000 in
set_option maxHeartbeats 4000000 in
theorem w_impl_rackFault (t : List (List Int)) (Q : List Int → Prop) (h : wp_impl_rackFault t Q) : AF Try.prog 93 [.lst (rows t)] (fun R_ => ∃ y0, Q y0 ∧ R_ = onil y0) := by
  refine AF.ofWQ (af_enter (n := 61) Try.func93 rfl (by rfl) rfl (Nat.le_of_ble_eq_true rfl) ?_)
  unfold wp_impl_rackFault at h
  refine aw_seq ?_
  refine aw_gh (gh_to (n := 61) (σ' := []) (env' := [(0, .c (.lst (rows t)))]) rfl rfl ⟨rfl, trivial⟩) ?_
  refine aw_region ?_
  refine run_s (ss_assign rfl) rfl ?_
  refine run_nil ?_
  refine aw_seq ?_
  refine aw_region ?_
  refine run_s (ss_move rfl) rfl ?_
  refine run_s (ss_lenL (f := (fun r => C.lst (ints r))) rfl) rfl ?_
  refine run_s (ss_assign rfl) rfl ?_
  refine run_nil ?_
  refine aw_seq ?_
  refine aw_seq ?_
  refine aw_region ?_
  refine run_s (ss_move rfl) rfl ?_
  refine run_s (ss_move rfl) rfl ?_
  refine run_nil ?_
  refine aw_block ?_
  obtain ⟨H1, m1, q1, h⟩ := h
  refine aw_loop1 (fun (v10_1 : Int) => ⟨[], [(0, .c (.lst (rows t))), (3, .c (ci (t.length : Int))), (9, .c (ci (t.length : Int))), (10, .c (ci v10_1))], 61⟩) H1 m1 ⟨0, ghe_to (n := 61) rfl rfl ⟨rfl, rfl, rfl, rfl, trivial⟩, q1⟩ ?_
  rintro v10_1 q1
  replace h := h v10_1 q1
  refine aw_seq ?_
  refine aw_region ?_
  refine run_s (ss_lss rfl rfl) rfl ?_
  refine run_nil ?_
  refine aw_seq ?_
  refine aw_cond rfl (fun q2 => ?_) (fun q2 => ?_)
  · replace h := h.1 (of_decide_eq_true q2)
    refine aw_skip ?_
    refine aw_seq ?_
    refine aw_block ?_
    refine aw_seq ?_
    refine aw_region ?_
    refine run_s (ss_move rfl) rfl ?_
    refine run_s (ss_assign rfl) rfl ?_
    refine run_nil ?_
    refine aw_seq ?_
    refine aw_region ?_
    refine run_s (ss_move rfl) rfl ?_
    refine run_s (ss_move rfl) rfl ?_
    refine run_nil ?_
    refine aw_block ?_
    obtain ⟨H2, m2, q3, h⟩ := h
    refine aw_loop1 (fun (v14_2 : Int) => ⟨[], [(0, .c (.lst (rows t))), (3, .c (ci (t.length : Int))), (4, .c (ci v10_1)), (9, .c (ci (t.length : Int))), (10, .c (ci v10_1)), (13, .c (ci (t.length : Int))), (14, .c (ci v14_2))], 61⟩) H2 m2 ⟨0, ghe_to (n := 61) rfl rfl ⟨rfl, rfl, rfl, rfl, rfl, rfl, rfl, trivial⟩, q3⟩ ?_
    rintro v14_2 q3
    replace h := h v14_2 q3
    refine aw_seq ?_
    refine aw_region ?_
    refine run_s (ss_lss rfl rfl) rfl ?_
    refine run_nil ?_
    refine aw_seq ?_
    refine aw_cond rfl (fun q4 => ?_) (fun q4 => ?_)
    · replace h := h.1 (of_decide_eq_true q4)
      refine aw_skip ?_
      refine aw_seq ?_
      refine aw_block ?_
      refine aw_seq ?_
      refine aw_region ?_
      refine run_s (ss_move rfl) rfl ?_
      refine run_s (ss_assign rfl) rfl ?_
      refine run_nil ?_
      refine aw_seq ?_
      refine aw_region ?_
      refine run_s (ss_move rfl) rfl ?_
      refine run_s (ss_move rfl) rfl ?_
      refine run_nil ?_
      refine aw_block ?_
      obtain ⟨H3, m3, q5, h⟩ := h
      refine aw_loop1 (fun (v18_3 : Int) => ⟨[], [(0, .c (.lst (rows t))), (3, .c (ci (t.length : Int))), (4, .c (ci v10_1)), (5, .c (ci v14_2)), (9, .c (ci (t.length : Int))), (10, .c (ci v10_1)), (13, .c (ci (t.length : Int))), (14, .c (ci v14_2)), (17, .c (ci (t.length : Int))), (18, .c (ci v18_3))], 61⟩) H3 m3 ⟨0, ghe_to (n := 61) rfl rfl ⟨rfl, rfl, rfl, rfl, rfl, rfl, rfl, rfl, rfl, rfl, trivial⟩, q5⟩ ?_
      rintro v18_3 q5
      replace h := h v18_3 q5
      refine aw_seq ?_
      refine aw_region ?_
      refine run_s (ss_lss rfl rfl) rfl ?_
      refine run_nil ?_
      refine aw_seq ?_
      refine aw_cond rfl (fun q6 => ?_) (fun q6 => ?_)
      · replace h := h.1 (of_decide_eq_true q6)
        refine aw_skip ?_
        refine aw_seq ?_
        refine aw_block ?_
        refine aw_seq ?_
        refine aw_region ?_
        refine run_s (ss_move rfl) rfl ?_
        refine run_s (ss_assign rfl) rfl ?_
        refine run_nil ?_
        refine aw_seq ?_
        refine aw_gh (gh_to (n := 61) (σ' := []) (env' := [(0, .c (.lst (rows t))), (3, .c (ci (t.length : Int))), (4, .c (ci v10_1)), (5, .c (ci v14_2)), (6, .c (ci v18_3)), (9, .c (ci (t.length : Int))), (10, .c (ci v10_1)), (13, .c (ci (t.length : Int))), (14, .c (ci v14_2)), (17, .c (ci (t.length : Int))), (18, .c (ci v18_3))]) rfl rfl ⟨rfl, rfl, rfl, rfl, rfl, rfl, rfl, rfl, rfl, rfl, rfl, trivial⟩) ?_
        refine aw_regionD (kd := kdl [0, 0, 0, 1, 0, 0, 0, 1, 0, 0, 1, 0, 1, 0, 0, 0, 0, 1, 0, 0, 1, 0, 1, 0, 0, 0, 1, 0, 0, 1, 0, 1, 0]) (ord := [0, 1, 2, 4, 5, 6, 8, 13, 14, 15, 16, 18, 23, 24, 25, 27, 3, 7, 9, 10, 11, 12, 17, 19, 20, 21, 22, 26, 28, 29, 30, 31, 32]) [] mixed (by kernel_rfl) ?_
        refine rd_s rfl rfl trivial (ss_move rfl) rfl ?_
        refine rd_s rfl rfl trivial (ss_move rfl) rfl ?_
        obtain ⟨q7, h⟩ := h
        refine rd_s rfl rfl trivial (ss_idxL rfl rfl q7) rfl ?_
        refine rd_s rfl rfl trivial (ss_move rfl) rfl ?_
        refine rd_s rfl rfl trivial (ss_move rfl) rfl ?_
        obtain ⟨q8, h⟩ := h
        refine rd_s rfl rfl trivial (ss_idxL rfl rfl q8) rfl ?_
        refine rd_s rfl rfl trivial (ss_move rfl) rfl ?_
        refine rd_s rfl rfl trivial (ss_move rfl) rfl ?_
        refine rd_s rfl rfl trivial (ss_move rfl) rfl ?_
        refine rd_s rfl rfl trivial (ss_move rfl) rfl ?_
        obtain ⟨q9, h⟩ := h
        refine rd_s rfl rfl trivial (ss_idxL rfl rfl q9) rfl ?_
        refine rd_s rfl rfl trivial (ss_move rfl) rfl ?_
        refine rd_s rfl rfl trivial (ss_move rfl) rfl ?_
        refine rd_s rfl rfl trivial (ss_move rfl) rfl ?_
        obtain ⟨q10, h⟩ := h
        refine rd_s rfl rfl trivial (ss_idxL rfl rfl q10) rfl ?_
        refine rd_s rfl rfl trivial (ss_move rfl) rfl ?_
        refine rd_l rfl rfl trivial (ss_loadL (f := (fun r => C.lst (ints r))) rfl q7) rfl ?_
        refine rd_l rfl rfl trivial (ss_loadL (f := (fun r => C.lst (ints r))) rfl q8) rfl ?_
        obtain ⟨q11, h⟩ := h
        refine rd_s rfl rfl trivial (ss_idxL rfl rfl q11) rfl ?_
        refine rd_l rfl rfl trivial (ss_loadL (f := ci) rfl q11) rfl ?_
        obtain ⟨q12, h⟩ := h
        refine rd_s rfl rfl trivial (ss_idxL rfl rfl q12) rfl ?_
        refine rd_l rfl rfl trivial (ss_loadL (f := ci) rfl q12) rfl ?_
        refine rd_l rfl rfl trivial (ss_loadL (f := (fun r => C.lst (ints r))) rfl q9) rfl ?_
        obtain ⟨q13, h⟩ := h
        refine rd_s rfl rfl trivial (ss_idxL rfl rfl q13) rfl ?_
        refine rd_l rfl rfl trivial (ss_loadL (f := ci) rfl q13) rfl ?_
        obtain ⟨q14, h⟩ := h
        refine rd_s rfl rfl trivial (ss_idxL rfl rfl q14) rfl ?_
        refine rd_l rfl rfl trivial (ss_loadL (f := (fun r => C.lst (ints r))) rfl q14) rfl ?_
        refine rd_l rfl rfl trivial (ss_loadL (f := (fun r => C.lst (ints r))) rfl q10) rfl ?_
        obtain ⟨q15, h⟩ := h
        refine rd_s rfl rfl trivial (ss_idxL rfl rfl q15) rfl ?_
        refine rd_l rfl rfl trivial (ss_loadL (f := ci) rfl q15) rfl ?_
        obtain ⟨q16, h⟩ := h
        refine rd_s rfl rfl trivial (ss_idxL rfl rfl q16) rfl ?_
        refine rd_l rfl rfl trivial (ss_loadL (f := ci) rfl q16) rfl ?_
        refine rd_s rfl rfl trivial (ss_neq rfl rfl) rfl ?_
        refine rd_nil ?_
        refine aw_cond rfl (fun q17 => ?_) (fun q17 => ?_)
        · replace h := h.1 (of_decide_eq_false (bnot_t q17))
          refine aw_seq ?_
          refine aw_gh (gh_to (n := 61) (σ' := []) (env' := [(4, .c (ci v10_1)), (5, .c (ci v14_2)), (6, .c (ci v18_3))]) rfl rfl ⟨rfl, rfl, rfl, trivial⟩) ?_
          refine aw_region ?_
          refine run_s (ss_move rfl) rfl ?_
          refine run_s (ss_move rfl) rfl ?_
          refine run_s (ss_move rfl) rfl ?_
          refine run_w (ws_buildSlice (id := 57) (ps := [(0, .tmp 54), (1, .tmp 55), (2, .tmp 56)]) rfl rfl (Nat.le_of_ble_eq_true rfl) rfl ⟨rfl, ?_⟩)
          refine run_s (ss_assign rfl) rfl ?_
          refine run_nil ?_
          refine aw_ret ?_
          exact retAF_mk (retv1 rfl (rv_tmp rfl)) rfl rfl ⟨_, (cle_refl _), _, h, rfl⟩
        · replace h := h.2 (of_decide_eq_true (bnot_f q17))
          refine aw_skip ?_
          refine aw_gh (gh_to (n := 61) (σ' := []) (env' := [(0, .c (.lst (rows t))), (3, .c (ci (t.length : Int))), (4, .c (ci v10_1)), (5, .c (ci v14_2)), (9, .c (ci (t.length : Int))), (10, .c (ci v10_1)), (13, .c (ci (t.length : Int))), (14, .c (ci v14_2)), (17, .c (ci (t.length : Int))), (18, .c (ci v18_3))]) rfl rfl ⟨rfl, rfl, rfl, rfl, rfl, rfl, rfl, rfl, rfl, rfl, trivial⟩) ?_
          refine aw_region ?_
          obtain ⟨q18, h⟩ := h
          refine run_s (ss_add rfl rfl q18) rfl ?_
          refine run_s (ss_move rfl) rfl ?_
          refine run_nil ?_
          exact ⟨v18_3 + 1, ghe_to (n := 61) rfl rfl ⟨rfl, rfl, rfl, rfl, rfl, rfl, rfl, rfl, rfl, rfl, trivial⟩, h.1, h.2⟩
      · replace h := h.2 (of_decide_eq_false q6)
        refine aw_exit ?_
        refine aw_gh (gh_to (n := 61) (σ' := []) (env' := [(0, .c (.lst (rows t))), (3, .c (ci (t.length : Int))), (4, .c (ci v10_1)), (9, .c (ci (t.length : Int))), (10, .c (ci v10_1)), (13, .c (ci (t.length : Int))), (14, .c (ci v14_2))]) rfl rfl ⟨rfl, rfl, rfl, rfl, rfl, rfl, rfl, trivial⟩) ?_
        refine aw_region ?_
        obtain ⟨q19, h⟩ := h
        refine run_s (ss_add rfl rfl q19) rfl ?_
        refine run_s (ss_move rfl) rfl ?_
        refine run_nil ?_
        exact ⟨v14_2 + 1, ghe_to (n := 61) rfl rfl ⟨rfl, rfl, rfl, rfl, rfl, rfl, rfl, trivial⟩, h.1, h.2⟩
    · replace h := h.2 (of_decide_eq_false q4)
      refine aw_exit ?_
      refine aw_gh (gh_to (n := 61) (σ' := []) (env' := [(0, .c (.lst (rows t))), (3, .c (ci (t.length : Int))), (9, .c (ci (t.length : Int))), (10, .c (ci v10_1))]) rfl rfl ⟨rfl, rfl, rfl, rfl, trivial⟩) ?_
      refine aw_region ?_
      obtain ⟨q20, h⟩ := h
      refine run_s (ss_add rfl rfl q20) rfl ?_
      refine run_s (ss_move rfl) rfl ?_
      refine run_nil ?_
      exact ⟨v10_1 + 1, ghe_to (n := 61) rfl rfl ⟨rfl, rfl, rfl, rfl, trivial⟩, h.1, h.2⟩
  · replace h := h.2 (of_decide_eq_false q2)
    refine aw_exit ?_
    refine aw_seq ?_
    refine aw_gh (gh_to (n := 61) (σ' := []) (env' := []) rfl rfl trivial) ?_
    refine aw_region ?_
    refine run_s (ss_assign rfl) rfl ?_
    refine run_nil ?_
    refine aw_ret ?_
    exact retAF_mk (retv1 rfl (rv_tmp rfl)) rfl rfl ⟨_, (cle_refl _), _, h, rfl⟩

theorem c_impl_rackFault (t : List (List Int)) (hp : isTab t = true) : AF Try.prog 93 [.lst (rows t)] (fun R_ => R_ = onil (rackF t)) :=
  (w_impl_rackFault t (fun y0 => y0 = rackF t) (p_impl_rackFault t hp)).mono (by rintro r ⟨_, rfl, rfl⟩; rfl)

set_option maxRecDepth 100000 in
set_option maxHeartbeats 4000000 in
theorem w_spec_l03Fault (t : List (List Int)) (Q : List Int → Prop) (h : wp_spec_l03Fault t Q) : AF Try.prog 97 [.lst (rows t)] (fun R_ => ∃ y0, Q y0 ∧ R_ = .own (ints y0)) := by
  refine AF.ofWQ (af_enter (n := 61) Try.func97 rfl (by rfl) rfl (Nat.le_of_ble_eq_true rfl) ?_)
  unfold wp_spec_l03Fault at h
  refine aw_seq ?_
  refine aw_gh (gh_to (n := 61) (σ' := []) (env' := [(0, .c (.lst (rows t)))]) rfl rfl ⟨rfl, trivial⟩) ?_
  refine aw_region ?_
  refine run_s (ss_assign rfl) rfl ?_
  refine run_nil ?_
  refine aw_seq ?_
  refine aw_region ?_
  refine run_s (ss_move rfl) rfl ?_
  refine run_s (ss_lenL (f := (fun r => C.lst (ints r))) rfl) rfl ?_
  refine run_s (ss_assign rfl) rfl ?_
  refine run_nil ?_
  refine aw_seq ?_
  refine aw_seq ?_
  refine aw_region ?_
  refine run_s (ss_assign rfl) rfl ?_
  refine run_nil ?_
  refine aw_block ?_
  obtain ⟨H1, m1, q1, h⟩ := h
  refine aw_loop1 (fun (v4_1 : Int) => ⟨[], [(0, .c (.lst (rows t))), (3, .c (ci (t.length : Int))), (4, .c (ci v4_1))], 61⟩) H1 m1 ⟨0, ghe_to (n := 61) rfl rfl ⟨rfl, rfl, rfl, trivial⟩, q1⟩ ?_
  rintro v4_1 q1
  replace h := h v4_1 q1
  refine aw_seq ?_
  refine aw_seq ?_
  refine aw_region ?_
  refine run_s (ss_move rfl) rfl ?_
  refine run_s (ss_move rfl) rfl ?_
  refine run_s (ss_lss rfl rfl) rfl ?_
  refine run_nil ?_
  refine aw_cond rfl (fun q2 => ?_) (fun q2 => ?_)
  · replace h := h.1 (of_decide_eq_true q2)
    refine aw_skip ?_
    refine aw_seq ?_
    refine aw_block ?_
    refine aw_seq ?_
    refine aw_region ?_
    refine run_s (ss_assign rfl) rfl ?_
    refine run_nil ?_
    refine aw_block ?_
    obtain ⟨H2, m2, q3, h⟩ := h
    refine aw_loop1 (fun (v5_2 : Int) => ⟨[], [(0, .c (.lst (rows t))), (3, .c (ci (t.length : Int))), (4, .c (ci v4_1)), (5, .c (ci v5_2))], 61⟩) H2 m2 ⟨0, ghe_to (n := 61) rfl rfl ⟨rfl, rfl, rfl, rfl, trivial⟩, q3⟩ ?_
    rintro v5_2 q3
    replace h := h v5_2 q3
    refine aw_seq ?_
    refine aw_seq ?_
    refine aw_region ?_
    refine run_s (ss_move rfl) rfl ?_
    refine run_s (ss_move rfl) rfl ?_
    refine run_s (ss_lss rfl rfl) rfl ?_
    refine run_nil ?_
    refine aw_cond rfl (fun q4 => ?_) (fun q4 => ?_)
    · replace h := h.1 (of_decide_eq_true q4)
      refine aw_skip ?_
      refine aw_seq ?_
      refine aw_block ?_
      refine aw_seq ?_
      refine aw_region ?_
      refine run_s (ss_assign rfl) rfl ?_
      refine run_nil ?_
      refine aw_block ?_
      obtain ⟨H3, m3, q5, h⟩ := h
      refine aw_loop1 (fun (v6_3 : Int) => ⟨[], [(0, .c (.lst (rows t))), (3, .c (ci (t.length : Int))), (4, .c (ci v4_1)), (5, .c (ci v5_2)), (6, .c (ci v6_3))], 61⟩) H3 m3 ⟨0, ghe_to (n := 61) rfl rfl ⟨rfl, rfl, rfl, rfl, rfl, trivial⟩, q5⟩ ?_
      rintro v6_3 q5
      replace h := h v6_3 q5
      refine aw_seq ?_
      refine aw_seq ?_
      refine aw_region ?_
      refine run_s (ss_move rfl) rfl ?_
      refine run_s (ss_move rfl) rfl ?_
      refine run_s (ss_lss rfl rfl) rfl ?_
      refine run_nil ?_
      refine aw_cond rfl (fun q6 => ?_) (fun q6 => ?_)
      · replace h := h.1 (of_decide_eq_true q6)
        refine aw_skip ?_
        refine aw_seq ?_
        refine aw_block ?_
        refine aw_seq ?_
        refine aw_gh (gh_to (n := 61) (σ' := []) (env' := [(0, .c (.lst (rows t))), (3, .c (ci (t.length : Int))), (4, .c (ci v4_1)), (5, .c (ci v5_2)), (6, .c (ci v6_3))]) rfl rfl ⟨rfl, rfl, rfl, rfl, rfl, trivial⟩) ?_
        refine aw_regionD (kd := kdl [0, 0, 0, 1, 0, 0, 0, 1, 0, 0, 1, 0, 1, 0, 0, 0, 0, 1, 0, 0, 1, 0, 1, 0, 0, 0, 1, 0, 0, 1, 0, 1, 0]) (ord := [0, 1, 2, 4, 5, 6, 8, 13, 14, 15, 16, 18, 23, 24, 25, 27, 3, 7, 9, 10, 11, 12, 17, 19, 20, 21, 22, 26, 28, 29, 30, 31, 32]) [] mixed (by kernel_rfl) ?_
        refine rd_s rfl rfl trivial (ss_move rfl) rfl ?_
        refine rd_s rfl rfl trivial (ss_move rfl) rfl ?_
        obtain ⟨q7, h⟩ := h
        refine rd_s rfl rfl trivial (ss_idxL rfl rfl q7) rfl ?_
        refine rd_s rfl rfl trivial (ss_move rfl) rfl ?_
        refine rd_s rfl rfl trivial (ss_move rfl) rfl ?_
        obtain ⟨q8, h⟩ := h
        refine rd_s rfl rfl trivial (ss_idxL rfl rfl q8) rfl ?_
        refine rd_s rfl rfl trivial (ss_move rfl) rfl ?_
        refine rd_s rfl rfl trivial (ss_move rfl) rfl ?_
        refine rd_s rfl rfl trivial (ss_move rfl) rfl ?_
        refine rd_s rfl rfl trivial (ss_move rfl) rfl ?_
        obtain ⟨q9, h⟩ := h
        refine rd_s rfl rfl trivial (ss_idxL rfl rfl q9) rfl ?_
        refine rd_s rfl rfl trivial (ss_move rfl) rfl ?_
        refine rd_s rfl rfl trivial (ss_move rfl) rfl ?_
        refine rd_s rfl rfl trivial (ss_move rfl) rfl ?_
        obtain ⟨q10, h⟩ := h
        refine rd_s rfl rfl trivial (ss_idxL rfl rfl q10) rfl ?_
        refine rd_s rfl rfl trivial (ss_move rfl) rfl ?_
        refine rd_l rfl rfl trivial (ss_loadL (f := (fun r => C.lst (ints r))) rfl q7) rfl ?_
        refine rd_l rfl rfl trivial (ss_loadL (f := (fun r => C.lst (ints r))) rfl q8) rfl ?_
        obtain ⟨q11, h⟩ := h
        refine rd_s rfl rfl trivial (ss_idxL rfl rfl q11) rfl ?_
        refine rd_l rfl rfl trivial (ss_loadL (f := ci) rfl q11) rfl ?_
        obtain ⟨q12, h⟩ := h
        refine rd_s rfl rfl trivial (ss_idxL rfl rfl q12) rfl ?_
        refine rd_l rfl rfl trivial (ss_loadL (f := ci) rfl q12) rfl ?_
        refine rd_l rfl rfl trivial (ss_loadL (f := (fun r => C.lst (ints r))) rfl q9) rfl ?_
        obtain ⟨q13, h⟩ := h
        refine rd_s rfl rfl trivial (ss_idxL rfl rfl q13) rfl ?_
        refine rd_l rfl rfl trivial (ss_loadL (f := ci) rfl q13) rfl ?_
        obtain ⟨q14, h⟩ := h
        refine rd_s rfl rfl trivial (ss_idxL rfl rfl q14) rfl ?_
        refine rd_l rfl rfl trivial (ss_loadL (f := (fun r => C.lst (ints r))) rfl q14) rfl ?_
        refine rd_l rfl rfl trivial (ss_loadL (f := (fun r => C.lst (ints r))) rfl q10) rfl ?_
        obtain ⟨q15, h⟩ := h
        refine rd_s rfl rfl trivial (ss_idxL rfl rfl q15) rfl ?_
        refine rd_l rfl rfl trivial (ss_loadL (f := ci) rfl q15) rfl ?_
        obtain ⟨q16, h⟩ := h
        refine rd_s rfl rfl trivial (ss_idxL rfl rfl q16) rfl ?_
        refine rd_l rfl rfl trivial (ss_loadL (f := ci) rfl q16) rfl ?_
        refine rd_s rfl rfl trivial (ss_neq rfl rfl) rfl ?_
        refine rd_nil ?_
        refine aw_cond rfl (fun q17 => ?_) (fun q17 => ?_)
        · replace h := h.1 (of_decide_eq_false (bnot_t q17))
          refine aw_seq ?_
          refine aw_gh (gh_to (n := 61) (σ' := []) (env' := [(4, .c (ci v4_1)), (5, .c (ci v5_2)), (6, .c (ci v6_3))]) rfl rfl ⟨rfl, rfl, rfl, trivial⟩) ?_
          refine aw_region ?_
          refine run_s (ss_move rfl) rfl ?_
          refine run_s (ss_move rfl) rfl ?_
          refine run_s (ss_move rfl) rfl ?_
          refine run_w (ws_buildSlice (id := 60) (ps := [(0, .tmp 57), (1, .tmp 58), (2, .tmp 59)]) rfl rfl (Nat.le_of_ble_eq_true rfl) rfl ⟨rfl, ?_⟩)
          refine run_s (ss_assign rfl) rfl ?_
          refine run_nil ?_
          refine aw_ret ?_
          exact retAF_mk (retv1 rfl (rv_tmp rfl)) rfl rfl ⟨_, (cle_refl _), _, h, rfl⟩
        · replace h := h.2 (of_decide_eq_true (bnot_f q17))
          refine aw_skip ?_
          refine aw_gh (gh_to (n := 61) (σ' := []) (env' := [(0, .c (.lst (rows t))), (3, .c (ci (t.length : Int))), (4, .c (ci v4_1)), (5, .c (ci v5_2)), (6, .c (ci v6_3))]) rfl rfl ⟨rfl, rfl, rfl, rfl, rfl, trivial⟩) ?_
          refine aw_region ?_
          refine run_s (ss_move rfl) rfl ?_
          obtain ⟨q18, h⟩ := h
          refine run_s (ss_add rfl rfl q18) rfl ?_
          refine run_s (ss_assign rfl) rfl ?_
          refine run_nil ?_
          exact ⟨v6_3 + 1, ghe_to (n := 61) rfl rfl ⟨rfl, rfl, rfl, rfl, rfl, trivial⟩, h.1, h.2⟩
      · replace h := h.2 (of_decide_eq_false q6)
        refine aw_exit ?_
        refine aw_region ?_
        refine run_s (ss_move rfl) rfl ?_
        obtain ⟨q19, h⟩ := h
        refine run_s (ss_add rfl rfl q19) rfl ?_
        refine run_s (ss_assign rfl) rfl ?_
        refine run_nil ?_
        exact ⟨v5_2 + 1, ghe_to (n := 61) rfl rfl ⟨rfl, rfl, rfl, rfl, trivial⟩, h.1, h.2⟩
    · replace h := h.2 (of_decide_eq_false q4)
      refine aw_exit ?_
      refine aw_region ?_
      refine run_s (ss_move rfl) rfl ?_
      obtain ⟨q20, h⟩ := h
      refine run_s (ss_add rfl rfl q20) rfl ?_
      refine run_s (ss_assign rfl) rfl ?_
      refine run_nil ?_
      exact ⟨v4_1 + 1, ghe_to (n := 61) rfl rfl ⟨rfl, rfl, rfl, trivial⟩, h.1, h.2⟩
  · replace h := h.2 (of_decide_eq_false q2)
    refine aw_exit ?_
    refine aw_seq ?_
    refine aw_gh (gh_to (n := 61) (σ' := []) (env' := []) rfl rfl trivial) ?_
    refine aw_region ?_
    refine run_s (ss_assign rfl) rfl ?_
    refine run_nil ?_
    refine aw_ret ?_
    exact retAF_mk (retv1 rfl (rv_tmp rfl)) rfl rfl ⟨_, cle_nilO, _, h, rfl⟩

theorem c_spec_l03Fault (t : List (List Int)) (hp : isTab t = true) : AF Try.prog 97 [.lst (rows t)] (fun R_ => R_ = .own (ints (rackF t))) :=
  (w_spec_l03Fault t (fun y0 => y0 = rackF t) (p_spec_l03Fault t hp)).mono (by rintro r ⟨_, rfl, rfl⟩; rfl)

set_option maxRecDepth 100000 in
set_option maxHeartbeats 4000000 in
theorem w_impl_IsRack (r : List (List Int)) (Q : Bool → Prop) (h : wp_impl_IsRack r Q) : AF Try.prog 15 [.agg [.lst (rows r)]] (fun R_ => ∃ y0, Q y0 ∧ R_ = cb y0) := by
  refine AF.ofWQ (af_enter (n := 17) Try.func15 rfl (by rfl) rfl (Nat.le_of_ble_eq_true rfl) ?_)
  unfold wp_impl_IsRack at h
  refine aw_seq ?_
  refine aw_gh (gh_to (n := 17) (σ' := []) (env' := [(0, .c (.agg [.lst (rows r)]))]) rfl rfl ⟨rfl, trivial⟩) ?_
  refine aw_region ?_
  refine run_w (ws_boxR rfl (.inl rfl) rfl ⟨rfl, ?_⟩)
  refine run_s (ss_assign rfl) rfl ?_
  refine run_nil ?_
  refine aw_seq ?_
  refine aw_region ?_
  refine run_s (ss_field_ptr rfl) rfl ?_
  refine run_s (ss_load_ptr rfl rfl) rfl ?_
  obtain ⟨q1, h⟩ := h
  refine run_w (ws_call (xs := [.tmp 4]) (ids := []) rfl rfl rfl rfl (c_impl_IsTable r q1) rfl ?_ )
  rintro _ rfl
  refine ⟨rfl, ?_⟩
  refine run_s (ss_move rfl) rfl ?_
  refine run_split (s := 6) rfl (fun q3 => ?_) (fun q3 => ?_)
  · replace h := h.1 (q3)
    refine run_gt rfl rfl q3 ?_
    refine run_s (ss_field_ptr rfl) rfl ?_
    refine run_gt rfl rfl q3 ?_
    refine run_s (ss_load_ptr rfl rfl) rfl ?_
    refine run_gt rfl rfl q3 ?_
    obtain ⟨q4, h⟩ := h
    refine run_w (ws_call (xs := [.tmp 8]) (ids := []) rfl rfl rfl rfl (c_impl_permutationRows r q4) rfl ?_ )
    rintro _ rfl
    refine ⟨rfl, ?_⟩
    refine run_s (ss_pickT rfl q3 rfl) rfl ?_
    refine run_s (ss_move rfl) rfl ?_
    refine run_split (s := 11) rfl (fun q6 => ?_) (fun q6 => ?_)
    · replace h := h.1 (q6)
      refine run_gt rfl rfl q6 ?_
      refine run_s (ss_field_ptr rfl) rfl ?_
      refine run_gt rfl rfl q6 ?_
      refine run_s (ss_load_ptr rfl rfl) rfl ?_
      refine run_gt rfl rfl q6 ?_
      by_cases q7 : (rackF r) = []
      · replace h := h.1 q7
        obtain ⟨q8, h⟩ := h
        refine run_w (ws_call (xs := [.tmp 13]) (ids := []) rfl rfl rfl rfl (AF.onil_n (c_impl_rackFault r q8) q7) rfl ?_ )
        rintro _ rfl
        refine ⟨rfl, ?_⟩
        refine run_gt rfl rfl q6 ?_
        refine run_s (ss_eql_nil rfl rfl) rfl ?_
        refine run_s (ss_pickT rfl q6 rfl) rfl ?_
        refine run_s (ss_assign rfl) rfl ?_
        refine run_nil ?_
        refine aw_ret ?_
        exact retAF_mk (retv1 rfl (rv_tmp rfl)) rfl rfl ⟨_, (cle_refl _), _, h, rfl⟩
      · replace h := h.2 q7
        obtain ⟨q10, h⟩ := h
        refine run_w (ws_call (xs := [.tmp 13]) (ids := [14]) rfl rfl rfl rfl (AF.onil_o (c_impl_rackFault r q10) q7) rfl ?_ )
        rintro _ rfl
        refine ⟨rfl, ?_⟩
        refine run_gt rfl rfl q6 ?_
        refine run_s (ss_eql_refNil rfl rfl (map_ne q7) rfl) rfl ?_
        refine run_s (ss_pickT rfl q6 rfl) rfl ?_
        refine run_s (ss_assign rfl) rfl ?_
        refine run_nil ?_
        refine aw_ret ?_
        exact retAF_mk (retv1 rfl (rv_tmp rfl)) rfl rfl ⟨_, (cle_refl _), _, h, rfl⟩
    · replace h := h.2 (q6)
      refine run_gf rfl rfl q6 rfl ?_
      refine run_gf rfl rfl q6 rfl ?_
      refine run_gf rfl rfl q6 rfl ?_
      refine run_gf rfl rfl q6 rfl ?_
      refine run_s (ss_pickF rfl q6 rfl) rfl ?_
      refine run_s (ss_assign rfl) rfl ?_
      refine run_nil ?_
      refine aw_ret ?_
      exact retAF_mk (retv1 rfl (rv_tmp rfl)) rfl rfl ⟨_, (cle_refl _), _, h, rfl⟩
  · replace h := h.2 (q3)
    refine run_gf rfl rfl q3 rfl ?_
    refine run_gf rfl rfl q3 rfl ?_
    refine run_gf rfl rfl q3 rfl ?_
    refine run_s (ss_pickF rfl q3 rfl) rfl ?_
    refine run_s (ss_move rfl) rfl ?_
    refine run_split (s := 11) rfl (fun q12 => ?_) (fun q12 => ?_)
    · cases q12
    · skip
      refine run_gf rfl rfl q12 rfl ?_
      refine run_gf rfl rfl q12 rfl ?_
      refine run_gf rfl rfl q12 rfl ?_
      refine run_gf rfl rfl q12 rfl ?_
      refine run_s (ss_pickF rfl q12 rfl) rfl ?_
      refine run_s (ss_assign rfl) rfl ?_
      refine run_nil ?_
      refine aw_ret ?_
      exact retAF_mk (retv1 rfl (rv_tmp rfl)) rfl rfl ⟨_, (cle_refl _), _, h, rfl⟩

theorem c_impl_IsRack (r : List (List Int)) (hp : small2 r) : AF Try.prog 15 [.agg [.lst (rows r)]] (fun R_ => R_ = cb (isRk r)) :=
  (w_impl_IsRack r (fun y0 => y0 = isRk r) (p_impl_IsRack r hp)).mono (by rintro r ⟨_, rfl, rfl⟩; rfl)

set_option maxRecDepth 100000 in
set_option maxHeartbeats 4000000 in
theorem w_spec_l03Is (r : List (List Int)) (Q : Bool → Prop) (h : wp_spec_l03Is r Q) : AF Try.prog 82 [.agg [.lst (rows r)]] (fun R_ => ∃ y0, Q y0 ∧ R_ = cb y0) := by
  refine AF.ofWQ (af_enter (n := 27) Try.func82 rfl (by rfl) rfl (Nat.le_of_ble_eq_true rfl) ?_)
  unfold wp_spec_l03Is at h
  refine aw_seq ?_
  refine aw_gh (gh_to (n := 27) (σ' := []) (env' := [(0, .c (.agg [.lst (rows r)]))]) rfl rfl ⟨rfl, trivial⟩) ?_
  refine aw_region ?_
  refine run_w (ws_boxR rfl (.inl rfl) rfl ⟨rfl, ?_⟩)
  refine run_s (ss_assign rfl) rfl ?_
  refine run_nil ?_
  refine aw_seq ?_
  refine aw_seq ?_
  refine aw_region ?_
  refine run_s (ss_field_ptr rfl) rfl ?_
  refine run_s (ss_load_ptr rfl rfl) rfl ?_
  obtain ⟨q1, h⟩ := h
  refine run_w (ws_call (xs := [.tmp 5]) (ids := []) rfl rfl rfl rfl (c_spec_l01Table r q1) rfl ?_ )
  rintro _ rfl
  refine ⟨rfl, ?_⟩
  refine run_s (ss_not rfl) rfl ?_
  refine run_nil ?_
  refine aw_cond rfl (fun q3 => ?_) (fun q3 => ?_)
  · replace h := h.1 ((bnot_t q3))
    refine aw_seq ?_
    refine aw_gh (gh_to (n := 27) (σ' := []) (env' := [(2, .c (cb false))]) rfl rfl ⟨rfl, trivial⟩) ?_
    refine aw_region ?_
    refine run_s (ss_assign rfl) rfl ?_
    refine run_nil ?_
    refine aw_ret ?_
    exact retAF_mk (retv1 rfl (rv_tmp rfl)) rfl rfl ⟨_, (cle_refl _), _, h, rfl⟩
  · replace h := h.2 ((bnot_f q3))
    refine aw_skip ?_
    refine aw_seq ?_
    refine aw_seq ?_
    refine aw_gh (gh_to (n := 27) (σ' := []) (env' := [(1, .c (.ptr [.lst (rows r)]))]) rfl rfl ⟨rfl, trivial⟩) ?_
    refine aw_region ?_
    refine run_s (ss_assign rfl) rfl ?_
    refine run_nil ?_
    refine aw_block ?_
    obtain ⟨H1, m1, q4, h⟩ := h
    refine aw_loop1 (fun (v3_1 : Int) => ⟨[], [(1, .c (.ptr [.lst (rows r)])), (3, .c (ci v3_1))], 27⟩) H1 m1 ⟨0, ghe_to (n := 27) rfl rfl ⟨rfl, rfl, trivial⟩, q4⟩ ?_
    rintro v3_1 q4
    replace h := h v3_1 q4
    refine aw_seq ?_
    refine aw_seq ?_
    refine aw_region ?_
    refine run_s (ss_move rfl) rfl ?_
    refine run_s (ss_field_ptr rfl) rfl ?_
    refine run_s (ss_load_ptr rfl rfl) rfl ?_
    refine run_s (ss_lenL (f := (fun r => C.lst (ints r))) rfl) rfl ?_
    refine run_s (ss_lss rfl rfl) rfl ?_
    refine run_nil ?_
    refine aw_cond rfl (fun q5 => ?_) (fun q5 => ?_)
    · replace h := h.1 (of_decide_eq_true q5)
      refine aw_skip ?_
      refine aw_seq ?_
      refine aw_block ?_
      refine aw_seq ?_
      refine aw_region ?_
      refine run_s (ss_field_ptr rfl) rfl ?_
      refine run_s (ss_load_ptr rfl rfl) rfl ?_
      refine run_s (ss_move rfl) rfl ?_
      obtain ⟨q6, h⟩ := h
      refine run_s (ss_idxL rfl rfl q6) rfl ?_
      refine run_s (ss_loadL (f := (fun r => C.lst (ints r))) rfl q6) rfl ?_
      obtain ⟨q7, h⟩ := h
      refine run_w (ws_call (xs := [.tmp 19]) (ids := []) rfl rfl rfl rfl (c_spec_l01Perm (el r v3_1) q7) rfl ?_ )
      rintro _ rfl
      refine ⟨rfl, ?_⟩
      refine run_s (ss_not rfl) rfl ?_
      refine run_nil ?_
      refine aw_cond rfl (fun q9 => ?_) (fun q9 => ?_)
      · replace h := h.1 ((bnot_t q9))
        refine aw_seq ?_
        refine aw_gh (gh_to (n := 27) (σ' := []) (env' := []) rfl rfl trivial) ?_
        refine aw_region ?_
        refine run_s (ss_assign rfl) rfl ?_
        refine run_nil ?_
        refine aw_ret ?_
        exact retAF_mk (retv1 rfl (rv_tmp rfl)) rfl rfl ⟨_, (cle_refl _), _, h, rfl⟩
      · replace h := h.2 ((bnot_f q9))
        refine aw_skip ?_
        refine aw_gh (gh_to (n := 27) (σ' := []) (env' := [(1, .c (.ptr [.lst (rows r)])), (3, .c (ci v3_1))]) rfl rfl ⟨rfl, rfl, trivial⟩) ?_
        refine aw_region ?_
        refine run_s (ss_move rfl) rfl ?_
        obtain ⟨q10, h⟩ := h
        refine run_s (ss_add rfl rfl q10) rfl ?_
        refine run_s (ss_assign rfl) rfl ?_
        refine run_nil ?_
        exact ⟨v3_1 + 1, ghe_to (n := 27) rfl rfl ⟨rfl, rfl, trivial⟩, h.1, h.2⟩
    · replace h := h.2 (of_decide_eq_false q5)
      refine aw_exit ?_
      refine aw_seq ?_
      refine aw_region ?_
      refine run_s (ss_field_ptr rfl) rfl ?_
      refine run_s (ss_load_ptr rfl rfl) rfl ?_
      obtain ⟨q11, h⟩ := h
      refine run_w (ws_call (xs := [.tmp 23]) (ids := [24]) rfl rfl rfl rfl (c_spec_l03Fault r q11) rfl ?_ )
      rintro _ rfl
      refine ⟨rfl, ?_⟩
      refine run_s (ss_lenR (f := ci) rfl rfl) rfl ?_
      refine run_s (ss_eql rfl rfl) rfl ?_
      refine run_s (ss_assign rfl) rfl ?_
      refine run_nil ?_
      refine aw_ret ?_
      exact retAF_mk (retv1 rfl (rv_tmp rfl)) rfl rfl ⟨_, (cle_refl _), _, h, rfl⟩

theorem c_spec_l03Is (r : List (List Int)) (hp : small2 r) : AF Try.prog 82 [.agg [.lst (rows r)]] (fun R_ => R_ = cb (isRk r)) :=
  (w_spec_l03Is r (fun y0 => y0 = isRk r) (p_spec_l03Is r hp)).mono (by rintro r ⟨_, rfl, rfl⟩; rfl)

def wp_impl_isSubrack (r : List (List Int)) (list : List Int) (Q : Bool → Prop) : Prop :=
 ∃ (H1 : Int → Prop) (m1 : Int → Nat),
 H1 0 ∧
 ∀ (v11_1 : Int), H1 v11_1 →
 ( ((v11_1 < (list.length : Int) →
 (0 ≤ v11_1 ∧ v11_1 < (list.length : Int)) ∧
 ∃ (H2 : Int → Prop) (m2 : Int → Nat),
 H2 0 ∧
 ∀ (v17_2 : Int), H2 v17_2 →
 ( ((v17_2 < (list.length : Int) →
 (0 ≤ v17_2 ∧ v17_2 < (list.length : Int)) ∧
 (0 ≤ el list v11_1 ∧ el list v11_1 < (r.length : Int)) ∧
 (0 ≤ el list v17_2 ∧ el list v17_2 < ((el r (el list v11_1)).length : Int)) ∧
 (small list) ∧
 (((list.contains (el (el r (el list v11_1)) (el list v17_2))) = false →
 Q false) ∧
 ((list.contains (el (el r (el list v11_1)) (el list v17_2))) = true →
 (InI (v17_2 + 1)) ∧
 (H2 (v17_2 + 1) ∧ m2 (v17_2 + 1) < m2 v17_2)))) ∧
 (¬ (v17_2 < (list.length : Int)) →
 (InI (v11_1 + 1)) ∧
 (H1 (v11_1 + 1) ∧ m1 (v11_1 + 1) < m1 v11_1))))) ∧
 (¬ (v11_1 < (list.length : Int)) →
 Q true)))

def wp_spec_l04Closed (t : List (List Int)) (mask : Int) (Q : Bool → Prop) : Prop :=
 ∃ (H1 : Int → Prop) (m1 : Int → Nat),
 H1 0 ∧
 ∀ (v5_1 : Int), H1 v5_1 →
 ( ((v5_1 < (t.length : Int) →
 ∃ (H2 : Int → Prop) (m2 : Int → Nat),
 H2 0 ∧
 ∀ (v6_2 : Int), H2 v6_2 →
 ( ((v6_2 < (t.length : Int) →
 ((0 : Int) ≤ v5_1 ∧ v5_1 ≤ 18446744073709551615) ∧
 ((0 : Int) ≤ mask ∧ (0 : Int) ≤ v5_1 ∧ v5_1 ≤ 62) ∧
 ((0 : Int) ≤ mask / (2 : Int) ^ v5_1.toNat ∧ mask / (2 : Int) ^ v5_1.toNat ≤ 9223372036854775807) ∧
 (((mask / (2 : Int) ^ v5_1.toNat) % 2 = 1 →
 ((0 : Int) ≤ v6_2 ∧ v6_2 ≤ 18446744073709551615) ∧
 ((0 : Int) ≤ mask ∧ (0 : Int) ≤ v6_2 ∧ v6_2 ≤ 62) ∧
 ((0 : Int) ≤ mask / (2 : Int) ^ v6_2.toNat ∧ mask / (2 : Int) ^ v6_2.toNat ≤ 9223372036854775807) ∧
 (((mask / (2 : Int) ^ v6_2.toNat) % 2 = 1 →
 (0 ≤ v5_1 ∧ v5_1 < (t.length : Int)) ∧
 (0 ≤ v6_2 ∧ v6_2 < ((el t v5_1).length : Int)) ∧
 ((0 : Int) ≤ el (el t v5_1) v6_2 ∧ el (el t v5_1) v6_2 ≤ 18446744073709551615) ∧
 ((0 : Int) ≤ mask ∧ (0 : Int) ≤ el (el t v5_1) v6_2 ∧ el (el t v5_1) v6_2 ≤ 62) ∧
 ((0 : Int) ≤ mask / (2 : Int) ^ (el (el t v5_1) v6_2).toNat ∧ mask / (2 : Int) ^ (el (el t v5_1) v6_2).toNat ≤ 9223372036854775807) ∧
 (((mask / (2 : Int) ^ (el (el t v5_1) v6_2).toNat) % 2 = 0 →
 Q false) ∧
 (¬ ((mask / (2 : Int) ^ (el (el t v5_1) v6_2).toNat) % 2 = 0) →
 (InI (v6_2 + 1)) ∧
 (H2 (v6_2 + 1) ∧ m2 (v6_2 + 1) < m2 v6_2)))) ∧
 (¬ ((mask / (2 : Int) ^ v6_2.toNat) % 2 = 1) →
 (InI (v6_2 + 1)) ∧
 (H2 (v6_2 + 1) ∧ m2 (v6_2 + 1) < m2 v6_2)))) ∧
 (¬ ((mask / (2 : Int) ^ v5_1.toNat) % 2 = 1) →
 (InI (v6_2 + 1)) ∧
 (H2 (v6_2 + 1) ∧ m2 (v6_2 + 1) < m2 v6_2)))) ∧
 (¬ (v6_2 < (t.length : Int)) →
 (InI (v5_1 + 1)) ∧
 (H1 (v5_1 + 1) ∧ m1 (v5_1 + 1) < m1 v5_1))))) ∧
 (¬ (v5_1 < (t.length : Int)) →
 Q true)))

def wp_spec_SubracksOf (r : List (List Int)) (Q : List Int → Int → Prop) : Prop :=
 (small2 r) ∧
 (((isRk r) = false →
 Q ([]) 1) ∧
 ((isRk r) = true →
 ∃ (H1 : Int → List Int → Prop) (m1 : Int → List Int → Nat),
 H1 1 ([] : List Int) ∧
 ∀ (v5_1 : Int) (o9_1 : List Int), H1 v5_1 o9_1 →
 ( ((0 : Int) ≤ (r.length : Int) ∧ (r.length : Int) ≤ 18446744073709551615) ∧
 ((0 : Int) ≤ (r.length : Int) ∧ (r.length : Int) ≤ 62 ∧ InI (1 * (2 : Int) ^ (r.length : Int).toNat)) ∧
 ((v5_1 < 1 * (2 : Int) ^ (r.length : Int).toNat →
 (isTab r = true ∧ 0 ≤ v5_1 ∧ v5_1 ≤ 9223372036854775807) ∧
 (((dec (CloM r v5_1)) = true →
 ((o9_1.length : Int) + (([v5_1]).length : Int) ≤ 1000000000) ∧
 (InI (v5_1 + 1)) ∧
 (H1 (v5_1 + 1) (o9_1 ++ ([v5_1])) ∧ m1 (v5_1 + 1) (o9_1 ++ ([v5_1])) < m1 v5_1 o9_1)) ∧
 ((dec (CloM r v5_1)) = false →
 (InI (v5_1 + 1)) ∧
 (H1 (v5_1 + 1) o9_1 ∧ m1 (v5_1 + 1) o9_1 < m1 v5_1 o9_1)))) ∧
 (¬ (v5_1 < 1 * (2 : Int) ^ (r.length : Int).toNat) →
 Q o9_1 0)))))

def wp_impl_SubracksOf (r : List (List Int)) (Q : List Int → Int → Prop) : Prop :=
 (small2 r) ∧
 (((isRk r) = false →
 Q ([]) 1) ∧
 ((isRk r) = true →
 ∃ (H1 : Int → List Int → Prop) (m1 : Int → List Int → Nat),
 H1 1 ([] : List Int) ∧
 ∀ (v5_1 : Int) (o100004_1 : List Int), H1 v5_1 o100004_1 →
 ( ((0 : Int) ≤ (r.length : Int) ∧ (r.length : Int) ≤ 62 ∧ InI (1 * (2 : Int) ^ (r.length : Int).toNat)) ∧
 ((v5_1 < 1 * (2 : Int) ^ (r.length : Int).toNat →
 ∃ (H2 : Int → List Int → Prop) (m2 : Int → List Int → Nat),
 H2 0 ([] : List Int) ∧
 ∀ (v22_2 : Int) (o100006_2 : List Int), H2 v22_2 o100006_2 →
 ( ((v22_2 < (r.length : Int) →
 ((0 : Int) ≤ v5_1 ∧ (0 : Int) ≤ v22_2 ∧ v22_2 ≤ 62) ∧
 ((0 : Int) ≤ v5_1 / (2 : Int) ^ v22_2.toNat ∧ v5_1 / (2 : Int) ^ v22_2.toNat ≤ 9223372036854775807) ∧
 (((v5_1 / (2 : Int) ^ v22_2.toNat) % 2 = 1 →
 ((o100006_2.length : Int) + (([v22_2]).length : Int) ≤ 1000000000) ∧
 (InI (v22_2 + 1)) ∧
 (H2 (v22_2 + 1) (o100006_2 ++ ([v22_2])) ∧ m2 (v22_2 + 1) (o100006_2 ++ ([v22_2])) < m2 v22_2 o100006_2)) ∧
 (¬ ((v5_1 / (2 : Int) ^ v22_2.toNat) % 2 = 1) →
 (InI (v22_2 + 1)) ∧
 (H2 (v22_2 + 1) o100006_2 ∧ m2 (v22_2 + 1) o100006_2 < m2 v22_2 o100006_2)))) ∧
 (¬ (v22_2 < (r.length : Int)) →
 (isTab r = true ∧ small o100006_2 ∧ ∀ x_ ∈ o100006_2, 0 ≤ x_ ∧ x_ < (r.length : Int)) ∧
 (((dec (SubP r o100006_2)) = true →
 ((o100004_1.length : Int) + (([v5_1]).length : Int) ≤ 1000000000) ∧
 (InI (v5_1 + 1)) ∧
 (H1 (v5_1 + 1) (o100004_1 ++ ([v5_1])) ∧ m1 (v5_1 + 1) (o100004_1 ++ ([v5_1])) < m1 v5_1 o100004_1)) ∧
 ((dec (SubP r o100006_2)) = false →
 (InI (v5_1 + 1)) ∧
 (H1 (v5_1 + 1) o100004_1 ∧ m1 (v5_1 + 1) o100004_1 < m1 v5_1 o100004_1))))))) ∧
 (¬ (v5_1 < 1 * (2 : Int) ^ (r.length : Int).toNat) →
 Q o100004_1 0)))))

theorem p_impl_isSubrack (r : List (List Int)) (list : List Int) (hp : isTab r = true ∧ small list ∧ ∀ x_ ∈ list, 0 ≤ x_ ∧ x_ < (r.length : Int)) : wp_impl_isSubrack r list (fun y0 => y0 = dec (SubP r list)) := by
  unfold wp_impl_isSubrack
  obtain ⟨hr, hs, hl⟩ := hp
  have hs' : (list.length : Int) ≤ 1000000000 := hs
  refine ⟨fun i => 0 ≤ i ∧ i ≤ (list.length : Int) ∧ Upto i fun i => ∀ j, 0 ≤ j → j < (list.length : Int) → el (el r (el list i)) (el list j) ∈ list, fun i => ((list.length : Int) - i).toNat, ⟨by omega, by omega, upto0⟩, ?_⟩
  rintro i ⟨i0, i1, iI⟩
  dsimp only
  refine ⟨fun ilt => ⟨⟨i0, ilt⟩, ?_⟩, fun ige => ?_⟩
  · refine ⟨fun j => 0 ≤ j ∧ j ≤ (list.length : Int) ∧ Upto j fun j => el (el r (el list i)) (el list j) ∈ list, fun j => ((list.length : Int) - j).toNat, ⟨by omega, by omega, upto0⟩, ?_⟩
    rintro j ⟨j0, j1, jI⟩
    dsimp only
    refine ⟨fun jlt => ?_, fun jge => ⟨⟨by omega, by omega⟩, ⟨by omega, by omega, upto1 iI fun j a b => jI j a (by omega)⟩, by omega⟩⟩
    have hi := hl _ (el_mem (l := list) (i := i) ⟨i0, ilt⟩)
    have hj := hl _ (el_mem (l := list) (i := j) ⟨j0, jlt⟩)
    have ll := rk_len hr hi
    refine ⟨⟨j0, jlt⟩, hi, ⟨hj.1, by omega⟩, hs, fun h => ?_, fun h => ⟨⟨by omega, by omega⟩, ⟨by omega, by omega, upto1 jI (List.contains_iff_mem.1 h)⟩, by omega⟩⟩
    refine (dec_f fun hS => ?_).symm
    rw [List.contains_iff_mem.2 (hS _ (el_mem (l := list) (i := i) ⟨i0, ilt⟩) _ (el_mem (l := list) (i := j) ⟨j0, jlt⟩))] at h
    cases h
  · refine (dec_t fun x hx y hy => ?_).symm
    obtain ⟨a, ha, rfl⟩ := mem_el hx
    obtain ⟨b, hb, rfl⟩ := mem_el hy
    exact iI a ha.1 (by omega) b hb.1 hb.2
theorem p_spec_l04Closed (t : List (List Int)) (mask : Int) (hp : isTab t = true ∧ 0 ≤ mask ∧ mask ≤ 9223372036854775807) : wp_spec_l04Closed t mask (fun y0 => y0 = dec (CloM t mask)) := by
  unfold wp_spec_l04Closed
  obtain ⟨ht, hm⟩ := hp
  have hn := isTab_len ht
  refine ⟨fun x => 0 ≤ x ∧ x ≤ (t.length : Int) ∧ Upto x fun x => ∀ y, 0 ≤ y → y < (t.length : Int) → bitP mask x → bitP mask y → bitP mask (el (el t x) y), fun x => ((t.length : Int) - x).toNat, ⟨by omega, by omega, upto0⟩, ?_⟩
  rintro x ⟨x0, x1, xI⟩
  dsimp only
  refine ⟨fun xlt => ?_, fun xge => (dec_t fun x y a b c d => xI x a (by omega) y c d).symm⟩
  refine ⟨fun y => 0 ≤ y ∧ y ≤ (t.length : Int) ∧ Upto y fun y => bitP mask x → bitP mask y → bitP mask (el (el t x) y), fun y => ((t.length : Int) - y).toNat, ⟨by omega, by omega, upto0⟩, ?_⟩
  rintro y ⟨y0, y1, yI⟩
  dsimp only
  refine ⟨fun ylt => ?_, fun yge => ⟨⟨by omega, by omega⟩, ⟨by omega, by omega, upto1 xI fun y a b => yI y a (by omega)⟩, by omega⟩⟩
  have e := rk_el ht (x := x) (y := y) ⟨x0, xlt⟩ ⟨y0, ylt⟩
  have l := rk_len ht (x := x) ⟨x0, xlt⟩
  have st : (bitP mask x → bitP mask y → bitP mask (el (el t x) y)) → InI (y + 1) ∧ (0 ≤ y + 1 ∧ y + 1 ≤ (t.length : Int) ∧ Upto (y + 1) fun y => bitP mask x → bitP mask y → bitP mask (el (el t x) y)) ∧ ((t.length : Int) - (y + 1)).toNat < ((t.length : Int) - y).toNat := fun h => ⟨⟨by omega, by omega⟩, ⟨by omega, by omega, upto1 yI h⟩, by omega⟩
  refine ⟨⟨x0, by omega⟩, ⟨hm.1, x0, by omega⟩, dv2 hm, fun h1 => ⟨⟨y0, by omega⟩, ⟨hm.1, y0, by omega⟩, dv2 hm, fun h2 => ⟨⟨x0, xlt⟩, ⟨y0, by omega⟩, ⟨e.1, by omega⟩, ⟨hm.1, e.1, by omega⟩, dv2 hm, fun h3 => ?_, fun h3 => st fun _ _ => ?_⟩, fun h2 => st fun _ h => absurd h h2⟩, fun h1 => st fun h _ => absurd h h1⟩
  · refine (dec_f fun hC => ?_).symm
    have := hC x y x0 xlt y0 ylt h1 h2
    unfold bitP at this
    omega
  · unfold bitP; omega
theorem p_spec_SubracksOf (r : List (List Int)) (hp : small2 r) : wp_spec_SubracksOf r (fun y0 y1 => y0 = SubT r ∧ y1 = rkE r) := by
  unfold wp_spec_SubracksOf SubT rkE
  refine ⟨hp, fun h => by rw [h]; exact ⟨rfl, rfl⟩, fun h => ?_⟩
  rw [h]
  have ht := isRk_tab h
  have hn := isTab_len ht
  have p2 := pow2_le (k := r.length) (by omega)
  rw [Int.toNat_natCast, Int.one_mul]
  refine ⟨fun s o => 1 ≤ s ∧ s ≤ (2 : Int) ^ r.length ∧ o = subsI r s, fun s _ => ((2 : Int) ^ r.length - s).toNat, ⟨by omega, by omega, by rfl⟩, ?_⟩
  rintro s o ⟨s0, s1, rfl⟩
  dsimp only
  have ol := subsI_len r s
  refine ⟨⟨by omega, by omega⟩, ⟨by omega, by omega, by omega, by omega⟩, fun slt => ⟨⟨ht, by omega, by omega⟩, fun h1 => ⟨by simp; omega, ⟨by omega, by omega⟩, ⟨by omega, by omega, by rw [subsI_succ s0, h1]; rfl⟩, by omega⟩, fun h1 => ⟨⟨by omega, by omega⟩, ⟨by omega, by omega, by rw [subsI_succ s0, h1]; simp⟩, by omega⟩⟩, fun sge => ⟨by rw [show s = (2 : Int) ^ r.length by omega]; rfl, rfl⟩⟩
theorem p_impl_SubracksOf (r : List (List Int)) (hp : small2 r) : wp_impl_SubracksOf r (fun y0 y1 => y0 = SubT r ∧ y1 = rkE r) := by
  unfold wp_impl_SubracksOf SubT rkE
  refine ⟨hp, fun h => by rw [h]; exact ⟨rfl, rfl⟩, fun h => ?_⟩
  rw [h]
  have ht := isRk_tab h
  have hn := isTab_len ht
  have p2 := pow2_le (k := r.length) (by omega)
  rw [Int.toNat_natCast, Int.one_mul]
  refine ⟨fun s o => 1 ≤ s ∧ s ≤ (2 : Int) ^ r.length ∧ o = subsI r s, fun s _ => ((2 : Int) ^ r.length - s).toNat, ⟨by omega, by omega, by rfl⟩, ?_⟩
  rintro s o ⟨s0, s1, rfl⟩
  dsimp only
  have ol := subsI_len r s
  refine ⟨⟨by omega, by omega, by omega, by omega⟩, fun slt => ?_, fun sge => ⟨by rw [show s = (2 : Int) ^ r.length by omega]; rfl, rfl⟩⟩
  refine ⟨fun x o => 0 ≤ x ∧ x ≤ (r.length : Int) ∧ o = memI x s, fun x _ => ((r.length : Int) - x).toNat, ⟨by omega, by omega, rfl⟩, ?_⟩
  rintro x o ⟨x0, x1, rfl⟩
  dsimp only
  have ml := memI_len x s
  refine ⟨fun xlt => ⟨⟨by omega, x0, by omega⟩, dv2 ⟨by omega, by omega⟩, fun h1 => ⟨by simp; omega, ⟨by omega, by omega⟩, ⟨by omega, by omega, by rw [memI_succ x0, dec_t (P := bitP s x) h1]; rfl⟩, by omega⟩, fun h1 => ⟨⟨by omega, by omega⟩, ⟨by omega, by omega, by rw [memI_succ x0, dec_f (P := bitP s x) h1]; simp⟩, by omega⟩⟩, fun xge => ?_⟩
  have hx : x = (r.length : Int) := by omega
  subst hx
  rw [dec_congr (clo_sub ht s)]
  exact ⟨⟨ht, by show _ ≤ (1000000000 : Int); omega, fun y hy => (mem_memI.1 hy).1⟩, fun h1 => ⟨by simp; omega, ⟨by omega, by omega⟩, ⟨by omega, by omega, by rw [subsI_succ s0, h1]; rfl⟩, by omega⟩, fun h1 => ⟨⟨by omega, by omega⟩, ⟨by omega, by omega, by rw [subsI_succ s0, h1]; simp⟩, by omega⟩⟩

set_option maxRecDepth 100000 in
set_option maxHeartbeats 4000000 in
theorem w_impl_isSubrack (r : List (List Int)) (list : List Int) (Q : Bool → Prop) (h : wp_impl_isSubrack r list Q) : AF Try.prog 87 [.agg [.lst (rows r)], .lst (ints list)] (fun R_ => ∃ y0, Q y0 ∧ R_ = cb y0) := by
  refine AF.ofWQ (af_enter (n := 34) Try.func87 rfl (by rfl) rfl (Nat.le_of_ble_eq_true rfl) ?_)
  unfold wp_impl_isSubrack at h
  refine aw_seq ?_
  refine aw_gh (gh_to (n := 34) (σ' := []) (env' := [(0, .c (.agg [.lst (rows r)])), (1, .c (.lst (ints list)))]) rfl rfl ⟨rfl, rfl, trivial⟩) ?_
  refine aw_region ?_
  refine run_w (ws_boxR rfl (.inl rfl) rfl ⟨rfl, ?_⟩)
  refine run_s (ss_assign rfl) rfl ?_
  refine run_nil ?_
  refine aw_seq ?_
  refine aw_seq ?_
  refine aw_region ?_
  refine run_s (ss_move rfl) rfl ?_
  refine run_s (ss_lenL (f := ci) rfl) rfl ?_
  refine run_s (ss_move rfl) rfl ?_
  refine run_nil ?_
  refine aw_block ?_
  obtain ⟨H1, m1, q1, h⟩ := h
  refine aw_loop1 (fun (v11_1 : Int) => ⟨[], [(1, .c (.lst (ints list))), (2, .c (.ptr [.lst (rows r)])), (9, .c (.lst (ints list))), (10, .c (ci (list.length : Int))), (11, .c (ci v11_1))], 34⟩) H1 m1 ⟨0, ghe_to (n := 34) rfl rfl ⟨rfl, rfl, rfl, rfl, rfl, trivial⟩, q1⟩ ?_
  rintro v11_1 q1
  replace h := h v11_1 q1
  refine aw_seq ?_
  refine aw_region ?_
  refine run_s (ss_lss rfl rfl) rfl ?_
  refine run_nil ?_
  refine aw_seq ?_
  refine aw_cond rfl (fun q2 => ?_) (fun q2 => ?_)
  · replace h := h.1 (of_decide_eq_true q2)
    refine aw_skip ?_
    refine aw_seq ?_
    refine aw_block ?_
    refine aw_seq ?_
    refine aw_region ?_
    obtain ⟨q3, h⟩ := h
    refine run_s (ss_idxL rfl rfl q3) rfl ?_
    refine run_s (ss_loadL (f := ci) rfl q3) rfl ?_
    refine run_s (ss_assign rfl) rfl ?_
    refine run_nil ?_
    refine aw_seq ?_
    refine aw_region ?_
    refine run_s (ss_move rfl) rfl ?_
    refine run_s (ss_lenL (f := ci) rfl) rfl ?_
    refine run_s (ss_move rfl) rfl ?_
    refine run_nil ?_
    refine aw_block ?_
    obtain ⟨H2, m2, q4, h⟩ := h
    refine aw_loop1 (fun (v17_2 : Int) => ⟨[], [(1, .c (.lst (ints list))), (2, .c (.ptr [.lst (rows r)])), (6, .c (ci (el list v11_1))), (9, .c (.lst (ints list))), (10, .c (ci (list.length : Int))), (11, .c (ci v11_1)), (15, .c (.lst (ints list))), (16, .c (ci (list.length : Int))), (17, .c (ci v17_2))], 34⟩) H2 m2 ⟨0, ghe_to (n := 34) rfl rfl ⟨rfl, rfl, rfl, rfl, rfl, rfl, rfl, rfl, rfl, trivial⟩, q4⟩ ?_
    rintro v17_2 q4
    replace h := h v17_2 q4
    refine aw_seq ?_
    refine aw_region ?_
    refine run_s (ss_lss rfl rfl) rfl ?_
    refine run_nil ?_
    refine aw_seq ?_
    refine aw_cond rfl (fun q5 => ?_) (fun q5 => ?_)
    · replace h := h.1 (of_decide_eq_true q5)
      refine aw_skip ?_
      refine aw_seq ?_
      refine aw_block ?_
      refine aw_seq ?_
      refine aw_region ?_
      obtain ⟨q6, h⟩ := h
      refine run_s (ss_idxL rfl rfl q6) rfl ?_
      refine run_s (ss_loadL (f := ci) rfl q6) rfl ?_
      refine run_s (ss_assign rfl) rfl ?_
      refine run_nil ?_
      refine aw_seq ?_
      refine aw_region ?_
      refine run_s (ss_move rfl) rfl ?_
      refine run_s (ss_field_ptr rfl) rfl ?_
      refine run_s (ss_load_ptr rfl rfl) rfl ?_
      refine run_s (ss_move rfl) rfl ?_
      obtain ⟨q7, h⟩ := h
      refine run_s (ss_idxL rfl rfl q7) rfl ?_
      refine run_s (ss_loadL (f := (fun r => C.lst (ints r))) rfl q7) rfl ?_
      refine run_s (ss_move rfl) rfl ?_
      obtain ⟨q8, h⟩ := h
      refine run_s (ss_idxL rfl rfl q8) rfl ?_
      refine run_s (ss_loadL (f := ci) rfl q8) rfl ?_
      obtain ⟨q9, h⟩ := h
      refine run_w (ws_call (xs := [.tmp 21, .tmp 29]) (ids := []) rfl rfl rfl rfl (c_k_Contains list (el (el r (el list v11_1)) (el list v17_2)) q9) rfl ?_ )
      rintro _ rfl
      refine ⟨rfl, ?_⟩
      refine run_s (ss_not rfl) rfl ?_
      refine run_nil ?_
      refine aw_cond rfl (fun q11 => ?_) (fun q11 => ?_)
      · replace h := h.1 ((bnot_t q11))
        refine aw_seq ?_
        refine aw_gh (gh_to (n := 34) (σ' := []) (env' := []) rfl rfl trivial) ?_
        refine aw_region ?_
        refine run_s (ss_assign rfl) rfl ?_
        refine run_nil ?_
        refine aw_ret ?_
        exact retAF_mk (retv1 rfl (rv_tmp rfl)) rfl rfl ⟨_, (cle_refl _), _, h, rfl⟩
      · replace h := h.2 ((bnot_f q11))
        refine aw_skip ?_
        refine aw_gh (gh_to (n := 34) (σ' := []) (env' := [(1, .c (.lst (ints list))), (2, .c (.ptr [.lst (rows r)])), (6, .c (ci (el list v11_1))), (9, .c (.lst (ints list))), (10, .c (ci (list.length : Int))), (11, .c (ci v11_1)), (15, .c (.lst (ints list))), (16, .c (ci (list.length : Int))), (17, .c (ci v17_2))]) rfl rfl ⟨rfl, rfl, rfl, rfl, rfl, rfl, rfl, rfl, rfl, trivial⟩) ?_
        refine aw_region ?_
        obtain ⟨q12, h⟩ := h
        refine run_s (ss_add rfl rfl q12) rfl ?_
        refine run_s (ss_move rfl) rfl ?_
        refine run_nil ?_
        exact ⟨v17_2 + 1, ghe_to (n := 34) rfl rfl ⟨rfl, rfl, rfl, rfl, rfl, rfl, rfl, rfl, rfl, trivial⟩, h.1, h.2⟩
    · replace h := h.2 (of_decide_eq_false q5)
      refine aw_exit ?_
      refine aw_gh (gh_to (n := 34) (σ' := []) (env' := [(1, .c (.lst (ints list))), (2, .c (.ptr [.lst (rows r)])), (9, .c (.lst (ints list))), (10, .c (ci (list.length : Int))), (11, .c (ci v11_1))]) rfl rfl ⟨rfl, rfl, rfl, rfl, rfl, trivial⟩) ?_
      refine aw_region ?_
      obtain ⟨q13, h⟩ := h
      refine run_s (ss_add rfl rfl q13) rfl ?_
      refine run_s (ss_move rfl) rfl ?_
      refine run_nil ?_
      exact ⟨v11_1 + 1, ghe_to (n := 34) rfl rfl ⟨rfl, rfl, rfl, rfl, rfl, trivial⟩, h.1, h.2⟩
  · replace h := h.2 (of_decide_eq_false q2)
    refine aw_exit ?_
    refine aw_seq ?_
    refine aw_gh (gh_to (n := 34) (σ' := []) (env' := []) rfl rfl trivial) ?_
    refine aw_region ?_
    refine run_s (ss_assign rfl) rfl ?_
    refine run_nil ?_
    refine aw_ret ?_
    exact retAF_mk (retv1 rfl (rv_tmp rfl)) rfl rfl ⟨_, (cle_refl _), _, h, rfl⟩

theorem c_impl_isSubrack (r : List (List Int)) (list : List Int) (hp : isTab r = true ∧ small list ∧ ∀ x_ ∈ list, 0 ≤ x_ ∧ x_ < (r.length : Int)) : AF Try.prog 87 [.agg [.lst (rows r)], .lst (ints list)] (fun R_ => R_ = cb (dec (SubP r list))) :=
  (w_impl_isSubrack r list (fun y0 => y0 = dec (SubP r list)) (p_impl_isSubrack r list hp)).mono (by rintro r ⟨_, rfl, rfl⟩; rfl)

set_option maxRecDepth 100000 in
set_option maxHeartbeats 4000000 in
theorem w_spec_l04Closed (t : List (List Int)) (mask : Int) (Q : Bool → Prop) (h : wp_spec_l04Closed t mask Q) : AF Try.prog 84 [.lst (rows t), ci mask] (fun R_ => ∃ y0, Q y0 ∧ R_ = cb y0) := by
  refine AF.ofWQ (af_enter (n := 47) Try.func84 rfl (by rfl) rfl (Nat.le_of_ble_eq_true rfl) ?_)
  unfold wp_spec_l04Closed at h
  refine aw_seq ?_
  refine aw_gh (gh_to (n := 47) (σ' := []) (env' := [(0, .c (.lst (rows t))), (1, .c (ci mask))]) rfl rfl ⟨rfl, rfl, trivial⟩) ?_
  refine aw_region ?_
  refine run_s (ss_assign rfl) rfl ?_
  refine run_nil ?_
  refine aw_seq ?_
  refine aw_seq ?_
  refine aw_region ?_
  refine run_s (ss_assign rfl) rfl ?_
  refine run_nil ?_
  refine aw_block ?_
  obtain ⟨H1, m1, q1, h⟩ := h
  refine aw_loop1 (fun (v5_1 : Int) => ⟨[], [(0, .c (.lst (rows t))), (1, .c (ci mask)), (5, .c (ci v5_1))], 47⟩) H1 m1 ⟨0, ghe_to (n := 47) rfl rfl ⟨rfl, rfl, rfl, trivial⟩, q1⟩ ?_
  rintro v5_1 q1
  replace h := h v5_1 q1
  refine aw_seq ?_
  refine aw_seq ?_
  refine aw_region ?_
  refine run_s (ss_move rfl) rfl ?_
  refine run_s (ss_move rfl) rfl ?_
  refine run_s (ss_lenL (f := (fun r => C.lst (ints r))) rfl) rfl ?_
  refine run_s (ss_lss rfl rfl) rfl ?_
  refine run_nil ?_
  refine aw_cond rfl (fun q2 => ?_) (fun q2 => ?_)
  · replace h := h.1 (of_decide_eq_true q2)
    refine aw_skip ?_
    refine aw_seq ?_
    refine aw_block ?_
    refine aw_seq ?_
    refine aw_region ?_
    refine run_s (ss_assign rfl) rfl ?_
    refine run_nil ?_
    refine aw_block ?_
    obtain ⟨H2, m2, q3, h⟩ := h
    refine aw_loop1 (fun (v6_2 : Int) => ⟨[], [(0, .c (.lst (rows t))), (1, .c (ci mask)), (5, .c (ci v5_1)), (6, .c (ci v6_2))], 47⟩) H2 m2 ⟨0, ghe_to (n := 47) rfl rfl ⟨rfl, rfl, rfl, rfl, trivial⟩, q3⟩ ?_
    rintro v6_2 q3
    replace h := h v6_2 q3
    refine aw_seq ?_
    refine aw_seq ?_
    refine aw_region ?_
    refine run_s (ss_move rfl) rfl ?_
    refine run_s (ss_move rfl) rfl ?_
    refine run_s (ss_lenL (f := (fun r => C.lst (ints r))) rfl) rfl ?_
    refine run_s (ss_lss rfl rfl) rfl ?_
    refine run_nil ?_
    refine aw_cond rfl (fun q4 => ?_) (fun q4 => ?_)
    · replace h := h.1 (of_decide_eq_true q4)
      refine aw_skip ?_
      refine aw_seq ?_
      refine aw_block ?_
      refine aw_seq ?_
      refine aw_region ?_
      refine run_s (ss_move rfl) rfl ?_
      refine run_s (ss_move rfl) rfl ?_
      obtain ⟨q5, h⟩ := h
      refine run_s (ss_convert rfl (IntWalk.u64_in _ q5)) rfl ?_
      obtain ⟨q6, h⟩ := h
      refine run_s (ss_shr rfl rfl q6) rfl ?_
      obtain ⟨q7, h⟩ := h
      refine run_s (ss_and1 rfl rfl q7) rfl ?_
      refine run_s (ss_eql rfl rfl) rfl ?_
      refine run_s (ss_move rfl) rfl ?_
      refine run_split (s := 25) rfl (fun q8 => ?_) (fun q8 => ?_)
      · replace h := h.1 (of_decide_eq_true q8)
        refine run_gt rfl rfl q8 ?_
        refine run_s (ss_move rfl) rfl ?_
        refine run_gt rfl rfl q8 ?_
        refine run_s (ss_move rfl) rfl ?_
        refine run_gt rfl rfl q8 ?_
        obtain ⟨q9, h⟩ := h
        refine run_s (ss_convert rfl (IntWalk.u64_in _ q9)) rfl ?_
        refine run_gt rfl rfl q8 ?_
        obtain ⟨q10, h⟩ := h
        refine run_s (ss_shr rfl rfl q10) rfl ?_
        refine run_gt rfl rfl q8 ?_
        obtain ⟨q11, h⟩ := h
        refine run_s (ss_and1 rfl rfl q11) rfl ?_
        refine run_gt rfl rfl q8 ?_
        refine run_s (ss_eql rfl rfl) rfl ?_
        refine run_s (ss_pickT rfl q8 rfl) rfl ?_
        refine run_s (ss_move rfl) rfl ?_
        refine run_split (s := 33) rfl (fun q12 => ?_) (fun q12 => ?_)
        · replace h := h.1 (of_decide_eq_true q12)
          refine run_gt rfl rfl q12 ?_
          refine run_s (ss_move rfl) rfl ?_
          refine run_gt rfl rfl q12 ?_
          refine run_s (ss_move rfl) rfl ?_
          refine run_gt rfl rfl q12 ?_
          refine run_s (ss_move rfl) rfl ?_
          refine run_gt rfl rfl q12 ?_
          obtain ⟨q13, h⟩ := h
          refine run_s (ss_idxL rfl rfl q13) rfl ?_
          refine run_gt rfl rfl q12 ?_
          refine run_s (ss_loadL (f := (fun r => C.lst (ints r))) rfl q13) rfl ?_
          refine run_gt rfl rfl q12 ?_
          refine run_s (ss_move rfl) rfl ?_
          refine run_gt rfl rfl q12 ?_
          obtain ⟨q14, h⟩ := h
          refine run_s (ss_idxL rfl rfl q14) rfl ?_
          refine run_gt rfl rfl q12 ?_
          refine run_s (ss_loadL (f := ci) rfl q14) rfl ?_
          refine run_gt rfl rfl q12 ?_
          obtain ⟨q15, h⟩ := h
          refine run_s (ss_convert rfl (IntWalk.u64_in _ q15)) rfl ?_
          refine run_gt rfl rfl q12 ?_
          obtain ⟨q16, h⟩ := h
          refine run_s (ss_shr rfl rfl q16) rfl ?_
          refine run_gt rfl rfl q12 ?_
          obtain ⟨q17, h⟩ := h
          refine run_s (ss_and1 rfl rfl q17) rfl ?_
          refine run_gt rfl rfl q12 ?_
          refine run_s (ss_eql rfl rfl) rfl ?_
          refine run_s (ss_pickT rfl q12 rfl) rfl ?_
          refine run_nil ?_
          refine aw_cond rfl (fun q18 => ?_) (fun q18 => ?_)
          · replace h := h.1 (of_decide_eq_true q18)
            refine aw_seq ?_
            refine aw_gh (gh_to (n := 47) (σ' := []) (env' := []) rfl rfl trivial) ?_
            refine aw_region ?_
            refine run_s (ss_assign rfl) rfl ?_
            refine run_nil ?_
            refine aw_ret ?_
            exact retAF_mk (retv1 rfl (rv_tmp rfl)) rfl rfl ⟨_, (cle_refl _), _, h, rfl⟩
          · replace h := h.2 (of_decide_eq_false q18)
            refine aw_skip ?_
            refine aw_gh (gh_to (n := 47) (σ' := []) (env' := [(0, .c (.lst (rows t))), (1, .c (ci mask)), (5, .c (ci v5_1)), (6, .c (ci v6_2)), (26, .c (ci mask)), (27, .c (ci v6_2)), (28, .c (cu v6_2)), (29, .c (ci (mask / (2 : Int) ^ v6_2.toNat))), (30, .c (ci ((mask / (2 : Int) ^ v6_2.toNat) % 2))), (31, .c (cb (decide ((mask / (2 : Int) ^ v6_2.toNat) % 2 = 1)))), (34, .c (ci mask)), (35, .c (.lst (rows t))), (36, .c (ci v5_1)), (37, .c (.ptr ((rows t).drop v5_1.toNat))), (38, .c (.lst (ints (el t v5_1)))), (39, .c (ci v6_2)), (40, .c (.ptr ((ints (el t v5_1)).drop v6_2.toNat))), (41, .c (ci (el (el t v5_1) v6_2))), (42, .c (cu (el (el t v5_1) v6_2))), (43, .c (ci (mask / (2 : Int) ^ (el (el t v5_1) v6_2).toNat))), (44, .c (ci ((mask / (2 : Int) ^ (el (el t v5_1) v6_2).toNat) % 2))), (45, .c (cb (decide ((mask / (2 : Int) ^ (el (el t v5_1) v6_2).toNat) % 2 = 0))))]) rfl rfl ⟨rfl, rfl, rfl, rfl, rfl, rfl, rfl, rfl, rfl, rfl, rfl, rfl, rfl, rfl, rfl, rfl, rfl, rfl, rfl, rfl, rfl, rfl, trivial⟩) ?_
            refine aw_region ?_
            refine run_s (ss_move rfl) rfl ?_
            obtain ⟨q19, h⟩ := h
            refine run_s (ss_add rfl rfl q19) rfl ?_
            refine run_s (ss_assign rfl) rfl ?_
            refine run_nil ?_
            exact ⟨v6_2 + 1, ghe_to (n := 47) rfl rfl ⟨rfl, rfl, rfl, rfl, trivial⟩, h.1, h.2⟩
        · replace h := h.2 (of_decide_eq_false q12)
          refine run_gf rfl rfl q12 rfl ?_
          refine run_gf rfl rfl q12 rfl ?_
          refine run_gf rfl rfl q12 rfl ?_
          refine run_gf rfl rfl q12 rfl ?_
          refine run_gf rfl rfl q12 rfl ?_
          refine run_gf rfl rfl q12 rfl ?_
          refine run_gf rfl rfl q12 rfl ?_
          refine run_gf rfl rfl q12 rfl ?_
          refine run_gf rfl rfl q12 rfl ?_
          refine run_gf rfl rfl q12 rfl ?_
          refine run_gf rfl rfl q12 rfl ?_
          refine run_gf rfl rfl q12 rfl ?_
          refine run_s (ss_pickF rfl q12 rfl) rfl ?_
          refine run_nil ?_
          refine aw_cond rfl (fun q20 => ?_) (fun q20 => ?_)
          · cases q20
          · skip
            refine aw_skip ?_
            refine aw_gh (gh_to (n := 47) (σ' := []) (env' := [(0, .c (.lst (rows t))), (1, .c (ci mask)), (5, .c (ci v5_1)), (6, .c (ci v6_2)), (26, .c (ci mask)), (27, .c (ci v6_2)), (28, .c (cu v6_2)), (29, .c (ci (mask / (2 : Int) ^ v6_2.toNat))), (30, .c (ci ((mask / (2 : Int) ^ v6_2.toNat) % 2))), (31, .c (cb (decide ((mask / (2 : Int) ^ v6_2.toNat) % 2 = 1))))]) rfl rfl ⟨rfl, rfl, rfl, rfl, rfl, rfl, rfl, rfl, rfl, rfl, trivial⟩) ?_
            refine aw_region ?_
            refine run_s (ss_move rfl) rfl ?_
            obtain ⟨q21, h⟩ := h
            refine run_s (ss_add rfl rfl q21) rfl ?_
            refine run_s (ss_assign rfl) rfl ?_
            refine run_nil ?_
            exact ⟨v6_2 + 1, ghe_to (n := 47) rfl rfl ⟨rfl, rfl, rfl, rfl, trivial⟩, h.1, h.2⟩
      · replace h := h.2 (of_decide_eq_false q8)
        refine run_gf rfl rfl q8 rfl ?_
        refine run_gf rfl rfl q8 rfl ?_
        refine run_gf rfl rfl q8 rfl ?_
        refine run_gf rfl rfl q8 rfl ?_
        refine run_gf rfl rfl q8 rfl ?_
        refine run_gf rfl rfl q8 rfl ?_
        refine run_s (ss_pickF rfl q8 rfl) rfl ?_
        refine run_s (ss_move rfl) rfl ?_
        refine run_split (s := 33) rfl (fun q22 => ?_) (fun q22 => ?_)
        · cases q22
        · skip
          refine run_gf rfl rfl q22 rfl ?_
          refine run_gf rfl rfl q22 rfl ?_
          refine run_gf rfl rfl q22 rfl ?_
          refine run_gf rfl rfl q22 rfl ?_
          refine run_gf rfl rfl q22 rfl ?_
          refine run_gf rfl rfl q22 rfl ?_
          refine run_gf rfl rfl q22 rfl ?_
          refine run_gf rfl rfl q22 rfl ?_
          refine run_gf rfl rfl q22 rfl ?_
          refine run_gf rfl rfl q22 rfl ?_
          refine run_gf rfl rfl q22 rfl ?_
          refine run_gf rfl rfl q22 rfl ?_
          refine run_s (ss_pickF rfl q22 rfl) rfl ?_
          refine run_nil ?_
          refine aw_cond rfl (fun q23 => ?_) (fun q23 => ?_)
          · cases q23
          · skip
            refine aw_skip ?_
            refine aw_gh (gh_to (n := 47) (σ' := []) (env' := [(0, .c (.lst (rows t))), (1, .c (ci mask)), (5, .c (ci v5_1)), (6, .c (ci v6_2))]) rfl rfl ⟨rfl, rfl, rfl, rfl, trivial⟩) ?_
            refine aw_region ?_
            refine run_s (ss_move rfl) rfl ?_
            obtain ⟨q24, h⟩ := h
            refine run_s (ss_add rfl rfl q24) rfl ?_
            refine run_s (ss_assign rfl) rfl ?_
            refine run_nil ?_
            exact ⟨v6_2 + 1, ghe_to (n := 47) rfl rfl ⟨rfl, rfl, rfl, rfl, trivial⟩, h.1, h.2⟩
    · replace h := h.2 (of_decide_eq_false q4)
      refine aw_exit ?_
      refine aw_region ?_
      refine run_s (ss_move rfl) rfl ?_
      obtain ⟨q25, h⟩ := h
      refine run_s (ss_add rfl rfl q25) rfl ?_
      refine run_s (ss_assign rfl) rfl ?_
      refine run_nil ?_
      exact ⟨v5_1 + 1, ghe_to (n := 47) rfl rfl ⟨rfl, rfl, rfl, trivial⟩, h.1, h.2⟩
  · replace h := h.2 (of_decide_eq_false q2)
    refine aw_exit ?_
    refine aw_seq ?_
    refine aw_gh (gh_to (n := 47) (σ' := []) (env' := []) rfl rfl trivial) ?_
    refine aw_region ?_
    refine run_s (ss_assign rfl) rfl ?_
    refine run_nil ?_
    refine aw_ret ?_
    exact retAF_mk (retv1 rfl (rv_tmp rfl)) rfl rfl ⟨_, (cle_refl _), _, h, rfl⟩

theorem c_spec_l04Closed (t : List (List Int)) (mask : Int) (hp : isTab t = true ∧ 0 ≤ mask ∧ mask ≤ 9223372036854775807) : AF Try.prog 84 [.lst (rows t), ci mask] (fun R_ => R_ = cb (dec (CloM t mask))) :=
  (w_spec_l04Closed t mask (fun y0 => y0 = dec (CloM t mask)) (p_spec_l04Closed t mask hp)).mono (by rintro r ⟨_, rfl, rfl⟩; rfl)

set_option maxRecDepth 100000 in
set_option maxHeartbeats 4000000 in
theorem w_spec_SubracksOf (r : List (List Int)) (Q : List Int → Int → Prop) (h : wp_spec_SubracksOf r Q) : AF Try.prog 19 [.agg [.lst (rows r)]] (fun R_ => ∃ y0 y1, Q y0 y1 ∧ R_ = .tup [.own (ints y0), ci y1]) := by
  refine AF.ofWQ (af_enter (n := 28) Try.func19 rfl (by rfl) rfl (Nat.le_of_ble_eq_true rfl) ?_)
  unfold wp_spec_SubracksOf at h
  refine aw_seq ?_
  refine aw_gh (gh_to (n := 28) (σ' := []) (env' := [(0, .c (.agg [.lst (rows r)]))]) rfl rfl ⟨rfl, trivial⟩) ?_
  refine aw_region ?_
  refine run_w (ws_boxR rfl (.inl rfl) rfl ⟨rfl, ?_⟩)
  refine run_s (ss_assign rfl) rfl ?_
  refine run_s (ss_assign rfl) rfl ?_
  refine run_nil ?_
  refine aw_seq ?_
  refine aw_seq ?_
  refine aw_region ?_
  refine run_s (ss_load_struct rfl (Nat.le_of_ble_eq_true rfl)) rfl ?_
  obtain ⟨q1, h⟩ := h
  refine run_w (ws_call (xs := [.tmp 6]) (ids := []) rfl rfl rfl rfl (c_spec_l03Is r q1) rfl ?_ )
  rintro _ rfl
  refine ⟨rfl, ?_⟩
  refine run_s (ss_not rfl) rfl ?_
  refine run_nil ?_
  refine aw_cond rfl (fun q3 => ?_) (fun q3 => ?_)
  · replace h := h.1 ((bnot_t q3))
    refine aw_seq ?_
    refine aw_gh (gh_to (n := 28) (σ' := []) (env' := [(2, .c (cnil)), (3, .c (ci 0))]) rfl rfl ⟨rfl, rfl, trivial⟩) ?_
    refine aw_region ?_
    refine run_s (ss_assign rfl) rfl ?_
    refine run_s (ss_assign rfl) rfl ?_
    refine run_nil ?_
    refine aw_ret ?_
    exact retAF_mk (retv2 rfl (rv_tmp rfl) (rv_tmp rfl)) rfl rfl ⟨_, (cle_tup (cleL_cons cle_nilO (cleL_cons (cle_refl _) cleL_nil))), _, _, h, rfl⟩
  · replace h := h.2 ((bnot_f q3))
    refine aw_skip ?_
    refine aw_seq ?_
    refine aw_gh (gh_to (n := 28) (σ' := []) (env' := [(1, .c (.ptr [.lst (rows r)]))]) rfl rfl ⟨rfl, trivial⟩) ?_
    refine aw_region ?_
    refine run_w (ws_buildSlice (id := 9) (ps := []) rfl rfl (Nat.le_of_ble_eq_true rfl) rfl ⟨rfl, ?_⟩)
    refine run_s (ss_assign rfl) rfl ?_
    refine run_nil ?_
    refine aw_seq ?_
    refine aw_seq ?_
    refine aw_region ?_
    refine run_s (ss_assign rfl) rfl ?_
    refine run_nil ?_
    refine aw_block ?_
    obtain ⟨H1, m1, q4, h⟩ := h
    refine aw_loop2 (fun (v5_1 : Int) (o9_1 : List Int) => ⟨[(9, ⟨ints o9_1, []⟩)], [(1, .c (.ptr [.lst (rows r)])), (4, .ref 9), (5, .c (ci v5_1))], 28⟩) H1 m1 ⟨1, ([] : List Int), ghe_to (n := 28) rfl rfl ⟨rfl, rfl, rfl, trivial⟩, q4⟩ ?_
    rintro v5_1 o9_1 q4
    replace h := h v5_1 o9_1 q4
    refine aw_seq ?_
    refine aw_seq ?_
    refine aw_region ?_
    refine run_s (ss_move rfl) rfl ?_
    refine run_s (ss_field_ptr rfl) rfl ?_
    refine run_s (ss_load_ptr rfl rfl) rfl ?_
    refine run_s (ss_lenL (f := (fun r => C.lst (ints r))) rfl) rfl ?_
    obtain ⟨q5, h⟩ := h
    refine run_s (ss_convert rfl (IntWalk.u64_in _ q5)) rfl ?_
    obtain ⟨q6, h⟩ := h
    refine run_s (ss_shl rfl rfl q6) rfl ?_
    refine run_s (ss_lss rfl rfl) rfl ?_
    refine run_nil ?_
    refine aw_cond rfl (fun q7 => ?_) (fun q7 => ?_)
    · replace h := h.1 (of_decide_eq_true q7)
      refine aw_skip ?_
      refine aw_seq ?_
      refine aw_block ?_
      refine aw_seq ?_
      refine aw_gh (gh_to (n := 28) (σ' := [(9, ⟨ints o9_1, []⟩)]) (env' := [(1, .c (.ptr [.lst (rows r)])), (4, .ref 9), (5, .c (ci v5_1))]) rfl rfl ⟨rfl, rfl, rfl, trivial⟩) ?_
      refine aw_region ?_
      refine run_s (ss_field_ptr rfl) rfl ?_
      refine run_s (ss_load_ptr rfl rfl) rfl ?_
      refine run_s (ss_move rfl) rfl ?_
      obtain ⟨q8, h⟩ := h
      refine run_w (ws_call (xs := [.tmp 20, .tmp 21]) (ids := []) rfl rfl rfl rfl (c_spec_l04Closed r v5_1 q8) rfl ?_ )
      rintro _ rfl
      refine ⟨rfl, ?_⟩
      refine run_nil ?_
      refine aw_cond rfl (fun q10 => ?_) (fun q10 => ?_)
      · replace h := h.1 (q10)
        refine aw_region ?_
        refine run_s (ss_move rfl) rfl ?_
        refine run_s (ss_move rfl) rfl ?_
        refine run_w (ws_buildSlice (id := 25) (ps := [(0, .tmp 24)]) rfl rfl (Nat.le_of_ble_eq_true rfl) rfl ⟨rfl, ?_⟩)
        obtain ⟨q11, h⟩ := h
        refine run_w (ws_app1 ci (l := o9_1) (m := [v5_1]) rfl rfl rfl rfl rfl (Nat.le_of_ble_eq_true rfl) q11 ⟨rfl, ?_⟩)
        refine run_s (ss_assign rfl) rfl ?_
        refine run_nil ?_
        refine aw_gh (gh_to (n := 28) (σ' := [(9, ⟨ints (o9_1 ++ ([v5_1])), []⟩)]) (env' := [(1, .c (.ptr [.lst (rows r)])), (4, .ref 9), (5, .c (ci v5_1))]) rfl rfl ⟨rfl, rfl, rfl, trivial⟩) ?_
        refine aw_region ?_
        refine run_s (ss_move rfl) rfl ?_
        obtain ⟨q12, h⟩ := h
        refine run_s (ss_add rfl rfl q12) rfl ?_
        refine run_s (ss_assign rfl) rfl ?_
        refine run_nil ?_
        exact ⟨v5_1 + 1, o9_1 ++ ([v5_1]), ghe_to (n := 28) rfl rfl ⟨rfl, rfl, rfl, trivial⟩, h.1, h.2⟩
      · replace h := h.2 (q10)
        refine aw_skip ?_
        refine aw_region ?_
        refine run_s (ss_move rfl) rfl ?_
        obtain ⟨q13, h⟩ := h
        refine run_s (ss_add rfl rfl q13) rfl ?_
        refine run_s (ss_assign rfl) rfl ?_
        refine run_nil ?_
        exact ⟨v5_1 + 1, o9_1, ghe_to (n := 28) rfl rfl ⟨rfl, rfl, rfl, trivial⟩, h.1, h.2⟩
    · replace h := h.2 (of_decide_eq_false q7)
      refine aw_exit ?_
      refine aw_seq ?_
      refine aw_gh (gh_to (n := 28) (σ' := [(9, ⟨ints o9_1, []⟩)]) (env' := [(4, .ref 9)]) rfl rfl ⟨rfl, trivial⟩) ?_
      refine aw_region ?_
      refine run_s (ss_move rfl) rfl ?_
      refine run_s (ss_assign rfl) rfl ?_
      refine run_s (ss_assign rfl) rfl ?_
      refine run_nil ?_
      refine aw_ret ?_
      exact retAF_mk (retv2 rfl (rv_tmp rfl) (rv_tmp rfl)) rfl rfl ⟨_, (cle_refl _), _, _, h, rfl⟩

theorem c_spec_SubracksOf (r : List (List Int)) (hp : small2 r) : AF Try.prog 19 [.agg [.lst (rows r)]] (fun R_ => R_ = .tup [.own (ints (SubT r)), ci (rkE r)]) :=
  (w_spec_SubracksOf r (fun y0 y1 => y0 = SubT r ∧ y1 = rkE r) (p_spec_SubracksOf r hp)).mono (by rintro r ⟨_, _, ⟨rfl, rfl⟩, rfl⟩; rfl)

set_option maxRecDepth 100000 in
set_option maxHeartbeats 4000000 in
theorem w_impl_SubracksOf (r : List (List Int)) (Q : List Int → Int → Prop) (h : wp_impl_SubracksOf r Q) : AF Try.prog 18 [.agg [.lst (rows r)]] (fun R_ => ∃ y0 y1, Q y0 y1 ∧ R_ = .tup [.own (ints y0), ci y1]) := by
  refine AF.ofWQ (af_enter (n := 43) Try.func18 rfl (by rfl) rfl (Nat.le_of_ble_eq_true rfl) ?_)
  unfold wp_impl_SubracksOf at h
  refine aw_seq ?_
  refine aw_gh (gh_to (n := 43) (σ' := []) (env' := [(0, .c (.agg [.lst (rows r)]))]) rfl rfl ⟨rfl, trivial⟩) ?_
  refine aw_region ?_
  refine run_w (ws_boxR rfl (.inl rfl) rfl ⟨rfl, ?_⟩)
  refine run_s (ss_assign rfl) rfl ?_
  refine run_s (ss_assign rfl) rfl ?_
  refine run_nil ?_
  refine aw_seq ?_
  refine aw_seq ?_
  refine aw_region ?_
  refine run_s (ss_load_struct rfl (Nat.le_of_ble_eq_true rfl)) rfl ?_
  obtain ⟨q1, h⟩ := h
  refine run_w (ws_call (xs := [.tmp 8]) (ids := []) rfl rfl rfl rfl (c_impl_IsRack r q1) rfl ?_ )
  rintro _ rfl
  refine ⟨rfl, ?_⟩
  refine run_s (ss_not rfl) rfl ?_
  refine run_nil ?_
  refine aw_cond rfl (fun q3 => ?_) (fun q3 => ?_)
  · replace h := h.1 ((bnot_t q3))
    refine aw_seq ?_
    refine aw_gh (gh_to (n := 43) (σ' := []) (env' := [(2, .c (cnil)), (3, .c (ci 0))]) rfl rfl ⟨rfl, rfl, trivial⟩) ?_
    refine aw_region ?_
    refine run_s (ss_assign rfl) rfl ?_
    refine run_s (ss_assign rfl) rfl ?_
    refine run_nil ?_
    refine aw_ret ?_
    exact retAF_mk (retv2 rfl (rv_tmp rfl) (rv_tmp rfl)) rfl rfl ⟨_, (cle_tup (cleL_cons cle_nilO (cleL_cons (cle_refl _) cleL_nil))), _, _, h, rfl⟩
  · replace h := h.2 ((bnot_f q3))
    refine aw_skip ?_
    refine aw_seq ?_
    refine aw_gh (gh_to (n := 43) (σ' := []) (env' := [(1, .c (.ptr [.lst (rows r)]))]) rfl rfl ⟨rfl, trivial⟩) ?_
    refine aw_region ?_
    refine run_s (ss_assign rfl) rfl ?_
    refine run_nil ?_
    refine aw_seq ?_
    refine aw_seq ?_
    refine aw_region ?_
    refine run_s (ss_assign rfl) rfl ?_
    refine run_nil ?_
    refine aw_block ?_
    obtain ⟨H1, m1, q4, h⟩ := h
    refine aw_loop2 (fun (v5_1 : Int) (o100004_1 : List Int) => ⟨[(100004, ⟨ints o100004_1, []⟩)], [(1, .c (.ptr [.lst (rows r)])), (4, .ref 100004), (5, .c (ci v5_1))], 43⟩) H1 m1 ⟨1, ([] : List Int), ghe_step (gh_nilE (i := 4) (id := 100004) rfl rfl) (ghe_to (n := 43) rfl rfl ⟨rfl, rfl, rfl, trivial⟩), q4⟩ ?_
    rintro v5_1 o100004_1 q4
    replace h := h v5_1 o100004_1 q4
    refine aw_seq ?_
    refine aw_seq ?_
    refine aw_region ?_
    refine run_s (ss_move rfl) rfl ?_
    refine run_s (ss_field_ptr rfl) rfl ?_
    refine run_s (ss_load_ptr rfl rfl) rfl ?_
    refine run_s (ss_lenL (f := (fun r => C.lst (ints r))) rfl) rfl ?_
    obtain ⟨q5, h⟩ := h
    refine run_s (ss_shl rfl rfl q5) rfl ?_
    refine run_s (ss_lss rfl rfl) rfl ?_
    refine run_nil ?_
    refine aw_cond rfl (fun q6 => ?_) (fun q6 => ?_)
    · replace h := h.1 (of_decide_eq_true q6)
      refine aw_skip ?_
      refine aw_seq ?_
      refine aw_block ?_
      refine aw_seq ?_
      refine aw_gh (gh_to (n := 43) (σ' := [(100004, ⟨ints o100004_1, []⟩)]) (env' := [(1, .c (.ptr [.lst (rows r)])), (4, .ref 100004), (5, .c (ci v5_1))]) rfl rfl ⟨rfl, rfl, rfl, trivial⟩) ?_
      refine aw_region ?_
      refine run_s (ss_assign rfl) rfl ?_
      refine run_nil ?_
      refine aw_seq ?_
      refine aw_seq ?_
      refine aw_region ?_
      refine run_s (ss_field_ptr rfl) rfl ?_
      refine run_s (ss_load_ptr rfl rfl) rfl ?_
      refine run_s (ss_lenL (f := (fun r => C.lst (ints r))) rfl) rfl ?_
      refine run_s (ss_move rfl) rfl ?_
      refine run_nil ?_
      refine aw_block ?_
      obtain ⟨H2, m2, q7, h⟩ := h
      refine aw_loop2 (fun (v22_2 : Int) (o100006_2 : List Int) => ⟨[(100006, ⟨ints o100006_2, []⟩), (100004, ⟨ints o100004_1, []⟩)], [(1, .c (.ptr [.lst (rows r)])), (4, .ref 100004), (5, .c (ci v5_1)), (6, .ref 100006), (21, .c (ci (r.length : Int))), (22, .c (ci v22_2))], 43⟩) H2 m2 ⟨0, ([] : List Int), ghe_step (gh_nilE (i := 6) (id := 100006) rfl rfl) (ghe_to (n := 43) rfl rfl ⟨rfl, rfl, rfl, rfl, rfl, rfl, trivial⟩), q7⟩ ?_
      rintro v22_2 o100006_2 q7
      replace h := h v22_2 o100006_2 q7
      refine aw_seq ?_
      refine aw_region ?_
      refine run_s (ss_lss rfl rfl) rfl ?_
      refine run_nil ?_
      refine aw_seq ?_
      refine aw_cond rfl (fun q8 => ?_) (fun q8 => ?_)
      · replace h := h.1 (of_decide_eq_true q8)
        refine aw_skip ?_
        refine aw_seq ?_
        refine aw_block ?_
        refine aw_seq ?_
        refine aw_region ?_
        refine run_s (ss_move rfl) rfl ?_
        refine run_s (ss_assign rfl) rfl ?_
        refine run_nil ?_
        refine aw_seq ?_
        refine aw_region ?_
        refine run_s (ss_move rfl) rfl ?_
        refine run_s (ss_move rfl) rfl ?_
        obtain ⟨q9, h⟩ := h
        refine run_s (ss_shr rfl rfl q9) rfl ?_
        obtain ⟨q10, h⟩ := h
        refine run_s (ss_and1 rfl rfl q10) rfl ?_
        refine run_s (ss_eql rfl rfl) rfl ?_
        refine run_nil ?_
        refine aw_cond rfl (fun q11 => ?_) (fun q11 => ?_)
        · replace h := h.1 (of_decide_eq_true q11)
          refine aw_gh (gh_to (n := 43) (σ' := [(100006, ⟨ints o100006_2, []⟩), (100004, ⟨ints o100004_1, []⟩)]) (env' := [(1, .c (.ptr [.lst (rows r)])), (4, .ref 100004), (5, .c (ci v5_1)), (6, .ref 100006), (7, .c (ci v22_2)), (21, .c (ci (r.length : Int))), (22, .c (ci v22_2))]) rfl rfl ⟨rfl, rfl, rfl, rfl, rfl, rfl, rfl, trivial⟩) ?_
          refine aw_region ?_
          refine run_s (ss_move rfl) rfl ?_
          refine run_s (ss_move rfl) rfl ?_
          refine run_w (ws_buildSlice (id := 32) (ps := [(0, .tmp 31)]) rfl rfl (Nat.le_of_ble_eq_true rfl) rfl ⟨rfl, ?_⟩)
          obtain ⟨q12, h⟩ := h
          refine run_w (ws_app1 ci (l := o100006_2) (m := [v22_2]) rfl rfl rfl rfl rfl (Nat.le_of_ble_eq_true rfl) q12 ⟨rfl, ?_⟩)
          refine run_s (ss_assign rfl) rfl ?_
          refine run_nil ?_
          refine aw_gh (gh_to (n := 43) (σ' := [(100006, ⟨ints (o100006_2 ++ ([v22_2])), []⟩), (100004, ⟨ints o100004_1, []⟩)]) (env' := [(1, .c (.ptr [.lst (rows r)])), (4, .ref 100004), (5, .c (ci v5_1)), (6, .ref 100006), (21, .c (ci (r.length : Int))), (22, .c (ci v22_2))]) rfl rfl ⟨rfl, rfl, rfl, rfl, rfl, rfl, trivial⟩) ?_
          refine aw_region ?_
          obtain ⟨q13, h⟩ := h
          refine run_s (ss_add rfl rfl q13) rfl ?_
          refine run_s (ss_move rfl) rfl ?_
          refine run_nil ?_
          exact ⟨v22_2 + 1, o100006_2 ++ ([v22_2]), ghe_to (n := 43) rfl rfl ⟨rfl, rfl, rfl, rfl, rfl, rfl, trivial⟩, h.1, h.2⟩
        · replace h := h.2 (of_decide_eq_false q11)
          refine aw_skip ?_
          refine aw_gh (gh_to (n := 43) (σ' := [(100006, ⟨ints o100006_2, []⟩), (100004, ⟨ints o100004_1, []⟩)]) (env' := [(1, .c (.ptr [.lst (rows r)])), (4, .ref 100004), (5, .c (ci v5_1)), (6, .ref 100006), (21, .c (ci (r.length : Int))), (22, .c (ci v22_2))]) rfl rfl ⟨rfl, rfl, rfl, rfl, rfl, rfl, trivial⟩) ?_
          refine aw_region ?_
          obtain ⟨q14, h⟩ := h
          refine run_s (ss_add rfl rfl q14) rfl ?_
          refine run_s (ss_move rfl) rfl ?_
          refine run_nil ?_
          exact ⟨v22_2 + 1, o100006_2, ghe_to (n := 43) rfl rfl ⟨rfl, rfl, rfl, rfl, rfl, rfl, trivial⟩, h.1, h.2⟩
      · replace h := h.2 (of_decide_eq_false q8)
        refine aw_exit ?_
        refine aw_seq ?_
        refine aw_region ?_
        refine run_s (ss_load_struct rfl (Nat.le_of_ble_eq_true rfl)) rfl ?_
        refine run_s (ss_move rfl) rfl ?_
        obtain ⟨q15, h⟩ := h
        refine run_w (ws_callR (xs := [.tmp 35, .tmp 36]) (cs := [.agg [.lst (rows r)], .own (ints o100006_2)]) (ids := []) rfl (.inr ⟨rfl, rfl⟩) rfl rfl (fz_cons rfl (fz_cons (fz_own (fz_map (fun _ => rfl) _)) fz_nil)) (c_impl_isSubrack r o100006_2 q15) rfl ?_ )
        rintro _ rfl
        refine ⟨rfl, rfl, ?_⟩
        refine run_nil ?_
        refine aw_cond rfl (fun q17 => ?_) (fun q17 => ?_)
        · replace h := h.1 (q17)
          refine aw_gh (gh_to (n := 43) (σ' := [(100006, ⟨ints o100006_2, []⟩), (100004, ⟨ints o100004_1, []⟩)]) (env' := [(1, .c (.ptr [.lst (rows r)])), (4, .ref 100004), (5, .c (ci v5_1))]) rfl rfl ⟨rfl, rfl, rfl, trivial⟩) ?_
          refine aw_region ?_
          refine run_s (ss_move rfl) rfl ?_
          refine run_s (ss_move rfl) rfl ?_
          refine run_w (ws_buildSlice (id := 40) (ps := [(0, .tmp 39)]) rfl rfl (Nat.le_of_ble_eq_true rfl) rfl ⟨rfl, ?_⟩)
          obtain ⟨q18, h⟩ := h
          refine run_w (ws_app1 ci (l := o100004_1) (m := [v5_1]) rfl rfl rfl rfl rfl (Nat.le_of_ble_eq_true rfl) q18 ⟨rfl, ?_⟩)
          refine run_s (ss_assign rfl) rfl ?_
          refine run_nil ?_
          refine aw_region ?_
          refine run_s (ss_move rfl) rfl ?_
          obtain ⟨q19, h⟩ := h
          refine run_s (ss_add rfl rfl q19) rfl ?_
          refine run_s (ss_assign rfl) rfl ?_
          refine run_nil ?_
          exact ⟨v5_1 + 1, o100004_1 ++ ([v5_1]), ghe_step (gh_frzE (id := 100006) ci rfl (fun _ => rfl)) (ghe_to (n := 43) rfl rfl ⟨rfl, rfl, rfl, trivial⟩), h.1, h.2⟩
        · replace h := h.2 (q17)
          refine aw_skip ?_
          refine aw_gh (gh_to (n := 43) (σ' := [(100006, ⟨ints o100006_2, []⟩), (100004, ⟨ints o100004_1, []⟩)]) (env' := [(1, .c (.ptr [.lst (rows r)])), (4, .ref 100004), (5, .c (ci v5_1))]) rfl rfl ⟨rfl, rfl, rfl, trivial⟩) ?_
          refine aw_region ?_
          refine run_s (ss_move rfl) rfl ?_
          obtain ⟨q20, h⟩ := h
          refine run_s (ss_add rfl rfl q20) rfl ?_
          refine run_s (ss_assign rfl) rfl ?_
          refine run_nil ?_
          exact ⟨v5_1 + 1, o100004_1, ghe_step (gh_frzE (id := 100006) ci rfl (fun _ => rfl)) (ghe_to (n := 43) rfl rfl ⟨rfl, rfl, rfl, trivial⟩), h.1, h.2⟩
    · replace h := h.2 (of_decide_eq_false q6)
      refine aw_exit ?_
      refine aw_seq ?_
      refine aw_gh (gh_to (n := 43) (σ' := [(100004, ⟨ints o100004_1, []⟩)]) (env' := [(4, .ref 100004)]) rfl rfl ⟨rfl, trivial⟩) ?_
      refine aw_region ?_
      refine run_s (ss_move rfl) rfl ?_
      refine run_s (ss_assign rfl) rfl ?_
      refine run_s (ss_assign rfl) rfl ?_
      refine run_nil ?_
      refine aw_ret ?_
      exact retAF_mk (retv2 rfl (rv_tmp rfl) (rv_tmp rfl)) rfl rfl ⟨_, (cle_refl _), _, _, h, rfl⟩

theorem c_impl_SubracksOf (r : List (List Int)) (hp : small2 r) : AF Try.prog 18 [.agg [.lst (rows r)]] (fun R_ => R_ = .tup [.own (ints (SubT r)), ci (rkE r)]) :=
  (w_impl_SubracksOf r (fun y0 y1 => y0 = SubT r ∧ y1 = rkE r) (p_impl_SubracksOf r hp)).mono (by rintro r ⟨_, _, ⟨rfl, rfl⟩, rfl⟩; rfl)

def wp_spec_l01Own2 (lists : List (List Int)) (Q : List (List Int) → Prop) : Prop :=
 ∃ (H1 : Int → List (List Int) → Prop) (m1 : Int → List (List Int) → Nat),
 H1 0 ([] : List (List Int)) ∧
 ∀ (v4_1 : Int) (o5_1 : List (List Int)), H1 v4_1 o5_1 →
 ( ((v4_1 < (lists.length : Int) →
 (0 ≤ v4_1 ∧ v4_1 < (lists.length : Int)) ∧
 (small (el lists v4_1)) ∧
 ((o5_1.length : Int) + (([(el lists v4_1)]).length : Int) ≤ 1000000000) ∧
 (InI (v4_1 + 1)) ∧
 (H1 (v4_1 + 1) (o5_1 ++ ([(el lists v4_1)])) ∧ m1 (v4_1 + 1) (o5_1 ++ ([(el lists v4_1)])) < m1 v4_1 o5_1)) ∧
 (¬ (v4_1 < (lists.length : Int)) →
 Q o5_1)))

def wp_impl_RestrictRack_1 (x : Int) (y : Int) (list : List Int) (r : List (List Int)) (Q : Int → Prop) : Prop :=
 (0 ≤ x ∧ x < (list.length : Int)) ∧
 (0 ≤ el list x ∧ el list x < (r.length : Int)) ∧
 (0 ≤ y ∧ y < (list.length : Int)) ∧
 (0 ≤ el list y ∧ el list y < ((el r (el list x)).length : Int)) ∧
 (small list) ∧
 Q (idxI list (el (el r (el list x)) (el list y)))

def wp_impl_RestrictRack (r : List (List Int)) (list : List Int) (Q : List (List Int) → Int → Prop) : Prop :=
 (small2 r) ∧
 (((isRk r) = false →
 Q ([]) 1) ∧
 ((isRk r) = true →
 (small list ∧ 0 ≤ (r.length : Int) ∧ (r.length : Int) ≤ 1000000000) ∧
 (((list.all (fun z_ => decide (0 ≤ z_) && decide (z_ ≤ (r.length : Int) - 1))) = false →
 Q ([]) 2) ∧
 ((list.all (fun z_ => decide (0 ≤ z_) && decide (z_ ≤ (r.length : Int) - 1))) = true →
 (small list) ∧
 (((incB list) = false →
 Q ([]) 2) ∧
 ((incB list) = true →
 (((list.length : Int) = 0 →
 Q ([]) 5) ∧
 (¬ ((list.length : Int) = 0) →
 (isTab r = true ∧ small list ∧ ∀ x_ ∈ list, 0 ≤ x_ ∧ x_ < (r.length : Int)) ∧
 (((dec (SubP r list)) = false →
 Q ([]) 5) ∧
 ((dec (SubP r list)) = true →
 (0 ≤ (list.length : Int) ∧ (list.length : Int) ≤ 1000000 ∧ ∀ x_ y_, 0 ≤ x_ → x_ < (list.length : Int) → 0 ≤ y_ → y_ < (list.length : Int) → (fun z0 z1 => isTab r = true ∧ small list ∧ (∀ x_ ∈ list, 0 ≤ x_ ∧ x_ < (r.length : Int)) ∧ 0 ≤ z0 ∧ z0 < (list.length : Int) ∧ 0 ≤ z1 ∧ z1 < (list.length : Int)) x_ y_ ∧ InI ((fun z0 z1 => resV r list z0 z1) x_ y_)) ∧
 Q (tab (list.length : Int) (fun z0 z1 => resV r list z0 z1)) 0))))))))))

theorem p_spec_l01Own2 (lists : List (List Int)) (hp : small2 lists) : wp_spec_l01Own2 lists (fun y0 => y0 = lists) := by
  unfold wp_spec_l01Own2
  have h1 := hp.1
  refine ⟨fun i o => 0 ≤ i ∧ i ≤ (lists.length : Int) ∧ o.length = i.toNat ∧ Upto i fun x => el o x = el lists x, fun i _ => ((lists.length : Int) - i).toNat, ⟨by omega, by omega, by simp, upto0⟩, ?_⟩
  rintro i o ⟨i0, i1, il, iI⟩
  dsimp only
  exact ⟨fun ilt => ⟨⟨i0, ilt⟩, hp.2 _ (el_mem ⟨i0, ilt⟩), by simp; omega, ⟨by omega, by omega⟩, ⟨by omega, by omega, by simp; omega, app1 (f := fun x => el lists x) (by omega) iI rfl⟩, by omega⟩, fun ige => ext_el (by omega) fun j a b => iI j a (by omega)⟩
theorem p_impl_RestrictRack_1 (x y : Int) (list : List Int) (r : List (List Int)) (hp : isTab r = true ∧ small list ∧ (∀ x_ ∈ list, 0 ≤ x_ ∧ x_ < (r.length : Int)) ∧ 0 ≤ x ∧ x < (list.length : Int) ∧ 0 ≤ y ∧ y < (list.length : Int)) : wp_impl_RestrictRack_1 x y list r (fun y0 => y0 = resV r list x y) := by
  obtain ⟨h1, h2, h3, x0, x1, y0, y1⟩ := hp
  have hx := h3 _ (el_mem (l := list) (i := x) ⟨x0, x1⟩)
  have hy := h3 _ (el_mem (l := list) (i := y) ⟨y0, y1⟩)
  have l := rk_len h1 hx
  exact ⟨⟨x0, x1⟩, hx, ⟨y0, y1⟩, ⟨hy.1, by omega⟩, h2, rfl⟩
theorem res1 {r : List (List Int)} {l : List Int} (h : isRk r = false) : [] = ResT r l ∧ 1 = ResE r l := by
  have e : ResE r l = 1 := by unfold ResE; rw [h]; rfl
  exact ⟨by unfold ResT; rw [e]; rfl, e.symm⟩
theorem res2 {r : List (List Int)} {l : List Int} (h : isRk r = true) (h2 : ((l.all fun z_ => decide (0 ≤ z_) && decide (z_ ≤ (r.length : Int) - 1)) && incB l) = false) : [] = ResT r l ∧ 2 = ResE r l := by
  have e : ResE r l = 2 := by unfold ResE; rw [h, h2]; rfl
  exact ⟨by unfold ResT; rw [e]; rfl, e.symm⟩
theorem res5 {r : List (List Int)} {l : List Int} (h : isRk r = true) (h2 : ((l.all fun z_ => decide (0 ≤ z_) && decide (z_ ≤ (r.length : Int) - 1)) && incB l) = true) (h3 : (decide (1 ≤ (l.length : Int)) && dec (SubP r l)) = false) : [] = ResT r l ∧ 5 = ResE r l := by
  have e : ResE r l = 5 := by unfold ResE; rw [h, h2, h3]; rfl
  exact ⟨by unfold ResT; rw [e]; rfl, e.symm⟩
theorem res0 {r : List (List Int)} {l : List Int} (h : isRk r = true) (h2 : ((l.all fun z_ => decide (0 ≤ z_) && decide (z_ ≤ (r.length : Int) - 1)) && incB l) = true) (h3 : (decide (1 ≤ (l.length : Int)) && dec (SubP r l)) = true) : tab (l.length : Int) (resV r l) = ResT r l ∧ 0 = ResE r l := by
  have e : ResE r l = 0 := by unfold ResE; rw [h, h2, h3]; rfl
  exact ⟨by unfold ResT; rw [e]; rfl, e.symm⟩
theorem res_el {r : List (List Int)} {l : List Int} (h : (l.all fun z_ => decide (0 ≤ z_) && decide (z_ ≤ (r.length : Int) - 1)) = true) : ∀ x ∈ l, 0 ≤ x ∧ x < (r.length : Int) := fun x hx => by
  have := List.all_eq_true.1 h x hx
  simp only [Bool.and_eq_true, decide_eq_true_eq] at this
  omega
theorem inc_nodup {l : List Int} (h : incB l = true) : l.Nodup := nodup_el.2 fun i j i0 ij jl e => by
  have := inc_lt (incB_iff.1 h) (j - i).toNat i i0 (by omega)
  rw [show i + (((j - i).toNat : Nat) : Int) = j by omega] at this
  omega
theorem res_len {r : List (List Int)} {l : List Int} (hr : isTab r = true) (h1 : ∀ x ∈ l, 0 ≤ x ∧ x < (r.length : Int)) (h2 : incB l = true) : (l.length : Int) ≤ 12 := by
  have := nodup_len_ran (n := (r.length : Int)) (by omega) (inc_nodup h2) h1
  have := isTab_len hr
  omega
theorem p_impl_RestrictRack (r : List (List Int)) (list : List Int) (hp : small2 r ∧ small list) : wp_impl_RestrictRack r list (fun y0 y1 => y0 = ResT r list ∧ y1 = ResE r list) := by
  unfold wp_impl_RestrictRack
  refine ⟨hp.1, fun h => res1 h, fun h => ?_⟩
  have hr := isRk_tab h
  have hn := isTab_len hr
  refine ⟨⟨hp.2, by omega, by omega⟩, fun h1 => res2 h (by rw [h1]; rfl), fun h1 => ⟨hp.2, fun h2 => res2 h (by rw [h1, h2]; rfl), fun h2 => ?_⟩⟩
  have h12 : ((list.all fun z_ => decide (0 ≤ z_) && decide (z_ ≤ (r.length : Int) - 1)) && incB list) = true := by rw [h1, h2]; rfl
  have he := res_el h1
  have hl := res_len hr he h2
  refine ⟨fun h3 => res5 h h12 (by rw [decide_eq_false (by omega)]; rfl), fun h3 => ⟨⟨hr, hp.2, he⟩, fun h4 => res5 h h12 (by rw [h4]; exact Bool.and_false _), fun h4 => ?_⟩⟩
  have h34 : (decide (1 ≤ (list.length : Int)) && dec (SubP r list)) = true := by rw [h4, decide_eq_true (by omega)]; rfl
  refine ⟨⟨by omega, by omega, fun x y x0 x1 y0 y1 => ⟨⟨hr, hp.2, he, x0, x1, y0, y1⟩, ?_⟩⟩, res0 h h12 h34⟩
  have := (idxI_spec (dec_iff.1 h4 _ (el_mem (l := list) (i := x) ⟨x0, x1⟩) _ (el_mem (l := list) (i := y) ⟨y0, y1⟩))).1
  constructor <;> (try dsimp only) <;> (unfold resV; omega)
set_option maxRecDepth 100000 in
set_option maxHeartbeats 4000000 in
theorem w_spec_l01Own2 (lists : List (List Int)) (Q : List (List Int) → Prop) (h : wp_spec_l01Own2 lists Q) : AF Try.prog 208 [.lst (rows lists)] (fun R_ => ∃ y0, Q y0 ∧ R_ = .own (orows y0)) := by
  refine AF.ofWQ (af_enter (n := 21) Try.func208 rfl (by rfl) rfl (Nat.le_of_ble_eq_true rfl) ?_)
  unfold wp_spec_l01Own2 at h
  refine aw_seq ?_
  refine aw_gh (gh_to (n := 21) (σ' := []) (env' := [(0, .c (.lst (rows lists)))]) rfl rfl ⟨rfl, trivial⟩) ?_
  refine aw_region ?_
  refine run_s (ss_assign rfl) rfl ?_
  refine run_nil ?_
  refine aw_seq ?_
  refine aw_region ?_
  refine run_w (ws_buildSlice (id := 5) (ps := []) rfl rfl (Nat.le_of_ble_eq_true rfl) rfl ⟨rfl, ?_⟩)
  refine run_s (ss_assign rfl) rfl ?_
  refine run_nil ?_
  refine aw_seq ?_
  refine aw_seq ?_
  refine aw_region ?_
  refine run_s (ss_assign rfl) rfl ?_
  refine run_nil ?_
  refine aw_block ?_
  obtain ⟨H1, m1, q1, h⟩ := h
  refine aw_loop2 (fun (v4_1 : Int) (o5_1 : List (List Int)) => ⟨[(5, ⟨orows o5_1, []⟩)], [(0, .c (.lst (rows lists))), (3, .ref 5), (4, .c (ci v4_1))], 21⟩) H1 m1 ⟨0, ([] : List (List Int)), ghe_to (n := 21) rfl rfl ⟨rfl, rfl, rfl, trivial⟩, q1⟩ ?_
  rintro v4_1 o5_1 q1
  replace h := h v4_1 o5_1 q1
  refine aw_seq ?_
  refine aw_seq ?_
  refine aw_region ?_
  refine run_s (ss_move rfl) rfl ?_
  refine run_s (ss_move rfl) rfl ?_
  refine run_s (ss_lenL (f := (fun r => C.lst (ints r))) rfl) rfl ?_
  refine run_s (ss_lss rfl rfl) rfl ?_
  refine run_nil ?_
  refine aw_cond rfl (fun q2 => ?_) (fun q2 => ?_)
  · replace h := h.1 (of_decide_eq_true q2)
    refine aw_skip ?_
    refine aw_seq ?_
    refine aw_block ?_
    refine aw_region ?_
    refine run_s (ss_move rfl) rfl ?_
    refine run_s (ss_move rfl) rfl ?_
    refine run_s (ss_move rfl) rfl ?_
    obtain ⟨q3, h⟩ := h
    refine run_s (ss_idxL rfl rfl q3) rfl ?_
    refine run_s (ss_loadL (f := (fun r => C.lst (ints r))) rfl q3) rfl ?_
    obtain ⟨q4, h⟩ := h
    refine run_w (ws_call (xs := [.tmp 16]) (ids := [17]) rfl rfl rfl rfl (c_spec_l01Own (el lists v4_1) q4) rfl ?_ )
    rintro _ rfl
    refine ⟨rfl, ?_⟩
    refine run_w (ws_buildSlice (id := 18) (ps := [(0, .tmp 17)]) rfl rfl (Nat.le_of_ble_eq_true rfl) rfl ⟨rfl, ?_⟩)
    refine run_gh (gh_fill (id := 18) (id2 := 17) (j := 0) rfl rfl (Nat.le_of_ble_eq_true rfl) rfl rfl rfl) ?_
    obtain ⟨q6, h⟩ := h
    refine run_w (ws_app1 (fun r => C.own (ints r)) (l := o5_1) (m := [(el lists v4_1)]) rfl rfl rfl rfl rfl (Nat.le_of_ble_eq_true rfl) q6 ⟨rfl, ?_⟩)
    refine run_s (ss_assign rfl) rfl ?_
    refine run_nil ?_
    refine aw_gh (gh_to (n := 21) (σ' := [(5, ⟨orows (o5_1 ++ ([(el lists v4_1)])), []⟩)]) (env' := [(0, .c (.lst (rows lists))), (3, .ref 5), (4, .c (ci v4_1))]) rfl rfl ⟨rfl, rfl, rfl, trivial⟩) ?_
    refine aw_region ?_
    refine run_s (ss_move rfl) rfl ?_
    obtain ⟨q7, h⟩ := h
    refine run_s (ss_add rfl rfl q7) rfl ?_
    refine run_s (ss_assign rfl) rfl ?_
    refine run_nil ?_
    exact ⟨v4_1 + 1, o5_1 ++ ([(el lists v4_1)]), ghe_to (n := 21) rfl rfl ⟨rfl, rfl, rfl, trivial⟩, h.1, h.2⟩
  · replace h := h.2 (of_decide_eq_false q2)
    refine aw_exit ?_
    refine aw_seq ?_
    refine aw_gh (gh_to (n := 21) (σ' := [(5, ⟨orows o5_1, []⟩)]) (env' := [(3, .ref 5)]) rfl rfl ⟨rfl, trivial⟩) ?_
    refine aw_region ?_
    refine run_s (ss_move rfl) rfl ?_
    refine run_s (ss_assign rfl) rfl ?_
    refine run_nil ?_
    refine aw_ret ?_
    exact retAF_mk (retv1 rfl (rv_tmp rfl)) rfl rfl ⟨_, (cle_refl _), _, h, rfl⟩

theorem c_spec_l01Own2 (lists : List (List Int)) (hp : small2 lists) : AF Try.prog 208 [.lst (rows lists)] (fun R_ => R_ = .own (orows lists)) :=
  (w_spec_l01Own2 lists (fun y0 => y0 = lists) (p_spec_l01Own2 lists hp)).mono (by rintro r ⟨_, rfl, rfl⟩; rfl)

set_option maxRecDepth 100000 in
set_option maxHeartbeats 4000000 in
theorem w_impl_RestrictRack_1 (x : Int) (y : Int) (list : List Int) (r : List (List Int)) (Q : Int → Prop) (h : wp_impl_RestrictRack_1 x y list r Q) : AF Try.prog 89 [ci x, ci y, .ptr [.lst (ints list)], .ptr [.lst (rows r)]] (fun R_ => ∃ y0, Q y0 ∧ R_ = ci y0) := by
  refine AF.ofWQ (af_enter (n := 23) Try.func89 rfl (by rfl) rfl (Nat.le_of_ble_eq_true rfl) ?_)
  unfold wp_impl_RestrictRack_1 at h
  refine aw_seq ?_
  refine aw_gh (gh_to (n := 23) (σ' := []) (env' := [(0, .c (ci x)), (1, .c (ci y)), (2, .c (.ptr [.lst (ints list)])), (3, .c (.ptr [.lst (rows r)]))]) rfl rfl ⟨rfl, rfl, rfl, rfl, trivial⟩) ?_
  refine aw_region ?_
  refine run_s (ss_assign rfl) rfl ?_
  refine run_nil ?_
  refine aw_seq ?_
  refine aw_gh (gh_to (n := 23) (σ' := []) (env' := [(0, .c (ci x)), (1, .c (ci y)), (2, .c (.ptr [.lst (ints list)])), (3, .c (.ptr [.lst (rows r)])), (6, .c (ci 0))]) rfl rfl ⟨rfl, rfl, rfl, rfl, rfl, trivial⟩) ?_
  refine aw_regionD (kd := kdl [1, 0, 1, 1, 0, 0, 1, 0, 1, 1, 0, 0, 1, 0, 1, 2, 0]) (ord := [1, 4, 10, 0, 2, 3, 5, 6, 7, 8, 9, 11, 12, 13, 14, 15, 16]) [] mixed (by kernel_rfl) ?_
  refine rd_s rfl rfl trivial (ss_field_ptr rfl) rfl ?_
  refine rd_s rfl rfl trivial (ss_move rfl) rfl ?_
  refine rd_s rfl rfl trivial (ss_move rfl) rfl ?_
  refine rd_l rfl rfl trivial (ss_load_ptr rfl rfl) rfl ?_
  refine rd_l rfl rfl trivial (ss_load_ptr rfl rfl) rfl ?_
  refine rd_l rfl rfl trivial (ss_load_ptr rfl rfl) rfl ?_
  obtain ⟨q1, h⟩ := h
  refine rd_s rfl rfl trivial (ss_idxL rfl rfl q1) rfl ?_
  refine rd_l rfl rfl trivial (ss_loadL (f := ci) rfl q1) rfl ?_
  obtain ⟨q2, h⟩ := h
  refine rd_s rfl rfl trivial (ss_idxL rfl rfl q2) rfl ?_
  refine rd_l rfl rfl trivial (ss_loadL (f := (fun r => C.lst (ints r))) rfl q2) rfl ?_
  refine rd_l rfl rfl trivial (ss_load_ptr rfl rfl) rfl ?_
  obtain ⟨q3, h⟩ := h
  refine rd_s rfl rfl trivial (ss_idxL rfl rfl q3) rfl ?_
  refine rd_l rfl rfl trivial (ss_loadL (f := ci) rfl q3) rfl ?_
  obtain ⟨q4, h⟩ := h
  refine rd_s rfl rfl trivial (ss_idxL rfl rfl q4) rfl ?_
  refine rd_l rfl rfl trivial (ss_loadL (f := ci) rfl q4) rfl ?_
  obtain ⟨q5, h⟩ := h
  refine rd_w rfl rfl trivial rfl rfl (ws_call (xs := [.tmp 7, .tmp 21]) (ids := []) rfl rfl rfl rfl (c_k_Index list (el (el r (el list x)) (el list y)) q5) rfl ?_ )
  rintro _ rfl
  refine ⟨rfl, ?_⟩
  refine rd_s rfl rfl trivial (ss_assign rfl) rfl ?_
  refine rd_nil ?_
  refine aw_ret ?_
  exact retAF_mk (retv1 rfl (rv_tmp rfl)) rfl rfl ⟨_, (cle_refl _), _, h, rfl⟩

theorem c_impl_RestrictRack_1 (x : Int) (y : Int) (list : List Int) (r : List (List Int)) (hp : isTab r = true ∧ small list ∧ (∀ x_ ∈ list, 0 ≤ x_ ∧ x_ < (r.length : Int)) ∧ 0 ≤ x ∧ x < (list.length : Int) ∧ 0 ≤ y ∧ y < (list.length : Int)) : AF Try.prog 89 [ci x, ci y, .ptr [.lst (ints list)], .ptr [.lst (rows r)]] (fun R_ => R_ = ci (resV r list x y)) :=
  (w_impl_RestrictRack_1 x y list r (fun y0 => y0 = resV r list x y) (p_impl_RestrictRack_1 x y list r hp)).mono (by rintro r ⟨_, rfl, rfl⟩; rfl)

set_option maxRecDepth 100000 in
set_option maxHeartbeats 4000000 in
theorem w_impl_RestrictRack (r : List (List Int)) (list : List Int) (Q : List (List Int) → Int → Prop) (h : wp_impl_RestrictRack r list Q) : AF Try.prog 14 [.agg [.lst (rows r)], .lst (ints list)] (fun R_ => ∃ y0 y1, Q y0 y1 ∧ R_ = .tup [.agg [.own (orows y0)], ci y1]) := by
  refine AF.ofWQ (af_enter (n := 36) Try.func14 rfl (by rfl) rfl (Nat.le_of_ble_eq_true rfl) ?_)
  unfold wp_impl_RestrictRack at h
  refine aw_seq ?_
  refine aw_gh (gh_to (n := 36) (σ' := []) (env' := [(0, .c (.agg [.lst (rows r)])), (1, .c (.lst (ints list)))]) rfl rfl ⟨rfl, rfl, trivial⟩) ?_
  refine aw_region ?_
  refine run_w (ws_boxR rfl (.inl rfl) rfl ⟨rfl, ?_⟩)
  refine run_w (ws_boxR rfl (.inr rfl) rfl ⟨rfl, ?_⟩)
  refine run_w (ws_alloc (id := 4) rfl (Nat.le_of_ble_eq_true rfl) ⟨rfl, ?_⟩)
  refine run_s (ss_assign rfl) rfl ?_
  refine run_nil ?_
  refine aw_seq ?_
  refine aw_seq ?_
  refine aw_region ?_
  refine run_s (ss_load_struct rfl (Nat.le_of_ble_eq_true rfl)) rfl ?_
  obtain ⟨q1, h⟩ := h
  refine run_w (ws_call (xs := [.tmp 6]) (ids := []) rfl rfl rfl rfl (c_impl_IsRack r q1) rfl ?_ )
  rintro _ rfl
  refine ⟨rfl, ?_⟩
  refine run_s (ss_not rfl) rfl ?_
  refine run_nil ?_
  refine aw_cond rfl (fun q3 => ?_) (fun q3 => ?_)
  · replace h := h.1 ((bnot_t q3))
    refine aw_seq ?_
    refine aw_gh (gh_to (n := 36) (σ' := [(4, ⟨[cnil], []⟩)]) (env' := [(4, .cell 4 0), (5, .c (ci 0))]) rfl rfl ⟨rfl, rfl, trivial⟩) ?_
    refine aw_region ?_
    refine run_s (ss_build0) rfl ?_
    refine run_w (ws_storeS rfl rfl (Nat.le_of_ble_eq_true rfl) rfl rfl rfl ⟨rfl, ?_⟩)
    refine run_s (ss_assign rfl) rfl ?_
    refine run_nil ?_
    refine aw_ret ?_
    exact retAF_mk (retv2 rfl (rv_struct rfl rfl rfl) (rv_tmp rfl)) rfl rfl ⟨_, (cle_tup (cleL_cons (cle_agg (cleL_cons cle_nilO cleL_nil)) (cleL_cons (cle_refl _) cleL_nil))), _, _, h, rfl⟩
  · replace h := h.2 ((bnot_f q3))
    refine aw_skip ?_
    refine aw_seq ?_
    refine aw_seq ?_
    refine aw_region ?_
    refine run_s (ss_field_ptr rfl) rfl ?_
    refine run_s (ss_load_ptr rfl rfl) rfl ?_
    refine run_s (ss_lenL (f := (fun r => C.lst (ints r))) rfl) rfl ?_
    refine run_s (ss_load_ptr rfl rfl) rfl ?_
    obtain ⟨q4, h⟩ := h
    refine run_w (ws_call (xs := [.tmp 12, .tmp 13]) (ids := []) rfl rfl rfl rfl (c_impl_areElements (r.length : Int) list q4) rfl ?_ )
    rintro _ rfl
    refine ⟨rfl, ?_⟩
    refine run_s (ss_not rfl) rfl ?_
    refine run_s (ss_move rfl) rfl ?_
    refine run_split (s := 16) rfl (fun q6 => ?_) (fun q6 => ?_)
    · replace h := h.1 ((bnot_t q6))
      refine run_gf rfl rfl q6 rfl ?_
      refine run_gf rfl rfl q6 rfl ?_
      refine run_gf rfl rfl q6 rfl ?_
      refine run_s (ss_pickT rfl q6 rfl) rfl ?_
      refine run_nil ?_
      refine aw_cond rfl (fun q7 => ?_) (fun q7 => ?_)
      · skip
        refine aw_seq ?_
        refine aw_gh (gh_to (n := 36) (σ' := [(4, ⟨[cnil], []⟩)]) (env' := [(4, .cell 4 0), (5, .c (ci 0))]) rfl rfl ⟨rfl, rfl, trivial⟩) ?_
        refine aw_region ?_
        refine run_s (ss_build0) rfl ?_
        refine run_w (ws_storeS rfl rfl (Nat.le_of_ble_eq_true rfl) rfl rfl rfl ⟨rfl, ?_⟩)
        refine run_s (ss_assign rfl) rfl ?_
        refine run_nil ?_
        refine aw_ret ?_
        exact retAF_mk (retv2 rfl (rv_struct rfl rfl rfl) (rv_tmp rfl)) rfl rfl ⟨_, (cle_tup (cleL_cons (cle_agg (cleL_cons cle_nilO cleL_nil)) (cleL_cons (cle_refl _) cleL_nil))), _, _, h, rfl⟩
      · cases q7
    · replace h := h.2 ((bnot_f q6))
      refine run_gt rfl rfl q6 ?_
      refine run_s (ss_load_ptr rfl rfl) rfl ?_
      refine run_gt rfl rfl q6 ?_
      obtain ⟨q8, h⟩ := h
      refine run_w (ws_call (xs := [.tmp 17]) (ids := []) rfl rfl rfl rfl (c_impl_increasing list q8) rfl ?_ )
      rintro _ rfl
      refine ⟨rfl, ?_⟩
      refine run_gt rfl rfl q6 ?_
      refine run_s (ss_not rfl) rfl ?_
      refine run_s (ss_pickF rfl q6 rfl) rfl ?_
      refine run_nil ?_
      refine aw_cond rfl (fun q10 => ?_) (fun q10 => ?_)
      · replace h := h.1 ((bnot_t q10))
        refine aw_seq ?_
        refine aw_gh (gh_to (n := 36) (σ' := [(4, ⟨[cnil], []⟩)]) (env' := [(4, .cell 4 0), (5, .c (ci 0))]) rfl rfl ⟨rfl, rfl, trivial⟩) ?_
        refine aw_region ?_
        refine run_s (ss_build0) rfl ?_
        refine run_w (ws_storeS rfl rfl (Nat.le_of_ble_eq_true rfl) rfl rfl rfl ⟨rfl, ?_⟩)
        refine run_s (ss_assign rfl) rfl ?_
        refine run_nil ?_
        refine aw_ret ?_
        exact retAF_mk (retv2 rfl (rv_struct rfl rfl rfl) (rv_tmp rfl)) rfl rfl ⟨_, (cle_tup (cleL_cons (cle_agg (cleL_cons cle_nilO cleL_nil)) (cleL_cons (cle_refl _) cleL_nil))), _, _, h, rfl⟩
      · replace h := h.2 ((bnot_f q10))
        refine aw_skip ?_
        refine aw_seq ?_
        refine aw_seq ?_
        refine aw_gh (gh_to (n := 36) (σ' := [(4, ⟨[cnil], []⟩)]) (env' := [(2, .c (.ptr [.lst (rows r)])), (3, .c (.ptr [.lst (ints list)])), (4, .cell 4 0)]) rfl rfl ⟨rfl, rfl, rfl, trivial⟩) ?_
        refine aw_region ?_
        refine run_s (ss_load_ptr rfl rfl) rfl ?_
        refine run_s (ss_lenL (f := ci) rfl) rfl ?_
        refine run_s (ss_eql rfl rfl) rfl ?_
        refine run_s (ss_move rfl) rfl ?_
        refine run_split (s := 25) rfl (fun q11 => ?_) (fun q11 => ?_)
        · replace h := h.1 (of_decide_eq_true q11)
          refine run_gf rfl rfl q11 rfl ?_
          refine run_gf rfl rfl q11 rfl ?_
          refine run_gf rfl rfl q11 rfl ?_
          refine run_gf rfl rfl q11 rfl ?_
          refine run_s (ss_pickT rfl q11 rfl) rfl ?_
          refine run_nil ?_
          refine aw_cond rfl (fun q12 => ?_) (fun q12 => ?_)
          · skip
            refine aw_seq ?_
            refine aw_gh (gh_to (n := 36) (σ' := [(4, ⟨[cnil], []⟩)]) (env' := [(4, .cell 4 0)]) rfl rfl ⟨rfl, trivial⟩) ?_
            refine aw_region ?_
            refine run_s (ss_build0) rfl ?_
            refine run_w (ws_storeS rfl rfl (Nat.le_of_ble_eq_true rfl) rfl rfl rfl ⟨rfl, ?_⟩)
            refine run_s (ss_assign rfl) rfl ?_
            refine run_nil ?_
            refine aw_ret ?_
            exact retAF_mk (retv2 rfl (rv_struct rfl rfl rfl) (rv_tmp rfl)) rfl rfl ⟨_, (cle_tup (cleL_cons (cle_agg (cleL_cons cle_nilO cleL_nil)) (cleL_cons (cle_refl _) cleL_nil))), _, _, h, rfl⟩
          · cases q12
        · replace h := h.2 (of_decide_eq_false q11)
          refine run_gt rfl rfl q11 ?_
          refine run_s (ss_load_struct rfl (Nat.le_of_ble_eq_true rfl)) rfl ?_
          refine run_gt rfl rfl q11 ?_
          refine run_s (ss_load_ptr rfl rfl) rfl ?_
          refine run_gt rfl rfl q11 ?_
          obtain ⟨q13, h⟩ := h
          refine run_w (ws_call (xs := [.tmp 26, .tmp 27]) (ids := []) rfl rfl rfl rfl (c_impl_isSubrack r list q13) rfl ?_ )
          rintro _ rfl
          refine ⟨rfl, ?_⟩
          refine run_gt rfl rfl q11 ?_
          refine run_s (ss_not rfl) rfl ?_
          refine run_s (ss_pickF rfl q11 rfl) rfl ?_
          refine run_nil ?_
          refine aw_cond rfl (fun q15 => ?_) (fun q15 => ?_)
          · replace h := h.1 ((bnot_t q15))
            refine aw_seq ?_
            refine aw_gh (gh_to (n := 36) (σ' := [(4, ⟨[cnil], []⟩)]) (env' := [(4, .cell 4 0)]) rfl rfl ⟨rfl, trivial⟩) ?_
            refine aw_region ?_
            refine run_s (ss_build0) rfl ?_
            refine run_w (ws_storeS rfl rfl (Nat.le_of_ble_eq_true rfl) rfl rfl rfl ⟨rfl, ?_⟩)
            refine run_s (ss_assign rfl) rfl ?_
            refine run_nil ?_
            refine aw_ret ?_
            exact retAF_mk (retv2 rfl (rv_struct rfl rfl rfl) (rv_tmp rfl)) rfl rfl ⟨_, (cle_tup (cleL_cons (cle_agg (cleL_cons cle_nilO cleL_nil)) (cleL_cons (cle_refl _) cleL_nil))), _, _, h, rfl⟩
          · replace h := h.2 ((bnot_f q15))
            refine aw_skip ?_
            refine aw_seq ?_
            refine aw_gh (gh_to (n := 36) (σ' := [(4, ⟨[cnil], []⟩)]) (env' := [(2, .c (.ptr [.lst (rows r)])), (3, .c (.ptr [.lst (ints list)])), (4, .cell 4 0)]) rfl rfl ⟨rfl, rfl, rfl, trivial⟩) ?_
            refine aw_region ?_
            refine run_s (ss_load_ptr rfl rfl) rfl ?_
            refine run_s (ss_lenL (f := ci) rfl) rfl ?_
            refine run_s (ss_makeFunc (os := [.tmp 3, .tmp 2]) rfl) rfl ?_
            obtain ⟨q16, h⟩ := h
            refine run_w (ws_call (xs := [.tmp 33, .tmp 34]) (ids := [35]) rfl rfl rfl rfl (c_impl_rackBy (list.length : Int) 89 [.ptr [.lst (ints list)], .ptr [.lst (rows r)]] (fun z0 z1 => resV r list z0 z1) (fun z0 z1 => isTab r = true ∧ small list ∧ (∀ x_ ∈ list, 0 ≤ x_ ∧ x_ < (r.length : Int)) ∧ 0 ≤ z0 ∧ z0 < (list.length : Int) ∧ 0 ≤ z1 ∧ z1 < (list.length : Int)) (fun z0 z1 hD => c_impl_RestrictRack_1 z0 z1 list r hD) q16) rfl ?_ )
            rintro _ rfl
            refine ⟨rfl, ?_⟩
            refine run_w (ws_storeS rfl rfl (Nat.le_of_ble_eq_true rfl) rfl rfl rfl ⟨rfl, ?_⟩)
            refine run_s (ss_assign rfl) rfl ?_
            refine run_nil ?_
            refine aw_ret ?_
            exact retAF_mk (retv2 rfl (rv_struct rfl rfl rfl) (rv_tmp rfl)) rfl rfl ⟨_, (cle_refl _), _, _, h, rfl⟩

theorem c_impl_RestrictRack (r : List (List Int)) (list : List Int) (hp : small2 r ∧ small list) : AF Try.prog 14 [.agg [.lst (rows r)], .lst (ints list)] (fun R_ => R_ = .tup [.agg [.own (orows (ResT r list))], ci (ResE r list)]) :=
  (w_impl_RestrictRack r list (fun y0 y1 => y0 = ResT r list ∧ y1 = ResE r list) (p_impl_RestrictRack r list hp)).mono (by rintro r ⟨_, _, ⟨rfl, rfl⟩, rfl⟩; rfl)

end Go.Proofs.Ytbodlnpmplcaoaa

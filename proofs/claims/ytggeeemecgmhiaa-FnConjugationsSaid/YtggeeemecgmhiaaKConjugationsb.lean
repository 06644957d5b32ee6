/- Contracts of functions that the law FnConjugations reaches: conditions, plain proofs, walks; no condition. -/
import Derived.Test.YtggeeemecgmhiaaKConjugationsa
import Derived.Test.YtggeeemecgmhiaaPP
namespace Go.Proofs.Ytggeeemecgmhiaa

def wp_k_Equal (a : List Int) (b : List Int) (Q : Bool → Prop) : Prop :=
 ((¬ ((a.length : Int) = (b.length : Int)) →
 Q false) ∧
 ((a.length : Int) = (b.length : Int) →
 ∃ (H1 : Int → Prop) (m1 : Int → Nat),
 H1 0 ∧
 ∀ (v13_1 : Int), H1 v13_1 →
 ( ((v13_1 < (a.length : Int) →
 (0 ≤ v13_1 ∧ v13_1 < (a.length : Int)) ∧
 (0 ≤ v13_1 ∧ v13_1 < (b.length : Int)) ∧
 ((¬ (el a v13_1 = el b v13_1) →
 Q false) ∧
 (el a v13_1 = el b v13_1 →
 (InI (v13_1 + 1)) ∧
 (H1 (v13_1 + 1) ∧ m1 (v13_1 + 1) < m1 v13_1)))) ∧
 (¬ (v13_1 < (a.length : Int)) →
 Q true)))))

def wp_spec_l01Same (a : List Int) (b : List Int) (Q : Bool → Prop) : Prop :=
 ((¬ ((a.length : Int) = (b.length : Int)) →
 Q false) ∧
 ((a.length : Int) = (b.length : Int) →
 ∃ (H1 : Int → Prop) (m1 : Int → Nat),
 H1 0 ∧
 ∀ (v5_1 : Int), H1 v5_1 →
 ( ((v5_1 < (a.length : Int) →
 (0 ≤ v5_1 ∧ v5_1 < (a.length : Int)) ∧
 (0 ≤ v5_1 ∧ v5_1 < (b.length : Int)) ∧
 ((¬ (el a v5_1 = el b v5_1) →
 Q false) ∧
 (el a v5_1 = el b v5_1 →
 (InI (v5_1 + 1)) ∧
 (H1 (v5_1 + 1) ∧ m1 (v5_1 + 1) < m1 v5_1)))) ∧
 (¬ (v5_1 < (a.length : Int)) →
 Q true)))))

def wp_impl_identity (n : Int) (Q : List Int → Prop) : Prop :=
 (0 ≤ n ∧ n ≤ 1000000000) ∧
 ∃ (H1 : Int → List Int → Prop) (m1 : Int → List Int → Nat),
 H1 0 (List.replicate n.toNat (0 : Int)) ∧
 ∀ (v9_1 : Int) (o6_1 : List Int), H1 v9_1 o6_1 →
 ( ((v9_1 < ((List.replicate n.toNat (0 : Int)).length : Int) →
 (0 ≤ v9_1 ∧ v9_1 < (o6_1.length : Int)) ∧
 (InI (v9_1 + 1)) ∧
 (H1 (v9_1 + 1) (se o6_1 v9_1 v9_1) ∧ m1 (v9_1 + 1) (se o6_1 v9_1 v9_1) < m1 v9_1 o6_1)) ∧
 (¬ (v9_1 < ((List.replicate n.toNat (0 : Int)).length : Int)) →
 Q o6_1)))

def wp_spec_l01Then (p : List Int) (q : List Int) (Q : List Int → Prop) : Prop :=
 ∃ (H1 : Int → List Int → Prop) (m1 : Int → List Int → Nat),
 H1 0 ([] : List Int) ∧
 ∀ (v6_1 : Int) (o7_1 : List Int), H1 v6_1 o7_1 →
 ( ((v6_1 < (p.length : Int) →
 (0 ≤ v6_1 ∧ v6_1 < (p.length : Int)) ∧
 (0 ≤ el p v6_1 ∧ el p v6_1 < (q.length : Int)) ∧
 ((o7_1.length : Int) + (([el q (el p v6_1)]).length : Int) ≤ 1000000000) ∧
 (InI (v6_1 + 1)) ∧
 (H1 (v6_1 + 1) (o7_1 ++ ([el q (el p v6_1)])) ∧ m1 (v6_1 + 1) (o7_1 ++ ([el q (el p v6_1)])) < m1 v6_1 o7_1)) ∧
 (¬ (v6_1 < (p.length : Int)) →
 Q o7_1)))

def wp_impl_then (p : List Int) (q : List Int) (Q : List Int → Prop) : Prop :=
 (0 ≤ (p.length : Int) ∧ (p.length : Int) ≤ 1000000000) ∧
 ∃ (H1 : Int → List Int → Prop) (m1 : Int → List Int → Nat),
 H1 0 (List.replicate (p.length : Int).toNat (0 : Int)) ∧
 ∀ (v13_1 : Int) (o10_1 : List Int), H1 v13_1 o10_1 →
 ( ((v13_1 < (p.length : Int) →
 (0 ≤ v13_1 ∧ v13_1 < (p.length : Int)) ∧
 (0 ≤ el p v13_1 ∧ el p v13_1 < (q.length : Int)) ∧
 (0 ≤ v13_1 ∧ v13_1 < (o10_1.length : Int)) ∧
 (InI (v13_1 + 1)) ∧
 (H1 (v13_1 + 1) (se o10_1 v13_1 (el q (el p v13_1))) ∧ m1 (v13_1 + 1) (se o10_1 v13_1 (el q (el p v13_1))) < m1 v13_1 o10_1)) ∧
 (¬ (v13_1 < (p.length : Int)) →
 Q o10_1)))

def wp_spec_l01Back (p : List Int) (Q : List Int → Prop) : Prop :=
 (0 ≤ (p.length : Int) ∧ (p.length : Int) ≤ 1000000000) ∧
 ∃ (H1 : Int → List Int → Prop) (m1 : Int → List Int → Nat),
 H1 0 (List.replicate (p.length : Int).toNat (0 : Int)) ∧
 ∀ (v4_1 : Int) (o7_1 : List Int), H1 v4_1 o7_1 →
 ( ((v4_1 < (p.length : Int) →
 (0 ≤ v4_1 ∧ v4_1 < (p.length : Int)) ∧
 (0 ≤ el p v4_1 ∧ el p v4_1 < (o7_1.length : Int)) ∧
 (InI (v4_1 + 1)) ∧
 (H1 (v4_1 + 1) (se o7_1 (el p v4_1) v4_1) ∧ m1 (v4_1 + 1) (se o7_1 (el p v4_1) v4_1) < m1 v4_1 o7_1)) ∧
 (¬ (v4_1 < (p.length : Int)) →
 Q o7_1)))

def wp_impl_inverse (p : List Int) (Q : List Int → Prop) : Prop :=
 (0 ≤ (p.length : Int) ∧ (p.length : Int) ≤ 1000000000) ∧
 ∃ (H1 : Int → List Int → Prop) (m1 : Int → List Int → Nat),
 H1 0 (List.replicate (p.length : Int).toNat (0 : Int)) ∧
 ∀ (v11_1 : Int) (o8_1 : List Int), H1 v11_1 o8_1 →
 ( ((v11_1 < (p.length : Int) →
 (0 ≤ v11_1 ∧ v11_1 < (p.length : Int)) ∧
 (0 ≤ el p v11_1 ∧ el p v11_1 < (o8_1.length : Int)) ∧
 (InI (v11_1 + 1)) ∧
 (H1 (v11_1 + 1) (se o8_1 (el p v11_1) v11_1) ∧ m1 (v11_1 + 1) (se o8_1 (el p v11_1) v11_1) < m1 v11_1 o8_1)) ∧
 (¬ (v11_1 < (p.length : Int)) →
 Q o8_1)))

def wp_impl_permutationRows_1 (row : List Int) (Q : Bool → Prop) : Prop :=
 (small row) ∧
 Q (!((isPerm row)))

def wp_impl_permutationRows (t : List (List Int)) (Q : Bool → Prop) : Prop :=
 (small t ∧ ∀ r_ ∈ t, (fun z0 => small z0) r_) ∧
 Q (!((t.any (fun z0 => !isPerm z0))))

def wp_impl_increasing (list : List Int) (Q : Bool → Prop) : Prop :=
 ∃ (H1 : Int → Prop) (m1 : Int → Nat),
 H1 1 ∧
 ∀ (v3_1 : Int), H1 v3_1 →
 ( ((v3_1 < (list.length : Int) →
 (InI (v3_1 - 1)) ∧
 (0 ≤ v3_1 - 1 ∧ v3_1 - 1 < (list.length : Int)) ∧
 (0 ≤ v3_1 ∧ v3_1 < (list.length : Int)) ∧
 ((el list v3_1 ≤ el list (v3_1 - 1) →
 Q false) ∧
 (¬ (el list v3_1 ≤ el list (v3_1 - 1)) →
 (InI (v3_1 + 1)) ∧
 (H1 (v3_1 + 1) ∧ m1 (v3_1 + 1) < m1 v3_1)))) ∧
 (¬ (v3_1 < (list.length : Int)) →
 Q true)))

def wp_impl_isIdentity (p : List Int) (Q : Bool → Prop) : Prop :=
 (small p) ∧
 Q (incB p)

def wp_impl_rackFault (t : List (List Int)) (Q : List Int → Prop) : Prop :=
 ∃ (H1 : Int → Prop) (m1 : Int → Nat),
 H1 0 ∧
 ∀ (v10_1 : Int), H1 v10_1 →
 ( ((v10_1 < (t.length : Int) →
 ∃ (H2 : Int → Prop) (m2 : Int → Nat),
 H2 0 ∧
 ∀ (v14_2 : Int), H2 v14_2 →
 ( ((v14_2 < (t.length : Int) →
 ∃ (H3 : Int → Prop) (m3 : Int → Nat),
 H3 0 ∧
 ∀ (v18_3 : Int), H3 v18_3 →
 ( ((v18_3 < (t.length : Int) →
 (0 ≤ v10_1 ∧ v10_1 < (t.length : Int)) ∧
 (0 ≤ v14_2 ∧ v14_2 < (t.length : Int)) ∧
 (0 ≤ v10_1 ∧ v10_1 < (t.length : Int)) ∧
 (0 ≤ v10_1 ∧ v10_1 < (t.length : Int)) ∧
 (0 ≤ v18_3 ∧ v18_3 < ((el t v14_2).length : Int)) ∧
 (0 ≤ el (el t v14_2) v18_3 ∧ el (el t v14_2) v18_3 < ((el t v10_1).length : Int)) ∧
 (0 ≤ v14_2 ∧ v14_2 < ((el t v10_1).length : Int)) ∧
 (0 ≤ el (el t v10_1) v14_2 ∧ el (el t v10_1) v14_2 < (t.length : Int)) ∧
 (0 ≤ v18_3 ∧ v18_3 < ((el t v10_1).length : Int)) ∧
 (0 ≤ el (el t v10_1) v18_3 ∧ el (el t v10_1) v18_3 < ((el t (el (el t v10_1) v14_2)).length : Int)) ∧
 ((¬ (el (el t v10_1) (el (el t v14_2) v18_3) = el (el t (el (el t v10_1) v14_2)) (el (el t v10_1) v18_3)) →
 Q ([v10_1, v14_2, v18_3])) ∧
 (el (el t v10_1) (el (el t v14_2) v18_3) = el (el t (el (el t v10_1) v14_2)) (el (el t v10_1) v18_3) →
 (InI (v18_3 + 1)) ∧
 (H3 (v18_3 + 1) ∧ m3 (v18_3 + 1) < m3 v18_3)))) ∧
 (¬ (v18_3 < (t.length : Int)) →
 (InI (v14_2 + 1)) ∧
 (H2 (v14_2 + 1) ∧ m2 (v14_2 + 1) < m2 v14_2))))) ∧
 (¬ (v14_2 < (t.length : Int)) →
 (InI (v10_1 + 1)) ∧
 (H1 (v10_1 + 1) ∧ m1 (v10_1 + 1) < m1 v10_1))))) ∧
 (¬ (v10_1 < (t.length : Int)) →
 Q ([]))))

def wp_spec_l03Fault (t : List (List Int)) (Q : List Int → Prop) : Prop :=
 ∃ (H1 : Int → Prop) (m1 : Int → Nat),
 H1 0 ∧
 ∀ (v4_1 : Int), H1 v4_1 →
 ( ((v4_1 < (t.length : Int) →
 ∃ (H2 : Int → Prop) (m2 : Int → Nat),
 H2 0 ∧
 ∀ (v5_2 : Int), H2 v5_2 →
 ( ((v5_2 < (t.length : Int) →
 ∃ (H3 : Int → Prop) (m3 : Int → Nat),
 H3 0 ∧
 ∀ (v6_3 : Int), H3 v6_3 →
 ( ((v6_3 < (t.length : Int) →
 (0 ≤ v4_1 ∧ v4_1 < (t.length : Int)) ∧
 (0 ≤ v5_2 ∧ v5_2 < (t.length : Int)) ∧
 (0 ≤ v4_1 ∧ v4_1 < (t.length : Int)) ∧
 (0 ≤ v4_1 ∧ v4_1 < (t.length : Int)) ∧
 (0 ≤ v6_3 ∧ v6_3 < ((el t v5_2).length : Int)) ∧
 (0 ≤ el (el t v5_2) v6_3 ∧ el (el t v5_2) v6_3 < ((el t v4_1).length : Int)) ∧
 (0 ≤ v5_2 ∧ v5_2 < ((el t v4_1).length : Int)) ∧
 (0 ≤ el (el t v4_1) v5_2 ∧ el (el t v4_1) v5_2 < (t.length : Int)) ∧
 (0 ≤ v6_3 ∧ v6_3 < ((el t v4_1).length : Int)) ∧
 (0 ≤ el (el t v4_1) v6_3 ∧ el (el t v4_1) v6_3 < ((el t (el (el t v4_1) v5_2)).length : Int)) ∧
 ((¬ (el (el t v4_1) (el (el t v5_2) v6_3) = el (el t (el (el t v4_1) v5_2)) (el (el t v4_1) v6_3)) →
 Q ([v4_1, v5_2, v6_3])) ∧
 (el (el t v4_1) (el (el t v5_2) v6_3) = el (el t (el (el t v4_1) v5_2)) (el (el t v4_1) v6_3) →
 (InI (v6_3 + 1)) ∧
 (H3 (v6_3 + 1) ∧ m3 (v6_3 + 1) < m3 v6_3)))) ∧
 (¬ (v6_3 < (t.length : Int)) →
 (InI (v5_2 + 1)) ∧
 (H2 (v5_2 + 1) ∧ m2 (v5_2 + 1) < m2 v5_2))))) ∧
 (¬ (v5_2 < (t.length : Int)) →
 (InI (v4_1 + 1)) ∧
 (H1 (v4_1 + 1) ∧ m1 (v4_1 + 1) < m1 v4_1))))) ∧
 (¬ (v4_1 < (t.length : Int)) →
 Q ([]))))

def wp_impl_IsRack (r : List (List Int)) (Q : Bool → Prop) : Prop :=
 (small2 r) ∧
 (((isTab r) = true →
 (small2 r) ∧
 (((r.all isPerm) = true →
 (((rackF r) = [] →
 (isTab r = true) ∧
 Q true) ∧
 (¬ (rackF r) = [] →
 (isTab r = true) ∧
 Q false))) ∧
 ((r.all isPerm) = false →
 Q false))) ∧
 ((isTab r) = false →
 Q false))

def wp_impl_kinkOf (r : List (List Int)) (Q : List Int → Prop) : Prop :=
 (0 ≤ (r.length : Int) ∧ (r.length : Int) ≤ 1000000000) ∧
 ∃ (H1 : Int → List Int → Prop) (m1 : Int → List Int → Nat),
 H1 0 (List.replicate (r.length : Int).toNat (0 : Int)) ∧
 ∀ (v11_1 : Int) (o8_1 : List Int), H1 v11_1 o8_1 →
 ( ((v11_1 < ((List.replicate (r.length : Int).toNat (0 : Int)).length : Int) →
 (0 ≤ v11_1 ∧ v11_1 < (r.length : Int)) ∧
 (0 ≤ v11_1 ∧ v11_1 < ((el r v11_1).length : Int)) ∧
 (0 ≤ v11_1 ∧ v11_1 < (o8_1.length : Int)) ∧
 (InI (v11_1 + 1)) ∧
 (H1 (v11_1 + 1) (se o8_1 v11_1 (el (el r v11_1) v11_1)) ∧ m1 (v11_1 + 1) (se o8_1 v11_1 (el (el r v11_1) v11_1)) < m1 v11_1 o8_1)) ∧
 (¬ (v11_1 < ((List.replicate (r.length : Int).toNat (0 : Int)).length : Int)) →
 Q o8_1)))

theorem p_k_Equal (a b : List Int) (hp : small a ∧ small b) : wp_k_Equal a b (fun y0 => y0 = decide (a = b)) := by
  unfold wp_k_Equal
  obtain ⟨ha, hb⟩ := hp
  refine ⟨fun h => (decide_eq_false fun e => h (by rw [e])).symm, fun h => ⟨fun i => 0 ≤ i ∧ i ≤ (a.length : Int) ∧ Upto i fun j => el a j = el b j, fun i => ((a.length : Int) - i).toNat, ⟨by omega, by omega, upto0⟩, ?_⟩⟩
  rintro i ⟨h0, h1, hI⟩
  dsimp only
  refine ⟨fun hlt => ⟨⟨h0, hlt⟩, ⟨h0, by omega⟩, fun hf => (decide_eq_false fun e => hf (by rw [e])).symm, fun ht => ⟨⟨by omega, by omega⟩, ⟨by omega, by omega, upto1 hI ht⟩, by omega⟩⟩, fun hge => ?_⟩
  exact (decide_eq_true (ext_el (by omega) fun j h2 h3 => hI j h2 (by omega))).symm
theorem p_spec_l01Same (a b : List Int) (hp : small a ∧ small b) : wp_spec_l01Same a b (fun y0 => y0 = decide (a = b)) := by
  unfold wp_spec_l01Same
  obtain ⟨ha, hb⟩ := hp
  refine ⟨fun h => (decide_eq_false fun e => h (by rw [e])).symm, fun h => ⟨fun i => 0 ≤ i ∧ i ≤ (a.length : Int) ∧ Upto i fun j => el a j = el b j, fun i => ((a.length : Int) - i).toNat, ⟨by omega, by omega, upto0⟩, ?_⟩⟩
  rintro i ⟨h0, h1, hI⟩
  dsimp only
  refine ⟨fun hlt => ⟨⟨h0, hlt⟩, ⟨h0, by omega⟩, fun hf => (decide_eq_false fun e => hf (by rw [e])).symm, fun ht => ⟨⟨by omega, by omega⟩, ⟨by omega, by omega, upto1 hI ht⟩, by omega⟩⟩, fun hge => ?_⟩
  exact (decide_eq_true (ext_el (by omega) fun j h2 h3 => hI j h2 (by omega))).symm
theorem p_impl_identity (n : Int) (hp : 0 ≤ n ∧ n ≤ 1000000) : wp_impl_identity n (fun y0 => y0 = unitI n) := by
  unfold wp_impl_identity
  simp only [List.length_replicate]
  refine ⟨⟨by omega, by omega⟩, fun i o => 0 ≤ i ∧ i ≤ n ∧ o.length = n.toNat ∧ Upto i fun j => el o j = j, fun i _ => (n - i).toNat, ⟨by omega, by omega, by simp, upto0⟩, ?_⟩
  rintro i o ⟨h0, h1, hl, hI⟩
  dsimp only
  exact ⟨fun hlt => by
    refine ⟨?_, ?_⟩ <;> first
      | exact ⟨by omega, by omega⟩
      | exact ⟨⟨by omega, by omega⟩, ⟨by omega, by omega, by simp [hl], fill1 (f := fun j => j) ⟨h0, by omega⟩ hI rfl⟩, by omega⟩
      | exact ⟨⟨by omega, by omega⟩, ⟨by omega, by omega⟩, ⟨by omega, by omega, by simp [hl], fill1 (f := fun j => j) ⟨h0, by omega⟩ hI rfl⟩, by omega⟩, fun hge => eq_ran (f := id) hl fun j h2 h3 => hI j h2 (by omega)⟩
theorem p_spec_l01Then (p q : List Int) (hp : small p ∧ ∀ x_ ∈ p, 0 ≤ x_ ∧ x_ < (q.length : Int)) : wp_spec_l01Then p q (fun y0 => y0 = p.map (el q)) := by
  unfold wp_spec_l01Then
  obtain ⟨h1, h2⟩ := hp
  refine ⟨fun i o => 0 ≤ i ∧ i ≤ (p.length : Int) ∧ o.length = i.toNat ∧ Upto i fun x => el o x = el q (el p x), fun i _ => ((p.length : Int) - i).toNat, ⟨by omega, by omega, by simp, upto0⟩, ?_⟩
  rintro i o ⟨i0, i1, il, iI⟩
  dsimp only
  refine ⟨fun ilt => ⟨⟨i0, ilt⟩, h2 _ (el_mem ⟨i0, ilt⟩), by simp; omega, ⟨by omega, by omega⟩, ⟨by omega, by omega, by simp; omega, app1 (f := fun x => el q (el p x)) (by omega) iI rfl⟩, by omega⟩, fun ige => ext_el (by simp; omega) fun j a b => ?_⟩
  rw [el_map ⟨a, by omega⟩]; exact iI j a (by omega)
theorem p_impl_then (p q : List Int) (hp : small p ∧ ∀ x_ ∈ p, 0 ≤ x_ ∧ x_ < (q.length : Int)) : wp_impl_then p q (fun y0 => y0 = p.map (el q)) := by
  unfold wp_impl_then
  obtain ⟨h1, h2⟩ := hp
  refine ⟨⟨by omega, h1⟩, fun i o => 0 ≤ i ∧ i ≤ (p.length : Int) ∧ o.length = p.length ∧ Upto i fun j => el o j = el q (el p j), fun i _ => ((p.length : Int) - i).toNat, ⟨by omega, by omega, by simp, upto0⟩, ?_⟩
  rintro i o ⟨h0, h3, hl, hI⟩
  dsimp only
  refine ⟨fun hlt => ⟨⟨h0, hlt⟩, h2 _ (el_mem ⟨h0, hlt⟩), ⟨h0, by omega⟩, ⟨by omega, by omega⟩, ⟨by omega, by omega, by simp [hl], fill1 (f := fun j => el q (el p j)) ⟨h0, by omega⟩ hI rfl⟩, by omega⟩, fun hge => ext_el (by simp [hl]) fun j a b => ?_⟩
  rw [el_map ⟨a, by omega⟩]; exact hI j a (by omega)
theorem p_spec_l01Back (p : List Int) (hp : small p ∧ isPerm p = true) : wp_spec_l01Back p (fun y0 => y0 = backI p) := by
  unfold wp_spec_l01Back
  obtain ⟨h1, h2⟩ := hp
  refine ⟨⟨by omega, h1⟩, fun i o => 0 ≤ i ∧ i ≤ (p.length : Int) ∧ o.length = p.length ∧ Upto i fun j => el o (el p j) = j, fun i _ => ((p.length : Int) - i).toNat, ⟨by omega, by omega, by simp, upto0⟩, ?_⟩
  rintro i o ⟨h0, h3, hl, hI⟩
  dsimp only
  refine ⟨fun hlt => ?_, fun hge => backI_uniq h2 hl fun j a b => hI j a (by omega)⟩
  have hb := isPerm_el h2 ⟨h0, hlt⟩
  refine ⟨⟨h0, hlt⟩, ⟨hb.1, by omega⟩, ⟨by omega, by omega⟩, ⟨by omega, by omega, by simp [hl], upto1 (fun j a b => ?_) (by rw [el_se_same ⟨hb.1, by omega⟩])⟩, by omega⟩
  have hj := isPerm_el h2 (i := j) ⟨a, by omega⟩
  rw [el_se_ne hb.1 hj.1 fun e => by have := isPerm_inj h2 ⟨h0, hlt⟩ ⟨a, by omega⟩ e; omega]
  exact hI j a b
theorem p_impl_inverse (p : List Int) (hp : small p ∧ isPerm p = true) : wp_impl_inverse p (fun y0 => y0 = backI p) := p_spec_l01Back p hp
theorem p_impl_permutationRows_1 (row : List Int) (hp : small row) : wp_impl_permutationRows_1 row (fun y0 => y0 = !isPerm row) := ⟨hp, rfl⟩
theorem p_impl_permutationRows (t : List (List Int)) (hp : small2 t) : wp_impl_permutationRows t (fun y0 => y0 = t.all isPerm) := by
  refine ⟨⟨hp.1, hp.2⟩, ?_⟩
  rw [List.not_any_eq_all_not]; simp
theorem p_impl_increasing (list : List Int) (hp : small list) : wp_impl_increasing list (fun y0 => y0 = incB list) := by
  unfold wp_impl_increasing
  refine ⟨fun i => 1 ≤ i ∧ (i ≤ (list.length : Int) ∨ i = 1) ∧ ∀ j, 0 ≤ j → j + 1 < i → el list j < el list (j + 1), fun i => ((list.length : Int) - i).toNat, ⟨by omega, by omega, fun j _ _ => by omega⟩, ?_⟩
  rintro i ⟨h0, h3, hI⟩
  dsimp only
  refine ⟨fun hlt => ⟨⟨by omega, by omega⟩, ⟨by omega, by omega⟩, ⟨by omega, hlt⟩, fun hf => ?_, fun ht => ⟨⟨by omega, by omega⟩, ⟨by omega, by omega, fun j a b => ?_⟩, by omega⟩⟩, fun hge => ?_⟩
  · symm; rw [Bool.eq_false_iff]; intro hc
    have := incB_iff.1 hc (i - 1) (by omega) (by omega)
    rw [show i - 1 + 1 = i by omega] at this
    omega
  · by_cases e : j + 1 = i
    · have e2 : j = i - 1 := by omega
      subst e2
      rw [show i - 1 + 1 = i by omega]; omega
    · exact hI j a (by omega)
  · exact (incB_iff.2 fun j a b => hI j a (by omega)).symm
theorem p_impl_isIdentity (p : List Int) (hp : small p) : wp_impl_isIdentity p (fun y0 => y0 = incB p) := ⟨hp, rfl⟩
theorem p_spec_l03Fault (t : List (List Int)) (hp : isTab t = true) : wp_spec_l03Fault t (fun y0 => y0 = rackF t) := by
  unfold wp_spec_l03Fault rackF
  have hn := isTab_len hp
  have tr := fun (i : Int) (hi : 0 ≤ i ∧ i < (t.length : Int)) => isTab_row hp hi
  refine ⟨fun x => 0 ≤ x ∧ x ≤ (t.length : Int) ∧ Upto x fun a => ∀ b, 0 ≤ b → b < (t.length : Int) → ∀ c, 0 ≤ c → c < (t.length : Int) → rackB t a b c = false, fun x => ((t.length : Int) - x).toNat, ⟨by omega, by omega, upto0⟩, ?_⟩
  rintro x ⟨x0, x1, xI⟩
  dsimp only
  refine ⟨fun xlt => ?_, fun xge => (first3_none fun a h1 h2 => xI a h1 (by omega)).symm⟩
  refine ⟨fun y => 0 ≤ y ∧ y ≤ (t.length : Int) ∧ Upto y fun b => ∀ c, 0 ≤ c → c < (t.length : Int) → rackB t x b c = false, fun y => ((t.length : Int) - y).toNat, ⟨by omega, by omega, upto0⟩, ?_⟩
  rintro y ⟨y0, y1, yI⟩
  dsimp only
  refine ⟨fun ylt => ?_, fun yge => ⟨⟨by omega, by omega⟩, ⟨by omega, by omega, upto1 xI fun b h1 h2 => yI b h1 (by omega)⟩, by omega⟩⟩
  refine ⟨fun z => 0 ≤ z ∧ z ≤ (t.length : Int) ∧ Upto z fun c => rackB t x y c = false, fun z => ((t.length : Int) - z).toNat, ⟨by omega, by omega, upto0⟩, ?_⟩
  rintro z ⟨z0, z1, zI⟩
  dsimp only
  refine ⟨fun zlt => ?_, fun zge => ⟨⟨by omega, by omega⟩, ⟨by omega, by omega, upto1 yI fun c h1 h2 => zI c h1 (by omega)⟩, by omega⟩⟩
  have hx := tr x ⟨x0, xlt⟩
  have hy := tr y ⟨y0, ylt⟩
  have xy := hx.2 y y0 ylt
  have xz := hx.2 z z0 zlt
  have yz := hy.2 z z0 zlt
  have r1 := tr _ xy
  refine ⟨⟨x0, xlt⟩, ⟨y0, ylt⟩, ⟨x0, xlt⟩, ⟨x0, xlt⟩, ⟨z0, by omega⟩, ⟨yz.1, by omega⟩, ⟨y0, by omega⟩, xy, ⟨z0, by omega⟩, ⟨xz.1, by omega⟩, fun h => ?_, fun h => ⟨⟨by omega, by omega⟩, ⟨by omega, by omega, upto1 zI (by simp [rackB, h])⟩, by omega⟩⟩
  exact (first3_found ⟨x0, xlt⟩ ⟨y0, ylt⟩ ⟨z0, zlt⟩ (by simp [rackB, h]) xI yI zI).symm
theorem p_impl_rackFault (t : List (List Int)) (hp : isTab t = true) : wp_impl_rackFault t (fun y0 => y0 = rackF t) := p_spec_l03Fault t hp
theorem p_impl_IsRack (r : List (List Int)) (hp : small2 r) : wp_impl_IsRack r (fun y0 => y0 = isRk r) := by
  unfold wp_impl_IsRack isRk
  refine ⟨hp, fun h => ⟨hp, fun h2 => ⟨fun h3 => ⟨h, ?_⟩, fun h3 => ⟨h, ?_⟩⟩, fun h2 => ?_⟩, fun h => ?_⟩
  · rw [h, h2, h3]; rfl
  · rw [h, h2]; cases e : rackF r with
    | nil => exact absurd e h3
    | cons x l => rfl
  · rw [h, h2]; rfl
  · rw [h]; rfl
theorem p_impl_kinkOf (r : List (List Int)) (hp : isTab r = true) : wp_impl_kinkOf r (fun y0 => y0 = diag r) := by
  unfold wp_impl_kinkOf
  have hn := isTab_len hp
  simp only [List.length_replicate]
  refine ⟨⟨by omega, by omega⟩, fun i o => 0 ≤ i ∧ i ≤ (r.length : Int) ∧ o.length = r.length ∧ Upto i fun j => el o j = el (el r j) j, fun i _ => ((r.length : Int) - i).toNat, ⟨by omega, by omega, by simp, upto0⟩, ?_⟩
  rintro i o ⟨h0, h1, hl, hI⟩
  dsimp only
  refine ⟨fun hlt => ?_, fun hge => eq_ran (by omega) fun j h2 h3 => hI j h2 (by omega)⟩
  have hr := isTab_row hp (i := i) ⟨h0, by omega⟩
  exact ⟨⟨h0, by omega⟩, ⟨h0, by omega⟩, ⟨h0, by omega⟩, ⟨by omega, by omega⟩, ⟨by omega, by omega, by simp [hl], fill1 (f := fun j => el (el r j) j) ⟨h0, by omega⟩ hI rfl⟩, by omega⟩
set_option maxRecDepth 100000 in
set_option maxHeartbeats 4000000 in
theorem w_k_Equal (a : List Int) (b : List Int) (Q : Bool → Prop) (h : wp_k_Equal a b Q) : AF Try.prog 75 [.lst (ints a), .lst (ints b)] (fun R_ => ∃ y0, Q y0 ∧ R_ = cb y0) := by
  refine AF.ofWQ (af_enter (n := 26) Try.func75 rfl (by rfl) rfl (Nat.le_of_ble_eq_true rfl) ?_)
  unfold wp_k_Equal at h
  refine aw_seq ?_
  refine aw_gh (gh_to (n := 26) (σ' := []) (env' := [(0, .c (.lst (ints a))), (1, .c (.lst (ints b)))]) rfl rfl ⟨rfl, rfl, trivial⟩) ?_
  refine aw_region ?_
  refine run_s (ss_assign rfl) rfl ?_
  refine run_nil ?_
  refine aw_seq ?_
  refine aw_seq ?_
  refine aw_region ?_
  refine run_s (ss_move rfl) rfl ?_
  refine run_s (ss_lenL (f := ci) rfl) rfl ?_
  refine run_s (ss_move rfl) rfl ?_
  refine run_s (ss_lenL (f := ci) rfl) rfl ?_
  refine run_s (ss_neq rfl rfl) rfl ?_
  refine run_nil ?_
  refine aw_cond rfl (fun q1 => ?_) (fun q1 => ?_)
  ·replace h := h.1 (of_decide_eq_false (bnot_t q1))
   refine aw_seq ?_
   refine aw_gh (gh_to (n := 26) (σ' := []) (env' := [(4, .c (cb false))]) rfl rfl ⟨rfl, trivial⟩) ?_
   refine aw_region ?_
   refine run_s (ss_assign rfl) rfl ?_
   refine run_nil ?_
   refine aw_ret ?_
   exact retAF_mk (retv1 rfl (rv_tmp rfl)) rfl rfl ⟨_, (cle_refl _), _, h, rfl⟩
  ·replace h := h.2 (of_decide_eq_true (bnot_f q1))
   refine aw_skip ?_
   refine aw_seq ?_
   refine aw_seq ?_
   refine aw_gh (gh_to (n := 26) (σ' := []) (env' := [(0, .c (.lst (ints a))), (1, .c (.lst (ints b)))]) rfl rfl ⟨rfl, rfl, trivial⟩) ?_
   refine aw_region ?_
   refine run_s (ss_move rfl) rfl ?_
   refine run_s (ss_lenL (f := ci) rfl) rfl ?_
   refine run_s (ss_move rfl) rfl ?_
   refine run_nil ?_
   refine aw_block ?_
   obtain ⟨H1, m1, q2, h⟩ := h
   refine aw_loop1 (fun (v13_1 : Int) => ⟨[], [(0, .c (.lst (ints a))), (1, .c (.lst (ints b))), (12, .c (ci (a.length : Int))), (13, .c (ci v13_1))], 26⟩) H1 m1 ⟨0, ghe_to (n := 26) rfl rfl ⟨rfl, rfl, rfl, rfl, trivial⟩, q2⟩ ?_
   rintro v13_1 q2
   replace h := h v13_1 q2
   refine aw_seq ?_
   refine aw_region ?_
   refine run_s (ss_lss rfl rfl) rfl ?_
   refine run_nil ?_
   refine aw_seq ?_
   refine aw_cond rfl (fun q3 => ?_) (fun q3 => ?_)
   ·replace h := h.1 (of_decide_eq_true q3)
    refine aw_skip ?_
    refine aw_seq ?_
    refine aw_block ?_
    refine aw_seq ?_
    refine aw_region ?_
    refine run_s (ss_move rfl) rfl ?_
    refine run_s (ss_assign rfl) rfl ?_
    refine run_nil ?_
    refine aw_seq ?_
    refine aw_gh (gh_to (n := 26) (σ' := []) (env' := [(0, .c (.lst (ints a))), (1, .c (.lst (ints b))), (5, .c (ci v13_1)), (12, .c (ci (a.length : Int))), (13, .c (ci v13_1))]) rfl rfl ⟨rfl, rfl, rfl, rfl, rfl, trivial⟩) ?_
    refine aw_regionD (kd := kdl [0, 0, 0, 1, 0, 0, 0, 1, 0]) (ord := [0, 1, 2, 4, 5, 6, 3, 7, 8]) [] mixed (by kernel_rfl) ?_
    refine rd_s rfl rfl trivial (ss_move rfl) rfl ?_
    refine rd_s rfl rfl trivial (ss_move rfl) rfl ?_
    obtain ⟨q4, h⟩ := h
    refine rd_s rfl rfl trivial (ss_idxL rfl rfl q4) rfl ?_
    refine rd_s rfl rfl trivial (ss_move rfl) rfl ?_
    refine rd_s rfl rfl trivial (ss_move rfl) rfl ?_
    obtain ⟨q5, h⟩ := h
    refine rd_s rfl rfl trivial (ss_idxL rfl rfl q5) rfl ?_
    refine rd_l rfl rfl trivial (ss_loadL (f := ci) rfl q4) rfl ?_
    refine rd_l rfl rfl trivial (ss_loadL (f := ci) rfl q5) rfl ?_
    refine rd_s rfl rfl trivial (ss_neq rfl rfl) rfl ?_
    refine rd_nil ?_
    refine aw_cond rfl (fun q6 => ?_) (fun q6 => ?_)
    ·replace h := h.1 (of_decide_eq_false (bnot_t q6))
     refine aw_seq ?_
     refine aw_gh (gh_to (n := 26) (σ' := []) (env' := []) rfl rfl trivial) ?_
     refine aw_region ?_
     refine run_s (ss_assign rfl) rfl ?_
     refine run_nil ?_
     refine aw_ret ?_
     exact retAF_mk (retv1 rfl (rv_tmp rfl)) rfl rfl ⟨_, (cle_refl _), _, h, rfl⟩
    ·replace h := h.2 (of_decide_eq_true (bnot_f q6))
     refine aw_skip ?_
     refine aw_gh (gh_to (n := 26) (σ' := []) (env' := [(0, .c (.lst (ints a))), (1, .c (.lst (ints b))), (12, .c (ci (a.length : Int))), (13, .c (ci v13_1))]) rfl rfl ⟨rfl, rfl, rfl, rfl, trivial⟩) ?_
     refine aw_region ?_
     obtain ⟨q7, h⟩ := h
     refine run_s (ss_add rfl rfl q7) rfl ?_
     refine run_s (ss_move rfl) rfl ?_
     refine run_nil ?_
     exact ⟨v13_1 + 1, ghe_to (n := 26) rfl rfl ⟨rfl, rfl, rfl, rfl, trivial⟩, h.1, h.2⟩
   ·replace h := h.2 (of_decide_eq_false q3)
    refine aw_exit ?_
    refine aw_seq ?_
    refine aw_gh (gh_to (n := 26) (σ' := []) (env' := []) rfl rfl trivial) ?_
    refine aw_region ?_
    refine run_s (ss_assign rfl) rfl ?_
    refine run_nil ?_
    refine aw_ret ?_
    exact retAF_mk (retv1 rfl (rv_tmp rfl)) rfl rfl ⟨_, (cle_refl _), _, h, rfl⟩

theorem c_k_Equal (a : List Int) (b : List Int) (hp : small a ∧ small b) : AF Try.prog 75 [.lst (ints a), .lst (ints b)] (fun R_ => R_ = cb (decide (a = b))) :=
  (w_k_Equal a b (fun y0 => y0 = decide (a = b)) (p_k_Equal a b hp)).mono (by rintro r ⟨_, rfl, rfl⟩; rfl)

set_option maxRecDepth 100000 in
set_option maxHeartbeats 4000000 in
theorem w_spec_l01Same (a : List Int) (b : List Int) (Q : Bool → Prop) (h : wp_spec_l01Same a b Q) : AF Try.prog 57 [.lst (ints a), .lst (ints b)] (fun R_ => ∃ y0, Q y0 ∧ R_ = cb y0) := by
  refine AF.ofWQ (af_enter (n := 26) Try.func57 rfl (by rfl) rfl (Nat.le_of_ble_eq_true rfl) ?_)
  unfold wp_spec_l01Same at h
  refine aw_seq ?_
  refine aw_gh (gh_to (n := 26) (σ' := []) (env' := [(0, .c (.lst (ints a))), (1, .c (.lst (ints b)))]) rfl rfl ⟨rfl, rfl, trivial⟩) ?_
  refine aw_region ?_
  refine run_s (ss_assign rfl) rfl ?_
  refine run_nil ?_
  refine aw_seq ?_
  refine aw_seq ?_
  refine aw_region ?_
  refine run_s (ss_move rfl) rfl ?_
  refine run_s (ss_lenL (f := ci) rfl) rfl ?_
  refine run_s (ss_move rfl) rfl ?_
  refine run_s (ss_lenL (f := ci) rfl) rfl ?_
  refine run_s (ss_neq rfl rfl) rfl ?_
  refine run_nil ?_
  refine aw_cond rfl (fun q1 => ?_) (fun q1 => ?_)
  ·replace h := h.1 (of_decide_eq_false (bnot_t q1))
   refine aw_seq ?_
   refine aw_gh (gh_to (n := 26) (σ' := []) (env' := [(4, .c (cb false))]) rfl rfl ⟨rfl, trivial⟩) ?_
   refine aw_region ?_
   refine run_s (ss_assign rfl) rfl ?_
   refine run_nil ?_
   refine aw_ret ?_
   exact retAF_mk (retv1 rfl (rv_tmp rfl)) rfl rfl ⟨_, (cle_refl _), _, h, rfl⟩
  ·replace h := h.2 (of_decide_eq_true (bnot_f q1))
   refine aw_skip ?_
   refine aw_seq ?_
   refine aw_seq ?_
   refine aw_gh (gh_to (n := 26) (σ' := []) (env' := [(0, .c (.lst (ints a))), (1, .c (.lst (ints b)))]) rfl rfl ⟨rfl, rfl, trivial⟩) ?_
   refine aw_region ?_
   refine run_s (ss_assign rfl) rfl ?_
   refine run_nil ?_
   refine aw_block ?_
   obtain ⟨H1, m1, q2, h⟩ := h
   refine aw_loop1 (fun (v5_1 : Int) => ⟨[], [(0, .c (.lst (ints a))), (1, .c (.lst (ints b))), (5, .c (ci v5_1))], 26⟩) H1 m1 ⟨0, ghe_to (n := 26) rfl rfl ⟨rfl, rfl, rfl, trivial⟩, q2⟩ ?_
   rintro v5_1 q2
   replace h := h v5_1 q2
   refine aw_seq ?_
   refine aw_seq ?_
   refine aw_region ?_
   refine run_s (ss_move rfl) rfl ?_
   refine run_s (ss_move rfl) rfl ?_
   refine run_s (ss_lenL (f := ci) rfl) rfl ?_
   refine run_s (ss_lss rfl rfl) rfl ?_
   refine run_nil ?_
   refine aw_cond rfl (fun q3 => ?_) (fun q3 => ?_)
   ·replace h := h.1 (of_decide_eq_true q3)
    refine aw_skip ?_
    refine aw_seq ?_
    refine aw_block ?_
    refine aw_seq ?_
    refine aw_gh (gh_to (n := 26) (σ' := []) (env' := [(0, .c (.lst (ints a))), (1, .c (.lst (ints b))), (5, .c (ci v5_1))]) rfl rfl ⟨rfl, rfl, rfl, trivial⟩) ?_
    refine aw_regionD (kd := kdl [0, 0, 0, 1, 0, 0, 0, 1, 0]) (ord := [0, 1, 2, 4, 5, 6, 3, 7, 8]) [] mixed (by kernel_rfl) ?_
    refine rd_s rfl rfl trivial (ss_move rfl) rfl ?_
    refine rd_s rfl rfl trivial (ss_move rfl) rfl ?_
    obtain ⟨q4, h⟩ := h
    refine rd_s rfl rfl trivial (ss_idxL rfl rfl q4) rfl ?_
    refine rd_s rfl rfl trivial (ss_move rfl) rfl ?_
    refine rd_s rfl rfl trivial (ss_move rfl) rfl ?_
    obtain ⟨q5, h⟩ := h
    refine rd_s rfl rfl trivial (ss_idxL rfl rfl q5) rfl ?_
    refine rd_l rfl rfl trivial (ss_loadL (f := ci) rfl q4) rfl ?_
    refine rd_l rfl rfl trivial (ss_loadL (f := ci) rfl q5) rfl ?_
    refine rd_s rfl rfl trivial (ss_neq rfl rfl) rfl ?_
    refine rd_nil ?_
    refine aw_cond rfl (fun q6 => ?_) (fun q6 => ?_)
    ·replace h := h.1 (of_decide_eq_false (bnot_t q6))
     refine aw_seq ?_
     refine aw_gh (gh_to (n := 26) (σ' := []) (env' := []) rfl rfl trivial) ?_
     refine aw_region ?_
     refine run_s (ss_assign rfl) rfl ?_
     refine run_nil ?_
     refine aw_ret ?_
     exact retAF_mk (retv1 rfl (rv_tmp rfl)) rfl rfl ⟨_, (cle_refl _), _, h, rfl⟩
    ·replace h := h.2 (of_decide_eq_true (bnot_f q6))
     refine aw_skip ?_
     refine aw_gh (gh_to (n := 26) (σ' := []) (env' := [(0, .c (.lst (ints a))), (1, .c (.lst (ints b))), (5, .c (ci v5_1))]) rfl rfl ⟨rfl, rfl, rfl, trivial⟩) ?_
     refine aw_region ?_
     refine run_s (ss_move rfl) rfl ?_
     obtain ⟨q7, h⟩ := h
     refine run_s (ss_add rfl rfl q7) rfl ?_
     refine run_s (ss_assign rfl) rfl ?_
     refine run_nil ?_
     exact ⟨v5_1 + 1, ghe_to (n := 26) rfl rfl ⟨rfl, rfl, rfl, trivial⟩, h.1, h.2⟩
   ·replace h := h.2 (of_decide_eq_false q3)
    refine aw_exit ?_
    refine aw_seq ?_
    refine aw_gh (gh_to (n := 26) (σ' := []) (env' := []) rfl rfl trivial) ?_
    refine aw_region ?_
    refine run_s (ss_assign rfl) rfl ?_
    refine run_nil ?_
    refine aw_ret ?_
    exact retAF_mk (retv1 rfl (rv_tmp rfl)) rfl rfl ⟨_, (cle_refl _), _, h, rfl⟩

theorem c_spec_l01Same (a : List Int) (b : List Int) (hp : small a ∧ small b) : AF Try.prog 57 [.lst (ints a), .lst (ints b)] (fun R_ => R_ = cb (decide (a = b))) :=
  (w_spec_l01Same a b (fun y0 => y0 = decide (a = b)) (p_spec_l01Same a b hp)).mono (by rintro r ⟨_, rfl, rfl⟩; rfl)

set_option maxRecDepth 100000 in
set_option maxHeartbeats 4000000 in
theorem w_impl_identity (n : Int) (Q : List Int → Prop) (h : wp_impl_identity n Q) : AF Try.prog 91 [ci n] (fun R_ => ∃ y0, Q y0 ∧ R_ = .own (ints y0)) := by
  refine AF.ofWQ (af_enter (n := 18) Try.func91 rfl (by rfl) rfl (Nat.le_of_ble_eq_true rfl) ?_)
  unfold wp_impl_identity at h
  refine aw_seq ?_
  refine aw_gh (gh_to (n := 18) (σ' := []) (env' := [(0, .c (ci n))]) rfl rfl ⟨rfl, trivial⟩) ?_
  refine aw_region ?_
  refine run_s (ss_assign rfl) rfl ?_
  refine run_nil ?_
  refine aw_seq ?_
  refine aw_region ?_
  refine run_s (ss_move rfl) rfl ?_
  obtain ⟨q1, h⟩ := h
  refine run_w (ws_mk (id := 6) ci (0 : Int) rfl rfl rfl q1 (Nat.le_of_ble_eq_true rfl) rfl ⟨rfl, ?_⟩)
  refine run_s (ss_assign rfl) rfl ?_
  refine run_nil ?_
  refine aw_seq ?_
  refine aw_seq ?_
  refine aw_region ?_
  refine run_s (ss_move rfl) rfl ?_
  refine run_s (ss_lenR (f := ci) rfl rfl) rfl ?_
  refine run_s (ss_move rfl) rfl ?_
  refine run_nil ?_
  refine aw_block ?_
  obtain ⟨H1, m1, q2, h⟩ := h
  refine aw_loop2 (fun (v9_1 : Int) (o6_1 : List Int) => ⟨[(6, ⟨ints o6_1, []⟩)], [(3, .ref 6), (8, .c (ci ((List.replicate n.toNat (0 : Int)).length : Int))), (9, .c (ci v9_1))], 18⟩) H1 m1 ⟨0, List.replicate n.toNat (0 : Int), ghe_to (n := 18) rfl rfl ⟨rfl, rfl, rfl, trivial⟩, q2⟩ ?_
  rintro v9_1 o6_1 q2
  replace h := h v9_1 o6_1 q2
  refine aw_seq ?_
  refine aw_region ?_
  refine run_s (ss_lss rfl rfl) rfl ?_
  refine run_nil ?_
  refine aw_seq ?_
  refine aw_cond rfl (fun q3 => ?_) (fun q3 => ?_)
  ·replace h := h.1 (of_decide_eq_true q3)
   refine aw_skip ?_
   refine aw_seq ?_
   refine aw_block ?_
   refine aw_seq ?_
   refine aw_region ?_
   refine run_s (ss_move rfl) rfl ?_
   refine run_s (ss_assign rfl) rfl ?_
   refine run_nil ?_
   refine aw_region ?_
   refine run_s (ss_move rfl) rfl ?_
   refine run_s (ss_move rfl) rfl ?_
   refine run_s (ss_move rfl) rfl ?_
   obtain ⟨q4, h⟩ := h
   refine run_s (ss_idxR (f := ci) rfl rfl rfl q4) rfl ?_
   refine run_w (ws_storeE rfl rfl (map_lt q4) rfl rfl (map_se (f := ci)) rfl ⟨rfl, ?_⟩)
   refine run_nil ?_
   refine aw_gh (gh_to (n := 18) (σ' := [(6, ⟨ints (se o6_1 v9_1 v9_1), []⟩)]) (env' := [(3, .ref 6), (8, .c (ci ((List.replicate n.toNat (0 : Int)).length : Int))), (9, .c (ci v9_1))]) rfl rfl ⟨rfl, rfl, rfl, trivial⟩) ?_
   refine aw_region ?_
   obtain ⟨q5, h⟩ := h
   refine run_s (ss_add rfl rfl q5) rfl ?_
   refine run_s (ss_move rfl) rfl ?_
   refine run_nil ?_
   exact ⟨v9_1 + 1, se o6_1 v9_1 v9_1, ghe_to (n := 18) rfl rfl ⟨rfl, rfl, rfl, trivial⟩, h.1, h.2⟩
  ·replace h := h.2 (of_decide_eq_false q3)
   refine aw_exit ?_
   refine aw_seq ?_
   refine aw_region ?_
   refine run_s (ss_move rfl) rfl ?_
   refine run_s (ss_assign rfl) rfl ?_
   refine run_nil ?_
   refine aw_ret ?_
   exact retAF_mk (retv1 rfl (rv_tmp rfl)) rfl rfl ⟨_, (cle_refl _), _, h, rfl⟩

theorem c_impl_identity (n : Int) (hp : 0 ≤ n ∧ n ≤ 1000000) : AF Try.prog 91 [ci n] (fun R_ => R_ = .own (ints (unitI n))) :=
  (w_impl_identity n (fun y0 => y0 = unitI n) (p_impl_identity n hp)).mono (by rintro r ⟨_, rfl, rfl⟩; rfl)

set_option maxRecDepth 100000 in
set_option maxHeartbeats 4000000 in
theorem w_spec_l01Then (p : List Int) (q : List Int) (Q : List Int → Prop) (h : wp_spec_l01Then p q Q) : AF Try.prog 76 [.lst (ints p), .lst (ints q)] (fun R_ => ∃ y0, Q y0 ∧ R_ = .own (ints y0)) := by
  refine AF.ofWQ (af_enter (n := 25) Try.func76 rfl (by rfl) rfl (Nat.le_of_ble_eq_true rfl) ?_)
  unfold wp_spec_l01Then at h
  refine aw_seq ?_
  refine aw_gh (gh_to (n := 25) (σ' := []) (env' := [(0, .c (.lst (ints p))), (1, .c (.lst (ints q)))]) rfl rfl ⟨rfl, rfl, trivial⟩) ?_
  refine aw_region ?_
  refine run_s (ss_assign rfl) rfl ?_
  refine run_nil ?_
  refine aw_seq ?_
  refine aw_region ?_
  refine run_w (ws_buildSlice (id := 7) (ps := []) rfl rfl (Nat.le_of_ble_eq_true rfl) rfl ⟨rfl, ?_⟩)
  refine run_s (ss_assign rfl) rfl ?_
  refine run_nil ?_
  refine aw_seq ?_
  refine aw_seq ?_
  refine aw_region ?_
  refine run_s (ss_assign rfl) rfl ?_
  refine run_nil ?_
  refine aw_block ?_
  obtain ⟨H1, m1, q1, h⟩ := h
  refine aw_loop2 (fun (v6_1 : Int) (o7_1 : List Int) => ⟨[(7, ⟨ints o7_1, []⟩)], [(0, .c (.lst (ints p))), (1, .c (.lst (ints q))), (5, .ref 7), (6, .c (ci v6_1))], 25⟩) H1 m1 ⟨0, ([] : List Int), ghe_to (n := 25) rfl rfl ⟨rfl, rfl, rfl, rfl, trivial⟩, q1⟩ ?_
  rintro v6_1 o7_1 q1
  replace h := h v6_1 o7_1 q1
  refine aw_seq ?_
  refine aw_seq ?_
  refine aw_region ?_
  refine run_s (ss_move rfl) rfl ?_
  refine run_s (ss_move rfl) rfl ?_
  refine run_s (ss_lenL (f := ci) rfl) rfl ?_
  refine run_s (ss_lss rfl rfl) rfl ?_
  refine run_nil ?_
  refine aw_cond rfl (fun q2 => ?_) (fun q2 => ?_)
  ·replace h := h.1 (of_decide_eq_true q2)
   refine aw_skip ?_
   refine aw_seq ?_
   refine aw_block ?_
   refine aw_region ?_
   refine run_s (ss_move rfl) rfl ?_
   refine run_s (ss_move rfl) rfl ?_
   refine run_s (ss_move rfl) rfl ?_
   refine run_s (ss_move rfl) rfl ?_
   obtain ⟨q3, h⟩ := h
   refine run_s (ss_idxL rfl rfl q3) rfl ?_
   refine run_s (ss_loadL (f := ci) rfl q3) rfl ?_
   obtain ⟨q4, h⟩ := h
   refine run_s (ss_idxL rfl rfl q4) rfl ?_
   refine run_s (ss_loadL (f := ci) rfl q4) rfl ?_
   refine run_w (ws_buildSlice (id := 22) (ps := [(0, .tmp 21)]) rfl rfl (Nat.le_of_ble_eq_true rfl) rfl ⟨rfl, ?_⟩)
   obtain ⟨q5, h⟩ := h
   refine run_w (ws_app1 ci (l := o7_1) (m := [el q (el p v6_1)]) rfl rfl rfl rfl rfl (Nat.le_of_ble_eq_true rfl) q5 ⟨rfl, ?_⟩)
   refine run_s (ss_assign rfl) rfl ?_
   refine run_nil ?_
   refine aw_gh (gh_to (n := 25) (σ' := [(7, ⟨ints (o7_1 ++ ([el q (el p v6_1)])), []⟩)]) (env' := [(0, .c (.lst (ints p))), (1, .c (.lst (ints q))), (5, .ref 7), (6, .c (ci v6_1))]) rfl rfl ⟨rfl, rfl, rfl, rfl, trivial⟩) ?_
   refine aw_region ?_
   refine run_s (ss_move rfl) rfl ?_
   obtain ⟨q6, h⟩ := h
   refine run_s (ss_add rfl rfl q6) rfl ?_
   refine run_s (ss_assign rfl) rfl ?_
   refine run_nil ?_
   exact ⟨v6_1 + 1, o7_1 ++ ([el q (el p v6_1)]), ghe_to (n := 25) rfl rfl ⟨rfl, rfl, rfl, rfl, trivial⟩, h.1, h.2⟩
  ·replace h := h.2 (of_decide_eq_false q2)
   refine aw_exit ?_
   refine aw_seq ?_
   refine aw_gh (gh_to (n := 25) (σ' := [(7, ⟨ints o7_1, []⟩)]) (env' := [(5, .ref 7)]) rfl rfl ⟨rfl, trivial⟩) ?_
   refine aw_region ?_
   refine run_s (ss_move rfl) rfl ?_
   refine run_s (ss_assign rfl) rfl ?_
   refine run_nil ?_
   refine aw_ret ?_
   exact retAF_mk (retv1 rfl (rv_tmp rfl)) rfl rfl ⟨_, (cle_refl _), _, h, rfl⟩

theorem c_spec_l01Then (p : List Int) (q : List Int) (hp : small p ∧ ∀ x_ ∈ p, 0 ≤ x_ ∧ x_ < (q.length : Int)) : AF Try.prog 76 [.lst (ints p), .lst (ints q)] (fun R_ => R_ = .own (ints (p.map (el q)))) :=
  (w_spec_l01Then p q (fun y0 => y0 = p.map (el q)) (p_spec_l01Then p q hp)).mono (by rintro r ⟨_, rfl, rfl⟩; rfl)

set_option maxRecDepth 100000 in
set_option maxHeartbeats 4000000 in
theorem w_impl_then (p : List Int) (q : List Int) (Q : List Int → Prop) (h : wp_impl_then p q Q) : AF Try.prog 83 [.lst (ints p), .lst (ints q)] (fun R_ => ∃ y0, Q y0 ∧ R_ = .own (ints y0)) := by
  refine AF.ofWQ (af_enter (n := 27) Try.func83 rfl (by rfl) rfl (Nat.le_of_ble_eq_true rfl) ?_)
  unfold wp_impl_then at h
  refine aw_seq ?_
  refine aw_gh (gh_to (n := 27) (σ' := []) (env' := [(0, .c (.lst (ints p))), (1, .c (.lst (ints q)))]) rfl rfl ⟨rfl, rfl, trivial⟩) ?_
  refine aw_region ?_
  refine run_s (ss_assign rfl) rfl ?_
  refine run_nil ?_
  refine aw_seq ?_
  refine aw_region ?_
  refine run_s (ss_move rfl) rfl ?_
  refine run_s (ss_lenL (f := ci) rfl) rfl ?_
  obtain ⟨q1, h⟩ := h
  refine run_w (ws_mk (id := 10) ci (0 : Int) rfl rfl rfl q1 (Nat.le_of_ble_eq_true rfl) rfl ⟨rfl, ?_⟩)
  refine run_s (ss_assign rfl) rfl ?_
  refine run_nil ?_
  refine aw_seq ?_
  refine aw_seq ?_
  refine aw_region ?_
  refine run_s (ss_move rfl) rfl ?_
  refine run_s (ss_lenL (f := ci) rfl) rfl ?_
  refine run_s (ss_move rfl) rfl ?_
  refine run_nil ?_
  refine aw_block ?_
  obtain ⟨H1, m1, q2, h⟩ := h
  refine aw_loop2 (fun (v13_1 : Int) (o10_1 : List Int) => ⟨[(10, ⟨ints o10_1, []⟩)], [(1, .c (.lst (ints q))), (5, .ref 10), (11, .c (.lst (ints p))), (12, .c (ci (p.length : Int))), (13, .c (ci v13_1))], 27⟩) H1 m1 ⟨0, List.replicate (p.length : Int).toNat (0 : Int), ghe_to (n := 27) rfl rfl ⟨rfl, rfl, rfl, rfl, rfl, trivial⟩, q2⟩ ?_
  rintro v13_1 o10_1 q2
  replace h := h v13_1 o10_1 q2
  refine aw_seq ?_
  refine aw_region ?_
  refine run_s (ss_lss rfl rfl) rfl ?_
  refine run_nil ?_
  refine aw_seq ?_
  refine aw_cond rfl (fun q3 => ?_) (fun q3 => ?_)
  ·replace h := h.1 (of_decide_eq_true q3)
   refine aw_skip ?_
   refine aw_seq ?_
   refine aw_block ?_
   refine aw_seq ?_
   refine aw_region ?_
   refine run_s (ss_move rfl) rfl ?_
   obtain ⟨q4, h⟩ := h
   refine run_s (ss_idxL rfl rfl q4) rfl ?_
   refine run_s (ss_loadL (f := ci) rfl q4) rfl ?_
   refine run_s (ss_assign rfl) rfl ?_
   refine run_s (ss_assign rfl) rfl ?_
   refine run_nil ?_
   refine aw_region ?_
   refine run_s (ss_move rfl) rfl ?_
   refine run_s (ss_move rfl) rfl ?_
   refine run_s (ss_move rfl) rfl ?_
   refine run_s (ss_move rfl) rfl ?_
   obtain ⟨q5, h⟩ := h
   refine run_s (ss_idxL rfl rfl q5) rfl ?_
   refine run_s (ss_loadL (f := ci) rfl q5) rfl ?_
   obtain ⟨q6, h⟩ := h
   refine run_s (ss_idxR (f := ci) rfl rfl rfl q6) rfl ?_
   refine run_w (ws_storeE rfl rfl (map_lt q6) rfl rfl (map_se (f := ci)) rfl ⟨rfl, ?_⟩)
   refine run_nil ?_
   refine aw_gh (gh_to (n := 27) (σ' := [(10, ⟨ints (se o10_1 v13_1 (el q (el p v13_1))), []⟩)]) (env' := [(1, .c (.lst (ints q))), (5, .ref 10), (11, .c (.lst (ints p))), (12, .c (ci (p.length : Int))), (13, .c (ci v13_1))]) rfl rfl ⟨rfl, rfl, rfl, rfl, rfl, trivial⟩) ?_
   refine aw_region ?_
   obtain ⟨q7, h⟩ := h
   refine run_s (ss_add rfl rfl q7) rfl ?_
   refine run_s (ss_move rfl) rfl ?_
   refine run_nil ?_
   exact ⟨v13_1 + 1, se o10_1 v13_1 (el q (el p v13_1)), ghe_to (n := 27) rfl rfl ⟨rfl, rfl, rfl, rfl, rfl, trivial⟩, h.1, h.2⟩
  ·replace h := h.2 (of_decide_eq_false q3)
   refine aw_exit ?_
   refine aw_seq ?_
   refine aw_gh (gh_to (n := 27) (σ' := [(10, ⟨ints o10_1, []⟩)]) (env' := [(5, .ref 10)]) rfl rfl ⟨rfl, trivial⟩) ?_
   refine aw_region ?_
   refine run_s (ss_move rfl) rfl ?_
   refine run_s (ss_assign rfl) rfl ?_
   refine run_nil ?_
   refine aw_ret ?_
   exact retAF_mk (retv1 rfl (rv_tmp rfl)) rfl rfl ⟨_, (cle_refl _), _, h, rfl⟩

theorem c_impl_then (p : List Int) (q : List Int) (hp : small p ∧ ∀ x_ ∈ p, 0 ≤ x_ ∧ x_ < (q.length : Int)) : AF Try.prog 83 [.lst (ints p), .lst (ints q)] (fun R_ => R_ = .own (ints (p.map (el q)))) :=
  (w_impl_then p q (fun y0 => y0 = p.map (el q)) (p_impl_then p q hp)).mono (by rintro r ⟨_, rfl, rfl⟩; rfl)

set_option maxRecDepth 100000 in
set_option maxHeartbeats 4000000 in
theorem w_spec_l01Back (p : List Int) (Q : List Int → Prop) (h : wp_spec_l01Back p Q) : AF Try.prog 77 [.lst (ints p)] (fun R_ => ∃ y0, Q y0 ∧ R_ = .own (ints y0)) := by
  refine AF.ofWQ (af_enter (n := 22) Try.func77 rfl (by rfl) rfl (Nat.le_of_ble_eq_true rfl) ?_)
  unfold wp_spec_l01Back at h
  refine aw_seq ?_
  refine aw_gh (gh_to (n := 22) (σ' := []) (env' := [(0, .c (.lst (ints p)))]) rfl rfl ⟨rfl, trivial⟩) ?_
  refine aw_region ?_
  refine run_s (ss_assign rfl) rfl ?_
  refine run_nil ?_
  refine aw_seq ?_
  refine aw_region ?_
  refine run_s (ss_move rfl) rfl ?_
  refine run_s (ss_lenL (f := ci) rfl) rfl ?_
  obtain ⟨q1, h⟩ := h
  refine run_w (ws_mk (id := 7) ci (0 : Int) rfl rfl rfl q1 (Nat.le_of_ble_eq_true rfl) rfl ⟨rfl, ?_⟩)
  refine run_s (ss_assign rfl) rfl ?_
  refine run_nil ?_
  refine aw_seq ?_
  refine aw_seq ?_
  refine aw_gh (gh_to (n := 22) (σ' := [(7, ⟨ints (List.replicate (p.length : Int).toNat (0 : Int)), []⟩)]) (env' := [(0, .c (.lst (ints p))), (3, .ref 7)]) rfl rfl ⟨rfl, rfl, trivial⟩) ?_
  refine aw_region ?_
  refine run_s (ss_assign rfl) rfl ?_
  refine run_nil ?_
  refine aw_block ?_
  obtain ⟨H1, m1, q2, h⟩ := h
  refine aw_loop2 (fun (v4_1 : Int) (o7_1 : List Int) => ⟨[(7, ⟨ints o7_1, []⟩)], [(0, .c (.lst (ints p))), (3, .ref 7), (4, .c (ci v4_1))], 22⟩) H1 m1 ⟨0, List.replicate (p.length : Int).toNat (0 : Int), ghe_to (n := 22) rfl rfl ⟨rfl, rfl, rfl, trivial⟩, q2⟩ ?_
  rintro v4_1 o7_1 q2
  replace h := h v4_1 o7_1 q2
  refine aw_seq ?_
  refine aw_seq ?_
  refine aw_region ?_
  refine run_s (ss_move rfl) rfl ?_
  refine run_s (ss_move rfl) rfl ?_
  refine run_s (ss_lenL (f := ci) rfl) rfl ?_
  refine run_s (ss_lss rfl rfl) rfl ?_
  refine run_nil ?_
  refine aw_cond rfl (fun q3 => ?_) (fun q3 => ?_)
  ·replace h := h.1 (of_decide_eq_true q3)
   refine aw_skip ?_
   refine aw_seq ?_
   refine aw_block ?_
   refine aw_region ?_
   refine run_s (ss_move rfl) rfl ?_
   refine run_s (ss_move rfl) rfl ?_
   refine run_s (ss_move rfl) rfl ?_
   obtain ⟨q4, h⟩ := h
   refine run_s (ss_idxL rfl rfl q4) rfl ?_
   refine run_s (ss_loadL (f := ci) rfl q4) rfl ?_
   refine run_s (ss_move rfl) rfl ?_
   obtain ⟨q5, h⟩ := h
   refine run_s (ss_idxR (f := ci) rfl rfl rfl q5) rfl ?_
   refine run_w (ws_storeE rfl rfl (map_lt q5) rfl rfl (map_se (f := ci)) rfl ⟨rfl, ?_⟩)
   refine run_nil ?_
   refine aw_gh (gh_to (n := 22) (σ' := [(7, ⟨ints (se o7_1 (el p v4_1) v4_1), []⟩)]) (env' := [(0, .c (.lst (ints p))), (3, .ref 7), (4, .c (ci v4_1))]) rfl rfl ⟨rfl, rfl, rfl, trivial⟩) ?_
   refine aw_region ?_
   refine run_s (ss_move rfl) rfl ?_
   obtain ⟨q6, h⟩ := h
   refine run_s (ss_add rfl rfl q6) rfl ?_
   refine run_s (ss_assign rfl) rfl ?_
   refine run_nil ?_
   exact ⟨v4_1 + 1, se o7_1 (el p v4_1) v4_1, ghe_to (n := 22) rfl rfl ⟨rfl, rfl, rfl, trivial⟩, h.1, h.2⟩
  ·replace h := h.2 (of_decide_eq_false q3)
   refine aw_exit ?_
   refine aw_seq ?_
   refine aw_gh (gh_to (n := 22) (σ' := [(7, ⟨ints o7_1, []⟩)]) (env' := [(3, .ref 7)]) rfl rfl ⟨rfl, trivial⟩) ?_
   refine aw_region ?_
   refine run_s (ss_move rfl) rfl ?_
   refine run_s (ss_assign rfl) rfl ?_
   refine run_nil ?_
   refine aw_ret ?_
   exact retAF_mk (retv1 rfl (rv_tmp rfl)) rfl rfl ⟨_, (cle_refl _), _, h, rfl⟩

theorem c_spec_l01Back (p : List Int) (hp : small p ∧ isPerm p = true) : AF Try.prog 77 [.lst (ints p)] (fun R_ => R_ = .own (ints (backI p))) :=
  (w_spec_l01Back p (fun y0 => y0 = backI p) (p_spec_l01Back p hp)).mono (by rintro r ⟨_, rfl, rfl⟩; rfl)

set_option maxRecDepth 100000 in
set_option maxHeartbeats 4000000 in
theorem w_impl_inverse (p : List Int) (Q : List Int → Prop) (h : wp_impl_inverse p Q) : AF Try.prog 84 [.lst (ints p)] (fun R_ => ∃ y0, Q y0 ∧ R_ = .own (ints y0)) := by
  refine AF.ofWQ (af_enter (n := 22) Try.func84 rfl (by rfl) rfl (Nat.le_of_ble_eq_true rfl) ?_)
  unfold wp_impl_inverse at h
  refine aw_seq ?_
  refine aw_gh (gh_to (n := 22) (σ' := []) (env' := [(0, .c (.lst (ints p)))]) rfl rfl ⟨rfl, trivial⟩) ?_
  refine aw_region ?_
  refine run_s (ss_assign rfl) rfl ?_
  refine run_nil ?_
  refine aw_seq ?_
  refine aw_region ?_
  refine run_s (ss_move rfl) rfl ?_
  refine run_s (ss_lenL (f := ci) rfl) rfl ?_
  obtain ⟨q1, h⟩ := h
  refine run_w (ws_mk (id := 8) ci (0 : Int) rfl rfl rfl q1 (Nat.le_of_ble_eq_true rfl) rfl ⟨rfl, ?_⟩)
  refine run_s (ss_assign rfl) rfl ?_
  refine run_nil ?_
  refine aw_seq ?_
  refine aw_seq ?_
  refine aw_region ?_
  refine run_s (ss_move rfl) rfl ?_
  refine run_s (ss_lenL (f := ci) rfl) rfl ?_
  refine run_s (ss_move rfl) rfl ?_
  refine run_nil ?_
  refine aw_block ?_
  obtain ⟨H1, m1, q2, h⟩ := h
  refine aw_loop2 (fun (v11_1 : Int) (o8_1 : List Int) => ⟨[(8, ⟨ints o8_1, []⟩)], [(3, .ref 8), (9, .c (.lst (ints p))), (10, .c (ci (p.length : Int))), (11, .c (ci v11_1))], 22⟩) H1 m1 ⟨0, List.replicate (p.length : Int).toNat (0 : Int), ghe_to (n := 22) rfl rfl ⟨rfl, rfl, rfl, rfl, trivial⟩, q2⟩ ?_
  rintro v11_1 o8_1 q2
  replace h := h v11_1 o8_1 q2
  refine aw_seq ?_
  refine aw_region ?_
  refine run_s (ss_lss rfl rfl) rfl ?_
  refine run_nil ?_
  refine aw_seq ?_
  refine aw_cond rfl (fun q3 => ?_) (fun q3 => ?_)
  ·replace h := h.1 (of_decide_eq_true q3)
   refine aw_skip ?_
   refine aw_seq ?_
   refine aw_block ?_
   refine aw_seq ?_
   refine aw_region ?_
   refine run_s (ss_move rfl) rfl ?_
   obtain ⟨q4, h⟩ := h
   refine run_s (ss_idxL rfl rfl q4) rfl ?_
   refine run_s (ss_loadL (f := ci) rfl q4) rfl ?_
   refine run_s (ss_assign rfl) rfl ?_
   refine run_s (ss_assign rfl) rfl ?_
   refine run_nil ?_
   refine aw_region ?_
   refine run_s (ss_move rfl) rfl ?_
   refine run_s (ss_move rfl) rfl ?_
   refine run_s (ss_move rfl) rfl ?_
   obtain ⟨q5, h⟩ := h
   refine run_s (ss_idxR (f := ci) rfl rfl rfl q5) rfl ?_
   refine run_w (ws_storeE rfl rfl (map_lt q5) rfl rfl (map_se (f := ci)) rfl ⟨rfl, ?_⟩)
   refine run_nil ?_
   refine aw_gh (gh_to (n := 22) (σ' := [(8, ⟨ints (se o8_1 (el p v11_1) v11_1), []⟩)]) (env' := [(3, .ref 8), (9, .c (.lst (ints p))), (10, .c (ci (p.length : Int))), (11, .c (ci v11_1))]) rfl rfl ⟨rfl, rfl, rfl, rfl, trivial⟩) ?_
   refine aw_region ?_
   obtain ⟨q6, h⟩ := h
   refine run_s (ss_add rfl rfl q6) rfl ?_
   refine run_s (ss_move rfl) rfl ?_
   refine run_nil ?_
   exact ⟨v11_1 + 1, se o8_1 (el p v11_1) v11_1, ghe_to (n := 22) rfl rfl ⟨rfl, rfl, rfl, rfl, trivial⟩, h.1, h.2⟩
  ·replace h := h.2 (of_decide_eq_false q3)
   refine aw_exit ?_
   refine aw_seq ?_
   refine aw_region ?_
   refine run_s (ss_move rfl) rfl ?_
   refine run_s (ss_assign rfl) rfl ?_
   refine run_nil ?_
   refine aw_ret ?_
   exact retAF_mk (retv1 rfl (rv_tmp rfl)) rfl rfl ⟨_, (cle_refl _), _, h, rfl⟩

theorem c_impl_inverse (p : List Int) (hp : small p ∧ isPerm p = true) : AF Try.prog 84 [.lst (ints p)] (fun R_ => R_ = .own (ints (backI p))) :=
  (w_impl_inverse p (fun y0 => y0 = backI p) (p_impl_inverse p hp)).mono (by rintro r ⟨_, rfl, rfl⟩; rfl)

set_option maxRecDepth 100000 in
set_option maxHeartbeats 4000000 in
theorem w_impl_permutationRows_1 (row : List Int) (Q : Bool → Prop) (h : wp_impl_permutationRows_1 row Q) : AF Try.prog 107 [.lst (ints row)] (fun R_ => ∃ y0, Q y0 ∧ R_ = cb y0) := by
  refine AF.ofWQ (af_enter (n := 6) Try.func107 rfl (by rfl) rfl (Nat.le_of_ble_eq_true rfl) ?_)
  unfold wp_impl_permutationRows_1 at h
  refine aw_seq ?_
  refine aw_gh (gh_to (n := 6) (σ' := []) (env' := [(0, .c (.lst (ints row)))]) rfl rfl ⟨rfl, trivial⟩) ?_
  refine aw_region ?_
  refine run_s (ss_assign rfl) rfl ?_
  refine run_nil ?_
  refine aw_seq ?_
  refine aw_region ?_
  refine run_s (ss_move rfl) rfl ?_
  obtain ⟨q1, h⟩ := h
  refine run_w (ws_call (xs := [.tmp 3]) (ids := []) rfl rfl rfl rfl (c_impl_isPermuted row q1) rfl ?_ )
  rintro _ rfl
  refine ⟨rfl, ?_⟩
  refine run_s (ss_not rfl) rfl ?_
  refine run_s (ss_assign rfl) rfl ?_
  refine run_nil ?_
  refine aw_ret ?_
  exact retAF_mk (retv1 rfl (rv_tmp rfl)) rfl rfl ⟨_, (cle_refl _), _, h, rfl⟩

theorem c_impl_permutationRows_1 (row : List Int) (hp : small row) : AF Try.prog 107 [.lst (ints row)] (fun R_ => R_ = cb (!isPerm row)) :=
  (w_impl_permutationRows_1 row (fun y0 => y0 = !isPerm row) (p_impl_permutationRows_1 row hp)).mono (by rintro r ⟨_, rfl, rfl⟩; rfl)

set_option maxRecDepth 100000 in
set_option maxHeartbeats 4000000 in
theorem w_impl_permutationRows (t : List (List Int)) (Q : Bool → Prop) (h : wp_impl_permutationRows t Q) : AF Try.prog 71 [.lst (rows t)] (fun R_ => ∃ y0, Q y0 ∧ R_ = cb y0) := by
  refine AF.ofWQ (af_enter (n := 6) Try.func71 rfl (by rfl) rfl (Nat.le_of_ble_eq_true rfl) ?_)
  unfold wp_impl_permutationRows at h
  refine aw_seq ?_
  refine aw_gh (gh_to (n := 6) (σ' := []) (env' := [(0, .c (.lst (rows t)))]) rfl rfl ⟨rfl, trivial⟩) ?_
  refine aw_region ?_
  refine run_s (ss_assign rfl) rfl ?_
  refine run_nil ?_
  refine aw_seq ?_
  refine aw_region ?_
  refine run_s (ss_move rfl) rfl ?_
  obtain ⟨q1, h⟩ := h
  refine run_w (ws_call (xs := [.tmp 3, .func 107]) (ids := []) rfl rfl rfl rfl (c_k_ContainsFunc_rows t 107 [] (fun z0 => !isPerm z0) (fun z0 => small z0) (fun z0 hD => c_impl_permutationRows_1 z0 hD) q1) rfl ?_ )
  rintro _ rfl
  refine ⟨rfl, ?_⟩
  refine run_s (ss_not rfl) rfl ?_
  refine run_s (ss_assign rfl) rfl ?_
  refine run_nil ?_
  refine aw_ret ?_
  exact retAF_mk (retv1 rfl (rv_tmp rfl)) rfl rfl ⟨_, (cle_refl _), _, h, rfl⟩

theorem c_impl_permutationRows (t : List (List Int)) (hp : small2 t) : AF Try.prog 71 [.lst (rows t)] (fun R_ => R_ = cb (t.all isPerm)) :=
  (w_impl_permutationRows t (fun y0 => y0 = t.all isPerm) (p_impl_permutationRows t hp)).mono (by rintro r ⟨_, rfl, rfl⟩; rfl)

set_option maxRecDepth 100000 in
set_option maxHeartbeats 4000000 in
theorem w_impl_increasing (list : List Int) (Q : Bool → Prop) (h : wp_impl_increasing list Q) : AF Try.prog 89 [.lst (ints list)] (fun R_ => ∃ y0, Q y0 ∧ R_ = cb y0) := by
  refine AF.ofWQ (af_enter (n := 20) Try.func89 rfl (by rfl) rfl (Nat.le_of_ble_eq_true rfl) ?_)
  unfold wp_impl_increasing at h
  refine aw_seq ?_
  refine aw_gh (gh_to (n := 20) (σ' := []) (env' := [(0, .c (.lst (ints list)))]) rfl rfl ⟨rfl, trivial⟩) ?_
  refine aw_region ?_
  refine run_s (ss_assign rfl) rfl ?_
  refine run_nil ?_
  refine aw_seq ?_
  refine aw_seq ?_
  refine aw_region ?_
  refine run_s (ss_assign rfl) rfl ?_
  refine run_nil ?_
  refine aw_block ?_
  obtain ⟨H1, m1, q1, h⟩ := h
  refine aw_loop1 (fun (v3_1 : Int) => ⟨[], [(0, .c (.lst (ints list))), (3, .c (ci v3_1))], 20⟩) H1 m1 ⟨1, ghe_to (n := 20) rfl rfl ⟨rfl, rfl, trivial⟩, q1⟩ ?_
  rintro v3_1 q1
  replace h := h v3_1 q1
  refine aw_seq ?_
  refine aw_seq ?_
  refine aw_region ?_
  refine run_s (ss_move rfl) rfl ?_
  refine run_s (ss_move rfl) rfl ?_
  refine run_s (ss_lenL (f := ci) rfl) rfl ?_
  refine run_s (ss_lss rfl rfl) rfl ?_
  refine run_nil ?_
  refine aw_cond rfl (fun q2 => ?_) (fun q2 => ?_)
  ·replace h := h.1 (of_decide_eq_true q2)
   refine aw_skip ?_
   refine aw_seq ?_
   refine aw_block ?_
   refine aw_seq ?_
   refine aw_gh (gh_to (n := 20) (σ' := []) (env' := [(0, .c (.lst (ints list))), (3, .c (ci v3_1))]) rfl rfl ⟨rfl, rfl, trivial⟩) ?_
   refine aw_regionD (kd := kdl [0, 0, 0, 0, 1, 0, 0, 0, 1, 0]) (ord := [0, 1, 2, 3, 5, 6, 7, 4, 8, 9]) [] mixed (by kernel_rfl) ?_
   refine rd_s rfl rfl trivial (ss_move rfl) rfl ?_
   refine rd_s rfl rfl trivial (ss_move rfl) rfl ?_
   obtain ⟨q3, h⟩ := h
   refine rd_s rfl rfl trivial (ss_sub rfl rfl q3) rfl ?_
   obtain ⟨q4, h⟩ := h
   refine rd_s rfl rfl trivial (ss_idxL rfl rfl q4) rfl ?_
   refine rd_s rfl rfl trivial (ss_move rfl) rfl ?_
   refine rd_s rfl rfl trivial (ss_move rfl) rfl ?_
   obtain ⟨q5, h⟩ := h
   refine rd_s rfl rfl trivial (ss_idxL rfl rfl q5) rfl ?_
   refine rd_l rfl rfl trivial (ss_loadL (f := ci) rfl q4) rfl ?_
   refine rd_l rfl rfl trivial (ss_loadL (f := ci) rfl q5) rfl ?_
   refine rd_s rfl rfl trivial (ss_geq rfl rfl) rfl ?_
   refine rd_nil ?_
   refine aw_cond rfl (fun q6 => ?_) (fun q6 => ?_)
   ·replace h := h.1 (of_decide_eq_true q6)
    refine aw_seq ?_
    refine aw_gh (gh_to (n := 20) (σ' := []) (env' := []) rfl rfl trivial) ?_
    refine aw_region ?_
    refine run_s (ss_assign rfl) rfl ?_
    refine run_nil ?_
    refine aw_ret ?_
    exact retAF_mk (retv1 rfl (rv_tmp rfl)) rfl rfl ⟨_, (cle_refl _), _, h, rfl⟩
   ·replace h := h.2 (of_decide_eq_false q6)
    refine aw_skip ?_
    refine aw_gh (gh_to (n := 20) (σ' := []) (env' := [(0, .c (.lst (ints list))), (3, .c (ci v3_1))]) rfl rfl ⟨rfl, rfl, trivial⟩) ?_
    refine aw_region ?_
    refine run_s (ss_move rfl) rfl ?_
    obtain ⟨q7, h⟩ := h
    refine run_s (ss_add rfl rfl q7) rfl ?_
    refine run_s (ss_assign rfl) rfl ?_
    refine run_nil ?_
    exact ⟨v3_1 + 1, ghe_to (n := 20) rfl rfl ⟨rfl, rfl, trivial⟩, h.1, h.2⟩
  ·replace h := h.2 (of_decide_eq_false q2)
   refine aw_exit ?_
   refine aw_seq ?_
   refine aw_gh (gh_to (n := 20) (σ' := []) (env' := []) rfl rfl trivial) ?_
   refine aw_region ?_
   refine run_s (ss_assign rfl) rfl ?_
   refine run_nil ?_
   refine aw_ret ?_
   exact retAF_mk (retv1 rfl (rv_tmp rfl)) rfl rfl ⟨_, (cle_refl _), _, h, rfl⟩

theorem c_impl_increasing (list : List Int) (hp : small list) : AF Try.prog 89 [.lst (ints list)] (fun R_ => R_ = cb (incB list)) :=
  (w_impl_increasing list (fun y0 => y0 = incB list) (p_impl_increasing list hp)).mono (by rintro r ⟨_, rfl, rfl⟩; rfl)

set_option maxRecDepth 100000 in
set_option maxHeartbeats 4000000 in
theorem w_impl_isIdentity (p : List Int) (Q : Bool → Prop) (h : wp_impl_isIdentity p Q) : AF Try.prog 49 [.lst (ints p)] (fun R_ => ∃ y0, Q y0 ∧ R_ = cb y0) := by
  refine AF.ofWQ (af_enter (n := 5) Try.func49 rfl (by rfl) rfl (Nat.le_of_ble_eq_true rfl) ?_)
  unfold wp_impl_isIdentity at h
  refine aw_seq ?_
  refine aw_gh (gh_to (n := 5) (σ' := []) (env' := [(0, .c (.lst (ints p)))]) rfl rfl ⟨rfl, trivial⟩) ?_
  refine aw_region ?_
  refine run_s (ss_assign rfl) rfl ?_
  refine run_nil ?_
  refine aw_seq ?_
  refine aw_region ?_
  refine run_s (ss_move rfl) rfl ?_
  obtain ⟨q1, h⟩ := h
  refine run_w (ws_call (xs := [.tmp 3]) (ids := []) rfl rfl rfl rfl (c_impl_increasing p q1) rfl ?_ )
  rintro _ rfl
  refine ⟨rfl, ?_⟩
  refine run_s (ss_assign rfl) rfl ?_
  refine run_nil ?_
  refine aw_ret ?_
  exact retAF_mk (retv1 rfl (rv_tmp rfl)) rfl rfl ⟨_, (cle_refl _), _, h, rfl⟩

theorem c_impl_isIdentity (p : List Int) (hp : small p) : AF Try.prog 49 [.lst (ints p)] (fun R_ => R_ = cb (incB p)) :=
  (w_impl_isIdentity p (fun y0 => y0 = incB p) (p_impl_isIdentity p hp)).mono (by rintro r ⟨_, rfl, rfl⟩; rfl)

set_option maxRecDepth 100000 in
set_option maxHeartbeats 4000000 in
theorem w_impl_rackFault (t : List (List Int)) (Q : List Int → Prop) (h : wp_impl_rackFault t Q) : AF Try.prog 88 [.lst (rows t)] (fun R_ => ∃ y0, Q y0 ∧ R_ = onil y0) := by
  refine AF.ofWQ (af_enter (n := 61) Try.func88 rfl (by rfl) rfl (Nat.le_of_ble_eq_true rfl) ?_)
  unfold wp_impl_rackFault at h
  refine aw_seq ?_
  refine aw_gh (gh_to (n := 61) (σ' := []) (env' := [(0, .c (.lst (rows t)))]) rfl rfl ⟨rfl, trivial⟩) ?_
  refine aw_region ?_
  refine run_s (ss_assign rfl) rfl ?_
  refine run_nil ?_
  refine aw_seq ?_
  refine aw_region ?_
  refine run_s (ss_move rfl) rfl ?_
  refine run_s (ss_lenL (f := (fun r => C.lst (ints r))) rfl) rfl ?_
  refine run_s (ss_assign rfl) rfl ?_
  refine run_nil ?_
  refine aw_seq ?_
  refine aw_seq ?_
  refine aw_region ?_
  refine run_s (ss_move rfl) rfl ?_
  refine run_s (ss_move rfl) rfl ?_
  refine run_nil ?_
  refine aw_block ?_
  obtain ⟨H1, m1, q1, h⟩ := h
  refine aw_loop1 (fun (v10_1 : Int) => ⟨[], [(0, .c (.lst (rows t))), (3, .c (ci (t.length : Int))), (9, .c (ci (t.length : Int))), (10, .c (ci v10_1))], 61⟩) H1 m1 ⟨0, ghe_to (n := 61) rfl rfl ⟨rfl, rfl, rfl, rfl, trivial⟩, q1⟩ ?_
  rintro v10_1 q1
  replace h := h v10_1 q1
  refine aw_seq ?_
  refine aw_region ?_
  refine run_s (ss_lss rfl rfl) rfl ?_
  refine run_nil ?_
  refine aw_seq ?_
  refine aw_cond rfl (fun q2 => ?_) (fun q2 => ?_)
  ·replace h := h.1 (of_decide_eq_true q2)
   refine aw_skip ?_
   refine aw_seq ?_
   refine aw_block ?_
   refine aw_seq ?_
   refine aw_region ?_
   refine run_s (ss_move rfl) rfl ?_
   refine run_s (ss_assign rfl) rfl ?_
   refine run_nil ?_
   refine aw_seq ?_
   refine aw_region ?_
   refine run_s (ss_move rfl) rfl ?_
   refine run_s (ss_move rfl) rfl ?_
   refine run_nil ?_
   refine aw_block ?_
   obtain ⟨H2, m2, q3, h⟩ := h
   refine aw_loop1 (fun (v14_2 : Int) => ⟨[], [(0, .c (.lst (rows t))), (3, .c (ci (t.length : Int))), (4, .c (ci v10_1)), (9, .c (ci (t.length : Int))), (10, .c (ci v10_1)), (13, .c (ci (t.length : Int))), (14, .c (ci v14_2))], 61⟩) H2 m2 ⟨0, ghe_to (n := 61) rfl rfl ⟨rfl, rfl, rfl, rfl, rfl, rfl, rfl, trivial⟩, q3⟩ ?_
   rintro v14_2 q3
   replace h := h v14_2 q3
   refine aw_seq ?_
   refine aw_region ?_
   refine run_s (ss_lss rfl rfl) rfl ?_
   refine run_nil ?_
   refine aw_seq ?_
   refine aw_cond rfl (fun q4 => ?_) (fun q4 => ?_)
   ·replace h := h.1 (of_decide_eq_true q4)
    refine aw_skip ?_
    refine aw_seq ?_
    refine aw_block ?_
    refine aw_seq ?_
    refine aw_region ?_
    refine run_s (ss_move rfl) rfl ?_
    refine run_s (ss_assign rfl) rfl ?_
    refine run_nil ?_
    refine aw_seq ?_
    refine aw_region ?_
    refine run_s (ss_move rfl) rfl ?_
    refine run_s (ss_move rfl) rfl ?_
    refine run_nil ?_
    refine aw_block ?_
    obtain ⟨H3, m3, q5, h⟩ := h
    refine aw_loop1 (fun (v18_3 : Int) => ⟨[], [(0, .c (.lst (rows t))), (3, .c (ci (t.length : Int))), (4, .c (ci v10_1)), (5, .c (ci v14_2)), (9, .c (ci (t.length : Int))), (10, .c (ci v10_1)), (13, .c (ci (t.length : Int))), (14, .c (ci v14_2)), (17, .c (ci (t.length : Int))), (18, .c (ci v18_3))], 61⟩) H3 m3 ⟨0, ghe_to (n := 61) rfl rfl ⟨rfl, rfl, rfl, rfl, rfl, rfl, rfl, rfl, rfl, rfl, trivial⟩, q5⟩ ?_
    rintro v18_3 q5
    replace h := h v18_3 q5
    refine aw_seq ?_
    refine aw_region ?_
    refine run_s (ss_lss rfl rfl) rfl ?_
    refine run_nil ?_
    refine aw_seq ?_
    refine aw_cond rfl (fun q6 => ?_) (fun q6 => ?_)
    ·replace h := h.1 (of_decide_eq_true q6)
     refine aw_skip ?_
     refine aw_seq ?_
     refine aw_block ?_
     refine aw_seq ?_
     refine aw_region ?_
     refine run_s (ss_move rfl) rfl ?_
     refine run_s (ss_assign rfl) rfl ?_
     refine run_nil ?_
     refine aw_seq ?_
     refine aw_gh (gh_to (n := 61) (σ' := []) (env' := [(0, .c (.lst (rows t))), (3, .c (ci (t.length : Int))), (4, .c (ci v10_1)), (5, .c (ci v14_2)), (6, .c (ci v18_3)), (9, .c (ci (t.length : Int))), (10, .c (ci v10_1)), (13, .c (ci (t.length : Int))), (14, .c (ci v14_2)), (17, .c (ci (t.length : Int))), (18, .c (ci v18_3))]) rfl rfl ⟨rfl, rfl, rfl, rfl, rfl, rfl, rfl, rfl, rfl, rfl, rfl, trivial⟩) ?_
     refine aw_regionD (kd := kdl [0, 0, 0, 1, 0, 0, 0, 1, 0, 0, 1, 0, 1, 0, 0, 0, 0, 1, 0, 0, 1, 0, 1, 0, 0, 0, 1, 0, 0, 1, 0, 1, 0]) (ord := [0, 1, 2, 4, 5, 6, 8, 13, 14, 15, 16, 18, 23, 24, 25, 27, 3, 7, 9, 10, 11, 12, 17, 19, 20, 21, 22, 26, 28, 29, 30, 31, 32]) [] mixed (by kernel_rfl) ?_
     refine rd_s rfl rfl trivial (ss_move rfl) rfl ?_
     refine rd_s rfl rfl trivial (ss_move rfl) rfl ?_
     obtain ⟨q7, h⟩ := h
     refine rd_s rfl rfl trivial (ss_idxL rfl rfl q7) rfl ?_
     refine rd_s rfl rfl trivial (ss_move rfl) rfl ?_
     refine rd_s rfl rfl trivial (ss_move rfl) rfl ?_
     obtain ⟨q8, h⟩ := h
     refine rd_s rfl rfl trivial (ss_idxL rfl rfl q8) rfl ?_
     refine rd_s rfl rfl trivial (ss_move rfl) rfl ?_
     refine rd_s rfl rfl trivial (ss_move rfl) rfl ?_
     refine rd_s rfl rfl trivial (ss_move rfl) rfl ?_
     refine rd_s rfl rfl trivial (ss_move rfl) rfl ?_
     obtain ⟨q9, h⟩ := h
     refine rd_s rfl rfl trivial (ss_idxL rfl rfl q9) rfl ?_
     refine rd_s rfl rfl trivial (ss_move rfl) rfl ?_
     refine rd_s rfl rfl trivial (ss_move rfl) rfl ?_
     refine rd_s rfl rfl trivial (ss_move rfl) rfl ?_
     obtain ⟨q10, h⟩ := h
     refine rd_s rfl rfl trivial (ss_idxL rfl rfl q10) rfl ?_
     refine rd_s rfl rfl trivial (ss_move rfl) rfl ?_
     refine rd_l rfl rfl trivial (ss_loadL (f := (fun r => C.lst (ints r))) rfl q7) rfl ?_
     refine rd_l rfl rfl trivial (ss_loadL (f := (fun r => C.lst (ints r))) rfl q8) rfl ?_
     obtain ⟨q11, h⟩ := h
     refine rd_s rfl rfl trivial (ss_idxL rfl rfl q11) rfl ?_
     refine rd_l rfl rfl trivial (ss_loadL (f := ci) rfl q11) rfl ?_
     obtain ⟨q12, h⟩ := h
     refine rd_s rfl rfl trivial (ss_idxL rfl rfl q12) rfl ?_
     refine rd_l rfl rfl trivial (ss_loadL (f := ci) rfl q12) rfl ?_
     refine rd_l rfl rfl trivial (ss_loadL (f := (fun r => C.lst (ints r))) rfl q9) rfl ?_
     obtain ⟨q13, h⟩ := h
     refine rd_s rfl rfl trivial (ss_idxL rfl rfl q13) rfl ?_
     refine rd_l rfl rfl trivial (ss_loadL (f := ci) rfl q13) rfl ?_
     obtain ⟨q14, h⟩ := h
     refine rd_s rfl rfl trivial (ss_idxL rfl rfl q14) rfl ?_
     refine rd_l rfl rfl trivial (ss_loadL (f := (fun r => C.lst (ints r))) rfl q14) rfl ?_
     refine rd_l rfl rfl trivial (ss_loadL (f := (fun r => C.lst (ints r))) rfl q10) rfl ?_
     obtain ⟨q15, h⟩ := h
     refine rd_s rfl rfl trivial (ss_idxL rfl rfl q15) rfl ?_
     refine rd_l rfl rfl trivial (ss_loadL (f := ci) rfl q15) rfl ?_
     obtain ⟨q16, h⟩ := h
     refine rd_s rfl rfl trivial (ss_idxL rfl rfl q16) rfl ?_
     refine rd_l rfl rfl trivial (ss_loadL (f := ci) rfl q16) rfl ?_
     refine rd_s rfl rfl trivial (ss_neq rfl rfl) rfl ?_
     refine rd_nil ?_
     refine aw_cond rfl (fun q17 => ?_) (fun q17 => ?_)
     ·replace h := h.1 (of_decide_eq_false (bnot_t q17))
      refine aw_seq ?_
      refine aw_gh (gh_to (n := 61) (σ' := []) (env' := [(4, .c (ci v10_1)), (5, .c (ci v14_2)), (6, .c (ci v18_3))]) rfl rfl ⟨rfl, rfl, rfl, trivial⟩) ?_
      refine aw_region ?_
      refine run_s (ss_move rfl) rfl ?_
      refine run_s (ss_move rfl) rfl ?_
      refine run_s (ss_move rfl) rfl ?_
      refine run_w (ws_buildSlice (id := 57) (ps := [(0, .tmp 54), (1, .tmp 55), (2, .tmp 56)]) rfl rfl (Nat.le_of_ble_eq_true rfl) rfl ⟨rfl, ?_⟩)
      refine run_s (ss_assign rfl) rfl ?_
      refine run_nil ?_
      refine aw_ret ?_
      exact retAF_mk (retv1 rfl (rv_tmp rfl)) rfl rfl ⟨_, (cle_refl _), _, h, rfl⟩
     ·replace h := h.2 (of_decide_eq_true (bnot_f q17))
      refine aw_skip ?_
      refine aw_gh (gh_to (n := 61) (σ' := []) (env' := [(0, .c (.lst (rows t))), (3, .c (ci (t.length : Int))), (4, .c (ci v10_1)), (5, .c (ci v14_2)), (9, .c (ci (t.length : Int))), (10, .c (ci v10_1)), (13, .c (ci (t.length : Int))), (14, .c (ci v14_2)), (17, .c (ci (t.length : Int))), (18, .c (ci v18_3))]) rfl rfl ⟨rfl, rfl, rfl, rfl, rfl, rfl, rfl, rfl, rfl, rfl, trivial⟩) ?_
      refine aw_region ?_
      obtain ⟨q18, h⟩ := h
      refine run_s (ss_add rfl rfl q18) rfl ?_
      refine run_s (ss_move rfl) rfl ?_
      refine run_nil ?_
      exact ⟨v18_3 + 1, ghe_to (n := 61) rfl rfl ⟨rfl, rfl, rfl, rfl, rfl, rfl, rfl, rfl, rfl, rfl, trivial⟩, h.1, h.2⟩
    ·replace h := h.2 (of_decide_eq_false q6)
     refine aw_exit ?_
     refine aw_gh (gh_to (n := 61) (σ' := []) (env' := [(0, .c (.lst (rows t))), (3, .c (ci (t.length : Int))), (4, .c (ci v10_1)), (9, .c (ci (t.length : Int))), (10, .c (ci v10_1)), (13, .c (ci (t.length : Int))), (14, .c (ci v14_2))]) rfl rfl ⟨rfl, rfl, rfl, rfl, rfl, rfl, rfl, trivial⟩) ?_
     refine aw_region ?_
     obtain ⟨q19, h⟩ := h
     refine run_s (ss_add rfl rfl q19) rfl ?_
     refine run_s (ss_move rfl) rfl ?_
     refine run_nil ?_
     exact ⟨v14_2 + 1, ghe_to (n := 61) rfl rfl ⟨rfl, rfl, rfl, rfl, rfl, rfl, rfl, trivial⟩, h.1, h.2⟩
   ·replace h := h.2 (of_decide_eq_false q4)
    refine aw_exit ?_
    refine aw_gh (gh_to (n := 61) (σ' := []) (env' := [(0, .c (.lst (rows t))), (3, .c (ci (t.length : Int))), (9, .c (ci (t.length : Int))), (10, .c (ci v10_1))]) rfl rfl ⟨rfl, rfl, rfl, rfl, trivial⟩) ?_
    refine aw_region ?_
    obtain ⟨q20, h⟩ := h
    refine run_s (ss_add rfl rfl q20) rfl ?_
    refine run_s (ss_move rfl) rfl ?_
    refine run_nil ?_
    exact ⟨v10_1 + 1, ghe_to (n := 61) rfl rfl ⟨rfl, rfl, rfl, rfl, trivial⟩, h.1, h.2⟩
  ·replace h := h.2 (of_decide_eq_false q2)
   refine aw_exit ?_
   refine aw_seq ?_
   refine aw_gh (gh_to (n := 61) (σ' := []) (env' := []) rfl rfl trivial) ?_
   refine aw_region ?_
   refine run_s (ss_assign rfl) rfl ?_
   refine run_nil ?_
   refine aw_ret ?_
   exact retAF_mk (retv1 rfl (rv_tmp rfl)) rfl rfl ⟨_, (cle_refl _), _, h, rfl⟩

theorem c_impl_rackFault (t : List (List Int)) (hp : isTab t = true) : AF Try.prog 88 [.lst (rows t)] (fun R_ => R_ = onil (rackF t)) :=
  (w_impl_rackFault t (fun y0 => y0 = rackF t) (p_impl_rackFault t hp)).mono (by rintro r ⟨_, rfl, rfl⟩; rfl)

set_option maxRecDepth 100000 in
set_option maxHeartbeats 4000000 in
theorem w_impl_IsRack (r : List (List Int)) (Q : Bool → Prop) (h : wp_impl_IsRack r Q) : AF Try.prog 48 [.agg [.lst (rows r)]] (fun R_ => ∃ y0, Q y0 ∧ R_ = cb y0) := by
  refine AF.ofWQ (af_enter (n := 17) Try.func48 rfl (by rfl) rfl (Nat.le_of_ble_eq_true rfl) ?_)
  unfold wp_impl_IsRack at h
  refine aw_seq ?_
  refine aw_gh (gh_to (n := 17) (σ' := []) (env' := [(0, .c (.agg [.lst (rows r)]))]) rfl rfl ⟨rfl, trivial⟩) ?_
  refine aw_region ?_
  refine run_w (ws_boxR rfl (.inl rfl) rfl ⟨rfl, ?_⟩)
  refine run_s (ss_assign rfl) rfl ?_
  refine run_nil ?_
  refine aw_seq ?_
  refine aw_region ?_
  refine run_s (ss_field_ptr rfl) rfl ?_
  refine run_s (ss_load_ptr rfl rfl) rfl ?_
  obtain ⟨q1, h⟩ := h
  refine run_w (ws_call (xs := [.tmp 4]) (ids := []) rfl rfl rfl rfl (c_impl_IsTable r q1) rfl ?_ )
  rintro _ rfl
  refine ⟨rfl, ?_⟩
  refine run_s (ss_move rfl) rfl ?_
  refine run_split (s := 6) rfl (fun q3 => ?_) (fun q3 => ?_)
  ·replace h := h.1 (q3)
   refine run_gt rfl rfl q3 ?_
   refine run_s (ss_field_ptr rfl) rfl ?_
   refine run_gt rfl rfl q3 ?_
   refine run_s (ss_load_ptr rfl rfl) rfl ?_
   refine run_gt rfl rfl q3 ?_
   obtain ⟨q4, h⟩ := h
   refine run_w (ws_call (xs := [.tmp 8]) (ids := []) rfl rfl rfl rfl (c_impl_permutationRows r q4) rfl ?_ )
   rintro _ rfl
   refine ⟨rfl, ?_⟩
   refine run_s (ss_pickT rfl q3 rfl) rfl ?_
   refine run_s (ss_move rfl) rfl ?_
   refine run_split (s := 11) rfl (fun q6 => ?_) (fun q6 => ?_)
   ·replace h := h.1 (q6)
    refine run_gt rfl rfl q6 ?_
    refine run_s (ss_field_ptr rfl) rfl ?_
    refine run_gt rfl rfl q6 ?_
    refine run_s (ss_load_ptr rfl rfl) rfl ?_
    refine run_gt rfl rfl q6 ?_
    by_cases q7 : (rackF r) = []
    ·replace h := h.1 q7
     obtain ⟨q8, h⟩ := h
     refine run_w (ws_call (xs := [.tmp 13]) (ids := []) rfl rfl rfl rfl (AF.onil_n (c_impl_rackFault r q8) q7) rfl ?_ )
     rintro _ rfl
     refine ⟨rfl, ?_⟩
     refine run_gt rfl rfl q6 ?_
     refine run_s (ss_eql_nil rfl rfl) rfl ?_
     refine run_s (ss_pickT rfl q6 rfl) rfl ?_
     refine run_s (ss_assign rfl) rfl ?_
     refine run_nil ?_
     refine aw_ret ?_
     exact retAF_mk (retv1 rfl (rv_tmp rfl)) rfl rfl ⟨_, (cle_refl _), _, h, rfl⟩
    ·replace h := h.2 q7
     obtain ⟨q10, h⟩ := h
     refine run_w (ws_call (xs := [.tmp 13]) (ids := [14]) rfl rfl rfl rfl (AF.onil_o (c_impl_rackFault r q10) q7) rfl ?_ )
     rintro _ rfl
     refine ⟨rfl, ?_⟩
     refine run_gt rfl rfl q6 ?_
     refine run_s (ss_eql_refNil rfl rfl (map_ne q7) rfl) rfl ?_
     refine run_s (ss_pickT rfl q6 rfl) rfl ?_
     refine run_s (ss_assign rfl) rfl ?_
     refine run_nil ?_
     refine aw_ret ?_
     exact retAF_mk (retv1 rfl (rv_tmp rfl)) rfl rfl ⟨_, (cle_refl _), _, h, rfl⟩
   ·replace h := h.2 (q6)
    refine run_gf rfl rfl q6 rfl ?_
    refine run_gf rfl rfl q6 rfl ?_
    refine run_gf rfl rfl q6 rfl ?_
    refine run_gf rfl rfl q6 rfl ?_
    refine run_s (ss_pickF rfl q6 rfl) rfl ?_
    refine run_s (ss_assign rfl) rfl ?_
    refine run_nil ?_
    refine aw_ret ?_
    exact retAF_mk (retv1 rfl (rv_tmp rfl)) rfl rfl ⟨_, (cle_refl _), _, h, rfl⟩
  ·replace h := h.2 (q3)
   refine run_gf rfl rfl q3 rfl ?_
   refine run_gf rfl rfl q3 rfl ?_
   refine run_gf rfl rfl q3 rfl ?_
   refine run_s (ss_pickF rfl q3 rfl) rfl ?_
   refine run_s (ss_move rfl) rfl ?_
   refine run_split (s := 11) rfl (fun q12 => ?_) (fun q12 => ?_)
   ·cases q12
   ·skip
    refine run_gf rfl rfl q12 rfl ?_
    refine run_gf rfl rfl q12 rfl ?_
    refine run_gf rfl rfl q12 rfl ?_
    refine run_gf rfl rfl q12 rfl ?_
    refine run_s (ss_pickF rfl q12 rfl) rfl ?_
    refine run_s (ss_assign rfl) rfl ?_
    refine run_nil ?_
    refine aw_ret ?_
    exact retAF_mk (retv1 rfl (rv_tmp rfl)) rfl rfl ⟨_, (cle_refl _), _, h, rfl⟩

theorem c_impl_IsRack (r : List (List Int)) (hp : small2 r) : AF Try.prog 48 [.agg [.lst (rows r)]] (fun R_ => R_ = cb (isRk r)) :=
  (w_impl_IsRack r (fun y0 => y0 = isRk r) (p_impl_IsRack r hp)).mono (by rintro r ⟨_, rfl, rfl⟩; rfl)

set_option maxRecDepth 100000 in
set_option maxHeartbeats 4000000 in
theorem w_impl_kinkOf (r : List (List Int)) (Q : List Int → Prop) (h : wp_impl_kinkOf r Q) : AF Try.prog 50 [.agg [.lst (rows r)]] (fun R_ => ∃ y0, Q y0 ∧ R_ = .own (ints y0)) := by
  refine AF.ofWQ (af_enter (n := 27) Try.func50 rfl (by rfl) rfl (Nat.le_of_ble_eq_true rfl) ?_)
  unfold wp_impl_kinkOf at h
  refine aw_seq ?_
  refine aw_gh (gh_to (n := 27) (σ' := []) (env' := [(0, .c (.agg [.lst (rows r)]))]) rfl rfl ⟨rfl, trivial⟩) ?_
  refine aw_region ?_
  refine run_w (ws_boxR rfl (.inl rfl) rfl ⟨rfl, ?_⟩)
  refine run_s (ss_assign rfl) rfl ?_
  refine run_nil ?_
  refine aw_seq ?_
  refine aw_region ?_
  refine run_s (ss_field_ptr rfl) rfl ?_
  refine run_s (ss_load_ptr rfl rfl) rfl ?_
  refine run_s (ss_lenL (f := (fun r => C.lst (ints r))) rfl) rfl ?_
  obtain ⟨q1, h⟩ := h
  refine run_w (ws_mk (id := 8) ci (0 : Int) rfl rfl rfl q1 (Nat.le_of_ble_eq_true rfl) rfl ⟨rfl, ?_⟩)
  refine run_s (ss_assign rfl) rfl ?_
  refine run_nil ?_
  refine aw_seq ?_
  refine aw_seq ?_
  refine aw_gh (gh_to (n := 27) (σ' := [(8, ⟨ints (List.replicate (r.length : Int).toNat (0 : Int)), []⟩)]) (env' := [(1, .c (.ptr [.lst (rows r)])), (3, .ref 8)]) rfl rfl ⟨rfl, rfl, trivial⟩) ?_
  refine aw_region ?_
  refine run_s (ss_move rfl) rfl ?_
  refine run_s (ss_lenR (f := ci) rfl rfl) rfl ?_
  refine run_s (ss_move rfl) rfl ?_
  refine run_nil ?_
  refine aw_block ?_
  obtain ⟨H1, m1, q2, h⟩ := h
  refine aw_loop2 (fun (v11_1 : Int) (o8_1 : List Int) => ⟨[(8, ⟨ints o8_1, []⟩)], [(1, .c (.ptr [.lst (rows r)])), (3, .ref 8), (10, .c (ci ((List.replicate (r.length : Int).toNat (0 : Int)).length : Int))), (11, .c (ci v11_1))], 27⟩) H1 m1 ⟨0, List.replicate (r.length : Int).toNat (0 : Int), ghe_to (n := 27) rfl rfl ⟨rfl, rfl, rfl, rfl, trivial⟩, q2⟩ ?_
  rintro v11_1 o8_1 q2
  replace h := h v11_1 o8_1 q2
  refine aw_seq ?_
  refine aw_region ?_
  refine run_s (ss_lss rfl rfl) rfl ?_
  refine run_nil ?_
  refine aw_seq ?_
  refine aw_cond rfl (fun q3 => ?_) (fun q3 => ?_)
  ·replace h := h.1 (of_decide_eq_true q3)
   refine aw_skip ?_
   refine aw_seq ?_
   refine aw_block ?_
   refine aw_seq ?_
   refine aw_region ?_
   refine run_s (ss_move rfl) rfl ?_
   refine run_s (ss_assign rfl) rfl ?_
   refine run_nil ?_
   refine aw_region ?_
   refine run_s (ss_move rfl) rfl ?_
   refine run_s (ss_move rfl) rfl ?_
   refine run_s (ss_field_ptr rfl) rfl ?_
   refine run_s (ss_load_ptr rfl rfl) rfl ?_
   refine run_s (ss_move rfl) rfl ?_
   obtain ⟨q4, h⟩ := h
   refine run_s (ss_idxL rfl rfl q4) rfl ?_
   refine run_s (ss_loadL (f := (fun r => C.lst (ints r))) rfl q4) rfl ?_
   refine run_s (ss_move rfl) rfl ?_
   obtain ⟨q5, h⟩ := h
   refine run_s (ss_idxL rfl rfl q5) rfl ?_
   refine run_s (ss_loadL (f := ci) rfl q5) rfl ?_
   obtain ⟨q6, h⟩ := h
   refine run_s (ss_idxR (f := ci) rfl rfl rfl q6) rfl ?_
   refine run_w (ws_storeE rfl rfl (map_lt q6) rfl rfl (map_se (f := ci)) rfl ⟨rfl, ?_⟩)
   refine run_nil ?_
   refine aw_gh (gh_to (n := 27) (σ' := [(8, ⟨ints (se o8_1 v11_1 (el (el r v11_1) v11_1)), []⟩)]) (env' := [(1, .c (.ptr [.lst (rows r)])), (3, .ref 8), (10, .c (ci ((List.replicate (r.length : Int).toNat (0 : Int)).length : Int))), (11, .c (ci v11_1))]) rfl rfl ⟨rfl, rfl, rfl, rfl, trivial⟩) ?_
   refine aw_region ?_
   obtain ⟨q7, h⟩ := h
   refine run_s (ss_add rfl rfl q7) rfl ?_
   refine run_s (ss_move rfl) rfl ?_
   refine run_nil ?_
   exact ⟨v11_1 + 1, se o8_1 v11_1 (el (el r v11_1) v11_1), ghe_to (n := 27) rfl rfl ⟨rfl, rfl, rfl, rfl, trivial⟩, h.1, h.2⟩
  ·replace h := h.2 (of_decide_eq_false q3)
   refine aw_exit ?_
   refine aw_seq ?_
   refine aw_region ?_
   refine run_s (ss_move rfl) rfl ?_
   refine run_s (ss_assign rfl) rfl ?_
   refine run_nil ?_
   refine aw_ret ?_
   exact retAF_mk (retv1 rfl (rv_tmp rfl)) rfl rfl ⟨_, (cle_refl _), _, h, rfl⟩

theorem c_impl_kinkOf (r : List (List Int)) (hp : isTab r = true) : AF Try.prog 50 [.agg [.lst (rows r)]] (fun R_ => R_ = .own (ints (diag r))) :=
  (w_impl_kinkOf r (fun y0 => y0 = diag r) (p_impl_kinkOf r hp)).mono (by rintro r ⟨_, rfl, rfl⟩; rfl)

def wp_spec_l04Find (lists : List (List Int)) (list : List Int) (Q : Int → Prop) : Prop :=
 ∃ (H1 : Int → Prop) (m1 : Int → Nat),
 H1 0 ∧
 ∀ (v5_1 : Int), H1 v5_1 →
 ( ((v5_1 < (lists.length : Int) →
 (0 ≤ v5_1 ∧ v5_1 < (lists.length : Int)) ∧
 (small (el lists v5_1) ∧ small list) ∧
 (((el lists v5_1) = list →
 Q v5_1) ∧
 (¬ ((el lists v5_1) = list) →
 (InI (v5_1 + 1)) ∧
 (H1 (v5_1 + 1) ∧ m1 (v5_1 + 1) < m1 v5_1)))) ∧
 (¬ (v5_1 < (lists.length : Int)) →
 Q (-1))))

def wp_impl_listIndex_1 (own : List Int) (list : List Int) (Q : Bool → Prop) : Prop :=
 (small own ∧ small list) ∧
 Q (decide (own = list))

def wp_impl_listIndex (lists : List (List Int)) (list : List Int) (Q : Int → Prop) : Prop :=
 (small lists ∧ ∀ r_ ∈ lists, (fun z0 => small z0 ∧ small list) r_) ∧
 Q (idxF lists (fun z0 => decide (z0 = list)))

def wp_impl_conjugate (y : List Int) (x : List Int) (Q : List Int → Prop) : Prop :=
 (small x ∧ isPerm x = true) ∧
 (small (backI x) ∧ ∀ x_ ∈ (backI x), 0 ≤ x_ ∧ x_ < (y.length : Int)) ∧
 (small ((backI x).map (el y)) ∧ ∀ x_ ∈ ((backI x).map (el y)), 0 ≤ x_ ∧ x_ < (x.length : Int)) ∧
 Q (((backI x).map (el y)).map (el x))

def wp_spec_l04Conjugate (x : List Int) (y : List Int) (Q : List Int → Prop) : Prop :=
 (small x ∧ isPerm x = true) ∧
 (small (backI x) ∧ ∀ x_ ∈ (backI x), 0 ≤ x_ ∧ x_ < (y.length : Int)) ∧
 (small ((backI x).map (el y)) ∧ ∀ x_ ∈ ((backI x).map (el y)), 0 ≤ x_ ∧ x_ < (x.length : Int)) ∧
 Q (((backI x).map (el y)).map (el x))

def wp_spec_l04List (list : List (List Int)) (Q : Bool → Prop) : Prop :=
 ∃ (H1 : Int → Prop) (m1 : Int → Nat),
 H1 0 ∧
 ∀ (v3_1 : Int), H1 v3_1 →
 ( ((v3_1 < (list.length : Int) →
 (0 ≤ v3_1 ∧ v3_1 < (list.length : Int)) ∧
 (small (el list v3_1)) ∧
 (((permB (el list v3_1)) = false →
 Q false) ∧
 ((permB (el list v3_1)) = true →
 (0 ≤ v3_1 ∧ v3_1 < (list.length : Int)) ∧
 ((0 : Int) ≤ 0 ∧ 0 < (list.length : Int)) ∧
 ((¬ (((el list v3_1).length : Int) = ((el list 0).length : Int)) →
 Q false) ∧
 (((el list v3_1).length : Int) = ((el list 0).length : Int) →
 (0 ≤ v3_1 ∧ v3_1 < (list.length : Int)) ∧
 (small2 list ∧ small (el list v3_1)) ∧
 ((¬ (idxL list (el list v3_1) = v3_1) →
 Q false) ∧
 (idxL list (el list v3_1) = v3_1 →
 (InI (v3_1 + 1)) ∧
 (H1 (v3_1 + 1) ∧ m1 (v3_1 + 1) < m1 v3_1)))))))) ∧
 (¬ (v3_1 < (list.length : Int)) →
 Q (decide (0 < (list.length : Int))))))

def wp_spec_l04Conjugation (list : List (List Int)) (Q : List (List Int) → Prop) : Prop :=
 ∃ (H1 : Int → List (List Int) → Prop) (m1 : Int → List (List Int) → Nat),
 H1 0 ([] : List (List Int)) ∧
 ∀ (v4_1 : Int) (o7_1 : List (List Int)), H1 v4_1 o7_1 →
 ( ((v4_1 < (list.length : Int) →
 ∃ (H2 : Int → List Int → Prop) (m2 : Int → List Int → Nat),
 H2 0 ([] : List Int) ∧
 ∀ (v6_2 : Int) (o14_2 : List Int), H2 v6_2 o14_2 →
 ( ((v6_2 < (list.length : Int) →
 (0 ≤ v4_1 ∧ v4_1 < (list.length : Int)) ∧
 (0 ≤ v6_2 ∧ v6_2 < (list.length : Int)) ∧
 (cjD (el list v4_1) (el list v6_2)) ∧
 (small2 list ∧ small (conjI (el list v4_1) (el list v6_2))) ∧
 ((o14_2.length : Int) + (([idxL list (conjI (el list v4_1) (el list v6_2))]).length : Int) ≤ 1000000000) ∧
 (InI (v6_2 + 1)) ∧
 (H2 (v6_2 + 1) (o14_2 ++ ([idxL list (conjI (el list v4_1) (el list v6_2))])) ∧ m2 (v6_2 + 1) (o14_2 ++ ([idxL list (conjI (el list v4_1) (el list v6_2))])) < m2 v6_2 o14_2)) ∧
 (¬ (v6_2 < (list.length : Int)) →
 ((o7_1.length : Int) + (([o14_2]).length : Int) ≤ 1000000000) ∧
 (InI (v4_1 + 1)) ∧
 (H1 (v4_1 + 1) (o7_1 ++ ([o14_2])) ∧ m1 (v4_1 + 1) (o7_1 ++ ([o14_2])) < m1 v4_1 o7_1))))) ∧
 (¬ (v4_1 < (list.length : Int)) →
 Q o7_1)))

def wp_impl_ConjugationQuandle_1 (x : Int) (y : Int) (list : List (List Int)) (Q : Int → Prop) : Prop :=
 (0 ≤ y ∧ y < (list.length : Int)) ∧
 (0 ≤ x ∧ x < (list.length : Int)) ∧
 (cjD (el list x) (el list y)) ∧
 (small2 list ∧ small (conjI (el list x) (el list y))) ∧
 Q (idxL list (conjI (el list x) (el list y)))

def wp_spec_ConjugationQuandle (list : List (List Int)) (Q : List (List Int) → Int → Prop) : Prop :=
 (small2 list) ∧
 (((dec (GoodL list)) = false →
 Q ([]) 1) ∧
 ((dec (GoodL list)) = true →
 ((12 < (list.length : Int) →
 Q ([]) 3) ∧
 (¬ (12 < (list.length : Int)) →
 (GoodL list ∧ (list.length : Int) ≤ 12) ∧
 (small2 (cjT list)) ∧
 (((isTab (cjT list)) = false →
 Q ([]) 5) ∧
 ((isTab (cjT list)) = true →
 Q (cjT list) 0))))))

def wp_impl_ConjugationQuandle (list : List (List Int)) (Q : List (List Int) → Int → Prop) : Prop :=
 (((list.length : Int) = 0 →
 Q ([]) 1) ∧
 (¬ ((list.length : Int) = 0) →
 ∃ (H1 : Int → Prop) (m1 : Int → Nat),
 H1 0 ∧
 ∀ (v13_1 : Int), H1 v13_1 →
 ( ((v13_1 < (list.length : Int) →
 (0 ≤ v13_1 ∧ v13_1 < (list.length : Int)) ∧
 (small (el list v13_1)) ∧
 (((permB (el list v13_1)) = false →
 Q ([]) 1) ∧
 ((permB (el list v13_1)) = true →
 ((0 : Int) ≤ 0 ∧ 0 < (list.length : Int)) ∧
 ((¬ (((el list v13_1).length : Int) = ((el list 0).length : Int)) →
 Q ([]) 1) ∧
 (((el list v13_1).length : Int) = ((el list 0).length : Int) →
 ((0 : Int) ≤ 0 ∧ 0 ≤ v13_1 ∧ v13_1 ≤ (list.length : Int)) ∧
 (small2 (sl list 0 v13_1) ∧ small (el list v13_1)) ∧
 ((0 ≤ idxL (sl list 0 v13_1) (el list v13_1) →
 Q ([]) 1) ∧
 (¬ (0 ≤ idxL (sl list 0 v13_1) (el list v13_1)) →
 (InI (v13_1 + 1)) ∧
 (H1 (v13_1 + 1) ∧ m1 (v13_1 + 1) < m1 v13_1)))))))) ∧
 (¬ (v13_1 < (list.length : Int)) →
 ((12 < (list.length : Int) →
 Q ([]) 3) ∧
 (¬ (12 < (list.length : Int)) →
 (0 ≤ (list.length : Int) ∧ (list.length : Int) ≤ 1000000 ∧ ∀ x_ y_, 0 ≤ x_ → x_ < (list.length : Int) → 0 ≤ y_ → y_ < (list.length : Int) → (fun z0 z1 => GoodL list ∧ (list.length : Int) ≤ 12 ∧ 0 ≤ z0 ∧ z0 < (list.length : Int) ∧ 0 ≤ z1 ∧ z1 < (list.length : Int)) x_ y_ ∧ InI ((fun z0 z1 => cjV list z0 z1) x_ y_)) ∧
 (small2 (tab (list.length : Int) (fun z0 z1 => cjV list z0 z1))) ∧
 (((isTab (tab (list.length : Int) (fun z0 z1 => cjV list z0 z1))) = false →
 Q ([]) 5) ∧
 ((isTab (tab (list.length : Int) (fun z0 z1 => cjV list z0 z1))) = true →
 Q (tab (list.length : Int) (fun z0 z1 => cjV list z0 z1)) 0)))))))))

theorem p_spec_l04Find (lists : List (List Int)) (list : List Int) (hp : small2 lists ∧ small list) : wp_spec_l04Find lists list (fun y0 => y0 = idxL lists list) := by
  unfold wp_spec_l04Find idxL
  have h1 := hp.1.1
  refine ⟨fun i => 0 ≤ i ∧ i ≤ (lists.length : Int) ∧ Upto i fun j => decide (el lists j = list) = false, fun i => ((lists.length : Int) - i).toNat, ⟨by omega, by omega, upto0⟩, ?_⟩
  rintro i ⟨i0, i1, hI⟩
  dsimp only
  refine ⟨fun hlt => ⟨⟨i0, hlt⟩, ⟨hp.1.2 _ (el_mem ⟨i0, hlt⟩), hp.2⟩, fun hf => (idxF_found ⟨i0, hlt⟩ hI (decide_eq_true hf)).symm, fun ht => ⟨⟨by omega, by omega⟩, ⟨by omega, by omega, upto1 hI (decide_eq_false ht)⟩, by omega⟩⟩, fun hge => ?_⟩
  exact (idxF_none (by rwa [show i = (lists.length : Int) by omega] at hI)).symm
theorem p_impl_listIndex_1 (own list : List Int) (hp : small own ∧ small list) : wp_impl_listIndex_1 own list (fun y0 => y0 = decide (own = list)) := ⟨hp, rfl⟩
theorem p_impl_listIndex (lists : List (List Int)) (list : List Int) (hp : small2 lists ∧ small list) : wp_impl_listIndex lists list (fun y0 => y0 = idxL lists list) := ⟨⟨hp.1.1, fun r hr => ⟨hp.1.2 r hr, hp.2⟩⟩, rfl⟩
theorem cj_pre {x y : List Int} (hp : cjD x y) : (small x ∧ isPerm x = true) ∧ (small (backI x) ∧ ∀ x_ ∈ backI x, 0 ≤ x_ ∧ x_ < (y.length : Int)) ∧ (small ((backI x).map (el y)) ∧ ∀ x_ ∈ (backI x).map (el y), 0 ≤ x_ ∧ x_ < (x.length : Int)) := by
  obtain ⟨h1, h2, h3, h4⟩ := hp
  have hb := isPerm_backI h2
  have hs : (x.length : Int) ≤ 1000000000 := h1
  have key : ∀ z ∈ backI x, 0 ≤ z ∧ z < (y.length : Int) := fun z hz => by
    have := (isPerm_iff.1 hb).2 z hz
    simp at this; omega
  refine ⟨⟨h1, h2⟩, ⟨by show _ ≤ (1000000000 : Int); simp; omega, key⟩, by show _ ≤ (1000000000 : Int); simp; omega, fun z hz => ?_⟩
  obtain ⟨w, hw, rfl⟩ := List.mem_map.1 hz
  have := isPerm_el h4 (key w hw)
  omega
theorem p_impl_conjugate (y x : List Int) (hp : cjD x y) : wp_impl_conjugate y x (fun y0 => y0 = conjI x y) := ⟨(cj_pre hp).1, (cj_pre hp).2.1, (cj_pre hp).2.2, rfl⟩
theorem p_spec_l04Conjugate (x y : List Int) (hp : cjD x y) : wp_spec_l04Conjugate x y (fun y0 => y0 = conjI x y) := ⟨(cj_pre hp).1, (cj_pre hp).2.1, (cj_pre hp).2.2, rfl⟩
theorem idxL_self {list : List (List Int)} {i : Int} (hi : 0 ≤ i ∧ i < (list.length : Int)) : idxL list (el list i) = i ↔ ∀ j, 0 ≤ j → j < i → el list j ≠ el list i := by
  constructor
  · intro h j j0 j1 e
    have hex : ∃ m : Nat, (m : Int) ≤ j ∧ el list (m : Int) = el list i ∧ ∀ k : Nat, k < m → el list (k : Int) ≠ el list i := by
      have key : ∀ n : Nat, (∃ m : Nat, m ≤ n ∧ el list (m : Int) = el list i) → ∃ m : Nat, m ≤ n ∧ el list (m : Int) = el list i ∧ ∀ k : Nat, k < m → el list (k : Int) ≠ el list i := by
        intro n
        induction n with
        | zero => intro ⟨m, hm, e⟩; exact ⟨m, hm, e, fun k hk => by omega⟩
        | succ n ih =>
          intro ⟨m, hm, e⟩
          by_cases hc : ∃ m : Nat, m ≤ n ∧ el list (m : Int) = el list i
          · obtain ⟨m', a, b, c⟩ := ih hc
            exact ⟨m', by omega, b, c⟩
          · exact ⟨m, hm, e, fun k hk e2 => hc ⟨k, by omega, e2⟩⟩
      obtain ⟨m, a, b, c⟩ := key j.toNat ⟨j.toNat, Nat.le_refl _, by rw [show ((j.toNat : Nat) : Int) = j by omega]; exact e⟩
      exact ⟨m, by omega, b, c⟩
    obtain ⟨m, a, b, c⟩ := hex
    have := idxF_found (t := list) (f := fun own => decide (own = el list i)) (i := (m : Int)) ⟨by omega, by omega⟩ (fun k k0 k1 => by
      have := c k.toNat (by omega)
      rw [show ((k.toNat : Nat) : Int) = k by omega] at this
      exact decide_eq_false this) (decide_eq_true b)
    unfold idxL at h
    omega
  · intro h
    exact idxF_found hi (fun j j0 j1 => decide_eq_false (h j j0 j1)) (decide_eq_true rfl)
theorem p_spec_l04List (list : List (List Int)) (hp : small2 list) : wp_spec_l04List list (fun y0 => y0 = dec (GoodL list)) := by
  unfold wp_spec_l04List
  have hs := hp.1
  refine ⟨fun i => 0 ≤ i ∧ i ≤ (list.length : Int) ∧ Upto i fun i => permB (el list i) = true ∧ ((el list i).length : Int) = ((el list 0).length : Int) ∧ ∀ j, 0 ≤ j → j < i → el list j ≠ el list i, fun i => ((list.length : Int) - i).toNat, ⟨by omega, by omega, upto0⟩, ?_⟩
  rintro i ⟨i0, i1, iI⟩
  dsimp only
  refine ⟨fun ilt => ⟨⟨i0, ilt⟩, hp.2 _ (el_mem ⟨i0, ilt⟩), fun h1 => ?_, fun h1 => ⟨⟨i0, ilt⟩, ⟨by omega, by omega⟩, fun h2 => ?_, fun h2 => ⟨⟨i0, ilt⟩, ⟨hp, hp.2 _ (el_mem ⟨i0, ilt⟩)⟩, fun h3 => ?_, fun h3 => ⟨⟨by omega, by omega⟩, ⟨by omega, by omega, upto1 iI ⟨h1, h2, (idxL_self ⟨i0, ilt⟩).1 h3⟩⟩, by omega⟩⟩⟩⟩, fun ige => ?_⟩
  · exact (dec_f fun hG => by rw [(hG.2 i i0 ilt).1] at h1; cases h1).symm
  · exact (dec_f fun hG => h2 (hG.2 i i0 ilt).2.1).symm
  · exact (dec_f fun hG => h3 ((idxL_self ⟨i0, ilt⟩).2 (hG.2 i i0 ilt).2.2)).symm
  · rw [Bool.eq_iff_iff, decide_eq_true_eq, dec_iff]
    exact ⟨fun h => ⟨by omega, fun j a b => iI j a (by omega)⟩, fun h => by have := h.1; omega⟩
theorem good_cj {list : List (List Int)} (h : GoodL list) {x y : Int} (hx : 0 ≤ x ∧ x < (list.length : Int)) (hy : 0 ≤ y ∧ y < (list.length : Int)) : cjD (el list x) (el list y) := by
  obtain ⟨a1, a2, _⟩ := h.2 x hx.1 hx.2
  obtain ⟨b1, b2, _⟩ := h.2 y hy.1 hy.2
  have := permB_len a1
  exact ⟨by show _ ≤ (1000000000 : Int); omega, permB_isPerm a1, by omega, permB_isPerm b1⟩
theorem small_cj {x y : List Int} (h : small x) : small (conjI x y) := by
  have : (x.length : Int) ≤ 1000000000 := h
  show _ ≤ (1000000000 : Int); simp [conjI]; omega
theorem good_small2 {list : List (List Int)} (h : GoodL list) (h2 : (list.length : Int) ≤ 12) : small2 list := ⟨by show _ ≤ (1000000000 : Int); omega, fun r hr => by
  obtain ⟨i, hi, rfl⟩ := mem_el hr
  have := permB_len (h.2 i hi.1 hi.2).1
  show _ ≤ (1000000000 : Int); omega⟩
theorem idxL_in {lists : List (List Int)} {list : List Int} : -1 ≤ idxL lists list ∧ idxL lists list < (lists.length : Int) ∨ idxL lists list = -1 := by
  unfold idxL idxF
  split
  · rename_i h
    have : lists.findIdx (fun own => decide (own = list)) < lists.length := List.findIdx_lt_length_of_exists (by simpa using h)
    left; omega
  · right; rfl
theorem p_spec_l04Conjugation (list : List (List Int)) (hp : GoodL list ∧ (list.length : Int) ≤ 12) : wp_spec_l04Conjugation list (fun y0 => y0 = cjT list) := by
  unfold wp_spec_l04Conjugation
  obtain ⟨hG, hl⟩ := hp
  have hs2 := good_small2 hG hl
  refine ⟨fun i o => 0 ≤ i ∧ i ≤ (list.length : Int) ∧ o.length = i.toNat ∧ Upto i fun x => el o x = ran (list.length : Int) (cjV list x), fun i _ => ((list.length : Int) - i).toNat, ⟨by omega, by omega, by simp, upto0⟩, ?_⟩
  rintro x o ⟨i0, i1, il, iI⟩
  dsimp only
  refine ⟨fun ilt => ?_, fun ige => eq_ran (by omega) fun j a b => iI j a (by omega)⟩
  refine ⟨fun y q => 0 ≤ y ∧ y ≤ (list.length : Int) ∧ q.length = y.toNat ∧ Upto y fun y => el q y = cjV list x y, fun y _ => ((list.length : Int) - y).toNat, ⟨by omega, by omega, by simp, upto0⟩, ?_⟩
  rintro y q ⟨j0, j1, jl, jI⟩
  dsimp only
  refine ⟨fun jlt => ?_, fun jge => ?_⟩
  · have hc := good_cj hG (x := x) (y := y) ⟨i0, ilt⟩ ⟨j0, jlt⟩
    exact ⟨⟨i0, ilt⟩, ⟨j0, jlt⟩, hc, ⟨hs2, small_cj hc.1⟩, by simp; omega, ⟨by omega, by omega⟩, ⟨by omega, by omega, by simp; omega, app1 (f := cjV list x) (by omega) jI rfl⟩, by omega⟩
  · have hq : q = ran (list.length : Int) (cjV list x) := eq_ran (by omega) fun k u v => jI k u (by omega)
    exact ⟨by simp; omega, ⟨by omega, by omega⟩, ⟨by omega, by omega, by simp; omega, app1 (f := fun x => ran (list.length : Int) (cjV list x)) (by omega) iI hq⟩, by omega⟩
theorem p_impl_ConjugationQuandle_1 (x y : Int) (list : List (List Int)) (hp : GoodL list ∧ (list.length : Int) ≤ 12 ∧ 0 ≤ x ∧ x < (list.length : Int) ∧ 0 ≤ y ∧ y < (list.length : Int)) : wp_impl_ConjugationQuandle_1 x y list (fun y0 => y0 = cjV list x y) := by
  obtain ⟨hG, hl, x0, x1, y0, y1⟩ := hp
  have hc := good_cj hG (x := x) (y := y) ⟨x0, x1⟩ ⟨y0, y1⟩
  exact ⟨⟨y0, y1⟩, ⟨x0, x1⟩, hc, ⟨good_small2 hG hl, small_cj hc.1⟩, rfl⟩
theorem cjq1 {l : List (List Int)} (h : dec (GoodL l) = false) : [] = CjqT l ∧ 1 = CjqE l := by
  have e : CjqE l = 1 := by unfold CjqE; rw [h]; rfl
  exact ⟨by unfold CjqT; rw [e]; rfl, e.symm⟩
theorem cjq3 {l : List (List Int)} (h : dec (GoodL l) = true) (h2 : (12 : Int) < (l.length : Int)) : [] = CjqT l ∧ 3 = CjqE l := by
  have e : CjqE l = 3 := by unfold CjqE; rw [h, if_pos h2]; rfl
  exact ⟨by unfold CjqT; rw [e]; rfl, e.symm⟩
theorem cjq5 {l : List (List Int)} (h : dec (GoodL l) = true) (h2 : ¬ (12 : Int) < (l.length : Int)) (h3 : isTab (cjT l) = false) : [] = CjqT l ∧ 5 = CjqE l := by
  have e : CjqE l = 5 := by unfold CjqE; rw [h, if_neg h2, h3]; rfl
  exact ⟨by unfold CjqT; rw [e]; rfl, e.symm⟩
theorem cjq0 {l : List (List Int)} (h : dec (GoodL l) = true) (h2 : ¬ (12 : Int) < (l.length : Int)) (h3 : isTab (cjT l) = true) : cjT l = CjqT l ∧ 0 = CjqE l := by
  have e : CjqE l = 0 := by unfold CjqE; rw [h, if_neg h2, h3]; rfl
  exact ⟨by unfold CjqT; rw [e]; rfl, e.symm⟩
theorem p_spec_ConjugationQuandle (list : List (List Int)) (hp : small2 list) : wp_spec_ConjugationQuandle list (fun y0 y1 => y0 = CjqT list ∧ y1 = CjqE list) := by
  unfold wp_spec_ConjugationQuandle
  exact ⟨hp, fun h => cjq1 h, fun h => ⟨fun h2 => cjq3 h h2, fun h2 => ⟨⟨dec_iff.1 h, by omega⟩, small2_tab' (by omega), fun h3 => cjq5 h h2 h3, fun h3 => cjq0 h h2 h3⟩⟩⟩
theorem p_impl_ConjugationQuandle (list : List (List Int)) (hp : small2 list) : wp_impl_ConjugationQuandle list (fun y0 y1 => y0 = CjqT list ∧ y1 = CjqE list) := by
  unfold wp_impl_ConjugationQuandle
  have hs := hp.1
  refine ⟨fun h => cjq1 (dec_f fun hG => by have := hG.1; omega), fun h => ?_⟩
  refine ⟨fun i => 0 ≤ i ∧ i ≤ (list.length : Int) ∧ Upto i fun i => permB (el list i) = true ∧ ((el list i).length : Int) = ((el list 0).length : Int) ∧ ∀ j, 0 ≤ j → j < i → el list j ≠ el list i, fun i => ((list.length : Int) - i).toNat, ⟨by omega, by omega, upto0⟩, ?_⟩
  rintro i ⟨i0, i1, iI⟩
  dsimp only
  refine ⟨fun ilt => ⟨⟨i0, ilt⟩, hp.2 _ (el_mem ⟨i0, ilt⟩), fun h1 => ?_, fun h1 => ⟨⟨by omega, by omega⟩, fun h2 => ?_, fun h2 => ⟨⟨by omega, by omega, by omega⟩, ⟨⟨?_, ?_⟩, hp.2 _ (el_mem ⟨i0, ilt⟩)⟩, fun h3 => ?_, fun h3 => ⟨⟨by omega, by omega⟩, ⟨by omega, by omega, upto1 iI ⟨h1, h2, ?_⟩⟩, by omega⟩⟩⟩⟩, fun ige => ?_⟩
  · exact cjq1 (dec_f fun hG => by rw [(hG.2 i i0 ilt).1] at h1; cases h1)
  · exact cjq1 (dec_f fun hG => h2 (hG.2 i i0 ilt).2.1)
  · have := length_sl (l := list) (a := 0) (b := i) ⟨by omega, by omega, by omega⟩
    show _ ≤ (1000000000 : Int); omega
  · exact fun r hr => hp.2 r (List.mem_of_mem_take (List.mem_of_mem_drop hr))
  · have hsl := length_sl (l := list) (a := 0) (b := i) ⟨by omega, by omega, by omega⟩
    have h4 : (sl list 0 i).any (fun own => decide (own = el list i)) = true := by rw [← idxF_nonneg]; exact decide_eq_true h3
    obtain ⟨j, hj, e⟩ := any_el.1 h4
    rw [el_sl (by omega) hj.1 (by omega), Int.zero_add, decide_eq_true_eq] at e
    exact cjq1 (dec_f fun hG => (hG.2 i i0 ilt).2.2 j hj.1 (by omega) e)
  · intro j j0 j1 e
    have hsl := length_sl (l := list) (a := 0) (b := i) ⟨by omega, by omega, by omega⟩
    have h4 : decide (0 ≤ idxL (sl list 0 i) (el list i)) = true := by
      unfold idxL
      rw [idxF_nonneg]
      exact any_t (i := j) ⟨j0, by omega⟩ (by rw [el_sl (by omega) j0 (by omega), Int.zero_add]; exact decide_eq_true e)
    exact h3 (of_decide_eq_true h4)
  · have hG : GoodL list := ⟨by omega, fun j a b => iI j a (by omega)⟩
    have hd := dec_t hG
    refine ⟨fun h2 => cjq3 hd h2, fun h2 => ⟨⟨by omega, by omega, fun x y x0 x1 y0 y1 => ⟨⟨hG, by omega, x0, x1, y0, y1⟩, ?_⟩⟩, small2_tab' (by omega), fun h3 => cjq5 hd h2 h3, fun h3 => cjq0 hd h2 h3⟩⟩
    rcases idxL_in (lists := list) (list := conjI (el list x) (el list y)) with h5 | h5
    · constructor <;> (try dsimp only) <;> (unfold cjV; omega)
    · constructor <;> (try dsimp only) <;> (unfold cjV; omega)
set_option maxRecDepth 100000 in
set_option maxHeartbeats 4000000 in
theorem w_spec_l04Find (lists : List (List Int)) (list : List Int) (Q : Int → Prop) (h : wp_spec_l04Find lists list Q) : AF Try.prog 37 [.lst (rows lists), .lst (ints list)] (fun R_ => ∃ y0, Q y0 ∧ R_ = ci y0) := by
  refine AF.ofWQ (af_enter (n := 19) Try.func37 rfl (by rfl) rfl (Nat.le_of_ble_eq_true rfl) ?_)
  unfold wp_spec_l04Find at h
  refine aw_seq ?_
  refine aw_gh (gh_to (n := 19) (σ' := []) (env' := [(0, .c (.lst (rows lists))), (1, .c (.lst (ints list)))]) rfl rfl ⟨rfl, rfl, trivial⟩) ?_
  refine aw_region ?_
  refine run_s (ss_assign rfl) rfl ?_
  refine run_nil ?_
  refine aw_seq ?_
  refine aw_seq ?_
  refine aw_region ?_
  refine run_s (ss_assign rfl) rfl ?_
  refine run_nil ?_
  refine aw_block ?_
  obtain ⟨H1, m1, q1, h⟩ := h
  refine aw_loop1 (fun (v5_1 : Int) => ⟨[], [(0, .c (.lst (rows lists))), (1, .c (.lst (ints list))), (5, .c (ci v5_1))], 19⟩) H1 m1 ⟨0, ghe_to (n := 19) rfl rfl ⟨rfl, rfl, rfl, trivial⟩, q1⟩ ?_
  rintro v5_1 q1
  replace h := h v5_1 q1
  refine aw_seq ?_
  refine aw_seq ?_
  refine aw_region ?_
  refine run_s (ss_move rfl) rfl ?_
  refine run_s (ss_move rfl) rfl ?_
  refine run_s (ss_lenL (f := (fun r => C.lst (ints r))) rfl) rfl ?_
  refine run_s (ss_lss rfl rfl) rfl ?_
  refine run_nil ?_
  refine aw_cond rfl (fun q2 => ?_) (fun q2 => ?_)
  ·replace h := h.1 (of_decide_eq_true q2)
   refine aw_skip ?_
   refine aw_seq ?_
   refine aw_block ?_
   refine aw_seq ?_
   refine aw_region ?_
   refine run_s (ss_move rfl) rfl ?_
   refine run_s (ss_move rfl) rfl ?_
   obtain ⟨q3, h⟩ := h
   refine run_s (ss_idxL rfl rfl q3) rfl ?_
   refine run_s (ss_loadL (f := (fun r => C.lst (ints r))) rfl q3) rfl ?_
   refine run_s (ss_move rfl) rfl ?_
   obtain ⟨q4, h⟩ := h
   refine run_w (ws_call (xs := [.tmp 15, .tmp 16]) (ids := []) rfl rfl rfl rfl (c_spec_l01Same (el lists v5_1) list q4) rfl ?_ )
   rintro _ rfl
   refine ⟨rfl, ?_⟩
   refine run_nil ?_
   refine aw_cond rfl (fun q6 => ?_) (fun q6 => ?_)
   ·replace h := h.1 (of_decide_eq_true q6)
    refine aw_seq ?_
    refine aw_gh (gh_to (n := 19) (σ' := []) (env' := [(5, .c (ci v5_1))]) rfl rfl ⟨rfl, trivial⟩) ?_
    refine aw_region ?_
    refine run_s (ss_move rfl) rfl ?_
    refine run_s (ss_assign rfl) rfl ?_
    refine run_nil ?_
    refine aw_ret ?_
    exact retAF_mk (retv1 rfl (rv_tmp rfl)) rfl rfl ⟨_, (cle_refl _), _, h, rfl⟩
   ·replace h := h.2 (of_decide_eq_false q6)
    refine aw_skip ?_
    refine aw_gh (gh_to (n := 19) (σ' := []) (env' := [(0, .c (.lst (rows lists))), (1, .c (.lst (ints list))), (5, .c (ci v5_1))]) rfl rfl ⟨rfl, rfl, rfl, trivial⟩) ?_
    refine aw_region ?_
    refine run_s (ss_move rfl) rfl ?_
    obtain ⟨q7, h⟩ := h
    refine run_s (ss_add rfl rfl q7) rfl ?_
    refine run_s (ss_assign rfl) rfl ?_
    refine run_nil ?_
    exact ⟨v5_1 + 1, ghe_to (n := 19) rfl rfl ⟨rfl, rfl, rfl, trivial⟩, h.1, h.2⟩
  ·replace h := h.2 (of_decide_eq_false q2)
   refine aw_exit ?_
   refine aw_seq ?_
   refine aw_gh (gh_to (n := 19) (σ' := []) (env' := []) rfl rfl trivial) ?_
   refine aw_region ?_
   refine run_s (ss_assign rfl) rfl ?_
   refine run_nil ?_
   refine aw_ret ?_
   exact retAF_mk (retv1 rfl (rv_tmp rfl)) rfl rfl ⟨_, (cle_refl _), _, h, rfl⟩

theorem c_spec_l04Find (lists : List (List Int)) (list : List Int) (hp : small2 lists ∧ small list) : AF Try.prog 37 [.lst (rows lists), .lst (ints list)] (fun R_ => R_ = ci (idxL lists list)) :=
  (w_spec_l04Find lists list (fun y0 => y0 = idxL lists list) (p_spec_l04Find lists list hp)).mono (by rintro r ⟨_, rfl, rfl⟩; rfl)

set_option maxRecDepth 100000 in
set_option maxHeartbeats 4000000 in
theorem w_impl_listIndex_1 (own : List Int) (list : List Int) (Q : Bool → Prop) (h : wp_impl_listIndex_1 own list Q) : AF Try.prog 80 [.lst (ints own), .ptr [.lst (ints list)]] (fun R_ => ∃ y0, Q y0 ∧ R_ = cb y0) := by
  refine AF.ofWQ (af_enter (n := 7) Try.func80 rfl (by rfl) rfl (Nat.le_of_ble_eq_true rfl) ?_)
  unfold wp_impl_listIndex_1 at h
  refine aw_seq ?_
  refine aw_gh (gh_to (n := 7) (σ' := []) (env' := [(0, .c (.lst (ints own))), (1, .c (.ptr [.lst (ints list)]))]) rfl rfl ⟨rfl, rfl, trivial⟩) ?_
  refine aw_region ?_
  refine run_s (ss_assign rfl) rfl ?_
  refine run_nil ?_
  refine aw_seq ?_
  refine aw_region ?_
  refine run_s (ss_move rfl) rfl ?_
  refine run_s (ss_load_ptr rfl rfl) rfl ?_
  obtain ⟨q1, h⟩ := h
  refine run_w (ws_call (xs := [.tmp 4, .tmp 5]) (ids := []) rfl rfl rfl rfl (c_k_Equal own list q1) rfl ?_ )
  rintro _ rfl
  refine ⟨rfl, ?_⟩
  refine run_s (ss_assign rfl) rfl ?_
  refine run_nil ?_
  refine aw_ret ?_
  exact retAF_mk (retv1 rfl (rv_tmp rfl)) rfl rfl ⟨_, (cle_refl _), _, h, rfl⟩

theorem c_impl_listIndex_1 (own : List Int) (list : List Int) (hp : small own ∧ small list) : AF Try.prog 80 [.lst (ints own), .ptr [.lst (ints list)]] (fun R_ => R_ = cb (decide (own = list))) :=
  (w_impl_listIndex_1 own list (fun y0 => y0 = decide (own = list)) (p_impl_listIndex_1 own list hp)).mono (by rintro r ⟨_, rfl, rfl⟩; rfl)

set_option maxRecDepth 100000 in
set_option maxHeartbeats 4000000 in
theorem w_impl_listIndex (lists : List (List Int)) (list : List Int) (Q : Int → Prop) (h : wp_impl_listIndex lists list Q) : AF Try.prog 39 [.lst (rows lists), .lst (ints list)] (fun R_ => ∃ y0, Q y0 ∧ R_ = ci y0) := by
  refine AF.ofWQ (af_enter (n := 8) Try.func39 rfl (by rfl) rfl (Nat.le_of_ble_eq_true rfl) ?_)
  unfold wp_impl_listIndex at h
  refine aw_seq ?_
  refine aw_gh (gh_to (n := 8) (σ' := []) (env' := [(0, .c (.lst (rows lists))), (1, .c (.lst (ints list)))]) rfl rfl ⟨rfl, rfl, trivial⟩) ?_
  refine aw_region ?_
  refine run_w (ws_boxR rfl (.inr rfl) rfl ⟨rfl, ?_⟩)
  refine run_s (ss_assign rfl) rfl ?_
  refine run_nil ?_
  refine aw_seq ?_
  refine aw_region ?_
  refine run_s (ss_move rfl) rfl ?_
  refine run_s (ss_makeFunc (os := [.tmp 3]) rfl) rfl ?_
  obtain ⟨q1, h⟩ := h
  refine run_w (ws_call (xs := [.tmp 5, .tmp 6]) (ids := []) rfl rfl rfl rfl (c_k_IndexFunc_rows lists 80 [.ptr [.lst (ints list)]] (fun z0 => decide (z0 = list)) (fun z0 => small z0 ∧ small list) (fun z0 hD => c_impl_listIndex_1 z0 list hD) q1) rfl ?_ )
  rintro _ rfl
  refine ⟨rfl, ?_⟩
  refine run_s (ss_assign rfl) rfl ?_
  refine run_nil ?_
  refine aw_ret ?_
  exact retAF_mk (retv1 rfl (rv_tmp rfl)) rfl rfl ⟨_, (cle_refl _), _, h, rfl⟩

theorem c_impl_listIndex (lists : List (List Int)) (list : List Int) (hp : small2 lists ∧ small list) : AF Try.prog 39 [.lst (rows lists), .lst (ints list)] (fun R_ => R_ = ci (idxL lists list)) :=
  (w_impl_listIndex lists list (fun y0 => y0 = idxL lists list) (p_impl_listIndex lists list hp)).mono (by rintro r ⟨_, rfl, rfl⟩; rfl)

set_option maxRecDepth 100000 in
set_option maxHeartbeats 4000000 in
theorem w_impl_conjugate (y : List Int) (x : List Int) (Q : List Int → Prop) (h : wp_impl_conjugate y x Q) : AF Try.prog 42 [.lst (ints y), .lst (ints x)] (fun R_ => ∃ y0, Q y0 ∧ R_ = .own (ints y0)) := by
  refine AF.ofWQ (af_enter (n := 11) Try.func42 rfl (by rfl) rfl (Nat.le_of_ble_eq_true rfl) ?_)
  unfold wp_impl_conjugate at h
  refine aw_seq ?_
  refine aw_gh (gh_to (n := 11) (σ' := []) (env' := [(0, .c (.lst (ints y))), (1, .c (.lst (ints x)))]) rfl rfl ⟨rfl, rfl, trivial⟩) ?_
  refine aw_region ?_
  refine run_s (ss_assign rfl) rfl ?_
  refine run_nil ?_
  refine aw_seq ?_
  refine aw_region ?_
  refine run_s (ss_move rfl) rfl ?_
  obtain ⟨q1, h⟩ := h
  refine run_w (ws_call (xs := [.tmp 5]) (ids := [6]) rfl rfl rfl rfl (c_impl_inverse x q1) rfl ?_ )
  rintro _ rfl
  refine ⟨rfl, ?_⟩
  refine run_s (ss_move rfl) rfl ?_
  obtain ⟨q3, h⟩ := h
  refine run_w (ws_callR (xs := [.tmp 6, .tmp 7]) (cs := [.own (ints (backI x)), .lst (ints y)]) (ids := [8]) rfl (.inr ⟨rfl, rfl⟩) rfl rfl (fz_cons (fz_own (fz_map (fun _ => rfl) _)) (fz_cons rfl fz_nil)) (c_impl_then (backI x) y q3) rfl ?_ )
  rintro _ rfl
  refine ⟨(slf_own (slfL_map (f := ci) (fun _ => rfl) _)), rfl, ?_⟩
  refine run_s (ss_move rfl) rfl ?_
  obtain ⟨q5, h⟩ := h
  refine run_w (ws_callR (xs := [.tmp 8, .tmp 9]) (cs := [.own (ints ((backI x).map (el y))), .lst (ints x)]) (ids := [10]) rfl (.inr ⟨rfl, rfl⟩) rfl rfl (fz_cons (fz_own (fz_map (fun _ => rfl) _)) (fz_cons rfl fz_nil)) (c_impl_then ((backI x).map (el y)) x q5) rfl ?_ )
  rintro _ rfl
  refine ⟨(slf_own (slfL_map (f := ci) (fun _ => rfl) _)), rfl, ?_⟩
  refine run_s (ss_assign rfl) rfl ?_
  refine run_nil ?_
  refine aw_ret ?_
  exact retAF_mk (retv1 rfl (rv_tmp rfl)) rfl rfl ⟨_, (cle_refl _), _, h, rfl⟩

theorem c_impl_conjugate (y : List Int) (x : List Int) (hp : cjD x y) : AF Try.prog 42 [.lst (ints y), .lst (ints x)] (fun R_ => R_ = .own (ints (conjI x y))) :=
  (w_impl_conjugate y x (fun y0 => y0 = conjI x y) (p_impl_conjugate y x hp)).mono (by rintro r ⟨_, rfl, rfl⟩; rfl)

set_option maxRecDepth 100000 in
set_option maxHeartbeats 4000000 in
theorem w_spec_l04Conjugate (x : List Int) (y : List Int) (Q : List Int → Prop) (h : wp_spec_l04Conjugate x y Q) : AF Try.prog 36 [.lst (ints x), .lst (ints y)] (fun R_ => ∃ y0, Q y0 ∧ R_ = .own (ints y0)) := by
  refine AF.ofWQ (af_enter (n := 11) Try.func36 rfl (by rfl) rfl (Nat.le_of_ble_eq_true rfl) ?_)
  unfold wp_spec_l04Conjugate at h
  refine aw_seq ?_
  refine aw_gh (gh_to (n := 11) (σ' := []) (env' := [(0, .c (.lst (ints x))), (1, .c (.lst (ints y)))]) rfl rfl ⟨rfl, rfl, trivial⟩) ?_
  refine aw_region ?_
  refine run_s (ss_assign rfl) rfl ?_
  refine run_nil ?_
  refine aw_seq ?_
  refine aw_region ?_
  refine run_s (ss_move rfl) rfl ?_
  obtain ⟨q1, h⟩ := h
  refine run_w (ws_call (xs := [.tmp 5]) (ids := [6]) rfl rfl rfl rfl (c_spec_l01Back x q1) rfl ?_ )
  rintro _ rfl
  refine ⟨rfl, ?_⟩
  refine run_s (ss_move rfl) rfl ?_
  obtain ⟨q3, h⟩ := h
  refine run_w (ws_callR (xs := [.tmp 6, .tmp 7]) (cs := [.own (ints (backI x)), .lst (ints y)]) (ids := [8]) rfl (.inr ⟨rfl, rfl⟩) rfl rfl (fz_cons (fz_own (fz_map (fun _ => rfl) _)) (fz_cons rfl fz_nil)) (c_spec_l01Then (backI x) y q3) rfl ?_ )
  rintro _ rfl
  refine ⟨(slf_own (slfL_map (f := ci) (fun _ => rfl) _)), rfl, ?_⟩
  refine run_s (ss_move rfl) rfl ?_
  obtain ⟨q5, h⟩ := h
  refine run_w (ws_callR (xs := [.tmp 8, .tmp 9]) (cs := [.own (ints ((backI x).map (el y))), .lst (ints x)]) (ids := [10]) rfl (.inr ⟨rfl, rfl⟩) rfl rfl (fz_cons (fz_own (fz_map (fun _ => rfl) _)) (fz_cons rfl fz_nil)) (c_spec_l01Then ((backI x).map (el y)) x q5) rfl ?_ )
  rintro _ rfl
  refine ⟨(slf_own (slfL_map (f := ci) (fun _ => rfl) _)), rfl, ?_⟩
  refine run_s (ss_assign rfl) rfl ?_
  refine run_nil ?_
  refine aw_ret ?_
  exact retAF_mk (retv1 rfl (rv_tmp rfl)) rfl rfl ⟨_, (cle_refl _), _, h, rfl⟩

theorem c_spec_l04Conjugate (x : List Int) (y : List Int) (hp : cjD x y) : AF Try.prog 36 [.lst (ints x), .lst (ints y)] (fun R_ => R_ = .own (ints (conjI x y))) :=
  (w_spec_l04Conjugate x y (fun y0 => y0 = conjI x y) (p_spec_l04Conjugate x y hp)).mono (by rintro r ⟨_, rfl, rfl⟩; rfl)

set_option maxRecDepth 100000 in
set_option maxHeartbeats 4000000 in
theorem w_spec_l04List (list : List (List Int)) (Q : Bool → Prop) (h : wp_spec_l04List list Q) : AF Try.prog 44 [.lst (rows list)] (fun R_ => ∃ y0, Q y0 ∧ R_ = cb y0) := by
  refine AF.ofWQ (af_enter (n := 41) Try.func44 rfl (by rfl) rfl (Nat.le_of_ble_eq_true rfl) ?_)
  unfold wp_spec_l04List at h
  refine aw_seq ?_
  refine aw_gh (gh_to (n := 41) (σ' := []) (env' := [(0, .c (.lst (rows list)))]) rfl rfl ⟨rfl, trivial⟩) ?_
  refine aw_region ?_
  refine run_s (ss_assign rfl) rfl ?_
  refine run_nil ?_
  refine aw_seq ?_
  refine aw_seq ?_
  refine aw_region ?_
  refine run_s (ss_assign rfl) rfl ?_
  refine run_nil ?_
  refine aw_block ?_
  obtain ⟨H1, m1, q1, h⟩ := h
  refine aw_loop1 (fun (v3_1 : Int) => ⟨[], [(0, .c (.lst (rows list))), (3, .c (ci v3_1))], 41⟩) H1 m1 ⟨0, ghe_to (n := 41) rfl rfl ⟨rfl, rfl, trivial⟩, q1⟩ ?_
  rintro v3_1 q1
  replace h := h v3_1 q1
  refine aw_seq ?_
  refine aw_seq ?_
  refine aw_region ?_
  refine run_s (ss_move rfl) rfl ?_
  refine run_s (ss_move rfl) rfl ?_
  refine run_s (ss_lenL (f := (fun r => C.lst (ints r))) rfl) rfl ?_
  refine run_s (ss_lss rfl rfl) rfl ?_
  refine run_nil ?_
  refine aw_cond rfl (fun q2 => ?_) (fun q2 => ?_)
  ·replace h := h.1 (of_decide_eq_true q2)
   refine aw_skip ?_
   refine aw_seq ?_
   refine aw_block ?_
   refine aw_seq ?_
   refine aw_gh (gh_to (n := 41) (σ' := []) (env' := [(0, .c (.lst (rows list))), (3, .c (ci v3_1))]) rfl rfl ⟨rfl, rfl, trivial⟩) ?_
   refine aw_regionD (kd := kdl [0, 0, 0, 1, 2, 0, 0, 0, 0, 0, 1, 0, 0, 0, 1, 0, 0, 0, 0, 0, 0, 0, 0, 1, 2, 0, 0, 0]) (ord := [0, 1, 2, 3, 4, 5, 6, 7, 8, 9, 12, 13, 10, 11, 14, 15, 16, 17, 18, 19, 20, 21, 22, 25, 23, 24, 26, 27]) [] mixed (by kernel_rfl) ?_
   refine rd_s rfl rfl trivial (ss_move rfl) rfl ?_
   refine rd_s rfl rfl trivial (ss_move rfl) rfl ?_
   obtain ⟨q3, h⟩ := h
   refine rd_s rfl rfl trivial (ss_idxL rfl rfl q3) rfl ?_
   refine rd_l rfl rfl trivial (ss_loadL (f := (fun r => C.lst (ints r))) rfl q3) rfl ?_
   obtain ⟨q4, h⟩ := h
   refine rd_w rfl rfl trivial rfl rfl (ws_call (xs := [.tmp 13]) (ids := []) rfl rfl rfl rfl (c_spec_l01Perm (el list v3_1) q4) rfl ?_ )
   rintro _ rfl
   refine ⟨rfl, ?_⟩
   refine rd_s rfl rfl trivial (ss_not rfl) rfl ?_
   refine rd_s rfl rfl trivial (ss_move rfl) rfl ?_
   refine rd_split (s := 16) rfl (fun q6 => ?_) (fun q6 => ?_)
   ·replace h := h.1 ((bnot_t q6))
    refine rd_no rfl rfl rfl q6 rfl ?_
    refine rd_no rfl rfl rfl q6 rfl ?_
    refine rd_no rfl rfl rfl q6 rfl ?_
    refine rd_no rfl rfl rfl q6 rfl ?_
    refine rd_no rfl rfl rfl q6 rfl ?_
    refine rd_no rfl rfl rfl q6 rfl ?_
    refine rd_no rfl rfl rfl q6 rfl ?_
    refine rd_no rfl rfl rfl q6 rfl ?_
    refine rd_no rfl rfl rfl q6 rfl ?_
    refine rd_no rfl rfl rfl q6 rfl ?_
    refine rd_s rfl rfl trivial (ss_pickT rfl q6 rfl) rfl ?_
    refine rd_s rfl rfl trivial (ss_move rfl) rfl ?_
    refine rd_split (s := 28) rfl (fun q7 => ?_) (fun q7 => ?_)
    ·skip
     refine rd_no rfl rfl rfl q7 rfl ?_
     refine rd_no rfl rfl rfl q7 rfl ?_
     refine rd_no rfl rfl rfl q7 rfl ?_
     refine rd_no rfl rfl rfl q7 rfl ?_
     refine rd_no rfl rfl rfl q7 rfl ?_
     refine rd_no rfl rfl rfl q7 rfl ?_
     refine rd_no rfl rfl rfl q7 rfl ?_
     refine rd_no rfl rfl rfl q7 rfl ?_
     refine rd_s rfl rfl trivial (ss_pickT rfl q7 rfl) rfl ?_
     refine rd_nil ?_
     refine aw_cond rfl (fun q8 => ?_) (fun q8 => ?_)
     ·skip
      refine aw_seq ?_
      refine aw_gh (gh_to (n := 41) (σ' := []) (env' := []) rfl rfl trivial) ?_
      refine aw_region ?_
      refine run_s (ss_assign rfl) rfl ?_
      refine run_nil ?_
      refine aw_ret ?_
      exact retAF_mk (retv1 rfl (rv_tmp rfl)) rfl rfl ⟨_, (cle_refl _), _, h, rfl⟩
     ·cases q8
    ·cases q7
   ·replace h := h.2 ((bnot_f q6))
    refine rd_s rfl rfl ⟨_, _, rfl, rfl, q6⟩ (ss_move rfl) rfl ?_
    refine rd_s rfl rfl ⟨_, _, rfl, rfl, q6⟩ (ss_move rfl) rfl ?_
    obtain ⟨q9, h⟩ := h
    refine rd_s rfl rfl ⟨_, _, rfl, rfl, q6⟩ (ss_idxL rfl rfl q9) rfl ?_
    refine rd_s rfl rfl ⟨_, _, rfl, rfl, q6⟩ (ss_move rfl) rfl ?_
    obtain ⟨q10, h⟩ := h
    refine rd_s rfl rfl ⟨_, _, rfl, rfl, q6⟩ (ss_idxL rfl rfl q10) rfl ?_
    refine rd_l rfl rfl ⟨_, _, rfl, rfl, q6⟩ (ss_loadL (f := (fun r => C.lst (ints r))) rfl q9) rfl ?_
    refine rd_s rfl rfl ⟨_, _, rfl, rfl, q6⟩ (ss_lenL (f := ci) rfl) rfl ?_
    refine rd_l rfl rfl ⟨_, _, rfl, rfl, q6⟩ (ss_loadL (f := (fun r => C.lst (ints r))) rfl q10) rfl ?_
    refine rd_s rfl rfl ⟨_, _, rfl, rfl, q6⟩ (ss_lenL (f := ci) rfl) rfl ?_
    refine rd_s rfl rfl ⟨_, _, rfl, rfl, q6⟩ (ss_neq rfl rfl) rfl ?_
    refine rd_s rfl rfl trivial (ss_pickF rfl q6 rfl) rfl ?_
    refine rd_s rfl rfl trivial (ss_move rfl) rfl ?_
    refine rd_split (s := 28) rfl (fun q11 => ?_) (fun q11 => ?_)
    ·replace h := h.1 (of_decide_eq_false (bnot_t q11))
     refine rd_no rfl rfl rfl q11 rfl ?_
     refine rd_no rfl rfl rfl q11 rfl ?_
     refine rd_no rfl rfl rfl q11 rfl ?_
     refine rd_no rfl rfl rfl q11 rfl ?_
     refine rd_no rfl rfl rfl q11 rfl ?_
     refine rd_no rfl rfl rfl q11 rfl ?_
     refine rd_no rfl rfl rfl q11 rfl ?_
     refine rd_no rfl rfl rfl q11 rfl ?_
     refine rd_s rfl rfl trivial (ss_pickT rfl q11 rfl) rfl ?_
     refine rd_nil ?_
     refine aw_cond rfl (fun q12 => ?_) (fun q12 => ?_)
     ·skip
      refine aw_seq ?_
      refine aw_gh (gh_to (n := 41) (σ' := []) (env' := []) rfl rfl trivial) ?_
      refine aw_region ?_
      refine run_s (ss_assign rfl) rfl ?_
      refine run_nil ?_
      refine aw_ret ?_
      exact retAF_mk (retv1 rfl (rv_tmp rfl)) rfl rfl ⟨_, (cle_refl _), _, h, rfl⟩
     ·cases q12
    ·replace h := h.2 (of_decide_eq_true (bnot_f q11))
     refine rd_s rfl rfl ⟨_, _, rfl, rfl, q11⟩ (ss_move rfl) rfl ?_
     refine rd_s rfl rfl ⟨_, _, rfl, rfl, q11⟩ (ss_move rfl) rfl ?_
     refine rd_s rfl rfl ⟨_, _, rfl, rfl, q11⟩ (ss_move rfl) rfl ?_
     obtain ⟨q13, h⟩ := h
     refine rd_s rfl rfl ⟨_, _, rfl, rfl, q11⟩ (ss_idxL rfl rfl q13) rfl ?_
     refine rd_s rfl rfl ⟨_, _, rfl, rfl, q11⟩ (ss_move rfl) rfl ?_
     refine rd_l rfl rfl ⟨_, _, rfl, rfl, q11⟩ (ss_loadL (f := (fun r => C.lst (ints r))) rfl q13) rfl ?_
     obtain ⟨q14, h⟩ := h
     refine rd_w rfl rfl ⟨_, _, rfl, rfl, q11⟩ rfl rfl (ws_call (xs := [.tmp 29, .tmp 33]) (ids := []) rfl rfl rfl rfl (c_spec_l04Find list (el list v3_1) q14) rfl ?_ )
     rintro _ rfl
     refine ⟨rfl, ?_⟩
     refine rd_s rfl rfl ⟨_, _, rfl, rfl, q11⟩ (ss_neq rfl rfl) rfl ?_
     refine rd_s rfl rfl trivial (ss_pickF rfl q11 rfl) rfl ?_
     refine rd_nil ?_
     refine aw_cond rfl (fun q16 => ?_) (fun q16 => ?_)
     ·replace h := h.1 (of_decide_eq_false (bnot_t q16))
      refine aw_seq ?_
      refine aw_gh (gh_to (n := 41) (σ' := []) (env' := []) rfl rfl trivial) ?_
      refine aw_region ?_
      refine run_s (ss_assign rfl) rfl ?_
      refine run_nil ?_
      refine aw_ret ?_
      exact retAF_mk (retv1 rfl (rv_tmp rfl)) rfl rfl ⟨_, (cle_refl _), _, h, rfl⟩
     ·replace h := h.2 (of_decide_eq_true (bnot_f q16))
      refine aw_skip ?_
      refine aw_gh (gh_to (n := 41) (σ' := []) (env' := [(0, .c (.lst (rows list))), (3, .c (ci v3_1)), (17, .c (.lst (rows list))), (18, .c (ci v3_1)), (19, .c (.ptr ((rows list).drop v3_1.toNat))), (20, .c (.lst (ints (el list v3_1)))), (21, .c (ci ((el list v3_1).length : Int))), (22, .c (.lst (rows list))), (23, .c (.ptr ((rows list).drop (0 : Int).toNat))), (24, .c (.lst (ints (el list 0)))), (25, .c (ci ((el list 0).length : Int))), (26, .c (cb (!(decide (((el list v3_1).length : Int) = ((el list 0).length : Int)))))), (29, .c (.lst (rows list))), (30, .c (.lst (rows list))), (31, .c (ci v3_1)), (32, .c (.ptr ((rows list).drop v3_1.toNat))), (33, .c (.lst (ints (el list v3_1)))), (34, .c (ci (idxL list (el list v3_1)))), (35, .c (ci v3_1)), (36, .c (cb (!(decide (idxL list (el list v3_1) = v3_1)))))]) rfl rfl ⟨rfl, rfl, rfl, rfl, rfl, rfl, rfl, rfl, rfl, rfl, rfl, rfl, rfl, rfl, rfl, rfl, rfl, rfl, rfl, rfl, trivial⟩) ?_
      refine aw_region ?_
      refine run_s (ss_move rfl) rfl ?_
      obtain ⟨q17, h⟩ := h
      refine run_s (ss_add rfl rfl q17) rfl ?_
      refine run_s (ss_assign rfl) rfl ?_
      refine run_nil ?_
      exact ⟨v3_1 + 1, ghe_to (n := 41) rfl rfl ⟨rfl, rfl, trivial⟩, h.1, h.2⟩
  ·replace h := h.2 (of_decide_eq_false q2)
   refine aw_exit ?_
   refine aw_seq ?_
   refine aw_region ?_
   refine run_s (ss_move rfl) rfl ?_
   refine run_s (ss_lenL (f := (fun r => C.lst (ints r))) rfl) rfl ?_
   refine run_s (ss_gtr rfl rfl) rfl ?_
   refine run_s (ss_assign rfl) rfl ?_
   refine run_nil ?_
   refine aw_ret ?_
   exact retAF_mk (retv1 rfl (rv_tmp rfl)) rfl rfl ⟨_, (cle_refl _), _, h, rfl⟩

theorem c_spec_l04List (list : List (List Int)) (hp : small2 list) : AF Try.prog 44 [.lst (rows list)] (fun R_ => R_ = cb (dec (GoodL list))) :=
  (w_spec_l04List list (fun y0 => y0 = dec (GoodL list)) (p_spec_l04List list hp)).mono (by rintro r ⟨_, rfl, rfl⟩; rfl)

set_option maxRecDepth 100000 in
set_option maxHeartbeats 4000000 in
theorem w_spec_l04Conjugation (list : List (List Int)) (Q : List (List Int) → Prop) (h : wp_spec_l04Conjugation list Q) : AF Try.prog 45 [.lst (rows list)] (fun R_ => ∃ y0, Q y0 ∧ R_ = .own (orows y0)) := by
  refine AF.ofWQ (af_enter (n := 40) Try.func45 rfl (by rfl) rfl (Nat.le_of_ble_eq_true rfl) ?_)
  unfold wp_spec_l04Conjugation at h
  refine aw_seq ?_
  refine aw_gh (gh_to (n := 40) (σ' := []) (env' := [(0, .c (.lst (rows list)))]) rfl rfl ⟨rfl, trivial⟩) ?_
  refine aw_region ?_
  refine run_s (ss_assign rfl) rfl ?_
  refine run_nil ?_
  refine aw_seq ?_
  refine aw_region ?_
  refine run_w (ws_buildSlice (id := 7) (ps := []) rfl rfl (Nat.le_of_ble_eq_true rfl) rfl ⟨rfl, ?_⟩)
  refine run_s (ss_assign rfl) rfl ?_
  refine run_nil ?_
  refine aw_seq ?_
  refine aw_seq ?_
  refine aw_region ?_
  refine run_s (ss_assign rfl) rfl ?_
  refine run_nil ?_
  refine aw_block ?_
  obtain ⟨H1, m1, q1, h⟩ := h
  refine aw_loop2 (fun (v4_1 : Int) (o7_1 : List (List Int)) => ⟨[(7, ⟨orows o7_1, []⟩)], [(0, .c (.lst (rows list))), (3, .ref 7), (4, .c (ci v4_1))], 40⟩) H1 m1 ⟨0, ([] : List (List Int)), ghe_to (n := 40) rfl rfl ⟨rfl, rfl, rfl, trivial⟩, q1⟩ ?_
  rintro v4_1 o7_1 q1
  replace h := h v4_1 o7_1 q1
  refine aw_seq ?_
  refine aw_seq ?_
  refine aw_region ?_
  refine run_s (ss_move rfl) rfl ?_
  refine run_s (ss_move rfl) rfl ?_
  refine run_s (ss_lenL (f := (fun r => C.lst (ints r))) rfl) rfl ?_
  refine run_s (ss_lss rfl rfl) rfl ?_
  refine run_nil ?_
  refine aw_cond rfl (fun q2 => ?_) (fun q2 => ?_)
  ·replace h := h.1 (of_decide_eq_true q2)
   refine aw_skip ?_
   refine aw_seq ?_
   refine aw_block ?_
   refine aw_seq ?_
   refine aw_region ?_
   refine run_w (ws_buildSlice (id := 14) (ps := []) rfl rfl (Nat.le_of_ble_eq_true rfl) rfl ⟨rfl, ?_⟩)
   refine run_s (ss_assign rfl) rfl ?_
   refine run_nil ?_
   refine aw_seq ?_
   refine aw_seq ?_
   refine aw_gh (gh_to (n := 40) (σ' := [(14, ⟨ints ([] : List Int), []⟩), (7, ⟨orows o7_1, []⟩)]) (env' := [(0, .c (.lst (rows list))), (3, .ref 7), (4, .c (ci v4_1)), (5, .ref 14)]) rfl rfl ⟨rfl, rfl, rfl, rfl, trivial⟩) ?_
   refine aw_region ?_
   refine run_s (ss_assign rfl) rfl ?_
   refine run_nil ?_
   refine aw_block ?_
   obtain ⟨H2, m2, q3, h⟩ := h
   refine aw_loop2 (fun (v6_2 : Int) (o14_2 : List Int) => ⟨[(14, ⟨ints o14_2, []⟩), (7, ⟨orows o7_1, []⟩)], [(0, .c (.lst (rows list))), (3, .ref 7), (4, .c (ci v4_1)), (5, .ref 14), (6, .c (ci v6_2))], 40⟩) H2 m2 ⟨0, ([] : List Int), ghe_to (n := 40) rfl rfl ⟨rfl, rfl, rfl, rfl, rfl, trivial⟩, q3⟩ ?_
   rintro v6_2 o14_2 q3
   replace h := h v6_2 o14_2 q3
   refine aw_seq ?_
   refine aw_seq ?_
   refine aw_region ?_
   refine run_s (ss_move rfl) rfl ?_
   refine run_s (ss_move rfl) rfl ?_
   refine run_s (ss_lenL (f := (fun r => C.lst (ints r))) rfl) rfl ?_
   refine run_s (ss_lss rfl rfl) rfl ?_
   refine run_nil ?_
   refine aw_cond rfl (fun q4 => ?_) (fun q4 => ?_)
   ·replace h := h.1 (of_decide_eq_true q4)
    refine aw_skip ?_
    refine aw_seq ?_
    refine aw_block ?_
    refine aw_gh (gh_to (n := 40) (σ' := [(14, ⟨ints o14_2, []⟩), (7, ⟨orows o7_1, []⟩)]) (env' := [(0, .c (.lst (rows list))), (3, .ref 7), (4, .c (ci v4_1)), (5, .ref 14), (6, .c (ci v6_2))]) rfl rfl ⟨rfl, rfl, rfl, rfl, rfl, trivial⟩) ?_
    refine aw_regionD (kd := kdl [0, 0, 0, 0, 0, 1, 0, 0, 0, 1, 2, 2, 2, 2, 0]) (ord := [0, 1, 2, 3, 4, 6, 7, 8, 5, 9, 10, 11, 12, 13, 14]) [14, 33] mixed (by kernel_rfl) ?_
    refine rd_s rfl rfl trivial (ss_move rfl) rfl ?_
    refine rd_s rfl rfl trivial (ss_move rfl) rfl ?_
    refine rd_s rfl rfl trivial (ss_move rfl) rfl ?_
    refine rd_s rfl rfl trivial (ss_move rfl) rfl ?_
    obtain ⟨q5, h⟩ := h
    refine rd_s rfl rfl trivial (ss_idxL rfl rfl q5) rfl ?_
    refine rd_s rfl rfl trivial (ss_move rfl) rfl ?_
    refine rd_s rfl rfl trivial (ss_move rfl) rfl ?_
    obtain ⟨q6, h⟩ := h
    refine rd_s rfl rfl trivial (ss_idxL rfl rfl q6) rfl ?_
    refine rd_l rfl rfl trivial (ss_loadL (f := (fun r => C.lst (ints r))) rfl q5) rfl ?_
    refine rd_l rfl rfl trivial (ss_loadL (f := (fun r => C.lst (ints r))) rfl q6) rfl ?_
    obtain ⟨q7, h⟩ := h
    refine rd_w rfl rfl trivial rfl rfl (ws_call (xs := [.tmp 26, .tmp 30]) (ids := [31]) rfl rfl rfl rfl (c_spec_l04Conjugate (el list v4_1) (el list v6_2) q7) rfl ?_ )
    rintro _ rfl
    refine ⟨rfl, ?_⟩
    obtain ⟨q9, h⟩ := h
    refine rd_w rfl rfl trivial rfl rfl (ws_callR (xs := [.tmp 22, .tmp 31]) (cs := [.lst (rows list), .own (ints (conjI (el list v4_1) (el list v6_2)))]) (ids := []) rfl (.inr ⟨rfl, rfl⟩) rfl rfl (fz_cons rfl (fz_cons (fz_own (fz_map (fun _ => rfl) _)) fz_nil)) (c_spec_l04Find list (conjI (el list v4_1) (el list v6_2)) q9) rfl ?_ )
    rintro _ rfl
    refine ⟨rfl, rfl, ?_⟩
    refine rd_w rfl rfl trivial rfl rfl (ws_buildSlice (id := 33) (ps := [(0, .tmp 32)]) rfl rfl (Nat.le_of_ble_eq_true rfl) rfl ⟨rfl, ?_⟩)
    obtain ⟨q11, h⟩ := h
    refine rd_w rfl rfl trivial rfl rfl (ws_app1 ci (l := o14_2) (m := [idxL list (conjI (el list v4_1) (el list v6_2))]) rfl rfl rfl rfl rfl (Nat.le_of_ble_eq_true rfl) q11 ⟨rfl, ?_⟩)
    refine rd_s rfl rfl trivial (ss_assign rfl) rfl ?_
    refine rd_nil ?_
    refine aw_gh (gh_to (n := 40) (σ' := [(31, ⟨ints (conjI (el list v4_1) (el list v6_2)), []⟩), (14, ⟨ints (o14_2 ++ ([idxL list (conjI (el list v4_1) (el list v6_2))])), []⟩), (7, ⟨orows o7_1, []⟩)]) (env' := [(0, .c (.lst (rows list))), (3, .ref 7), (4, .c (ci v4_1)), (5, .ref 14), (6, .c (ci v6_2))]) rfl rfl ⟨rfl, rfl, rfl, rfl, rfl, trivial⟩) ?_
    refine aw_region ?_
    refine run_s (ss_move rfl) rfl ?_
    obtain ⟨q12, h⟩ := h
    refine run_s (ss_add rfl rfl q12) rfl ?_
    refine run_s (ss_assign rfl) rfl ?_
    refine run_nil ?_
    exact ⟨v6_2 + 1, o14_2 ++ ([idxL list (conjI (el list v4_1) (el list v6_2))]), ghe_step (gh_frzE (id := 31) ci rfl (fun _ => rfl)) (ghe_to (n := 40) rfl rfl ⟨rfl, rfl, rfl, rfl, rfl, trivial⟩), h.1, h.2⟩
   ·replace h := h.2 (of_decide_eq_false q4)
    refine aw_exit ?_
    refine aw_region ?_
    refine run_s (ss_move rfl) rfl ?_
    refine run_s (ss_move rfl) rfl ?_
    refine run_w (ws_buildSlice (id := 37) (ps := [(0, .tmp 36)]) rfl rfl (Nat.le_of_ble_eq_true rfl) rfl ⟨rfl, ?_⟩)
    refine run_gh (gh_fill (id := 37) (id2 := 14) (j := 0) rfl rfl (Nat.le_of_ble_eq_true rfl) rfl rfl rfl) ?_
    obtain ⟨q13, h⟩ := h
    refine run_w (ws_app1 (fun r => C.own (ints r)) (l := o7_1) (m := [o14_2]) rfl rfl rfl rfl rfl (Nat.le_of_ble_eq_true rfl) q13 ⟨rfl, ?_⟩)
    refine run_s (ss_assign rfl) rfl ?_
    refine run_nil ?_
    refine aw_gh (gh_to (n := 40) (σ' := [(7, ⟨orows (o7_1 ++ ([o14_2])), []⟩)]) (env' := [(0, .c (.lst (rows list))), (3, .ref 7), (4, .c (ci v4_1))]) rfl rfl ⟨rfl, rfl, rfl, trivial⟩) ?_
    refine aw_region ?_
    refine run_s (ss_move rfl) rfl ?_
    obtain ⟨q14, h⟩ := h
    refine run_s (ss_add rfl rfl q14) rfl ?_
    refine run_s (ss_assign rfl) rfl ?_
    refine run_nil ?_
    exact ⟨v4_1 + 1, o7_1 ++ ([o14_2]), ghe_to (n := 40) rfl rfl ⟨rfl, rfl, rfl, trivial⟩, h.1, h.2⟩
  ·replace h := h.2 (of_decide_eq_false q2)
   refine aw_exit ?_
   refine aw_seq ?_
   refine aw_gh (gh_to (n := 40) (σ' := [(7, ⟨orows o7_1, []⟩)]) (env' := [(3, .ref 7)]) rfl rfl ⟨rfl, trivial⟩) ?_
   refine aw_region ?_
   refine run_s (ss_move rfl) rfl ?_
   refine run_s (ss_assign rfl) rfl ?_
   refine run_nil ?_
   refine aw_ret ?_
   exact retAF_mk (retv1 rfl (rv_tmp rfl)) rfl rfl ⟨_, (cle_refl _), _, h, rfl⟩

theorem c_spec_l04Conjugation (list : List (List Int)) (hp : GoodL list ∧ (list.length : Int) ≤ 12) : AF Try.prog 45 [.lst (rows list)] (fun R_ => R_ = .own (orows (cjT list))) :=
  (w_spec_l04Conjugation list (fun y0 => y0 = cjT list) (p_spec_l04Conjugation list hp)).mono (by rintro r ⟨_, rfl, rfl⟩; rfl)

set_option maxRecDepth 100000 in
set_option maxHeartbeats 4000000 in
theorem w_impl_ConjugationQuandle_1 (x : Int) (y : Int) (list : List (List Int)) (Q : Int → Prop) (h : wp_impl_ConjugationQuandle_1 x y list Q) : AF Try.prog 41 [ci x, ci y, .ptr [.lst (rows list)]] (fun R_ => ∃ y0, Q y0 ∧ R_ = ci y0) := by
  refine AF.ofWQ (af_enter (n := 17) Try.func41 rfl (by rfl) rfl (Nat.le_of_ble_eq_true rfl) ?_)
  unfold wp_impl_ConjugationQuandle_1 at h
  refine aw_seq ?_
  refine aw_gh (gh_to (n := 17) (σ' := []) (env' := [(0, .c (ci x)), (1, .c (ci y)), (2, .c (.ptr [.lst (rows list)]))]) rfl rfl ⟨rfl, rfl, rfl, trivial⟩) ?_
  refine aw_region ?_
  refine run_s (ss_assign rfl) rfl ?_
  refine run_nil ?_
  refine aw_seq ?_
  refine aw_gh (gh_to (n := 17) (σ' := []) (env' := [(0, .c (ci x)), (1, .c (ci y)), (2, .c (.ptr [.lst (rows list)])), (5, .c (ci 0))]) rfl rfl ⟨rfl, rfl, rfl, rfl, trivial⟩) ?_
  refine aw_regionD (kd := kdl [1, 1, 0, 0, 1, 1, 0, 0, 1, 2, 2, 0]) (ord := [2, 6, 0, 1, 3, 4, 5, 7, 8, 9, 10, 11]) [] mixed (by kernel_rfl) ?_
  refine rd_s rfl rfl trivial (ss_move rfl) rfl ?_
  refine rd_s rfl rfl trivial (ss_move rfl) rfl ?_
  refine rd_l rfl rfl trivial (ss_load_ptr rfl rfl) rfl ?_
  refine rd_l rfl rfl trivial (ss_load_ptr rfl rfl) rfl ?_
  obtain ⟨q1, h⟩ := h
  refine rd_s rfl rfl trivial (ss_idxL rfl rfl q1) rfl ?_
  refine rd_l rfl rfl trivial (ss_loadL (f := (fun r => C.lst (ints r))) rfl q1) rfl ?_
  refine rd_l rfl rfl trivial (ss_load_ptr rfl rfl) rfl ?_
  obtain ⟨q2, h⟩ := h
  refine rd_s rfl rfl trivial (ss_idxL rfl rfl q2) rfl ?_
  refine rd_l rfl rfl trivial (ss_loadL (f := (fun r => C.lst (ints r))) rfl q2) rfl ?_
  obtain ⟨q3, h⟩ := h
  refine rd_w rfl rfl trivial rfl rfl (ws_call (xs := [.tmp 10, .tmp 14]) (ids := [15]) rfl rfl rfl rfl (c_impl_conjugate (el list y) (el list x) q3) rfl ?_ )
  rintro _ rfl
  refine ⟨rfl, ?_⟩
  obtain ⟨q5, h⟩ := h
  refine rd_w rfl rfl trivial rfl rfl (ws_callR (xs := [.tmp 6, .tmp 15]) (cs := [.lst (rows list), .own (ints (conjI (el list x) (el list y)))]) (ids := []) rfl (.inr ⟨rfl, rfl⟩) rfl rfl (fz_cons rfl (fz_cons (fz_own (fz_map (fun _ => rfl) _)) fz_nil)) (c_impl_listIndex list (conjI (el list x) (el list y)) q5) rfl ?_ )
  rintro _ rfl
  refine ⟨rfl, rfl, ?_⟩
  refine rd_s rfl rfl trivial (ss_assign rfl) rfl ?_
  refine rd_nil ?_
  refine aw_ret ?_
  exact retAF_mk (retv1 rfl (rv_tmp rfl)) rfl rfl ⟨_, (cle_refl _), _, h, rfl⟩

theorem c_impl_ConjugationQuandle_1 (x : Int) (y : Int) (list : List (List Int)) (hp : GoodL list ∧ (list.length : Int) ≤ 12 ∧ 0 ≤ x ∧ x < (list.length : Int) ∧ 0 ≤ y ∧ y < (list.length : Int)) : AF Try.prog 41 [ci x, ci y, .ptr [.lst (rows list)]] (fun R_ => R_ = ci (cjV list x y)) :=
  (w_impl_ConjugationQuandle_1 x y list (fun y0 => y0 = cjV list x y) (p_impl_ConjugationQuandle_1 x y list hp)).mono (by rintro r ⟨_, rfl, rfl⟩; rfl)

set_option maxRecDepth 100000 in
set_option maxHeartbeats 4000000 in
theorem w_spec_ConjugationQuandle (list : List (List Int)) (Q : List (List Int) → Int → Prop) (h : wp_spec_ConjugationQuandle list Q) : AF Try.prog 9 [.lst (rows list)] (fun R_ => ∃ y0 y1, Q y0 y1 ∧ R_ = .tup [.agg [.own (orows y0)], ci y1]) := by
  refine AF.ofWQ (af_enter (n := 24) Try.func9 rfl (by rfl) rfl (Nat.le_of_ble_eq_true rfl) ?_)
  unfold wp_spec_ConjugationQuandle at h
  refine aw_seq ?_
  refine aw_gh (gh_to (n := 24) (σ' := []) (env' := [(0, .c (.lst (rows list)))]) rfl rfl ⟨rfl, trivial⟩) ?_
  refine aw_region ?_
  refine run_w (ws_alloc (id := 2) rfl (Nat.le_of_ble_eq_true rfl) ⟨rfl, ?_⟩)
  refine run_s (ss_assign rfl) rfl ?_
  refine run_nil ?_
  refine aw_seq ?_
  refine aw_block ?_
  refine aw_seq ?_
  refine aw_region ?_
  refine run_s (ss_move rfl) rfl ?_
  obtain ⟨q1, h⟩ := h
  refine run_w (ws_call (xs := [.tmp 6]) (ids := []) rfl rfl rfl rfl (c_spec_l04List list q1) rfl ?_ )
  rintro _ rfl
  refine ⟨rfl, ?_⟩
  refine run_s (ss_not rfl) rfl ?_
  refine run_s (ss_assign rfl) rfl ?_
  refine run_nil ?_
  refine aw_cond rfl (fun q3 => ?_) (fun q3 => ?_)
  ·replace h := h.1 ((bnot_t q3))
   refine aw_seq ?_
   refine aw_gh (gh_to (n := 24) (σ' := [(2, ⟨[cnil], []⟩)]) (env' := [(2, .cell 2 0), (3, .c (ci 0))]) rfl rfl ⟨rfl, rfl, trivial⟩) ?_
   refine aw_region ?_
   refine run_s (ss_build0) rfl ?_
   refine run_w (ws_storeS rfl rfl (Nat.le_of_ble_eq_true rfl) rfl rfl rfl ⟨rfl, ?_⟩)
   refine run_s (ss_assign rfl) rfl ?_
   refine run_nil ?_
   refine aw_ret ?_
   exact retAF_mk (retv2 rfl (rv_struct rfl rfl rfl) (rv_tmp rfl)) rfl rfl ⟨_, (cle_tup (cleL_cons (cle_agg (cleL_cons cle_nilO cleL_nil)) (cleL_cons (cle_refl _) cleL_nil))), _, _, h, rfl⟩
  ·replace h := h.2 ((bnot_f q3))
   refine aw_seq ?_
   refine aw_region ?_
   refine run_s (ss_move rfl) rfl ?_
   refine run_s (ss_lenL (f := (fun r => C.lst (ints r))) rfl) rfl ?_
   refine run_s (ss_gtr rfl rfl) rfl ?_
   refine run_s (ss_assign rfl) rfl ?_
   refine run_nil ?_
   refine aw_cond rfl (fun q4 => ?_) (fun q4 => ?_)
   ·replace h := h.1 (of_decide_eq_true q4)
    refine aw_seq ?_
    refine aw_gh (gh_to (n := 24) (σ' := [(2, ⟨[cnil], []⟩)]) (env' := [(2, .cell 2 0), (3, .c (ci 0))]) rfl rfl ⟨rfl, rfl, trivial⟩) ?_
    refine aw_region ?_
    refine run_s (ss_build0) rfl ?_
    refine run_w (ws_storeS rfl rfl (Nat.le_of_ble_eq_true rfl) rfl rfl rfl ⟨rfl, ?_⟩)
    refine run_s (ss_assign rfl) rfl ?_
    refine run_nil ?_
    refine aw_ret ?_
    exact retAF_mk (retv2 rfl (rv_struct rfl rfl rfl) (rv_tmp rfl)) rfl rfl ⟨_, (cle_tup (cleL_cons (cle_agg (cleL_cons cle_nilO cleL_nil)) (cleL_cons (cle_refl _) cleL_nil))), _, _, h, rfl⟩
   ·replace h := h.2 (of_decide_eq_false q4)
    refine aw_skip ?_
    refine aw_seq ?_
    refine aw_gh (gh_to (n := 24) (σ' := [(2, ⟨[cnil], []⟩)]) (env' := [(0, .c (.lst (rows list))), (2, .cell 2 0)]) rfl rfl ⟨rfl, rfl, trivial⟩) ?_
    refine aw_region ?_
    refine run_s (ss_move rfl) rfl ?_
    obtain ⟨q5, h⟩ := h
    refine run_w (ws_call (xs := [.tmp 15]) (ids := [16]) rfl rfl rfl rfl (c_spec_l04Conjugation list q5) rfl ?_ )
    rintro _ rfl
    refine ⟨rfl, ?_⟩
    refine run_s (ss_build (ps := [(0, .tmp 16)]) rfl rfl) rfl ?_
    refine run_w (ws_alloc (id := 4) rfl (Nat.le_of_ble_eq_true rfl) ⟨rfl, ?_⟩)
    refine run_w (ws_storeS rfl rfl (Nat.le_of_ble_eq_true rfl) rfl rfl rfl ⟨rfl, ?_⟩)
    refine run_nil ?_
    refine aw_seq ?_
    refine aw_seq ?_
    refine aw_region ?_
    refine run_s (ss_field_cell rfl) rfl ?_
    refine run_s (ss_loadH rfl rfl rfl rfl) rfl ?_
    obtain ⟨q7, h⟩ := h
    refine run_w (ws_callR (xs := [.tmp 19]) (cs := [.own (orows (cjT list))]) (ids := []) rfl (.inr ⟨rfl, rfl⟩) rfl rfl (fz_cons (fz_own (fz_map (fun _ => (fz_own (fz_map (fun _ => rfl) _))) _)) fz_nil) (c_spec_l01Table (cjT list) q7) rfl ?_ )
    rintro _ rfl
    refine ⟨rfl, rfl, ?_⟩
    refine run_s (ss_not rfl) rfl ?_
    refine run_nil ?_
    refine aw_cond rfl (fun q9 => ?_) (fun q9 => ?_)
    ·replace h := h.1 ((bnot_t q9))
     refine aw_seq ?_
     refine aw_gh (gh_to (n := 24) (σ' := [(4, ⟨[.hole], [(0, .ref 16)]⟩), (16, ⟨orows (cjT list), []⟩), (2, ⟨[cnil], []⟩)]) (env' := [(2, .cell 2 0)]) rfl rfl ⟨rfl, trivial⟩) ?_
     refine aw_region ?_
     refine run_s (ss_build0) rfl ?_
     refine run_w (ws_storeS rfl rfl (Nat.le_of_ble_eq_true rfl) rfl rfl rfl ⟨rfl, ?_⟩)
     refine run_s (ss_assign rfl) rfl ?_
     refine run_nil ?_
     refine aw_ret ?_
     exact retAF_mk (retv2 rfl (rv_struct rfl rfl rfl) (rv_tmp rfl)) rfl rfl ⟨_, (cle_tup (cleL_cons (cle_agg (cleL_cons cle_nilO cleL_nil)) (cleL_cons (cle_refl _) cleL_nil))), _, _, h, rfl⟩
    ·replace h := h.2 ((bnot_f q9))
     refine aw_skip ?_
     refine aw_seq ?_
     refine aw_gh (gh_to (n := 24) (σ' := [(4, ⟨[.hole], [(0, .ref 16)]⟩), (16, ⟨orows (cjT list), []⟩), (2, ⟨[cnil], []⟩)]) (env' := [(2, .cell 2 0), (4, .cell 4 0)]) rfl rfl ⟨rfl, rfl, trivial⟩) ?_
     refine aw_region ?_
     refine run_s (ss_loadS rfl rfl rfl rfl) rfl ?_
     refine run_w (ws_storeS rfl rfl (Nat.le_of_ble_eq_true rfl) rfl rfl rfl ⟨rfl, ?_⟩)
     refine run_s (ss_assign rfl) rfl ?_
     refine run_nil ?_
     refine aw_ret ?_
     exact retAF_mk (retv2 rfl (rv_struct rfl rfl rfl) (rv_tmp rfl)) rfl rfl ⟨_, (cle_refl _), _, _, h, rfl⟩

theorem c_spec_ConjugationQuandle (list : List (List Int)) (hp : small2 list) : AF Try.prog 9 [.lst (rows list)] (fun R_ => R_ = .tup [.agg [.own (orows (CjqT list))], ci (CjqE list)]) :=
  (w_spec_ConjugationQuandle list (fun y0 y1 => y0 = CjqT list ∧ y1 = CjqE list) (p_spec_ConjugationQuandle list hp)).mono (by rintro r ⟨_, _, ⟨rfl, rfl⟩, rfl⟩; rfl)

set_option maxRecDepth 100000 in
set_option maxHeartbeats 4000000 in
theorem w_impl_ConjugationQuandle (list : List (List Int)) (Q : List (List Int) → Int → Prop) (h : wp_impl_ConjugationQuandle list Q) : AF Try.prog 8 [.lst (rows list)] (fun R_ => ∃ y0 y1, Q y0 y1 ∧ R_ = .tup [.agg [.own (orows y0)], ci y1]) := by
  refine AF.ofWQ (af_enter (n := 54) Try.func8 rfl (by rfl) rfl (Nat.le_of_ble_eq_true rfl) ?_)
  unfold wp_impl_ConjugationQuandle at h
  refine aw_seq ?_
  refine aw_gh (gh_to (n := 54) (σ' := []) (env' := [(0, .c (.lst (rows list)))]) rfl rfl ⟨rfl, trivial⟩) ?_
  refine aw_region ?_
  refine run_w (ws_boxR rfl (.inr rfl) rfl ⟨rfl, ?_⟩)
  refine run_w (ws_alloc (id := 2) rfl (Nat.le_of_ble_eq_true rfl) ⟨rfl, ?_⟩)
  refine run_s (ss_assign rfl) rfl ?_
  refine run_nil ?_
  refine aw_seq ?_
  refine aw_seq ?_
  refine aw_region ?_
  refine run_s (ss_load_ptr rfl rfl) rfl ?_
  refine run_s (ss_lenL (f := (fun r => C.lst (ints r))) rfl) rfl ?_
  refine run_s (ss_eql rfl rfl) rfl ?_
  refine run_nil ?_
  refine aw_cond rfl (fun q1 => ?_) (fun q1 => ?_)
  ·replace h := h.1 (of_decide_eq_true q1)
   refine aw_seq ?_
   refine aw_gh (gh_to (n := 54) (σ' := [(2, ⟨[cnil], []⟩)]) (env' := [(2, .cell 2 0), (3, .c (ci 0))]) rfl rfl ⟨rfl, rfl, trivial⟩) ?_
   refine aw_region ?_
   refine run_s (ss_build0) rfl ?_
   refine run_w (ws_storeS rfl rfl (Nat.le_of_ble_eq_true rfl) rfl rfl rfl ⟨rfl, ?_⟩)
   refine run_s (ss_assign rfl) rfl ?_
   refine run_nil ?_
   refine aw_ret ?_
   exact retAF_mk (retv2 rfl (rv_struct rfl rfl rfl) (rv_tmp rfl)) rfl rfl ⟨_, (cle_tup (cleL_cons (cle_agg (cleL_cons cle_nilO cleL_nil)) (cleL_cons (cle_refl _) cleL_nil))), _, _, h, rfl⟩
  ·replace h := h.2 (of_decide_eq_false q1)
   refine aw_skip ?_
   refine aw_seq ?_
   refine aw_seq ?_
   refine aw_region ?_
   refine run_s (ss_load_ptr rfl rfl) rfl ?_
   refine run_s (ss_lenL (f := (fun r => C.lst (ints r))) rfl) rfl ?_
   refine run_s (ss_move rfl) rfl ?_
   refine run_nil ?_
   refine aw_block ?_
   obtain ⟨H1, m1, q2, h⟩ := h
   refine aw_loop1 (fun (v13_1 : Int) => ⟨[(2, ⟨[cnil], []⟩)], [(1, .c (.ptr [.lst (rows list)])), (2, .cell 2 0), (11, .c (.lst (rows list))), (12, .c (ci (list.length : Int))), (13, .c (ci v13_1))], 54⟩) H1 m1 ⟨0, ghe_to (n := 54) rfl rfl ⟨rfl, rfl, rfl, rfl, rfl, trivial⟩, q2⟩ ?_
   rintro v13_1 q2
   replace h := h v13_1 q2
   refine aw_seq ?_
   refine aw_region ?_
   refine run_s (ss_lss rfl rfl) rfl ?_
   refine run_nil ?_
   refine aw_seq ?_
   refine aw_cond rfl (fun q3 => ?_) (fun q3 => ?_)
   ·replace h := h.1 (of_decide_eq_true q3)
    refine aw_skip ?_
    refine aw_seq ?_
    refine aw_block ?_
    refine aw_seq ?_
    refine aw_region ?_
    refine run_s (ss_move rfl) rfl ?_
    obtain ⟨q4, h⟩ := h
    refine run_s (ss_idxL rfl rfl q4) rfl ?_
    refine run_s (ss_loadL (f := (fun r => C.lst (ints r))) rfl q4) rfl ?_
    refine run_s (ss_assign rfl) rfl ?_
    refine run_s (ss_assign rfl) rfl ?_
    refine run_nil ?_
    refine aw_seq ?_
    refine aw_region ?_
    refine run_s (ss_move rfl) rfl ?_
    obtain ⟨q5, h⟩ := h
    refine run_w (ws_call (xs := [.tmp 18]) (ids := []) rfl rfl rfl rfl (c_impl_IsPermutation (el list v13_1) q5) rfl ?_ )
    rintro _ rfl
    refine ⟨rfl, ?_⟩
    refine run_s (ss_not rfl) rfl ?_
    refine run_s (ss_move rfl) rfl ?_
    refine run_split (s := 21) rfl (fun q7 => ?_) (fun q7 => ?_)
    ·replace h := h.1 ((bnot_t q7))
     refine run_gf rfl rfl q7 rfl ?_
     refine run_gf rfl rfl q7 rfl ?_
     refine run_gf rfl rfl q7 rfl ?_
     refine run_gf rfl rfl q7 rfl ?_
     refine run_gf rfl rfl q7 rfl ?_
     refine run_gf rfl rfl q7 rfl ?_
     refine run_gf rfl rfl q7 rfl ?_
     refine run_s (ss_pickT rfl q7 rfl) rfl ?_
     refine run_s (ss_move rfl) rfl ?_
     refine run_split (s := 30) rfl (fun q8 => ?_) (fun q8 => ?_)
     ·skip
      refine run_gf rfl rfl q8 rfl ?_
      refine run_gf rfl rfl q8 rfl ?_
      refine run_gf rfl rfl q8 rfl ?_
      refine run_gf rfl rfl q8 rfl ?_
      refine run_gf rfl rfl q8 rfl ?_
      refine run_gf rfl rfl q8 rfl ?_
      refine run_s (ss_pickT rfl q8 rfl) rfl ?_
      refine run_nil ?_
      refine aw_cond rfl (fun q9 => ?_) (fun q9 => ?_)
      ·skip
       refine aw_seq ?_
       refine aw_gh (gh_to (n := 54) (σ' := [(2, ⟨[cnil], []⟩)]) (env' := [(2, .cell 2 0)]) rfl rfl ⟨rfl, trivial⟩) ?_
       refine aw_region ?_
       refine run_s (ss_build0) rfl ?_
       refine run_w (ws_storeS rfl rfl (Nat.le_of_ble_eq_true rfl) rfl rfl rfl ⟨rfl, ?_⟩)
       refine run_s (ss_assign rfl) rfl ?_
       refine run_nil ?_
       refine aw_ret ?_
       exact retAF_mk (retv2 rfl (rv_struct rfl rfl rfl) (rv_tmp rfl)) rfl rfl ⟨_, (cle_tup (cleL_cons (cle_agg (cleL_cons cle_nilO cleL_nil)) (cleL_cons (cle_refl _) cleL_nil))), _, _, h, rfl⟩
      ·cases q9
     ·cases q8
    ·replace h := h.2 ((bnot_f q7))
     refine run_gt rfl rfl q7 ?_
     refine run_s (ss_move rfl) rfl ?_
     refine run_gt rfl rfl q7 ?_
     refine run_s (ss_lenL (f := ci) rfl) rfl ?_
     refine run_gt rfl rfl q7 ?_
     refine run_s (ss_load_ptr rfl rfl) rfl ?_
     refine run_gt rfl rfl q7 ?_
     obtain ⟨q10, h⟩ := h
     refine run_s (ss_idxL rfl rfl q10) rfl ?_
     refine run_gt rfl rfl q7 ?_
     refine run_s (ss_loadL (f := (fun r => C.lst (ints r))) rfl q10) rfl ?_
     refine run_gt rfl rfl q7 ?_
     refine run_s (ss_lenL (f := ci) rfl) rfl ?_
     refine run_gt rfl rfl q7 ?_
     refine run_s (ss_neq rfl rfl) rfl ?_
     refine run_s (ss_pickF rfl q7 rfl) rfl ?_
     refine run_s (ss_move rfl) rfl ?_
     refine run_split (s := 30) rfl (fun q11 => ?_) (fun q11 => ?_)
     ·replace h := h.1 (of_decide_eq_false (bnot_t q11))
      refine run_gf rfl rfl q11 rfl ?_
      refine run_gf rfl rfl q11 rfl ?_
      refine run_gf rfl rfl q11 rfl ?_
      refine run_gf rfl rfl q11 rfl ?_
      refine run_gf rfl rfl q11 rfl ?_
      refine run_gf rfl rfl q11 rfl ?_
      refine run_s (ss_pickT rfl q11 rfl) rfl ?_
      refine run_nil ?_
      refine aw_cond rfl (fun q12 => ?_) (fun q12 => ?_)
      ·skip
       refine aw_seq ?_
       refine aw_gh (gh_to (n := 54) (σ' := [(2, ⟨[cnil], []⟩)]) (env' := [(2, .cell 2 0)]) rfl rfl ⟨rfl, trivial⟩) ?_
       refine aw_region ?_
       refine run_s (ss_build0) rfl ?_
       refine run_w (ws_storeS rfl rfl (Nat.le_of_ble_eq_true rfl) rfl rfl rfl ⟨rfl, ?_⟩)
       refine run_s (ss_assign rfl) rfl ?_
       refine run_nil ?_
       refine aw_ret ?_
       exact retAF_mk (retv2 rfl (rv_struct rfl rfl rfl) (rv_tmp rfl)) rfl rfl ⟨_, (cle_tup (cleL_cons (cle_agg (cleL_cons cle_nilO cleL_nil)) (cleL_cons (cle_refl _) cleL_nil))), _, _, h, rfl⟩
      ·cases q12
     ·replace h := h.2 (of_decide_eq_true (bnot_f q11))
      refine run_gt rfl rfl q11 ?_
      refine run_s (ss_load_ptr rfl rfl) rfl ?_
      refine run_gt rfl rfl q11 ?_
      refine run_s (ss_move rfl) rfl ?_
      refine run_gt rfl rfl q11 ?_
      obtain ⟨q13, h⟩ := h
      refine run_s (ss_slL (f := (fun r => C.lst (ints r))) rfl rfl ⟨_, rfl⟩ q13) rfl ?_
      refine run_gt rfl rfl q11 ?_
      refine run_s (ss_move rfl) rfl ?_
      refine run_gt rfl rfl q11 ?_
      obtain ⟨q14, h⟩ := h
      refine run_w (ws_call (xs := [.tmp 33, .tmp 34]) (ids := []) rfl rfl rfl rfl (c_impl_listIndex (sl list 0 v13_1) (el list v13_1) q14) rfl ?_ )
      rintro _ rfl
      refine ⟨rfl, ?_⟩
      refine run_gt rfl rfl q11 ?_
      refine run_s (ss_geq rfl rfl) rfl ?_
      refine run_s (ss_pickF rfl q11 rfl) rfl ?_
      refine run_nil ?_
      refine aw_cond rfl (fun q16 => ?_) (fun q16 => ?_)
      ·replace h := h.1 (of_decide_eq_true q16)
       refine aw_seq ?_
       refine aw_gh (gh_to (n := 54) (σ' := [(2, ⟨[cnil], []⟩)]) (env' := [(2, .cell 2 0)]) rfl rfl ⟨rfl, trivial⟩) ?_
       refine aw_region ?_
       refine run_s (ss_build0) rfl ?_
       refine run_w (ws_storeS rfl rfl (Nat.le_of_ble_eq_true rfl) rfl rfl rfl ⟨rfl, ?_⟩)
       refine run_s (ss_assign rfl) rfl ?_
       refine run_nil ?_
       refine aw_ret ?_
       exact retAF_mk (retv2 rfl (rv_struct rfl rfl rfl) (rv_tmp rfl)) rfl rfl ⟨_, (cle_tup (cleL_cons (cle_agg (cleL_cons cle_nilO cleL_nil)) (cleL_cons (cle_refl _) cleL_nil))), _, _, h, rfl⟩
      ·replace h := h.2 (of_decide_eq_false q16)
       refine aw_skip ?_
       refine aw_gh (gh_to (n := 54) (σ' := [(2, ⟨[cnil], []⟩)]) (env' := [(1, .c (.ptr [.lst (rows list)])), (2, .cell 2 0), (11, .c (.lst (rows list))), (12, .c (ci (list.length : Int))), (13, .c (ci v13_1)), (22, .c (.lst (ints (el list v13_1)))), (23, .c (ci ((el list v13_1).length : Int))), (24, .c (.lst (rows list))), (25, .c (.ptr ((rows list).drop (0 : Int).toNat))), (26, .c (.lst (ints (el list 0)))), (27, .c (ci ((el list 0).length : Int))), (28, .c (cb (!(decide (((el list v13_1).length : Int) = ((el list 0).length : Int)))))), (31, .c (.lst (rows list))), (32, .c (ci v13_1)), (33, .c (.lst (rows (sl list 0 v13_1)))), (34, .c (.lst (ints (el list v13_1)))), (35, .c (ci (idxL (sl list 0 v13_1) (el list v13_1)))), (36, .c (cb (decide (0 ≤ idxL (sl list 0 v13_1) (el list v13_1)))))]) rfl rfl ⟨rfl, rfl, rfl, rfl, rfl, rfl, rfl, rfl, rfl, rfl, rfl, rfl, rfl, rfl, rfl, rfl, rfl, rfl, trivial⟩) ?_
       refine aw_region ?_
       obtain ⟨q17, h⟩ := h
       refine run_s (ss_add rfl rfl q17) rfl ?_
       refine run_s (ss_move rfl) rfl ?_
       refine run_nil ?_
       exact ⟨v13_1 + 1, ghe_to (n := 54) rfl rfl ⟨rfl, rfl, rfl, rfl, rfl, trivial⟩, h.1, h.2⟩
   ·replace h := h.2 (of_decide_eq_false q3)
    refine aw_exit ?_
    refine aw_seq ?_
    refine aw_seq ?_
    refine aw_region ?_
    refine run_s (ss_load_ptr rfl rfl) rfl ?_
    refine run_s (ss_lenL (f := (fun r => C.lst (ints r))) rfl) rfl ?_
    refine run_s (ss_gtr rfl rfl) rfl ?_
    refine run_nil ?_
    refine aw_cond rfl (fun q18 => ?_) (fun q18 => ?_)
    ·replace h := h.1 (of_decide_eq_true q18)
     refine aw_seq ?_
     refine aw_gh (gh_to (n := 54) (σ' := [(2, ⟨[cnil], []⟩)]) (env' := [(2, .cell 2 0)]) rfl rfl ⟨rfl, trivial⟩) ?_
     refine aw_region ?_
     refine run_s (ss_build0) rfl ?_
     refine run_w (ws_storeS rfl rfl (Nat.le_of_ble_eq_true rfl) rfl rfl rfl ⟨rfl, ?_⟩)
     refine run_s (ss_assign rfl) rfl ?_
     refine run_nil ?_
     refine aw_ret ?_
     exact retAF_mk (retv2 rfl (rv_struct rfl rfl rfl) (rv_tmp rfl)) rfl rfl ⟨_, (cle_tup (cleL_cons (cle_agg (cleL_cons cle_nilO cleL_nil)) (cleL_cons (cle_refl _) cleL_nil))), _, _, h, rfl⟩
    ·replace h := h.2 (of_decide_eq_false q18)
     refine aw_skip ?_
     refine aw_seq ?_
     refine aw_region ?_
     refine run_s (ss_load_ptr rfl rfl) rfl ?_
     refine run_s (ss_lenL (f := (fun r => C.lst (ints r))) rfl) rfl ?_
     refine run_s (ss_makeFunc (os := [.tmp 1]) rfl) rfl ?_
     obtain ⟨q19, h⟩ := h
     refine run_w (ws_call (xs := [.tmp 45, .tmp 46]) (ids := [47]) rfl rfl rfl rfl (c_impl_rackBy (list.length : Int) 41 [.ptr [.lst (rows list)]] (fun z0 z1 => cjV list z0 z1) (fun z0 z1 => GoodL list ∧ (list.length : Int) ≤ 12 ∧ 0 ≤ z0 ∧ z0 < (list.length : Int) ∧ 0 ≤ z1 ∧ z1 < (list.length : Int)) (fun z0 z1 hD => c_impl_ConjugationQuandle_1 z0 z1 list hD) q19) rfl ?_ )
     rintro _ rfl
     refine ⟨rfl, ?_⟩
     refine run_w (ws_alloc (id := 6) rfl (Nat.le_of_ble_eq_true rfl) ⟨rfl, ?_⟩)
     refine run_w (ws_storeS rfl rfl (Nat.le_of_ble_eq_true rfl) rfl rfl rfl ⟨rfl, ?_⟩)
     refine run_nil ?_
     refine aw_seq ?_
     refine aw_seq ?_
     refine aw_gh (gh_to (n := 54) (σ' := [(6, ⟨[.hole], [(0, .ref 47)]⟩), (47, ⟨orows (tab (list.length : Int) (fun z0 z1 => cjV list z0 z1)), []⟩), (2, ⟨[cnil], []⟩)]) (env' := [(2, .cell 2 0), (6, .cell 6 0)]) rfl rfl ⟨rfl, rfl, trivial⟩) ?_
     refine aw_region ?_
     refine run_s (ss_field_cell rfl) rfl ?_
     refine run_s (ss_loadH rfl rfl rfl rfl) rfl ?_
     obtain ⟨q21, h⟩ := h
     refine run_w (ws_callR (xs := [.tmp 49]) (cs := [.own (orows (tab (list.length : Int) (fun z0 z1 => cjV list z0 z1)))]) (ids := []) rfl (.inr ⟨rfl, rfl⟩) rfl rfl (fz_cons (fz_own (fz_map (fun _ => (fz_own (fz_map (fun _ => rfl) _))) _)) fz_nil) (c_impl_IsTable (tab (list.length : Int) (fun z0 z1 => cjV list z0 z1)) q21) rfl ?_ )
     rintro _ rfl
     refine ⟨rfl, rfl, ?_⟩
     refine run_s (ss_not rfl) rfl ?_
     refine run_nil ?_
     refine aw_cond rfl (fun q23 => ?_) (fun q23 => ?_)
     ·replace h := h.1 ((bnot_t q23))
      refine aw_seq ?_
      refine aw_gh (gh_to (n := 54) (σ' := [(6, ⟨[.hole], [(0, .ref 47)]⟩), (47, ⟨orows (tab (list.length : Int) (fun z0 z1 => cjV list z0 z1)), []⟩), (2, ⟨[cnil], []⟩)]) (env' := [(2, .cell 2 0)]) rfl rfl ⟨rfl, trivial⟩) ?_
      refine aw_region ?_
      refine run_s (ss_build0) rfl ?_
      refine run_w (ws_storeS rfl rfl (Nat.le_of_ble_eq_true rfl) rfl rfl rfl ⟨rfl, ?_⟩)
      refine run_s (ss_assign rfl) rfl ?_
      refine run_nil ?_
      refine aw_ret ?_
      exact retAF_mk (retv2 rfl (rv_struct rfl rfl rfl) (rv_tmp rfl)) rfl rfl ⟨_, (cle_tup (cleL_cons (cle_agg (cleL_cons cle_nilO cleL_nil)) (cleL_cons (cle_refl _) cleL_nil))), _, _, h, rfl⟩
     ·replace h := h.2 ((bnot_f q23))
      refine aw_skip ?_
      refine aw_seq ?_
      refine aw_region ?_
      refine run_s (ss_loadS rfl rfl rfl rfl) rfl ?_
      refine run_w (ws_storeS rfl rfl (Nat.le_of_ble_eq_true rfl) rfl rfl rfl ⟨rfl, ?_⟩)
      refine run_s (ss_assign rfl) rfl ?_
      refine run_nil ?_
      refine aw_ret ?_
      exact retAF_mk (retv2 rfl (rv_struct rfl rfl rfl) (rv_tmp rfl)) rfl rfl ⟨_, (cle_refl _), _, _, h, rfl⟩

theorem c_impl_ConjugationQuandle (list : List (List Int)) (hp : small2 list) : AF Try.prog 8 [.lst (rows list)] (fun R_ => R_ = .tup [.agg [.own (orows (CjqT list))], ci (CjqE list)]) :=
  (w_impl_ConjugationQuandle list (fun y0 y1 => y0 = CjqT list ∧ y1 = CjqE list) (p_impl_ConjugationQuandle list hp)).mono (by rintro r ⟨_, _, ⟨rfl, rfl⟩, rfl⟩; rfl)

structure SI (r : List (List Int)) (l s : List Int) : Prop where
  nd : s.Nodup
  sc : ∀ z ∈ s, Sc r l z
  sup : ∀ z ∈ l, z ∈ s
theorem SI.app {r : List (List Int)} {l s : List Int} {z : Int} (h : SI r l s) (hz : z ∉ s) (hs : Sc r l z) : SI r l (s ++ [z]) :=
  ⟨List.nodup_append.2 ⟨h.nd, by simp, fun a ha b hb e => by obtain rfl := List.mem_singleton.1 hb; exact hz (e ▸ ha)⟩, fun a ha => by
    rcases List.mem_append.1 ha with ha | ha
    · exact h.sc a ha
    · rw [List.mem_singleton.1 ha]; exact hs, fun a ha => List.mem_append_left _ (h.sup a ha)⟩
end Go.Proofs.Ytggeeemecgmhiaa

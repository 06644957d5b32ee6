/- Contracts of functions that the law FnRackQuotients reaches: conditions, plain proofs, walks; no condition. -/
import Derived.Test.YtbodlnpmplcaoaaKRackQuotientsc
import Derived.Test.YtbodlnpmplcaoaaPh
namespace Go.Proofs.Ytbodlnpmplcaoaa

def wp_impl_congruenceFrom_1 (a : Int) (b : Int) (labels : List Int) (Q : Bool → List Int → Prop) : Prop :=
 (0 ≤ a ∧ a < (labels.length : Int)) ∧
 (0 ≤ b ∧ b < (labels.length : Int)) ∧
 (0 ≤ a ∧ a < (labels.length : Int)) ∧
 (0 ≤ b ∧ b < (labels.length : Int)) ∧
 ∃ (H1 : Int → List Int → Prop) (m1 : Int → List Int → Nat),
 H1 0 labels ∧
 ∀ (v30_1 : Int) (o1001_1 : List Int), H1 v30_1 o1001_1 →
 ( ((v30_1 < (labels.length : Int) →
 (0 ≤ v30_1 ∧ v30_1 < (o1001_1.length : Int)) ∧
 ((el o1001_1 v30_1 = (if el labels a < el labels b then el labels b else el labels a) →
 (0 ≤ v30_1 ∧ v30_1 < (o1001_1.length : Int)) ∧
 (InI (v30_1 + 1)) ∧
 (H1 (v30_1 + 1) (se o1001_1 v30_1 (if el labels b < el labels a then el labels b else el labels a)) ∧ m1 (v30_1 + 1) (se o1001_1 v30_1 (if el labels b < el labels a then el labels b else el labels a)) < m1 v30_1 o1001_1)) ∧
 (¬ (el o1001_1 v30_1 = (if el labels a < el labels b then el labels b else el labels a)) →
 (InI (v30_1 + 1)) ∧
 (H1 (v30_1 + 1) o1001_1 ∧ m1 (v30_1 + 1) o1001_1 < m1 v30_1 o1001_1)))) ∧
 (¬ (v30_1 < (labels.length : Int)) →
 Q (!(decide ((if el labels a < el labels b then el labels b else el labels a) = (if el labels b < el labels a then el labels b else el labels a)))) o1001_1)))

def wp_impl_numbered (labels : List Int) (Q : List Int → Prop) : Prop :=
 (0 ≤ (labels.length : Int) ∧ (labels.length : Int) ≤ 1000000000) ∧
 ∃ (H1 : Int → List Int → List Int → Prop) (m1 : Int → List Int → List Int → Nat),
 H1 0 (List.replicate (labels.length : Int).toNat (0 : Int)) ([] : List Int) ∧
 ∀ (v13_1 : Int) (o10_1 : List Int) (o100003_1 : List Int), H1 v13_1 o10_1 o100003_1 →
 ( ((v13_1 < (labels.length : Int) →
 (0 ≤ v13_1 ∧ v13_1 < (labels.length : Int)) ∧
 (small o100003_1) ∧
 ((idxI o100003_1 (el labels v13_1) < 0 →
 ((o100003_1.length : Int) + (([el labels v13_1]).length : Int) ≤ 1000000000) ∧
 (0 ≤ v13_1 ∧ v13_1 < (o10_1.length : Int)) ∧
 (InI (v13_1 + 1)) ∧
 (H1 (v13_1 + 1) (se o10_1 v13_1 (o100003_1.length : Int)) (o100003_1 ++ ([el labels v13_1])) ∧ m1 (v13_1 + 1) (se o10_1 v13_1 (o100003_1.length : Int)) (o100003_1 ++ ([el labels v13_1])) < m1 v13_1 o10_1 o100003_1)) ∧
 (¬ (idxI o100003_1 (el labels v13_1) < 0) →
 (0 ≤ v13_1 ∧ v13_1 < (o10_1.length : Int)) ∧
 (InI (v13_1 + 1)) ∧
 (H1 (v13_1 + 1) (se o10_1 v13_1 (idxI o100003_1 (el labels v13_1))) o100003_1 ∧ m1 (v13_1 + 1) (se o10_1 v13_1 (idxI o100003_1 (el labels v13_1))) o100003_1 < m1 v13_1 o10_1 o100003_1)))) ∧
 (¬ (v13_1 < (labels.length : Int)) →
 Q o10_1)))

def wp_spec_l04Numbered (list : List Int) (Q : List Int → Prop) : Prop :=
 ∃ (H1 : Int → List Int → List Int → Prop) (m1 : Int → List Int → List Int → Nat),
 H1 0 ([] : List Int) ([] : List Int) ∧
 ∀ (v5_1 : Int) (o6_1 : List Int) (o7_1 : List Int), H1 v5_1 o6_1 o7_1 →
 ( ((v5_1 < (list.length : Int) →
 (0 ≤ v5_1 ∧ v5_1 < (list.length : Int)) ∧
 (small o7_1) ∧
 (((o7_1.contains (el list v5_1)) = false →
 (0 ≤ v5_1 ∧ v5_1 < (list.length : Int)) ∧
 ((o7_1.length : Int) + (([el list v5_1]).length : Int) ≤ 1000000000) ∧
 (0 ≤ v5_1 ∧ v5_1 < (list.length : Int)) ∧
 (small (o7_1 ++ ([el list v5_1]))) ∧
 ((o6_1.length : Int) + (([idxI (o7_1 ++ ([el list v5_1])) (el list v5_1)]).length : Int) ≤ 1000000000) ∧
 (InI (v5_1 + 1)) ∧
 (H1 (v5_1 + 1) (o6_1 ++ ([idxI (o7_1 ++ ([el list v5_1])) (el list v5_1)])) (o7_1 ++ ([el list v5_1])) ∧ m1 (v5_1 + 1) (o6_1 ++ ([idxI (o7_1 ++ ([el list v5_1])) (el list v5_1)])) (o7_1 ++ ([el list v5_1])) < m1 v5_1 o6_1 o7_1)) ∧
 ((o7_1.contains (el list v5_1)) = true →
 (0 ≤ v5_1 ∧ v5_1 < (list.length : Int)) ∧
 (small o7_1) ∧
 ((o6_1.length : Int) + (([idxI o7_1 (el list v5_1)]).length : Int) ≤ 1000000000) ∧
 (InI (v5_1 + 1)) ∧
 (H1 (v5_1 + 1) (o6_1 ++ ([idxI o7_1 (el list v5_1)])) o7_1 ∧ m1 (v5_1 + 1) (o6_1 ++ ([idxI o7_1 (el list v5_1)])) o7_1 < m1 v5_1 o6_1 o7_1)))) ∧
 (¬ (v5_1 < (list.length : Int)) →
 Q o6_1)))

def wp_impl_congruenceFrom (t : List (List Int)) (x : Int) (y : Int) (Q : List Int → Prop) : Prop :=
 (0 ≤ (t.length : Int) ∧ (t.length : Int) ≤ 1000000) ∧
 (small (unitI (t.length : Int)) ∧ 0 ≤ x ∧ x < ((unitI (t.length : Int)).length : Int) ∧ 0 ≤ y ∧ y < ((unitI (t.length : Int)).length : Int)) ∧
 ∃ (H1 : Bool → List Int → Prop) (m1 : Bool → List Int → Nat),
 H1 true (jnI (unitI (t.length : Int)) x y) ∧
 ∀ (v9_1 : Bool) (f7_0_1 : List Int), H1 v9_1 f7_0_1 →
 ( ((v9_1 = true →
 ∃ (H2 : Bool → Int → List Int → Prop) (m2 : Bool → Int → List Int → Nat),
 H2 false 0 f7_0_1 ∧
 ∀ (v9_2 : Bool) (v23_2 : Int) (f7_0_2 : List Int), H2 v9_2 v23_2 f7_0_2 →
 ( ((v23_2 < (t.length : Int) →
 ∃ (H3 : Bool → Int → List Int → Prop) (m3 : Bool → Int → List Int → Nat),
 H3 v9_2 0 f7_0_2 ∧
 ∀ (v9_3 : Bool) (v28_3 : Int) (f7_0_3 : List Int), H3 v9_3 v28_3 f7_0_3 →
 ( ((v28_3 < (t.length : Int) →
 (0 ≤ v23_2 ∧ v23_2 < (t.length : Int)) ∧
 (0 ≤ v28_3 ∧ v28_3 < ((el t v23_2).length : Int)) ∧
 (0 ≤ v23_2 ∧ v23_2 < (f7_0_3.length : Int)) ∧
 (0 ≤ el f7_0_3 v23_2 ∧ el f7_0_3 v23_2 < (t.length : Int)) ∧
 (0 ≤ v28_3 ∧ v28_3 < (f7_0_3.length : Int)) ∧
 (0 ≤ el f7_0_3 v28_3 ∧ el f7_0_3 v28_3 < ((el t (el f7_0_3 v23_2)).length : Int)) ∧
 (small f7_0_3 ∧ 0 ≤ (el (el t v23_2) v28_3) ∧ (el (el t v23_2) v28_3) < (f7_0_3.length : Int) ∧ 0 ≤ (el (el t (el f7_0_3 v23_2)) (el f7_0_3 v28_3)) ∧ (el (el t (el f7_0_3 v23_2)) (el f7_0_3 v28_3)) < (f7_0_3.length : Int)) ∧
 (((!decide (el f7_0_3 (el (el t v23_2) v28_3) = el f7_0_3 (el (el t (el f7_0_3 v23_2)) (el f7_0_3 v28_3)))) = true →
 (InI (v28_3 + 1)) ∧
 (H3 true (v28_3 + 1) (jnI f7_0_3 (el (el t v23_2) v28_3) (el (el t (el f7_0_3 v23_2)) (el f7_0_3 v28_3))) ∧ m3 true (v28_3 + 1) (jnI f7_0_3 (el (el t v23_2) v28_3) (el (el t (el f7_0_3 v23_2)) (el f7_0_3 v28_3))) < m3 v9_3 v28_3 f7_0_3)) ∧
 ((!decide (el f7_0_3 (el (el t v23_2) v28_3) = el f7_0_3 (el (el t (el f7_0_3 v23_2)) (el f7_0_3 v28_3)))) = false →
 (InI (v28_3 + 1)) ∧
 (H3 v9_3 (v28_3 + 1) (jnI f7_0_3 (el (el t v23_2) v28_3) (el (el t (el f7_0_3 v23_2)) (el f7_0_3 v28_3))) ∧ m3 v9_3 (v28_3 + 1) (jnI f7_0_3 (el (el t v23_2) v28_3) (el (el t (el f7_0_3 v23_2)) (el f7_0_3 v28_3))) < m3 v9_3 v28_3 f7_0_3)))) ∧
 (¬ (v28_3 < (t.length : Int)) →
 (InI (v23_2 + 1)) ∧
 (H2 v9_3 (v23_2 + 1) f7_0_3 ∧ m2 v9_3 (v23_2 + 1) f7_0_3 < m2 v9_2 v23_2 f7_0_2))))) ∧
 (¬ (v23_2 < (t.length : Int)) →
 (H1 v9_2 f7_0_2 ∧ m1 v9_2 f7_0_2 < m1 v9_1 f7_0_1))))) ∧
 (v9_1 = false →
 (small f7_0_1) ∧
 Q (numI f7_0_1))))

def wp_spec_l04From (t : List (List Int)) (x : Int) (y : Int) (Q : List Int → Prop) : Prop :=
 ∃ (H1 : Int → List Int → Prop) (m1 : Int → List Int → Nat),
 H1 0 ([] : List Int) ∧
 ∀ (v9_1 : Int) (o19_1 : List Int), H1 v9_1 o19_1 →
 ( ((v9_1 < (t.length : Int) →
 ((o19_1.length : Int) + (([v9_1]).length : Int) ≤ 1000000000) ∧
 (InI (v9_1 + 1)) ∧
 (H1 (v9_1 + 1) (o19_1 ++ ([v9_1])) ∧ m1 (v9_1 + 1) (o19_1 ++ ([v9_1])) < m1 v9_1 o19_1)) ∧
 (¬ (v9_1 < (t.length : Int)) →
 ∃ (H2 : Int → List Int → List Int → List Int → Prop) (m2 : Int → List Int → List Int → List Int → Nat),
 H2 0 o19_1 ([x]) ([y]) ∧
 ∀ (v12_2 : Int) (o19_2 : List Int) (o30_2 : List Int) (o32_2 : List Int), H2 v12_2 o19_2 o30_2 o32_2 →
 ( ((v12_2 < (o30_2.length : Int) →
 (0 ≤ v12_2 ∧ v12_2 < (o30_2.length : Int)) ∧
 (0 ≤ v12_2 ∧ v12_2 < (o32_2.length : Int)) ∧
 (0 ≤ el o30_2 v12_2 ∧ el o30_2 v12_2 < (o19_2.length : Int)) ∧
 (0 ≤ el o32_2 v12_2 ∧ el o32_2 v12_2 < (o19_2.length : Int)) ∧
 ((el o19_2 (el o30_2 v12_2) = el o19_2 (el o32_2 v12_2) →
 (InI (v12_2 + 1)) ∧
 (H2 (v12_2 + 1) o19_2 o30_2 o32_2 ∧ m2 (v12_2 + 1) o19_2 o30_2 o32_2 < m2 v12_2 o19_2 o30_2 o32_2)) ∧
 (¬ (el o19_2 (el o30_2 v12_2) = el o19_2 (el o32_2 v12_2)) →
 ∃ (H3 : Int → List Int → Prop) (m3 : Int → List Int → Nat),
 H3 0 o19_2 ∧
 ∀ (v15_3 : Int) (o19_3 : List Int), H3 v15_3 o19_3 →
 ( ((v15_3 < (t.length : Int) →
 (0 ≤ v15_3 ∧ v15_3 < (o19_3.length : Int)) ∧
 ((el o19_3 v15_3 = el o19_2 (el o32_2 v12_2) →
 (0 ≤ v15_3 ∧ v15_3 < (o19_3.length : Int)) ∧
 (InI (v15_3 + 1)) ∧
 (H3 (v15_3 + 1) (se o19_3 v15_3 (el o19_2 (el o30_2 v12_2))) ∧ m3 (v15_3 + 1) (se o19_3 v15_3 (el o19_2 (el o30_2 v12_2))) < m3 v15_3 o19_3)) ∧
 (¬ (el o19_3 v15_3 = el o19_2 (el o32_2 v12_2)) →
 (InI (v15_3 + 1)) ∧
 (H3 (v15_3 + 1) o19_3 ∧ m3 (v15_3 + 1) o19_3 < m3 v15_3 o19_3)))) ∧
 (¬ (v15_3 < (t.length : Int)) →
 ∃ (H4 : Int → List Int → List Int → Prop) (m4 : Int → List Int → List Int → Nat),
 H4 0 o30_2 o32_2 ∧
 ∀ (v16_4 : Int) (o30_4 : List Int) (o32_4 : List Int), H4 v16_4 o30_4 o32_4 →
 ( ((v16_4 < (t.length : Int) →
 (0 ≤ v16_4 ∧ v16_4 < (t.length : Int)) ∧
 (0 ≤ v12_2 ∧ v12_2 < (o30_4.length : Int)) ∧
 (0 ≤ v12_2 ∧ v12_2 < (o30_4.length : Int)) ∧
 (0 ≤ el o30_4 v12_2 ∧ el o30_4 v12_2 < ((el t v16_4).length : Int)) ∧
 (0 ≤ el o30_4 v12_2 ∧ el o30_4 v12_2 < (t.length : Int)) ∧
 (0 ≤ v16_4 ∧ v16_4 < ((el t (el o30_4 v12_2)).length : Int)) ∧
 ((o30_4.length : Int) + (([el (el t v16_4) (el o30_4 v12_2), el (el t (el o30_4 v12_2)) v16_4]).length : Int) ≤ 1000000000) ∧
 (0 ≤ v16_4 ∧ v16_4 < (t.length : Int)) ∧
 (0 ≤ v12_2 ∧ v12_2 < (o32_4.length : Int)) ∧
 (0 ≤ v12_2 ∧ v12_2 < (o32_4.length : Int)) ∧
 (0 ≤ el o32_4 v12_2 ∧ el o32_4 v12_2 < ((el t v16_4).length : Int)) ∧
 (0 ≤ el o32_4 v12_2 ∧ el o32_4 v12_2 < (t.length : Int)) ∧
 (0 ≤ v16_4 ∧ v16_4 < ((el t (el o32_4 v12_2)).length : Int)) ∧
 ((o32_4.length : Int) + (([el (el t v16_4) (el o32_4 v12_2), el (el t (el o32_4 v12_2)) v16_4]).length : Int) ≤ 1000000000) ∧
 (InI (v16_4 + 1)) ∧
 (H4 (v16_4 + 1) (o30_4 ++ ([el (el t v16_4) (el o30_4 v12_2), el (el t (el o30_4 v12_2)) v16_4])) (o32_4 ++ ([el (el t v16_4) (el o32_4 v12_2), el (el t (el o32_4 v12_2)) v16_4])) ∧ m4 (v16_4 + 1) (o30_4 ++ ([el (el t v16_4) (el o30_4 v12_2), el (el t (el o30_4 v12_2)) v16_4])) (o32_4 ++ ([el (el t v16_4) (el o32_4 v12_2), el (el t (el o32_4 v12_2)) v16_4])) < m4 v16_4 o30_4 o32_4)) ∧
 (¬ (v16_4 < (t.length : Int)) →
 (InI (v12_2 + 1)) ∧
 (H2 (v12_2 + 1) o19_3 o30_4 o32_4 ∧ m2 (v12_2 + 1) o19_3 o30_4 o32_4 < m2 v12_2 o19_2 o30_2 o32_2)))))))))) ∧
 (¬ (v12_2 < (o30_2.length : Int)) →
 (small o19_2) ∧
 Q (numI o19_2)))))))

def wp_spec_CongruenceFrom (r : List (List Int)) (x : Int) (y : Int) (Q : List Int → Int → Prop) : Prop :=
 (small2 r) ∧
 (((isRk r) = false →
 Q ([]) 1) ∧
 ((isRk r) = true →
 (small ([x, y]) ∧ 0 ≤ (r.length : Int) ∧ (r.length : Int) ≤ 1000000000) ∧
 (((([x, y]).all (fun z_ => decide (0 ≤ z_) && decide (z_ ≤ (r.length : Int) - 1))) = false →
 Q ([]) 2) ∧
 ((([x, y]).all (fun z_ => decide (0 ≤ z_) && decide (z_ ≤ (r.length : Int) - 1))) = true →
 (isTab r = true ∧ 0 ≤ x ∧ x < (r.length : Int) ∧ 0 ≤ y ∧ y < (r.length : Int)) ∧
 Q (cgI r x y) 0))))

def wp_spec_IsSimpleRack (r : List (List Int)) (Q : Bool → Int → Prop) : Prop :=
 (small2 r) ∧
 (((isRk r) = false →
 Q false 1) ∧
 ((isRk r) = true →
 ∃ (H1 : Int → Prop) (m1 : Int → Nat),
 H1 0 ∧
 ∀ (v5_1 : Int), H1 v5_1 →
 ( ((v5_1 < (r.length : Int) →
 (InI (v5_1 + 1)) ∧
 ∃ (H2 : Int → Prop) (m2 : Int → Nat),
 H2 (v5_1 + 1) ∧
 ∀ (v6_2 : Int), H2 v6_2 →
 ( ((v6_2 < (r.length : Int) →
 (isTab r = true ∧ 0 ≤ v5_1 ∧ v5_1 < (r.length : Int) ∧ 0 ≤ v6_2 ∧ v6_2 < (r.length : Int)) ∧
 ∃ (H3 : Int → Prop) (m3 : Int → Nat),
 H3 0 ∧
 ∀ (v8_3 : Int), H3 v8_3 →
 ( ((v8_3 < ((cgI r v5_1 v6_2).length : Int) →
 (0 ≤ v8_3 ∧ v8_3 < ((cgI r v5_1 v6_2).length : Int)) ∧
 ((¬ (el (cgI r v5_1 v6_2) v8_3 = 0) →
 Q false 0) ∧
 (el (cgI r v5_1 v6_2) v8_3 = 0 →
 (InI (v8_3 + 1)) ∧
 (H3 (v8_3 + 1) ∧ m3 (v8_3 + 1) < m3 v8_3)))) ∧
 (¬ (v8_3 < ((cgI r v5_1 v6_2).length : Int)) →
 (InI (v6_2 + 1)) ∧
 (H2 (v6_2 + 1) ∧ m2 (v6_2 + 1) < m2 v6_2))))) ∧
 (¬ (v6_2 < (r.length : Int)) →
 (InI (v5_1 + 1)) ∧
 (H1 (v5_1 + 1) ∧ m1 (v5_1 + 1) < m1 v5_1))))) ∧
 (¬ (v5_1 < (r.length : Int)) →
 Q (decide (2 ≤ (r.length : Int))) 0)))))

def wp_impl_CongruenceFrom (r : List (List Int)) (x : Int) (y : Int) (Q : List Int → Int → Prop) : Prop :=
 (small2 r) ∧
 (((isRk r) = false →
 Q ([]) 1) ∧
 ((isRk r) = true →
 (small ([x, y]) ∧ 0 ≤ (r.length : Int) ∧ (r.length : Int) ≤ 1000000000) ∧
 (((([x, y]).all (fun z_ => decide (0 ≤ z_) && decide (z_ ≤ (r.length : Int) - 1))) = false →
 Q ([]) 2) ∧
 ((([x, y]).all (fun z_ => decide (0 ≤ z_) && decide (z_ ≤ (r.length : Int) - 1))) = true →
 (isTab r = true ∧ 0 ≤ x ∧ x < (r.length : Int) ∧ 0 ≤ y ∧ y < (r.length : Int)) ∧
 Q (cgI r x y) 0))))

def wp_impl_IsSimpleRack (r : List (List Int)) (Q : Bool → Int → Prop) : Prop :=
 (small2 r) ∧
 (((isRk r) = false →
 Q false 1) ∧
 ((isRk r) = true →
 ∃ (H1 : Int → Prop) (m1 : Int → Nat),
 H1 0 ∧
 ∀ (v14_1 : Int), H1 v14_1 →
 ( ((v14_1 < (r.length : Int) →
 ∃ (H2 : Int → Prop) (m2 : Int → Nat),
 H2 0 ∧
 ∀ (v18_2 : Int), H2 v18_2 →
 ( ((v18_2 < v14_1 →
 (isTab r = true ∧ 0 ≤ v14_1 ∧ v14_1 < (r.length : Int) ∧ 0 ≤ v18_2 ∧ v18_2 < (r.length : Int)) ∧
 (small (cgI r v14_1 v18_2) ∧ 1 ≤ ((cgI r v14_1 v18_2).length : Int)) ∧
 ((0 < maxI (cgI r v14_1 v18_2) →
 Q false 0) ∧
 (¬ (0 < maxI (cgI r v14_1 v18_2)) →
 (InI (v18_2 + 1)) ∧
 (H2 (v18_2 + 1) ∧ m2 (v18_2 + 1) < m2 v18_2)))) ∧
 (¬ (v18_2 < v14_1) →
 (InI (v14_1 + 1)) ∧
 (H1 (v14_1 + 1) ∧ m1 (v14_1 + 1) < m1 v14_1))))) ∧
 (¬ (v14_1 < (r.length : Int)) →
 Q (decide (1 < (r.length : Int))) 0)))))

theorem jn_el {labels : List Int} {a b : Int} {j : Int} (hj : 0 ≤ j ∧ j < (labels.length : Int)) : el (jnI labels a b) j = if el labels j = (if el labels a < el labels b then el labels b else el labels a) then (if el labels b < el labels a then el labels b else el labels a) else el labels j := el_mg hj
theorem p_impl_congruenceFrom_1 (a b : Int) (labels : List Int) (hp : small labels ∧ 0 ≤ a ∧ a < (labels.length : Int) ∧ 0 ≤ b ∧ b < (labels.length : Int)) : wp_impl_congruenceFrom_1 a b labels (fun y0 w0 => y0 = (!decide (el labels a = el labels b)) ∧ w0 = jnI labels a b) := by
  unfold wp_impl_congruenceFrom_1
  obtain ⟨hs, a0, a1, b0, b1⟩ := hp
  have hs' : (labels.length : Int) ≤ 1000000000 := hs
  have hd : (!(decide ((if el labels a < el labels b then el labels b else el labels a) = (if el labels b < el labels a then el labels b else el labels a)))) = !decide (el labels a = el labels b) := by
    congr 1
    rw [Bool.eq_iff_iff, decide_eq_true_eq, decide_eq_true_eq]
    constructor
    · intro h; split at h <;> split at h <;> omega
    · intro h; rw [h]
  have he := fun (j : Int) (hj : 0 ≤ j ∧ j < (labels.length : Int)) => jn_el (a := a) (b := b) hj
  rw [hd]
  have hlen : (jnI labels a b).length = labels.length := by simp [jnI, mgI]
  generalize (if el labels a < el labels b then el labels b else el labels a) = f at *
  generalize (if el labels b < el labels a then el labels b else el labels a) = g at *
  refine ⟨⟨a0, a1⟩, ⟨b0, b1⟩, ⟨a0, a1⟩, ⟨b0, b1⟩, fun i o => 0 ≤ i ∧ i ≤ (labels.length : Int) ∧ o.length = labels.length ∧ (Upto i fun j => el o j = el (jnI labels a b) j) ∧ ∀ j, i ≤ j → j < (labels.length : Int) → el o j = el labels j, fun i _ => ((labels.length : Int) - i).toNat, ⟨by omega, by omega, rfl, upto0, fun _ _ _ => rfl⟩, ?_⟩
  rintro i o ⟨i0, i1, ol, oI, oR⟩
  dsimp only
  refine ⟨fun ilt => ?_, fun ige => ⟨rfl, ext_el (by omega) fun j u v => oI j u (by omega)⟩⟩
  have e0 := oR i (by omega) ilt
  have e1 := he i ⟨i0, ilt⟩
  refine ⟨⟨i0, by omega⟩, fun h => ⟨⟨i0, by omega⟩, ⟨by omega, by omega⟩, ⟨by omega, by omega, by simpa using ol, fill1 (f := fun j => el (jnI labels a b) j) ⟨i0, by omega⟩ oI (by show _ = el (jnI labels a b) i; rw [e1, if_pos (by omega)]), fun j u v => by rw [el_se_ne i0 (by omega) (by omega)]; exact oR j (by omega) v⟩, by omega⟩, fun h => ⟨⟨by omega, by omega⟩, ⟨by omega, by omega, ol, upto1 oI (by show el o i = el (jnI labels a b) i; rw [e1, if_neg (by omega)]; exact e0), fun j u v => oR j (by omega) v⟩, by omega⟩⟩
theorem p_impl_numbered (labels : List Int) (hp : small labels) : wp_impl_numbered labels (fun y0 => y0 = numI labels) := by
  unfold wp_impl_numbered
  have hs' : (labels.length : Int) ≤ 1000000000 := hp
  refine ⟨⟨by omega, hp⟩, fun i o s => 0 ≤ i ∧ i ≤ (labels.length : Int) ∧ o.length = labels.length ∧ NumS labels i s ∧ Upto i fun j => el o j = idxI s (el labels j), fun i _ _ => ((labels.length : Int) - i).toNat, ⟨by omega, by omega, by simp, numS0 _, upto0⟩, ?_⟩
  rintro i o s ⟨i0, i1, ol, hN, oI⟩
  dsimp only
  have sl := hN.len
  refine ⟨fun ilt => ⟨⟨i0, ilt⟩, by show _ ≤ (1000000000 : Int); omega, fun h => ?_, fun h => ?_⟩, fun ige => ?_⟩
  · have hm : ¬ el labels i ∈ s := fun hm => by have := (idxI_spec hm).1; omega
    refine ⟨by simp; omega, ⟨i0, by omega⟩, ⟨by omega, by omega⟩, ⟨by omega, by omega, by simpa using ol, numS_new i0 hN hm, upto1 (fun j u v => ?_) ?_⟩, by omega⟩
    · show el (se o i (s.length : Int)) j = idxI (s ++ [el labels i]) (el labels j)
      rw [el_se_ne i0 u (by omega), idxI_app (hN.mem j u v)]; exact oI j u v
    · show el (se o i (s.length : Int)) i = idxI (s ++ [el labels i]) (el labels i)
      rw [el_se_same ⟨i0, by omega⟩, idxI_new hm]
  · have hm : el labels i ∈ s := Classical.byContradiction fun hm => h (by
      have : decide (0 ≤ idxI s (el labels i)) = false := by rw [idxI_has, Bool.eq_false_iff]; exact fun h2 => hm (List.contains_iff_mem.1 h2)
      have := of_decide_eq_false this
      omega)
    exact ⟨⟨i0, by omega⟩, ⟨by omega, by omega⟩, ⟨by omega, by omega, by simpa using ol, numS_old hN hm, fill1 (f := fun j => idxI s (el labels j)) ⟨i0, by omega⟩ oI rfl⟩, by omega⟩
  · have : i = (labels.length : Int) := by omega
    subst this
    exact the_eq (numS_fin hN ol oI) numP_uniq
theorem p_spec_l04Numbered (list : List Int) (hp : small list) : wp_spec_l04Numbered list (fun y0 => y0 = numI list) := by
  unfold wp_spec_l04Numbered
  have hs' : (list.length : Int) ≤ 1000000000 := hp
  refine ⟨fun i o s => 0 ≤ i ∧ i ≤ (list.length : Int) ∧ (o.length : Int) = i ∧ NumS list i s ∧ Upto i fun j => el o j = idxI s (el list j), fun i _ _ => ((list.length : Int) - i).toNat, ⟨by omega, by omega, by simp, numS0 _, upto0⟩, ?_⟩
  rintro i o s ⟨i0, i1, ol, hN, oI⟩
  dsimp only
  have sl := hN.len
  refine ⟨fun ilt => ⟨⟨i0, ilt⟩, by show _ ≤ (1000000000 : Int); omega, fun h => ?_, fun h => ?_⟩, fun ige => ?_⟩
  · have hm : ¬ el list i ∈ s := fun hm => by rw [List.contains_iff_mem.2 hm] at h; cases h
    refine ⟨⟨i0, ilt⟩, by simp; omega, ⟨i0, ilt⟩, by show _ ≤ (1000000000 : Int); simp; omega, by simp; omega, ⟨by omega, by omega⟩, ⟨by omega, by omega, by simp; omega, numS_new i0 hN hm, app1 (f := fun j => idxI (s ++ [el list i]) (el list j)) (by omega) (fun j u v => ?_) rfl⟩, by omega⟩
    show el o j = idxI (s ++ [el list i]) (el list j)
    rw [idxI_app (hN.mem j u v)]; exact oI j u v
  · exact ⟨⟨i0, ilt⟩, by show _ ≤ (1000000000 : Int); omega, by simp; omega, ⟨by omega, by omega⟩, ⟨by omega, by omega, by simp; omega, numS_old hN (List.contains_iff_mem.1 h), app1 (f := fun j => idxI s (el list j)) (by omega) oI rfl⟩, by omega⟩
  · have : i = (list.length : Int) := by omega
    subst this
    exact the_eq (numS_fin hN (by omega) oI) numP_uniq
theorem p_impl_congruenceFrom (t : List (List Int)) (x y : Int) (hp : isTab t = true ∧ 0 ≤ x ∧ x < (t.length : Int) ∧ 0 ≤ y ∧ y < (t.length : Int)) : wp_impl_congruenceFrom t x y (fun y0 => y0 = cgI t x y) := by
  unfold wp_impl_congruenceFrom
  obtain ⟨ht, x0, x1, y0, y1⟩ := hp
  have hn := isTab_len ht
  have hx : 0 ≤ x ∧ x < (t.length : Int) := ⟨x0, x1⟩
  have hy : 0 ≤ y ∧ y < (t.length : Int) := ⟨y0, y1⟩
  have hul : ((unitI (t.length : Int)).length : Int) = (t.length : Int) := by simp
  rw [hul]
  obtain ⟨j1, j2, j3, j4⟩ := jn_spec (lb_unit (t := t) (x := x) (y := y)) hx hy .base
  let C : List Int → Int → Int → Prop := fun L a b => el L (el (el t a) b) = el L (el (el t (el L a)) (el L b))
  refine ⟨⟨by omega, by omega⟩, ⟨by show _ ≤ (1000000000 : Int); omega, x0, x1, y0, y1⟩, fun g L => Lb t x y L ∧ el L x = el L y ∧ (g = false → ∀ a b, (0 ≤ a ∧ a < (t.length : Int)) → (0 ≤ b ∧ b < (t.length : Int)) → C L a b), fun g L => 2 * fixs (t.length : Int) L + (if g then 1 else 0), ⟨j1, j3, fun h => by cases h⟩, ?_⟩
  rintro g0 L0 ⟨hL0, hxy0, hC0⟩
  dsimp only
  refine ⟨fun hg => ?_, fun hg => ?_⟩
  · subst hg
    refine ⟨fun g a L => 0 ≤ a ∧ a ≤ (t.length : Int) ∧ Lb t x y L ∧ el L x = el L y ∧ fixs (t.length : Int) L ≤ fixs (t.length : Int) L0 ∧ (g = true → fixs (t.length : Int) L < fixs (t.length : Int) L0) ∧ (g = false → Upto a fun a => ∀ b, (0 ≤ b ∧ b < (t.length : Int)) → C L a b), fun _ a _ => ((t.length : Int) - a).toNat, ⟨by omega, by omega, hL0, hxy0, Nat.le_refl _, (fun h => by cases h), fun _ => upto0⟩, ?_⟩
    rintro g1 a L1 ⟨a0, a1, hL1, hxy1, hf1, hg1, hC1⟩
    dsimp only
    refine ⟨fun alt => ?_, fun age => ⟨⟨hL1, hxy1, fun hg a b ha hb => hC1 hg a ha.1 (by omega) b hb⟩, ?_⟩⟩
    · refine ⟨fun g b L => 0 ≤ b ∧ b ≤ (t.length : Int) ∧ Lb t x y L ∧ el L x = el L y ∧ fixs (t.length : Int) L ≤ fixs (t.length : Int) L0 ∧ (g = true → fixs (t.length : Int) L < fixs (t.length : Int) L0) ∧ (g = false → (Upto a fun a => ∀ b, (0 ≤ b ∧ b < (t.length : Int)) → C L a b) ∧ Upto b fun b => C L a b), fun _ b _ => ((t.length : Int) - b).toNat, ⟨by omega, by omega, hL1, hxy1, hf1, hg1, fun h => ⟨hC1 h, upto0⟩⟩, ?_⟩
      rintro g2 b L ⟨b0, b1, hL, hxy, hf, hg, hC⟩
      dsimp only
      refine ⟨fun blt => ?_, fun bge => ⟨⟨by omega, by omega⟩, ⟨by omega, by omega, hL, hxy, hf, hg, fun h => upto1 (hC h).1 fun b hb => (hC h).2 b hb.1 (by omega)⟩, by omega⟩⟩
      have ha : 0 ≤ a ∧ a < (t.length : Int) := ⟨a0, alt⟩
      have hb : 0 ≤ b ∧ b < (t.length : Int) := ⟨b0, blt⟩
      obtain ⟨la1, la2, la3⟩ := hL.2 a ha.1 ha.2
      obtain ⟨lb1, lb2, lb3⟩ := hL.2 b hb.1 hb.2
      have u := rk_el ht ha hb
      have v := rk_el ht la1 lb1
      have r1 := rk_len ht ha
      have r2 := rk_len ht la1
      have hll := hL.1
      have hcg : Cg t x y (el (el t a) b) (el (el t (el L a)) (el L b)) := .trans (.right b hb ha la1 la3) (.left (el L a) la1 hb lb1 lb3)
      obtain ⟨k1, k2, k3, k4⟩ := jn_spec hL u v hcg
      refine ⟨ha, ⟨b0, by omega⟩, ⟨a0, by omega⟩, la1, ⟨b0, by omega⟩, ⟨lb1.1, by omega⟩, ⟨by show _ ≤ (1000000000 : Int); omega, u.1, by omega, v.1, by omega⟩, fun h => ?_, fun h => ?_⟩
      · have hne : el L (el (el t a) b) ≠ el L (el (el t (el L a)) (el L b)) := by simpa using h
        have hlt := k4 hne
        exact ⟨⟨by omega, by omega⟩, ⟨by omega, by omega, k1, k2 x y hx hy hxy, by omega, fun _ => by omega, fun h => by cases h⟩, by omega⟩
      · have he : el L (el (el t a) b) = el L (el (el t (el L a)) (el L b)) := by simpa using h
        rw [jn_same he]
        exact ⟨⟨by omega, by omega⟩, ⟨by omega, by omega, hL, hxy, hf, hg, fun hh => ⟨(hC hh).1, upto1 (hC hh).2 he⟩⟩, by omega⟩
    · cases g1 with
      | true =>
        have := hg1 rfl
        simp only [if_true]; omega
      | false => simp only [if_true, Bool.false_eq_true, if_false]; omega
  · have hll := hL0.1
    refine ⟨by show _ ≤ (1000000000 : Int); omega, the_eq (lb_fin ht hx hy hL0 hxy0 fun a b c d ha hb hc hd eac ebd => ?_) cgP_uniq⟩
    rw [show el L0 (el (el t a) b) = _ from hC0 hg a b ha hb, show el L0 (el (el t c) d) = _ from hC0 hg c d hc hd, eac, ebd]
theorem mg_list {L : List Int} {f g : Int} {o : List Int} (hl : o.length = L.length) (h : ∀ j, 0 ≤ j → j < (L.length : Int) → el o j = if el L j = f then g else el L j) : o = mgI L f g :=
  ext_el (by simp [mgI, hl]) fun j a b => by rw [el_mg ⟨a, by omega⟩]; exact h j a (by omega)
theorem p_spec_l04From (t : List (List Int)) (x y : Int) (hp : isTab t = true ∧ 0 ≤ x ∧ x < (t.length : Int) ∧ 0 ≤ y ∧ y < (t.length : Int)) : wp_spec_l04From t x y (fun y0 => y0 = cgI t x y) := by
  unfold wp_spec_l04From
  obtain ⟨ht, x0, x1, y0, y1⟩ := hp
  have hn := isTab_len ht
  have hx : 0 ≤ x ∧ x < (t.length : Int) := ⟨x0, x1⟩
  have hy : 0 ≤ y ∧ y < (t.length : Int) := ⟨y0, y1⟩
  refine ⟨fun i o => 0 ≤ i ∧ i ≤ (t.length : Int) ∧ (o.length : Int) = i ∧ Upto i fun j => el o j = j, fun i _ => ((t.length : Int) - i).toNat, ⟨by omega, by omega, by simp, upto0⟩, ?_⟩
  rintro i o ⟨i0, i1, ol, oI⟩
  dsimp only
  refine ⟨fun ilt => ⟨by simp; omega, ⟨by omega, by omega⟩, ⟨by omega, by omega, by simp; omega, app1 (f := fun j => j) (by omega) oI rfl⟩, by omega⟩, fun ige => ?_⟩
  have ho : o = unitI (t.length : Int) := eq_ran (f := id) (by omega) fun j a b => oI j a (by omega)
  subst ho
  have hul : ((unitI (t.length : Int)).length : Int) = (t.length : Int) := by simp
  have hf0 := fixs_le (t.length : Int) (unitI (t.length : Int))
  refine ⟨fun i L one two => FromI t x y i L one two, fun i L one _ => (one.length - i.toNat) + 25 * fixs (t.length : Int) L, ?_, ?_⟩
  · refine ⟨⟨by omega, by simp⟩, lb_unit, rfl, fun j a b => ?_, upto0, ⟨by simp, by simp [el], by simp [el]⟩, by simp; omega, fun _ _ => False, fun a b ha hb e => ?_, fun _ _ h => h.elim⟩
    · simp at b
      have : j = 0 := by omega
      subst this
      rw [el_cons_0, el_cons_0]; exact ⟨hx, hy, .base⟩
    · rw [el_unitI ha, el_unitI hb] at e
      subst e; exact .refl _
  rintro k L one two hF
  dsimp only
  have k0 := hF.i0
  have hlen := hF.len
  have hLl := hF.lb.1
  have hbd := hF.bound
  refine ⟨fun klt => ?_, fun kge => ⟨by show _ ≤ (1000000000 : Int); omega, from_end ht hx hy hF (by omega)⟩⟩
  obtain ⟨pu, pv, pc⟩ := hF.prs k k0.1 klt
  refine ⟨⟨k0.1, klt⟩, ⟨k0.1, by omega⟩, ⟨pu.1, by omega⟩, ⟨pv.1, by omega⟩, fun he => ⟨⟨by omega, by omega⟩, from_skip hF klt he, by omega⟩, fun hne => ?_⟩
  refine ⟨fun z o => 0 ≤ z ∧ z ≤ (t.length : Int) ∧ o.length = L.length ∧ (Upto z fun j => el o j = if el L j = el L (el two k) then el L (el one k) else el L j) ∧ ∀ j, z ≤ j → j < (t.length : Int) → el o j = el L j, fun z _ => ((t.length : Int) - z).toNat, ⟨by omega, by omega, rfl, upto0, fun _ _ _ => rfl⟩, ?_⟩
  rintro z o ⟨z0, z1, zl, zI, zR⟩
  dsimp only
  refine ⟨fun zlt => ?_, fun zge => ?_⟩
  · have e0 := zR z (by omega) zlt
    exact ⟨⟨z0, by omega⟩, fun h => ⟨⟨z0, by omega⟩, ⟨by omega, by omega⟩, ⟨by omega, by omega, by simpa using zl, fill1 (f := fun j => if el L j = el L (el two k) then el L (el one k) else el L j) ⟨z0, by omega⟩ zI (by rw [if_pos (by omega)]), fun j u v => by rw [el_se_ne z0 (by omega) (by omega)]; exact zR j (by omega) v⟩, by omega⟩, fun h => ⟨⟨by omega, by omega⟩, ⟨by omega, by omega, zl, upto1 zI (by show el o z = _; rw [if_neg (by omega)]; exact e0), fun j u v => zR j (by omega) v⟩, by omega⟩⟩
  · have ho : o = mgI L (el L (el two k)) (el L (el one k)) := mg_list zl fun j a b => zI j a (by omega)
    subst ho
    refine ⟨fun z a b => 0 ≤ z ∧ z ≤ (t.length : Int) ∧ (∃ s1, a = one ++ s1 ∧ (s1.length : Int) = 2 * z) ∧ (∃ s2, b = two ++ s2 ∧ (s2.length : Int) = 2 * z) ∧
        (∀ j, 0 ≤ j → j < (a.length : Int) → (0 ≤ el a j ∧ el a j < (t.length : Int)) ∧ (0 ≤ el b j ∧ el b j < (t.length : Int)) ∧ Cg t x y (el a j) (el b j)) ∧
        (Upto z fun z => Lst a b (el (el t z) (el one k)) (el (el t z) (el two k)) ∧ Lst a b (el (el t (el one k)) z) (el (el t (el two k)) z)), fun z _ _ => ((t.length : Int) - z).toNat, ⟨by omega, by omega, ⟨[], by simp, by simp⟩, ⟨[], by simp, by simp⟩, hF.prs, upto0⟩, ?_⟩
    rintro z a b ⟨z0, z1, ⟨s1, rfl, hs1⟩, ⟨s2, rfl, hs2⟩, hp, hU⟩
    dsimp only
    have e1 : el (one ++ s1) k = el one k := el_append_l ⟨k0.1, klt⟩
    have e2 : el (two ++ s2) k = el two k := el_append_l ⟨k0.1, by omega⟩
    have hl1 : ((one ++ s1).length : Int) = (one.length : Int) + 2 * z := by simp; omega
    have hl2 : ((two ++ s2).length : Int) = (one.length : Int) + 2 * z := by simp; omega
    rw [e1, e2]
    refine ⟨fun zlt => ?_, fun zge => ?_⟩
    · have hz : 0 ≤ z ∧ z < (t.length : Int) := ⟨z0, zlt⟩
      have lz := rk_len ht hz
      have lu := rk_len ht pu
      have lv := rk_len ht pv
      have c1 := rk_el ht hz pu
      have c2 := rk_el ht pu hz
      have d1 := rk_el ht hz pv
      have d2 := rk_el ht pv hz
      have hll : (one ++ s1).length = (two ++ s2).length := by omega
      have n0 : ∀ (l : List Int) (p q : Int), el (l ++ [p, q]) (l.length : Int) = p := fun l p q => by rw [el_append_r (by omega), Int.sub_self, el_cons_0]
      have n1 : ∀ (l : List Int) (p q : Int), el (l ++ [p, q]) ((l.length : Int) + 1) = q := fun l p q => by
        rw [el_append_r (by omega), show (l.length : Int) + 1 - (l.length : Int) = 1 by omega]; simp [el]
      refine ⟨hz, ⟨k0.1, by omega⟩, ⟨k0.1, by omega⟩, ⟨pu.1, by omega⟩, pu, ⟨z0, by omega⟩, by simp at hl1 ⊢; omega, hz, ⟨k0.1, by omega⟩, ⟨k0.1, by omega⟩, ⟨pv.1, by omega⟩, pv, ⟨z0, by omega⟩, by simp at hl2 ⊢; omega, ⟨by omega, by omega⟩, ⟨by omega, by omega, ⟨s1 ++ [el (el t z) (el one k), el (el t (el one k)) z], by simp, by simp; omega⟩, ⟨s2 ++ [el (el t z) (el two k), el (el t (el two k)) z], by simp, by simp; omega⟩, fun j a b => ?_, ?_⟩, by omega⟩
      · have hlb : (((one ++ s1) ++ [el (el t z) (el one k), el (el t (el one k)) z]).length : Int) = ((one ++ s1).length : Int) + 2 := by simp; omega
        rw [hlb] at b
        by_cases h1 : j < ((one ++ s1).length : Int)
        · have n2 : ∀ (l : List Int) (p q : Int), j < (l.length : Int) → el (l ++ [p, q]) j = el l j := fun l p q hj => el_append_l ⟨a, hj⟩
          rw [n2 (one ++ s1) _ _ h1, n2 (two ++ s2) _ _ (by omega)]; exact hp j a h1
        · by_cases h2 : j = ((one ++ s1).length : Int)
          · have h2' : j = ((two ++ s2).length : Int) := by omega
            have q1 := n0 (one ++ s1) (el (el t z) (el one k)) (el (el t (el one k)) z)
            have q2 := n0 (two ++ s2) (el (el t z) (el two k)) (el (el t (el two k)) z)
            rw [← h2] at q1
            rw [← h2'] at q2
            rw [q1, q2]; exact ⟨c1, d1, .left z hz pu pv pc⟩
          · have h3 : j = ((one ++ s1).length : Int) + 1 := by omega
            have h3' : j = ((two ++ s2).length : Int) + 1 := by omega
            have q1 := n1 (one ++ s1) (el (el t z) (el one k)) (el (el t (el one k)) z)
            have q2 := n1 (two ++ s2) (el (el t z) (el two k)) (el (el t (el two k)) z)
            rw [← h3] at q1
            rw [← h3'] at q2
            rw [q1, q2]; exact ⟨c2, d2, .right z hz pu pv pc⟩
      · refine upto1 (fun w a b => ⟨Lst.app hll (hU w a b).1, Lst.app hll (hU w a b).2⟩) ⟨⟨((one ++ s1).length : Int), ⟨by omega, by simp; omega⟩, n0 _ _ _, ?_⟩, ⟨((one ++ s1).length : Int) + 1, ⟨by omega, by simp; omega⟩, n1 _ _ _, ?_⟩⟩
        · rw [hll]; exact n0 _ _ _
        · rw [hll]; exact n1 _ _ _
    · obtain ⟨m1, m2⟩ := from_merge hF klt hne (s1 := s1) (s2 := s2) (by omega) (by omega) hp (fun w a b => hU w a (by omega))
      exact ⟨⟨by omega, by omega⟩, m1, m2⟩
theorem p_spec_CongruenceFrom (r : List (List Int)) (x y : Int) (hp : small2 r ∧ InI x ∧ InI y) : wp_spec_CongruenceFrom r x y (fun y0 y1 => y0 = CgfT r x y ∧ y1 = CgfE r x y) := by
  unfold wp_spec_CongruenceFrom CgfT CgfE
  refine ⟨hp.1, fun h => by rw [h]; exact ⟨rfl, rfl⟩, fun h => ?_⟩
  rw [h]
  have ht := isRk_tab h
  have hn := isTab_len ht
  have ha : ([x, y].all fun z_ => decide (0 ≤ z_) && decide (z_ ≤ (r.length : Int) - 1)) = (inN (r.length : Int) x && inN (r.length : Int) y) := by simp [inN]
  rw [ha]
  refine ⟨⟨by show _ ≤ (1000000000 : Int); simp, by omega, by omega⟩, fun h2 => by rw [h2]; exact ⟨rfl, rfl⟩, fun h2 => ?_⟩
  rw [h2]
  simp only [inN, Bool.and_eq_true, decide_eq_true_eq] at h2
  exact ⟨⟨ht, by omega, by omega, by omega, by omega⟩, rfl, rfl⟩
theorem p_impl_CongruenceFrom (r : List (List Int)) (x y : Int) (hp : small2 r ∧ InI x ∧ InI y) : wp_impl_CongruenceFrom r x y (fun y0 y1 => y0 = CgfT r x y ∧ y1 = CgfE r x y) := p_spec_CongruenceFrom r x y hp
theorem cgI_is {t : List (List Int)} (ht : isTab t = true) {x y : Int} (hx : 0 ≤ x ∧ x < (t.length : Int)) (hy : 0 ≤ y ∧ y < (t.length : Int)) : CgP t x y (cgI t x y) := by
  let m : List (List Int) → List Int → Prop := fun t l => l = cgI t x y
  have hex : ∃ l, CgP t x y l := by
    have hn := isTab_len ht
    have key : ∀ (f : Nat) (L : List Int), fixs (t.length : Int) L ≤ f → Lb t x y L → el L x = el L y → ∃ l, CgP t x y l := by
      intro f
      induction f with
      | zero =>
        intro L hf hL hxy
        exfalso
        have hpos : 0 < fixs (t.length : Int) L := by
          unfold fixs
          refine List.length_pos_of_mem (a := el L x) (List.mem_filter.2 ⟨mem_ran.2 (hL.2 x hx.1 hx.2).1, decide_eq_true (hL.2 x hx.1 hx.2).2.1⟩)
        omega
      | succ f ih =>
        intro L hf hL hxy
        by_cases hC : CongP t L
        · exact ⟨_, lb_fin ht hx hy hL hxy hC⟩
        · unfold CongP at hC
          simp only [Classical.not_forall] at hC
          obtain ⟨a, b, c, d, ha, hb, hc, hd, eac, ebd, hne⟩ := hC
          have u := rk_el ht ha hb
          have v := rk_el ht hc hd
          have hcg : Cg t x y (el (el t a) b) (el (el t c) d) := .trans (.right b hb ha hc (lb_ker hL ha hc eac)) (.left c hc hb hd (lb_ker hL hb hd ebd))
          obtain ⟨k1, k2, k3, k4⟩ := jn_spec hL u v hcg
          exact ih _ (by have := k4 hne; omega) k1 (k2 x y hx hy hxy)
    obtain ⟨j1, j2, j3, j4⟩ := jn_spec (lb_unit (t := t) (x := x) (y := y)) hx hy .base
    exact key _ _ (Nat.le_refl _) j1 j3
  obtain ⟨l, h⟩ := hex
  exact the_spec h
theorem p_impl_IsSimpleRack (r : List (List Int)) (hp : small2 r) : wp_impl_IsSimpleRack r (fun y0 y1 => y0 = SimB r ∧ y1 = rkE r) := by
  unfold wp_impl_IsSimpleRack SimB rkE
  refine ⟨hp, fun h => by rw [h]; exact ⟨rfl, rfl⟩, fun h => ?_⟩
  rw [h]
  have ht := isRk_tab h
  have hn := isTab_len ht
  refine ⟨fun x => 0 ≤ x ∧ x ≤ (r.length : Int) ∧ Upto x fun x => ∀ y, 0 ≤ y → y < x → ∀ z, 0 ≤ z → z < (r.length : Int) → el (cgI r x y) z = 0, fun x => ((r.length : Int) - x).toNat, ⟨by omega, by omega, upto0⟩, ?_⟩
  rintro x ⟨x0, x1, xI⟩
  dsimp only
  refine ⟨fun xlt => ?_, fun xge => ⟨?_, rfl⟩⟩
  · refine ⟨fun y => 0 ≤ y ∧ y ≤ x ∧ Upto y fun y => ∀ z, 0 ≤ z → z < (r.length : Int) → el (cgI r x y) z = 0, fun y => (x - y).toNat, ⟨by omega, by omega, upto0⟩, ?_⟩
    rintro y ⟨y0, y1, yI⟩
    dsimp only
    refine ⟨fun ylt => ?_, fun yge => ⟨⟨by omega, by omega⟩, ⟨by omega, by omega, upto1 xI fun y a b => yI y a (by omega)⟩, by omega⟩⟩
    obtain ⟨g1, g2, g3⟩ := cgI_is ht (x := x) (y := y) ⟨x0, xlt⟩ ⟨y0, by omega⟩
    refine ⟨⟨ht, x0, xlt, y0, by omega⟩, ⟨by show _ ≤ (1000000000 : Int); omega, by omega⟩, fun h1 => ⟨?_, rfl⟩, fun h1 => ⟨⟨by omega, by omega⟩, ⟨by omega, by omega, upto1 yI fun z z0 z1 => ?_⟩, by omega⟩⟩
    · rw [decide_eq_true (show 1 < (r.length : Int) by omega), dec_f fun hS => ?_]
      · rfl
      · obtain ⟨i, hi, e⟩ := mem_el (maxI_mem (l := cgI r x y) (by omega))
        have := hS x y y0 ylt xlt i hi.1 (by omega)
        omega
    · have a := maxI_ge (l := cgI r x y) (i := z) ⟨z0, by omega⟩
      have b := (g2 z z0 (by omega)).1
      omega
  · rw [dec_t (show SimP r from fun a b b0 ba a1 z z0 z1 => xI a (by omega) (by omega) b b0 ba z z0 z1), Bool.true_and, Bool.and_true]
theorem p_spec_IsSimpleRack (r : List (List Int)) (hp : small2 r) : wp_spec_IsSimpleRack r (fun y0 y1 => y0 = SimB r ∧ y1 = rkE r) := by
  unfold wp_spec_IsSimpleRack SimB rkE
  refine ⟨hp, fun h => by rw [h]; exact ⟨rfl, rfl⟩, fun h => ?_⟩
  rw [h]
  have ht := isRk_tab h
  have hn := isTab_len ht
  refine ⟨fun x => 0 ≤ x ∧ x ≤ (r.length : Int) ∧ Upto x fun x => ∀ y, x < y → y < (r.length : Int) → ∀ z, 0 ≤ z → z < (r.length : Int) → el (cgI r x y) z = 0, fun x => ((r.length : Int) - x).toNat, ⟨by omega, by omega, upto0⟩, ?_⟩
  rintro x ⟨x0, x1, xI⟩
  dsimp only
  refine ⟨fun xlt => ⟨⟨by omega, by omega⟩, ?_⟩, fun xge => ⟨?_, rfl⟩⟩
  · refine ⟨fun y => x + 1 ≤ y ∧ y ≤ (r.length : Int) ∧ ∀ w, x < w → w < y → ∀ z, 0 ≤ z → z < (r.length : Int) → el (cgI r x w) z = 0, fun y => ((r.length : Int) - y).toNat, ⟨by omega, by omega, fun w a b => by omega⟩, ?_⟩
    rintro y ⟨y0, y1, yI⟩
    dsimp only
    refine ⟨fun ylt => ⟨⟨ht, x0, xlt, by omega, ylt⟩, ?_⟩, fun yge => ⟨⟨by omega, by omega⟩, ⟨by omega, by omega, upto1 xI fun y a b => yI y a (by omega)⟩, by omega⟩⟩
    obtain ⟨g1, g2, g3⟩ := cgI_is ht (x := x) (y := y) ⟨x0, xlt⟩ ⟨by omega, ylt⟩
    rw [g1]
    refine ⟨fun z => 0 ≤ z ∧ z ≤ (r.length : Int) ∧ Upto z fun z => el (cgI r x y) z = 0, fun z => ((r.length : Int) - z).toNat, ⟨by omega, by omega, upto0⟩, ?_⟩
    rintro z ⟨z0, z1, zI⟩
    dsimp only
    refine ⟨fun zlt => ⟨⟨z0, by omega⟩, fun h1 => ⟨?_, rfl⟩, fun h1 => ⟨⟨by omega, by omega⟩, ⟨by omega, by omega, upto1 zI h1⟩, by omega⟩⟩, fun zge => ⟨⟨by omega, by omega⟩, ⟨by omega, by omega, fun w a b c c0 c1 => ?_⟩, by omega⟩⟩
    · rw [dec_f fun hS => h1 ?_]
      · simp
      · rw [cgI_swap]; exact hS y x x0 (by omega) ylt z z0 zlt
    · by_cases e : w = y
      · subst e; exact zI c c0 (by omega)
      · exact yI w a (by omega) c c0 c1
  · rw [dec_t (show SimP r from fun a b b0 ba a1 z z0 z1 => by rw [cgI_swap]; exact xI b b0 (by omega) a ba a1 z z0 z1), Bool.true_and, Bool.and_true, Bool.eq_iff_iff, decide_eq_true_eq, decide_eq_true_eq]
    omega

set_option maxRecDepth 100000 in
set_option maxHeartbeats 4000000 in
theorem w_impl_congruenceFrom_1 (a : Int) (b : Int) (labels : List Int) (Q : Bool → List Int → Prop) (h : wp_impl_congruenceFrom_1 a b labels Q) : AM Try.prog 159 [ci a, ci b, .obox [.own (ints labels)]] (fun R_ O_ => ∃ y0 w0, Q y0 w0 ∧ R_ = cb y0 ∧ O_ = [ci a, ci b, .obox [.own (ints w0)]]) := by
  refine am_enter (n := 46) (m := 3) Try.func159 rfl (by rfl) rfl rfl (Nat.le_of_ble_eq_true rfl) [800] rfl ?_
  unfold wp_impl_congruenceFrom_1 at h
  refine aw_seq ?_
  refine aw_gh (gh_to (n := 46) (σ' := [(800, ⟨[.own (ints labels)], []⟩)]) (env' := [(0, .c (ci a)), (1, .c (ci b)), (2, .cell 800 0), (46, .c (ci a)), (47, .c (ci b)), (48, .cell 800 0)]) rfl rfl ⟨rfl, rfl, rfl, rfl, rfl, rfl, trivial⟩) ?_
  refine aw_region ?_
  refine run_s (ss_assign rfl) rfl ?_
  refine run_nil ?_
  refine aw_seq ?_
  refine aw_gh (gh_to (n := 46) (σ' := [(800, ⟨[.own (ints labels)], []⟩)]) (env' := [(0, .c (ci a)), (1, .c (ci b)), (2, .cell 800 0), (46, .c (ci a)), (47, .c (ci b)), (48, .cell 800 0)]) rfl rfl ⟨rfl, rfl, rfl, rfl, rfl, rfl, trivial⟩) ?_
  refine aw_regionD (kd := kdl [1, 0, 0, 1, 1, 0, 0, 1, 0, 1, 0, 0, 1, 1, 0, 0, 1, 0, 0, 0]) (ord := [1, 5, 10, 14, 0, 2, 3, 4, 6, 7, 8, 18, 9, 11, 12, 13, 15, 16, 17, 19]) [] mixed (by kernel_rfl) ?_
  refine rd_s rfl rfl trivial (ss_move rfl) rfl ?_
  refine rd_s rfl rfl trivial (ss_move rfl) rfl ?_
  refine rd_s rfl rfl trivial (ss_move rfl) rfl ?_
  refine rd_s rfl rfl trivial (ss_move rfl) rfl ?_
  refine rd_open 1001 (id := 800) (j := 0) rfl rfl rfl rfl rfl ?_
  refine rd_l rfl rfl trivial (ss_loadH rfl rfl rfl rfl) rfl ?_
  obtain ⟨q1, h⟩ := h
  refine rd_s rfl rfl trivial (ss_idxR (f := ci) rfl rfl rfl q1) rfl ?_
  refine rd_l rfl rfl trivial (ss_loadR (f := ci) rfl rfl q1 rfl rfl) rfl ?_
  refine rd_l rfl rfl trivial (ss_loadH rfl rfl rfl rfl) rfl ?_
  obtain ⟨q2, h⟩ := h
  refine rd_s rfl rfl trivial (ss_idxR (f := ci) rfl rfl rfl q2) rfl ?_
  refine rd_l rfl rfl trivial (ss_loadR (f := ci) rfl rfl q2 rfl rfl) rfl ?_
  refine rd_s rfl rfl trivial (ss_max rfl rfl) rfl ?_
  refine rd_s rfl rfl trivial (ss_assign rfl) rfl ?_
  refine rd_l rfl rfl trivial (ss_loadH rfl rfl rfl rfl) rfl ?_
  obtain ⟨q3, h⟩ := h
  refine rd_s rfl rfl trivial (ss_idxR (f := ci) rfl rfl rfl q3) rfl ?_
  refine rd_l rfl rfl trivial (ss_loadR (f := ci) rfl rfl q3 rfl rfl) rfl ?_
  refine rd_l rfl rfl trivial (ss_loadH rfl rfl rfl rfl) rfl ?_
  obtain ⟨q4, h⟩ := h
  refine rd_s rfl rfl trivial (ss_idxR (f := ci) rfl rfl rfl q4) rfl ?_
  refine rd_l rfl rfl trivial (ss_loadR (f := ci) rfl rfl q4 rfl rfl) rfl ?_
  refine rd_s rfl rfl trivial (ss_min rfl rfl) rfl ?_
  refine rd_s rfl rfl trivial (ss_assign rfl) rfl ?_
  refine rd_nil ?_
  refine aw_seq ?_
  refine aw_seq ?_
  refine aw_gh (gh_to (n := 46) (σ' := [(1001, ⟨ints labels, []⟩), (800, ⟨[.hole], [(0, .ref 1001)]⟩)]) (env' := [(2, .cell 800 0), (6, .c (ci (if el labels a < el labels b then el labels b else el labels a))), (7, .c (ci (if el labels b < el labels a then el labels b else el labels a))), (46, .c (ci a)), (47, .c (ci b)), (48, .cell 800 0)]) rfl rfl ⟨rfl, rfl, rfl, rfl, rfl, rfl, trivial⟩) ?_
  refine aw_region ?_
  refine run_s (ss_loadH rfl rfl rfl rfl) rfl ?_
  refine run_s (ss_lenR (f := ci) rfl rfl) rfl ?_
  refine run_s (ss_move rfl) rfl ?_
  refine run_nil ?_
  refine aw_block ?_
  obtain ⟨H1, m1, q5, h⟩ := h
  refine aw_loop2 (fun (v30_1 : Int) (o1001_1 : List Int) => ⟨[(1001, ⟨ints o1001_1, []⟩), (800, ⟨[.hole], [(0, .ref 1001)]⟩)], [(2, .cell 800 0), (6, .c (ci (if el labels a < el labels b then el labels b else el labels a))), (7, .c (ci (if el labels b < el labels a then el labels b else el labels a))), (28, .ref 1001), (29, .c (ci (labels.length : Int))), (30, .c (ci v30_1)), (46, .c (ci a)), (47, .c (ci b)), (48, .cell 800 0)], 46⟩) H1 m1 ⟨0, labels, ghe_to (n := 46) rfl rfl ⟨rfl, rfl, rfl, rfl, rfl, rfl, rfl, rfl, rfl, trivial⟩, q5⟩ ?_
  rintro v30_1 o1001_1 q5
  replace h := h v30_1 o1001_1 q5
  refine aw_seq ?_
  refine aw_region ?_
  refine run_s (ss_lss rfl rfl) rfl ?_
  refine run_nil ?_
  refine aw_seq ?_
  refine aw_cond rfl (fun q6 => ?_) (fun q6 => ?_)
  · replace h := h.1 (of_decide_eq_true q6)
    refine aw_skip ?_
    refine aw_seq ?_
    refine aw_block ?_
    refine aw_seq ?_
    refine aw_region ?_
    refine run_s (ss_move rfl) rfl ?_
    obtain ⟨q7, h⟩ := h
    refine run_s (ss_idxR (f := ci) rfl rfl rfl q7) rfl ?_
    refine run_s (ss_loadR (f := ci) rfl rfl q7 rfl rfl) rfl ?_
    refine run_s (ss_assign rfl) rfl ?_
    refine run_s (ss_assign rfl) rfl ?_
    refine run_nil ?_
    refine aw_seq ?_
    refine aw_gh (gh_to (n := 46) (σ' := [(1001, ⟨ints o1001_1, []⟩), (800, ⟨[.hole], [(0, .ref 1001)]⟩)]) (env' := [(2, .cell 800 0), (6, .c (ci (if el labels a < el labels b then el labels b else el labels a))), (7, .c (ci (if el labels b < el labels a then el labels b else el labels a))), (8, .c (ci v30_1)), (9, .c (ci (el o1001_1 v30_1))), (28, .ref 1001), (29, .c (ci (labels.length : Int))), (30, .c (ci v30_1)), (46, .c (ci a)), (47, .c (ci b)), (48, .cell 800 0)]) rfl rfl ⟨rfl, rfl, rfl, rfl, rfl, rfl, rfl, rfl, rfl, rfl, rfl, trivial⟩) ?_
    refine aw_region ?_
    refine run_s (ss_move rfl) rfl ?_
    refine run_s (ss_move rfl) rfl ?_
    refine run_s (ss_eql rfl rfl) rfl ?_
    refine run_nil ?_
    refine aw_cond rfl (fun q8 => ?_) (fun q8 => ?_)
    · replace h := h.1 (of_decide_eq_true q8)
      refine aw_gh (gh_to (n := 46) (σ' := [(1001, ⟨ints o1001_1, []⟩), (800, ⟨[.hole], [(0, .ref 1001)]⟩)]) (env' := [(2, .cell 800 0), (6, .c (ci (if el labels a < el labels b then el labels b else el labels a))), (7, .c (ci (if el labels b < el labels a then el labels b else el labels a))), (8, .c (ci v30_1)), (28, .ref 1001), (29, .c (ci (labels.length : Int))), (30, .c (ci v30_1)), (46, .c (ci a)), (47, .c (ci b)), (48, .cell 800 0)]) rfl rfl ⟨rfl, rfl, rfl, rfl, rfl, rfl, rfl, rfl, rfl, rfl, trivial⟩) ?_
      refine aw_region ?_
      refine run_s (ss_loadH rfl rfl rfl rfl) rfl ?_
      refine run_s (ss_move rfl) rfl ?_
      refine run_s (ss_move rfl) rfl ?_
      obtain ⟨q9, h⟩ := h
      refine run_s (ss_idxR (f := ci) rfl rfl rfl q9) rfl ?_
      refine run_w (ws_storeE rfl rfl (map_lt q9) rfl rfl (map_se (f := ci)) rfl ⟨rfl, ?_⟩)
      refine run_nil ?_
      refine aw_gh (gh_to (n := 46) (σ' := [(1001, ⟨ints (se o1001_1 v30_1 (if el labels b < el labels a then el labels b else el labels a)), []⟩), (800, ⟨[.hole], [(0, .ref 1001)]⟩)]) (env' := [(2, .cell 800 0), (6, .c (ci (if el labels a < el labels b then el labels b else el labels a))), (7, .c (ci (if el labels b < el labels a then el labels b else el labels a))), (28, .ref 1001), (29, .c (ci (labels.length : Int))), (30, .c (ci v30_1)), (46, .c (ci a)), (47, .c (ci b)), (48, .cell 800 0)]) rfl rfl ⟨rfl, rfl, rfl, rfl, rfl, rfl, rfl, rfl, rfl, trivial⟩) ?_
      refine aw_region ?_
      obtain ⟨q10, h⟩ := h
      refine run_s (ss_add rfl rfl q10) rfl ?_
      refine run_s (ss_move rfl) rfl ?_
      refine run_nil ?_
      exact ⟨v30_1 + 1, se o1001_1 v30_1 (if el labels b < el labels a then el labels b else el labels a), ghe_to (n := 46) rfl rfl ⟨rfl, rfl, rfl, rfl, rfl, rfl, rfl, rfl, rfl, trivial⟩, h.1, h.2⟩
    · replace h := h.2 (of_decide_eq_false q8)
      refine aw_skip ?_
      refine aw_gh (gh_to (n := 46) (σ' := [(1001, ⟨ints o1001_1, []⟩), (800, ⟨[.hole], [(0, .ref 1001)]⟩)]) (env' := [(2, .cell 800 0), (6, .c (ci (if el labels a < el labels b then el labels b else el labels a))), (7, .c (ci (if el labels b < el labels a then el labels b else el labels a))), (28, .ref 1001), (29, .c (ci (labels.length : Int))), (30, .c (ci v30_1)), (46, .c (ci a)), (47, .c (ci b)), (48, .cell 800 0)]) rfl rfl ⟨rfl, rfl, rfl, rfl, rfl, rfl, rfl, rfl, rfl, trivial⟩) ?_
      refine aw_region ?_
      obtain ⟨q11, h⟩ := h
      refine run_s (ss_add rfl rfl q11) rfl ?_
      refine run_s (ss_move rfl) rfl ?_
      refine run_nil ?_
      exact ⟨v30_1 + 1, o1001_1, ghe_to (n := 46) rfl rfl ⟨rfl, rfl, rfl, rfl, rfl, rfl, rfl, rfl, rfl, trivial⟩, h.1, h.2⟩
  · replace h := h.2 (of_decide_eq_false q6)
    refine aw_exit ?_
    refine aw_seq ?_
    refine aw_gh (gh_to (n := 46) (σ' := [(1001, ⟨ints o1001_1, []⟩), (800, ⟨[.hole], [(0, .ref 1001)]⟩)]) (env' := [(6, .c (ci (if el labels a < el labels b then el labels b else el labels a))), (7, .c (ci (if el labels b < el labels a then el labels b else el labels a))), (46, .c (ci a)), (47, .c (ci b)), (48, .cell 800 0)]) rfl rfl ⟨rfl, rfl, rfl, rfl, rfl, trivial⟩) ?_
    refine aw_region ?_
    refine run_s (ss_move rfl) rfl ?_
    refine run_s (ss_move rfl) rfl ?_
    refine run_s (ss_neq rfl rfl) rfl ?_
    refine run_s (ss_assign rfl) rfl ?_
    refine run_nil ?_
    refine aw_gh (gh_fill (id := 800) (id2 := 1001) (j := 0) rfl rfl (Nat.le_of_ble_eq_true rfl) rfl rfl rfl) ?_
    refine aw_ret ?_
    exact retAM_mk (retv1 rfl (rv_tmp rfl)) rfl rfl rfl ⟨_, _, h, rfl, rfl⟩

theorem c_impl_congruenceFrom_1 (a : Int) (b : Int) (labels : List Int) (hp : small labels ∧ 0 ≤ a ∧ a < (labels.length : Int) ∧ 0 ≤ b ∧ b < (labels.length : Int)) : AM Try.prog 159 [ci a, ci b, .obox [.own (ints labels)]] (fun R_ O_ => R_ = cb (!decide (el labels a = el labels b)) ∧ O_ = [ci a, ci b, .obox [.own (ints (jnI labels a b))]]) :=
  (w_impl_congruenceFrom_1 a b labels (fun y0 w0 => y0 = !decide (el labels a = el labels b) ∧ w0 = jnI labels a b) (p_impl_congruenceFrom_1 a b labels hp)).mono (by rintro r o ⟨_, _, ⟨rfl, rfl⟩, rfl, rfl⟩; exact ⟨rfl, rfl⟩)

set_option maxRecDepth 100000 in
set_option maxHeartbeats 4000000 in
theorem w_impl_numbered (labels : List Int) (Q : List Int → Prop) (h : wp_impl_numbered labels Q) : AF Try.prog 160 [.lst (ints labels)] (fun R_ => ∃ y0, Q y0 ∧ R_ = .own (ints y0)) := by
  refine AF.ofWQ (af_enter (n := 35) Try.func160 rfl (by rfl) rfl (Nat.le_of_ble_eq_true rfl) ?_)
  unfold wp_impl_numbered at h
  refine aw_seq ?_
  refine aw_gh (gh_to (n := 35) (σ' := []) (env' := [(0, .c (.lst (ints labels)))]) rfl rfl ⟨rfl, trivial⟩) ?_
  refine aw_region ?_
  refine run_s (ss_assign rfl) rfl ?_
  refine run_nil ?_
  refine aw_seq ?_
  refine aw_region ?_
  refine run_s (ss_assign rfl) rfl ?_
  refine run_nil ?_
  refine aw_seq ?_
  refine aw_region ?_
  refine run_s (ss_move rfl) rfl ?_
  refine run_s (ss_lenL (f := ci) rfl) rfl ?_
  obtain ⟨q1, h⟩ := h
  refine run_w (ws_mk (id := 10) ci (0 : Int) rfl rfl rfl q1 (Nat.le_of_ble_eq_true rfl) rfl ⟨rfl, ?_⟩)
  refine run_s (ss_assign rfl) rfl ?_
  refine run_nil ?_
  refine aw_seq ?_
  refine aw_seq ?_
  refine aw_region ?_
  refine run_s (ss_move rfl) rfl ?_
  refine run_s (ss_lenL (f := ci) rfl) rfl ?_
  refine run_s (ss_move rfl) rfl ?_
  refine run_nil ?_
  refine aw_block ?_
  obtain ⟨H1, m1, q2, h⟩ := h
  refine aw_loop3 (fun (v13_1 : Int) (o10_1 : List Int) (o100003_1 : List Int) => ⟨[(100003, ⟨ints o100003_1, []⟩), (10, ⟨ints o10_1, []⟩)], [(3, .ref 100003), (4, .ref 10), (11, .c (.lst (ints labels))), (12, .c (ci (labels.length : Int))), (13, .c (ci v13_1))], 35⟩) H1 m1 ⟨0, List.replicate (labels.length : Int).toNat (0 : Int), ([] : List Int), ghe_step (gh_nilE (i := 3) (id := 100003) rfl rfl) (ghe_to (n := 35) rfl rfl ⟨rfl, rfl, rfl, rfl, rfl, trivial⟩), q2⟩ ?_
  rintro v13_1 o10_1 o100003_1 q2
  replace h := h v13_1 o10_1 o100003_1 q2
  refine aw_seq ?_
  refine aw_region ?_
  refine run_s (ss_lss rfl rfl) rfl ?_
  refine run_nil ?_
  refine aw_seq ?_
  refine aw_cond rfl (fun q3 => ?_) (fun q3 => ?_)
  · replace h := h.1 (of_decide_eq_true q3)
    refine aw_skip ?_
    refine aw_seq ?_
    refine aw_block ?_
    refine aw_seq ?_
    refine aw_region ?_
    refine run_s (ss_move rfl) rfl ?_
    obtain ⟨q4, h⟩ := h
    refine run_s (ss_idxL rfl rfl q4) rfl ?_
    refine run_s (ss_loadL (f := ci) rfl q4) rfl ?_
    refine run_s (ss_assign rfl) rfl ?_
    refine run_s (ss_assign rfl) rfl ?_
    refine run_nil ?_
    refine aw_seq ?_
    refine aw_region ?_
    refine run_s (ss_move rfl) rfl ?_
    refine run_s (ss_move rfl) rfl ?_
    obtain ⟨q5, h⟩ := h
    refine run_w (ws_callR (xs := [.tmp 18, .tmp 19]) (cs := [.own (ints o100003_1), ci (el labels v13_1)]) (ids := []) rfl (.inr ⟨rfl, rfl⟩) rfl rfl (fz_cons (fz_own (fz_map (fun _ => rfl) _)) (fz_cons rfl fz_nil)) (c_k_Index o100003_1 (el labels v13_1) q5) rfl ?_ )
    rintro _ rfl
    refine ⟨rfl, rfl, ?_⟩
    refine run_s (ss_assign rfl) rfl ?_
    refine run_nil ?_
    refine aw_seq ?_
    refine aw_seq ?_
    refine aw_gh (gh_to (n := 35) (σ' := [(100003, ⟨ints o100003_1, []⟩), (10, ⟨ints o10_1, []⟩)]) (env' := [(3, .ref 100003), (4, .ref 10), (5, .c (ci v13_1)), (6, .c (ci (el labels v13_1))), (7, .c (ci (idxI o100003_1 (el labels v13_1)))), (11, .c (.lst (ints labels))), (12, .c (ci (labels.length : Int))), (13, .c (ci v13_1))]) rfl rfl ⟨rfl, rfl, rfl, rfl, rfl, rfl, rfl, rfl, trivial⟩) ?_
    refine aw_region ?_
    refine run_s (ss_move rfl) rfl ?_
    refine run_s (ss_lss rfl rfl) rfl ?_
    refine run_nil ?_
    refine aw_cond rfl (fun q7 => ?_) (fun q7 => ?_)
    · replace h := h.1 (of_decide_eq_true q7)
      refine aw_seq ?_
      refine aw_region ?_
      refine run_s (ss_move rfl) rfl ?_
      refine run_s (ss_lenR (f := ci) rfl rfl) rfl ?_
      refine run_s (ss_assign rfl) rfl ?_
      refine run_nil ?_
      refine aw_region ?_
      refine run_s (ss_move rfl) rfl ?_
      refine run_s (ss_move rfl) rfl ?_
      refine run_w (ws_buildSlice (id := 27) (ps := [(0, .tmp 26)]) rfl rfl (Nat.le_of_ble_eq_true rfl) rfl ⟨rfl, ?_⟩)
      obtain ⟨q8, h⟩ := h
      refine run_w (ws_app1 ci (l := o100003_1) (m := [el labels v13_1]) rfl rfl rfl rfl rfl (Nat.le_of_ble_eq_true rfl) q8 ⟨rfl, ?_⟩)
      refine run_s (ss_assign rfl) rfl ?_
      refine run_nil ?_
      refine aw_gh (gh_to (n := 35) (σ' := [(100003, ⟨ints (o100003_1 ++ ([el labels v13_1])), []⟩), (10, ⟨ints o10_1, []⟩)]) (env' := [(3, .ref 100003), (4, .ref 10), (5, .c (ci v13_1)), (7, .c (ci (o100003_1.length : Int))), (11, .c (.lst (ints labels))), (12, .c (ci (labels.length : Int))), (13, .c (ci v13_1))]) rfl rfl ⟨rfl, rfl, rfl, rfl, rfl, rfl, rfl, trivial⟩) ?_
      refine aw_region ?_
      refine run_s (ss_move rfl) rfl ?_
      refine run_s (ss_move rfl) rfl ?_
      refine run_s (ss_move rfl) rfl ?_
      obtain ⟨q9, h⟩ := h
      refine run_s (ss_idxR (f := ci) rfl rfl rfl q9) rfl ?_
      refine run_w (ws_storeE rfl rfl (map_lt q9) rfl rfl (map_se (f := ci)) rfl ⟨rfl, ?_⟩)
      refine run_nil ?_
      refine aw_gh (gh_to (n := 35) (σ' := [(100003, ⟨ints (o100003_1 ++ ([el labels v13_1])), []⟩), (10, ⟨ints (se o10_1 v13_1 (o100003_1.length : Int)), []⟩)]) (env' := [(3, .ref 100003), (4, .ref 10), (11, .c (.lst (ints labels))), (12, .c (ci (labels.length : Int))), (13, .c (ci v13_1))]) rfl rfl ⟨rfl, rfl, rfl, rfl, rfl, trivial⟩) ?_
      refine aw_region ?_
      obtain ⟨q10, h⟩ := h
      refine run_s (ss_add rfl rfl q10) rfl ?_
      refine run_s (ss_move rfl) rfl ?_
      refine run_nil ?_
      exact ⟨v13_1 + 1, se o10_1 v13_1 (o100003_1.length : Int), o100003_1 ++ ([el labels v13_1]), ghe_to (n := 35) rfl rfl ⟨rfl, rfl, rfl, rfl, rfl, trivial⟩, h.1, h.2⟩
    · replace h := h.2 (of_decide_eq_false q7)
      refine aw_skip ?_
      refine aw_region ?_
      refine run_s (ss_move rfl) rfl ?_
      refine run_s (ss_move rfl) rfl ?_
      refine run_s (ss_move rfl) rfl ?_
      obtain ⟨q11, h⟩ := h
      refine run_s (ss_idxR (f := ci) rfl rfl rfl q11) rfl ?_
      refine run_w (ws_storeE rfl rfl (map_lt q11) rfl rfl (map_se (f := ci)) rfl ⟨rfl, ?_⟩)
      refine run_nil ?_
      refine aw_gh (gh_to (n := 35) (σ' := [(100003, ⟨ints o100003_1, []⟩), (10, ⟨ints (se o10_1 v13_1 (idxI o100003_1 (el labels v13_1))), []⟩)]) (env' := [(3, .ref 100003), (4, .ref 10), (11, .c (.lst (ints labels))), (12, .c (ci (labels.length : Int))), (13, .c (ci v13_1))]) rfl rfl ⟨rfl, rfl, rfl, rfl, rfl, trivial⟩) ?_
      refine aw_region ?_
      obtain ⟨q12, h⟩ := h
      refine run_s (ss_add rfl rfl q12) rfl ?_
      refine run_s (ss_move rfl) rfl ?_
      refine run_nil ?_
      exact ⟨v13_1 + 1, se o10_1 v13_1 (idxI o100003_1 (el labels v13_1)), o100003_1, ghe_to (n := 35) rfl rfl ⟨rfl, rfl, rfl, rfl, rfl, trivial⟩, h.1, h.2⟩
  · replace h := h.2 (of_decide_eq_false q3)
    refine aw_exit ?_
    refine aw_seq ?_
    refine aw_gh (gh_to (n := 35) (σ' := [(100003, ⟨ints o100003_1, []⟩), (10, ⟨ints o10_1, []⟩)]) (env' := [(4, .ref 10)]) rfl rfl ⟨rfl, trivial⟩) ?_
    refine aw_region ?_
    refine run_s (ss_move rfl) rfl ?_
    refine run_s (ss_assign rfl) rfl ?_
    refine run_nil ?_
    refine aw_ret ?_
    exact retAF_mk (retv1 rfl (rv_tmp rfl)) rfl rfl ⟨_, (cle_refl _), _, h, rfl⟩

theorem c_impl_numbered (labels : List Int) (hp : small labels) : AF Try.prog 160 [.lst (ints labels)] (fun R_ => R_ = .own (ints (numI labels))) :=
  (w_impl_numbered labels (fun y0 => y0 = numI labels) (p_impl_numbered labels hp)).mono (by rintro r ⟨_, rfl, rfl⟩; rfl)

set_option maxRecDepth 100000 in
set_option maxHeartbeats 4000000 in
theorem w_spec_l04Numbered (list : List Int) (Q : List Int → Prop) (h : wp_spec_l04Numbered list Q) : AF Try.prog 161 [.lst (ints list)] (fun R_ => ∃ y0, Q y0 ∧ R_ = .own (ints y0)) := by
  refine AF.ofWQ (af_enter (n := 38) Try.func161 rfl (by rfl) rfl (Nat.le_of_ble_eq_true rfl) ?_)
  unfold wp_spec_l04Numbered at h
  refine aw_seq ?_
  refine aw_gh (gh_to (n := 38) (σ' := []) (env' := [(0, .c (.lst (ints list)))]) rfl rfl ⟨rfl, trivial⟩) ?_
  refine aw_region ?_
  refine run_s (ss_assign rfl) rfl ?_
  refine run_nil ?_
  refine aw_seq ?_
  refine aw_region ?_
  refine run_w (ws_buildSlice (id := 6) (ps := []) rfl rfl (Nat.le_of_ble_eq_true rfl) rfl ⟨rfl, ?_⟩)
  refine run_w (ws_buildSlice (id := 7) (ps := []) rfl rfl (Nat.le_of_ble_eq_true rfl) rfl ⟨rfl, ?_⟩)
  refine run_s (ss_assign rfl) rfl ?_
  refine run_s (ss_assign rfl) rfl ?_
  refine run_nil ?_
  refine aw_seq ?_
  refine aw_seq ?_
  refine aw_region ?_
  refine run_s (ss_assign rfl) rfl ?_
  refine run_nil ?_
  refine aw_block ?_
  obtain ⟨H1, m1, q1, h⟩ := h
  refine aw_loop3 (fun (v5_1 : Int) (o6_1 : List Int) (o7_1 : List Int) => ⟨[(7, ⟨ints o7_1, []⟩), (6, ⟨ints o6_1, []⟩)], [(0, .c (.lst (ints list))), (3, .ref 6), (4, .ref 7), (5, .c (ci v5_1))], 38⟩) H1 m1 ⟨0, ([] : List Int), ([] : List Int), ghe_to (n := 38) rfl rfl ⟨rfl, rfl, rfl, rfl, trivial⟩, q1⟩ ?_
  rintro v5_1 o6_1 o7_1 q1
  replace h := h v5_1 o6_1 o7_1 q1
  refine aw_seq ?_
  refine aw_seq ?_
  refine aw_region ?_
  refine run_s (ss_move rfl) rfl ?_
  refine run_s (ss_move rfl) rfl ?_
  refine run_s (ss_lenL (f := ci) rfl) rfl ?_
  refine run_s (ss_lss rfl rfl) rfl ?_
  refine run_nil ?_
  refine aw_cond rfl (fun q2 => ?_) (fun q2 => ?_)
  · replace h := h.1 (of_decide_eq_true q2)
    refine aw_skip ?_
    refine aw_seq ?_
    refine aw_block ?_
    refine aw_seq ?_
    refine aw_seq ?_
    refine aw_region ?_
    refine run_s (ss_move rfl) rfl ?_
    refine run_s (ss_move rfl) rfl ?_
    refine run_s (ss_move rfl) rfl ?_
    obtain ⟨q3, h⟩ := h
    refine run_s (ss_idxL rfl rfl q3) rfl ?_
    refine run_s (ss_loadL (f := ci) rfl q3) rfl ?_
    obtain ⟨q4, h⟩ := h
    refine run_w (ws_callR (xs := [.tmp 14, .tmp 18]) (cs := [.own (ints o7_1), ci (el list v5_1)]) (ids := []) rfl (.inr ⟨rfl, rfl⟩) rfl rfl (fz_cons (fz_own (fz_map (fun _ => rfl) _)) (fz_cons rfl fz_nil)) (c_spec_l01Has o7_1 (el list v5_1) q4) rfl ?_ )
    rintro _ rfl
    refine ⟨rfl, rfl, ?_⟩
    refine run_s (ss_not rfl) rfl ?_
    refine run_nil ?_
    refine aw_cond rfl (fun q6 => ?_) (fun q6 => ?_)
    · replace h := h.1 ((bnot_t q6))
      refine aw_gh (gh_to (n := 38) (σ' := [(7, ⟨ints o7_1, []⟩), (6, ⟨ints o6_1, []⟩)]) (env' := [(0, .c (.lst (ints list))), (3, .ref 6), (4, .ref 7), (5, .c (ci v5_1))]) rfl rfl ⟨rfl, rfl, rfl, rfl, trivial⟩) ?_
      refine aw_region ?_
      refine run_s (ss_move rfl) rfl ?_
      refine run_s (ss_move rfl) rfl ?_
      refine run_s (ss_move rfl) rfl ?_
      obtain ⟨q7, h⟩ := h
      refine run_s (ss_idxL rfl rfl q7) rfl ?_
      refine run_s (ss_loadL (f := ci) rfl q7) rfl ?_
      refine run_w (ws_buildSlice (id := 26) (ps := [(0, .tmp 25)]) rfl rfl (Nat.le_of_ble_eq_true rfl) rfl ⟨rfl, ?_⟩)
      obtain ⟨q8, h⟩ := h
      refine run_w (ws_app1 ci (l := o7_1) (m := [el list v5_1]) rfl rfl rfl rfl rfl (Nat.le_of_ble_eq_true rfl) q8 ⟨rfl, ?_⟩)
      refine run_s (ss_assign rfl) rfl ?_
      refine run_nil ?_
      refine aw_region ?_
      refine run_s (ss_move rfl) rfl ?_
      refine run_s (ss_move rfl) rfl ?_
      refine run_s (ss_move rfl) rfl ?_
      refine run_s (ss_move rfl) rfl ?_
      obtain ⟨q9, h⟩ := h
      refine run_s (ss_idxL rfl rfl q9) rfl ?_
      refine run_s (ss_loadL (f := ci) rfl q9) rfl ?_
      obtain ⟨q10, h⟩ := h
      refine run_w (ws_callR (xs := [.tmp 29, .tmp 33]) (cs := [.own (ints (o7_1 ++ ([el list v5_1]))), ci (el list v5_1)]) (ids := []) rfl (.inr ⟨rfl, rfl⟩) rfl rfl (fz_cons (fz_own (fz_map (fun _ => rfl) _)) (fz_cons rfl fz_nil)) (c_spec_l01Index (o7_1 ++ ([el list v5_1])) (el list v5_1) q10) rfl ?_ )
      rintro _ rfl
      refine ⟨rfl, rfl, ?_⟩
      refine run_w (ws_buildSlice (id := 35) (ps := [(0, .tmp 34)]) rfl rfl (Nat.le_of_ble_eq_true rfl) rfl ⟨rfl, ?_⟩)
      obtain ⟨q12, h⟩ := h
      refine run_w (ws_app1 ci (l := o6_1) (m := [idxI (o7_1 ++ ([el list v5_1])) (el list v5_1)]) rfl rfl rfl rfl rfl (Nat.le_of_ble_eq_true rfl) q12 ⟨rfl, ?_⟩)
      refine run_s (ss_assign rfl) rfl ?_
      refine run_nil ?_
      refine aw_gh (gh_to (n := 38) (σ' := [(7, ⟨ints (o7_1 ++ ([el list v5_1])), []⟩), (6, ⟨ints (o6_1 ++ ([idxI (o7_1 ++ ([el list v5_1])) (el list v5_1)])), []⟩)]) (env' := [(0, .c (.lst (ints list))), (3, .ref 6), (4, .ref 7), (5, .c (ci v5_1))]) rfl rfl ⟨rfl, rfl, rfl, rfl, trivial⟩) ?_
      refine aw_region ?_
      refine run_s (ss_move rfl) rfl ?_
      obtain ⟨q13, h⟩ := h
      refine run_s (ss_add rfl rfl q13) rfl ?_
      refine run_s (ss_assign rfl) rfl ?_
      refine run_nil ?_
      exact ⟨v5_1 + 1, o6_1 ++ ([idxI (o7_1 ++ ([el list v5_1])) (el list v5_1)]), o7_1 ++ ([el list v5_1]), ghe_to (n := 38) rfl rfl ⟨rfl, rfl, rfl, rfl, trivial⟩, h.1, h.2⟩
    · replace h := h.2 ((bnot_f q6))
      refine aw_skip ?_
      refine aw_region ?_
      refine run_s (ss_move rfl) rfl ?_
      refine run_s (ss_move rfl) rfl ?_
      refine run_s (ss_move rfl) rfl ?_
      refine run_s (ss_move rfl) rfl ?_
      obtain ⟨q14, h⟩ := h
      refine run_s (ss_idxL rfl rfl q14) rfl ?_
      refine run_s (ss_loadL (f := ci) rfl q14) rfl ?_
      obtain ⟨q15, h⟩ := h
      refine run_w (ws_callR (xs := [.tmp 29, .tmp 33]) (cs := [.own (ints o7_1), ci (el list v5_1)]) (ids := []) rfl (.inr ⟨rfl, rfl⟩) rfl rfl (fz_cons (fz_own (fz_map (fun _ => rfl) _)) (fz_cons rfl fz_nil)) (c_spec_l01Index o7_1 (el list v5_1) q15) rfl ?_ )
      rintro _ rfl
      refine ⟨rfl, rfl, ?_⟩
      refine run_w (ws_buildSlice (id := 35) (ps := [(0, .tmp 34)]) rfl rfl (Nat.le_of_ble_eq_true rfl) rfl ⟨rfl, ?_⟩)
      obtain ⟨q17, h⟩ := h
      refine run_w (ws_app1 ci (l := o6_1) (m := [idxI o7_1 (el list v5_1)]) rfl rfl rfl rfl rfl (Nat.le_of_ble_eq_true rfl) q17 ⟨rfl, ?_⟩)
      refine run_s (ss_assign rfl) rfl ?_
      refine run_nil ?_
      refine aw_gh (gh_to (n := 38) (σ' := [(7, ⟨ints o7_1, []⟩), (6, ⟨ints (o6_1 ++ ([idxI o7_1 (el list v5_1)])), []⟩)]) (env' := [(0, .c (.lst (ints list))), (3, .ref 6), (4, .ref 7), (5, .c (ci v5_1))]) rfl rfl ⟨rfl, rfl, rfl, rfl, trivial⟩) ?_
      refine aw_region ?_
      refine run_s (ss_move rfl) rfl ?_
      obtain ⟨q18, h⟩ := h
      refine run_s (ss_add rfl rfl q18) rfl ?_
      refine run_s (ss_assign rfl) rfl ?_
      refine run_nil ?_
      exact ⟨v5_1 + 1, o6_1 ++ ([idxI o7_1 (el list v5_1)]), o7_1, ghe_to (n := 38) rfl rfl ⟨rfl, rfl, rfl, rfl, trivial⟩, h.1, h.2⟩
  · replace h := h.2 (of_decide_eq_false q2)
    refine aw_exit ?_
    refine aw_seq ?_
    refine aw_gh (gh_to (n := 38) (σ' := [(7, ⟨ints o7_1, []⟩), (6, ⟨ints o6_1, []⟩)]) (env' := [(3, .ref 6)]) rfl rfl ⟨rfl, trivial⟩) ?_
    refine aw_region ?_
    refine run_s (ss_move rfl) rfl ?_
    refine run_s (ss_assign rfl) rfl ?_
    refine run_nil ?_
    refine aw_ret ?_
    exact retAF_mk (retv1 rfl (rv_tmp rfl)) rfl rfl ⟨_, (cle_refl _), _, h, rfl⟩

theorem c_spec_l04Numbered (list : List Int) (hp : small list) : AF Try.prog 161 [.lst (ints list)] (fun R_ => R_ = .own (ints (numI list))) :=
  (w_spec_l04Numbered list (fun y0 => y0 = numI list) (p_spec_l04Numbered list hp)).mono (by rintro r ⟨_, rfl, rfl⟩; rfl)

set_option maxRecDepth 100000 in
set_option maxHeartbeats 4000000 in
theorem w_impl_congruenceFrom (t : List (List Int)) (x : Int) (y : Int) (Q : List Int → Prop) (h : wp_impl_congruenceFrom t x y Q) : AF Try.prog 120 [.lst (rows t), ci x, ci y] (fun R_ => ∃ y0, Q y0 ∧ R_ = .own (ints y0)) := by
  refine AF.ofWQ (af_enter (n := 57) Try.func120 rfl (by rfl) rfl (Nat.le_of_ble_eq_true rfl) ?_)
  unfold wp_impl_congruenceFrom at h
  refine aw_seq ?_
  refine aw_gh (gh_to (n := 57) (σ' := []) (env' := [(0, .c (.lst (rows t))), (1, .c (ci x)), (2, .c (ci y))]) rfl rfl ⟨rfl, rfl, rfl, trivial⟩) ?_
  refine aw_region ?_
  refine run_s (ss_assign rfl) rfl ?_
  refine run_nil ?_
  refine aw_seq ?_
  refine aw_region ?_
  refine run_s (ss_move rfl) rfl ?_
  refine run_s (ss_lenL (f := (fun r => C.lst (ints r))) rfl) rfl ?_
  obtain ⟨q1, h⟩ := h
  refine run_w (ws_call (xs := [.tmp 13]) (ids := [14]) rfl rfl rfl rfl (c_impl_identity (t.length : Int) q1) rfl ?_ )
  rintro _ rfl
  refine ⟨rfl, ?_⟩
  refine run_w (ws_alloc (id := 7) rfl (Nat.le_of_ble_eq_true rfl) ⟨rfl, ?_⟩)
  refine run_w (ws_store rfl rfl (Nat.le_of_ble_eq_true rfl) rfl rfl ⟨rfl, ?_⟩)
  refine run_nil ?_
  refine aw_seq ?_
  refine aw_region ?_
  refine run_s (ss_makeFunc (os := [.tmp 7]) rfl) rfl ?_
  refine run_s (ss_assign rfl) rfl ?_
  refine run_nil ?_
  refine aw_seq ?_
  refine aw_region ?_
  refine run_s (ss_move rfl) rfl ?_
  refine run_s (ss_move rfl) rfl ?_
  refine run_s (ss_move rfl) rfl ?_
  refine run_gh (gh_fill (id := 7) (id2 := 14) (j := 0) rfl rfl (Nat.le_of_ble_eq_true rfl) rfl rfl rfl) ?_
  obtain ⟨q3, h⟩ := h
  refine run_w (ws_callM (xs := [.tmp 17, .tmp 18]) (cs := [ci x, ci y, .obox [.own (ints (unitI (t.length : Int)))]]) (ids := []) rfl (.inl rfl) rfl rfl rfl (c_impl_congruenceFrom_1 x y (unitI (t.length : Int)) q3) rfl rfl ?_ )
  rintro _ _ ⟨rfl, rfl⟩
  refine ⟨rfl, rfl, ?_⟩
  refine run_nil ?_
  refine aw_seq ?_
  refine aw_seq ?_
  refine aw_gh (gh_to (n := 57) (σ' := [(7, ⟨[.own (ints (jnI (unitI (t.length : Int)) x y))], []⟩)]) (env' := [(0, .c (.lst (rows t))), (7, .cell 7 0), (8, .clo 159 [.cell 7 0])]) rfl rfl ⟨rfl, rfl, rfl, trivial⟩) ?_
  refine aw_region ?_
  refine run_s (ss_assign rfl) rfl ?_
  refine run_nil ?_
  refine aw_block ?_
  obtain ⟨H1, m1, q5, h⟩ := h
  refine aw_loop2 (fun (v9_1 : Bool) (f7_0_1 : List Int) => ⟨[(7, ⟨[.own (ints f7_0_1)], []⟩)], [(0, .c (.lst (rows t))), (7, .cell 7 0), (8, .clo 159 [.cell 7 0]), (9, .c (cb v9_1))], 57⟩) H1 m1 ⟨true, jnI (unitI (t.length : Int)) x y, ghe_to (n := 57) rfl rfl ⟨rfl, rfl, rfl, rfl, trivial⟩, q5⟩ ?_
  rintro v9_1 f7_0_1 q5
  replace h := h v9_1 f7_0_1 q5
  refine aw_seq ?_
  refine aw_seq ?_
  refine aw_region ?_
  refine run_s (ss_move rfl) rfl ?_
  refine run_nil ?_
  refine aw_cond rfl (fun q6 => ?_) (fun q6 => ?_)
  · replace h := h.1 (q6)
    refine aw_skip ?_
    refine aw_block ?_
    refine aw_seq ?_
    refine aw_region ?_
    refine run_s (ss_assign rfl) rfl ?_
    refine run_nil ?_
    refine aw_seq ?_
    refine aw_region ?_
    refine run_s (ss_move rfl) rfl ?_
    refine run_s (ss_lenL (f := (fun r => C.lst (ints r))) rfl) rfl ?_
    refine run_s (ss_move rfl) rfl ?_
    refine run_nil ?_
    refine aw_block ?_
    obtain ⟨H2, m2, q7, h⟩ := h
    refine aw_loop3 (fun (v9_2 : Bool) (v23_2 : Int) (f7_0_2 : List Int) => ⟨[(7, ⟨[.own (ints f7_0_2)], []⟩)], [(0, .c (.lst (rows t))), (7, .cell 7 0), (8, .clo 159 [.cell 7 0]), (9, .c (cb v9_2)), (22, .c (ci (t.length : Int))), (23, .c (ci v23_2))], 57⟩) H2 m2 ⟨false, 0, f7_0_1, ghe_to (n := 57) rfl rfl ⟨rfl, rfl, rfl, rfl, rfl, rfl, trivial⟩, q7⟩ ?_
    rintro v9_2 v23_2 f7_0_2 q7
    replace h := h v9_2 v23_2 f7_0_2 q7
    refine aw_seq ?_
    refine aw_region ?_
    refine run_s (ss_lss rfl rfl) rfl ?_
    refine run_nil ?_
    refine aw_seq ?_
    refine aw_cond rfl (fun q8 => ?_) (fun q8 => ?_)
    · replace h := h.1 (of_decide_eq_true q8)
      refine aw_skip ?_
      refine aw_seq ?_
      refine aw_block ?_
      refine aw_seq ?_
      refine aw_region ?_
      refine run_s (ss_move rfl) rfl ?_
      refine run_s (ss_assign rfl) rfl ?_
      refine run_nil ?_
      refine aw_seq ?_
      refine aw_region ?_
      refine run_s (ss_move rfl) rfl ?_
      refine run_s (ss_lenL (f := (fun r => C.lst (ints r))) rfl) rfl ?_
      refine run_s (ss_move rfl) rfl ?_
      refine run_nil ?_
      refine aw_block ?_
      obtain ⟨H3, m3, q9, h⟩ := h
      refine aw_loop3 (fun (v9_3 : Bool) (v28_3 : Int) (f7_0_3 : List Int) => ⟨[(7, ⟨[.own (ints f7_0_3)], []⟩)], [(0, .c (.lst (rows t))), (7, .cell 7 0), (8, .clo 159 [.cell 7 0]), (9, .c (cb v9_3)), (10, .c (ci v23_2)), (22, .c (ci (t.length : Int))), (23, .c (ci v23_2)), (27, .c (ci (t.length : Int))), (28, .c (ci v28_3))], 57⟩) H3 m3 ⟨v9_2, 0, f7_0_2, ghe_to (n := 57) rfl rfl ⟨rfl, rfl, rfl, rfl, rfl, rfl, rfl, rfl, rfl, trivial⟩, q9⟩ ?_
      rintro v9_3 v28_3 f7_0_3 q9
      replace h := h v9_3 v28_3 f7_0_3 q9
      refine aw_seq ?_
      refine aw_region ?_
      refine run_s (ss_lss rfl rfl) rfl ?_
      refine run_nil ?_
      refine aw_seq ?_
      refine aw_cond rfl (fun q10 => ?_) (fun q10 => ?_)
      · replace h := h.1 (of_decide_eq_true q10)
        refine aw_skip ?_
        refine aw_seq ?_
        refine aw_block ?_
        refine aw_seq ?_
        refine aw_region ?_
        refine run_s (ss_move rfl) rfl ?_
        refine run_s (ss_assign rfl) rfl ?_
        refine run_nil ?_
        refine aw_seq ?_
        refine aw_gh (gh_to (n := 57) (σ' := [(7, ⟨[.own (ints f7_0_3)], []⟩)]) (env' := [(0, .c (.lst (rows t))), (7, .cell 7 0), (8, .clo 159 [.cell 7 0]), (9, .c (cb v9_3)), (10, .c (ci v23_2)), (11, .c (ci v28_3)), (22, .c (ci (t.length : Int))), (23, .c (ci v23_2)), (27, .c (ci (t.length : Int))), (28, .c (ci v28_3))]) rfl rfl ⟨rfl, rfl, rfl, rfl, rfl, rfl, rfl, rfl, rfl, rfl, trivial⟩) ?_
        refine aw_regionD (kd := kdl [0, 0, 0, 0, 1, 0, 0, 1, 0, 1, 0, 0, 1, 0, 1, 1, 0, 0, 1, 0, 1, 3]) (ord := [0, 1, 2, 3, 5, 8, 10, 16, 4, 6, 7, 9, 11, 12, 13, 14, 15, 17, 18, 19, 20, 21]) [] mixed (by kernel_rfl) ?_
        refine rd_s rfl rfl trivial (ss_move rfl) rfl ?_
        refine rd_s rfl rfl trivial (ss_move rfl) rfl ?_
        refine rd_s rfl rfl trivial (ss_move rfl) rfl ?_
        obtain ⟨q11, h⟩ := h
        refine rd_s rfl rfl trivial (ss_idxL rfl rfl q11) rfl ?_
        refine rd_s rfl rfl trivial (ss_move rfl) rfl ?_
        refine rd_s rfl rfl trivial (ss_move rfl) rfl ?_
        refine rd_s rfl rfl trivial (ss_move rfl) rfl ?_
        refine rd_s rfl rfl trivial (ss_move rfl) rfl ?_
        refine rd_l rfl rfl trivial (ss_loadL (f := (fun r => C.lst (ints r))) rfl q11) rfl ?_
        obtain ⟨q12, h⟩ := h
        refine rd_s rfl rfl trivial (ss_idxL rfl rfl q12) rfl ?_
        refine rd_l rfl rfl trivial (ss_loadL (f := ci) rfl q12) rfl ?_
        refine rd_open 1001 (id := 7) (j := 0) rfl rfl rfl rfl rfl ?_
        refine rd_l rfl rfl trivial (ss_loadH rfl rfl rfl rfl) rfl ?_
        obtain ⟨q13, h⟩ := h
        refine rd_s rfl rfl trivial (ss_idxR (f := ci) rfl rfl rfl q13) rfl ?_
        refine rd_l rfl rfl trivial (ss_loadR (f := ci) rfl rfl q13 rfl rfl) rfl ?_
        obtain ⟨q14, h⟩ := h
        refine rd_s rfl rfl trivial (ss_idxL rfl rfl q14) rfl ?_
        refine rd_l rfl rfl trivial (ss_loadL (f := (fun r => C.lst (ints r))) rfl q14) rfl ?_
        refine rd_l rfl rfl trivial (ss_loadH rfl rfl rfl rfl) rfl ?_
        obtain ⟨q15, h⟩ := h
        refine rd_s rfl rfl trivial (ss_idxR (f := ci) rfl rfl rfl q15) rfl ?_
        refine rd_l rfl rfl trivial (ss_loadR (f := ci) rfl rfl q15 rfl rfl) rfl ?_
        obtain ⟨q16, h⟩ := h
        refine rd_s rfl rfl trivial (ss_idxL rfl rfl q16) rfl ?_
        refine rd_l rfl rfl trivial (ss_loadL (f := ci) rfl q16) rfl ?_
        obtain ⟨q17, h⟩ := h
        refine rd_f rfl rfl trivial (ws_gh (gh_fill (id := 7) (id2 := 1001) (j := 0) rfl rfl (Nat.le_of_ble_eq_true rfl) rfl rfl rfl) (ws_callM (xs := [.tmp 38, .tmp 51]) (cs := [ci (el (el t v23_2) v28_3), ci (el (el t (el f7_0_3 v23_2)) (el f7_0_3 v28_3)), .obox [.own (ints f7_0_3)]]) (ids := []) rfl (.inl rfl) rfl rfl rfl (c_impl_congruenceFrom_1 (el (el t v23_2) v28_3) (el (el t (el f7_0_3 v23_2)) (el f7_0_3 v28_3)) f7_0_3 q17) rfl rfl ?_ ))
        rintro _ _ ⟨rfl, rfl⟩
        refine ⟨rfl, rfl, ?_⟩
        refine rd_nil ?_
        refine aw_cond rfl (fun q19 => ?_) (fun q19 => ?_)
        · replace h := h.1 (q19)
          refine aw_gh (gh_to (n := 57) (σ' := [(7, ⟨[.own (ints (jnI f7_0_3 (el (el t v23_2) v28_3) (el (el t (el f7_0_3 v23_2)) (el f7_0_3 v28_3))))], []⟩)]) (env' := [(0, .c (.lst (rows t))), (7, .cell 7 0), (8, .clo 159 [.cell 7 0]), (9, .c (cb v9_3)), (10, .c (ci v23_2)), (22, .c (ci (t.length : Int))), (23, .c (ci v23_2)), (27, .c (ci (t.length : Int))), (28, .c (ci v28_3))]) rfl rfl ⟨rfl, rfl, rfl, rfl, rfl, rfl, rfl, rfl, rfl, trivial⟩) ?_
          refine aw_region ?_
          refine run_s (ss_assign rfl) rfl ?_
          refine run_nil ?_
          refine aw_region ?_
          obtain ⟨q20, h⟩ := h
          refine run_s (ss_add rfl rfl q20) rfl ?_
          refine run_s (ss_move rfl) rfl ?_
          refine run_nil ?_
          exact ⟨true, v28_3 + 1, jnI f7_0_3 (el (el t v23_2) v28_3) (el (el t (el f7_0_3 v23_2)) (el f7_0_3 v28_3)), ghe_to (n := 57) rfl rfl ⟨rfl, rfl, rfl, rfl, rfl, rfl, rfl, rfl, rfl, trivial⟩, h.1, h.2⟩
        · replace h := h.2 (q19)
          refine aw_skip ?_
          refine aw_gh (gh_to (n := 57) (σ' := [(7, ⟨[.own (ints (jnI f7_0_3 (el (el t v23_2) v28_3) (el (el t (el f7_0_3 v23_2)) (el f7_0_3 v28_3))))], []⟩)]) (env' := [(0, .c (.lst (rows t))), (7, .cell 7 0), (8, .clo 159 [.cell 7 0]), (9, .c (cb v9_3)), (10, .c (ci v23_2)), (22, .c (ci (t.length : Int))), (23, .c (ci v23_2)), (27, .c (ci (t.length : Int))), (28, .c (ci v28_3))]) rfl rfl ⟨rfl, rfl, rfl, rfl, rfl, rfl, rfl, rfl, rfl, trivial⟩) ?_
          refine aw_region ?_
          obtain ⟨q21, h⟩ := h
          refine run_s (ss_add rfl rfl q21) rfl ?_
          refine run_s (ss_move rfl) rfl ?_
          refine run_nil ?_
          exact ⟨v9_3, v28_3 + 1, jnI f7_0_3 (el (el t v23_2) v28_3) (el (el t (el f7_0_3 v23_2)) (el f7_0_3 v28_3)), ghe_to (n := 57) rfl rfl ⟨rfl, rfl, rfl, rfl, rfl, rfl, rfl, rfl, rfl, trivial⟩, h.1, h.2⟩
      · replace h := h.2 (of_decide_eq_false q10)
        refine aw_exit ?_
        refine aw_gh (gh_to (n := 57) (σ' := [(7, ⟨[.own (ints f7_0_3)], []⟩)]) (env' := [(0, .c (.lst (rows t))), (7, .cell 7 0), (8, .clo 159 [.cell 7 0]), (9, .c (cb v9_3)), (22, .c (ci (t.length : Int))), (23, .c (ci v23_2))]) rfl rfl ⟨rfl, rfl, rfl, rfl, rfl, rfl, trivial⟩) ?_
        refine aw_region ?_
        obtain ⟨q22, h⟩ := h
        refine run_s (ss_add rfl rfl q22) rfl ?_
        refine run_s (ss_move rfl) rfl ?_
        refine run_nil ?_
        exact ⟨v9_3, v23_2 + 1, f7_0_3, ghe_to (n := 57) rfl rfl ⟨rfl, rfl, rfl, rfl, rfl, rfl, trivial⟩, h.1, h.2⟩
    · replace h := h.2 (of_decide_eq_false q8)
      refine aw_exit ?_
      exact ⟨v9_2, f7_0_2, ghe_to (n := 57) rfl rfl ⟨rfl, rfl, rfl, rfl, trivial⟩, h.1, h.2⟩
  · replace h := h.2 (q6)
    refine aw_exit ?_
    refine aw_seq ?_
    refine aw_region ?_
    refine run_gh (gh_open 1002 (id := 7) (j := 0) rfl rfl rfl) ?_
    refine run_s (ss_loadH rfl rfl rfl rfl) rfl ?_
    obtain ⟨q23, h⟩ := h
    refine run_w (ws_callR (xs := [.tmp 55]) (cs := [.own (ints f7_0_1)]) (ids := [56]) rfl (.inr ⟨rfl, rfl⟩) rfl rfl (fz_cons (fz_own (fz_map (fun _ => rfl) _)) fz_nil) (c_impl_numbered f7_0_1 q23) rfl ?_ )
    rintro _ rfl
    refine ⟨(slf_own (slfL_map (f := ci) (fun _ => rfl) _)), rfl, ?_⟩
    refine run_s (ss_assign rfl) rfl ?_
    refine run_nil ?_
    refine aw_ret ?_
    exact retAF_mk (retv1 rfl (rv_tmp rfl)) rfl rfl ⟨_, (cle_refl _), _, h, rfl⟩

theorem c_impl_congruenceFrom (t : List (List Int)) (x : Int) (y : Int) (hp : isTab t = true ∧ 0 ≤ x ∧ x < (t.length : Int) ∧ 0 ≤ y ∧ y < (t.length : Int)) : AF Try.prog 120 [.lst (rows t), ci x, ci y] (fun R_ => R_ = .own (ints (cgI t x y))) :=
  (w_impl_congruenceFrom t x y (fun y0 => y0 = cgI t x y) (p_impl_congruenceFrom t x y hp)).mono (by rintro r ⟨_, rfl, rfl⟩; rfl)

set_option maxRecDepth 100000 in
set_option maxHeartbeats 4000000 in
theorem w_spec_l04From (t : List (List Int)) (x : Int) (y : Int) (Q : List Int → Prop) (h : wp_spec_l04From t x y Q) : AF Try.prog 121 [.lst (rows t), ci x, ci y] (fun R_ => ∃ y0, Q y0 ∧ R_ = .own (ints y0)) := by
  refine AF.ofWQ (af_enter (n := 124) Try.func121 rfl (by rfl) rfl (Nat.le_of_ble_eq_true rfl) ?_)
  unfold wp_spec_l04From at h
  refine aw_seq ?_
  refine aw_gh (gh_to (n := 124) (σ' := []) (env' := [(0, .c (.lst (rows t))), (1, .c (ci x)), (2, .c (ci y))]) rfl rfl ⟨rfl, rfl, rfl, trivial⟩) ?_
  refine aw_region ?_
  refine run_s (ss_assign rfl) rfl ?_
  refine run_nil ?_
  refine aw_seq ?_
  refine aw_region ?_
  refine run_s (ss_move rfl) rfl ?_
  refine run_s (ss_lenL (f := (fun r => C.lst (ints r))) rfl) rfl ?_
  refine run_s (ss_assign rfl) rfl ?_
  refine run_nil ?_
  refine aw_seq ?_
  refine aw_region ?_
  refine run_w (ws_buildSlice (id := 19) (ps := []) rfl rfl (Nat.le_of_ble_eq_true rfl) rfl ⟨rfl, ?_⟩)
  refine run_s (ss_assign rfl) rfl ?_
  refine run_nil ?_
  refine aw_seq ?_
  refine aw_seq ?_
  refine aw_gh (gh_to (n := 124) (σ' := [(19, ⟨ints ([] : List Int), []⟩)]) (env' := [(0, .c (.lst (rows t))), (1, .c (ci x)), (2, .c (ci y)), (7, .c (ci (t.length : Int))), (8, .ref 19)]) rfl rfl ⟨rfl, rfl, rfl, rfl, rfl, trivial⟩) ?_
  refine aw_region ?_
  refine run_s (ss_assign rfl) rfl ?_
  refine run_nil ?_
  refine aw_block ?_
  obtain ⟨H1, m1, q1, h⟩ := h
  refine aw_loop2 (fun (v9_1 : Int) (o19_1 : List Int) => ⟨[(19, ⟨ints o19_1, []⟩)], [(0, .c (.lst (rows t))), (1, .c (ci x)), (2, .c (ci y)), (7, .c (ci (t.length : Int))), (8, .ref 19), (9, .c (ci v9_1))], 124⟩) H1 m1 ⟨0, ([] : List Int), ghe_to (n := 124) rfl rfl ⟨rfl, rfl, rfl, rfl, rfl, rfl, trivial⟩, q1⟩ ?_
  rintro v9_1 o19_1 q1
  replace h := h v9_1 o19_1 q1
  refine aw_seq ?_
  refine aw_seq ?_
  refine aw_region ?_
  refine run_s (ss_move rfl) rfl ?_
  refine run_s (ss_move rfl) rfl ?_
  refine run_s (ss_lss rfl rfl) rfl ?_
  refine run_nil ?_
  refine aw_cond rfl (fun q2 => ?_) (fun q2 => ?_)
  · replace h := h.1 (of_decide_eq_true q2)
    refine aw_skip ?_
    refine aw_seq ?_
    refine aw_block ?_
    refine aw_region ?_
    refine run_s (ss_move rfl) rfl ?_
    refine run_s (ss_move rfl) rfl ?_
    refine run_w (ws_buildSlice (id := 27) (ps := [(0, .tmp 26)]) rfl rfl (Nat.le_of_ble_eq_true rfl) rfl ⟨rfl, ?_⟩)
    obtain ⟨q3, h⟩ := h
    refine run_w (ws_app1 ci (l := o19_1) (m := [v9_1]) rfl rfl rfl rfl rfl (Nat.le_of_ble_eq_true rfl) q3 ⟨rfl, ?_⟩)
    refine run_s (ss_assign rfl) rfl ?_
    refine run_nil ?_
    refine aw_gh (gh_to (n := 124) (σ' := [(19, ⟨ints (o19_1 ++ ([v9_1])), []⟩)]) (env' := [(0, .c (.lst (rows t))), (1, .c (ci x)), (2, .c (ci y)), (7, .c (ci (t.length : Int))), (8, .ref 19), (9, .c (ci v9_1))]) rfl rfl ⟨rfl, rfl, rfl, rfl, rfl, rfl, trivial⟩) ?_
    refine aw_region ?_
    refine run_s (ss_move rfl) rfl ?_
    obtain ⟨q4, h⟩ := h
    refine run_s (ss_add rfl rfl q4) rfl ?_
    refine run_s (ss_assign rfl) rfl ?_
    refine run_nil ?_
    exact ⟨v9_1 + 1, o19_1 ++ ([v9_1]), ghe_to (n := 124) rfl rfl ⟨rfl, rfl, rfl, rfl, rfl, rfl, trivial⟩, h.1, h.2⟩
  · replace h := h.2 (of_decide_eq_false q2)
    refine aw_exit ?_
    refine aw_seq ?_
    refine aw_region ?_
    refine run_s (ss_move rfl) rfl ?_
    refine run_w (ws_buildSlice (id := 30) (ps := [(0, .tmp 29)]) rfl rfl (Nat.le_of_ble_eq_true rfl) rfl ⟨rfl, ?_⟩)
    refine run_s (ss_move rfl) rfl ?_
    refine run_w (ws_buildSlice (id := 32) (ps := [(0, .tmp 31)]) rfl rfl (Nat.le_of_ble_eq_true rfl) rfl ⟨rfl, ?_⟩)
    refine run_s (ss_assign rfl) rfl ?_
    refine run_s (ss_assign rfl) rfl ?_
    refine run_nil ?_
    refine aw_seq ?_
    refine aw_seq ?_
    refine aw_gh (gh_to (n := 124) (σ' := [(32, ⟨ints ([y]), []⟩), (30, ⟨ints ([x]), []⟩), (19, ⟨ints o19_1, []⟩)]) (env' := [(0, .c (.lst (rows t))), (7, .c (ci (t.length : Int))), (8, .ref 19), (10, .ref 30), (11, .ref 32)]) rfl rfl ⟨rfl, rfl, rfl, rfl, rfl, trivial⟩) ?_
    refine aw_region ?_
    refine run_s (ss_assign rfl) rfl ?_
    refine run_nil ?_
    refine aw_block ?_
    obtain ⟨H2, m2, q5, h⟩ := h
    refine aw_loop4 (fun (v12_2 : Int) (o19_2 : List Int) (o30_2 : List Int) (o32_2 : List Int) => ⟨[(32, ⟨ints o32_2, []⟩), (30, ⟨ints o30_2, []⟩), (19, ⟨ints o19_2, []⟩)], [(0, .c (.lst (rows t))), (7, .c (ci (t.length : Int))), (8, .ref 19), (10, .ref 30), (11, .ref 32), (12, .c (ci v12_2))], 124⟩) H2 m2 ⟨0, o19_1, [x], [y], ghe_to (n := 124) rfl rfl ⟨rfl, rfl, rfl, rfl, rfl, rfl, trivial⟩, q5⟩ ?_
    rintro v12_2 o19_2 o30_2 o32_2 q5
    replace h := h v12_2 o19_2 o30_2 o32_2 q5
    refine aw_seq ?_
    refine aw_seq ?_
    refine aw_region ?_
    refine run_s (ss_move rfl) rfl ?_
    refine run_s (ss_move rfl) rfl ?_
    refine run_s (ss_lenR (f := ci) rfl rfl) rfl ?_
    refine run_s (ss_lss rfl rfl) rfl ?_
    refine run_nil ?_
    refine aw_cond rfl (fun q6 => ?_) (fun q6 => ?_)
    · replace h := h.1 (of_decide_eq_true q6)
      refine aw_skip ?_
      refine aw_seq ?_
      refine aw_block ?_
      refine aw_seq ?_
      refine aw_gh (gh_to (n := 124) (σ' := [(32, ⟨ints o32_2, []⟩), (30, ⟨ints o30_2, []⟩), (19, ⟨ints o19_2, []⟩)]) (env' := [(0, .c (.lst (rows t))), (7, .c (ci (t.length : Int))), (8, .ref 19), (10, .ref 30), (11, .ref 32), (12, .c (ci v12_2))]) rfl rfl ⟨rfl, rfl, rfl, rfl, rfl, rfl, trivial⟩) ?_
      refine aw_regionD (kd := kdl [0, 0, 0, 0, 1, 0, 1, 0, 0, 0, 0, 1, 0, 1, 0, 0]) (ord := [0, 1, 2, 3, 7, 8, 9, 10, 4, 5, 6, 14, 11, 12, 13, 15]) [] mixed (by kernel_rfl) ?_
      refine rd_s rfl rfl trivial (ss_move rfl) rfl ?_
      refine rd_s rfl rfl trivial (ss_move rfl) rfl ?_
      refine rd_s rfl rfl trivial (ss_move rfl) rfl ?_
      obtain ⟨q7, h⟩ := h
      refine rd_s rfl rfl trivial (ss_idxR (f := ci) rfl rfl rfl q7) rfl ?_
      refine rd_s rfl rfl trivial (ss_move rfl) rfl ?_
      refine rd_s rfl rfl trivial (ss_move rfl) rfl ?_
      refine rd_s rfl rfl trivial (ss_move rfl) rfl ?_
      obtain ⟨q8, h⟩ := h
      refine rd_s rfl rfl trivial (ss_idxR (f := ci) rfl rfl rfl q8) rfl ?_
      refine rd_l rfl rfl trivial (ss_loadR (f := ci) rfl rfl q7 rfl rfl) rfl ?_
      obtain ⟨q9, h⟩ := h
      refine rd_s rfl rfl trivial (ss_idxR (f := ci) rfl rfl rfl q9) rfl ?_
      refine rd_l rfl rfl trivial (ss_loadR (f := ci) rfl rfl q9 rfl rfl) rfl ?_
      refine rd_s rfl rfl trivial (ss_assign rfl) rfl ?_
      refine rd_l rfl rfl trivial (ss_loadR (f := ci) rfl rfl q8 rfl rfl) rfl ?_
      obtain ⟨q10, h⟩ := h
      refine rd_s rfl rfl trivial (ss_idxR (f := ci) rfl rfl rfl q10) rfl ?_
      refine rd_l rfl rfl trivial (ss_loadR (f := ci) rfl rfl q10 rfl rfl) rfl ?_
      refine rd_s rfl rfl trivial (ss_assign rfl) rfl ?_
      refine rd_nil ?_
      refine aw_seq ?_
      refine aw_seq ?_
      refine aw_gh (gh_to (n := 124) (σ' := [(32, ⟨ints o32_2, []⟩), (30, ⟨ints o30_2, []⟩), (19, ⟨ints o19_2, []⟩)]) (env' := [(0, .c (.lst (rows t))), (7, .c (ci (t.length : Int))), (8, .ref 19), (10, .ref 30), (11, .ref 32), (12, .c (ci v12_2)), (13, .c (ci (el o19_2 (el o30_2 v12_2)))), (14, .c (ci (el o19_2 (el o32_2 v12_2))))]) rfl rfl ⟨rfl, rfl, rfl, rfl, rfl, rfl, rfl, rfl, trivial⟩) ?_
      refine aw_region ?_
      refine run_s (ss_move rfl) rfl ?_
      refine run_s (ss_move rfl) rfl ?_
      refine run_s (ss_eql rfl rfl) rfl ?_
      refine run_nil ?_
      refine aw_cond rfl (fun q11 => ?_) (fun q11 => ?_)
      · replace h := h.1 (of_decide_eq_true q11)
        refine aw_exit ?_
        refine aw_gh (gh_to (n := 124) (σ' := [(32, ⟨ints o32_2, []⟩), (30, ⟨ints o30_2, []⟩), (19, ⟨ints o19_2, []⟩)]) (env' := [(0, .c (.lst (rows t))), (7, .c (ci (t.length : Int))), (8, .ref 19), (10, .ref 30), (11, .ref 32), (12, .c (ci v12_2))]) rfl rfl ⟨rfl, rfl, rfl, rfl, rfl, rfl, trivial⟩) ?_
        refine aw_region ?_
        refine run_s (ss_move rfl) rfl ?_
        obtain ⟨q12, h⟩ := h
        refine run_s (ss_add rfl rfl q12) rfl ?_
        refine run_s (ss_assign rfl) rfl ?_
        refine run_nil ?_
        exact ⟨v12_2 + 1, o19_2, o30_2, o32_2, ghe_to (n := 124) rfl rfl ⟨rfl, rfl, rfl, rfl, rfl, rfl, trivial⟩, h.1, h.2⟩
      · replace h := h.2 (of_decide_eq_false q11)
        refine aw_skip ?_
        refine aw_seq ?_
        refine aw_seq ?_
        refine aw_region ?_
        refine run_s (ss_assign rfl) rfl ?_
        refine run_nil ?_
        refine aw_block ?_
        obtain ⟨H3, m3, q13, h⟩ := h
        refine aw_loop2 (fun (v15_3 : Int) (o19_3 : List Int) => ⟨[(32, ⟨ints o32_2, []⟩), (30, ⟨ints o30_2, []⟩), (19, ⟨ints o19_3, []⟩)], [(0, .c (.lst (rows t))), (7, .c (ci (t.length : Int))), (8, .ref 19), (10, .ref 30), (11, .ref 32), (12, .c (ci v12_2)), (13, .c (ci (el o19_2 (el o30_2 v12_2)))), (14, .c (ci (el o19_2 (el o32_2 v12_2)))), (15, .c (ci v15_3))], 124⟩) H3 m3 ⟨0, o19_2, ghe_to (n := 124) rfl rfl ⟨rfl, rfl, rfl, rfl, rfl, rfl, rfl, rfl, rfl, trivial⟩, q13⟩ ?_
        rintro v15_3 o19_3 q13
        replace h := h v15_3 o19_3 q13
        refine aw_seq ?_
        refine aw_seq ?_
        refine aw_region ?_
        refine run_s (ss_move rfl) rfl ?_
        refine run_s (ss_move rfl) rfl ?_
        refine run_s (ss_lss rfl rfl) rfl ?_
        refine run_nil ?_
        refine aw_cond rfl (fun q14 => ?_) (fun q14 => ?_)
        · replace h := h.1 (of_decide_eq_true q14)
          refine aw_skip ?_
          refine aw_seq ?_
          refine aw_block ?_
          refine aw_seq ?_
          refine aw_region ?_
          refine run_s (ss_move rfl) rfl ?_
          refine run_s (ss_move rfl) rfl ?_
          obtain ⟨q15, h⟩ := h
          refine run_s (ss_idxR (f := ci) rfl rfl rfl q15) rfl ?_
          refine run_s (ss_loadR (f := ci) rfl rfl q15 rfl rfl) rfl ?_
          refine run_s (ss_move rfl) rfl ?_
          refine run_s (ss_eql rfl rfl) rfl ?_
          refine run_nil ?_
          refine aw_cond rfl (fun q16 => ?_) (fun q16 => ?_)
          · replace h := h.1 (of_decide_eq_true q16)
            refine aw_gh (gh_to (n := 124) (σ' := [(32, ⟨ints o32_2, []⟩), (30, ⟨ints o30_2, []⟩), (19, ⟨ints o19_3, []⟩)]) (env' := [(0, .c (.lst (rows t))), (7, .c (ci (t.length : Int))), (8, .ref 19), (10, .ref 30), (11, .ref 32), (12, .c (ci v12_2)), (13, .c (ci (el o19_2 (el o30_2 v12_2)))), (14, .c (ci (el o19_2 (el o32_2 v12_2)))), (15, .c (ci v15_3))]) rfl rfl ⟨rfl, rfl, rfl, rfl, rfl, rfl, rfl, rfl, rfl, trivial⟩) ?_
            refine aw_region ?_
            refine run_s (ss_move rfl) rfl ?_
            refine run_s (ss_move rfl) rfl ?_
            refine run_s (ss_move rfl) rfl ?_
            obtain ⟨q17, h⟩ := h
            refine run_s (ss_idxR (f := ci) rfl rfl rfl q17) rfl ?_
            refine run_w (ws_storeE rfl rfl (map_lt q17) rfl rfl (map_se (f := ci)) rfl ⟨rfl, ?_⟩)
            refine run_nil ?_
            refine aw_region ?_
            refine run_s (ss_move rfl) rfl ?_
            obtain ⟨q18, h⟩ := h
            refine run_s (ss_add rfl rfl q18) rfl ?_
            refine run_s (ss_assign rfl) rfl ?_
            refine run_nil ?_
            exact ⟨v15_3 + 1, se o19_3 v15_3 (el o19_2 (el o30_2 v12_2)), ghe_to (n := 124) rfl rfl ⟨rfl, rfl, rfl, rfl, rfl, rfl, rfl, rfl, rfl, trivial⟩, h.1, h.2⟩
          · replace h := h.2 (of_decide_eq_false q16)
            refine aw_skip ?_
            refine aw_gh (gh_to (n := 124) (σ' := [(32, ⟨ints o32_2, []⟩), (30, ⟨ints o30_2, []⟩), (19, ⟨ints o19_3, []⟩)]) (env' := [(0, .c (.lst (rows t))), (7, .c (ci (t.length : Int))), (8, .ref 19), (10, .ref 30), (11, .ref 32), (12, .c (ci v12_2)), (13, .c (ci (el o19_2 (el o30_2 v12_2)))), (14, .c (ci (el o19_2 (el o32_2 v12_2)))), (15, .c (ci v15_3))]) rfl rfl ⟨rfl, rfl, rfl, rfl, rfl, rfl, rfl, rfl, rfl, trivial⟩) ?_
            refine aw_region ?_
            refine run_s (ss_move rfl) rfl ?_
            obtain ⟨q19, h⟩ := h
            refine run_s (ss_add rfl rfl q19) rfl ?_
            refine run_s (ss_assign rfl) rfl ?_
            refine run_nil ?_
            exact ⟨v15_3 + 1, o19_3, ghe_to (n := 124) rfl rfl ⟨rfl, rfl, rfl, rfl, rfl, rfl, rfl, rfl, rfl, trivial⟩, h.1, h.2⟩
        · replace h := h.2 (of_decide_eq_false q14)
          refine aw_exit ?_
          refine aw_seq ?_
          refine aw_gh (gh_to (n := 124) (σ' := [(32, ⟨ints o32_2, []⟩), (30, ⟨ints o30_2, []⟩), (19, ⟨ints o19_3, []⟩)]) (env' := [(0, .c (.lst (rows t))), (7, .c (ci (t.length : Int))), (8, .ref 19), (10, .ref 30), (11, .ref 32), (12, .c (ci v12_2))]) rfl rfl ⟨rfl, rfl, rfl, rfl, rfl, rfl, trivial⟩) ?_
          refine aw_region ?_
          refine run_s (ss_assign rfl) rfl ?_
          refine run_nil ?_
          refine aw_block ?_
          obtain ⟨H4, m4, q20, h⟩ := h
          refine aw_loop3 (fun (v16_4 : Int) (o30_4 : List Int) (o32_4 : List Int) => ⟨[(32, ⟨ints o32_4, []⟩), (30, ⟨ints o30_4, []⟩), (19, ⟨ints o19_3, []⟩)], [(0, .c (.lst (rows t))), (7, .c (ci (t.length : Int))), (8, .ref 19), (10, .ref 30), (11, .ref 32), (12, .c (ci v12_2)), (16, .c (ci v16_4))], 124⟩) H4 m4 ⟨0, o30_2, o32_2, ghe_to (n := 124) rfl rfl ⟨rfl, rfl, rfl, rfl, rfl, rfl, rfl, trivial⟩, q20⟩ ?_
          rintro v16_4 o30_4 o32_4 q20
          replace h := h v16_4 o30_4 o32_4 q20
          refine aw_seq ?_
          refine aw_seq ?_
          refine aw_region ?_
          refine run_s (ss_move rfl) rfl ?_
          refine run_s (ss_move rfl) rfl ?_
          refine run_s (ss_lss rfl rfl) rfl ?_
          refine run_nil ?_
          refine aw_cond rfl (fun q21 => ?_) (fun q21 => ?_)
          · replace h := h.1 (of_decide_eq_true q21)
            refine aw_skip ?_
            refine aw_seq ?_
            refine aw_block ?_
            refine aw_seq ?_
            refine aw_gh (gh_to (n := 124) (σ' := [(32, ⟨ints o32_4, []⟩), (30, ⟨ints o30_4, []⟩), (19, ⟨ints o19_3, []⟩)]) (env' := [(0, .c (.lst (rows t))), (7, .c (ci (t.length : Int))), (8, .ref 19), (10, .ref 30), (11, .ref 32), (12, .c (ci v12_2)), (16, .c (ci v16_4))]) rfl rfl ⟨rfl, rfl, rfl, rfl, rfl, rfl, rfl, trivial⟩) ?_
            refine aw_regionD (kd := kdl [0, 0, 0, 0, 1, 0, 0, 0, 1, 0, 1, 0, 0, 0, 0, 1, 0, 1, 0, 0, 1, 3, 3, 0]) (ord := [0, 1, 2, 3, 5, 6, 7, 11, 12, 13, 14, 18, 4, 8, 9, 10, 15, 16, 17, 19, 20, 21, 22, 23]) [] mixed (by kernel_rfl) ?_
            refine rd_s rfl rfl trivial (ss_move rfl) rfl ?_
            refine rd_s rfl rfl trivial (ss_move rfl) rfl ?_
            refine rd_s rfl rfl trivial (ss_move rfl) rfl ?_
            obtain ⟨q22, h⟩ := h
            refine rd_s rfl rfl trivial (ss_idxL rfl rfl q22) rfl ?_
            refine rd_s rfl rfl trivial (ss_move rfl) rfl ?_
            refine rd_s rfl rfl trivial (ss_move rfl) rfl ?_
            obtain ⟨q23, h⟩ := h
            refine rd_s rfl rfl trivial (ss_idxR (f := ci) rfl rfl rfl q23) rfl ?_
            refine rd_s rfl rfl trivial (ss_move rfl) rfl ?_
            refine rd_s rfl rfl trivial (ss_move rfl) rfl ?_
            refine rd_s rfl rfl trivial (ss_move rfl) rfl ?_
            obtain ⟨q24, h⟩ := h
            refine rd_s rfl rfl trivial (ss_idxR (f := ci) rfl rfl rfl q24) rfl ?_
            refine rd_s rfl rfl trivial (ss_move rfl) rfl ?_
            refine rd_l rfl rfl trivial (ss_loadL (f := (fun r => C.lst (ints r))) rfl q22) rfl ?_
            refine rd_l rfl rfl trivial (ss_loadR (f := ci) rfl rfl q24 rfl rfl) rfl ?_
            obtain ⟨q25, h⟩ := h
            refine rd_s rfl rfl trivial (ss_idxL rfl rfl q25) rfl ?_
            refine rd_l rfl rfl trivial (ss_loadL (f := ci) rfl q25) rfl ?_
            refine rd_l rfl rfl trivial (ss_loadR (f := ci) rfl rfl q24 rfl rfl) rfl ?_
            obtain ⟨q26, h⟩ := h
            refine rd_s rfl rfl trivial (ss_idxL rfl rfl q26) rfl ?_
            refine rd_l rfl rfl trivial (ss_loadL (f := (fun r => C.lst (ints r))) rfl q26) rfl ?_
            obtain ⟨q27, h⟩ := h
            refine rd_s rfl rfl trivial (ss_idxL rfl rfl q27) rfl ?_
            refine rd_l rfl rfl trivial (ss_loadL (f := ci) rfl q27) rfl ?_
            refine rd_f rfl rfl trivial (ws_buildSlice (id := 97) (ps := [(0, .tmp 86), (1, .tmp 96)]) rfl rfl (Nat.le_of_ble_eq_true rfl) rfl ⟨rfl, ?_⟩)
            obtain ⟨q28, h⟩ := h
            refine rd_f rfl rfl trivial (ws_app1 ci (l := o30_4) (m := [el (el t v16_4) (el o30_4 v12_2), el (el t (el o30_4 v12_2)) v16_4]) rfl rfl rfl rfl rfl (Nat.le_of_ble_eq_true rfl) q28 ⟨rfl, ?_⟩)
            refine rd_s rfl rfl trivial (ss_assign rfl) rfl ?_
            refine rd_nil ?_
            refine aw_gh (gh_to (n := 124) (σ' := [(32, ⟨ints o32_4, []⟩), (30, ⟨ints (o30_4 ++ ([el (el t v16_4) (el o30_4 v12_2), el (el t (el o30_4 v12_2)) v16_4])), []⟩), (19, ⟨ints o19_3, []⟩)]) (env' := [(0, .c (.lst (rows t))), (7, .c (ci (t.length : Int))), (8, .ref 19), (10, .ref 30), (11, .ref 32), (12, .c (ci v12_2)), (16, .c (ci v16_4))]) rfl rfl ⟨rfl, rfl, rfl, rfl, rfl, rfl, rfl, trivial⟩) ?_
            refine aw_regionD (kd := kdl [0, 0, 0, 0, 1, 0, 0, 0, 1, 0, 1, 0, 0, 0, 0, 1, 0, 1, 0, 0, 1, 3, 3, 0]) (ord := [0, 1, 2, 3, 5, 6, 7, 11, 12, 13, 14, 18, 4, 8, 9, 10, 15, 16, 17, 19, 20, 21, 22, 23]) [] mixed (by kernel_rfl) ?_
            refine rd_s rfl rfl trivial (ss_move rfl) rfl ?_
            refine rd_s rfl rfl trivial (ss_move rfl) rfl ?_
            refine rd_s rfl rfl trivial (ss_move rfl) rfl ?_
            obtain ⟨q29, h⟩ := h
            refine rd_s rfl rfl trivial (ss_idxL rfl rfl q29) rfl ?_
            refine rd_s rfl rfl trivial (ss_move rfl) rfl ?_
            refine rd_s rfl rfl trivial (ss_move rfl) rfl ?_
            obtain ⟨q30, h⟩ := h
            refine rd_s rfl rfl trivial (ss_idxR (f := ci) rfl rfl rfl q30) rfl ?_
            refine rd_s rfl rfl trivial (ss_move rfl) rfl ?_
            refine rd_s rfl rfl trivial (ss_move rfl) rfl ?_
            refine rd_s rfl rfl trivial (ss_move rfl) rfl ?_
            obtain ⟨q31, h⟩ := h
            refine rd_s rfl rfl trivial (ss_idxR (f := ci) rfl rfl rfl q31) rfl ?_
            refine rd_s rfl rfl trivial (ss_move rfl) rfl ?_
            refine rd_l rfl rfl trivial (ss_loadL (f := (fun r => C.lst (ints r))) rfl q29) rfl ?_
            refine rd_l rfl rfl trivial (ss_loadR (f := ci) rfl rfl q31 rfl rfl) rfl ?_
            obtain ⟨q32, h⟩ := h
            refine rd_s rfl rfl trivial (ss_idxL rfl rfl q32) rfl ?_
            refine rd_l rfl rfl trivial (ss_loadL (f := ci) rfl q32) rfl ?_
            refine rd_l rfl rfl trivial (ss_loadR (f := ci) rfl rfl q31 rfl rfl) rfl ?_
            obtain ⟨q33, h⟩ := h
            refine rd_s rfl rfl trivial (ss_idxL rfl rfl q33) rfl ?_
            refine rd_l rfl rfl trivial (ss_loadL (f := (fun r => C.lst (ints r))) rfl q33) rfl ?_
            obtain ⟨q34, h⟩ := h
            refine rd_s rfl rfl trivial (ss_idxL rfl rfl q34) rfl ?_
            refine rd_l rfl rfl trivial (ss_loadL (f := ci) rfl q34) rfl ?_
            refine rd_f rfl rfl trivial (ws_buildSlice (id := 120) (ps := [(0, .tmp 109), (1, .tmp 119)]) rfl rfl (Nat.le_of_ble_eq_true rfl) rfl ⟨rfl, ?_⟩)
            obtain ⟨q35, h⟩ := h
            refine rd_f rfl rfl trivial (ws_app1 ci (l := o32_4) (m := [el (el t v16_4) (el o32_4 v12_2), el (el t (el o32_4 v12_2)) v16_4]) rfl rfl rfl rfl rfl (Nat.le_of_ble_eq_true rfl) q35 ⟨rfl, ?_⟩)
            refine rd_s rfl rfl trivial (ss_assign rfl) rfl ?_
            refine rd_nil ?_
            refine aw_gh (gh_to (n := 124) (σ' := [(32, ⟨ints (o32_4 ++ ([el (el t v16_4) (el o32_4 v12_2), el (el t (el o32_4 v12_2)) v16_4])), []⟩), (30, ⟨ints (o30_4 ++ ([el (el t v16_4) (el o30_4 v12_2), el (el t (el o30_4 v12_2)) v16_4])), []⟩), (19, ⟨ints o19_3, []⟩)]) (env' := [(0, .c (.lst (rows t))), (7, .c (ci (t.length : Int))), (8, .ref 19), (10, .ref 30), (11, .ref 32), (12, .c (ci v12_2)), (16, .c (ci v16_4))]) rfl rfl ⟨rfl, rfl, rfl, rfl, rfl, rfl, rfl, trivial⟩) ?_
            refine aw_region ?_
            refine run_s (ss_move rfl) rfl ?_
            obtain ⟨q36, h⟩ := h
            refine run_s (ss_add rfl rfl q36) rfl ?_
            refine run_s (ss_assign rfl) rfl ?_
            refine run_nil ?_
            exact ⟨v16_4 + 1, o30_4 ++ ([el (el t v16_4) (el o30_4 v12_2), el (el t (el o30_4 v12_2)) v16_4]), o32_4 ++ ([el (el t v16_4) (el o32_4 v12_2), el (el t (el o32_4 v12_2)) v16_4]), ghe_to (n := 124) rfl rfl ⟨rfl, rfl, rfl, rfl, rfl, rfl, rfl, trivial⟩, h.1, h.2⟩
          · replace h := h.2 (of_decide_eq_false q21)
            refine aw_exit ?_
            refine aw_region ?_
            refine run_s (ss_move rfl) rfl ?_
            obtain ⟨q37, h⟩ := h
            refine run_s (ss_add rfl rfl q37) rfl ?_
            refine run_s (ss_assign rfl) rfl ?_
            refine run_nil ?_
            exact ⟨v12_2 + 1, o19_3, o30_4, o32_4, ghe_to (n := 124) rfl rfl ⟨rfl, rfl, rfl, rfl, rfl, rfl, trivial⟩, h.1, h.2⟩
    · replace h := h.2 (of_decide_eq_false q6)
      refine aw_exit ?_
      refine aw_seq ?_
      refine aw_gh (gh_to (n := 124) (σ' := [(32, ⟨ints o32_2, []⟩), (30, ⟨ints o30_2, []⟩), (19, ⟨ints o19_2, []⟩)]) (env' := [(8, .ref 19)]) rfl rfl ⟨rfl, trivial⟩) ?_
      refine aw_region ?_
      refine run_s (ss_move rfl) rfl ?_
      obtain ⟨q38, h⟩ := h
      refine run_w (ws_callR (xs := [.tmp 122]) (cs := [.own (ints o19_2)]) (ids := [123]) rfl (.inr ⟨rfl, rfl⟩) rfl rfl (fz_cons (fz_own (fz_map (fun _ => rfl) _)) fz_nil) (c_spec_l04Numbered o19_2 q38) rfl ?_ )
      rintro _ rfl
      refine ⟨(slf_own (slfL_map (f := ci) (fun _ => rfl) _)), rfl, ?_⟩
      refine run_s (ss_assign rfl) rfl ?_
      refine run_nil ?_
      refine aw_ret ?_
      exact retAF_mk (retv1 rfl (rv_tmp rfl)) rfl rfl ⟨_, (cle_refl _), _, h, rfl⟩

theorem c_spec_l04From (t : List (List Int)) (x : Int) (y : Int) (hp : isTab t = true ∧ 0 ≤ x ∧ x < (t.length : Int) ∧ 0 ≤ y ∧ y < (t.length : Int)) : AF Try.prog 121 [.lst (rows t), ci x, ci y] (fun R_ => R_ = .own (ints (cgI t x y))) :=
  (w_spec_l04From t x y (fun y0 => y0 = cgI t x y) (p_spec_l04From t x y hp)).mono (by rintro r ⟨_, rfl, rfl⟩; rfl)

set_option maxRecDepth 100000 in
set_option maxHeartbeats 4000000 in
theorem w_spec_CongruenceFrom (r : List (List Int)) (x : Int) (y : Int) (Q : List Int → Int → Prop) (h : wp_spec_CongruenceFrom r x y Q) : AF Try.prog 53 [.agg [.lst (rows r)], ci x, ci y] (fun R_ => ∃ y0 y1, Q y0 y1 ∧ R_ = .tup [.own (ints y0), ci y1]) := by
  refine AF.ofWQ (af_enter (n := 26) Try.func53 rfl (by rfl) rfl (Nat.le_of_ble_eq_true rfl) ?_)
  unfold wp_spec_CongruenceFrom at h
  refine aw_seq ?_
  refine aw_gh (gh_to (n := 26) (σ' := []) (env' := [(0, .c (.agg [.lst (rows r)])), (1, .c (ci x)), (2, .c (ci y))]) rfl rfl ⟨rfl, rfl, rfl, trivial⟩) ?_
  refine aw_region ?_
  refine run_w (ws_boxR rfl (.inl rfl) rfl ⟨rfl, ?_⟩)
  refine run_s (ss_assign rfl) rfl ?_
  refine run_s (ss_assign rfl) rfl ?_
  refine run_nil ?_
  refine aw_seq ?_
  refine aw_block ?_
  refine aw_seq ?_
  refine aw_region ?_
  refine run_s (ss_load_struct rfl (Nat.le_of_ble_eq_true rfl)) rfl ?_
  obtain ⟨q1, h⟩ := h
  refine run_w (ws_call (xs := [.tmp 9]) (ids := []) rfl rfl rfl rfl (c_spec_l03Is r q1) rfl ?_ )
  rintro _ rfl
  refine ⟨rfl, ?_⟩
  refine run_s (ss_not rfl) rfl ?_
  refine run_s (ss_assign rfl) rfl ?_
  refine run_nil ?_
  refine aw_cond rfl (fun q3 => ?_) (fun q3 => ?_)
  · replace h := h.1 ((bnot_t q3))
    refine aw_seq ?_
    refine aw_gh (gh_to (n := 26) (σ' := []) (env' := [(6, .c (cnil)), (7, .c (ci 0))]) rfl rfl ⟨rfl, rfl, trivial⟩) ?_
    refine aw_region ?_
    refine run_s (ss_assign rfl) rfl ?_
    refine run_s (ss_assign rfl) rfl ?_
    refine run_nil ?_
    refine aw_ret ?_
    exact retAF_mk (retv2 rfl (rv_tmp rfl) (rv_tmp rfl)) rfl rfl ⟨_, (cle_tup (cleL_cons cle_nilO (cleL_cons (cle_refl _) cleL_nil))), _, _, h, rfl⟩
  · replace h := h.2 ((bnot_f q3))
    refine aw_seq ?_
    refine aw_region ?_
    refine run_s (ss_field_ptr rfl) rfl ?_
    refine run_s (ss_load_ptr rfl rfl) rfl ?_
    refine run_s (ss_lenL (f := (fun r => C.lst (ints r))) rfl) rfl ?_
    refine run_s (ss_move rfl) rfl ?_
    refine run_s (ss_move rfl) rfl ?_
    refine run_w (ws_buildSlice (id := 18) (ps := [(0, .tmp 16), (1, .tmp 17)]) rfl rfl (Nat.le_of_ble_eq_true rfl) rfl ⟨rfl, ?_⟩)
    obtain ⟨q4, h⟩ := h
    refine run_w (ws_callR (xs := [.tmp 15, .tmp 18]) (cs := [ci (r.length : Int), .own (ints ([x, y]))]) (ids := []) rfl (.inr ⟨rfl, rfl⟩) rfl rfl (fz_cons rfl (fz_cons (fz_own (fz_map (fun _ => rfl) _)) fz_nil)) (c_spec_l04Elements (r.length : Int) ([x, y]) q4) rfl ?_ )
    rintro _ rfl
    refine ⟨rfl, rfl, ?_⟩
    refine run_s (ss_not rfl) rfl ?_
    refine run_s (ss_assign rfl) rfl ?_
    refine run_nil ?_
    refine aw_cond rfl (fun q6 => ?_) (fun q6 => ?_)
    · replace h := h.1 ((bnot_t q6))
      refine aw_seq ?_
      refine aw_gh (gh_to (n := 26) (σ' := [(18, ⟨ints ([x, y]), []⟩)]) (env' := [(6, .c (cnil)), (7, .c (ci 0))]) rfl rfl ⟨rfl, rfl, trivial⟩) ?_
      refine aw_region ?_
      refine run_s (ss_assign rfl) rfl ?_
      refine run_s (ss_assign rfl) rfl ?_
      refine run_nil ?_
      refine aw_ret ?_
      exact retAF_mk (retv2 rfl (rv_tmp rfl) (rv_tmp rfl)) rfl rfl ⟨_, (cle_tup (cleL_cons cle_nilO (cleL_cons (cle_refl _) cleL_nil))), _, _, h, rfl⟩
    · replace h := h.2 ((bnot_f q6))
      refine aw_skip ?_
      refine aw_seq ?_
      refine aw_gh (gh_to (n := 26) (σ' := [(18, ⟨ints ([x, y]), []⟩)]) (env' := [(1, .c (ci x)), (2, .c (ci y)), (3, .c (.ptr [.lst (rows r)])), (6, .c (cnil)), (7, .c (ci 0))]) rfl rfl ⟨rfl, rfl, rfl, rfl, rfl, trivial⟩) ?_
      refine aw_region ?_
      refine run_s (ss_field_ptr rfl) rfl ?_
      refine run_s (ss_load_ptr rfl rfl) rfl ?_
      refine run_s (ss_move rfl) rfl ?_
      refine run_s (ss_move rfl) rfl ?_
      obtain ⟨q7, h⟩ := h
      refine run_w (ws_call (xs := [.tmp 22, .tmp 23, .tmp 24]) (ids := [25]) rfl rfl rfl rfl (c_spec_l04From r x y q7) rfl ?_ )
      rintro _ rfl
      refine ⟨rfl, ?_⟩
      refine run_s (ss_assign rfl) rfl ?_
      refine run_s (ss_assign rfl) rfl ?_
      refine run_nil ?_
      refine aw_ret ?_
      exact retAF_mk (retv2 rfl (rv_tmp rfl) (rv_tmp rfl)) rfl rfl ⟨_, (cle_refl _), _, _, h, rfl⟩

theorem c_spec_CongruenceFrom (r : List (List Int)) (x : Int) (y : Int) (hp : small2 r ∧ InI x ∧ InI y) : AF Try.prog 53 [.agg [.lst (rows r)], ci x, ci y] (fun R_ => R_ = .tup [.own (ints (CgfT r x y)), ci (CgfE r x y)]) :=
  (w_spec_CongruenceFrom r x y (fun y0 y1 => y0 = CgfT r x y ∧ y1 = CgfE r x y) (p_spec_CongruenceFrom r x y hp)).mono (by rintro r ⟨_, _, ⟨rfl, rfl⟩, rfl⟩; rfl)

set_option maxRecDepth 100000 in
set_option maxHeartbeats 4000000 in
theorem w_spec_IsSimpleRack (r : List (List Int)) (Q : Bool → Int → Prop) (h : wp_spec_IsSimpleRack r Q) : AF Try.prog 55 [.agg [.lst (rows r)]] (fun R_ => ∃ y0 y1, Q y0 y1 ∧ R_ = .tup [cb y0, ci y1]) := by
  refine AF.ofWQ (af_enter (n := 45) Try.func55 rfl (by rfl) rfl (Nat.le_of_ble_eq_true rfl) ?_)
  unfold wp_spec_IsSimpleRack at h
  refine aw_seq ?_
  refine aw_gh (gh_to (n := 45) (σ' := []) (env' := [(0, .c (.agg [.lst (rows r)]))]) rfl rfl ⟨rfl, trivial⟩) ?_
  refine aw_region ?_
  refine run_w (ws_boxR rfl (.inl rfl) rfl ⟨rfl, ?_⟩)
  refine run_s (ss_assign rfl) rfl ?_
  refine run_s (ss_assign rfl) rfl ?_
  refine run_nil ?_
  refine aw_seq ?_
  refine aw_seq ?_
  refine aw_region ?_
  refine run_s (ss_load_struct rfl (Nat.le_of_ble_eq_true rfl)) rfl ?_
  obtain ⟨q1, h⟩ := h
  refine run_w (ws_call (xs := [.tmp 9]) (ids := []) rfl rfl rfl rfl (c_spec_l03Is r q1) rfl ?_ )
  rintro _ rfl
  refine ⟨rfl, ?_⟩
  refine run_s (ss_not rfl) rfl ?_
  refine run_nil ?_
  refine aw_cond rfl (fun q3 => ?_) (fun q3 => ?_)
  · replace h := h.1 ((bnot_t q3))
    refine aw_seq ?_
    refine aw_gh (gh_to (n := 45) (σ' := []) (env' := [(2, .c (cb false)), (3, .c (ci 0))]) rfl rfl ⟨rfl, rfl, trivial⟩) ?_
    refine aw_region ?_
    refine run_s (ss_assign rfl) rfl ?_
    refine run_s (ss_assign rfl) rfl ?_
    refine run_nil ?_
    refine aw_ret ?_
    exact retAF_mk (retv2 rfl (rv_tmp rfl) (rv_tmp rfl)) rfl rfl ⟨_, (cle_refl _), _, _, h, rfl⟩
  · replace h := h.2 ((bnot_f q3))
    refine aw_skip ?_
    refine aw_seq ?_
    refine aw_region ?_
    refine run_s (ss_field_ptr rfl) rfl ?_
    refine run_s (ss_load_ptr rfl rfl) rfl ?_
    refine run_s (ss_lenL (f := (fun r => C.lst (ints r))) rfl) rfl ?_
    refine run_s (ss_assign rfl) rfl ?_
    refine run_nil ?_
    refine aw_seq ?_
    refine aw_seq ?_
    refine aw_gh (gh_to (n := 45) (σ' := []) (env' := [(1, .c (.ptr [.lst (rows r)])), (4, .c (ci (r.length : Int)))]) rfl rfl ⟨rfl, rfl, trivial⟩) ?_
    refine aw_region ?_
    refine run_s (ss_assign rfl) rfl ?_
    refine run_nil ?_
    refine aw_block ?_
    obtain ⟨H1, m1, q4, h⟩ := h
    refine aw_loop1 (fun (v5_1 : Int) => ⟨[], [(1, .c (.ptr [.lst (rows r)])), (4, .c (ci (r.length : Int))), (5, .c (ci v5_1))], 45⟩) H1 m1 ⟨0, ghe_to (n := 45) rfl rfl ⟨rfl, rfl, rfl, trivial⟩, q4⟩ ?_
    rintro v5_1 q4
    replace h := h v5_1 q4
    refine aw_seq ?_
    refine aw_seq ?_
    refine aw_region ?_
    refine run_s (ss_move rfl) rfl ?_
    refine run_s (ss_move rfl) rfl ?_
    refine run_s (ss_lss rfl rfl) rfl ?_
    refine run_nil ?_
    refine aw_cond rfl (fun q5 => ?_) (fun q5 => ?_)
    · replace h := h.1 (of_decide_eq_true q5)
      refine aw_skip ?_
      refine aw_seq ?_
      refine aw_block ?_
      refine aw_seq ?_
      refine aw_region ?_
      refine run_s (ss_move rfl) rfl ?_
      obtain ⟨q6, h⟩ := h
      refine run_s (ss_add rfl rfl q6) rfl ?_
      refine run_s (ss_assign rfl) rfl ?_
      refine run_nil ?_
      refine aw_block ?_
      obtain ⟨H2, m2, q7, h⟩ := h
      refine aw_loop1 (fun (v6_2 : Int) => ⟨[], [(1, .c (.ptr [.lst (rows r)])), (4, .c (ci (r.length : Int))), (5, .c (ci v5_1)), (6, .c (ci v6_2))], 45⟩) H2 m2 ⟨v5_1 + 1, ghe_to (n := 45) rfl rfl ⟨rfl, rfl, rfl, rfl, trivial⟩, q7⟩ ?_
      rintro v6_2 q7
      replace h := h v6_2 q7
      refine aw_seq ?_
      refine aw_seq ?_
      refine aw_region ?_
      refine run_s (ss_move rfl) rfl ?_
      refine run_s (ss_move rfl) rfl ?_
      refine run_s (ss_lss rfl rfl) rfl ?_
      refine run_nil ?_
      refine aw_cond rfl (fun q8 => ?_) (fun q8 => ?_)
      · replace h := h.1 (of_decide_eq_true q8)
        refine aw_skip ?_
        refine aw_seq ?_
        refine aw_block ?_
        refine aw_seq ?_
        refine aw_region ?_
        refine run_s (ss_field_ptr rfl) rfl ?_
        refine run_s (ss_load_ptr rfl rfl) rfl ?_
        refine run_s (ss_move rfl) rfl ?_
        refine run_s (ss_move rfl) rfl ?_
        obtain ⟨q9, h⟩ := h
        refine run_w (ws_call (xs := [.tmp 28, .tmp 29, .tmp 30]) (ids := [31]) rfl rfl rfl rfl (c_spec_l04From r v5_1 v6_2 q9) rfl ?_ )
        rintro _ rfl
        refine ⟨rfl, ?_⟩
        refine run_s (ss_assign rfl) rfl ?_
        refine run_nil ?_
        refine aw_seq ?_
        refine aw_gh (gh_to (n := 45) (σ' := [(31, ⟨ints (cgI r v5_1 v6_2), []⟩)]) (env' := [(1, .c (.ptr [.lst (rows r)])), (4, .c (ci (r.length : Int))), (5, .c (ci v5_1)), (6, .c (ci v6_2)), (7, .ref 31)]) rfl rfl ⟨rfl, rfl, rfl, rfl, rfl, trivial⟩) ?_
        refine aw_region ?_
        refine run_s (ss_assign rfl) rfl ?_
        refine run_nil ?_
        refine aw_block ?_
        obtain ⟨H3, m3, q11, h⟩ := h
        refine aw_loop1 (fun (v8_3 : Int) => ⟨[(31, ⟨ints (cgI r v5_1 v6_2), []⟩)], [(1, .c (.ptr [.lst (rows r)])), (4, .c (ci (r.length : Int))), (5, .c (ci v5_1)), (6, .c (ci v6_2)), (7, .ref 31), (8, .c (ci v8_3))], 45⟩) H3 m3 ⟨0, ghe_to (n := 45) rfl rfl ⟨rfl, rfl, rfl, rfl, rfl, rfl, trivial⟩, q11⟩ ?_
        rintro v8_3 q11
        replace h := h v8_3 q11
        refine aw_seq ?_
        refine aw_seq ?_
        refine aw_region ?_
        refine run_s (ss_move rfl) rfl ?_
        refine run_s (ss_move rfl) rfl ?_
        refine run_s (ss_lenR (f := ci) rfl rfl) rfl ?_
        refine run_s (ss_lss rfl rfl) rfl ?_
        refine run_nil ?_
        refine aw_cond rfl (fun q12 => ?_) (fun q12 => ?_)
        · replace h := h.1 (of_decide_eq_true q12)
          refine aw_skip ?_
          refine aw_seq ?_
          refine aw_block ?_
          refine aw_seq ?_
          refine aw_region ?_
          refine run_s (ss_move rfl) rfl ?_
          refine run_s (ss_move rfl) rfl ?_
          obtain ⟨q13, h⟩ := h
          refine run_s (ss_idxR (f := ci) rfl rfl rfl q13) rfl ?_
          refine run_s (ss_loadR (f := ci) rfl rfl q13 rfl rfl) rfl ?_
          refine run_s (ss_neq rfl rfl) rfl ?_
          refine run_nil ?_
          refine aw_cond rfl (fun q14 => ?_) (fun q14 => ?_)
          · replace h := h.1 (of_decide_eq_false (bnot_t q14))
            refine aw_seq ?_
            refine aw_gh (gh_to (n := 45) (σ' := [(31, ⟨ints (cgI r v5_1 v6_2), []⟩)]) (env' := []) rfl rfl trivial) ?_
            refine aw_region ?_
            refine run_s (ss_assign rfl) rfl ?_
            refine run_s (ss_assign rfl) rfl ?_
            refine run_nil ?_
            refine aw_ret ?_
            exact retAF_mk (retv2 rfl (rv_tmp rfl) (rv_tmp rfl)) rfl rfl ⟨_, (cle_refl _), _, _, h, rfl⟩
          · replace h := h.2 (of_decide_eq_true (bnot_f q14))
            refine aw_skip ?_
            refine aw_gh (gh_to (n := 45) (σ' := [(31, ⟨ints (cgI r v5_1 v6_2), []⟩)]) (env' := [(1, .c (.ptr [.lst (rows r)])), (4, .c (ci (r.length : Int))), (5, .c (ci v5_1)), (6, .c (ci v6_2)), (7, .ref 31), (8, .c (ci v8_3))]) rfl rfl ⟨rfl, rfl, rfl, rfl, rfl, rfl, trivial⟩) ?_
            refine aw_region ?_
            refine run_s (ss_move rfl) rfl ?_
            obtain ⟨q15, h⟩ := h
            refine run_s (ss_add rfl rfl q15) rfl ?_
            refine run_s (ss_assign rfl) rfl ?_
            refine run_nil ?_
            exact ⟨v8_3 + 1, ghe_to (n := 45) rfl rfl ⟨rfl, rfl, rfl, rfl, rfl, rfl, trivial⟩, h.1, h.2⟩
        · replace h := h.2 (of_decide_eq_false q12)
          refine aw_exit ?_
          refine aw_gh (gh_to (n := 45) (σ' := [(31, ⟨ints (cgI r v5_1 v6_2), []⟩)]) (env' := [(1, .c (.ptr [.lst (rows r)])), (4, .c (ci (r.length : Int))), (5, .c (ci v5_1)), (6, .c (ci v6_2))]) rfl rfl ⟨rfl, rfl, rfl, rfl, trivial⟩) ?_
          refine aw_region ?_
          refine run_s (ss_move rfl) rfl ?_
          obtain ⟨q16, h⟩ := h
          refine run_s (ss_add rfl rfl q16) rfl ?_
          refine run_s (ss_assign rfl) rfl ?_
          refine run_nil ?_
          exact ⟨v6_2 + 1, ghe_step (gh_frzE (id := 31) ci rfl (fun _ => rfl)) (ghe_to (n := 45) rfl rfl ⟨rfl, rfl, rfl, rfl, trivial⟩), h.1, h.2⟩
      · replace h := h.2 (of_decide_eq_false q8)
        refine aw_exit ?_
        refine aw_region ?_
        refine run_s (ss_move rfl) rfl ?_
        obtain ⟨q17, h⟩ := h
        refine run_s (ss_add rfl rfl q17) rfl ?_
        refine run_s (ss_assign rfl) rfl ?_
        refine run_nil ?_
        exact ⟨v5_1 + 1, ghe_to (n := 45) rfl rfl ⟨rfl, rfl, rfl, trivial⟩, h.1, h.2⟩
    · replace h := h.2 (of_decide_eq_false q5)
      refine aw_exit ?_
      refine aw_seq ?_
      refine aw_region ?_
      refine run_s (ss_move rfl) rfl ?_
      refine run_s (ss_geq rfl rfl) rfl ?_
      refine run_s (ss_assign rfl) rfl ?_
      refine run_s (ss_assign rfl) rfl ?_
      refine run_nil ?_
      refine aw_ret ?_
      exact retAF_mk (retv2 rfl (rv_tmp rfl) (rv_tmp rfl)) rfl rfl ⟨_, (cle_refl _), _, _, h, rfl⟩

theorem c_spec_IsSimpleRack (r : List (List Int)) (hp : small2 r) : AF Try.prog 55 [.agg [.lst (rows r)]] (fun R_ => R_ = .tup [cb (SimB r), ci (rkE r)]) :=
  (w_spec_IsSimpleRack r (fun y0 y1 => y0 = SimB r ∧ y1 = rkE r) (p_spec_IsSimpleRack r hp)).mono (by rintro r ⟨_, _, ⟨rfl, rfl⟩, rfl⟩; rfl)

set_option maxRecDepth 100000 in
set_option maxHeartbeats 4000000 in
theorem w_impl_CongruenceFrom (r : List (List Int)) (x : Int) (y : Int) (Q : List Int → Int → Prop) (h : wp_impl_CongruenceFrom r x y Q) : AF Try.prog 52 [.agg [.lst (rows r)], ci x, ci y] (fun R_ => ∃ y0 y1, Q y0 y1 ∧ R_ = .tup [.own (ints y0), ci y1]) := by
  refine AF.ofWQ (af_enter (n := 24) Try.func52 rfl (by rfl) rfl (Nat.le_of_ble_eq_true rfl) ?_)
  unfold wp_impl_CongruenceFrom at h
  refine aw_seq ?_
  refine aw_gh (gh_to (n := 24) (σ' := []) (env' := [(0, .c (.agg [.lst (rows r)])), (1, .c (ci x)), (2, .c (ci y))]) rfl rfl ⟨rfl, rfl, rfl, trivial⟩) ?_
  refine aw_region ?_
  refine run_w (ws_boxR rfl (.inl rfl) rfl ⟨rfl, ?_⟩)
  refine run_s (ss_assign rfl) rfl ?_
  refine run_s (ss_assign rfl) rfl ?_
  refine run_nil ?_
  refine aw_seq ?_
  refine aw_seq ?_
  refine aw_region ?_
  refine run_s (ss_load_struct rfl (Nat.le_of_ble_eq_true rfl)) rfl ?_
  obtain ⟨q1, h⟩ := h
  refine run_w (ws_call (xs := [.tmp 8]) (ids := []) rfl rfl rfl rfl (c_impl_IsRack r q1) rfl ?_ )
  rintro _ rfl
  refine ⟨rfl, ?_⟩
  refine run_s (ss_not rfl) rfl ?_
  refine run_nil ?_
  refine aw_cond rfl (fun q3 => ?_) (fun q3 => ?_)
  · replace h := h.1 ((bnot_t q3))
    refine aw_seq ?_
    refine aw_gh (gh_to (n := 24) (σ' := []) (env' := [(6, .c (cnil)), (7, .c (ci 0))]) rfl rfl ⟨rfl, rfl, trivial⟩) ?_
    refine aw_region ?_
    refine run_s (ss_assign rfl) rfl ?_
    refine run_s (ss_assign rfl) rfl ?_
    refine run_nil ?_
    refine aw_ret ?_
    exact retAF_mk (retv2 rfl (rv_tmp rfl) (rv_tmp rfl)) rfl rfl ⟨_, (cle_tup (cleL_cons cle_nilO (cleL_cons (cle_refl _) cleL_nil))), _, _, h, rfl⟩
  · replace h := h.2 ((bnot_f q3))
    refine aw_skip ?_
    refine aw_seq ?_
    refine aw_seq ?_
    refine aw_region ?_
    refine run_s (ss_field_ptr rfl) rfl ?_
    refine run_s (ss_load_ptr rfl rfl) rfl ?_
    refine run_s (ss_lenL (f := (fun r => C.lst (ints r))) rfl) rfl ?_
    refine run_s (ss_move rfl) rfl ?_
    refine run_s (ss_move rfl) rfl ?_
    refine run_w (ws_buildSlice (id := 16) (ps := [(0, .tmp 14), (1, .tmp 15)]) rfl rfl (Nat.le_of_ble_eq_true rfl) rfl ⟨rfl, ?_⟩)
    obtain ⟨q4, h⟩ := h
    refine run_w (ws_callR (xs := [.tmp 13, .tmp 16]) (cs := [ci (r.length : Int), .own (ints ([x, y]))]) (ids := []) rfl (.inr ⟨rfl, rfl⟩) rfl rfl (fz_cons rfl (fz_cons (fz_own (fz_map (fun _ => rfl) _)) fz_nil)) (c_impl_areElements (r.length : Int) ([x, y]) q4) rfl ?_ )
    rintro _ rfl
    refine ⟨rfl, rfl, ?_⟩
    refine run_s (ss_not rfl) rfl ?_
    refine run_nil ?_
    refine aw_cond rfl (fun q6 => ?_) (fun q6 => ?_)
    · replace h := h.1 ((bnot_t q6))
      refine aw_seq ?_
      refine aw_gh (gh_to (n := 24) (σ' := [(16, ⟨ints ([x, y]), []⟩)]) (env' := [(6, .c (cnil)), (7, .c (ci 0))]) rfl rfl ⟨rfl, rfl, trivial⟩) ?_
      refine aw_region ?_
      refine run_s (ss_assign rfl) rfl ?_
      refine run_s (ss_assign rfl) rfl ?_
      refine run_nil ?_
      refine aw_ret ?_
      exact retAF_mk (retv2 rfl (rv_tmp rfl) (rv_tmp rfl)) rfl rfl ⟨_, (cle_tup (cleL_cons cle_nilO (cleL_cons (cle_refl _) cleL_nil))), _, _, h, rfl⟩
    · replace h := h.2 ((bnot_f q6))
      refine aw_skip ?_
      refine aw_seq ?_
      refine aw_gh (gh_to (n := 24) (σ' := [(16, ⟨ints ([x, y]), []⟩)]) (env' := [(1, .c (ci x)), (2, .c (ci y)), (3, .c (.ptr [.lst (rows r)])), (6, .c (cnil)), (7, .c (ci 0))]) rfl rfl ⟨rfl, rfl, rfl, rfl, rfl, trivial⟩) ?_
      refine aw_region ?_
      refine run_s (ss_field_ptr rfl) rfl ?_
      refine run_s (ss_load_ptr rfl rfl) rfl ?_
      refine run_s (ss_move rfl) rfl ?_
      refine run_s (ss_move rfl) rfl ?_
      obtain ⟨q7, h⟩ := h
      refine run_w (ws_call (xs := [.tmp 20, .tmp 21, .tmp 22]) (ids := [23]) rfl rfl rfl rfl (c_impl_congruenceFrom r x y q7) rfl ?_ )
      rintro _ rfl
      refine ⟨rfl, ?_⟩
      refine run_s (ss_assign rfl) rfl ?_
      refine run_s (ss_assign rfl) rfl ?_
      refine run_nil ?_
      refine aw_ret ?_
      exact retAF_mk (retv2 rfl (rv_tmp rfl) (rv_tmp rfl)) rfl rfl ⟨_, (cle_refl _), _, _, h, rfl⟩

theorem c_impl_CongruenceFrom (r : List (List Int)) (x : Int) (y : Int) (hp : small2 r ∧ InI x ∧ InI y) : AF Try.prog 52 [.agg [.lst (rows r)], ci x, ci y] (fun R_ => R_ = .tup [.own (ints (CgfT r x y)), ci (CgfE r x y)]) :=
  (w_impl_CongruenceFrom r x y (fun y0 y1 => y0 = CgfT r x y ∧ y1 = CgfE r x y) (p_impl_CongruenceFrom r x y hp)).mono (by rintro r ⟨_, _, ⟨rfl, rfl⟩, rfl⟩; rfl)

set_option maxRecDepth 100000 in
set_option maxHeartbeats 4000000 in
theorem w_impl_IsSimpleRack (r : List (List Int)) (Q : Bool → Int → Prop) (h : wp_impl_IsSimpleRack r Q) : AF Try.prog 54 [.agg [.lst (rows r)]] (fun R_ => ∃ y0 y1, Q y0 y1 ∧ R_ = .tup [cb y0, ci y1]) := by
  refine AF.ofWQ (af_enter (n := 32) Try.func54 rfl (by rfl) rfl (Nat.le_of_ble_eq_true rfl) ?_)
  unfold wp_impl_IsSimpleRack at h
  refine aw_seq ?_
  refine aw_gh (gh_to (n := 32) (σ' := []) (env' := [(0, .c (.agg [.lst (rows r)]))]) rfl rfl ⟨rfl, trivial⟩) ?_
  refine aw_region ?_
  refine run_w (ws_boxR rfl (.inl rfl) rfl ⟨rfl, ?_⟩)
  refine run_s (ss_assign rfl) rfl ?_
  refine run_s (ss_assign rfl) rfl ?_
  refine run_nil ?_
  refine aw_seq ?_
  refine aw_seq ?_
  refine aw_region ?_
  refine run_s (ss_load_struct rfl (Nat.le_of_ble_eq_true rfl)) rfl ?_
  obtain ⟨q1, h⟩ := h
  refine run_w (ws_call (xs := [.tmp 7]) (ids := []) rfl rfl rfl rfl (c_impl_IsRack r q1) rfl ?_ )
  rintro _ rfl
  refine ⟨rfl, ?_⟩
  refine run_s (ss_not rfl) rfl ?_
  refine run_nil ?_
  refine aw_cond rfl (fun q3 => ?_) (fun q3 => ?_)
  · replace h := h.1 ((bnot_t q3))
    refine aw_seq ?_
    refine aw_gh (gh_to (n := 32) (σ' := []) (env' := [(2, .c (cb false)), (3, .c (ci 0))]) rfl rfl ⟨rfl, rfl, trivial⟩) ?_
    refine aw_region ?_
    refine run_s (ss_assign rfl) rfl ?_
    refine run_s (ss_assign rfl) rfl ?_
    refine run_nil ?_
    refine aw_ret ?_
    exact retAF_mk (retv2 rfl (rv_tmp rfl) (rv_tmp rfl)) rfl rfl ⟨_, (cle_refl _), _, _, h, rfl⟩
  · replace h := h.2 ((bnot_f q3))
    refine aw_skip ?_
    refine aw_seq ?_
    refine aw_region ?_
    refine run_s (ss_field_ptr rfl) rfl ?_
    refine run_s (ss_load_ptr rfl rfl) rfl ?_
    refine run_s (ss_lenL (f := (fun r => C.lst (ints r))) rfl) rfl ?_
    refine run_s (ss_assign rfl) rfl ?_
    refine run_nil ?_
    refine aw_seq ?_
    refine aw_seq ?_
    refine aw_gh (gh_to (n := 32) (σ' := []) (env' := [(1, .c (.ptr [.lst (rows r)])), (4, .c (ci (r.length : Int)))]) rfl rfl ⟨rfl, rfl, trivial⟩) ?_
    refine aw_region ?_
    refine run_s (ss_move rfl) rfl ?_
    refine run_s (ss_move rfl) rfl ?_
    refine run_nil ?_
    refine aw_block ?_
    obtain ⟨H1, m1, q4, h⟩ := h
    refine aw_loop1 (fun (v14_1 : Int) => ⟨[], [(1, .c (.ptr [.lst (rows r)])), (4, .c (ci (r.length : Int))), (13, .c (ci (r.length : Int))), (14, .c (ci v14_1))], 32⟩) H1 m1 ⟨0, ghe_to (n := 32) rfl rfl ⟨rfl, rfl, rfl, rfl, trivial⟩, q4⟩ ?_
    rintro v14_1 q4
    replace h := h v14_1 q4
    refine aw_seq ?_
    refine aw_region ?_
    refine run_s (ss_lss rfl rfl) rfl ?_
    refine run_nil ?_
    refine aw_seq ?_
    refine aw_cond rfl (fun q5 => ?_) (fun q5 => ?_)
    · replace h := h.1 (of_decide_eq_true q5)
      refine aw_skip ?_
      refine aw_seq ?_
      refine aw_block ?_
      refine aw_seq ?_
      refine aw_region ?_
      refine run_s (ss_move rfl) rfl ?_
      refine run_s (ss_assign rfl) rfl ?_
      refine run_nil ?_
      refine aw_seq ?_
      refine aw_region ?_
      refine run_s (ss_move rfl) rfl ?_
      refine run_s (ss_move rfl) rfl ?_
      refine run_nil ?_
      refine aw_block ?_
      obtain ⟨H2, m2, q6, h⟩ := h
      refine aw_loop1 (fun (v18_2 : Int) => ⟨[], [(1, .c (.ptr [.lst (rows r)])), (4, .c (ci (r.length : Int))), (5, .c (ci v14_1)), (13, .c (ci (r.length : Int))), (14, .c (ci v14_1)), (17, .c (ci v14_1)), (18, .c (ci v18_2))], 32⟩) H2 m2 ⟨0, ghe_to (n := 32) rfl rfl ⟨rfl, rfl, rfl, rfl, rfl, rfl, rfl, trivial⟩, q6⟩ ?_
      rintro v18_2 q6
      replace h := h v18_2 q6
      refine aw_seq ?_
      refine aw_region ?_
      refine run_s (ss_lss rfl rfl) rfl ?_
      refine run_nil ?_
      refine aw_seq ?_
      refine aw_cond rfl (fun q7 => ?_) (fun q7 => ?_)
      · replace h := h.1 (of_decide_eq_true q7)
        refine aw_skip ?_
        refine aw_seq ?_
        refine aw_block ?_
        refine aw_seq ?_
        refine aw_region ?_
        refine run_s (ss_move rfl) rfl ?_
        refine run_s (ss_assign rfl) rfl ?_
        refine run_nil ?_
        refine aw_seq ?_
        refine aw_region ?_
        refine run_s (ss_field_ptr rfl) rfl ?_
        refine run_s (ss_load_ptr rfl rfl) rfl ?_
        refine run_s (ss_move rfl) rfl ?_
        refine run_s (ss_move rfl) rfl ?_
        obtain ⟨q8, h⟩ := h
        refine run_w (ws_call (xs := [.tmp 22, .tmp 23, .tmp 24]) (ids := [25]) rfl rfl rfl rfl (c_impl_congruenceFrom r v14_1 v18_2 q8) rfl ?_ )
        rintro _ rfl
        refine ⟨rfl, ?_⟩
        obtain ⟨q10, h⟩ := h
        refine run_w (ws_callR (xs := [.tmp 25]) (cs := [.own (ints (cgI r v14_1 v18_2))]) (ids := []) rfl (.inr ⟨rfl, rfl⟩) rfl rfl (fz_cons (fz_own (fz_map (fun _ => rfl) _)) fz_nil) (c_k_Max (cgI r v14_1 v18_2) q10) rfl ?_ )
        rintro _ rfl
        refine ⟨rfl, rfl, ?_⟩
        refine run_s (ss_gtr rfl rfl) rfl ?_
        refine run_nil ?_
        refine aw_cond rfl (fun q12 => ?_) (fun q12 => ?_)
        · replace h := h.1 (of_decide_eq_true q12)
          refine aw_seq ?_
          refine aw_gh (gh_to (n := 32) (σ' := [(25, ⟨ints (cgI r v14_1 v18_2), []⟩)]) (env' := []) rfl rfl trivial) ?_
          refine aw_region ?_
          refine run_s (ss_assign rfl) rfl ?_
          refine run_s (ss_assign rfl) rfl ?_
          refine run_nil ?_
          refine aw_ret ?_
          exact retAF_mk (retv2 rfl (rv_tmp rfl) (rv_tmp rfl)) rfl rfl ⟨_, (cle_refl _), _, _, h, rfl⟩
        · replace h := h.2 (of_decide_eq_false q12)
          refine aw_skip ?_
          refine aw_gh (gh_to (n := 32) (σ' := [(25, ⟨ints (cgI r v14_1 v18_2), []⟩)]) (env' := [(1, .c (.ptr [.lst (rows r)])), (4, .c (ci (r.length : Int))), (5, .c (ci v14_1)), (13, .c (ci (r.length : Int))), (14, .c (ci v14_1)), (17, .c (ci v14_1)), (18, .c (ci v18_2))]) rfl rfl ⟨rfl, rfl, rfl, rfl, rfl, rfl, rfl, trivial⟩) ?_
          refine aw_region ?_
          obtain ⟨q13, h⟩ := h
          refine run_s (ss_add rfl rfl q13) rfl ?_
          refine run_s (ss_move rfl) rfl ?_
          refine run_nil ?_
          exact ⟨v18_2 + 1, ghe_step (gh_frzE (id := 25) ci rfl (fun _ => rfl)) (ghe_to (n := 32) rfl rfl ⟨rfl, rfl, rfl, rfl, rfl, rfl, rfl, trivial⟩), h.1, h.2⟩
      · replace h := h.2 (of_decide_eq_false q7)
        refine aw_exit ?_
        refine aw_gh (gh_to (n := 32) (σ' := []) (env' := [(1, .c (.ptr [.lst (rows r)])), (4, .c (ci (r.length : Int))), (13, .c (ci (r.length : Int))), (14, .c (ci v14_1))]) rfl rfl ⟨rfl, rfl, rfl, rfl, trivial⟩) ?_
        refine aw_region ?_
        obtain ⟨q14, h⟩ := h
        refine run_s (ss_add rfl rfl q14) rfl ?_
        refine run_s (ss_move rfl) rfl ?_
        refine run_nil ?_
        exact ⟨v14_1 + 1, ghe_to (n := 32) rfl rfl ⟨rfl, rfl, rfl, rfl, trivial⟩, h.1, h.2⟩
    · replace h := h.2 (of_decide_eq_false q5)
      refine aw_exit ?_
      refine aw_seq ?_
      refine aw_region ?_
      refine run_s (ss_move rfl) rfl ?_
      refine run_s (ss_gtr rfl rfl) rfl ?_
      refine run_s (ss_assign rfl) rfl ?_
      refine run_s (ss_assign rfl) rfl ?_
      refine run_nil ?_
      refine aw_ret ?_
      exact retAF_mk (retv2 rfl (rv_tmp rfl) (rv_tmp rfl)) rfl rfl ⟨_, (cle_refl _), _, _, h, rfl⟩

theorem c_impl_IsSimpleRack (r : List (List Int)) (hp : small2 r) : AF Try.prog 54 [.agg [.lst (rows r)]] (fun R_ => R_ = .tup [cb (SimB r), ci (rkE r)]) :=
  (w_impl_IsSimpleRack r (fun y0 y1 => y0 = SimB r ∧ y1 = rkE r) (p_impl_IsSimpleRack r hp)).mono (by rintro r ⟨_, _, ⟨rfl, rfl⟩, rfl⟩; rfl)

end Go.Proofs.Ytbodlnpmplcaoaa

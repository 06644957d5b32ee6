/- Contracts of functions that the law FnCycleSets reaches: conditions, plain proofs, walks; no condition. -/
import Derived.Test.YtbodlnpmplcaoaaKCycleSetsc
import Derived.Test.YtbodlnpmplcaoaaPj
namespace Go.Proofs.Ytbodlnpmplcaoaa

def wp_spec_l02Map (s1 : List (List Int)) (s2 : List (List Int)) (Q : Bool → Prop) : Prop :=
 (small2 s1) ∧
 (((isTab s1) = true →
 (small2 s2) ∧
 (((isTab s2) = true →
 Q (decide ((s1.length : Int) = (s2.length : Int)))) ∧
 ((isTab s2) = false →
 Q false))) ∧
 ((isTab s1) = false →
 Q false))

def wp_spec_l02Collision (s1 : List (List Int)) (s2 : List (List Int)) (Q : List Int → Prop) : Prop :=
 ∃ (H1 : Int → Prop) (m1 : Int → Nat),
 H1 0 ∧
 ∀ (v4_1 : Int), H1 v4_1 →
 ( (InI ((s1.length : Int) * (s1.length : Int))) ∧
 ((v4_1 < (s1.length : Int) * (s1.length : Int) →
 ∃ (H2 : Int → Prop) (m2 : Int → Nat),
 H2 0 ∧
 ∀ (v5_2 : Int), H2 v5_2 →
 ( (InI ((s1.length : Int) * (s1.length : Int))) ∧
 ((v5_2 < (s1.length : Int) * (s1.length : Int) →
 ((0 : Int) ≤ v4_1 ∧ (0 : Int) < (s1.length : Int) ∧ v4_1 ≤ 9223372036854775807) ∧
 ((0 : Int) ≤ v4_1 ∧ (0 : Int) < (s1.length : Int)) ∧
 ((0 : Int) ≤ v5_2 ∧ (0 : Int) < (s1.length : Int) ∧ v5_2 ≤ 9223372036854775807) ∧
 ((0 : Int) ≤ v5_2 ∧ (0 : Int) < (s1.length : Int)) ∧
 ((¬ (v4_1 = v5_2) →
 (0 ≤ v4_1 / (s1.length : Int) ∧ v4_1 / (s1.length : Int) < (s1.length : Int)) ∧
 (0 ≤ v4_1 % (s1.length : Int) ∧ v4_1 % (s1.length : Int) < ((el s1 (v4_1 / (s1.length : Int))).length : Int)) ∧
 (0 ≤ v5_2 / (s1.length : Int) ∧ v5_2 / (s1.length : Int) < (s1.length : Int)) ∧
 (0 ≤ v5_2 % (s1.length : Int) ∧ v5_2 % (s1.length : Int) < ((el s1 (v5_2 / (s1.length : Int))).length : Int)) ∧
 ((el (el s1 (v4_1 / (s1.length : Int))) (v4_1 % (s1.length : Int)) = el (el s1 (v5_2 / (s1.length : Int))) (v5_2 % (s1.length : Int)) →
 (0 ≤ v4_1 / (s1.length : Int) ∧ v4_1 / (s1.length : Int) < (s2.length : Int)) ∧
 (0 ≤ v4_1 % (s1.length : Int) ∧ v4_1 % (s1.length : Int) < ((el s2 (v4_1 / (s1.length : Int))).length : Int)) ∧
 (0 ≤ v5_2 / (s1.length : Int) ∧ v5_2 / (s1.length : Int) < (s2.length : Int)) ∧
 (0 ≤ v5_2 % (s1.length : Int) ∧ v5_2 % (s1.length : Int) < ((el s2 (v5_2 / (s1.length : Int))).length : Int)) ∧
 ((el (el s2 (v4_1 / (s1.length : Int))) (v4_1 % (s1.length : Int)) = el (el s2 (v5_2 / (s1.length : Int))) (v5_2 % (s1.length : Int)) →
 Q ([v4_1 / (s1.length : Int), v4_1 % (s1.length : Int), v5_2 / (s1.length : Int), v5_2 % (s1.length : Int)])) ∧
 (¬ (el (el s2 (v4_1 / (s1.length : Int))) (v4_1 % (s1.length : Int)) = el (el s2 (v5_2 / (s1.length : Int))) (v5_2 % (s1.length : Int))) →
 (InI (v5_2 + 1)) ∧
 (H2 (v5_2 + 1) ∧ m2 (v5_2 + 1) < m2 v5_2)))) ∧
 (¬ (el (el s1 (v4_1 / (s1.length : Int))) (v4_1 % (s1.length : Int)) = el (el s1 (v5_2 / (s1.length : Int))) (v5_2 % (s1.length : Int))) →
 (InI (v5_2 + 1)) ∧
 (H2 (v5_2 + 1) ∧ m2 (v5_2 + 1) < m2 v5_2)))) ∧
 (v4_1 = v5_2 →
 (InI (v5_2 + 1)) ∧
 (H2 (v5_2 + 1) ∧ m2 (v5_2 + 1) < m2 v5_2)))) ∧
 (¬ (v5_2 < (s1.length : Int) * (s1.length : Int)) →
 (InI (v4_1 + 1)) ∧
 (H1 (v4_1 + 1) ∧ m1 (v4_1 + 1) < m1 v4_1))))) ∧
 (¬ (v4_1 < (s1.length : Int) * (s1.length : Int)) →
 Q ([] : List Int))))

def wp_impl_collisionOf (s1 : List (List Int)) (s2 : List (List Int)) (Q : List Int → Prop) : Prop :=
 (InI ((s1.length : Int) * (s1.length : Int))) ∧
 ∃ (H1 : Int → Prop) (m1 : Int → Nat),
 H1 0 ∧
 ∀ (v16_1 : Int), H1 v16_1 →
 ( ((v16_1 < (s1.length : Int) * (s1.length : Int) →
 ((0 : Int) ≤ v16_1 ∧ (0 : Int) < (s1.length : Int) ∧ v16_1 ≤ 9223372036854775807) ∧
 ((0 : Int) ≤ v16_1 ∧ (0 : Int) < (s1.length : Int)) ∧
 (InI ((s1.length : Int) * (s1.length : Int))) ∧
 ∃ (H2 : Int → Prop) (m2 : Int → Nat),
 H2 0 ∧
 ∀ (v28_2 : Int), H2 v28_2 →
 ( ((v28_2 < (s1.length : Int) * (s1.length : Int) →
 ((0 : Int) ≤ v28_2 ∧ (0 : Int) < (s1.length : Int) ∧ v28_2 ≤ 9223372036854775807) ∧
 ((0 : Int) ≤ v28_2 ∧ (0 : Int) < (s1.length : Int)) ∧
 ((¬ (v16_1 = v28_2) →
 (0 ≤ v16_1 / (s1.length : Int) ∧ v16_1 / (s1.length : Int) < (s1.length : Int)) ∧
 (0 ≤ v16_1 % (s1.length : Int) ∧ v16_1 % (s1.length : Int) < ((el s1 (v16_1 / (s1.length : Int))).length : Int)) ∧
 (0 ≤ v28_2 / (s1.length : Int) ∧ v28_2 / (s1.length : Int) < (s1.length : Int)) ∧
 (0 ≤ v28_2 % (s1.length : Int) ∧ v28_2 % (s1.length : Int) < ((el s1 (v28_2 / (s1.length : Int))).length : Int)) ∧
 ((el (el s1 (v16_1 / (s1.length : Int))) (v16_1 % (s1.length : Int)) = el (el s1 (v28_2 / (s1.length : Int))) (v28_2 % (s1.length : Int)) →
 (0 ≤ v16_1 / (s1.length : Int) ∧ v16_1 / (s1.length : Int) < (s2.length : Int)) ∧
 (0 ≤ v16_1 % (s1.length : Int) ∧ v16_1 % (s1.length : Int) < ((el s2 (v16_1 / (s1.length : Int))).length : Int)) ∧
 (0 ≤ v28_2 / (s1.length : Int) ∧ v28_2 / (s1.length : Int) < (s2.length : Int)) ∧
 (0 ≤ v28_2 % (s1.length : Int) ∧ v28_2 % (s1.length : Int) < ((el s2 (v28_2 / (s1.length : Int))).length : Int)) ∧
 ((el (el s2 (v16_1 / (s1.length : Int))) (v16_1 % (s1.length : Int)) = el (el s2 (v28_2 / (s1.length : Int))) (v28_2 % (s1.length : Int)) →
 Q ([v16_1 / (s1.length : Int), v16_1 % (s1.length : Int), v28_2 / (s1.length : Int), v28_2 % (s1.length : Int)])) ∧
 (¬ (el (el s2 (v16_1 / (s1.length : Int))) (v16_1 % (s1.length : Int)) = el (el s2 (v28_2 / (s1.length : Int))) (v28_2 % (s1.length : Int))) →
 (InI (v28_2 + 1)) ∧
 (H2 (v28_2 + 1) ∧ m2 (v28_2 + 1) < m2 v28_2)))) ∧
 (¬ (el (el s1 (v16_1 / (s1.length : Int))) (v16_1 % (s1.length : Int)) = el (el s1 (v28_2 / (s1.length : Int))) (v28_2 % (s1.length : Int))) →
 (InI (v28_2 + 1)) ∧
 (H2 (v28_2 + 1) ∧ m2 (v28_2 + 1) < m2 v28_2)))) ∧
 (v16_1 = v28_2 →
 (InI (v28_2 + 1)) ∧
 (H2 (v28_2 + 1) ∧ m2 (v28_2 + 1) < m2 v28_2)))) ∧
 (¬ (v28_2 < (s1.length : Int) * (s1.length : Int)) →
 (InI (v16_1 + 1)) ∧
 (H1 (v16_1 + 1) ∧ m1 (v16_1 + 1) < m1 v16_1))))) ∧
 (¬ (v16_1 < (s1.length : Int) * (s1.length : Int)) →
 Q ([]))))

def wp_spec_l02Do (s1 : List (List Int)) (s2 : List (List Int)) (list : List Int) (i : Int) (Q : List Int → Prop) : Prop :=
 (small list) ∧
 (0 ≤ i ∧ i < (list.length : Int)) ∧
 (InI (i + 1)) ∧
 (0 ≤ i + 1 ∧ i + 1 < (list.length : Int)) ∧
 (0 ≤ el list i ∧ el list i < (s1.length : Int)) ∧
 (0 ≤ el list (i + 1) ∧ el list (i + 1) < ((el s1 (el list i)).length : Int)) ∧
 (0 ≤ i ∧ i < (list.length : Int)) ∧
 (InI (i + 1)) ∧
 (0 ≤ i ∧ i < (list.length : Int)) ∧
 (InI (i + 1)) ∧
 (0 ≤ i + 1 ∧ i + 1 < (list.length : Int)) ∧
 (0 ≤ el list i ∧ el list i < (s2.length : Int)) ∧
 (0 ≤ el list (i + 1) ∧ el list (i + 1) < ((el s2 (el list i)).length : Int)) ∧
 (0 ≤ i + 1 ∧ i + 1 < ((se list i (el (el s1 (el list i)) (el list (i + 1)))).length : Int)) ∧
 Q (se (se list i (el (el s1 (el list i)) (el list (i + 1)))) (i + 1) (el (el s2 (el list i)) (el list (i + 1))))

def wp_spec_l02Fault (s1 : List (List Int)) (s2 : List (List Int)) (Q : List Int → Prop) : Prop :=
 ∃ (H1 : Int → Prop) (m1 : Int → Nat),
 H1 0 ∧
 ∀ (v4_1 : Int), H1 v4_1 →
 ( ((v4_1 < (s1.length : Int) →
 ∃ (H2 : Int → Prop) (m2 : Int → Nat),
 H2 0 ∧
 ∀ (v5_2 : Int), H2 v5_2 →
 ( ((v5_2 < (s1.length : Int) →
 ∃ (H3 : Int → Prop) (m3 : Int → Nat),
 H3 0 ∧
 ∀ (v6_3 : Int), H3 v6_3 →
 ( ((v6_3 < (s1.length : Int) →
 (pmB s1 s2 = true ∧ okTr s1 ([v4_1, v5_2, v6_3]) ∧ 0 ≤ (0 : Int) ∧ (0 : Int) ≤ 1) ∧
 (pmB s1 s2 = true ∧ okTr s1 (doI s1 s2 ([v4_1, v5_2, v6_3]) (0 : Int)) ∧ 0 ≤ (1 : Int) ∧ (1 : Int) ≤ 1) ∧
 (pmB s1 s2 = true ∧ okTr s1 (doI s1 s2 (doI s1 s2 ([v4_1, v5_2, v6_3]) (0 : Int)) (1 : Int)) ∧ 0 ≤ (0 : Int) ∧ (0 : Int) ≤ 1) ∧
 (pmB s1 s2 = true ∧ okTr s1 ([v4_1, v5_2, v6_3]) ∧ 0 ≤ (1 : Int) ∧ (1 : Int) ≤ 1) ∧
 (pmB s1 s2 = true ∧ okTr s1 (doI s1 s2 ([v4_1, v5_2, v6_3]) (1 : Int)) ∧ 0 ≤ (0 : Int) ∧ (0 : Int) ≤ 1) ∧
 (pmB s1 s2 = true ∧ okTr s1 (doI s1 s2 (doI s1 s2 ([v4_1, v5_2, v6_3]) (1 : Int)) (0 : Int)) ∧ 0 ≤ (1 : Int) ∧ (1 : Int) ≤ 1) ∧
 (small (doI s1 s2 (doI s1 s2 (doI s1 s2 ([v4_1, v5_2, v6_3]) (0 : Int)) (1 : Int)) (0 : Int)) ∧ small (doI s1 s2 (doI s1 s2 (doI s1 s2 ([v4_1, v5_2, v6_3]) (1 : Int)) (0 : Int)) (1 : Int))) ∧
 ((¬ ((doI s1 s2 (doI s1 s2 (doI s1 s2 ([v4_1, v5_2, v6_3]) (0 : Int)) (1 : Int)) (0 : Int)) = (doI s1 s2 (doI s1 s2 (doI s1 s2 ([v4_1, v5_2, v6_3]) (1 : Int)) (0 : Int)) (1 : Int))) →
 Q ([v4_1, v5_2, v6_3])) ∧
 ((doI s1 s2 (doI s1 s2 (doI s1 s2 ([v4_1, v5_2, v6_3]) (0 : Int)) (1 : Int)) (0 : Int)) = (doI s1 s2 (doI s1 s2 (doI s1 s2 ([v4_1, v5_2, v6_3]) (1 : Int)) (0 : Int)) (1 : Int)) →
 (InI (v6_3 + 1)) ∧
 (H3 (v6_3 + 1) ∧ m3 (v6_3 + 1) < m3 v6_3)))) ∧
 (¬ (v6_3 < (s1.length : Int)) →
 (InI (v5_2 + 1)) ∧
 (H2 (v5_2 + 1) ∧ m2 (v5_2 + 1) < m2 v5_2))))) ∧
 (¬ (v5_2 < (s1.length : Int)) →
 (InI (v4_1 + 1)) ∧
 (H1 (v4_1 + 1) ∧ m1 (v4_1 + 1) < m1 v4_1))))) ∧
 (¬ (v4_1 < (s1.length : Int)) →
 Q ([] : List Int))))

def wp_impl_equationFault (s1 : List (List Int)) (s2 : List (List Int)) (Q : List Int → Prop) : Prop :=
 ∃ (H1 : Int → Prop) (m1 : Int → Nat),
 H1 0 ∧
 ∀ (v17_1 : Int), H1 v17_1 →
 ( ((v17_1 < (s1.length : Int) →
 ∃ (H2 : Int → Prop) (m2 : Int → Nat),
 H2 0 ∧
 ∀ (v21_2 : Int), H2 v21_2 →
 ( ((v21_2 < (s1.length : Int) →
 ∃ (H3 : Int → Prop) (m3 : Int → Nat),
 H3 0 ∧
 ∀ (v25_3 : Int), H3 v25_3 →
 ( ((v25_3 < (s1.length : Int) →
 (0 ≤ v17_1 ∧ v17_1 < (s1.length : Int)) ∧
 (0 ≤ v21_2 ∧ v21_2 < ((el s1 v17_1).length : Int)) ∧
 (0 ≤ v17_1 ∧ v17_1 < (s2.length : Int)) ∧
 (0 ≤ v21_2 ∧ v21_2 < ((el s2 v17_1).length : Int)) ∧
 (0 ≤ el (el s2 v17_1) v21_2 ∧ el (el s2 v17_1) v21_2 < (s1.length : Int)) ∧
 (0 ≤ v25_3 ∧ v25_3 < ((el s1 (el (el s2 v17_1) v21_2)).length : Int)) ∧
 (0 ≤ el (el s2 v17_1) v21_2 ∧ el (el s2 v17_1) v21_2 < (s2.length : Int)) ∧
 (0 ≤ v25_3 ∧ v25_3 < ((el s2 (el (el s2 v17_1) v21_2)).length : Int)) ∧
 (0 ≤ el (el s1 v17_1) v21_2 ∧ el (el s1 v17_1) v21_2 < (s1.length : Int)) ∧
 (0 ≤ el (el s1 (el (el s2 v17_1) v21_2)) v25_3 ∧ el (el s1 (el (el s2 v17_1) v21_2)) v25_3 < ((el s1 (el (el s1 v17_1) v21_2)).length : Int)) ∧
 (0 ≤ el (el s1 v17_1) v21_2 ∧ el (el s1 v17_1) v21_2 < (s2.length : Int)) ∧
 (0 ≤ el (el s1 (el (el s2 v17_1) v21_2)) v25_3 ∧ el (el s1 (el (el s2 v17_1) v21_2)) v25_3 < ((el s2 (el (el s1 v17_1) v21_2)).length : Int)) ∧
 (0 ≤ v21_2 ∧ v21_2 < (s1.length : Int)) ∧
 (0 ≤ v25_3 ∧ v25_3 < ((el s1 v21_2).length : Int)) ∧
 (0 ≤ v21_2 ∧ v21_2 < (s2.length : Int)) ∧
 (0 ≤ v25_3 ∧ v25_3 < ((el s2 v21_2).length : Int)) ∧
 (0 ≤ v17_1 ∧ v17_1 < (s1.length : Int)) ∧
 (0 ≤ el (el s1 v21_2) v25_3 ∧ el (el s1 v21_2) v25_3 < ((el s1 v17_1).length : Int)) ∧
 (0 ≤ v17_1 ∧ v17_1 < (s2.length : Int)) ∧
 (0 ≤ el (el s1 v21_2) v25_3 ∧ el (el s1 v21_2) v25_3 < ((el s2 v17_1).length : Int)) ∧
 (0 ≤ el (el s2 v17_1) (el (el s1 v21_2) v25_3) ∧ el (el s2 v17_1) (el (el s1 v21_2) v25_3) < (s1.length : Int)) ∧
 (0 ≤ el (el s2 v21_2) v25_3 ∧ el (el s2 v21_2) v25_3 < ((el s1 (el (el s2 v17_1) (el (el s1 v21_2) v25_3))).length : Int)) ∧
 (0 ≤ el (el s2 v17_1) (el (el s1 v21_2) v25_3) ∧ el (el s2 v17_1) (el (el s1 v21_2) v25_3) < (s2.length : Int)) ∧
 (0 ≤ el (el s2 v21_2) v25_3 ∧ el (el s2 v21_2) v25_3 < ((el s2 (el (el s2 v17_1) (el (el s1 v21_2) v25_3))).length : Int)) ∧
 ((¬ (el (el s1 (el (el s1 v17_1) v21_2)) (el (el s1 (el (el s2 v17_1) v21_2)) v25_3) = el (el s1 v17_1) (el (el s1 v21_2) v25_3)) →
 Q ([v17_1, v21_2, v25_3])) ∧
 (el (el s1 (el (el s1 v17_1) v21_2)) (el (el s1 (el (el s2 v17_1) v21_2)) v25_3) = el (el s1 v17_1) (el (el s1 v21_2) v25_3) →
 ((¬ (el (el s2 (el (el s1 v17_1) v21_2)) (el (el s1 (el (el s2 v17_1) v21_2)) v25_3) = el (el s1 (el (el s2 v17_1) (el (el s1 v21_2) v25_3))) (el (el s2 v21_2) v25_3)) →
 Q ([v17_1, v21_2, v25_3])) ∧
 (el (el s2 (el (el s1 v17_1) v21_2)) (el (el s1 (el (el s2 v17_1) v21_2)) v25_3) = el (el s1 (el (el s2 v17_1) (el (el s1 v21_2) v25_3))) (el (el s2 v21_2) v25_3) →
 ((¬ (el (el s2 (el (el s2 v17_1) v21_2)) v25_3 = el (el s2 (el (el s2 v17_1) (el (el s1 v21_2) v25_3))) (el (el s2 v21_2) v25_3)) →
 Q ([v17_1, v21_2, v25_3])) ∧
 (el (el s2 (el (el s2 v17_1) v21_2)) v25_3 = el (el s2 (el (el s2 v17_1) (el (el s1 v21_2) v25_3))) (el (el s2 v21_2) v25_3) →
 (InI (v25_3 + 1)) ∧
 (H3 (v25_3 + 1) ∧ m3 (v25_3 + 1) < m3 v25_3)))))))) ∧
 (¬ (v25_3 < (s1.length : Int)) →
 (InI (v21_2 + 1)) ∧
 (H2 (v21_2 + 1) ∧ m2 (v21_2 + 1) < m2 v21_2))))) ∧
 (¬ (v21_2 < (s1.length : Int)) →
 (InI (v17_1 + 1)) ∧
 (H1 (v17_1 + 1) ∧ m1 (v17_1 + 1) < m1 v17_1))))) ∧
 (¬ (v17_1 < (s1.length : Int)) →
 Q ([]))))

def wp_impl_IsSolution (s1 : List (List Int)) (s2 : List (List Int)) (Q : Bool → Prop) : Prop :=
 (small2 s1 ∧ small2 s2) ∧
 (((pmB s1 s2) = true →
 (((colF s1 s2) = [] →
 (pmB s1 s2 = true) ∧
 (((eqF s1 s2) = [] →
 (pmB s1 s2 = true) ∧
 Q true) ∧
 (¬ (eqF s1 s2) = [] →
 (pmB s1 s2 = true) ∧
 Q false))) ∧
 (¬ (colF s1 s2) = [] →
 (pmB s1 s2 = true) ∧
 Q false))) ∧
 ((pmB s1 s2) = false →
 Q false))

def wp_spec_l02Is (s1 : List (List Int)) (s2 : List (List Int)) (Q : Bool → Prop) : Prop :=
 (small2 s1 ∧ small2 s2) ∧
 (((pmB s1 s2) = true →
 (pmB s1 s2 = true) ∧
 ((((colF s1 s2).length : Int) = 0 →
 (pmB s1 s2 = true) ∧
 Q (decide (((eqF s1 s2).length : Int) = 0))) ∧
 (¬ (((colF s1 s2).length : Int) = 0) →
 Q false))) ∧
 ((pmB s1 s2) = false →
 Q false))

def wp_impl_isNondegenerate (s1 : List (List Int)) (s2 : List (List Int)) (Q : Bool → Prop) : Prop :=
 (small2 s1) ∧
 (((s1.all isPerm) = true →
 (isTab s2 = true) ∧
 (small2 (trnT s2)) ∧
 Q ((trnT s2).all isPerm)) ∧
 ((s1.all isPerm) = false →
 Q false))

def wp_spec_l02Good (s1 : List (List Int)) (s2 : List (List Int)) (Q : Bool → Prop) : Prop :=
 (small2 s1) ∧
 (((s1.all permB) = true →
 (isTab s2 = true) ∧
 (small2 (trnT s2)) ∧
 Q ((trnT s2).all permB)) ∧
 ((s1.all permB) = false →
 Q false))

def wp_impl_isInvolutive (s1 : List (List Int)) (s2 : List (List Int)) (Q : Bool → Prop) : Prop :=
 ∃ (H1 : Int → Prop) (m1 : Int → Nat),
 H1 0 ∧
 ∀ (v11_1 : Int), H1 v11_1 →
 ( ((v11_1 < (s1.length : Int) →
 (0 ≤ v11_1 ∧ v11_1 < (s1.length : Int)) ∧
 ∃ (H2 : Int → Prop) (m2 : Int → Nat),
 H2 0 ∧
 ∀ (v18_2 : Int), H2 v18_2 →
 ( ((v18_2 < ((el s1 v11_1).length : Int) →
 (0 ≤ v18_2 ∧ v18_2 < ((el s1 v11_1).length : Int)) ∧
 (0 ≤ v11_1 ∧ v11_1 < (s2.length : Int)) ∧
 (0 ≤ v18_2 ∧ v18_2 < ((el s2 v11_1).length : Int)) ∧
 (0 ≤ el (el s1 v11_1) v18_2 ∧ el (el s1 v11_1) v18_2 < (s1.length : Int)) ∧
 (0 ≤ el (el s2 v11_1) v18_2 ∧ el (el s2 v11_1) v18_2 < ((el s1 (el (el s1 v11_1) v18_2)).length : Int)) ∧
 ((¬ (el (el s1 (el (el s1 v11_1) v18_2)) (el (el s2 v11_1) v18_2) = v11_1) →
 Q false) ∧
 (el (el s1 (el (el s1 v11_1) v18_2)) (el (el s2 v11_1) v18_2) = v11_1 →
 (0 ≤ el (el s1 v11_1) v18_2 ∧ el (el s1 v11_1) v18_2 < (s2.length : Int)) ∧
 (0 ≤ el (el s2 v11_1) v18_2 ∧ el (el s2 v11_1) v18_2 < ((el s2 (el (el s1 v11_1) v18_2)).length : Int)) ∧
 ((¬ (el (el s2 (el (el s1 v11_1) v18_2)) (el (el s2 v11_1) v18_2) = v18_2) →
 Q false) ∧
 (el (el s2 (el (el s1 v11_1) v18_2)) (el (el s2 v11_1) v18_2) = v18_2 →
 (InI (v18_2 + 1)) ∧
 (H2 (v18_2 + 1) ∧ m2 (v18_2 + 1) < m2 v18_2)))))) ∧
 (¬ (v18_2 < ((el s1 v11_1).length : Int)) →
 (InI (v11_1 + 1)) ∧
 (H1 (v11_1 + 1) ∧ m1 (v11_1 + 1) < m1 v11_1))))) ∧
 (¬ (v11_1 < (s1.length : Int)) →
 Q true)))

def wp_spec_l02Twice (s1 : List (List Int)) (s2 : List (List Int)) (Q : Bool → Prop) : Prop :=
 ∃ (H1 : Int → Prop) (m1 : Int → Nat),
 H1 0 ∧
 ∀ (v3_1 : Int), H1 v3_1 →
 ( ((v3_1 < (s1.length : Int) →
 ∃ (H2 : Int → Prop) (m2 : Int → Nat),
 H2 0 ∧
 ∀ (v4_2 : Int), H2 v4_2 →
 ( ((v4_2 < (s1.length : Int) →
 (0 ≤ v3_1 ∧ v3_1 < (s1.length : Int)) ∧
 (0 ≤ v4_2 ∧ v4_2 < ((el s1 v3_1).length : Int)) ∧
 (0 ≤ v3_1 ∧ v3_1 < (s2.length : Int)) ∧
 (0 ≤ v4_2 ∧ v4_2 < ((el s2 v3_1).length : Int)) ∧
 (0 ≤ el (el s1 v3_1) v4_2 ∧ el (el s1 v3_1) v4_2 < (s1.length : Int)) ∧
 (0 ≤ el (el s2 v3_1) v4_2 ∧ el (el s2 v3_1) v4_2 < ((el s1 (el (el s1 v3_1) v4_2)).length : Int)) ∧
 ((¬ (el (el s1 (el (el s1 v3_1) v4_2)) (el (el s2 v3_1) v4_2) = v3_1) →
 Q false) ∧
 (el (el s1 (el (el s1 v3_1) v4_2)) (el (el s2 v3_1) v4_2) = v3_1 →
 (0 ≤ el (el s1 v3_1) v4_2 ∧ el (el s1 v3_1) v4_2 < (s2.length : Int)) ∧
 (0 ≤ el (el s2 v3_1) v4_2 ∧ el (el s2 v3_1) v4_2 < ((el s2 (el (el s1 v3_1) v4_2)).length : Int)) ∧
 ((¬ (el (el s2 (el (el s1 v3_1) v4_2)) (el (el s2 v3_1) v4_2) = v4_2) →
 Q false) ∧
 (el (el s2 (el (el s1 v3_1) v4_2)) (el (el s2 v3_1) v4_2) = v4_2 →
 (InI (v4_2 + 1)) ∧
 (H2 (v4_2 + 1) ∧ m2 (v4_2 + 1) < m2 v4_2)))))) ∧
 (¬ (v4_2 < (s1.length : Int)) →
 (InI (v3_1 + 1)) ∧
 (H1 (v3_1 + 1) ∧ m1 (v3_1 + 1) < m1 v3_1))))) ∧
 (¬ (v3_1 < (s1.length : Int)) →
 Q true)))

def wp_spec_CycleSetOfSolution (s1 : List (List Int)) (s2 : List (List Int)) (Q : List (List Int) → Int → Prop) : Prop :=
 (small2 s1 ∧ small2 s2) ∧
 (((solB s1 s2) = false →
 Q ([]) 1) ∧
 ((solB s1 s2) = true →
 (pmB s1 s2 = true) ∧
 (((ndB s1 s2) = false →
 Q ([]) 5) ∧
 ((ndB s1 s2) = true →
 (pmB s1 s2 = true) ∧
 (((ivB s1 s2) = false →
 Q ([]) 5) ∧
 ((ivB s1 s2) = true →
 (isTab s1 = true ∧ s1.all isPerm = true) ∧
 Q (s1.map backI) 0))))))

def wp_impl_CycleSetOfSolution (s1 : List (List Int)) (s2 : List (List Int)) (Q : List (List Int) → Int → Prop) : Prop :=
 (small2 s1 ∧ small2 s2) ∧
 (((solB s1 s2) = false →
 Q ([]) 1) ∧
 ((solB s1 s2) = true →
 (pmB s1 s2 = true) ∧
 (((ndB s1 s2) = false →
 Q ([]) 5) ∧
 ((ndB s1 s2) = true →
 (pmB s1 s2 = true) ∧
 (((ivB s1 s2) = false →
 Q ([]) 5) ∧
 ((ivB s1 s2) = true →
 (isTab s1 = true ∧ s1.all isPerm = true) ∧
 Q (s1.map backI) 0))))))

theorem nn_le {n : Int} (h : 1 ≤ n ∧ n ≤ 12) : 0 ≤ n * n ∧ n * n ≤ 144 :=
  ⟨Int.mul_nonneg (by omega) (by omega), by have := Int.mul_le_mul h.2 h.2 (by omega : (0 : Int) ≤ n) (by omega : (0 : Int) ≤ 12); omega⟩
theorem p_spec_l02Map (s1 s2 : List (List Int)) (hp : small2 s1 ∧ small2 s2) : wp_spec_l02Map s1 s2 (fun y0 => y0 = pmB s1 s2) := by
  unfold wp_spec_l02Map pmB
  exact ⟨hp.1, fun h => ⟨hp.2, fun h2 => by rw [h, h2]; rfl, fun h2 => by rw [h, h2]; rfl⟩, fun h => by rw [h]; rfl⟩
theorem p_spec_l02Collision (s1 s2 : List (List Int)) (hp : pmB s1 s2 = true) : wp_spec_l02Collision s1 s2 (fun y0 => y0 = colF s1 s2) := by
  obtain ⟨hs, ht, he⟩ := pm_tab hp
  have hn := isTab_len hs
  have hn0 : 0 < (s1.length : Int) := by omega
  have hN := nn_le hn
  have hI : InI ((s1.length : Int) * (s1.length : Int)) := ⟨by omega, by omega⟩
  refine ⟨fun a => 0 ≤ a ∧ a ≤ (s1.length : Int) * (s1.length : Int) ∧ Upto a fun a => ∀ b, 0 ≤ b → b < (s1.length : Int) * (s1.length : Int) → colB s1 s2 a b = false, fun a => ((s1.length : Int) * (s1.length : Int) - a).toNat, ⟨by omega, hN.1, upto0⟩, ?_⟩
  rintro a ⟨a0, a1, aI⟩
  dsimp only
  refine ⟨hI, fun alt => ?_, fun age => (first2_none fun x h1 h2 => aI x h1 (by omega)).symm⟩
  refine ⟨fun b => 0 ≤ b ∧ b ≤ (s1.length : Int) * (s1.length : Int) ∧ Upto b fun b => colB s1 s2 a b = false, fun b => ((s1.length : Int) * (s1.length : Int) - b).toNat, ⟨by omega, hN.1, upto0⟩, ?_⟩
  rintro b ⟨b0, b1, bI⟩
  dsimp only
  obtain ⟨da, ma⟩ := divmod hn0 ⟨a0, alt⟩
  refine ⟨hI, fun blt => ?_, fun bge => ⟨⟨by omega, by omega⟩, ⟨by omega, by omega, upto1 aI fun x h1 h2 => bI x h1 (by omega)⟩, by omega⟩⟩
  obtain ⟨db, mb⟩ := divmod hn0 ⟨b0, blt⟩
  have step : colB s1 s2 a b = false → InI (b + 1) ∧ (0 ≤ b + 1 ∧ b + 1 ≤ (s1.length : Int) * (s1.length : Int) ∧ Upto (b + 1) fun b => colB s1 s2 a b = false) ∧ ((s1.length : Int) * (s1.length : Int) - (b + 1)).toNat < ((s1.length : Int) * (s1.length : Int) - b).toNat :=
    fun h => ⟨⟨by omega, by omega⟩, ⟨by omega, by omega, upto1 bI h⟩, by omega⟩
  have la := rk_len hs da
  have lb := rk_len hs db
  have da2 : 0 ≤ a / (s1.length : Int) ∧ a / (s1.length : Int) < (s2.length : Int) := ⟨da.1, by omega⟩
  have db2 : 0 ≤ b / (s1.length : Int) ∧ b / (s1.length : Int) < (s2.length : Int) := ⟨db.1, by omega⟩
  have ka := rk_len ht da2
  have kb := rk_len ht db2
  refine ⟨⟨a0, hn0, by omega⟩, ⟨a0, hn0⟩, ⟨b0, hn0, by omega⟩, ⟨b0, hn0⟩, fun hne => ⟨da, ⟨ma.1, by omega⟩, db, ⟨mb.1, by omega⟩, fun h1 => ⟨da2, ⟨ma.1, by omega⟩, db2, ⟨mb.1, by omega⟩, fun h2 => ?_, fun h2 => step (by simp [colB, h2])⟩, fun h1 => step (by simp [colB, h1])⟩, fun h0 => step (by simp [colB, h0])⟩
  exact (first2_found (g := fun a b => [a / (s1.length : Int), a % (s1.length : Int), b / (s1.length : Int), b % (s1.length : Int)]) ⟨a0, alt⟩ ⟨b0, blt⟩ (by simp [colB, hne, h1, h2]) aI bI).symm
theorem p_impl_collisionOf (s1 s2 : List (List Int)) (hp : pmB s1 s2 = true) : wp_impl_collisionOf s1 s2 (fun y0 => y0 = colF s1 s2) := by
  obtain ⟨hs, ht, he⟩ := pm_tab hp
  have hn := isTab_len hs
  have hn0 : 0 < (s1.length : Int) := by omega
  have hN := nn_le hn
  have hI : InI ((s1.length : Int) * (s1.length : Int)) := ⟨by omega, by omega⟩
  refine ⟨hI, fun a => 0 ≤ a ∧ a ≤ (s1.length : Int) * (s1.length : Int) ∧ Upto a fun a => ∀ b, 0 ≤ b → b < (s1.length : Int) * (s1.length : Int) → colB s1 s2 a b = false, fun a => ((s1.length : Int) * (s1.length : Int) - a).toNat, ⟨by omega, hN.1, upto0⟩, ?_⟩
  rintro a ⟨a0, a1, aI⟩
  dsimp only
  refine ⟨fun alt => ⟨⟨a0, hn0, by omega⟩, ⟨a0, hn0⟩, hI, ?_⟩, fun age => (first2_none fun x h1 h2 => aI x h1 (by omega)).symm⟩
  refine ⟨fun b => 0 ≤ b ∧ b ≤ (s1.length : Int) * (s1.length : Int) ∧ Upto b fun b => colB s1 s2 a b = false, fun b => ((s1.length : Int) * (s1.length : Int) - b).toNat, ⟨by omega, hN.1, upto0⟩, ?_⟩
  rintro b ⟨b0, b1, bI⟩
  dsimp only
  obtain ⟨da, ma⟩ := divmod hn0 ⟨a0, alt⟩
  refine ⟨fun blt => ?_, fun bge => ⟨⟨by omega, by omega⟩, ⟨by omega, by omega, upto1 aI fun x h1 h2 => bI x h1 (by omega)⟩, by omega⟩⟩
  obtain ⟨db, mb⟩ := divmod hn0 ⟨b0, blt⟩
  have step : colB s1 s2 a b = false → InI (b + 1) ∧ (0 ≤ b + 1 ∧ b + 1 ≤ (s1.length : Int) * (s1.length : Int) ∧ Upto (b + 1) fun b => colB s1 s2 a b = false) ∧ ((s1.length : Int) * (s1.length : Int) - (b + 1)).toNat < ((s1.length : Int) * (s1.length : Int) - b).toNat :=
    fun h => ⟨⟨by omega, by omega⟩, ⟨by omega, by omega, upto1 bI h⟩, by omega⟩
  have la := rk_len hs da
  have lb := rk_len hs db
  have da2 : 0 ≤ a / (s1.length : Int) ∧ a / (s1.length : Int) < (s2.length : Int) := ⟨da.1, by omega⟩
  have db2 : 0 ≤ b / (s1.length : Int) ∧ b / (s1.length : Int) < (s2.length : Int) := ⟨db.1, by omega⟩
  have ka := rk_len ht da2
  have kb := rk_len ht db2
  refine ⟨⟨b0, hn0, by omega⟩, ⟨b0, hn0⟩, fun hne => ⟨da, ⟨ma.1, by omega⟩, db, ⟨mb.1, by omega⟩, fun h1 => ⟨da2, ⟨ma.1, by omega⟩, db2, ⟨mb.1, by omega⟩, fun h2 => ?_, fun h2 => step (by simp [colB, h2])⟩, fun h1 => step (by simp [colB, h1])⟩, fun h0 => step (by simp [colB, h0])⟩
  exact (first2_found (g := fun a b => [a / (s1.length : Int), a % (s1.length : Int), b / (s1.length : Int), b % (s1.length : Int)]) ⟨a0, alt⟩ ⟨b0, blt⟩ (by simp [colB, hne, h1, h2]) aI bI).symm
theorem p_spec_l02Do (s1 s2 : List (List Int)) (list : List Int) (i : Int) (hp : pmB s1 s2 = true ∧ okTr s1 list ∧ 0 ≤ i ∧ i ≤ 1) : wp_spec_l02Do s1 s2 list i (fun y0 => y0 = doI s1 s2 list i) := by
  obtain ⟨h, ⟨l3, lr⟩, i0, i1⟩ := hp
  obtain ⟨hs, ht, he⟩ := pm_tab h
  have a := lr i i0 (by omega)
  have b := lr (i + 1) (by omega) (by omega)
  have a2 : 0 ≤ el list i ∧ el list i < (s2.length : Int) := ⟨a.1, by omega⟩
  have c := rk_len hs a
  have d := rk_len ht a2
  exact ⟨by show (list.length : Int) ≤ 1000000000; omega, ⟨i0, by omega⟩, ⟨by omega, by omega⟩, ⟨by omega, by omega⟩, a, ⟨b.1, by omega⟩, ⟨i0, by omega⟩, ⟨by omega, by omega⟩, ⟨i0, by omega⟩, ⟨by omega, by omega⟩, ⟨by omega, by omega⟩, a2, ⟨b.1, by omega⟩, ⟨by omega, by simp; omega⟩, rfl⟩
theorem p_spec_l02Fault (s1 s2 : List (List Int)) (hp : pmB s1 s2 = true) : wp_spec_l02Fault s1 s2 (fun y0 => y0 = eqF s1 s2) := by
  obtain ⟨hs, ht, he⟩ := pm_tab hp
  have hn := isTab_len hs
  refine ⟨fun x => 0 ≤ x ∧ x ≤ (s1.length : Int) ∧ Upto x fun a => ∀ b, 0 ≤ b → b < (s1.length : Int) → ∀ c, 0 ≤ c → c < (s1.length : Int) → eqB s1 s2 a b c = false, fun x => ((s1.length : Int) - x).toNat, ⟨by omega, by omega, upto0⟩, ?_⟩
  rintro x ⟨x0, x1, xI⟩
  dsimp only
  refine ⟨fun xlt => ?_, fun xge => (first3_none fun a h1 h2 => xI a h1 (by omega)).symm⟩
  refine ⟨fun y => 0 ≤ y ∧ y ≤ (s1.length : Int) ∧ Upto y fun b => ∀ c, 0 ≤ c → c < (s1.length : Int) → eqB s1 s2 x b c = false, fun y => ((s1.length : Int) - y).toNat, ⟨by omega, by omega, upto0⟩, ?_⟩
  rintro y ⟨y0, y1, yI⟩
  dsimp only
  refine ⟨fun ylt => ?_, fun yge => ⟨⟨by omega, by omega⟩, ⟨by omega, by omega, upto1 xI fun b h1 h2 => yI b h1 (by omega)⟩, by omega⟩⟩
  refine ⟨fun z => 0 ≤ z ∧ z ≤ (s1.length : Int) ∧ Upto z fun c => eqB s1 s2 x y c = false, fun z => ((s1.length : Int) - z).toNat, ⟨by omega, by omega, upto0⟩, ?_⟩
  rintro z ⟨z0, z1, zI⟩
  dsimp only
  refine ⟨fun zlt => ?_, fun zge => ⟨⟨by omega, by omega⟩, ⟨by omega, by omega, upto1 yI fun c h1 h2 => zI c h1 (by omega)⟩, by omega⟩⟩
  have k0 : okTr s1 [x, y, z] := ⟨rfl, fun j j0 j1 => by
    have : j = 0 ∨ j = 1 ∨ j = 2 := by omega
    rcases this with rfl | rfl | rfl
    · exact ⟨x0, xlt⟩
    · exact ⟨y0, ylt⟩
    · exact ⟨z0, zlt⟩⟩
  have i0 : 0 ≤ (0 : Int) ∧ (0 : Int) ≤ 1 := ⟨by omega, by omega⟩
  have i1 : 0 ≤ (1 : Int) ∧ (1 : Int) ≤ 1 := ⟨by omega, by omega⟩
  have a1 := okTr_doI hp k0 i0
  have a2 := okTr_doI hp a1 i1
  have a3 := okTr_doI hp a2 i0
  have b1 := okTr_doI hp k0 i1
  have b2 := okTr_doI hp b1 i0
  have b3 := okTr_doI hp b2 i1
  have sm : ∀ {l : List Int}, okTr s1 l → small l := fun h => by have := h.1; show ((_ : List Int).length : Int) ≤ 1000000000; omega
  refine ⟨⟨hp, k0, i0⟩, ⟨hp, a1, i1⟩, ⟨hp, a2, i0⟩, ⟨hp, k0, i1⟩, ⟨hp, b1, i0⟩, ⟨hp, b2, i1⟩, ⟨sm a3, sm b3⟩, fun hne => ?_, fun heq => ⟨⟨by omega, by omega⟩, ⟨by omega, by omega, upto1 zI ((do_eq s1 s2 x y z).1 heq)⟩, by omega⟩⟩
  have hb : eqB s1 s2 x y z = true := by
    cases h : eqB s1 s2 x y z with
    | true => rfl
    | false => exact absurd ((do_eq s1 s2 x y z).2 h) hne
  exact (first3_found ⟨x0, xlt⟩ ⟨y0, ylt⟩ ⟨z0, zlt⟩ hb xI yI zI).symm
theorem p_impl_equationFault (s1 s2 : List (List Int)) (hp : pmB s1 s2 = true) : wp_impl_equationFault s1 s2 (fun y0 => y0 = eqF s1 s2) := by
  obtain ⟨hs, ht, he⟩ := pm_tab hp
  have hn := isTab_len hs
  refine ⟨fun x => 0 ≤ x ∧ x ≤ (s1.length : Int) ∧ Upto x fun a => ∀ b, 0 ≤ b → b < (s1.length : Int) → ∀ c, 0 ≤ c → c < (s1.length : Int) → eqB s1 s2 a b c = false, fun x => ((s1.length : Int) - x).toNat, ⟨by omega, by omega, upto0⟩, ?_⟩
  rintro x ⟨x0, x1, xI⟩
  dsimp only
  refine ⟨fun xlt => ?_, fun xge => (first3_none fun a h1 h2 => xI a h1 (by omega)).symm⟩
  refine ⟨fun y => 0 ≤ y ∧ y ≤ (s1.length : Int) ∧ Upto y fun b => ∀ c, 0 ≤ c → c < (s1.length : Int) → eqB s1 s2 x b c = false, fun y => ((s1.length : Int) - y).toNat, ⟨by omega, by omega, upto0⟩, ?_⟩
  rintro y ⟨y0, y1, yI⟩
  dsimp only
  refine ⟨fun ylt => ?_, fun yge => ⟨⟨by omega, by omega⟩, ⟨by omega, by omega, upto1 xI fun b h1 h2 => yI b h1 (by omega)⟩, by omega⟩⟩
  refine ⟨fun z => 0 ≤ z ∧ z ≤ (s1.length : Int) ∧ Upto z fun c => eqB s1 s2 x y c = false, fun z => ((s1.length : Int) - z).toNat, ⟨by omega, by omega, upto0⟩, ?_⟩
  rintro z ⟨z0, z1, zI⟩
  dsimp only
  refine ⟨fun zlt => ?_, fun zge => ⟨⟨by omega, by omega⟩, ⟨by omega, by omega, upto1 yI fun c h1 h2 => zI c h1 (by omega)⟩, by omega⟩⟩
  have hx : 0 ≤ x ∧ x < (s1.length : Int) := ⟨x0, xlt⟩
  have hy : 0 ≤ y ∧ y < (s1.length : Int) := ⟨y0, ylt⟩
  have hz : 0 ≤ z ∧ z < (s1.length : Int) := ⟨z0, zlt⟩
  have w2 : ∀ {u : Int}, (0 ≤ u ∧ u < (s1.length : Int)) → 0 ≤ u ∧ u < (s2.length : Int) := fun h => ⟨h.1, by omega⟩
  have e1 : ∀ {u v : Int}, (0 ≤ u ∧ u < (s1.length : Int)) → (0 ≤ v ∧ v < (s1.length : Int)) → 0 ≤ v ∧ v < ((el s1 u).length : Int) := fun hu hv => ⟨hv.1, by have := rk_len hs hu; omega⟩
  have e2 : ∀ {u v : Int}, (0 ≤ u ∧ u < (s1.length : Int)) → (0 ≤ v ∧ v < (s1.length : Int)) → 0 ≤ v ∧ v < ((el s2 u).length : Int) := fun hu hv => ⟨hv.1, by have := rk_len ht (w2 hu); omega⟩
  have r1 : ∀ {u v : Int}, (0 ≤ u ∧ u < (s1.length : Int)) → (0 ≤ v ∧ v < (s1.length : Int)) → 0 ≤ el (el s1 u) v ∧ el (el s1 u) v < (s1.length : Int) := fun hu hv => rk_el hs hu hv
  have r2 : ∀ {u v : Int}, (0 ≤ u ∧ u < (s1.length : Int)) → (0 ≤ v ∧ v < (s1.length : Int)) → 0 ≤ el (el s2 u) v ∧ el (el s2 u) v < (s1.length : Int) := fun hu hv => ⟨(rk_el ht (w2 hu) (w2 hv)).1, by have := (rk_el ht (w2 hu) (w2 hv)).2; omega⟩
  have a0 := r1 hx hy
  have b0 := r2 hx hy
  have b1 := r1 b0 hz
  have e0 := r1 hy hz
  have f0 := r2 hy hz
  have g1 := r2 hx e0
  have found : eqB s1 s2 x y z = true → [x, y, z] = eqF s1 s2 := fun hb => (first3_found hx hy hz hb xI yI zI).symm
  refine ⟨hx, e1 hx hy, w2 hx, e2 hx hy, b0, e1 b0 hz, w2 b0, e2 b0 hz, a0, e1 a0 b1, w2 a0, e2 a0 b1, hy, e1 hy hz, w2 hy, e2 hy hz, hx, e1 hx e0, w2 hx, e2 hx e0, g1, e1 g1 f0, w2 g1, e2 g1 f0, fun h1 => found (by simp [eqB, h1]), fun h1 => ⟨fun h2 => found (by simp [eqB, h2]), fun h2 => ⟨fun h3 => found (by simp [eqB, h3]), fun h3 => ?_⟩⟩⟩
  exact ⟨⟨by omega, by omega⟩, ⟨by omega, by omega, upto1 zI (by simp [eqB, h1, h2, h3])⟩, by omega⟩
theorem p_impl_IsSolution (s1 s2 : List (List Int)) (hp : small2 s1 ∧ small2 s2) : wp_impl_IsSolution s1 s2 (fun y0 => y0 = solB s1 s2) := by
  unfold wp_impl_IsSolution solB
  have em : ∀ l : List Int, ¬ l = [] → l.isEmpty = false := fun l h => by cases l with | nil => exact absurd rfl h | cons _ _ => rfl
  refine ⟨hp, fun h => ⟨fun h2 => ⟨h, fun h3 => ⟨h, ?_⟩, fun h3 => ⟨h, ?_⟩⟩, fun h2 => ⟨h, ?_⟩⟩, fun h => ?_⟩
  · rw [h, h2, h3]; rfl
  · rw [h, h2, em _ h3]; rfl
  · rw [h, em _ h2]; rfl
  · rw [h]; rfl
theorem p_spec_l02Is (s1 s2 : List (List Int)) (hp : small2 s1 ∧ small2 s2) : wp_spec_l02Is s1 s2 (fun y0 => y0 = solB s1 s2) := by
  unfold wp_spec_l02Is solB
  refine ⟨hp, fun h => ⟨h, fun h2 => ⟨h, ?_⟩, fun h2 => ?_⟩, fun h => ?_⟩
  · rw [h, isEmpty_iff_nil, isEmpty_iff_nil, h2]; simp
  · have e : (colF s1 s2).isEmpty = false := by rw [isEmpty_iff_nil]; exact decide_eq_false h2
    rw [h, e]; rfl
  · rw [h]; rfl
theorem small2_of_tab {t : List (List Int)} (h : isTab t = true) : small2 t := by
  have hn := isTab_len h
  refine ⟨by show (t.length : Int) ≤ 1000000000; omega, fun r hr => ?_⟩
  obtain ⟨i, hi, rfl⟩ := mem_el hr
  have := rk_len h hi
  show ((el t i).length : Int) ≤ 1000000000; omega
theorem p_impl_isNondegenerate (s1 s2 : List (List Int)) (hp : pmB s1 s2 = true) : wp_impl_isNondegenerate s1 s2 (fun y0 => y0 = ndB s1 s2) := by
  obtain ⟨hs, ht, he⟩ := pm_tab hp
  exact ⟨small2_of_tab hs, fun h => ⟨ht, small2_of_tab (isTab_trnT ht), by simp [ndB, h]⟩, fun h => by simp [ndB, h]⟩
theorem p_spec_l02Good (s1 s2 : List (List Int)) (hp : pmB s1 s2 = true) : wp_spec_l02Good s1 s2 (fun y0 => y0 = ndB s1 s2) := by
  obtain ⟨hs, ht, he⟩ := pm_tab hp
  have e1 := isTab_perm hs
  have e2 := isTab_perm (isTab_trnT ht)
  exact ⟨small2_of_tab hs, fun h => ⟨ht, small2_of_tab (isTab_trnT ht), by rw [e2]; rw [e1] at h; simp [ndB, h]⟩, fun h => by rw [e1] at h; simp [ndB, h]⟩
theorem p_impl_isInvolutive (s1 s2 : List (List Int)) (hp : pmB s1 s2 = true) : wp_impl_isInvolutive s1 s2 (fun y0 => y0 = ivB s1 s2) := by
  obtain ⟨hs, ht, he⟩ := pm_tab hp
  have hn := isTab_len hs
  refine ⟨fun x => 0 ≤ x ∧ x ≤ (s1.length : Int) ∧ Upto x fun x => ∀ y, 0 ≤ y → y < (s1.length : Int) → ivP s1 s2 x y, fun x => ((s1.length : Int) - x).toNat, ⟨by omega, by omega, upto0⟩, ?_⟩
  rintro x ⟨x0, x1, xI⟩
  dsimp only
  refine ⟨fun xlt => ⟨⟨x0, xlt⟩, ?_⟩, fun xge => (dec_t fun a h1 h2 => xI a h1 (by omega)).symm⟩
  have lx := rk_len hs ⟨x0, xlt⟩
  refine ⟨fun y => 0 ≤ y ∧ y ≤ (s1.length : Int) ∧ Upto y fun y => ivP s1 s2 x y, fun y => ((s1.length : Int) - y).toNat, ⟨by omega, by omega, upto0⟩, ?_⟩
  rintro y ⟨y0, y1, yI⟩
  dsimp only
  refine ⟨fun ylt => ?_, fun yge => ⟨⟨by omega, by omega⟩, ⟨by omega, by omega, upto1 xI fun b h1 h2 => yI b h1 (by omega)⟩, by omega⟩⟩
  have lx2 := rk_len ht (x := x) ⟨x0, by omega⟩
  have u := rk_el hs (x := x) (y := y) ⟨x0, xlt⟩ ⟨y0, by omega⟩
  have v := rk_el ht (x := x) (y := y) ⟨x0, by omega⟩ ⟨y0, by omega⟩
  have lu := rk_len hs u
  have lu2 := rk_len ht (x := el (el s1 x) y) ⟨u.1, by omega⟩
  have no : ¬ ivP s1 s2 x y → false = ivB s1 s2 := fun h => (dec_f fun k => h (k x x0 xlt y y0 (by omega))).symm
  exact ⟨⟨y0, ylt⟩, ⟨x0, by omega⟩, ⟨y0, by omega⟩, u, ⟨v.1, by omega⟩, fun h1 => no fun k => h1 k.1, fun h1 => ⟨⟨u.1, by omega⟩, ⟨v.1, by omega⟩, fun h2 => no fun k => h2 k.2, fun h2 => ⟨⟨by omega, by omega⟩, ⟨by omega, by omega, upto1 yI ⟨h1, h2⟩⟩, by omega⟩⟩⟩
theorem p_spec_l02Twice (s1 s2 : List (List Int)) (hp : pmB s1 s2 = true) : wp_spec_l02Twice s1 s2 (fun y0 => y0 = ivB s1 s2) := by
  obtain ⟨hs, ht, he⟩ := pm_tab hp
  have hn := isTab_len hs
  refine ⟨fun x => 0 ≤ x ∧ x ≤ (s1.length : Int) ∧ Upto x fun x => ∀ y, 0 ≤ y → y < (s1.length : Int) → ivP s1 s2 x y, fun x => ((s1.length : Int) - x).toNat, ⟨by omega, by omega, upto0⟩, ?_⟩
  rintro x ⟨x0, x1, xI⟩
  dsimp only
  refine ⟨fun xlt => ?_, fun xge => (dec_t fun a h1 h2 => xI a h1 (by omega)).symm⟩
  have lx := rk_len hs ⟨x0, xlt⟩
  refine ⟨fun y => 0 ≤ y ∧ y ≤ (s1.length : Int) ∧ Upto y fun y => ivP s1 s2 x y, fun y => ((s1.length : Int) - y).toNat, ⟨by omega, by omega, upto0⟩, ?_⟩
  rintro y ⟨y0, y1, yI⟩
  dsimp only
  refine ⟨fun ylt => ?_, fun yge => ⟨⟨by omega, by omega⟩, ⟨by omega, by omega, upto1 xI fun b h1 h2 => yI b h1 (by omega)⟩, by omega⟩⟩
  have lx2 := rk_len ht (x := x) ⟨x0, by omega⟩
  have u := rk_el hs (x := x) (y := y) ⟨x0, xlt⟩ ⟨y0, by omega⟩
  have v := rk_el ht (x := x) (y := y) ⟨x0, by omega⟩ ⟨y0, by omega⟩
  have lu := rk_len hs u
  have lu2 := rk_len ht (x := el (el s1 x) y) ⟨u.1, by omega⟩
  have no : ¬ ivP s1 s2 x y → false = ivB s1 s2 := fun h => (dec_f fun k => h (k x x0 xlt y y0 (by omega))).symm
  exact ⟨⟨x0, xlt⟩, ⟨y0, by omega⟩, ⟨x0, by omega⟩, ⟨y0, by omega⟩, u, ⟨v.1, by omega⟩, fun h1 => no fun k => h1 k.1, fun h1 => ⟨⟨u.1, by omega⟩, ⟨v.1, by omega⟩, fun h2 => no fun k => h2 k.2, fun h2 => ⟨⟨by omega, by omega⟩, ⟨by omega, by omega, upto1 yI ⟨h1, h2⟩⟩, by omega⟩⟩⟩
theorem p_spec_CycleSetOfSolution (s1 s2 : List (List Int)) (hp : small2 s1 ∧ small2 s2) : wp_spec_CycleSetOfSolution s1 s2 (fun y0 y1 => y0 = CsoT s1 s2 ∧ y1 = CsoE s1 s2) := by
  unfold wp_spec_CycleSetOfSolution CsoT CsoE
  refine ⟨hp, fun h => by simp [h], fun h => ?_⟩
  have h' := h
  simp only [solB, Bool.and_eq_true] at h'
  refine ⟨h'.1.1, fun h2 => by simp [h, h2], fun h2 => ⟨h'.1.1, fun h3 => by simp [h, h3], fun h3 => ?_⟩⟩
  have h4 := h2
  simp only [ndB, Bool.and_eq_true] at h4
  exact ⟨⟨(pm_tab h'.1.1).1, h4.1⟩, by simp [h, h2, h3]⟩
theorem p_impl_CycleSetOfSolution (s1 s2 : List (List Int)) (hp : small2 s1 ∧ small2 s2) : wp_impl_CycleSetOfSolution s1 s2 (fun y0 y1 => y0 = CsoT s1 s2 ∧ y1 = CsoE s1 s2) := p_spec_CycleSetOfSolution s1 s2 hp
set_option maxRecDepth 100000 in
set_option maxHeartbeats 4000000 in
theorem w_spec_l02Map (s1 : List (List Int)) (s2 : List (List Int)) (Q : Bool → Prop) (h : wp_spec_l02Map s1 s2 Q) : AF Try.prog 174 [.agg [.lst (rows s1), .lst (rows s2)]] (fun R_ => ∃ y0, Q y0 ∧ R_ = cb y0) := by
  refine AF.ofWQ (af_enter (n := 20) Try.func174 rfl (by rfl) rfl (Nat.le_of_ble_eq_true rfl) ?_)
  unfold wp_spec_l02Map at h
  refine aw_seq ?_
  refine aw_gh (gh_to (n := 20) (σ' := []) (env' := [(0, .c (.agg [.lst (rows s1), .lst (rows s2)]))]) rfl rfl ⟨rfl, trivial⟩) ?_
  refine aw_region ?_
  refine run_w (ws_boxR rfl (.inl rfl) rfl ⟨rfl, ?_⟩)
  refine run_s (ss_assign rfl) rfl ?_
  refine run_nil ?_
  refine aw_seq ?_
  refine aw_region ?_
  refine run_s (ss_field_ptr rfl) rfl ?_
  refine run_s (ss_load_ptr rfl rfl) rfl ?_
  obtain ⟨q1, h⟩ := h
  refine run_w (ws_call (xs := [.tmp 4]) (ids := []) rfl rfl rfl rfl (c_spec_l01Table s1 q1) rfl ?_ )
  rintro _ rfl
  refine ⟨rfl, ?_⟩
  refine run_s (ss_move rfl) rfl ?_
  refine run_split (s := 6) rfl (fun q3 => ?_) (fun q3 => ?_)
  ·replace h := h.1 (q3)
   refine run_gt rfl rfl q3 ?_
   refine run_s (ss_field_ptr rfl) rfl ?_
   refine run_gt rfl rfl q3 ?_
   refine run_s (ss_load_ptr rfl rfl) rfl ?_
   refine run_gt rfl rfl q3 ?_
   obtain ⟨q4, h⟩ := h
   refine run_w (ws_call (xs := [.tmp 8]) (ids := []) rfl rfl rfl rfl (c_spec_l01Table s2 q4) rfl ?_ )
   rintro _ rfl
   refine ⟨rfl, ?_⟩
   refine run_s (ss_pickT rfl q3 rfl) rfl ?_
   refine run_s (ss_move rfl) rfl ?_
   refine run_split (s := 11) rfl (fun q6 => ?_) (fun q6 => ?_)
   ·replace h := h.1 (q6)
    refine run_gt rfl rfl q6 ?_
    refine run_s (ss_field_ptr rfl) rfl ?_
    refine run_gt rfl rfl q6 ?_
    refine run_s (ss_load_ptr rfl rfl) rfl ?_
    refine run_gt rfl rfl q6 ?_
    refine run_s (ss_lenL (f := (fun r => C.lst (ints r))) rfl) rfl ?_
    refine run_gt rfl rfl q6 ?_
    refine run_s (ss_field_ptr rfl) rfl ?_
    refine run_gt rfl rfl q6 ?_
    refine run_s (ss_load_ptr rfl rfl) rfl ?_
    refine run_gt rfl rfl q6 ?_
    refine run_s (ss_lenL (f := (fun r => C.lst (ints r))) rfl) rfl ?_
    refine run_gt rfl rfl q6 ?_
    refine run_s (ss_eql rfl rfl) rfl ?_
    refine run_s (ss_pickT rfl q6 rfl) rfl ?_
    refine run_s (ss_assign rfl) rfl ?_
    refine run_nil ?_
    refine aw_ret ?_
    exact retAF_mk (retv1 rfl (rv_tmp rfl)) rfl rfl ⟨_, (cle_refl _), _, h, rfl⟩
   ·replace h := h.2 (q6)
    refine run_gf rfl rfl q6 rfl ?_
    refine run_gf rfl rfl q6 rfl ?_
    refine run_gf rfl rfl q6 rfl ?_
    refine run_gf rfl rfl q6 rfl ?_
    refine run_gf rfl rfl q6 rfl ?_
    refine run_gf rfl rfl q6 rfl ?_
    refine run_gf rfl rfl q6 rfl ?_
    refine run_s (ss_pickF rfl q6 rfl) rfl ?_
    refine run_s (ss_assign rfl) rfl ?_
    refine run_nil ?_
    refine aw_ret ?_
    exact retAF_mk (retv1 rfl (rv_tmp rfl)) rfl rfl ⟨_, (cle_refl _), _, h, rfl⟩
  ·replace h := h.2 (q3)
   refine run_gf rfl rfl q3 rfl ?_
   refine run_gf rfl rfl q3 rfl ?_
   refine run_gf rfl rfl q3 rfl ?_
   refine run_s (ss_pickF rfl q3 rfl) rfl ?_
   refine run_s (ss_move rfl) rfl ?_
   refine run_split (s := 11) rfl (fun q7 => ?_) (fun q7 => ?_)
   ·cases q7
   ·skip
    refine run_gf rfl rfl q7 rfl ?_
    refine run_gf rfl rfl q7 rfl ?_
    refine run_gf rfl rfl q7 rfl ?_
    refine run_gf rfl rfl q7 rfl ?_
    refine run_gf rfl rfl q7 rfl ?_
    refine run_gf rfl rfl q7 rfl ?_
    refine run_gf rfl rfl q7 rfl ?_
    refine run_s (ss_pickF rfl q7 rfl) rfl ?_
    refine run_s (ss_assign rfl) rfl ?_
    refine run_nil ?_
    refine aw_ret ?_
    exact retAF_mk (retv1 rfl (rv_tmp rfl)) rfl rfl ⟨_, (cle_refl _), _, h, rfl⟩

theorem c_spec_l02Map (s1 : List (List Int)) (s2 : List (List Int)) (hp : small2 s1 ∧ small2 s2) : AF Try.prog 174 [.agg [.lst (rows s1), .lst (rows s2)]] (fun R_ => R_ = cb (pmB s1 s2)) :=
  (w_spec_l02Map s1 s2 (fun y0 => y0 = pmB s1 s2) (p_spec_l02Map s1 s2 hp)).mono (by rintro r ⟨_, rfl, rfl⟩; rfl)

set_option maxRecDepth 100000 in
set_option maxHeartbeats 4000000 in
theorem w_spec_l02Collision (s1 : List (List Int)) (s2 : List (List Int)) (Q : List Int → Prop) (h : wp_spec_l02Collision s1 s2 Q) : AF Try.prog 175 [.agg [.lst (rows s1), .lst (rows s2)]] (fun R_ => ∃ y0, Q y0 ∧ R_ = .own (ints y0)) := by
  refine AF.ofWQ (af_enter (n := 86) Try.func175 rfl (by rfl) rfl (Nat.le_of_ble_eq_true rfl) ?_)
  unfold wp_spec_l02Collision at h
  refine aw_seq ?_
  refine aw_gh (gh_to (n := 86) (σ' := []) (env' := [(0, .c (.agg [.lst (rows s1), .lst (rows s2)]))]) rfl rfl ⟨rfl, trivial⟩) ?_
  refine aw_region ?_
  refine run_w (ws_boxR rfl (.inl rfl) rfl ⟨rfl, ?_⟩)
  refine run_s (ss_assign rfl) rfl ?_
  refine run_nil ?_
  refine aw_seq ?_
  refine aw_region ?_
  refine run_s (ss_field_ptr rfl) rfl ?_
  refine run_s (ss_load_ptr rfl rfl) rfl ?_
  refine run_s (ss_lenL (f := (fun r => C.lst (ints r))) rfl) rfl ?_
  refine run_s (ss_assign rfl) rfl ?_
  refine run_nil ?_
  refine aw_seq ?_
  refine aw_seq ?_
  refine aw_region ?_
  refine run_s (ss_assign rfl) rfl ?_
  refine run_nil ?_
  refine aw_block ?_
  obtain ⟨H1, m1, q1, h⟩ := h
  refine aw_loop1 (fun (v4_1 : Int) => ⟨[], [(1, .c (.ptr [.lst (rows s1), .lst (rows s2)])), (3, .c (ci (s1.length : Int))), (4, .c (ci v4_1))], 86⟩) H1 m1 ⟨0, ghe_to (n := 86) rfl rfl ⟨rfl, rfl, rfl, trivial⟩, q1⟩ ?_
  rintro v4_1 q1
  replace h := h v4_1 q1
  refine aw_seq ?_
  refine aw_seq ?_
  refine aw_region ?_
  refine run_s (ss_move rfl) rfl ?_
  refine run_s (ss_move rfl) rfl ?_
  refine run_s (ss_move rfl) rfl ?_
  obtain ⟨q2, h⟩ := h
  refine run_s (ss_mul rfl rfl q2) rfl ?_
  refine run_s (ss_lss rfl rfl) rfl ?_
  refine run_nil ?_
  refine aw_cond rfl (fun q3 => ?_) (fun q3 => ?_)
  ·replace h := h.1 (of_decide_eq_true q3)
   refine aw_skip ?_
   refine aw_seq ?_
   refine aw_block ?_
   refine aw_seq ?_
   refine aw_region ?_
   refine run_s (ss_assign rfl) rfl ?_
   refine run_nil ?_
   refine aw_block ?_
   obtain ⟨H2, m2, q4, h⟩ := h
   refine aw_loop1 (fun (v5_2 : Int) => ⟨[], [(1, .c (.ptr [.lst (rows s1), .lst (rows s2)])), (3, .c (ci (s1.length : Int))), (4, .c (ci v4_1)), (5, .c (ci v5_2))], 86⟩) H2 m2 ⟨0, ghe_to (n := 86) rfl rfl ⟨rfl, rfl, rfl, rfl, trivial⟩, q4⟩ ?_
   rintro v5_2 q4
   replace h := h v5_2 q4
   refine aw_seq ?_
   refine aw_seq ?_
   refine aw_region ?_
   refine run_s (ss_move rfl) rfl ?_
   refine run_s (ss_move rfl) rfl ?_
   refine run_s (ss_move rfl) rfl ?_
   obtain ⟨q5, h⟩ := h
   refine run_s (ss_mul rfl rfl q5) rfl ?_
   refine run_s (ss_lss rfl rfl) rfl ?_
   refine run_nil ?_
   refine aw_cond rfl (fun q6 => ?_) (fun q6 => ?_)
   ·replace h := h.1 (of_decide_eq_true q6)
    refine aw_skip ?_
    refine aw_seq ?_
    refine aw_block ?_
    refine aw_seq ?_
    refine aw_gh (gh_to (n := 86) (σ' := []) (env' := [(1, .c (.ptr [.lst (rows s1), .lst (rows s2)])), (3, .c (ci (s1.length : Int))), (4, .c (ci v4_1)), (5, .c (ci v5_2))]) rfl rfl ⟨rfl, rfl, rfl, rfl, trivial⟩) ?_
    refine aw_regionD (kd := kdl [0, 0, 0, 0, 0, 0, 0, 0, 0, 0, 0, 0, 0, 0, 0, 0]) (ord := [0, 1, 2, 3, 4, 5, 6, 7, 8, 9, 10, 11, 12, 13, 14, 15]) [] mixed (by kernel_rfl) ?_
    refine rd_s rfl rfl trivial (ss_move rfl) rfl ?_
    refine rd_s rfl rfl trivial (ss_move rfl) rfl ?_
    obtain ⟨q7, h⟩ := h
    refine rd_s rfl rfl trivial (ss_quo rfl rfl q7) rfl ?_
    refine rd_s rfl rfl trivial (ss_move rfl) rfl ?_
    refine rd_s rfl rfl trivial (ss_move rfl) rfl ?_
    obtain ⟨q8, h⟩ := h
    refine rd_s rfl rfl trivial (ss_rem rfl rfl q8) rfl ?_
    refine rd_s rfl rfl trivial (ss_move rfl) rfl ?_
    refine rd_s rfl rfl trivial (ss_move rfl) rfl ?_
    obtain ⟨q9, h⟩ := h
    refine rd_s rfl rfl trivial (ss_quo rfl rfl q9) rfl ?_
    refine rd_s rfl rfl trivial (ss_move rfl) rfl ?_
    refine rd_s rfl rfl trivial (ss_move rfl) rfl ?_
    obtain ⟨q10, h⟩ := h
    refine rd_s rfl rfl trivial (ss_rem rfl rfl q10) rfl ?_
    refine rd_s rfl rfl trivial (ss_assign rfl) rfl ?_
    refine rd_s rfl rfl trivial (ss_assign rfl) rfl ?_
    refine rd_s rfl rfl trivial (ss_assign rfl) rfl ?_
    refine rd_s rfl rfl trivial (ss_assign rfl) rfl ?_
    refine rd_nil ?_
    refine aw_seq ?_
    refine aw_gh (gh_to (n := 86) (σ' := []) (env' := [(1, .c (.ptr [.lst (rows s1), .lst (rows s2)])), (3, .c (ci (s1.length : Int))), (4, .c (ci v4_1)), (5, .c (ci v5_2)), (6, .c (ci (v4_1 / (s1.length : Int)))), (7, .c (ci (v4_1 % (s1.length : Int)))), (8, .c (ci (v5_2 / (s1.length : Int)))), (9, .c (ci (v5_2 % (s1.length : Int))))]) rfl rfl ⟨rfl, rfl, rfl, rfl, rfl, rfl, rfl, rfl, trivial⟩) ?_
    refine aw_regionD (kd := kdl [0, 0, 0, 0, 0, 1, 0, 0, 1, 0, 0, 1, 0, 1, 0, 0, 1, 0, 0, 1, 0, 0, 0, 0, 1, 0, 0, 1, 0, 0, 1, 0, 1, 0, 0, 1, 0, 0, 1, 0, 0]) (ord := [0, 1, 2, 3, 4, 6, 9, 12, 14, 17, 5, 7, 8, 10, 11, 13, 15, 16, 18, 19, 20, 21, 22, 23, 25, 28, 31, 33, 36, 24, 26, 27, 29, 30, 32, 34, 35, 37, 38, 39, 40]) [] mixed (by kernel_rfl) ?_
    refine rd_s rfl rfl trivial (ss_move rfl) rfl ?_
    refine rd_s rfl rfl trivial (ss_move rfl) rfl ?_
    refine rd_s rfl rfl trivial (ss_neq rfl rfl) rfl ?_
    refine rd_s rfl rfl trivial (ss_move rfl) rfl ?_
    refine rd_split (s := 42) rfl (fun q11 => ?_) (fun q11 => ?_)
    ·replace h := h.1 (of_decide_eq_false (bnot_t q11))
     refine rd_s rfl rfl ⟨_, _, rfl, rfl, q11⟩ (ss_field_ptr rfl) rfl ?_
     refine rd_s rfl rfl ⟨_, _, rfl, rfl, q11⟩ (ss_move rfl) rfl ?_
     refine rd_s rfl rfl ⟨_, _, rfl, rfl, q11⟩ (ss_move rfl) rfl ?_
     refine rd_s rfl rfl ⟨_, _, rfl, rfl, q11⟩ (ss_field_ptr rfl) rfl ?_
     refine rd_s rfl rfl ⟨_, _, rfl, rfl, q11⟩ (ss_move rfl) rfl ?_
     refine rd_s rfl rfl ⟨_, _, rfl, rfl, q11⟩ (ss_move rfl) rfl ?_
     refine rd_l rfl rfl ⟨_, _, rfl, rfl, q11⟩ (ss_load_ptr rfl rfl) rfl ?_
     obtain ⟨q12, h⟩ := h
     refine rd_s rfl rfl ⟨_, _, rfl, rfl, q11⟩ (ss_idxL rfl rfl q12) rfl ?_
     refine rd_l rfl rfl ⟨_, _, rfl, rfl, q11⟩ (ss_loadL (f := (fun r => C.lst (ints r))) rfl q12) rfl ?_
     obtain ⟨q13, h⟩ := h
     refine rd_s rfl rfl ⟨_, _, rfl, rfl, q11⟩ (ss_idxL rfl rfl q13) rfl ?_
     refine rd_l rfl rfl ⟨_, _, rfl, rfl, q11⟩ (ss_loadL (f := ci) rfl q13) rfl ?_
     refine rd_l rfl rfl ⟨_, _, rfl, rfl, q11⟩ (ss_load_ptr rfl rfl) rfl ?_
     obtain ⟨q14, h⟩ := h
     refine rd_s rfl rfl ⟨_, _, rfl, rfl, q11⟩ (ss_idxL rfl rfl q14) rfl ?_
     refine rd_l rfl rfl ⟨_, _, rfl, rfl, q11⟩ (ss_loadL (f := (fun r => C.lst (ints r))) rfl q14) rfl ?_
     obtain ⟨q15, h⟩ := h
     refine rd_s rfl rfl ⟨_, _, rfl, rfl, q11⟩ (ss_idxL rfl rfl q15) rfl ?_
     refine rd_l rfl rfl ⟨_, _, rfl, rfl, q11⟩ (ss_loadL (f := ci) rfl q15) rfl ?_
     refine rd_s rfl rfl ⟨_, _, rfl, rfl, q11⟩ (ss_eql rfl rfl) rfl ?_
     refine rd_s rfl rfl trivial (ss_pickT rfl q11 rfl) rfl ?_
     refine rd_s rfl rfl trivial (ss_move rfl) rfl ?_
     refine rd_split (s := 61) rfl (fun q16 => ?_) (fun q16 => ?_)
     ·replace h := h.1 (of_decide_eq_true q16)
      refine rd_s rfl rfl ⟨_, _, rfl, rfl, q16⟩ (ss_field_ptr rfl) rfl ?_
      refine rd_s rfl rfl ⟨_, _, rfl, rfl, q16⟩ (ss_move rfl) rfl ?_
      refine rd_s rfl rfl ⟨_, _, rfl, rfl, q16⟩ (ss_move rfl) rfl ?_
      refine rd_s rfl rfl ⟨_, _, rfl, rfl, q16⟩ (ss_field_ptr rfl) rfl ?_
      refine rd_s rfl rfl ⟨_, _, rfl, rfl, q16⟩ (ss_move rfl) rfl ?_
      refine rd_s rfl rfl ⟨_, _, rfl, rfl, q16⟩ (ss_move rfl) rfl ?_
      refine rd_l rfl rfl ⟨_, _, rfl, rfl, q16⟩ (ss_load_ptr rfl rfl) rfl ?_
      obtain ⟨q17, h⟩ := h
      refine rd_s rfl rfl ⟨_, _, rfl, rfl, q16⟩ (ss_idxL rfl rfl q17) rfl ?_
      refine rd_l rfl rfl ⟨_, _, rfl, rfl, q16⟩ (ss_loadL (f := (fun r => C.lst (ints r))) rfl q17) rfl ?_
      obtain ⟨q18, h⟩ := h
      refine rd_s rfl rfl ⟨_, _, rfl, rfl, q16⟩ (ss_idxL rfl rfl q18) rfl ?_
      refine rd_l rfl rfl ⟨_, _, rfl, rfl, q16⟩ (ss_loadL (f := ci) rfl q18) rfl ?_
      refine rd_l rfl rfl ⟨_, _, rfl, rfl, q16⟩ (ss_load_ptr rfl rfl) rfl ?_
      obtain ⟨q19, h⟩ := h
      refine rd_s rfl rfl ⟨_, _, rfl, rfl, q16⟩ (ss_idxL rfl rfl q19) rfl ?_
      refine rd_l rfl rfl ⟨_, _, rfl, rfl, q16⟩ (ss_loadL (f := (fun r => C.lst (ints r))) rfl q19) rfl ?_
      obtain ⟨q20, h⟩ := h
      refine rd_s rfl rfl ⟨_, _, rfl, rfl, q16⟩ (ss_idxL rfl rfl q20) rfl ?_
      refine rd_l rfl rfl ⟨_, _, rfl, rfl, q16⟩ (ss_loadL (f := ci) rfl q20) rfl ?_
      refine rd_s rfl rfl ⟨_, _, rfl, rfl, q16⟩ (ss_eql rfl rfl) rfl ?_
      refine rd_s rfl rfl trivial (ss_pickT rfl q16 rfl) rfl ?_
      refine rd_nil ?_
      refine aw_cond rfl (fun q21 => ?_) (fun q21 => ?_)
      ·replace h := h.1 (of_decide_eq_true q21)
       refine aw_seq ?_
       refine aw_gh (gh_to (n := 86) (σ' := []) (env' := [(6, .c (ci (v4_1 / (s1.length : Int)))), (7, .c (ci (v4_1 % (s1.length : Int)))), (8, .c (ci (v5_2 / (s1.length : Int)))), (9, .c (ci (v5_2 % (s1.length : Int))))]) rfl rfl ⟨rfl, rfl, rfl, rfl, trivial⟩) ?_
       refine aw_region ?_
       refine run_s (ss_move rfl) rfl ?_
       refine run_s (ss_move rfl) rfl ?_
       refine run_s (ss_move rfl) rfl ?_
       refine run_s (ss_move rfl) rfl ?_
       refine run_w (ws_buildSlice (id := 84) (ps := [(0, .tmp 80), (1, .tmp 81), (2, .tmp 82), (3, .tmp 83)]) rfl rfl (Nat.le_of_ble_eq_true rfl) rfl ⟨rfl, ?_⟩)
       refine run_s (ss_assign rfl) rfl ?_
       refine run_nil ?_
       refine aw_ret ?_
       exact retAF_mk (retv1 rfl (rv_tmp rfl)) rfl rfl ⟨_, (cle_refl _), _, h, rfl⟩
      ·replace h := h.2 (of_decide_eq_false q21)
       refine aw_skip ?_
       refine aw_gh (gh_to (n := 86) (σ' := []) (env' := [(1, .c (.ptr [.lst (rows s1), .lst (rows s2)])), (3, .c (ci (s1.length : Int))), (4, .c (ci v4_1)), (5, .c (ci v5_2)), (43, .c (.ptr [.lst (rows s1), .lst (rows s2)])), (44, .c (.lst (rows s1))), (45, .c (ci (v4_1 / (s1.length : Int)))), (46, .c (.ptr ((rows s1).drop (v4_1 / (s1.length : Int)).toNat))), (47, .c (.lst (ints (el s1 (v4_1 / (s1.length : Int)))))), (48, .c (ci (v4_1 % (s1.length : Int)))), (49, .c (.ptr ((ints (el s1 (v4_1 / (s1.length : Int)))).drop (v4_1 % (s1.length : Int)).toNat))), (50, .c (ci (el (el s1 (v4_1 / (s1.length : Int))) (v4_1 % (s1.length : Int))))), (51, .c (.ptr [.lst (rows s1), .lst (rows s2)])), (52, .c (.lst (rows s1))), (53, .c (ci (v5_2 / (s1.length : Int)))), (54, .c (.ptr ((rows s1).drop (v5_2 / (s1.length : Int)).toNat))), (55, .c (.lst (ints (el s1 (v5_2 / (s1.length : Int)))))), (56, .c (ci (v5_2 % (s1.length : Int)))), (57, .c (.ptr ((ints (el s1 (v5_2 / (s1.length : Int)))).drop (v5_2 % (s1.length : Int)).toNat))), (58, .c (ci (el (el s1 (v5_2 / (s1.length : Int))) (v5_2 % (s1.length : Int))))), (59, .c (cb (decide (el (el s1 (v4_1 / (s1.length : Int))) (v4_1 % (s1.length : Int)) = el (el s1 (v5_2 / (s1.length : Int))) (v5_2 % (s1.length : Int)))))), (62, .c (.ptr [.lst (rows s2)])), (63, .c (.lst (rows s2))), (64, .c (ci (v4_1 / (s1.length : Int)))), (65, .c (.ptr ((rows s2).drop (v4_1 / (s1.length : Int)).toNat))), (66, .c (.lst (ints (el s2 (v4_1 / (s1.length : Int)))))), (67, .c (ci (v4_1 % (s1.length : Int)))), (68, .c (.ptr ((ints (el s2 (v4_1 / (s1.length : Int)))).drop (v4_1 % (s1.length : Int)).toNat))), (69, .c (ci (el (el s2 (v4_1 / (s1.length : Int))) (v4_1 % (s1.length : Int))))), (70, .c (.ptr [.lst (rows s2)])), (71, .c (.lst (rows s2))), (72, .c (ci (v5_2 / (s1.length : Int)))), (73, .c (.ptr ((rows s2).drop (v5_2 / (s1.length : Int)).toNat))), (74, .c (.lst (ints (el s2 (v5_2 / (s1.length : Int)))))), (75, .c (ci (v5_2 % (s1.length : Int)))), (76, .c (.ptr ((ints (el s2 (v5_2 / (s1.length : Int)))).drop (v5_2 % (s1.length : Int)).toNat))), (77, .c (ci (el (el s2 (v5_2 / (s1.length : Int))) (v5_2 % (s1.length : Int))))), (78, .c (cb (decide (el (el s2 (v4_1 / (s1.length : Int))) (v4_1 % (s1.length : Int)) = el (el s2 (v5_2 / (s1.length : Int))) (v5_2 % (s1.length : Int))))))]) rfl rfl ⟨rfl, rfl, rfl, rfl, rfl, rfl, rfl, rfl, rfl, rfl, rfl, rfl, rfl, rfl, rfl, rfl, rfl, rfl, rfl, rfl, rfl, rfl, rfl, rfl, rfl, rfl, rfl, rfl, rfl, rfl, rfl, rfl, rfl, rfl, rfl, rfl, rfl, rfl, trivial⟩) ?_
       refine aw_region ?_
       refine run_s (ss_move rfl) rfl ?_
       obtain ⟨q22, h⟩ := h
       refine run_s (ss_add rfl rfl q22) rfl ?_
       refine run_s (ss_assign rfl) rfl ?_
       refine run_nil ?_
       exact ⟨v5_2 + 1, ghe_to (n := 86) rfl rfl ⟨rfl, rfl, rfl, rfl, trivial⟩, h.1, h.2⟩
     ·replace h := h.2 (of_decide_eq_false q16)
      refine rd_no rfl rfl rfl q16 rfl ?_
      refine rd_no rfl rfl rfl q16 rfl ?_
      refine rd_no rfl rfl rfl q16 rfl ?_
      refine rd_no rfl rfl rfl q16 rfl ?_
      refine rd_no rfl rfl rfl q16 rfl ?_
      refine rd_no rfl rfl rfl q16 rfl ?_
      refine rd_no rfl rfl rfl q16 rfl ?_
      refine rd_no rfl rfl rfl q16 rfl ?_
      refine rd_no rfl rfl rfl q16 rfl ?_
      refine rd_no rfl rfl rfl q16 rfl ?_
      refine rd_no rfl rfl rfl q16 rfl ?_
      refine rd_no rfl rfl rfl q16 rfl ?_
      refine rd_no rfl rfl rfl q16 rfl ?_
      refine rd_no rfl rfl rfl q16 rfl ?_
      refine rd_no rfl rfl rfl q16 rfl ?_
      refine rd_no rfl rfl rfl q16 rfl ?_
      refine rd_no rfl rfl rfl q16 rfl ?_
      refine rd_s rfl rfl trivial (ss_pickF rfl q16 rfl) rfl ?_
      refine rd_nil ?_
      refine aw_cond rfl (fun q23 => ?_) (fun q23 => ?_)
      ·cases q23
      ·skip
       refine aw_skip ?_
       refine aw_gh (gh_to (n := 86) (σ' := []) (env' := [(1, .c (.ptr [.lst (rows s1), .lst (rows s2)])), (3, .c (ci (s1.length : Int))), (4, .c (ci v4_1)), (5, .c (ci v5_2)), (43, .c (.ptr [.lst (rows s1), .lst (rows s2)])), (44, .c (.lst (rows s1))), (45, .c (ci (v4_1 / (s1.length : Int)))), (46, .c (.ptr ((rows s1).drop (v4_1 / (s1.length : Int)).toNat))), (47, .c (.lst (ints (el s1 (v4_1 / (s1.length : Int)))))), (48, .c (ci (v4_1 % (s1.length : Int)))), (49, .c (.ptr ((ints (el s1 (v4_1 / (s1.length : Int)))).drop (v4_1 % (s1.length : Int)).toNat))), (50, .c (ci (el (el s1 (v4_1 / (s1.length : Int))) (v4_1 % (s1.length : Int))))), (51, .c (.ptr [.lst (rows s1), .lst (rows s2)])), (52, .c (.lst (rows s1))), (53, .c (ci (v5_2 / (s1.length : Int)))), (54, .c (.ptr ((rows s1).drop (v5_2 / (s1.length : Int)).toNat))), (55, .c (.lst (ints (el s1 (v5_2 / (s1.length : Int)))))), (56, .c (ci (v5_2 % (s1.length : Int)))), (57, .c (.ptr ((ints (el s1 (v5_2 / (s1.length : Int)))).drop (v5_2 % (s1.length : Int)).toNat))), (58, .c (ci (el (el s1 (v5_2 / (s1.length : Int))) (v5_2 % (s1.length : Int))))), (59, .c (cb (decide (el (el s1 (v4_1 / (s1.length : Int))) (v4_1 % (s1.length : Int)) = el (el s1 (v5_2 / (s1.length : Int))) (v5_2 % (s1.length : Int))))))]) rfl rfl ⟨rfl, rfl, rfl, rfl, rfl, rfl, rfl, rfl, rfl, rfl, rfl, rfl, rfl, rfl, rfl, rfl, rfl, rfl, rfl, rfl, rfl, trivial⟩) ?_
       refine aw_region ?_
       refine run_s (ss_move rfl) rfl ?_
       obtain ⟨q24, h⟩ := h
       refine run_s (ss_add rfl rfl q24) rfl ?_
       refine run_s (ss_assign rfl) rfl ?_
       refine run_nil ?_
       exact ⟨v5_2 + 1, ghe_to (n := 86) rfl rfl ⟨rfl, rfl, rfl, rfl, trivial⟩, h.1, h.2⟩
    ·replace h := h.2 (of_decide_eq_true (bnot_f q11))
     refine rd_no rfl rfl rfl q11 rfl ?_
     refine rd_no rfl rfl rfl q11 rfl ?_
     refine rd_no rfl rfl rfl q11 rfl ?_
     refine rd_no rfl rfl rfl q11 rfl ?_
     refine rd_no rfl rfl rfl q11 rfl ?_
     refine rd_no rfl rfl rfl q11 rfl ?_
     refine rd_no rfl rfl rfl q11 rfl ?_
     refine rd_no rfl rfl rfl q11 rfl ?_
     refine rd_no rfl rfl rfl q11 rfl ?_
     refine rd_no rfl rfl rfl q11 rfl ?_
     refine rd_no rfl rfl rfl q11 rfl ?_
     refine rd_no rfl rfl rfl q11 rfl ?_
     refine rd_no rfl rfl rfl q11 rfl ?_
     refine rd_no rfl rfl rfl q11 rfl ?_
     refine rd_no rfl rfl rfl q11 rfl ?_
     refine rd_no rfl rfl rfl q11 rfl ?_
     refine rd_no rfl rfl rfl q11 rfl ?_
     refine rd_s rfl rfl trivial (ss_pickF rfl q11 rfl) rfl ?_
     refine rd_s rfl rfl trivial (ss_move rfl) rfl ?_
     refine rd_split (s := 61) rfl (fun q25 => ?_) (fun q25 => ?_)
     ·cases q25
     ·skip
      refine rd_no rfl rfl rfl q25 rfl ?_
      refine rd_no rfl rfl rfl q25 rfl ?_
      refine rd_no rfl rfl rfl q25 rfl ?_
      refine rd_no rfl rfl rfl q25 rfl ?_
      refine rd_no rfl rfl rfl q25 rfl ?_
      refine rd_no rfl rfl rfl q25 rfl ?_
      refine rd_no rfl rfl rfl q25 rfl ?_
      refine rd_no rfl rfl rfl q25 rfl ?_
      refine rd_no rfl rfl rfl q25 rfl ?_
      refine rd_no rfl rfl rfl q25 rfl ?_
      refine rd_no rfl rfl rfl q25 rfl ?_
      refine rd_no rfl rfl rfl q25 rfl ?_
      refine rd_no rfl rfl rfl q25 rfl ?_
      refine rd_no rfl rfl rfl q25 rfl ?_
      refine rd_no rfl rfl rfl q25 rfl ?_
      refine rd_no rfl rfl rfl q25 rfl ?_
      refine rd_no rfl rfl rfl q25 rfl ?_
      refine rd_s rfl rfl trivial (ss_pickF rfl q25 rfl) rfl ?_
      refine rd_nil ?_
      refine aw_cond rfl (fun q26 => ?_) (fun q26 => ?_)
      ·cases q26
      ·skip
       refine aw_skip ?_
       refine aw_gh (gh_to (n := 86) (σ' := []) (env' := [(1, .c (.ptr [.lst (rows s1), .lst (rows s2)])), (3, .c (ci (s1.length : Int))), (4, .c (ci v4_1)), (5, .c (ci v5_2))]) rfl rfl ⟨rfl, rfl, rfl, rfl, trivial⟩) ?_
       refine aw_region ?_
       refine run_s (ss_move rfl) rfl ?_
       obtain ⟨q27, h⟩ := h
       refine run_s (ss_add rfl rfl q27) rfl ?_
       refine run_s (ss_assign rfl) rfl ?_
       refine run_nil ?_
       exact ⟨v5_2 + 1, ghe_to (n := 86) rfl rfl ⟨rfl, rfl, rfl, rfl, trivial⟩, h.1, h.2⟩
   ·replace h := h.2 (of_decide_eq_false q6)
    refine aw_exit ?_
    refine aw_region ?_
    refine run_s (ss_move rfl) rfl ?_
    obtain ⟨q28, h⟩ := h
    refine run_s (ss_add rfl rfl q28) rfl ?_
    refine run_s (ss_assign rfl) rfl ?_
    refine run_nil ?_
    exact ⟨v4_1 + 1, ghe_to (n := 86) rfl rfl ⟨rfl, rfl, rfl, trivial⟩, h.1, h.2⟩
  ·replace h := h.2 (of_decide_eq_false q3)
   refine aw_exit ?_
   refine aw_seq ?_
   refine aw_gh (gh_to (n := 86) (σ' := []) (env' := []) rfl rfl trivial) ?_
   refine aw_region ?_
   refine run_w (ws_buildSlice (id := 85) (ps := []) rfl rfl (Nat.le_of_ble_eq_true rfl) rfl ⟨rfl, ?_⟩)
   refine run_s (ss_assign rfl) rfl ?_
   refine run_nil ?_
   refine aw_ret ?_
   exact retAF_mk (retv1 rfl (rv_tmp rfl)) rfl rfl ⟨_, (cle_refl _), _, h, rfl⟩

theorem c_spec_l02Collision (s1 : List (List Int)) (s2 : List (List Int)) (hp : pmB s1 s2 = true) : AF Try.prog 175 [.agg [.lst (rows s1), .lst (rows s2)]] (fun R_ => R_ = .own (ints (colF s1 s2))) :=
  (w_spec_l02Collision s1 s2 (fun y0 => y0 = colF s1 s2) (p_spec_l02Collision s1 s2 hp)).mono (by rintro r ⟨_, rfl, rfl⟩; rfl)

set_option maxRecDepth 100000 in
set_option maxHeartbeats 4000000 in
theorem w_impl_collisionOf (s1 : List (List Int)) (s2 : List (List Int)) (Q : List Int → Prop) (h : wp_impl_collisionOf s1 s2 Q) : AF Try.prog 138 [.agg [.lst (rows s1), .lst (rows s2)]] (fun R_ => ∃ y0, Q y0 ∧ R_ = onil y0) := by
  refine AF.ofWQ (af_enter (n := 85) Try.func138 rfl (by rfl) rfl (Nat.le_of_ble_eq_true rfl) ?_)
  unfold wp_impl_collisionOf at h
  refine aw_seq ?_
  refine aw_gh (gh_to (n := 85) (σ' := []) (env' := [(0, .c (.agg [.lst (rows s1), .lst (rows s2)]))]) rfl rfl ⟨rfl, trivial⟩) ?_
  refine aw_region ?_
  refine run_w (ws_boxR rfl (.inl rfl) rfl ⟨rfl, ?_⟩)
  refine run_s (ss_assign rfl) rfl ?_
  refine run_nil ?_
  refine aw_seq ?_
  refine aw_region ?_
  refine run_s (ss_field_ptr rfl) rfl ?_
  refine run_s (ss_load_ptr rfl rfl) rfl ?_
  refine run_s (ss_lenL (f := (fun r => C.lst (ints r))) rfl) rfl ?_
  refine run_s (ss_assign rfl) rfl ?_
  refine run_nil ?_
  refine aw_seq ?_
  refine aw_seq ?_
  refine aw_region ?_
  refine run_s (ss_move rfl) rfl ?_
  refine run_s (ss_move rfl) rfl ?_
  obtain ⟨q1, h⟩ := h
  refine run_s (ss_mul rfl rfl q1) rfl ?_
  refine run_s (ss_move rfl) rfl ?_
  refine run_nil ?_
  refine aw_block ?_
  obtain ⟨H1, m1, q2, h⟩ := h
  refine aw_loop1 (fun (v16_1 : Int) => ⟨[], [(1, .c (.ptr [.lst (rows s1), .lst (rows s2)])), (3, .c (ci (s1.length : Int))), (15, .c (ci ((s1.length : Int) * (s1.length : Int)))), (16, .c (ci v16_1))], 85⟩) H1 m1 ⟨0, ghe_to (n := 85) rfl rfl ⟨rfl, rfl, rfl, rfl, trivial⟩, q2⟩ ?_
  rintro v16_1 q2
  replace h := h v16_1 q2
  refine aw_seq ?_
  refine aw_region ?_
  refine run_s (ss_lss rfl rfl) rfl ?_
  refine run_nil ?_
  refine aw_seq ?_
  refine aw_cond rfl (fun q3 => ?_) (fun q3 => ?_)
  ·replace h := h.1 (of_decide_eq_true q3)
   refine aw_skip ?_
   refine aw_seq ?_
   refine aw_block ?_
   refine aw_seq ?_
   refine aw_region ?_
   refine run_s (ss_move rfl) rfl ?_
   refine run_s (ss_assign rfl) rfl ?_
   refine run_nil ?_
   refine aw_seq ?_
   refine aw_gh (gh_to (n := 85) (σ' := []) (env' := [(1, .c (.ptr [.lst (rows s1), .lst (rows s2)])), (3, .c (ci (s1.length : Int))), (4, .c (ci v16_1)), (15, .c (ci ((s1.length : Int) * (s1.length : Int)))), (16, .c (ci v16_1))]) rfl rfl ⟨rfl, rfl, rfl, rfl, rfl, trivial⟩) ?_
   refine aw_regionD (kd := kdl [0, 0, 0, 0, 0, 0, 0, 0]) (ord := [0, 1, 2, 3, 4, 5, 6, 7]) [] mixed (by kernel_rfl) ?_
   refine rd_s rfl rfl trivial (ss_move rfl) rfl ?_
   refine rd_s rfl rfl trivial (ss_move rfl) rfl ?_
   obtain ⟨q4, h⟩ := h
   refine rd_s rfl rfl trivial (ss_quo rfl rfl q4) rfl ?_
   refine rd_s rfl rfl trivial (ss_move rfl) rfl ?_
   refine rd_s rfl rfl trivial (ss_move rfl) rfl ?_
   obtain ⟨q5, h⟩ := h
   refine rd_s rfl rfl trivial (ss_rem rfl rfl q5) rfl ?_
   refine rd_s rfl rfl trivial (ss_assign rfl) rfl ?_
   refine rd_s rfl rfl trivial (ss_assign rfl) rfl ?_
   refine rd_nil ?_
   refine aw_seq ?_
   refine aw_region ?_
   refine run_s (ss_move rfl) rfl ?_
   refine run_s (ss_move rfl) rfl ?_
   obtain ⟨q6, h⟩ := h
   refine run_s (ss_mul rfl rfl q6) rfl ?_
   refine run_s (ss_move rfl) rfl ?_
   refine run_nil ?_
   refine aw_block ?_
   obtain ⟨H2, m2, q7, h⟩ := h
   refine aw_loop1 (fun (v28_2 : Int) => ⟨[], [(1, .c (.ptr [.lst (rows s1), .lst (rows s2)])), (3, .c (ci (s1.length : Int))), (4, .c (ci v16_1)), (5, .c (ci (v16_1 / (s1.length : Int)))), (6, .c (ci (v16_1 % (s1.length : Int)))), (15, .c (ci ((s1.length : Int) * (s1.length : Int)))), (16, .c (ci v16_1)), (27, .c (ci ((s1.length : Int) * (s1.length : Int)))), (28, .c (ci v28_2))], 85⟩) H2 m2 ⟨0, ghe_to (n := 85) rfl rfl ⟨rfl, rfl, rfl, rfl, rfl, rfl, rfl, rfl, rfl, trivial⟩, q7⟩ ?_
   rintro v28_2 q7
   replace h := h v28_2 q7
   refine aw_seq ?_
   refine aw_region ?_
   refine run_s (ss_lss rfl rfl) rfl ?_
   refine run_nil ?_
   refine aw_seq ?_
   refine aw_cond rfl (fun q8 => ?_) (fun q8 => ?_)
   ·replace h := h.1 (of_decide_eq_true q8)
    refine aw_skip ?_
    refine aw_seq ?_
    refine aw_block ?_
    refine aw_seq ?_
    refine aw_region ?_
    refine run_s (ss_move rfl) rfl ?_
    refine run_s (ss_assign rfl) rfl ?_
    refine run_nil ?_
    refine aw_seq ?_
    refine aw_gh (gh_to (n := 85) (σ' := []) (env' := [(1, .c (.ptr [.lst (rows s1), .lst (rows s2)])), (3, .c (ci (s1.length : Int))), (4, .c (ci v16_1)), (5, .c (ci (v16_1 / (s1.length : Int)))), (6, .c (ci (v16_1 % (s1.length : Int)))), (7, .c (ci v28_2)), (15, .c (ci ((s1.length : Int) * (s1.length : Int)))), (16, .c (ci v16_1)), (27, .c (ci ((s1.length : Int) * (s1.length : Int)))), (28, .c (ci v28_2))]) rfl rfl ⟨rfl, rfl, rfl, rfl, rfl, rfl, rfl, rfl, rfl, rfl, trivial⟩) ?_
    refine aw_regionD (kd := kdl [0, 0, 0, 0, 0, 0, 0, 0]) (ord := [0, 1, 2, 3, 4, 5, 6, 7]) [] mixed (by kernel_rfl) ?_
    refine rd_s rfl rfl trivial (ss_move rfl) rfl ?_
    refine rd_s rfl rfl trivial (ss_move rfl) rfl ?_
    obtain ⟨q9, h⟩ := h
    refine rd_s rfl rfl trivial (ss_quo rfl rfl q9) rfl ?_
    refine rd_s rfl rfl trivial (ss_move rfl) rfl ?_
    refine rd_s rfl rfl trivial (ss_move rfl) rfl ?_
    obtain ⟨q10, h⟩ := h
    refine rd_s rfl rfl trivial (ss_rem rfl rfl q10) rfl ?_
    refine rd_s rfl rfl trivial (ss_assign rfl) rfl ?_
    refine rd_s rfl rfl trivial (ss_assign rfl) rfl ?_
    refine rd_nil ?_
    refine aw_seq ?_
    refine aw_gh (gh_to (n := 85) (σ' := []) (env' := [(1, .c (.ptr [.lst (rows s1), .lst (rows s2)])), (3, .c (ci (s1.length : Int))), (4, .c (ci v16_1)), (5, .c (ci (v16_1 / (s1.length : Int)))), (6, .c (ci (v16_1 % (s1.length : Int)))), (7, .c (ci v28_2)), (8, .c (ci (v28_2 / (s1.length : Int)))), (9, .c (ci (v28_2 % (s1.length : Int)))), (15, .c (ci ((s1.length : Int) * (s1.length : Int)))), (16, .c (ci v16_1)), (27, .c (ci ((s1.length : Int) * (s1.length : Int)))), (28, .c (ci v28_2))]) rfl rfl ⟨rfl, rfl, rfl, rfl, rfl, rfl, rfl, rfl, rfl, rfl, rfl, rfl, trivial⟩) ?_
    refine aw_regionD (kd := kdl [0, 0, 0, 0, 0, 1, 0, 0, 1, 0, 0, 1, 0, 1, 0, 0, 1, 0, 0, 1, 0, 0, 0, 0, 1, 0, 0, 1, 0, 0, 1, 0, 1, 0, 0, 1, 0, 0, 1, 0, 0]) (ord := [0, 1, 2, 3, 4, 6, 9, 12, 14, 17, 5, 7, 8, 10, 11, 13, 15, 16, 18, 19, 20, 21, 22, 23, 25, 28, 31, 33, 36, 24, 26, 27, 29, 30, 32, 34, 35, 37, 38, 39, 40]) [] mixed (by kernel_rfl) ?_
    refine rd_s rfl rfl trivial (ss_move rfl) rfl ?_
    refine rd_s rfl rfl trivial (ss_move rfl) rfl ?_
    refine rd_s rfl rfl trivial (ss_neq rfl rfl) rfl ?_
    refine rd_s rfl rfl trivial (ss_move rfl) rfl ?_
    refine rd_split (s := 40) rfl (fun q11 => ?_) (fun q11 => ?_)
    ·replace h := h.1 (of_decide_eq_false (bnot_t q11))
     refine rd_s rfl rfl ⟨_, _, rfl, rfl, q11⟩ (ss_field_ptr rfl) rfl ?_
     refine rd_s rfl rfl ⟨_, _, rfl, rfl, q11⟩ (ss_move rfl) rfl ?_
     refine rd_s rfl rfl ⟨_, _, rfl, rfl, q11⟩ (ss_move rfl) rfl ?_
     refine rd_s rfl rfl ⟨_, _, rfl, rfl, q11⟩ (ss_field_ptr rfl) rfl ?_
     refine rd_s rfl rfl ⟨_, _, rfl, rfl, q11⟩ (ss_move rfl) rfl ?_
     refine rd_s rfl rfl ⟨_, _, rfl, rfl, q11⟩ (ss_move rfl) rfl ?_
     refine rd_l rfl rfl ⟨_, _, rfl, rfl, q11⟩ (ss_load_ptr rfl rfl) rfl ?_
     obtain ⟨q12, h⟩ := h
     refine rd_s rfl rfl ⟨_, _, rfl, rfl, q11⟩ (ss_idxL rfl rfl q12) rfl ?_
     refine rd_l rfl rfl ⟨_, _, rfl, rfl, q11⟩ (ss_loadL (f := (fun r => C.lst (ints r))) rfl q12) rfl ?_
     obtain ⟨q13, h⟩ := h
     refine rd_s rfl rfl ⟨_, _, rfl, rfl, q11⟩ (ss_idxL rfl rfl q13) rfl ?_
     refine rd_l rfl rfl ⟨_, _, rfl, rfl, q11⟩ (ss_loadL (f := ci) rfl q13) rfl ?_
     refine rd_l rfl rfl ⟨_, _, rfl, rfl, q11⟩ (ss_load_ptr rfl rfl) rfl ?_
     obtain ⟨q14, h⟩ := h
     refine rd_s rfl rfl ⟨_, _, rfl, rfl, q11⟩ (ss_idxL rfl rfl q14) rfl ?_
     refine rd_l rfl rfl ⟨_, _, rfl, rfl, q11⟩ (ss_loadL (f := (fun r => C.lst (ints r))) rfl q14) rfl ?_
     obtain ⟨q15, h⟩ := h
     refine rd_s rfl rfl ⟨_, _, rfl, rfl, q11⟩ (ss_idxL rfl rfl q15) rfl ?_
     refine rd_l rfl rfl ⟨_, _, rfl, rfl, q11⟩ (ss_loadL (f := ci) rfl q15) rfl ?_
     refine rd_s rfl rfl ⟨_, _, rfl, rfl, q11⟩ (ss_eql rfl rfl) rfl ?_
     refine rd_s rfl rfl trivial (ss_pickT rfl q11 rfl) rfl ?_
     refine rd_s rfl rfl trivial (ss_move rfl) rfl ?_
     refine rd_split (s := 59) rfl (fun q16 => ?_) (fun q16 => ?_)
     ·replace h := h.1 (of_decide_eq_true q16)
      refine rd_s rfl rfl ⟨_, _, rfl, rfl, q16⟩ (ss_field_ptr rfl) rfl ?_
      refine rd_s rfl rfl ⟨_, _, rfl, rfl, q16⟩ (ss_move rfl) rfl ?_
      refine rd_s rfl rfl ⟨_, _, rfl, rfl, q16⟩ (ss_move rfl) rfl ?_
      refine rd_s rfl rfl ⟨_, _, rfl, rfl, q16⟩ (ss_field_ptr rfl) rfl ?_
      refine rd_s rfl rfl ⟨_, _, rfl, rfl, q16⟩ (ss_move rfl) rfl ?_
      refine rd_s rfl rfl ⟨_, _, rfl, rfl, q16⟩ (ss_move rfl) rfl ?_
      refine rd_l rfl rfl ⟨_, _, rfl, rfl, q16⟩ (ss_load_ptr rfl rfl) rfl ?_
      obtain ⟨q17, h⟩ := h
      refine rd_s rfl rfl ⟨_, _, rfl, rfl, q16⟩ (ss_idxL rfl rfl q17) rfl ?_
      refine rd_l rfl rfl ⟨_, _, rfl, rfl, q16⟩ (ss_loadL (f := (fun r => C.lst (ints r))) rfl q17) rfl ?_
      obtain ⟨q18, h⟩ := h
      refine rd_s rfl rfl ⟨_, _, rfl, rfl, q16⟩ (ss_idxL rfl rfl q18) rfl ?_
      refine rd_l rfl rfl ⟨_, _, rfl, rfl, q16⟩ (ss_loadL (f := ci) rfl q18) rfl ?_
      refine rd_l rfl rfl ⟨_, _, rfl, rfl, q16⟩ (ss_load_ptr rfl rfl) rfl ?_
      obtain ⟨q19, h⟩ := h
      refine rd_s rfl rfl ⟨_, _, rfl, rfl, q16⟩ (ss_idxL rfl rfl q19) rfl ?_
      refine rd_l rfl rfl ⟨_, _, rfl, rfl, q16⟩ (ss_loadL (f := (fun r => C.lst (ints r))) rfl q19) rfl ?_
      obtain ⟨q20, h⟩ := h
      refine rd_s rfl rfl ⟨_, _, rfl, rfl, q16⟩ (ss_idxL rfl rfl q20) rfl ?_
      refine rd_l rfl rfl ⟨_, _, rfl, rfl, q16⟩ (ss_loadL (f := ci) rfl q20) rfl ?_
      refine rd_s rfl rfl ⟨_, _, rfl, rfl, q16⟩ (ss_eql rfl rfl) rfl ?_
      refine rd_s rfl rfl trivial (ss_pickT rfl q16 rfl) rfl ?_
      refine rd_nil ?_
      refine aw_cond rfl (fun q21 => ?_) (fun q21 => ?_)
      ·replace h := h.1 (of_decide_eq_true q21)
       refine aw_seq ?_
       refine aw_gh (gh_to (n := 85) (σ' := []) (env' := [(5, .c (ci (v16_1 / (s1.length : Int)))), (6, .c (ci (v16_1 % (s1.length : Int)))), (8, .c (ci (v28_2 / (s1.length : Int)))), (9, .c (ci (v28_2 % (s1.length : Int))))]) rfl rfl ⟨rfl, rfl, rfl, rfl, trivial⟩) ?_
       refine aw_region ?_
       refine run_s (ss_move rfl) rfl ?_
       refine run_s (ss_move rfl) rfl ?_
       refine run_s (ss_move rfl) rfl ?_
       refine run_s (ss_move rfl) rfl ?_
       refine run_w (ws_buildSlice (id := 82) (ps := [(0, .tmp 78), (1, .tmp 79), (2, .tmp 80), (3, .tmp 81)]) rfl rfl (Nat.le_of_ble_eq_true rfl) rfl ⟨rfl, ?_⟩)
       refine run_s (ss_assign rfl) rfl ?_
       refine run_nil ?_
       refine aw_ret ?_
       exact retAF_mk (retv1 rfl (rv_tmp rfl)) rfl rfl ⟨_, (cle_refl _), _, h, rfl⟩
      ·replace h := h.2 (of_decide_eq_false q21)
       refine aw_skip ?_
       refine aw_gh (gh_to (n := 85) (σ' := []) (env' := [(1, .c (.ptr [.lst (rows s1), .lst (rows s2)])), (3, .c (ci (s1.length : Int))), (4, .c (ci v16_1)), (5, .c (ci (v16_1 / (s1.length : Int)))), (6, .c (ci (v16_1 % (s1.length : Int)))), (15, .c (ci ((s1.length : Int) * (s1.length : Int)))), (16, .c (ci v16_1)), (27, .c (ci ((s1.length : Int) * (s1.length : Int)))), (28, .c (ci v28_2)), (41, .c (.ptr [.lst (rows s1), .lst (rows s2)])), (42, .c (.lst (rows s1))), (43, .c (ci (v16_1 / (s1.length : Int)))), (44, .c (.ptr ((rows s1).drop (v16_1 / (s1.length : Int)).toNat))), (45, .c (.lst (ints (el s1 (v16_1 / (s1.length : Int)))))), (46, .c (ci (v16_1 % (s1.length : Int)))), (47, .c (.ptr ((ints (el s1 (v16_1 / (s1.length : Int)))).drop (v16_1 % (s1.length : Int)).toNat))), (48, .c (ci (el (el s1 (v16_1 / (s1.length : Int))) (v16_1 % (s1.length : Int))))), (49, .c (.ptr [.lst (rows s1), .lst (rows s2)])), (50, .c (.lst (rows s1))), (51, .c (ci (v28_2 / (s1.length : Int)))), (52, .c (.ptr ((rows s1).drop (v28_2 / (s1.length : Int)).toNat))), (53, .c (.lst (ints (el s1 (v28_2 / (s1.length : Int)))))), (54, .c (ci (v28_2 % (s1.length : Int)))), (55, .c (.ptr ((ints (el s1 (v28_2 / (s1.length : Int)))).drop (v28_2 % (s1.length : Int)).toNat))), (56, .c (ci (el (el s1 (v28_2 / (s1.length : Int))) (v28_2 % (s1.length : Int))))), (57, .c (cb (decide (el (el s1 (v16_1 / (s1.length : Int))) (v16_1 % (s1.length : Int)) = el (el s1 (v28_2 / (s1.length : Int))) (v28_2 % (s1.length : Int)))))), (60, .c (.ptr [.lst (rows s2)])), (61, .c (.lst (rows s2))), (62, .c (ci (v16_1 / (s1.length : Int)))), (63, .c (.ptr ((rows s2).drop (v16_1 / (s1.length : Int)).toNat))), (64, .c (.lst (ints (el s2 (v16_1 / (s1.length : Int)))))), (65, .c (ci (v16_1 % (s1.length : Int)))), (66, .c (.ptr ((ints (el s2 (v16_1 / (s1.length : Int)))).drop (v16_1 % (s1.length : Int)).toNat))), (67, .c (ci (el (el s2 (v16_1 / (s1.length : Int))) (v16_1 % (s1.length : Int))))), (68, .c (.ptr [.lst (rows s2)])), (69, .c (.lst (rows s2))), (70, .c (ci (v28_2 / (s1.length : Int)))), (71, .c (.ptr ((rows s2).drop (v28_2 / (s1.length : Int)).toNat))), (72, .c (.lst (ints (el s2 (v28_2 / (s1.length : Int)))))), (73, .c (ci (v28_2 % (s1.length : Int)))), (74, .c (.ptr ((ints (el s2 (v28_2 / (s1.length : Int)))).drop (v28_2 % (s1.length : Int)).toNat))), (75, .c (ci (el (el s2 (v28_2 / (s1.length : Int))) (v28_2 % (s1.length : Int))))), (76, .c (cb (decide (el (el s2 (v16_1 / (s1.length : Int))) (v16_1 % (s1.length : Int)) = el (el s2 (v28_2 / (s1.length : Int))) (v28_2 % (s1.length : Int))))))]) rfl rfl ⟨rfl, rfl, rfl, rfl, rfl, rfl, rfl, rfl, rfl, rfl, rfl, rfl, rfl, rfl, rfl, rfl, rfl, rfl, rfl, rfl, rfl, rfl, rfl, rfl, rfl, rfl, rfl, rfl, rfl, rfl, rfl, rfl, rfl, rfl, rfl, rfl, rfl, rfl, rfl, rfl, rfl, rfl, rfl, trivial⟩) ?_
       refine aw_region ?_
       obtain ⟨q22, h⟩ := h
       refine run_s (ss_add rfl rfl q22) rfl ?_
       refine run_s (ss_move rfl) rfl ?_
       refine run_nil ?_
       exact ⟨v28_2 + 1, ghe_to (n := 85) rfl rfl ⟨rfl, rfl, rfl, rfl, rfl, rfl, rfl, rfl, rfl, trivial⟩, h.1, h.2⟩
     ·replace h := h.2 (of_decide_eq_false q16)
      refine rd_no rfl rfl rfl q16 rfl ?_
      refine rd_no rfl rfl rfl q16 rfl ?_
      refine rd_no rfl rfl rfl q16 rfl ?_
      refine rd_no rfl rfl rfl q16 rfl ?_
      refine rd_no rfl rfl rfl q16 rfl ?_
      refine rd_no rfl rfl rfl q16 rfl ?_
      refine rd_no rfl rfl rfl q16 rfl ?_
      refine rd_no rfl rfl rfl q16 rfl ?_
      refine rd_no rfl rfl rfl q16 rfl ?_
      refine rd_no rfl rfl rfl q16 rfl ?_
      refine rd_no rfl rfl rfl q16 rfl ?_
      refine rd_no rfl rfl rfl q16 rfl ?_
      refine rd_no rfl rfl rfl q16 rfl ?_
      refine rd_no rfl rfl rfl q16 rfl ?_
      refine rd_no rfl rfl rfl q16 rfl ?_
      refine rd_no rfl rfl rfl q16 rfl ?_
      refine rd_no rfl rfl rfl q16 rfl ?_
      refine rd_s rfl rfl trivial (ss_pickF rfl q16 rfl) rfl ?_
      refine rd_nil ?_
      refine aw_cond rfl (fun q23 => ?_) (fun q23 => ?_)
      ·cases q23
      ·skip
       refine aw_skip ?_
       refine aw_gh (gh_to (n := 85) (σ' := []) (env' := [(1, .c (.ptr [.lst (rows s1), .lst (rows s2)])), (3, .c (ci (s1.length : Int))), (4, .c (ci v16_1)), (5, .c (ci (v16_1 / (s1.length : Int)))), (6, .c (ci (v16_1 % (s1.length : Int)))), (15, .c (ci ((s1.length : Int) * (s1.length : Int)))), (16, .c (ci v16_1)), (27, .c (ci ((s1.length : Int) * (s1.length : Int)))), (28, .c (ci v28_2)), (41, .c (.ptr [.lst (rows s1), .lst (rows s2)])), (42, .c (.lst (rows s1))), (43, .c (ci (v16_1 / (s1.length : Int)))), (44, .c (.ptr ((rows s1).drop (v16_1 / (s1.length : Int)).toNat))), (45, .c (.lst (ints (el s1 (v16_1 / (s1.length : Int)))))), (46, .c (ci (v16_1 % (s1.length : Int)))), (47, .c (.ptr ((ints (el s1 (v16_1 / (s1.length : Int)))).drop (v16_1 % (s1.length : Int)).toNat))), (48, .c (ci (el (el s1 (v16_1 / (s1.length : Int))) (v16_1 % (s1.length : Int))))), (49, .c (.ptr [.lst (rows s1), .lst (rows s2)])), (50, .c (.lst (rows s1))), (51, .c (ci (v28_2 / (s1.length : Int)))), (52, .c (.ptr ((rows s1).drop (v28_2 / (s1.length : Int)).toNat))), (53, .c (.lst (ints (el s1 (v28_2 / (s1.length : Int)))))), (54, .c (ci (v28_2 % (s1.length : Int)))), (55, .c (.ptr ((ints (el s1 (v28_2 / (s1.length : Int)))).drop (v28_2 % (s1.length : Int)).toNat))), (56, .c (ci (el (el s1 (v28_2 / (s1.length : Int))) (v28_2 % (s1.length : Int))))), (57, .c (cb (decide (el (el s1 (v16_1 / (s1.length : Int))) (v16_1 % (s1.length : Int)) = el (el s1 (v28_2 / (s1.length : Int))) (v28_2 % (s1.length : Int))))))]) rfl rfl ⟨rfl, rfl, rfl, rfl, rfl, rfl, rfl, rfl, rfl, rfl, rfl, rfl, rfl, rfl, rfl, rfl, rfl, rfl, rfl, rfl, rfl, rfl, rfl, rfl, rfl, rfl, trivial⟩) ?_
       refine aw_region ?_
       obtain ⟨q24, h⟩ := h
       refine run_s (ss_add rfl rfl q24) rfl ?_
       refine run_s (ss_move rfl) rfl ?_
       refine run_nil ?_
       exact ⟨v28_2 + 1, ghe_to (n := 85) rfl rfl ⟨rfl, rfl, rfl, rfl, rfl, rfl, rfl, rfl, rfl, trivial⟩, h.1, h.2⟩
    ·replace h := h.2 (of_decide_eq_true (bnot_f q11))
     refine rd_no rfl rfl rfl q11 rfl ?_
     refine rd_no rfl rfl rfl q11 rfl ?_
     refine rd_no rfl rfl rfl q11 rfl ?_
     refine rd_no rfl rfl rfl q11 rfl ?_
     refine rd_no rfl rfl rfl q11 rfl ?_
     refine rd_no rfl rfl rfl q11 rfl ?_
     refine rd_no rfl rfl rfl q11 rfl ?_
     refine rd_no rfl rfl rfl q11 rfl ?_
     refine rd_no rfl rfl rfl q11 rfl ?_
     refine rd_no rfl rfl rfl q11 rfl ?_
     refine rd_no rfl rfl rfl q11 rfl ?_
     refine rd_no rfl rfl rfl q11 rfl ?_
     refine rd_no rfl rfl rfl q11 rfl ?_
     refine rd_no rfl rfl rfl q11 rfl ?_
     refine rd_no rfl rfl rfl q11 rfl ?_
     refine rd_no rfl rfl rfl q11 rfl ?_
     refine rd_no rfl rfl rfl q11 rfl ?_
     refine rd_s rfl rfl trivial (ss_pickF rfl q11 rfl) rfl ?_
     refine rd_s rfl rfl trivial (ss_move rfl) rfl ?_
     refine rd_split (s := 59) rfl (fun q25 => ?_) (fun q25 => ?_)
     ·cases q25
     ·skip
      refine rd_no rfl rfl rfl q25 rfl ?_
      refine rd_no rfl rfl rfl q25 rfl ?_
      refine rd_no rfl rfl rfl q25 rfl ?_
      refine rd_no rfl rfl rfl q25 rfl ?_
      refine rd_no rfl rfl rfl q25 rfl ?_
      refine rd_no rfl rfl rfl q25 rfl ?_
      refine rd_no rfl rfl rfl q25 rfl ?_
      refine rd_no rfl rfl rfl q25 rfl ?_
      refine rd_no rfl rfl rfl q25 rfl ?_
      refine rd_no rfl rfl rfl q25 rfl ?_
      refine rd_no rfl rfl rfl q25 rfl ?_
      refine rd_no rfl rfl rfl q25 rfl ?_
      refine rd_no rfl rfl rfl q25 rfl ?_
      refine rd_no rfl rfl rfl q25 rfl ?_
      refine rd_no rfl rfl rfl q25 rfl ?_
      refine rd_no rfl rfl rfl q25 rfl ?_
      refine rd_no rfl rfl rfl q25 rfl ?_
      refine rd_s rfl rfl trivial (ss_pickF rfl q25 rfl) rfl ?_
      refine rd_nil ?_
      refine aw_cond rfl (fun q26 => ?_) (fun q26 => ?_)
      ·cases q26
      ·skip
       refine aw_skip ?_
       refine aw_gh (gh_to (n := 85) (σ' := []) (env' := [(1, .c (.ptr [.lst (rows s1), .lst (rows s2)])), (3, .c (ci (s1.length : Int))), (4, .c (ci v16_1)), (5, .c (ci (v16_1 / (s1.length : Int)))), (6, .c (ci (v16_1 % (s1.length : Int)))), (15, .c (ci ((s1.length : Int) * (s1.length : Int)))), (16, .c (ci v16_1)), (27, .c (ci ((s1.length : Int) * (s1.length : Int)))), (28, .c (ci v28_2))]) rfl rfl ⟨rfl, rfl, rfl, rfl, rfl, rfl, rfl, rfl, rfl, trivial⟩) ?_
       refine aw_region ?_
       obtain ⟨q27, h⟩ := h
       refine run_s (ss_add rfl rfl q27) rfl ?_
       refine run_s (ss_move rfl) rfl ?_
       refine run_nil ?_
       exact ⟨v28_2 + 1, ghe_to (n := 85) rfl rfl ⟨rfl, rfl, rfl, rfl, rfl, rfl, rfl, rfl, rfl, trivial⟩, h.1, h.2⟩
   ·replace h := h.2 (of_decide_eq_false q8)
    refine aw_exit ?_
    refine aw_region ?_
    obtain ⟨q28, h⟩ := h
    refine run_s (ss_add rfl rfl q28) rfl ?_
    refine run_s (ss_move rfl) rfl ?_
    refine run_nil ?_
    exact ⟨v16_1 + 1, ghe_to (n := 85) rfl rfl ⟨rfl, rfl, rfl, rfl, trivial⟩, h.1, h.2⟩
  ·replace h := h.2 (of_decide_eq_false q3)
   refine aw_exit ?_
   refine aw_seq ?_
   refine aw_gh (gh_to (n := 85) (σ' := []) (env' := []) rfl rfl trivial) ?_
   refine aw_region ?_
   refine run_s (ss_assign rfl) rfl ?_
   refine run_nil ?_
   refine aw_ret ?_
   exact retAF_mk (retv1 rfl (rv_tmp rfl)) rfl rfl ⟨_, (cle_refl _), _, h, rfl⟩

theorem c_impl_collisionOf (s1 : List (List Int)) (s2 : List (List Int)) (hp : pmB s1 s2 = true) : AF Try.prog 138 [.agg [.lst (rows s1), .lst (rows s2)]] (fun R_ => R_ = onil (colF s1 s2)) :=
  (w_impl_collisionOf s1 s2 (fun y0 => y0 = colF s1 s2) (p_impl_collisionOf s1 s2 hp)).mono (by rintro r ⟨_, rfl, rfl⟩; rfl)

set_option maxRecDepth 100000 in
set_option maxHeartbeats 4000000 in
theorem w_spec_l02Do (s1 : List (List Int)) (s2 : List (List Int)) (list : List Int) (i : Int) (Q : List Int → Prop) (h : wp_spec_l02Do s1 s2 list i Q) : AF Try.prog 201 [.agg [.lst (rows s1), .lst (rows s2)], .lst (ints list), ci i] (fun R_ => ∃ y0, Q y0 ∧ R_ = .own (ints y0)) := by
  refine AF.ofWQ (af_enter (n := 48) Try.func201 rfl (by rfl) rfl (Nat.le_of_ble_eq_true rfl) ?_)
  unfold wp_spec_l02Do at h
  refine aw_seq ?_
  refine aw_gh (gh_to (n := 48) (σ' := []) (env' := [(0, .c (.agg [.lst (rows s1), .lst (rows s2)])), (1, .c (.lst (ints list))), (2, .c (ci i))]) rfl rfl ⟨rfl, rfl, rfl, trivial⟩) ?_
  refine aw_region ?_
  refine run_w (ws_boxR rfl (.inl rfl) rfl ⟨rfl, ?_⟩)
  refine run_s (ss_assign rfl) rfl ?_
  refine run_nil ?_
  refine aw_seq ?_
  refine aw_region ?_
  refine run_s (ss_move rfl) rfl ?_
  obtain ⟨q1, h⟩ := h
  refine run_w (ws_call (xs := [.tmp 8]) (ids := [9]) rfl rfl rfl rfl (c_spec_l01Own list q1) rfl ?_ )
  rintro _ rfl
  refine ⟨rfl, ?_⟩
  refine run_s (ss_assign rfl) rfl ?_
  refine run_nil ?_
  refine aw_seq ?_
  refine aw_gh (gh_to (n := 48) (σ' := [(9, ⟨ints list, []⟩)]) (env' := [(1, .c (.lst (ints list))), (2, .c (ci i)), (3, .c (.ptr [.lst (rows s1), .lst (rows s2)])), (7, .ref 9)]) rfl rfl ⟨rfl, rfl, rfl, rfl, trivial⟩) ?_
  refine aw_regionD (kd := kdl [0, 0, 0, 1, 0, 0, 0, 1, 0, 1, 0, 0, 0, 0, 1, 0, 1, 0, 3]) (ord := [0, 1, 2, 4, 5, 6, 10, 11, 12, 13, 3, 7, 8, 9, 14, 15, 16, 17, 18]) [] mixed (by kernel_rfl) ?_
  refine rd_s rfl rfl trivial (ss_move rfl) rfl ?_
  refine rd_s rfl rfl trivial (ss_move rfl) rfl ?_
  refine rd_s rfl rfl trivial (ss_field_ptr rfl) rfl ?_
  refine rd_s rfl rfl trivial (ss_move rfl) rfl ?_
  refine rd_s rfl rfl trivial (ss_move rfl) rfl ?_
  obtain ⟨q3, h⟩ := h
  refine rd_s rfl rfl trivial (ss_idxL rfl rfl q3) rfl ?_
  refine rd_s rfl rfl trivial (ss_move rfl) rfl ?_
  refine rd_s rfl rfl trivial (ss_move rfl) rfl ?_
  obtain ⟨q4, h⟩ := h
  refine rd_s rfl rfl trivial (ss_add rfl rfl q4) rfl ?_
  obtain ⟨q5, h⟩ := h
  refine rd_s rfl rfl trivial (ss_idxL rfl rfl q5) rfl ?_
  refine rd_l rfl rfl trivial (ss_load_ptr rfl rfl) rfl ?_
  refine rd_l rfl rfl trivial (ss_loadL (f := ci) rfl q3) rfl ?_
  obtain ⟨q6, h⟩ := h
  refine rd_s rfl rfl trivial (ss_idxL rfl rfl q6) rfl ?_
  refine rd_l rfl rfl trivial (ss_loadL (f := (fun r => C.lst (ints r))) rfl q6) rfl ?_
  refine rd_l rfl rfl trivial (ss_loadL (f := ci) rfl q5) rfl ?_
  obtain ⟨q7, h⟩ := h
  refine rd_s rfl rfl trivial (ss_idxL rfl rfl q7) rfl ?_
  refine rd_l rfl rfl trivial (ss_loadL (f := ci) rfl q7) rfl ?_
  obtain ⟨q8, h⟩ := h
  refine rd_s rfl rfl trivial (ss_idxR (f := ci) rfl rfl rfl q8) rfl ?_
  refine rd_f rfl rfl trivial (ws_storeE rfl rfl (map_lt q8) rfl rfl (map_se (f := ci)) rfl ⟨rfl, ?_⟩)
  refine rd_nil ?_
  refine aw_seq ?_
  refine aw_gh (gh_to (n := 48) (σ' := [(9, ⟨ints (se list i (el (el s1 (el list i)) (el list (i + 1)))), []⟩)]) (env' := [(1, .c (.lst (ints list))), (2, .c (ci i)), (3, .c (.ptr [.lst (rows s1), .lst (rows s2)])), (7, .ref 9)]) rfl rfl ⟨rfl, rfl, rfl, rfl, trivial⟩) ?_
  refine aw_regionD (kd := kdl [0, 0, 0, 0, 1, 0, 0, 0, 1, 0, 1, 0, 0, 0, 0, 1, 0, 1, 0, 3]) (ord := [0, 1, 2, 3, 5, 6, 7, 11, 12, 13, 14, 4, 8, 9, 10, 15, 16, 17, 18, 19]) [] mixed (by kernel_rfl) ?_
  refine rd_s rfl rfl trivial (ss_move rfl) rfl ?_
  refine rd_s rfl rfl trivial (ss_move rfl) rfl ?_
  obtain ⟨q9, h⟩ := h
  refine rd_s rfl rfl trivial (ss_add rfl rfl q9) rfl ?_
  refine rd_s rfl rfl trivial (ss_field_ptr rfl) rfl ?_
  refine rd_s rfl rfl trivial (ss_move rfl) rfl ?_
  refine rd_s rfl rfl trivial (ss_move rfl) rfl ?_
  obtain ⟨q10, h⟩ := h
  refine rd_s rfl rfl trivial (ss_idxL rfl rfl q10) rfl ?_
  refine rd_s rfl rfl trivial (ss_move rfl) rfl ?_
  refine rd_s rfl rfl trivial (ss_move rfl) rfl ?_
  obtain ⟨q11, h⟩ := h
  refine rd_s rfl rfl trivial (ss_add rfl rfl q11) rfl ?_
  obtain ⟨q12, h⟩ := h
  refine rd_s rfl rfl trivial (ss_idxL rfl rfl q12) rfl ?_
  refine rd_l rfl rfl trivial (ss_load_ptr rfl rfl) rfl ?_
  refine rd_l rfl rfl trivial (ss_loadL (f := ci) rfl q10) rfl ?_
  obtain ⟨q13, h⟩ := h
  refine rd_s rfl rfl trivial (ss_idxL rfl rfl q13) rfl ?_
  refine rd_l rfl rfl trivial (ss_loadL (f := (fun r => C.lst (ints r))) rfl q13) rfl ?_
  refine rd_l rfl rfl trivial (ss_loadL (f := ci) rfl q12) rfl ?_
  obtain ⟨q14, h⟩ := h
  refine rd_s rfl rfl trivial (ss_idxL rfl rfl q14) rfl ?_
  refine rd_l rfl rfl trivial (ss_loadL (f := ci) rfl q14) rfl ?_
  obtain ⟨q15, h⟩ := h
  refine rd_s rfl rfl trivial (ss_idxR (f := ci) rfl rfl rfl q15) rfl ?_
  refine rd_f rfl rfl trivial (ws_storeE rfl rfl (map_lt q15) rfl rfl (map_se (f := ci)) rfl ⟨rfl, ?_⟩)
  refine rd_nil ?_
  refine aw_seq ?_
  refine aw_gh (gh_to (n := 48) (σ' := [(9, ⟨ints (se (se list i (el (el s1 (el list i)) (el list (i + 1)))) (i + 1) (el (el s2 (el list i)) (el list (i + 1)))), []⟩)]) (env' := [(7, .ref 9)]) rfl rfl ⟨rfl, trivial⟩) ?_
  refine aw_region ?_
  refine run_s (ss_move rfl) rfl ?_
  refine run_s (ss_assign rfl) rfl ?_
  refine run_nil ?_
  refine aw_ret ?_
  exact retAF_mk (retv1 rfl (rv_tmp rfl)) rfl rfl ⟨_, (cle_refl _), _, h, rfl⟩

theorem c_spec_l02Do (s1 : List (List Int)) (s2 : List (List Int)) (list : List Int) (i : Int) (hp : pmB s1 s2 = true ∧ okTr s1 list ∧ 0 ≤ i ∧ i ≤ 1) : AF Try.prog 201 [.agg [.lst (rows s1), .lst (rows s2)], .lst (ints list), ci i] (fun R_ => R_ = .own (ints (doI s1 s2 list i))) :=
  (w_spec_l02Do s1 s2 list i (fun y0 => y0 = doI s1 s2 list i) (p_spec_l02Do s1 s2 list i hp)).mono (by rintro r ⟨_, rfl, rfl⟩; rfl)

set_option maxRecDepth 100000 in
set_option maxHeartbeats 4000000 in
theorem w_spec_l02Fault (s1 : List (List Int)) (s2 : List (List Int)) (Q : List Int → Prop) (h : wp_spec_l02Fault s1 s2 Q) : AF Try.prog 176 [.agg [.lst (rows s1), .lst (rows s2)]] (fun R_ => ∃ y0, Q y0 ∧ R_ = .own (ints y0)) := by
  refine AF.ofWQ (af_enter (n := 48) Try.func176 rfl (by rfl) rfl (Nat.le_of_ble_eq_true rfl) ?_)
  unfold wp_spec_l02Fault at h
  refine aw_seq ?_
  refine aw_gh (gh_to (n := 48) (σ' := []) (env' := [(0, .c (.agg [.lst (rows s1), .lst (rows s2)]))]) rfl rfl ⟨rfl, trivial⟩) ?_
  refine aw_region ?_
  refine run_w (ws_boxR rfl (.inl rfl) rfl ⟨rfl, ?_⟩)
  refine run_s (ss_assign rfl) rfl ?_
  refine run_nil ?_
  refine aw_seq ?_
  refine aw_region ?_
  refine run_s (ss_field_ptr rfl) rfl ?_
  refine run_s (ss_load_ptr rfl rfl) rfl ?_
  refine run_s (ss_lenL (f := (fun r => C.lst (ints r))) rfl) rfl ?_
  refine run_s (ss_assign rfl) rfl ?_
  refine run_nil ?_
  refine aw_seq ?_
  refine aw_seq ?_
  refine aw_gh (gh_to (n := 48) (σ' := []) (env' := [(1, .c (.ptr [.lst (rows s1), .lst (rows s2)])), (3, .c (ci (s1.length : Int)))]) rfl rfl ⟨rfl, rfl, trivial⟩) ?_
  refine aw_region ?_
  refine run_s (ss_assign rfl) rfl ?_
  refine run_nil ?_
  refine aw_block ?_
  obtain ⟨H1, m1, q1, h⟩ := h
  refine aw_loop1 (fun (v4_1 : Int) => ⟨[], [(1, .c (.ptr [.lst (rows s1), .lst (rows s2)])), (3, .c (ci (s1.length : Int))), (4, .c (ci v4_1))], 48⟩) H1 m1 ⟨0, ghe_to (n := 48) rfl rfl ⟨rfl, rfl, rfl, trivial⟩, q1⟩ ?_
  rintro v4_1 q1
  replace h := h v4_1 q1
  refine aw_seq ?_
  refine aw_seq ?_
  refine aw_region ?_
  refine run_s (ss_move rfl) rfl ?_
  refine run_s (ss_move rfl) rfl ?_
  refine run_s (ss_lss rfl rfl) rfl ?_
  refine run_nil ?_
  refine aw_cond rfl (fun q2 => ?_) (fun q2 => ?_)
  ·replace h := h.1 (of_decide_eq_true q2)
   refine aw_skip ?_
   refine aw_seq ?_
   refine aw_block ?_
   refine aw_seq ?_
   refine aw_region ?_
   refine run_s (ss_assign rfl) rfl ?_
   refine run_nil ?_
   refine aw_block ?_
   obtain ⟨H2, m2, q3, h⟩ := h
   refine aw_loop1 (fun (v5_2 : Int) => ⟨[], [(1, .c (.ptr [.lst (rows s1), .lst (rows s2)])), (3, .c (ci (s1.length : Int))), (4, .c (ci v4_1)), (5, .c (ci v5_2))], 48⟩) H2 m2 ⟨0, ghe_to (n := 48) rfl rfl ⟨rfl, rfl, rfl, rfl, trivial⟩, q3⟩ ?_
   rintro v5_2 q3
   replace h := h v5_2 q3
   refine aw_seq ?_
   refine aw_seq ?_
   refine aw_region ?_
   refine run_s (ss_move rfl) rfl ?_
   refine run_s (ss_move rfl) rfl ?_
   refine run_s (ss_lss rfl rfl) rfl ?_
   refine run_nil ?_
   refine aw_cond rfl (fun q4 => ?_) (fun q4 => ?_)
   ·replace h := h.1 (of_decide_eq_true q4)
    refine aw_skip ?_
    refine aw_seq ?_
    refine aw_block ?_
    refine aw_seq ?_
    refine aw_region ?_
    refine run_s (ss_assign rfl) rfl ?_
    refine run_nil ?_
    refine aw_block ?_
    obtain ⟨H3, m3, q5, h⟩ := h
    refine aw_loop1 (fun (v6_3 : Int) => ⟨[], [(1, .c (.ptr [.lst (rows s1), .lst (rows s2)])), (3, .c (ci (s1.length : Int))), (4, .c (ci v4_1)), (5, .c (ci v5_2)), (6, .c (ci v6_3))], 48⟩) H3 m3 ⟨0, ghe_to (n := 48) rfl rfl ⟨rfl, rfl, rfl, rfl, rfl, trivial⟩, q5⟩ ?_
    rintro v6_3 q5
    replace h := h v6_3 q5
    refine aw_seq ?_
    refine aw_seq ?_
    refine aw_region ?_
    refine run_s (ss_move rfl) rfl ?_
    refine run_s (ss_move rfl) rfl ?_
    refine run_s (ss_lss rfl rfl) rfl ?_
    refine run_nil ?_
    refine aw_cond rfl (fun q6 => ?_) (fun q6 => ?_)
    ·replace h := h.1 (of_decide_eq_true q6)
     refine aw_skip ?_
     refine aw_seq ?_
     refine aw_block ?_
     refine aw_seq ?_
     refine aw_region ?_
     refine run_s (ss_move rfl) rfl ?_
     refine run_s (ss_move rfl) rfl ?_
     refine run_s (ss_move rfl) rfl ?_
     refine run_w (ws_buildSlice (id := 29) (ps := [(0, .tmp 26), (1, .tmp 27), (2, .tmp 28)]) rfl rfl (Nat.le_of_ble_eq_true rfl) rfl ⟨rfl, ?_⟩)
     refine run_s (ss_assign rfl) rfl ?_
     refine run_nil ?_
     refine aw_seq ?_
     refine aw_gh (gh_to (n := 48) (σ' := [(29, ⟨ints ([v4_1, v5_2, v6_3]), []⟩)]) (env' := [(1, .c (.ptr [.lst (rows s1), .lst (rows s2)])), (3, .c (ci (s1.length : Int))), (4, .c (ci v4_1)), (5, .c (ci v5_2)), (6, .c (ci v6_3)), (7, .ref 29)]) rfl rfl ⟨rfl, rfl, rfl, rfl, rfl, rfl, trivial⟩) ?_
     refine aw_regionD (kd := kdl [1, 1, 1, 0, 2, 2, 2, 1, 1, 1, 0, 2, 2, 2, 2, 0]) (ord := [3, 10, 0, 1, 2, 7, 8, 9, 4, 5, 6, 11, 12, 13, 14, 15]) [] mixed (by kernel_rfl) ?_
     refine rd_s rfl rfl trivial (ss_move rfl) rfl ?_
     refine rd_s rfl rfl trivial (ss_move rfl) rfl ?_
     refine rd_l rfl rfl trivial (ss_load_struct rfl (Nat.le_of_ble_eq_true rfl)) rfl ?_
     refine rd_l rfl rfl trivial (ss_load_struct rfl (Nat.le_of_ble_eq_true rfl)) rfl ?_
     refine rd_l rfl rfl trivial (ss_load_struct rfl (Nat.le_of_ble_eq_true rfl)) rfl ?_
     refine rd_l rfl rfl trivial (ss_load_struct rfl (Nat.le_of_ble_eq_true rfl)) rfl ?_
     refine rd_l rfl rfl trivial (ss_load_struct rfl (Nat.le_of_ble_eq_true rfl)) rfl ?_
     refine rd_l rfl rfl trivial (ss_load_struct rfl (Nat.le_of_ble_eq_true rfl)) rfl ?_
     obtain ⟨q7, h⟩ := h
     refine rd_w rfl rfl trivial rfl rfl (ws_callR (xs := [.tmp 32, .tmp 33, .const (.int .i64 (0))]) (cs := [.agg [.lst (rows s1), .lst (rows s2)], .own (ints ([v4_1, v5_2, v6_3])), ci 0]) (ids := [34]) rfl (.inr ⟨rfl, rfl⟩) rfl rfl (fz_cons rfl (fz_cons (fz_own (fz_map (fun _ => rfl) _)) (fz_cons rfl fz_nil))) (c_spec_l02Do s1 s2 ([v4_1, v5_2, v6_3]) 0 q7) rfl ?_ )
     rintro _ rfl
     refine ⟨(slf_own (slfL_map (f := ci) (fun _ => rfl) _)), rfl, ?_⟩
     obtain ⟨q9, h⟩ := h
     refine rd_w rfl rfl trivial rfl rfl (ws_callR (xs := [.tmp 31, .tmp 34, .const (.int .i64 (1))]) (cs := [.agg [.lst (rows s1), .lst (rows s2)], .own (ints (doI s1 s2 ([v4_1, v5_2, v6_3]) (0 : Int))), ci 1]) (ids := [35]) rfl (.inr ⟨rfl, rfl⟩) rfl rfl (fz_cons rfl (fz_cons (fz_own (fz_map (fun _ => rfl) _)) (fz_cons rfl fz_nil))) (c_spec_l02Do s1 s2 (doI s1 s2 ([v4_1, v5_2, v6_3]) (0 : Int)) 1 q9) rfl ?_ )
     rintro _ rfl
     refine ⟨(slf_own (slfL_map (f := ci) (fun _ => rfl) _)), rfl, ?_⟩
     obtain ⟨q11, h⟩ := h
     refine rd_w rfl rfl trivial rfl rfl (ws_callR (xs := [.tmp 30, .tmp 35, .const (.int .i64 (0))]) (cs := [.agg [.lst (rows s1), .lst (rows s2)], .own (ints (doI s1 s2 (doI s1 s2 ([v4_1, v5_2, v6_3]) (0 : Int)) (1 : Int))), ci 0]) (ids := [36]) rfl (.inr ⟨rfl, rfl⟩) rfl rfl (fz_cons rfl (fz_cons (fz_own (fz_map (fun _ => rfl) _)) (fz_cons rfl fz_nil))) (c_spec_l02Do s1 s2 (doI s1 s2 (doI s1 s2 ([v4_1, v5_2, v6_3]) (0 : Int)) (1 : Int)) 0 q11) rfl ?_ )
     rintro _ rfl
     refine ⟨(slf_own (slfL_map (f := ci) (fun _ => rfl) _)), rfl, ?_⟩
     obtain ⟨q13, h⟩ := h
     refine rd_w rfl rfl trivial rfl rfl (ws_callR (xs := [.tmp 39, .tmp 40, .const (.int .i64 (1))]) (cs := [.agg [.lst (rows s1), .lst (rows s2)], .own (ints ([v4_1, v5_2, v6_3])), ci 1]) (ids := [41]) rfl (.inr ⟨rfl, rfl⟩) rfl rfl (fz_cons rfl (fz_cons (fz_own (fz_map (fun _ => rfl) _)) (fz_cons rfl fz_nil))) (c_spec_l02Do s1 s2 ([v4_1, v5_2, v6_3]) 1 q13) rfl ?_ )
     rintro _ rfl
     refine ⟨(slf_own (slfL_map (f := ci) (fun _ => rfl) _)), rfl, ?_⟩
     obtain ⟨q15, h⟩ := h
     refine rd_w rfl rfl trivial rfl rfl (ws_callR (xs := [.tmp 38, .tmp 41, .const (.int .i64 (0))]) (cs := [.agg [.lst (rows s1), .lst (rows s2)], .own (ints (doI s1 s2 ([v4_1, v5_2, v6_3]) (1 : Int))), ci 0]) (ids := [42]) rfl (.inr ⟨rfl, rfl⟩) rfl rfl (fz_cons rfl (fz_cons (fz_own (fz_map (fun _ => rfl) _)) (fz_cons rfl fz_nil))) (c_spec_l02Do s1 s2 (doI s1 s2 ([v4_1, v5_2, v6_3]) (1 : Int)) 0 q15) rfl ?_ )
     rintro _ rfl
     refine ⟨(slf_own (slfL_map (f := ci) (fun _ => rfl) _)), rfl, ?_⟩
     obtain ⟨q17, h⟩ := h
     refine rd_w rfl rfl trivial rfl rfl (ws_callR (xs := [.tmp 37, .tmp 42, .const (.int .i64 (1))]) (cs := [.agg [.lst (rows s1), .lst (rows s2)], .own (ints (doI s1 s2 (doI s1 s2 ([v4_1, v5_2, v6_3]) (1 : Int)) (0 : Int))), ci 1]) (ids := [43]) rfl (.inr ⟨rfl, rfl⟩) rfl rfl (fz_cons rfl (fz_cons (fz_own (fz_map (fun _ => rfl) _)) (fz_cons rfl fz_nil))) (c_spec_l02Do s1 s2 (doI s1 s2 (doI s1 s2 ([v4_1, v5_2, v6_3]) (1 : Int)) (0 : Int)) 1 q17) rfl ?_ )
     rintro _ rfl
     refine ⟨(slf_own (slfL_map (f := ci) (fun _ => rfl) _)), rfl, ?_⟩
     obtain ⟨q19, h⟩ := h
     refine rd_w rfl rfl trivial rfl rfl (ws_callR (xs := [.tmp 36, .tmp 43]) (cs := [.own (ints (doI s1 s2 (doI s1 s2 (doI s1 s2 ([v4_1, v5_2, v6_3]) (0 : Int)) (1 : Int)) (0 : Int))), .own (ints (doI s1 s2 (doI s1 s2 (doI s1 s2 ([v4_1, v5_2, v6_3]) (1 : Int)) (0 : Int)) (1 : Int)))]) (ids := []) rfl (.inr ⟨rfl, rfl⟩) rfl rfl (fz_cons (fz_own (fz_map (fun _ => rfl) _)) (fz_cons (fz_own (fz_map (fun _ => rfl) _)) fz_nil)) (c_spec_l01Same (doI s1 s2 (doI s1 s2 (doI s1 s2 ([v4_1, v5_2, v6_3]) (0 : Int)) (1 : Int)) (0 : Int)) (doI s1 s2 (doI s1 s2 (doI s1 s2 ([v4_1, v5_2, v6_3]) (1 : Int)) (0 : Int)) (1 : Int)) q19) rfl ?_ )
     rintro _ rfl
     refine ⟨rfl, rfl, ?_⟩
     refine rd_s rfl rfl trivial (ss_not rfl) rfl ?_
     refine rd_nil ?_
     refine aw_cond rfl (fun q21 => ?_) (fun q21 => ?_)
     ·replace h := h.1 (of_decide_eq_false (bnot_t q21))
      refine aw_seq ?_
      refine aw_gh (gh_to (n := 48) (σ' := [(43, ⟨ints (doI s1 s2 (doI s1 s2 (doI s1 s2 ([v4_1, v5_2, v6_3]) (1 : Int)) (0 : Int)) (1 : Int)), []⟩), (42, ⟨ints (doI s1 s2 (doI s1 s2 ([v4_1, v5_2, v6_3]) (1 : Int)) (0 : Int)), []⟩), (41, ⟨ints (doI s1 s2 ([v4_1, v5_2, v6_3]) (1 : Int)), []⟩), (36, ⟨ints (doI s1 s2 (doI s1 s2 (doI s1 s2 ([v4_1, v5_2, v6_3]) (0 : Int)) (1 : Int)) (0 : Int)), []⟩), (35, ⟨ints (doI s1 s2 (doI s1 s2 ([v4_1, v5_2, v6_3]) (0 : Int)) (1 : Int)), []⟩), (34, ⟨ints (doI s1 s2 ([v4_1, v5_2, v6_3]) (0 : Int)), []⟩), (29, ⟨ints ([v4_1, v5_2, v6_3]), []⟩)]) (env' := [(7, .ref 29)]) rfl rfl ⟨rfl, trivial⟩) ?_
      refine aw_region ?_
      refine run_s (ss_move rfl) rfl ?_
      refine run_s (ss_assign rfl) rfl ?_
      refine run_nil ?_
      refine aw_ret ?_
      exact retAF_mk (retv1 rfl (rv_tmp rfl)) rfl rfl ⟨_, (cle_refl _), _, h, rfl⟩
     ·replace h := h.2 (of_decide_eq_true (bnot_f q21))
      refine aw_skip ?_
      refine aw_gh (gh_to (n := 48) (σ' := [(43, ⟨ints (doI s1 s2 (doI s1 s2 (doI s1 s2 ([v4_1, v5_2, v6_3]) (1 : Int)) (0 : Int)) (1 : Int)), []⟩), (42, ⟨ints (doI s1 s2 (doI s1 s2 ([v4_1, v5_2, v6_3]) (1 : Int)) (0 : Int)), []⟩), (41, ⟨ints (doI s1 s2 ([v4_1, v5_2, v6_3]) (1 : Int)), []⟩), (36, ⟨ints (doI s1 s2 (doI s1 s2 (doI s1 s2 ([v4_1, v5_2, v6_3]) (0 : Int)) (1 : Int)) (0 : Int)), []⟩), (35, ⟨ints (doI s1 s2 (doI s1 s2 ([v4_1, v5_2, v6_3]) (0 : Int)) (1 : Int)), []⟩), (34, ⟨ints (doI s1 s2 ([v4_1, v5_2, v6_3]) (0 : Int)), []⟩), (29, ⟨ints ([v4_1, v5_2, v6_3]), []⟩)]) (env' := [(1, .c (.ptr [.lst (rows s1), .lst (rows s2)])), (3, .c (ci (s1.length : Int))), (4, .c (ci v4_1)), (5, .c (ci v5_2)), (6, .c (ci v6_3))]) rfl rfl ⟨rfl, rfl, rfl, rfl, rfl, trivial⟩) ?_
      refine aw_region ?_
      refine run_s (ss_move rfl) rfl ?_
      obtain ⟨q22, h⟩ := h
      refine run_s (ss_add rfl rfl q22) rfl ?_
      refine run_s (ss_assign rfl) rfl ?_
      refine run_nil ?_
      exact ⟨v6_3 + 1, ghe_step (gh_frzE (id := 43) ci rfl (fun _ => rfl)) (ghe_step (gh_frzE (id := 42) ci rfl (fun _ => rfl)) (ghe_step (gh_frzE (id := 41) ci rfl (fun _ => rfl)) (ghe_step (gh_frzE (id := 36) ci rfl (fun _ => rfl)) (ghe_step (gh_frzE (id := 35) ci rfl (fun _ => rfl)) (ghe_step (gh_frzE (id := 34) ci rfl (fun _ => rfl)) (ghe_step (gh_frzE (id := 29) ci rfl (fun _ => rfl)) (ghe_to (n := 48) rfl rfl ⟨rfl, rfl, rfl, rfl, rfl, trivial⟩))))))), h.1, h.2⟩
    ·replace h := h.2 (of_decide_eq_false q6)
     refine aw_exit ?_
     refine aw_region ?_
     refine run_s (ss_move rfl) rfl ?_
     obtain ⟨q23, h⟩ := h
     refine run_s (ss_add rfl rfl q23) rfl ?_
     refine run_s (ss_assign rfl) rfl ?_
     refine run_nil ?_
     exact ⟨v5_2 + 1, ghe_to (n := 48) rfl rfl ⟨rfl, rfl, rfl, rfl, trivial⟩, h.1, h.2⟩
   ·replace h := h.2 (of_decide_eq_false q4)
    refine aw_exit ?_
    refine aw_region ?_
    refine run_s (ss_move rfl) rfl ?_
    obtain ⟨q24, h⟩ := h
    refine run_s (ss_add rfl rfl q24) rfl ?_
    refine run_s (ss_assign rfl) rfl ?_
    refine run_nil ?_
    exact ⟨v4_1 + 1, ghe_to (n := 48) rfl rfl ⟨rfl, rfl, rfl, trivial⟩, h.1, h.2⟩
  ·replace h := h.2 (of_decide_eq_false q2)
   refine aw_exit ?_
   refine aw_seq ?_
   refine aw_gh (gh_to (n := 48) (σ' := []) (env' := []) rfl rfl trivial) ?_
   refine aw_region ?_
   refine run_w (ws_buildSlice (id := 47) (ps := []) rfl rfl (Nat.le_of_ble_eq_true rfl) rfl ⟨rfl, ?_⟩)
   refine run_s (ss_assign rfl) rfl ?_
   refine run_nil ?_
   refine aw_ret ?_
   exact retAF_mk (retv1 rfl (rv_tmp rfl)) rfl rfl ⟨_, (cle_refl _), _, h, rfl⟩

theorem c_spec_l02Fault (s1 : List (List Int)) (s2 : List (List Int)) (hp : pmB s1 s2 = true) : AF Try.prog 176 [.agg [.lst (rows s1), .lst (rows s2)]] (fun R_ => R_ = .own (ints (eqF s1 s2))) :=
  (w_spec_l02Fault s1 s2 (fun y0 => y0 = eqF s1 s2) (p_spec_l02Fault s1 s2 hp)).mono (by rintro r ⟨_, rfl, rfl⟩; rfl)

set_option maxRecDepth 100000 in
set_option maxHeartbeats 4000000 in
theorem w_impl_equationFault (s1 : List (List Int)) (s2 : List (List Int)) (Q : List Int → Prop) (h : wp_impl_equationFault s1 s2 Q) : AF Try.prog 139 [.agg [.lst (rows s1), .lst (rows s2)]] (fun R_ => ∃ y0, Q y0 ∧ R_ = onil y0) := by
  refine AF.ofWQ (af_enter (n := 144) Try.func139 rfl (by rfl) rfl (Nat.le_of_ble_eq_true rfl) ?_)
  unfold wp_impl_equationFault at h
  refine aw_seq ?_
  refine aw_gh (gh_to (n := 144) (σ' := []) (env' := [(0, .c (.agg [.lst (rows s1), .lst (rows s2)]))]) rfl rfl ⟨rfl, trivial⟩) ?_
  refine aw_region ?_
  refine run_w (ws_boxR rfl (.inl rfl) rfl ⟨rfl, ?_⟩)
  refine run_s (ss_assign rfl) rfl ?_
  refine run_nil ?_
  refine aw_seq ?_
  refine aw_region ?_
  refine run_s (ss_field_ptr rfl) rfl ?_
  refine run_s (ss_load_ptr rfl rfl) rfl ?_
  refine run_s (ss_lenL (f := (fun r => C.lst (ints r))) rfl) rfl ?_
  refine run_s (ss_assign rfl) rfl ?_
  refine run_nil ?_
  refine aw_seq ?_
  refine aw_seq ?_
  refine aw_region ?_
  refine run_s (ss_move rfl) rfl ?_
  refine run_s (ss_move rfl) rfl ?_
  refine run_nil ?_
  refine aw_block ?_
  obtain ⟨H1, m1, q1, h⟩ := h
  refine aw_loop1 (fun (v17_1 : Int) => ⟨[], [(1, .c (.ptr [.lst (rows s1), .lst (rows s2)])), (3, .c (ci (s1.length : Int))), (16, .c (ci (s1.length : Int))), (17, .c (ci v17_1))], 144⟩) H1 m1 ⟨0, ghe_to (n := 144) rfl rfl ⟨rfl, rfl, rfl, rfl, trivial⟩, q1⟩ ?_
  rintro v17_1 q1
  replace h := h v17_1 q1
  refine aw_seq ?_
  refine aw_region ?_
  refine run_s (ss_lss rfl rfl) rfl ?_
  refine run_nil ?_
  refine aw_seq ?_
  refine aw_cond rfl (fun q2 => ?_) (fun q2 => ?_)
  ·replace h := h.1 (of_decide_eq_true q2)
   refine aw_skip ?_
   refine aw_seq ?_
   refine aw_block ?_
   refine aw_seq ?_
   refine aw_region ?_
   refine run_s (ss_move rfl) rfl ?_
   refine run_s (ss_assign rfl) rfl ?_
   refine run_nil ?_
   refine aw_seq ?_
   refine aw_region ?_
   refine run_s (ss_move rfl) rfl ?_
   refine run_s (ss_move rfl) rfl ?_
   refine run_nil ?_
   refine aw_block ?_
   obtain ⟨H2, m2, q3, h⟩ := h
   refine aw_loop1 (fun (v21_2 : Int) => ⟨[], [(1, .c (.ptr [.lst (rows s1), .lst (rows s2)])), (3, .c (ci (s1.length : Int))), (4, .c (ci v17_1)), (16, .c (ci (s1.length : Int))), (17, .c (ci v17_1)), (20, .c (ci (s1.length : Int))), (21, .c (ci v21_2))], 144⟩) H2 m2 ⟨0, ghe_to (n := 144) rfl rfl ⟨rfl, rfl, rfl, rfl, rfl, rfl, rfl, trivial⟩, q3⟩ ?_
   rintro v21_2 q3
   replace h := h v21_2 q3
   refine aw_seq ?_
   refine aw_region ?_
   refine run_s (ss_lss rfl rfl) rfl ?_
   refine run_nil ?_
   refine aw_seq ?_
   refine aw_cond rfl (fun q4 => ?_) (fun q4 => ?_)
   ·replace h := h.1 (of_decide_eq_true q4)
    refine aw_skip ?_
    refine aw_seq ?_
    refine aw_block ?_
    refine aw_seq ?_
    refine aw_region ?_
    refine run_s (ss_move rfl) rfl ?_
    refine run_s (ss_assign rfl) rfl ?_
    refine run_nil ?_
    refine aw_seq ?_
    refine aw_region ?_
    refine run_s (ss_move rfl) rfl ?_
    refine run_s (ss_move rfl) rfl ?_
    refine run_nil ?_
    refine aw_block ?_
    obtain ⟨H3, m3, q5, h⟩ := h
    refine aw_loop1 (fun (v25_3 : Int) => ⟨[], [(1, .c (.ptr [.lst (rows s1), .lst (rows s2)])), (3, .c (ci (s1.length : Int))), (4, .c (ci v17_1)), (5, .c (ci v21_2)), (16, .c (ci (s1.length : Int))), (17, .c (ci v17_1)), (20, .c (ci (s1.length : Int))), (21, .c (ci v21_2)), (24, .c (ci (s1.length : Int))), (25, .c (ci v25_3))], 144⟩) H3 m3 ⟨0, ghe_to (n := 144) rfl rfl ⟨rfl, rfl, rfl, rfl, rfl, rfl, rfl, rfl, rfl, rfl, trivial⟩, q5⟩ ?_
    rintro v25_3 q5
    replace h := h v25_3 q5
    refine aw_seq ?_
    refine aw_region ?_
    refine run_s (ss_lss rfl rfl) rfl ?_
    refine run_nil ?_
    refine aw_seq ?_
    refine aw_cond rfl (fun q6 => ?_) (fun q6 => ?_)
    ·replace h := h.1 (of_decide_eq_true q6)
     refine aw_skip ?_
     refine aw_seq ?_
     refine aw_block ?_
     refine aw_seq ?_
     refine aw_region ?_
     refine run_s (ss_move rfl) rfl ?_
     refine run_s (ss_assign rfl) rfl ?_
     refine run_nil ?_
     refine aw_seq ?_
     refine aw_gh (gh_to (n := 144) (σ' := []) (env' := [(1, .c (.ptr [.lst (rows s1), .lst (rows s2)])), (3, .c (ci (s1.length : Int))), (4, .c (ci v17_1)), (5, .c (ci v21_2)), (6, .c (ci v25_3)), (16, .c (ci (s1.length : Int))), (17, .c (ci v17_1)), (20, .c (ci (s1.length : Int))), (21, .c (ci v21_2)), (24, .c (ci (s1.length : Int))), (25, .c (ci v25_3))]) rfl rfl ⟨rfl, rfl, rfl, rfl, rfl, rfl, rfl, rfl, rfl, rfl, rfl, trivial⟩) ?_
     refine aw_regionD (kd := kdl [0, 1, 0, 0, 1, 0, 0, 1, 0, 1, 0, 0, 1, 0, 0, 1, 0, 0]) (ord := [0, 2, 5, 8, 10, 13, 1, 3, 4, 6, 7, 16, 9, 11, 12, 14, 15, 17]) [] mixed (by kernel_rfl) ?_
     refine rd_s rfl rfl trivial (ss_field_ptr rfl) rfl ?_
     refine rd_s rfl rfl trivial (ss_move rfl) rfl ?_
     refine rd_s rfl rfl trivial (ss_move rfl) rfl ?_
     refine rd_s rfl rfl trivial (ss_field_ptr rfl) rfl ?_
     refine rd_s rfl rfl trivial (ss_move rfl) rfl ?_
     refine rd_s rfl rfl trivial (ss_move rfl) rfl ?_
     refine rd_l rfl rfl trivial (ss_load_ptr rfl rfl) rfl ?_
     obtain ⟨q7, h⟩ := h
     refine rd_s rfl rfl trivial (ss_idxL rfl rfl q7) rfl ?_
     refine rd_l rfl rfl trivial (ss_loadL (f := (fun r => C.lst (ints r))) rfl q7) rfl ?_
     obtain ⟨q8, h⟩ := h
     refine rd_s rfl rfl trivial (ss_idxL rfl rfl q8) rfl ?_
     refine rd_l rfl rfl trivial (ss_loadL (f := ci) rfl q8) rfl ?_
     refine rd_s rfl rfl trivial (ss_assign rfl) rfl ?_
     refine rd_l rfl rfl trivial (ss_load_ptr rfl rfl) rfl ?_
     obtain ⟨q9, h⟩ := h
     refine rd_s rfl rfl trivial (ss_idxL rfl rfl q9) rfl ?_
     refine rd_l rfl rfl trivial (ss_loadL (f := (fun r => C.lst (ints r))) rfl q9) rfl ?_
     obtain ⟨q10, h⟩ := h
     refine rd_s rfl rfl trivial (ss_idxL rfl rfl q10) rfl ?_
     refine rd_l rfl rfl trivial (ss_loadL (f := ci) rfl q10) rfl ?_
     refine rd_s rfl rfl trivial (ss_assign rfl) rfl ?_
     refine rd_nil ?_
     refine aw_seq ?_
     refine aw_gh (gh_to (n := 144) (σ' := []) (env' := [(1, .c (.ptr [.lst (rows s1), .lst (rows s2)])), (3, .c (ci (s1.length : Int))), (4, .c (ci v17_1)), (5, .c (ci v21_2)), (6, .c (ci v25_3)), (7, .c (ci (el (el s1 v17_1) v21_2))), (8, .c (ci (el (el s2 v17_1) v21_2))), (16, .c (ci (s1.length : Int))), (17, .c (ci v17_1)), (20, .c (ci (s1.length : Int))), (21, .c (ci v21_2)), (24, .c (ci (s1.length : Int))), (25, .c (ci v25_3))]) rfl rfl ⟨rfl, rfl, rfl, rfl, rfl, rfl, rfl, rfl, rfl, rfl, rfl, rfl, rfl, trivial⟩) ?_
     refine aw_regionD (kd := kdl [0, 1, 0, 0, 1, 0, 0, 1, 0, 1, 0, 0, 1, 0, 0, 1, 0, 0]) (ord := [0, 2, 5, 8, 10, 13, 1, 3, 4, 6, 7, 16, 9, 11, 12, 14, 15, 17]) [] mixed (by kernel_rfl) ?_
     refine rd_s rfl rfl trivial (ss_field_ptr rfl) rfl ?_
     refine rd_s rfl rfl trivial (ss_move rfl) rfl ?_
     refine rd_s rfl rfl trivial (ss_move rfl) rfl ?_
     refine rd_s rfl rfl trivial (ss_field_ptr rfl) rfl ?_
     refine rd_s rfl rfl trivial (ss_move rfl) rfl ?_
     refine rd_s rfl rfl trivial (ss_move rfl) rfl ?_
     refine rd_l rfl rfl trivial (ss_load_ptr rfl rfl) rfl ?_
     obtain ⟨q11, h⟩ := h
     refine rd_s rfl rfl trivial (ss_idxL rfl rfl q11) rfl ?_
     refine rd_l rfl rfl trivial (ss_loadL (f := (fun r => C.lst (ints r))) rfl q11) rfl ?_
     obtain ⟨q12, h⟩ := h
     refine rd_s rfl rfl trivial (ss_idxL rfl rfl q12) rfl ?_
     refine rd_l rfl rfl trivial (ss_loadL (f := ci) rfl q12) rfl ?_
     refine rd_s rfl rfl trivial (ss_assign rfl) rfl ?_
     refine rd_l rfl rfl trivial (ss_load_ptr rfl rfl) rfl ?_
     obtain ⟨q13, h⟩ := h
     refine rd_s rfl rfl trivial (ss_idxL rfl rfl q13) rfl ?_
     refine rd_l rfl rfl trivial (ss_loadL (f := (fun r => C.lst (ints r))) rfl q13) rfl ?_
     obtain ⟨q14, h⟩ := h
     refine rd_s rfl rfl trivial (ss_idxL rfl rfl q14) rfl ?_
     refine rd_l rfl rfl trivial (ss_loadL (f := ci) rfl q14) rfl ?_
     refine rd_s rfl rfl trivial (ss_assign rfl) rfl ?_
     refine rd_nil ?_
     refine aw_seq ?_
     refine aw_gh (gh_to (n := 144) (σ' := []) (env' := [(1, .c (.ptr [.lst (rows s1), .lst (rows s2)])), (3, .c (ci (s1.length : Int))), (4, .c (ci v17_1)), (5, .c (ci v21_2)), (6, .c (ci v25_3)), (7, .c (ci (el (el s1 v17_1) v21_2))), (8, .c (ci (el (el s1 (el (el s2 v17_1) v21_2)) v25_3))), (9, .c (ci (el (el s2 (el (el s2 v17_1) v21_2)) v25_3))), (16, .c (ci (s1.length : Int))), (17, .c (ci v17_1)), (20, .c (ci (s1.length : Int))), (21, .c (ci v21_2)), (24, .c (ci (s1.length : Int))), (25, .c (ci v25_3))]) rfl rfl ⟨rfl, rfl, rfl, rfl, rfl, rfl, rfl, rfl, rfl, rfl, rfl, rfl, rfl, rfl, trivial⟩) ?_
     refine aw_regionD (kd := kdl [0, 1, 0, 0, 1, 0, 0, 1, 0, 1, 0, 0, 1, 0, 0, 1, 0, 0]) (ord := [0, 2, 5, 8, 10, 13, 1, 3, 4, 6, 7, 16, 9, 11, 12, 14, 15, 17]) [] mixed (by kernel_rfl) ?_
     refine rd_s rfl rfl trivial (ss_field_ptr rfl) rfl ?_
     refine rd_s rfl rfl trivial (ss_move rfl) rfl ?_
     refine rd_s rfl rfl trivial (ss_move rfl) rfl ?_
     refine rd_s rfl rfl trivial (ss_field_ptr rfl) rfl ?_
     refine rd_s rfl rfl trivial (ss_move rfl) rfl ?_
     refine rd_s rfl rfl trivial (ss_move rfl) rfl ?_
     refine rd_l rfl rfl trivial (ss_load_ptr rfl rfl) rfl ?_
     obtain ⟨q15, h⟩ := h
     refine rd_s rfl rfl trivial (ss_idxL rfl rfl q15) rfl ?_
     refine rd_l rfl rfl trivial (ss_loadL (f := (fun r => C.lst (ints r))) rfl q15) rfl ?_
     obtain ⟨q16, h⟩ := h
     refine rd_s rfl rfl trivial (ss_idxL rfl rfl q16) rfl ?_
     refine rd_l rfl rfl trivial (ss_loadL (f := ci) rfl q16) rfl ?_
     refine rd_s rfl rfl trivial (ss_assign rfl) rfl ?_
     refine rd_l rfl rfl trivial (ss_load_ptr rfl rfl) rfl ?_
     obtain ⟨q17, h⟩ := h
     refine rd_s rfl rfl trivial (ss_idxL rfl rfl q17) rfl ?_
     refine rd_l rfl rfl trivial (ss_loadL (f := (fun r => C.lst (ints r))) rfl q17) rfl ?_
     obtain ⟨q18, h⟩ := h
     refine rd_s rfl rfl trivial (ss_idxL rfl rfl q18) rfl ?_
     refine rd_l rfl rfl trivial (ss_loadL (f := ci) rfl q18) rfl ?_
     refine rd_s rfl rfl trivial (ss_assign rfl) rfl ?_
     refine rd_nil ?_
     refine aw_seq ?_
     refine aw_gh (gh_to (n := 144) (σ' := []) (env' := [(1, .c (.ptr [.lst (rows s1), .lst (rows s2)])), (3, .c (ci (s1.length : Int))), (4, .c (ci v17_1)), (5, .c (ci v21_2)), (6, .c (ci v25_3)), (7, .c (ci (el (el s1 (el (el s1 v17_1) v21_2)) (el (el s1 (el (el s2 v17_1) v21_2)) v25_3)))), (8, .c (ci (el (el s2 (el (el s1 v17_1) v21_2)) (el (el s1 (el (el s2 v17_1) v21_2)) v25_3)))), (9, .c (ci (el (el s2 (el (el s2 v17_1) v21_2)) v25_3))), (16, .c (ci (s1.length : Int))), (17, .c (ci v17_1)), (20, .c (ci (s1.length : Int))), (21, .c (ci v21_2)), (24, .c (ci (s1.length : Int))), (25, .c (ci v25_3))]) rfl rfl ⟨rfl, rfl, rfl, rfl, rfl, rfl, rfl, rfl, rfl, rfl, rfl, rfl, rfl, rfl, trivial⟩) ?_
     refine aw_regionD (kd := kdl [0, 1, 0, 0, 1, 0, 0, 1, 0, 1, 0, 0, 1, 0, 0, 1, 0, 0]) (ord := [0, 2, 5, 8, 10, 13, 1, 3, 4, 6, 7, 16, 9, 11, 12, 14, 15, 17]) [] mixed (by kernel_rfl) ?_
     refine rd_s rfl rfl trivial (ss_field_ptr rfl) rfl ?_
     refine rd_s rfl rfl trivial (ss_move rfl) rfl ?_
     refine rd_s rfl rfl trivial (ss_move rfl) rfl ?_
     refine rd_s rfl rfl trivial (ss_field_ptr rfl) rfl ?_
     refine rd_s rfl rfl trivial (ss_move rfl) rfl ?_
     refine rd_s rfl rfl trivial (ss_move rfl) rfl ?_
     refine rd_l rfl rfl trivial (ss_load_ptr rfl rfl) rfl ?_
     obtain ⟨q19, h⟩ := h
     refine rd_s rfl rfl trivial (ss_idxL rfl rfl q19) rfl ?_
     refine rd_l rfl rfl trivial (ss_loadL (f := (fun r => C.lst (ints r))) rfl q19) rfl ?_
     obtain ⟨q20, h⟩ := h
     refine rd_s rfl rfl trivial (ss_idxL rfl rfl q20) rfl ?_
     refine rd_l rfl rfl trivial (ss_loadL (f := ci) rfl q20) rfl ?_
     refine rd_s rfl rfl trivial (ss_assign rfl) rfl ?_
     refine rd_l rfl rfl trivial (ss_load_ptr rfl rfl) rfl ?_
     obtain ⟨q21, h⟩ := h
     refine rd_s rfl rfl trivial (ss_idxL rfl rfl q21) rfl ?_
     refine rd_l rfl rfl trivial (ss_loadL (f := (fun r => C.lst (ints r))) rfl q21) rfl ?_
     obtain ⟨q22, h⟩ := h
     refine rd_s rfl rfl trivial (ss_idxL rfl rfl q22) rfl ?_
     refine rd_l rfl rfl trivial (ss_loadL (f := ci) rfl q22) rfl ?_
     refine rd_s rfl rfl trivial (ss_assign rfl) rfl ?_
     refine rd_nil ?_
     refine aw_seq ?_
     refine aw_gh (gh_to (n := 144) (σ' := []) (env' := [(1, .c (.ptr [.lst (rows s1), .lst (rows s2)])), (3, .c (ci (s1.length : Int))), (4, .c (ci v17_1)), (5, .c (ci v21_2)), (6, .c (ci v25_3)), (7, .c (ci (el (el s1 (el (el s1 v17_1) v21_2)) (el (el s1 (el (el s2 v17_1) v21_2)) v25_3)))), (8, .c (ci (el (el s2 (el (el s1 v17_1) v21_2)) (el (el s1 (el (el s2 v17_1) v21_2)) v25_3)))), (9, .c (ci (el (el s2 (el (el s2 v17_1) v21_2)) v25_3))), (10, .c (ci (el (el s1 v21_2) v25_3))), (11, .c (ci (el (el s2 v21_2) v25_3))), (16, .c (ci (s1.length : Int))), (17, .c (ci v17_1)), (20, .c (ci (s1.length : Int))), (21, .c (ci v21_2)), (24, .c (ci (s1.length : Int))), (25, .c (ci v25_3))]) rfl rfl ⟨rfl, rfl, rfl, rfl, rfl, rfl, rfl, rfl, rfl, rfl, rfl, rfl, rfl, rfl, rfl, rfl, trivial⟩) ?_
     refine aw_regionD (kd := kdl [0, 1, 0, 0, 1, 0, 0, 1, 0, 1, 0, 0, 1, 0, 0, 1, 0, 0]) (ord := [0, 2, 5, 8, 10, 13, 1, 3, 4, 6, 7, 16, 9, 11, 12, 14, 15, 17]) [] mixed (by kernel_rfl) ?_
     refine rd_s rfl rfl trivial (ss_field_ptr rfl) rfl ?_
     refine rd_s rfl rfl trivial (ss_move rfl) rfl ?_
     refine rd_s rfl rfl trivial (ss_move rfl) rfl ?_
     refine rd_s rfl rfl trivial (ss_field_ptr rfl) rfl ?_
     refine rd_s rfl rfl trivial (ss_move rfl) rfl ?_
     refine rd_s rfl rfl trivial (ss_move rfl) rfl ?_
     refine rd_l rfl rfl trivial (ss_load_ptr rfl rfl) rfl ?_
     obtain ⟨q23, h⟩ := h
     refine rd_s rfl rfl trivial (ss_idxL rfl rfl q23) rfl ?_
     refine rd_l rfl rfl trivial (ss_loadL (f := (fun r => C.lst (ints r))) rfl q23) rfl ?_
     obtain ⟨q24, h⟩ := h
     refine rd_s rfl rfl trivial (ss_idxL rfl rfl q24) rfl ?_
     refine rd_l rfl rfl trivial (ss_loadL (f := ci) rfl q24) rfl ?_
     refine rd_s rfl rfl trivial (ss_assign rfl) rfl ?_
     refine rd_l rfl rfl trivial (ss_load_ptr rfl rfl) rfl ?_
     obtain ⟨q25, h⟩ := h
     refine rd_s rfl rfl trivial (ss_idxL rfl rfl q25) rfl ?_
     refine rd_l rfl rfl trivial (ss_loadL (f := (fun r => C.lst (ints r))) rfl q25) rfl ?_
     obtain ⟨q26, h⟩ := h
     refine rd_s rfl rfl trivial (ss_idxL rfl rfl q26) rfl ?_
     refine rd_l rfl rfl trivial (ss_loadL (f := ci) rfl q26) rfl ?_
     refine rd_s rfl rfl trivial (ss_assign rfl) rfl ?_
     refine rd_nil ?_
     refine aw_seq ?_
     refine aw_gh (gh_to (n := 144) (σ' := []) (env' := [(1, .c (.ptr [.lst (rows s1), .lst (rows s2)])), (3, .c (ci (s1.length : Int))), (4, .c (ci v17_1)), (5, .c (ci v21_2)), (6, .c (ci v25_3)), (7, .c (ci (el (el s1 (el (el s1 v17_1) v21_2)) (el (el s1 (el (el s2 v17_1) v21_2)) v25_3)))), (8, .c (ci (el (el s2 (el (el s1 v17_1) v21_2)) (el (el s1 (el (el s2 v17_1) v21_2)) v25_3)))), (9, .c (ci (el (el s2 (el (el s2 v17_1) v21_2)) v25_3))), (10, .c (ci (el (el s2 v17_1) (el (el s1 v21_2) v25_3)))), (11, .c (ci (el (el s2 v21_2) v25_3))), (12, .c (ci (el (el s1 v17_1) (el (el s1 v21_2) v25_3)))), (16, .c (ci (s1.length : Int))), (17, .c (ci v17_1)), (20, .c (ci (s1.length : Int))), (21, .c (ci v21_2)), (24, .c (ci (s1.length : Int))), (25, .c (ci v25_3))]) rfl rfl ⟨rfl, rfl, rfl, rfl, rfl, rfl, rfl, rfl, rfl, rfl, rfl, rfl, rfl, rfl, rfl, rfl, rfl, trivial⟩) ?_
     refine aw_regionD (kd := kdl [0, 1, 0, 0, 1, 0, 0, 1, 0, 1, 0, 0, 1, 0, 0, 1, 0, 0]) (ord := [0, 2, 5, 8, 10, 13, 1, 3, 4, 6, 7, 16, 9, 11, 12, 14, 15, 17]) [] mixed (by kernel_rfl) ?_
     refine rd_s rfl rfl trivial (ss_field_ptr rfl) rfl ?_
     refine rd_s rfl rfl trivial (ss_move rfl) rfl ?_
     refine rd_s rfl rfl trivial (ss_move rfl) rfl ?_
     refine rd_s rfl rfl trivial (ss_field_ptr rfl) rfl ?_
     refine rd_s rfl rfl trivial (ss_move rfl) rfl ?_
     refine rd_s rfl rfl trivial (ss_move rfl) rfl ?_
     refine rd_l rfl rfl trivial (ss_load_ptr rfl rfl) rfl ?_
     obtain ⟨q27, h⟩ := h
     refine rd_s rfl rfl trivial (ss_idxL rfl rfl q27) rfl ?_
     refine rd_l rfl rfl trivial (ss_loadL (f := (fun r => C.lst (ints r))) rfl q27) rfl ?_
     obtain ⟨q28, h⟩ := h
     refine rd_s rfl rfl trivial (ss_idxL rfl rfl q28) rfl ?_
     refine rd_l rfl rfl trivial (ss_loadL (f := ci) rfl q28) rfl ?_
     refine rd_s rfl rfl trivial (ss_assign rfl) rfl ?_
     refine rd_l rfl rfl trivial (ss_load_ptr rfl rfl) rfl ?_
     obtain ⟨q29, h⟩ := h
     refine rd_s rfl rfl trivial (ss_idxL rfl rfl q29) rfl ?_
     refine rd_l rfl rfl trivial (ss_loadL (f := (fun r => C.lst (ints r))) rfl q29) rfl ?_
     obtain ⟨q30, h⟩ := h
     refine rd_s rfl rfl trivial (ss_idxL rfl rfl q30) rfl ?_
     refine rd_l rfl rfl trivial (ss_loadL (f := ci) rfl q30) rfl ?_
     refine rd_s rfl rfl trivial (ss_assign rfl) rfl ?_
     refine rd_nil ?_
     refine aw_seq ?_
     refine aw_gh (gh_to (n := 144) (σ' := []) (env' := [(1, .c (.ptr [.lst (rows s1), .lst (rows s2)])), (3, .c (ci (s1.length : Int))), (4, .c (ci v17_1)), (5, .c (ci v21_2)), (6, .c (ci v25_3)), (7, .c (ci (el (el s1 (el (el s1 v17_1) v21_2)) (el (el s1 (el (el s2 v17_1) v21_2)) v25_3)))), (8, .c (ci (el (el s2 (el (el s1 v17_1) v21_2)) (el (el s1 (el (el s2 v17_1) v21_2)) v25_3)))), (9, .c (ci (el (el s2 (el (el s2 v17_1) v21_2)) v25_3))), (10, .c (ci (el (el s1 (el (el s2 v17_1) (el (el s1 v21_2) v25_3))) (el (el s2 v21_2) v25_3)))), (11, .c (ci (el (el s2 (el (el s2 v17_1) (el (el s1 v21_2) v25_3))) (el (el s2 v21_2) v25_3)))), (12, .c (ci (el (el s1 v17_1) (el (el s1 v21_2) v25_3)))), (16, .c (ci (s1.length : Int))), (17, .c (ci v17_1)), (20, .c (ci (s1.length : Int))), (21, .c (ci v21_2)), (24, .c (ci (s1.length : Int))), (25, .c (ci v25_3))]) rfl rfl ⟨rfl, rfl, rfl, rfl, rfl, rfl, rfl, rfl, rfl, rfl, rfl, rfl, rfl, rfl, rfl, rfl, rfl, trivial⟩) ?_
     refine aw_region ?_
     refine run_s (ss_move rfl) rfl ?_
     refine run_s (ss_move rfl) rfl ?_
     refine run_s (ss_neq rfl rfl) rfl ?_
     refine run_s (ss_move rfl) rfl ?_
     refine run_split (s := 127) rfl (fun q31 => ?_) (fun q31 => ?_)
     ·replace h := h.1 (of_decide_eq_false (bnot_t q31))
      refine run_gf rfl rfl q31 rfl ?_
      refine run_gf rfl rfl q31 rfl ?_
      refine run_gf rfl rfl q31 rfl ?_
      refine run_s (ss_pickT rfl q31 rfl) rfl ?_
      refine run_s (ss_move rfl) rfl ?_
      refine run_split (s := 132) rfl (fun q32 => ?_) (fun q32 => ?_)
      ·skip
       refine run_gf rfl rfl q32 rfl ?_
       refine run_gf rfl rfl q32 rfl ?_
       refine run_gf rfl rfl q32 rfl ?_
       refine run_s (ss_pickT rfl q32 rfl) rfl ?_
       refine run_nil ?_
       refine aw_cond rfl (fun q33 => ?_) (fun q33 => ?_)
       ·skip
        refine aw_seq ?_
        refine aw_gh (gh_to (n := 144) (σ' := []) (env' := [(4, .c (ci v17_1)), (5, .c (ci v21_2)), (6, .c (ci v25_3))]) rfl rfl ⟨rfl, rfl, rfl, trivial⟩) ?_
        refine aw_region ?_
        refine run_s (ss_move rfl) rfl ?_
        refine run_s (ss_move rfl) rfl ?_
        refine run_s (ss_move rfl) rfl ?_
        refine run_w (ws_buildSlice (id := 140) (ps := [(0, .tmp 137), (1, .tmp 138), (2, .tmp 139)]) rfl rfl (Nat.le_of_ble_eq_true rfl) rfl ⟨rfl, ?_⟩)
        refine run_s (ss_assign rfl) rfl ?_
        refine run_nil ?_
        refine aw_ret ?_
        exact retAF_mk (retv1 rfl (rv_tmp rfl)) rfl rfl ⟨_, (cle_refl _), _, h, rfl⟩
       ·cases q33
      ·cases q32
     ·replace h := h.2 (of_decide_eq_true (bnot_f q31))
      refine run_gt rfl rfl q31 ?_
      refine run_s (ss_move rfl) rfl ?_
      refine run_gt rfl rfl q31 ?_
      refine run_s (ss_move rfl) rfl ?_
      refine run_gt rfl rfl q31 ?_
      refine run_s (ss_neq rfl rfl) rfl ?_
      refine run_s (ss_pickF rfl q31 rfl) rfl ?_
      refine run_s (ss_move rfl) rfl ?_
      refine run_split (s := 132) rfl (fun q34 => ?_) (fun q34 => ?_)
      ·replace h := h.1 (of_decide_eq_false (bnot_t q34))
       refine run_gf rfl rfl q34 rfl ?_
       refine run_gf rfl rfl q34 rfl ?_
       refine run_gf rfl rfl q34 rfl ?_
       refine run_s (ss_pickT rfl q34 rfl) rfl ?_
       refine run_nil ?_
       refine aw_cond rfl (fun q35 => ?_) (fun q35 => ?_)
       ·skip
        refine aw_seq ?_
        refine aw_gh (gh_to (n := 144) (σ' := []) (env' := [(4, .c (ci v17_1)), (5, .c (ci v21_2)), (6, .c (ci v25_3))]) rfl rfl ⟨rfl, rfl, rfl, trivial⟩) ?_
        refine aw_region ?_
        refine run_s (ss_move rfl) rfl ?_
        refine run_s (ss_move rfl) rfl ?_
        refine run_s (ss_move rfl) rfl ?_
        refine run_w (ws_buildSlice (id := 140) (ps := [(0, .tmp 137), (1, .tmp 138), (2, .tmp 139)]) rfl rfl (Nat.le_of_ble_eq_true rfl) rfl ⟨rfl, ?_⟩)
        refine run_s (ss_assign rfl) rfl ?_
        refine run_nil ?_
        refine aw_ret ?_
        exact retAF_mk (retv1 rfl (rv_tmp rfl)) rfl rfl ⟨_, (cle_refl _), _, h, rfl⟩
       ·cases q35
      ·replace h := h.2 (of_decide_eq_true (bnot_f q34))
       refine run_gt rfl rfl q34 ?_
       refine run_s (ss_move rfl) rfl ?_
       refine run_gt rfl rfl q34 ?_
       refine run_s (ss_move rfl) rfl ?_
       refine run_gt rfl rfl q34 ?_
       refine run_s (ss_neq rfl rfl) rfl ?_
       refine run_s (ss_pickF rfl q34 rfl) rfl ?_
       refine run_nil ?_
       refine aw_cond rfl (fun q36 => ?_) (fun q36 => ?_)
       ·replace h := h.1 (of_decide_eq_false (bnot_t q36))
        refine aw_seq ?_
        refine aw_gh (gh_to (n := 144) (σ' := []) (env' := [(4, .c (ci v17_1)), (5, .c (ci v21_2)), (6, .c (ci v25_3))]) rfl rfl ⟨rfl, rfl, rfl, trivial⟩) ?_
        refine aw_region ?_
        refine run_s (ss_move rfl) rfl ?_
        refine run_s (ss_move rfl) rfl ?_
        refine run_s (ss_move rfl) rfl ?_
        refine run_w (ws_buildSlice (id := 140) (ps := [(0, .tmp 137), (1, .tmp 138), (2, .tmp 139)]) rfl rfl (Nat.le_of_ble_eq_true rfl) rfl ⟨rfl, ?_⟩)
        refine run_s (ss_assign rfl) rfl ?_
        refine run_nil ?_
        refine aw_ret ?_
        exact retAF_mk (retv1 rfl (rv_tmp rfl)) rfl rfl ⟨_, (cle_refl _), _, h, rfl⟩
       ·replace h := h.2 (of_decide_eq_true (bnot_f q36))
        refine aw_skip ?_
        refine aw_gh (gh_to (n := 144) (σ' := []) (env' := [(1, .c (.ptr [.lst (rows s1), .lst (rows s2)])), (3, .c (ci (s1.length : Int))), (4, .c (ci v17_1)), (5, .c (ci v21_2)), (16, .c (ci (s1.length : Int))), (17, .c (ci v17_1)), (20, .c (ci (s1.length : Int))), (21, .c (ci v21_2)), (24, .c (ci (s1.length : Int))), (25, .c (ci v25_3)), (128, .c (ci (el (el s2 (el (el s1 v17_1) v21_2)) (el (el s1 (el (el s2 v17_1) v21_2)) v25_3)))), (129, .c (ci (el (el s1 (el (el s2 v17_1) (el (el s1 v21_2) v25_3))) (el (el s2 v21_2) v25_3)))), (130, .c (cb (!(decide (el (el s2 (el (el s1 v17_1) v21_2)) (el (el s1 (el (el s2 v17_1) v21_2)) v25_3) = el (el s1 (el (el s2 v17_1) (el (el s1 v21_2) v25_3))) (el (el s2 v21_2) v25_3)))))), (133, .c (ci (el (el s2 (el (el s2 v17_1) v21_2)) v25_3))), (134, .c (ci (el (el s2 (el (el s2 v17_1) (el (el s1 v21_2) v25_3))) (el (el s2 v21_2) v25_3)))), (135, .c (cb (!(decide (el (el s2 (el (el s2 v17_1) v21_2)) v25_3 = el (el s2 (el (el s2 v17_1) (el (el s1 v21_2) v25_3))) (el (el s2 v21_2) v25_3))))))]) rfl rfl ⟨rfl, rfl, rfl, rfl, rfl, rfl, rfl, rfl, rfl, rfl, rfl, rfl, rfl, rfl, rfl, rfl, trivial⟩) ?_
        refine aw_region ?_
        obtain ⟨q37, h⟩ := h
        refine run_s (ss_add rfl rfl q37) rfl ?_
        refine run_s (ss_move rfl) rfl ?_
        refine run_nil ?_
        exact ⟨v25_3 + 1, ghe_to (n := 144) rfl rfl ⟨rfl, rfl, rfl, rfl, rfl, rfl, rfl, rfl, rfl, rfl, trivial⟩, h.1, h.2⟩
    ·replace h := h.2 (of_decide_eq_false q6)
     refine aw_exit ?_
     refine aw_region ?_
     obtain ⟨q38, h⟩ := h
     refine run_s (ss_add rfl rfl q38) rfl ?_
     refine run_s (ss_move rfl) rfl ?_
     refine run_nil ?_
     exact ⟨v21_2 + 1, ghe_to (n := 144) rfl rfl ⟨rfl, rfl, rfl, rfl, rfl, rfl, rfl, trivial⟩, h.1, h.2⟩
   ·replace h := h.2 (of_decide_eq_false q4)
    refine aw_exit ?_
    refine aw_region ?_
    obtain ⟨q39, h⟩ := h
    refine run_s (ss_add rfl rfl q39) rfl ?_
    refine run_s (ss_move rfl) rfl ?_
    refine run_nil ?_
    exact ⟨v17_1 + 1, ghe_to (n := 144) rfl rfl ⟨rfl, rfl, rfl, rfl, trivial⟩, h.1, h.2⟩
  ·replace h := h.2 (of_decide_eq_false q2)
   refine aw_exit ?_
   refine aw_seq ?_
   refine aw_gh (gh_to (n := 144) (σ' := []) (env' := []) rfl rfl trivial) ?_
   refine aw_region ?_
   refine run_s (ss_assign rfl) rfl ?_
   refine run_nil ?_
   refine aw_ret ?_
   exact retAF_mk (retv1 rfl (rv_tmp rfl)) rfl rfl ⟨_, (cle_refl _), _, h, rfl⟩

theorem c_impl_equationFault (s1 : List (List Int)) (s2 : List (List Int)) (hp : pmB s1 s2 = true) : AF Try.prog 139 [.agg [.lst (rows s1), .lst (rows s2)]] (fun R_ => R_ = onil (eqF s1 s2)) :=
  (w_impl_equationFault s1 s2 (fun y0 => y0 = eqF s1 s2) (p_impl_equationFault s1 s2 hp)).mono (by rintro r ⟨_, rfl, rfl⟩; rfl)

set_option maxRecDepth 100000 in
set_option maxHeartbeats 4000000 in
theorem w_impl_IsSolution (s1 : List (List Int)) (s2 : List (List Int)) (Q : Bool → Prop) (h : wp_impl_IsSolution s1 s2 Q) : AF Try.prog 70 [.agg [.lst (rows s1), .lst (rows s2)]] (fun R_ => ∃ y0, Q y0 ∧ R_ = cb y0) := by
  refine AF.ofWQ (af_enter (n := 15) Try.func70 rfl (by rfl) rfl (Nat.le_of_ble_eq_true rfl) ?_)
  unfold wp_impl_IsSolution at h
  refine aw_seq ?_
  refine aw_gh (gh_to (n := 15) (σ' := []) (env' := [(0, .c (.agg [.lst (rows s1), .lst (rows s2)]))]) rfl rfl ⟨rfl, trivial⟩) ?_
  refine aw_region ?_
  refine run_w (ws_boxR rfl (.inl rfl) rfl ⟨rfl, ?_⟩)
  refine run_s (ss_assign rfl) rfl ?_
  refine run_nil ?_
  refine aw_seq ?_
  refine aw_region ?_
  refine run_s (ss_load_struct rfl (Nat.le_of_ble_eq_true rfl)) rfl ?_
  obtain ⟨q1, h⟩ := h
  refine run_w (ws_call (xs := [.tmp 3]) (ids := []) rfl rfl rfl rfl (c_impl_IsPairMap s1 s2 q1) rfl ?_ )
  rintro _ rfl
  refine ⟨rfl, ?_⟩
  refine run_s (ss_move rfl) rfl ?_
  refine run_split (s := 5) rfl (fun q3 => ?_) (fun q3 => ?_)
  ·replace h := h.1 (q3)
   refine run_gt rfl rfl q3 ?_
   refine run_s (ss_load_struct rfl (Nat.le_of_ble_eq_true rfl)) rfl ?_
   refine run_gt rfl rfl q3 ?_
   by_cases q4 : (colF s1 s2) = []
   ·replace h := h.1 q4
    obtain ⟨q5, h⟩ := h
    refine run_w (ws_call (xs := [.tmp 6]) (ids := []) rfl rfl rfl rfl (AF.onil_n (c_impl_collisionOf s1 s2 q5) q4) rfl ?_ )
    rintro _ rfl
    refine ⟨rfl, ?_⟩
    refine run_gt rfl rfl q3 ?_
    refine run_s (ss_eql_nil rfl rfl) rfl ?_
    refine run_s (ss_pickT rfl q3 rfl) rfl ?_
    refine run_s (ss_move rfl) rfl ?_
    refine run_split (s := 10) rfl (fun q7 => ?_) (fun q7 => ?_)
    ·skip
     refine run_gt rfl rfl q7 ?_
     refine run_s (ss_load_struct rfl (Nat.le_of_ble_eq_true rfl)) rfl ?_
     refine run_gt rfl rfl q7 ?_
     by_cases q8 : (eqF s1 s2) = []
     ·replace h := h.1 q8
      obtain ⟨q9, h⟩ := h
      refine run_w (ws_call (xs := [.tmp 11]) (ids := []) rfl rfl rfl rfl (AF.onil_n (c_impl_equationFault s1 s2 q9) q8) rfl ?_ )
      rintro _ rfl
      refine ⟨rfl, ?_⟩
      refine run_gt rfl rfl q7 ?_
      refine run_s (ss_eql_nil rfl rfl) rfl ?_
      refine run_s (ss_pickT rfl q7 rfl) rfl ?_
      refine run_s (ss_assign rfl) rfl ?_
      refine run_nil ?_
      refine aw_ret ?_
      exact retAF_mk (retv1 rfl (rv_tmp rfl)) rfl rfl ⟨_, (cle_refl _), _, h, rfl⟩
     ·replace h := h.2 q8
      obtain ⟨q11, h⟩ := h
      refine run_w (ws_call (xs := [.tmp 11]) (ids := [12]) rfl rfl rfl rfl (AF.onil_o (c_impl_equationFault s1 s2 q11) q8) rfl ?_ )
      rintro _ rfl
      refine ⟨rfl, ?_⟩
      refine run_gt rfl rfl q7 ?_
      refine run_s (ss_eql_refNil rfl rfl (map_ne q8) rfl) rfl ?_
      refine run_s (ss_pickT rfl q7 rfl) rfl ?_
      refine run_s (ss_assign rfl) rfl ?_
      refine run_nil ?_
      refine aw_ret ?_
      exact retAF_mk (retv1 rfl (rv_tmp rfl)) rfl rfl ⟨_, (cle_refl _), _, h, rfl⟩
    ·cases q7
   ·replace h := h.2 q4
    obtain ⟨q13, h⟩ := h
    refine run_w (ws_call (xs := [.tmp 6]) (ids := [7]) rfl rfl rfl rfl (AF.onil_o (c_impl_collisionOf s1 s2 q13) q4) rfl ?_ )
    rintro _ rfl
    refine ⟨rfl, ?_⟩
    refine run_gt rfl rfl q3 ?_
    refine run_s (ss_eql_refNil rfl rfl (map_ne q4) rfl) rfl ?_
    refine run_s (ss_pickT rfl q3 rfl) rfl ?_
    refine run_s (ss_move rfl) rfl ?_
    refine run_split (s := 10) rfl (fun q15 => ?_) (fun q15 => ?_)
    ·cases q15
    ·skip
     refine run_gf rfl rfl q15 rfl ?_
     refine run_gf rfl rfl q15 rfl ?_
     refine run_gf rfl rfl q15 rfl ?_
     refine run_s (ss_pickF rfl q15 rfl) rfl ?_
     refine run_s (ss_assign rfl) rfl ?_
     refine run_nil ?_
     refine aw_ret ?_
     exact retAF_mk (retv1 rfl (rv_tmp rfl)) rfl rfl ⟨_, (cle_refl _), _, h, rfl⟩
  ·replace h := h.2 (q3)
   refine run_gf rfl rfl q3 rfl ?_
   refine run_gf rfl rfl q3 rfl ?_
   refine run_gf rfl rfl q3 rfl ?_
   refine run_s (ss_pickF rfl q3 rfl) rfl ?_
   refine run_s (ss_move rfl) rfl ?_
   refine run_split (s := 10) rfl (fun q16 => ?_) (fun q16 => ?_)
   ·cases q16
   ·skip
    refine run_gf rfl rfl q16 rfl ?_
    refine run_gf rfl rfl q16 rfl ?_
    refine run_gf rfl rfl q16 rfl ?_
    refine run_s (ss_pickF rfl q16 rfl) rfl ?_
    refine run_s (ss_assign rfl) rfl ?_
    refine run_nil ?_
    refine aw_ret ?_
    exact retAF_mk (retv1 rfl (rv_tmp rfl)) rfl rfl ⟨_, (cle_refl _), _, h, rfl⟩

theorem c_impl_IsSolution (s1 : List (List Int)) (s2 : List (List Int)) (hp : small2 s1 ∧ small2 s2) : AF Try.prog 70 [.agg [.lst (rows s1), .lst (rows s2)]] (fun R_ => R_ = cb (solB s1 s2)) :=
  (w_impl_IsSolution s1 s2 (fun y0 => y0 = solB s1 s2) (p_impl_IsSolution s1 s2 hp)).mono (by rintro r ⟨_, rfl, rfl⟩; rfl)

set_option maxRecDepth 100000 in
set_option maxHeartbeats 4000000 in
theorem w_spec_l02Is (s1 : List (List Int)) (s2 : List (List Int)) (Q : Bool → Prop) (h : wp_spec_l02Is s1 s2 Q) : AF Try.prog 142 [.agg [.lst (rows s1), .lst (rows s2)]] (fun R_ => ∃ y0, Q y0 ∧ R_ = cb y0) := by
  refine AF.ofWQ (af_enter (n := 17) Try.func142 rfl (by rfl) rfl (Nat.le_of_ble_eq_true rfl) ?_)
  unfold wp_spec_l02Is at h
  refine aw_seq ?_
  refine aw_gh (gh_to (n := 17) (σ' := []) (env' := [(0, .c (.agg [.lst (rows s1), .lst (rows s2)]))]) rfl rfl ⟨rfl, trivial⟩) ?_
  refine aw_region ?_
  refine run_w (ws_boxR rfl (.inl rfl) rfl ⟨rfl, ?_⟩)
  refine run_s (ss_assign rfl) rfl ?_
  refine run_nil ?_
  refine aw_seq ?_
  refine aw_region ?_
  refine run_s (ss_load_struct rfl (Nat.le_of_ble_eq_true rfl)) rfl ?_
  obtain ⟨q1, h⟩ := h
  refine run_w (ws_call (xs := [.tmp 3]) (ids := []) rfl rfl rfl rfl (c_spec_l02Map s1 s2 q1) rfl ?_ )
  rintro _ rfl
  refine ⟨rfl, ?_⟩
  refine run_s (ss_move rfl) rfl ?_
  refine run_split (s := 5) rfl (fun q3 => ?_) (fun q3 => ?_)
  ·replace h := h.1 (q3)
   refine run_gt rfl rfl q3 ?_
   refine run_s (ss_load_struct rfl (Nat.le_of_ble_eq_true rfl)) rfl ?_
   refine run_gt rfl rfl q3 ?_
   obtain ⟨q4, h⟩ := h
   refine run_w (ws_call (xs := [.tmp 6]) (ids := [7]) rfl rfl rfl rfl (c_spec_l02Collision s1 s2 q4) rfl ?_ )
   rintro _ rfl
   refine ⟨rfl, ?_⟩
   refine run_gt rfl rfl q3 ?_
   refine run_s (ss_lenR (f := ci) rfl rfl) rfl ?_
   refine run_gt rfl rfl q3 ?_
   refine run_s (ss_eql rfl rfl) rfl ?_
   refine run_s (ss_pickT rfl q3 rfl) rfl ?_
   refine run_s (ss_move rfl) rfl ?_
   refine run_split (s := 11) rfl (fun q6 => ?_) (fun q6 => ?_)
   ·replace h := h.1 (of_decide_eq_true q6)
    refine run_gt rfl rfl q6 ?_
    refine run_s (ss_load_struct rfl (Nat.le_of_ble_eq_true rfl)) rfl ?_
    refine run_gt rfl rfl q6 ?_
    obtain ⟨q7, h⟩ := h
    refine run_w (ws_call (xs := [.tmp 12]) (ids := [13]) rfl rfl rfl rfl (c_spec_l02Fault s1 s2 q7) rfl ?_ )
    rintro _ rfl
    refine ⟨rfl, ?_⟩
    refine run_gt rfl rfl q6 ?_
    refine run_s (ss_lenR (f := ci) rfl rfl) rfl ?_
    refine run_gt rfl rfl q6 ?_
    refine run_s (ss_eql rfl rfl) rfl ?_
    refine run_s (ss_pickT rfl q6 rfl) rfl ?_
    refine run_s (ss_assign rfl) rfl ?_
    refine run_nil ?_
    refine aw_ret ?_
    exact retAF_mk (retv1 rfl (rv_tmp rfl)) rfl rfl ⟨_, (cle_refl _), _, h, rfl⟩
   ·replace h := h.2 (of_decide_eq_false q6)
    refine run_gf rfl rfl q6 rfl ?_
    refine run_gf rfl rfl q6 rfl ?_
    refine run_gf rfl rfl q6 rfl ?_
    refine run_gf rfl rfl q6 rfl ?_
    refine run_s (ss_pickF rfl q6 rfl) rfl ?_
    refine run_s (ss_assign rfl) rfl ?_
    refine run_nil ?_
    refine aw_ret ?_
    exact retAF_mk (retv1 rfl (rv_tmp rfl)) rfl rfl ⟨_, (cle_refl _), _, h, rfl⟩
  ·replace h := h.2 (q3)
   refine run_gf rfl rfl q3 rfl ?_
   refine run_gf rfl rfl q3 rfl ?_
   refine run_gf rfl rfl q3 rfl ?_
   refine run_gf rfl rfl q3 rfl ?_
   refine run_s (ss_pickF rfl q3 rfl) rfl ?_
   refine run_s (ss_move rfl) rfl ?_
   refine run_split (s := 11) rfl (fun q9 => ?_) (fun q9 => ?_)
   ·cases q9
   ·skip
    refine run_gf rfl rfl q9 rfl ?_
    refine run_gf rfl rfl q9 rfl ?_
    refine run_gf rfl rfl q9 rfl ?_
    refine run_gf rfl rfl q9 rfl ?_
    refine run_s (ss_pickF rfl q9 rfl) rfl ?_
    refine run_s (ss_assign rfl) rfl ?_
    refine run_nil ?_
    refine aw_ret ?_
    exact retAF_mk (retv1 rfl (rv_tmp rfl)) rfl rfl ⟨_, (cle_refl _), _, h, rfl⟩

theorem c_spec_l02Is (s1 : List (List Int)) (s2 : List (List Int)) (hp : small2 s1 ∧ small2 s2) : AF Try.prog 142 [.agg [.lst (rows s1), .lst (rows s2)]] (fun R_ => R_ = cb (solB s1 s2)) :=
  (w_spec_l02Is s1 s2 (fun y0 => y0 = solB s1 s2) (p_spec_l02Is s1 s2 hp)).mono (by rintro r ⟨_, rfl, rfl⟩; rfl)

set_option maxRecDepth 100000 in
set_option maxHeartbeats 4000000 in
theorem w_impl_isNondegenerate (s1 : List (List Int)) (s2 : List (List Int)) (Q : Bool → Prop) (h : wp_impl_isNondegenerate s1 s2 Q) : AF Try.prog 134 [.agg [.lst (rows s1), .lst (rows s2)]] (fun R_ => ∃ y0, Q y0 ∧ R_ = cb y0) := by
  refine AF.ofWQ (af_enter (n := 12) Try.func134 rfl (by rfl) rfl (Nat.le_of_ble_eq_true rfl) ?_)
  unfold wp_impl_isNondegenerate at h
  refine aw_seq ?_
  refine aw_gh (gh_to (n := 12) (σ' := []) (env' := [(0, .c (.agg [.lst (rows s1), .lst (rows s2)]))]) rfl rfl ⟨rfl, trivial⟩) ?_
  refine aw_region ?_
  refine run_w (ws_boxR rfl (.inl rfl) rfl ⟨rfl, ?_⟩)
  refine run_s (ss_assign rfl) rfl ?_
  refine run_nil ?_
  refine aw_seq ?_
  refine aw_region ?_
  refine run_s (ss_field_ptr rfl) rfl ?_
  refine run_s (ss_load_ptr rfl rfl) rfl ?_
  obtain ⟨q1, h⟩ := h
  refine run_w (ws_call (xs := [.tmp 4]) (ids := []) rfl rfl rfl rfl (c_impl_permutationRows s1 q1) rfl ?_ )
  rintro _ rfl
  refine ⟨rfl, ?_⟩
  refine run_s (ss_move rfl) rfl ?_
  refine run_split (s := 6) rfl (fun q3 => ?_) (fun q3 => ?_)
  ·replace h := h.1 (q3)
   refine run_gt rfl rfl q3 ?_
   refine run_s (ss_field_ptr rfl) rfl ?_
   refine run_gt rfl rfl q3 ?_
   refine run_s (ss_load_ptr rfl rfl) rfl ?_
   refine run_gt rfl rfl q3 ?_
   obtain ⟨q4, h⟩ := h
   refine run_w (ws_call (xs := [.tmp 8]) (ids := [9]) rfl rfl rfl rfl (c_impl_transposed s2 q4) rfl ?_ )
   rintro _ rfl
   refine ⟨rfl, ?_⟩
   refine run_gt rfl rfl q3 ?_
   obtain ⟨q6, h⟩ := h
   refine run_w (ws_callR (xs := [.tmp 9]) (cs := [.own (orows (trnT s2))]) (ids := []) rfl (.inr ⟨rfl, rfl⟩) rfl rfl (fz_cons (fz_own (fz_map (fun _ => (fz_own (fz_map (fun _ => rfl) _))) _)) fz_nil) (c_impl_permutationRows (trnT s2) q6) rfl ?_ )
   rintro _ rfl
   refine ⟨rfl, rfl, ?_⟩
   refine run_s (ss_pickT rfl q3 rfl) rfl ?_
   refine run_s (ss_assign rfl) rfl ?_
   refine run_nil ?_
   refine aw_ret ?_
   exact retAF_mk (retv1 rfl (rv_tmp rfl)) rfl rfl ⟨_, (cle_refl _), _, h, rfl⟩
  ·replace h := h.2 (q3)
   refine run_gf rfl rfl q3 rfl ?_
   refine run_gf rfl rfl q3 rfl ?_
   refine run_gf rfl rfl q3 rfl ?_
   refine run_gf rfl rfl q3 rfl ?_
   refine run_s (ss_pickF rfl q3 rfl) rfl ?_
   refine run_s (ss_assign rfl) rfl ?_
   refine run_nil ?_
   refine aw_ret ?_
   exact retAF_mk (retv1 rfl (rv_tmp rfl)) rfl rfl ⟨_, (cle_refl _), _, h, rfl⟩

theorem c_impl_isNondegenerate (s1 : List (List Int)) (s2 : List (List Int)) (hp : pmB s1 s2 = true) : AF Try.prog 134 [.agg [.lst (rows s1), .lst (rows s2)]] (fun R_ => R_ = cb (ndB s1 s2)) :=
  (w_impl_isNondegenerate s1 s2 (fun y0 => y0 = ndB s1 s2) (p_impl_isNondegenerate s1 s2 hp)).mono (by rintro r ⟨_, rfl, rfl⟩; rfl)

set_option maxRecDepth 100000 in
set_option maxHeartbeats 4000000 in
theorem w_spec_l02Good (s1 : List (List Int)) (s2 : List (List Int)) (Q : Bool → Prop) (h : wp_spec_l02Good s1 s2 Q) : AF Try.prog 143 [.agg [.lst (rows s1), .lst (rows s2)]] (fun R_ => ∃ y0, Q y0 ∧ R_ = cb y0) := by
  refine AF.ofWQ (af_enter (n := 12) Try.func143 rfl (by rfl) rfl (Nat.le_of_ble_eq_true rfl) ?_)
  unfold wp_spec_l02Good at h
  refine aw_seq ?_
  refine aw_gh (gh_to (n := 12) (σ' := []) (env' := [(0, .c (.agg [.lst (rows s1), .lst (rows s2)]))]) rfl rfl ⟨rfl, trivial⟩) ?_
  refine aw_region ?_
  refine run_w (ws_boxR rfl (.inl rfl) rfl ⟨rfl, ?_⟩)
  refine run_s (ss_assign rfl) rfl ?_
  refine run_nil ?_
  refine aw_seq ?_
  refine aw_region ?_
  refine run_s (ss_field_ptr rfl) rfl ?_
  refine run_s (ss_load_ptr rfl rfl) rfl ?_
  obtain ⟨q1, h⟩ := h
  refine run_w (ws_call (xs := [.tmp 4]) (ids := []) rfl rfl rfl rfl (c_spec_l01Rows s1 q1) rfl ?_ )
  rintro _ rfl
  refine ⟨rfl, ?_⟩
  refine run_s (ss_move rfl) rfl ?_
  refine run_split (s := 6) rfl (fun q3 => ?_) (fun q3 => ?_)
  ·replace h := h.1 (q3)
   refine run_gt rfl rfl q3 ?_
   refine run_s (ss_field_ptr rfl) rfl ?_
   refine run_gt rfl rfl q3 ?_
   refine run_s (ss_load_ptr rfl rfl) rfl ?_
   refine run_gt rfl rfl q3 ?_
   obtain ⟨q4, h⟩ := h
   refine run_w (ws_call (xs := [.tmp 8]) (ids := [9]) rfl rfl rfl rfl (c_spec_l01Turn s2 q4) rfl ?_ )
   rintro _ rfl
   refine ⟨rfl, ?_⟩
   refine run_gt rfl rfl q3 ?_
   obtain ⟨q6, h⟩ := h
   refine run_w (ws_callR (xs := [.tmp 9]) (cs := [.own (orows (trnT s2))]) (ids := []) rfl (.inr ⟨rfl, rfl⟩) rfl rfl (fz_cons (fz_own (fz_map (fun _ => (fz_own (fz_map (fun _ => rfl) _))) _)) fz_nil) (c_spec_l01Rows (trnT s2) q6) rfl ?_ )
   rintro _ rfl
   refine ⟨rfl, rfl, ?_⟩
   refine run_s (ss_pickT rfl q3 rfl) rfl ?_
   refine run_s (ss_assign rfl) rfl ?_
   refine run_nil ?_
   refine aw_ret ?_
   exact retAF_mk (retv1 rfl (rv_tmp rfl)) rfl rfl ⟨_, (cle_refl _), _, h, rfl⟩
  ·replace h := h.2 (q3)
   refine run_gf rfl rfl q3 rfl ?_
   refine run_gf rfl rfl q3 rfl ?_
   refine run_gf rfl rfl q3 rfl ?_
   refine run_gf rfl rfl q3 rfl ?_
   refine run_s (ss_pickF rfl q3 rfl) rfl ?_
   refine run_s (ss_assign rfl) rfl ?_
   refine run_nil ?_
   refine aw_ret ?_
   exact retAF_mk (retv1 rfl (rv_tmp rfl)) rfl rfl ⟨_, (cle_refl _), _, h, rfl⟩

theorem c_spec_l02Good (s1 : List (List Int)) (s2 : List (List Int)) (hp : pmB s1 s2 = true) : AF Try.prog 143 [.agg [.lst (rows s1), .lst (rows s2)]] (fun R_ => R_ = cb (ndB s1 s2)) :=
  (w_spec_l02Good s1 s2 (fun y0 => y0 = ndB s1 s2) (p_spec_l02Good s1 s2 hp)).mono (by rintro r ⟨_, rfl, rfl⟩; rfl)

set_option maxRecDepth 100000 in
set_option maxHeartbeats 4000000 in
theorem w_impl_isInvolutive (s1 : List (List Int)) (s2 : List (List Int)) (Q : Bool → Prop) (h : wp_impl_isInvolutive s1 s2 Q) : AF Try.prog 135 [.agg [.lst (rows s1), .lst (rows s2)]] (fun R_ => ∃ y0, Q y0 ∧ R_ = cb y0) := by
  refine AF.ofWQ (af_enter (n := 55) Try.func135 rfl (by rfl) rfl (Nat.le_of_ble_eq_true rfl) ?_)
  unfold wp_impl_isInvolutive at h
  refine aw_seq ?_
  refine aw_gh (gh_to (n := 55) (σ' := []) (env' := [(0, .c (.agg [.lst (rows s1), .lst (rows s2)]))]) rfl rfl ⟨rfl, trivial⟩) ?_
  refine aw_region ?_
  refine run_w (ws_boxR rfl (.inl rfl) rfl ⟨rfl, ?_⟩)
  refine run_s (ss_assign rfl) rfl ?_
  refine run_nil ?_
  refine aw_seq ?_
  refine aw_seq ?_
  refine aw_region ?_
  refine run_s (ss_field_ptr rfl) rfl ?_
  refine run_s (ss_load_ptr rfl rfl) rfl ?_
  refine run_s (ss_lenL (f := (fun r => C.lst (ints r))) rfl) rfl ?_
  refine run_s (ss_move rfl) rfl ?_
  refine run_nil ?_
  refine aw_block ?_
  obtain ⟨H1, m1, q1, h⟩ := h
  refine aw_loop1 (fun (v11_1 : Int) => ⟨[], [(1, .c (.ptr [.lst (rows s1), .lst (rows s2)])), (9, .c (.lst (rows s1))), (10, .c (ci (s1.length : Int))), (11, .c (ci v11_1))], 55⟩) H1 m1 ⟨0, ghe_to (n := 55) rfl rfl ⟨rfl, rfl, rfl, rfl, trivial⟩, q1⟩ ?_
  rintro v11_1 q1
  replace h := h v11_1 q1
  refine aw_seq ?_
  refine aw_region ?_
  refine run_s (ss_lss rfl rfl) rfl ?_
  refine run_nil ?_
  refine aw_seq ?_
  refine aw_cond rfl (fun q2 => ?_) (fun q2 => ?_)
  ·replace h := h.1 (of_decide_eq_true q2)
   refine aw_skip ?_
   refine aw_seq ?_
   refine aw_block ?_
   refine aw_seq ?_
   refine aw_region ?_
   refine run_s (ss_move rfl) rfl ?_
   obtain ⟨q3, h⟩ := h
   refine run_s (ss_idxL rfl rfl q3) rfl ?_
   refine run_s (ss_loadL (f := (fun r => C.lst (ints r))) rfl q3) rfl ?_
   refine run_s (ss_assign rfl) rfl ?_
   refine run_s (ss_assign rfl) rfl ?_
   refine run_nil ?_
   refine aw_seq ?_
   refine aw_region ?_
   refine run_s (ss_move rfl) rfl ?_
   refine run_s (ss_lenL (f := ci) rfl) rfl ?_
   refine run_s (ss_move rfl) rfl ?_
   refine run_nil ?_
   refine aw_block ?_
   obtain ⟨H2, m2, q4, h⟩ := h
   refine aw_loop1 (fun (v18_2 : Int) => ⟨[], [(1, .c (.ptr [.lst (rows s1), .lst (rows s2)])), (3, .c (ci v11_1)), (9, .c (.lst (rows s1))), (10, .c (ci (s1.length : Int))), (11, .c (ci v11_1)), (16, .c (.lst (ints (el s1 v11_1)))), (17, .c (ci ((el s1 v11_1).length : Int))), (18, .c (ci v18_2))], 55⟩) H2 m2 ⟨0, ghe_to (n := 55) rfl rfl ⟨rfl, rfl, rfl, rfl, rfl, rfl, rfl, rfl, trivial⟩, q4⟩ ?_
   rintro v18_2 q4
   replace h := h v18_2 q4
   refine aw_seq ?_
   refine aw_region ?_
   refine run_s (ss_lss rfl rfl) rfl ?_
   refine run_nil ?_
   refine aw_seq ?_
   refine aw_cond rfl (fun q5 => ?_) (fun q5 => ?_)
   ·replace h := h.1 (of_decide_eq_true q5)
    refine aw_skip ?_
    refine aw_seq ?_
    refine aw_block ?_
    refine aw_seq ?_
    refine aw_region ?_
    refine run_s (ss_move rfl) rfl ?_
    obtain ⟨q6, h⟩ := h
    refine run_s (ss_idxL rfl rfl q6) rfl ?_
    refine run_s (ss_loadL (f := ci) rfl q6) rfl ?_
    refine run_s (ss_assign rfl) rfl ?_
    refine run_s (ss_assign rfl) rfl ?_
    refine run_nil ?_
    refine aw_seq ?_
    refine aw_region ?_
    refine run_s (ss_field_ptr rfl) rfl ?_
    refine run_s (ss_load_ptr rfl rfl) rfl ?_
    refine run_s (ss_move rfl) rfl ?_
    obtain ⟨q7, h⟩ := h
    refine run_s (ss_idxL rfl rfl q7) rfl ?_
    refine run_s (ss_loadL (f := (fun r => C.lst (ints r))) rfl q7) rfl ?_
    refine run_s (ss_move rfl) rfl ?_
    obtain ⟨q8, h⟩ := h
    refine run_s (ss_idxL rfl rfl q8) rfl ?_
    refine run_s (ss_loadL (f := ci) rfl q8) rfl ?_
    refine run_s (ss_assign rfl) rfl ?_
    refine run_nil ?_
    refine aw_seq ?_
    refine aw_region ?_
    refine run_s (ss_field_ptr rfl) rfl ?_
    refine run_s (ss_load_ptr rfl rfl) rfl ?_
    refine run_s (ss_move rfl) rfl ?_
    obtain ⟨q9, h⟩ := h
    refine run_s (ss_idxL rfl rfl q9) rfl ?_
    refine run_s (ss_loadL (f := (fun r => C.lst (ints r))) rfl q9) rfl ?_
    refine run_s (ss_move rfl) rfl ?_
    obtain ⟨q10, h⟩ := h
    refine run_s (ss_idxL rfl rfl q10) rfl ?_
    refine run_s (ss_loadL (f := ci) rfl q10) rfl ?_
    refine run_s (ss_move rfl) rfl ?_
    refine run_s (ss_neq rfl rfl) rfl ?_
    refine run_s (ss_move rfl) rfl ?_
    refine run_split (s := 41) rfl (fun q11 => ?_) (fun q11 => ?_)
    ·replace h := h.1 (of_decide_eq_false (bnot_t q11))
     refine run_gf rfl rfl q11 rfl ?_
     refine run_gf rfl rfl q11 rfl ?_
     refine run_gf rfl rfl q11 rfl ?_
     refine run_gf rfl rfl q11 rfl ?_
     refine run_gf rfl rfl q11 rfl ?_
     refine run_gf rfl rfl q11 rfl ?_
     refine run_gf rfl rfl q11 rfl ?_
     refine run_gf rfl rfl q11 rfl ?_
     refine run_gf rfl rfl q11 rfl ?_
     refine run_gf rfl rfl q11 rfl ?_
     refine run_s (ss_pickT rfl q11 rfl) rfl ?_
     refine run_nil ?_
     refine aw_cond rfl (fun q12 => ?_) (fun q12 => ?_)
     ·skip
      refine aw_seq ?_
      refine aw_gh (gh_to (n := 55) (σ' := []) (env' := []) rfl rfl trivial) ?_
      refine aw_region ?_
      refine run_s (ss_assign rfl) rfl ?_
      refine run_nil ?_
      refine aw_ret ?_
      exact retAF_mk (retv1 rfl (rv_tmp rfl)) rfl rfl ⟨_, (cle_refl _), _, h, rfl⟩
     ·cases q12
    ·replace h := h.2 (of_decide_eq_true (bnot_f q11))
     refine run_gt rfl rfl q11 ?_
     refine run_s (ss_field_ptr rfl) rfl ?_
     refine run_gt rfl rfl q11 ?_
     refine run_s (ss_load_ptr rfl rfl) rfl ?_
     refine run_gt rfl rfl q11 ?_
     refine run_s (ss_move rfl) rfl ?_
     refine run_gt rfl rfl q11 ?_
     obtain ⟨q13, h⟩ := h
     refine run_s (ss_idxL rfl rfl q13) rfl ?_
     refine run_gt rfl rfl q11 ?_
     refine run_s (ss_loadL (f := (fun r => C.lst (ints r))) rfl q13) rfl ?_
     refine run_gt rfl rfl q11 ?_
     refine run_s (ss_move rfl) rfl ?_
     refine run_gt rfl rfl q11 ?_
     obtain ⟨q14, h⟩ := h
     refine run_s (ss_idxL rfl rfl q14) rfl ?_
     refine run_gt rfl rfl q11 ?_
     refine run_s (ss_loadL (f := ci) rfl q14) rfl ?_
     refine run_gt rfl rfl q11 ?_
     refine run_s (ss_move rfl) rfl ?_
     refine run_gt rfl rfl q11 ?_
     refine run_s (ss_neq rfl rfl) rfl ?_
     refine run_s (ss_pickF rfl q11 rfl) rfl ?_
     refine run_nil ?_
     refine aw_cond rfl (fun q15 => ?_) (fun q15 => ?_)
     ·replace h := h.1 (of_decide_eq_false (bnot_t q15))
      refine aw_seq ?_
      refine aw_gh (gh_to (n := 55) (σ' := []) (env' := []) rfl rfl trivial) ?_
      refine aw_region ?_
      refine run_s (ss_assign rfl) rfl ?_
      refine run_nil ?_
      refine aw_ret ?_
      exact retAF_mk (retv1 rfl (rv_tmp rfl)) rfl rfl ⟨_, (cle_refl _), _, h, rfl⟩
     ·replace h := h.2 (of_decide_eq_true (bnot_f q15))
      refine aw_skip ?_
      refine aw_gh (gh_to (n := 55) (σ' := []) (env' := [(1, .c (.ptr [.lst (rows s1), .lst (rows s2)])), (3, .c (ci v11_1)), (9, .c (.lst (rows s1))), (10, .c (ci (s1.length : Int))), (11, .c (ci v11_1)), (16, .c (.lst (ints (el s1 v11_1)))), (17, .c (ci ((el s1 v11_1).length : Int))), (18, .c (ci v18_2)), (42, .c (.ptr [.lst (rows s2)])), (43, .c (.lst (rows s2))), (44, .c (ci (el (el s1 v11_1) v18_2))), (45, .c (.ptr ((rows s2).drop (el (el s1 v11_1) v18_2).toNat))), (46, .c (.lst (ints (el s2 (el (el s1 v11_1) v18_2))))), (47, .c (ci (el (el s2 v11_1) v18_2))), (48, .c (.ptr ((ints (el s2 (el (el s1 v11_1) v18_2))).drop (el (el s2 v11_1) v18_2).toNat))), (49, .c (ci (el (el s2 (el (el s1 v11_1) v18_2)) (el (el s2 v11_1) v18_2)))), (50, .c (ci v18_2)), (51, .c (cb (!(decide (el (el s2 (el (el s1 v11_1) v18_2)) (el (el s2 v11_1) v18_2) = v18_2)))))]) rfl rfl ⟨rfl, rfl, rfl, rfl, rfl, rfl, rfl, rfl, rfl, rfl, rfl, rfl, rfl, rfl, rfl, rfl, rfl, rfl, trivial⟩) ?_
      refine aw_region ?_
      obtain ⟨q16, h⟩ := h
      refine run_s (ss_add rfl rfl q16) rfl ?_
      refine run_s (ss_move rfl) rfl ?_
      refine run_nil ?_
      exact ⟨v18_2 + 1, ghe_to (n := 55) rfl rfl ⟨rfl, rfl, rfl, rfl, rfl, rfl, rfl, rfl, trivial⟩, h.1, h.2⟩
   ·replace h := h.2 (of_decide_eq_false q5)
    refine aw_exit ?_
    refine aw_region ?_
    obtain ⟨q17, h⟩ := h
    refine run_s (ss_add rfl rfl q17) rfl ?_
    refine run_s (ss_move rfl) rfl ?_
    refine run_nil ?_
    exact ⟨v11_1 + 1, ghe_to (n := 55) rfl rfl ⟨rfl, rfl, rfl, rfl, trivial⟩, h.1, h.2⟩
  ·replace h := h.2 (of_decide_eq_false q2)
   refine aw_exit ?_
   refine aw_seq ?_
   refine aw_gh (gh_to (n := 55) (σ' := []) (env' := []) rfl rfl trivial) ?_
   refine aw_region ?_
   refine run_s (ss_assign rfl) rfl ?_
   refine run_nil ?_
   refine aw_ret ?_
   exact retAF_mk (retv1 rfl (rv_tmp rfl)) rfl rfl ⟨_, (cle_refl _), _, h, rfl⟩

theorem c_impl_isInvolutive (s1 : List (List Int)) (s2 : List (List Int)) (hp : pmB s1 s2 = true) : AF Try.prog 135 [.agg [.lst (rows s1), .lst (rows s2)]] (fun R_ => R_ = cb (ivB s1 s2)) :=
  (w_impl_isInvolutive s1 s2 (fun y0 => y0 = ivB s1 s2) (p_impl_isInvolutive s1 s2 hp)).mono (by rintro r ⟨_, rfl, rfl⟩; rfl)

set_option maxRecDepth 100000 in
set_option maxHeartbeats 4000000 in
theorem w_spec_l02Twice (s1 : List (List Int)) (s2 : List (List Int)) (Q : Bool → Prop) (h : wp_spec_l02Twice s1 s2 Q) : AF Try.prog 144 [.agg [.lst (rows s1), .lst (rows s2)]] (fun R_ => ∃ y0, Q y0 ∧ R_ = cb y0) := by
  refine AF.ofWQ (af_enter (n := 59) Try.func144 rfl (by rfl) rfl (Nat.le_of_ble_eq_true rfl) ?_)
  unfold wp_spec_l02Twice at h
  refine aw_seq ?_
  refine aw_gh (gh_to (n := 59) (σ' := []) (env' := [(0, .c (.agg [.lst (rows s1), .lst (rows s2)]))]) rfl rfl ⟨rfl, trivial⟩) ?_
  refine aw_region ?_
  refine run_w (ws_boxR rfl (.inl rfl) rfl ⟨rfl, ?_⟩)
  refine run_s (ss_assign rfl) rfl ?_
  refine run_nil ?_
  refine aw_seq ?_
  refine aw_seq ?_
  refine aw_region ?_
  refine run_s (ss_assign rfl) rfl ?_
  refine run_nil ?_
  refine aw_block ?_
  obtain ⟨H1, m1, q1, h⟩ := h
  refine aw_loop1 (fun (v3_1 : Int) => ⟨[], [(1, .c (.ptr [.lst (rows s1), .lst (rows s2)])), (3, .c (ci v3_1))], 59⟩) H1 m1 ⟨0, ghe_to (n := 59) rfl rfl ⟨rfl, rfl, trivial⟩, q1⟩ ?_
  rintro v3_1 q1
  replace h := h v3_1 q1
  refine aw_seq ?_
  refine aw_seq ?_
  refine aw_region ?_
  refine run_s (ss_move rfl) rfl ?_
  refine run_s (ss_field_ptr rfl) rfl ?_
  refine run_s (ss_load_ptr rfl rfl) rfl ?_
  refine run_s (ss_lenL (f := (fun r => C.lst (ints r))) rfl) rfl ?_
  refine run_s (ss_lss rfl rfl) rfl ?_
  refine run_nil ?_
  refine aw_cond rfl (fun q2 => ?_) (fun q2 => ?_)
  ·replace h := h.1 (of_decide_eq_true q2)
   refine aw_skip ?_
   refine aw_seq ?_
   refine aw_block ?_
   refine aw_seq ?_
   refine aw_region ?_
   refine run_s (ss_assign rfl) rfl ?_
   refine run_nil ?_
   refine aw_block ?_
   obtain ⟨H2, m2, q3, h⟩ := h
   refine aw_loop1 (fun (v4_2 : Int) => ⟨[], [(1, .c (.ptr [.lst (rows s1), .lst (rows s2)])), (3, .c (ci v3_1)), (4, .c (ci v4_2))], 59⟩) H2 m2 ⟨0, ghe_to (n := 59) rfl rfl ⟨rfl, rfl, rfl, trivial⟩, q3⟩ ?_
   rintro v4_2 q3
   replace h := h v4_2 q3
   refine aw_seq ?_
   refine aw_seq ?_
   refine aw_region ?_
   refine run_s (ss_move rfl) rfl ?_
   refine run_s (ss_field_ptr rfl) rfl ?_
   refine run_s (ss_load_ptr rfl rfl) rfl ?_
   refine run_s (ss_lenL (f := (fun r => C.lst (ints r))) rfl) rfl ?_
   refine run_s (ss_lss rfl rfl) rfl ?_
   refine run_nil ?_
   refine aw_cond rfl (fun q4 => ?_) (fun q4 => ?_)
   ·replace h := h.1 (of_decide_eq_true q4)
    refine aw_skip ?_
    refine aw_seq ?_
    refine aw_block ?_
    refine aw_seq ?_
    refine aw_gh (gh_to (n := 59) (σ' := []) (env' := [(1, .c (.ptr [.lst (rows s1), .lst (rows s2)])), (3, .c (ci v3_1)), (4, .c (ci v4_2))]) rfl rfl ⟨rfl, rfl, rfl, trivial⟩) ?_
    refine aw_regionD (kd := kdl [0, 1, 0, 0, 1, 0, 0, 1, 0, 1, 0, 0, 1, 0, 0, 1, 0, 0]) (ord := [0, 2, 5, 8, 10, 13, 1, 3, 4, 6, 7, 16, 9, 11, 12, 14, 15, 17]) [] mixed (by kernel_rfl) ?_
    refine rd_s rfl rfl trivial (ss_field_ptr rfl) rfl ?_
    refine rd_s rfl rfl trivial (ss_move rfl) rfl ?_
    refine rd_s rfl rfl trivial (ss_move rfl) rfl ?_
    refine rd_s rfl rfl trivial (ss_field_ptr rfl) rfl ?_
    refine rd_s rfl rfl trivial (ss_move rfl) rfl ?_
    refine rd_s rfl rfl trivial (ss_move rfl) rfl ?_
    refine rd_l rfl rfl trivial (ss_load_ptr rfl rfl) rfl ?_
    obtain ⟨q5, h⟩ := h
    refine rd_s rfl rfl trivial (ss_idxL rfl rfl q5) rfl ?_
    refine rd_l rfl rfl trivial (ss_loadL (f := (fun r => C.lst (ints r))) rfl q5) rfl ?_
    obtain ⟨q6, h⟩ := h
    refine rd_s rfl rfl trivial (ss_idxL rfl rfl q6) rfl ?_
    refine rd_l rfl rfl trivial (ss_loadL (f := ci) rfl q6) rfl ?_
    refine rd_s rfl rfl trivial (ss_assign rfl) rfl ?_
    refine rd_l rfl rfl trivial (ss_load_ptr rfl rfl) rfl ?_
    obtain ⟨q7, h⟩ := h
    refine rd_s rfl rfl trivial (ss_idxL rfl rfl q7) rfl ?_
    refine rd_l rfl rfl trivial (ss_loadL (f := (fun r => C.lst (ints r))) rfl q7) rfl ?_
    obtain ⟨q8, h⟩ := h
    refine rd_s rfl rfl trivial (ss_idxL rfl rfl q8) rfl ?_
    refine rd_l rfl rfl trivial (ss_loadL (f := ci) rfl q8) rfl ?_
    refine rd_s rfl rfl trivial (ss_assign rfl) rfl ?_
    refine rd_nil ?_
    refine aw_seq ?_
    refine aw_region ?_
    refine run_s (ss_field_ptr rfl) rfl ?_
    refine run_s (ss_load_ptr rfl rfl) rfl ?_
    refine run_s (ss_move rfl) rfl ?_
    obtain ⟨q9, h⟩ := h
    refine run_s (ss_idxL rfl rfl q9) rfl ?_
    refine run_s (ss_loadL (f := (fun r => C.lst (ints r))) rfl q9) rfl ?_
    refine run_s (ss_move rfl) rfl ?_
    obtain ⟨q10, h⟩ := h
    refine run_s (ss_idxL rfl rfl q10) rfl ?_
    refine run_s (ss_loadL (f := ci) rfl q10) rfl ?_
    refine run_s (ss_move rfl) rfl ?_
    refine run_s (ss_neq rfl rfl) rfl ?_
    refine run_s (ss_move rfl) rfl ?_
    refine run_split (s := 47) rfl (fun q11 => ?_) (fun q11 => ?_)
    ·replace h := h.1 (of_decide_eq_false (bnot_t q11))
     refine run_gf rfl rfl q11 rfl ?_
     refine run_gf rfl rfl q11 rfl ?_
     refine run_gf rfl rfl q11 rfl ?_
     refine run_gf rfl rfl q11 rfl ?_
     refine run_gf rfl rfl q11 rfl ?_
     refine run_gf rfl rfl q11 rfl ?_
     refine run_gf rfl rfl q11 rfl ?_
     refine run_gf rfl rfl q11 rfl ?_
     refine run_gf rfl rfl q11 rfl ?_
     refine run_gf rfl rfl q11 rfl ?_
     refine run_s (ss_pickT rfl q11 rfl) rfl ?_
     refine run_nil ?_
     refine aw_cond rfl (fun q12 => ?_) (fun q12 => ?_)
     ·skip
      refine aw_seq ?_
      refine aw_gh (gh_to (n := 59) (σ' := []) (env' := []) rfl rfl trivial) ?_
      refine aw_region ?_
      refine run_s (ss_assign rfl) rfl ?_
      refine run_nil ?_
      refine aw_ret ?_
      exact retAF_mk (retv1 rfl (rv_tmp rfl)) rfl rfl ⟨_, (cle_refl _), _, h, rfl⟩
     ·cases q12
    ·replace h := h.2 (of_decide_eq_true (bnot_f q11))
     refine run_gt rfl rfl q11 ?_
     refine run_s (ss_field_ptr rfl) rfl ?_
     refine run_gt rfl rfl q11 ?_
     refine run_s (ss_load_ptr rfl rfl) rfl ?_
     refine run_gt rfl rfl q11 ?_
     refine run_s (ss_move rfl) rfl ?_
     refine run_gt rfl rfl q11 ?_
     obtain ⟨q13, h⟩ := h
     refine run_s (ss_idxL rfl rfl q13) rfl ?_
     refine run_gt rfl rfl q11 ?_
     refine run_s (ss_loadL (f := (fun r => C.lst (ints r))) rfl q13) rfl ?_
     refine run_gt rfl rfl q11 ?_
     refine run_s (ss_move rfl) rfl ?_
     refine run_gt rfl rfl q11 ?_
     obtain ⟨q14, h⟩ := h
     refine run_s (ss_idxL rfl rfl q14) rfl ?_
     refine run_gt rfl rfl q11 ?_
     refine run_s (ss_loadL (f := ci) rfl q14) rfl ?_
     refine run_gt rfl rfl q11 ?_
     refine run_s (ss_move rfl) rfl ?_
     refine run_gt rfl rfl q11 ?_
     refine run_s (ss_neq rfl rfl) rfl ?_
     refine run_s (ss_pickF rfl q11 rfl) rfl ?_
     refine run_nil ?_
     refine aw_cond rfl (fun q15 => ?_) (fun q15 => ?_)
     ·replace h := h.1 (of_decide_eq_false (bnot_t q15))
      refine aw_seq ?_
      refine aw_gh (gh_to (n := 59) (σ' := []) (env' := []) rfl rfl trivial) ?_
      refine aw_region ?_
      refine run_s (ss_assign rfl) rfl ?_
      refine run_nil ?_
      refine aw_ret ?_
      exact retAF_mk (retv1 rfl (rv_tmp rfl)) rfl rfl ⟨_, (cle_refl _), _, h, rfl⟩
     ·replace h := h.2 (of_decide_eq_true (bnot_f q15))
      refine aw_skip ?_
      refine aw_gh (gh_to (n := 59) (σ' := []) (env' := [(1, .c (.ptr [.lst (rows s1), .lst (rows s2)])), (3, .c (ci v3_1)), (4, .c (ci v4_2)), (48, .c (.ptr [.lst (rows s2)])), (49, .c (.lst (rows s2))), (50, .c (ci (el (el s1 v3_1) v4_2))), (51, .c (.ptr ((rows s2).drop (el (el s1 v3_1) v4_2).toNat))), (52, .c (.lst (ints (el s2 (el (el s1 v3_1) v4_2))))), (53, .c (ci (el (el s2 v3_1) v4_2))), (54, .c (.ptr ((ints (el s2 (el (el s1 v3_1) v4_2))).drop (el (el s2 v3_1) v4_2).toNat))), (55, .c (ci (el (el s2 (el (el s1 v3_1) v4_2)) (el (el s2 v3_1) v4_2)))), (56, .c (ci v4_2)), (57, .c (cb (!(decide (el (el s2 (el (el s1 v3_1) v4_2)) (el (el s2 v3_1) v4_2) = v4_2)))))]) rfl rfl ⟨rfl, rfl, rfl, rfl, rfl, rfl, rfl, rfl, rfl, rfl, rfl, rfl, rfl, trivial⟩) ?_
      refine aw_region ?_
      refine run_s (ss_move rfl) rfl ?_
      obtain ⟨q16, h⟩ := h
      refine run_s (ss_add rfl rfl q16) rfl ?_
      refine run_s (ss_assign rfl) rfl ?_
      refine run_nil ?_
      exact ⟨v4_2 + 1, ghe_to (n := 59) rfl rfl ⟨rfl, rfl, rfl, trivial⟩, h.1, h.2⟩
   ·replace h := h.2 (of_decide_eq_false q4)
    refine aw_exit ?_
    refine aw_region ?_
    refine run_s (ss_move rfl) rfl ?_
    obtain ⟨q17, h⟩ := h
    refine run_s (ss_add rfl rfl q17) rfl ?_
    refine run_s (ss_assign rfl) rfl ?_
    refine run_nil ?_
    exact ⟨v3_1 + 1, ghe_to (n := 59) rfl rfl ⟨rfl, rfl, trivial⟩, h.1, h.2⟩
  ·replace h := h.2 (of_decide_eq_false q2)
   refine aw_exit ?_
   refine aw_seq ?_
   refine aw_gh (gh_to (n := 59) (σ' := []) (env' := []) rfl rfl trivial) ?_
   refine aw_region ?_
   refine run_s (ss_assign rfl) rfl ?_
   refine run_nil ?_
   refine aw_ret ?_
   exact retAF_mk (retv1 rfl (rv_tmp rfl)) rfl rfl ⟨_, (cle_refl _), _, h, rfl⟩

theorem c_spec_l02Twice (s1 : List (List Int)) (s2 : List (List Int)) (hp : pmB s1 s2 = true) : AF Try.prog 144 [.agg [.lst (rows s1), .lst (rows s2)]] (fun R_ => R_ = cb (ivB s1 s2)) :=
  (w_spec_l02Twice s1 s2 (fun y0 => y0 = ivB s1 s2) (p_spec_l02Twice s1 s2 hp)).mono (by rintro r ⟨_, rfl, rfl⟩; rfl)

set_option maxRecDepth 100000 in
set_option maxHeartbeats 4000000 in
theorem w_spec_CycleSetOfSolution (s1 : List (List Int)) (s2 : List (List Int)) (Q : List (List Int) → Int → Prop) (h : wp_spec_CycleSetOfSolution s1 s2 Q) : AF Try.prog 73 [.agg [.lst (rows s1), .lst (rows s2)]] (fun R_ => ∃ y0 y1, Q y0 y1 ∧ R_ = .tup [.agg [.own (orows y0)], ci y1]) := by
  refine AF.ofWQ (af_enter (n := 19) Try.func73 rfl (by rfl) rfl (Nat.le_of_ble_eq_true rfl) ?_)
  unfold wp_spec_CycleSetOfSolution at h
  refine aw_seq ?_
  refine aw_gh (gh_to (n := 19) (σ' := []) (env' := [(0, .c (.agg [.lst (rows s1), .lst (rows s2)]))]) rfl rfl ⟨rfl, trivial⟩) ?_
  refine aw_region ?_
  refine run_w (ws_boxR rfl (.inl rfl) rfl ⟨rfl, ?_⟩)
  refine run_w (ws_alloc (id := 2) rfl (Nat.le_of_ble_eq_true rfl) ⟨rfl, ?_⟩)
  refine run_s (ss_assign rfl) rfl ?_
  refine run_nil ?_
  refine aw_seq ?_
  refine aw_seq ?_
  refine aw_region ?_
  refine run_s (ss_load_struct rfl (Nat.le_of_ble_eq_true rfl)) rfl ?_
  obtain ⟨q1, h⟩ := h
  refine run_w (ws_call (xs := [.tmp 4]) (ids := []) rfl rfl rfl rfl (c_spec_l02Is s1 s2 q1) rfl ?_ )
  rintro _ rfl
  refine ⟨rfl, ?_⟩
  refine run_s (ss_not rfl) rfl ?_
  refine run_nil ?_
  refine aw_cond rfl (fun q3 => ?_) (fun q3 => ?_)
  ·replace h := h.1 ((bnot_t q3))
   refine aw_seq ?_
   refine aw_gh (gh_to (n := 19) (σ' := [(2, ⟨[cnil], []⟩)]) (env' := [(2, .cell 2 0), (3, .c (ci 0))]) rfl rfl ⟨rfl, rfl, trivial⟩) ?_
   refine aw_region ?_
   refine run_s (ss_build0) rfl ?_
   refine run_w (ws_storeS rfl rfl (Nat.le_of_ble_eq_true rfl) rfl rfl rfl ⟨rfl, ?_⟩)
   refine run_s (ss_assign rfl) rfl ?_
   refine run_nil ?_
   refine aw_ret ?_
   exact retAF_mk (retv2 rfl (rv_struct rfl rfl rfl) (rv_tmp rfl)) rfl rfl ⟨_, (cle_tup (cleL_cons (cle_agg (cleL_cons cle_nilO cleL_nil)) (cleL_cons (cle_refl _) cleL_nil))), _, _, h, rfl⟩
  ·replace h := h.2 ((bnot_f q3))
   refine aw_skip ?_
   refine aw_seq ?_
   refine aw_seq ?_
   refine aw_region ?_
   refine run_s (ss_load_struct rfl (Nat.le_of_ble_eq_true rfl)) rfl ?_
   obtain ⟨q4, h⟩ := h
   refine run_w (ws_call (xs := [.tmp 8]) (ids := []) rfl rfl rfl rfl (c_spec_l02Good s1 s2 q4) rfl ?_ )
   rintro _ rfl
   refine ⟨rfl, ?_⟩
   refine run_s (ss_not rfl) rfl ?_
   refine run_s (ss_move rfl) rfl ?_
   refine run_split (s := 11) rfl (fun q6 => ?_) (fun q6 => ?_)
   ·replace h := h.1 ((bnot_t q6))
    refine run_gf rfl rfl q6 rfl ?_
    refine run_gf rfl rfl q6 rfl ?_
    refine run_gf rfl rfl q6 rfl ?_
    refine run_s (ss_pickT rfl q6 rfl) rfl ?_
    refine run_nil ?_
    refine aw_cond rfl (fun q7 => ?_) (fun q7 => ?_)
    ·skip
     refine aw_seq ?_
     refine aw_gh (gh_to (n := 19) (σ' := [(2, ⟨[cnil], []⟩)]) (env' := [(2, .cell 2 0), (3, .c (ci 0))]) rfl rfl ⟨rfl, rfl, trivial⟩) ?_
     refine aw_region ?_
     refine run_s (ss_build0) rfl ?_
     refine run_w (ws_storeS rfl rfl (Nat.le_of_ble_eq_true rfl) rfl rfl rfl ⟨rfl, ?_⟩)
     refine run_s (ss_assign rfl) rfl ?_
     refine run_nil ?_
     refine aw_ret ?_
     exact retAF_mk (retv2 rfl (rv_struct rfl rfl rfl) (rv_tmp rfl)) rfl rfl ⟨_, (cle_tup (cleL_cons (cle_agg (cleL_cons cle_nilO cleL_nil)) (cleL_cons (cle_refl _) cleL_nil))), _, _, h, rfl⟩
    ·cases q7
   ·replace h := h.2 ((bnot_f q6))
    refine run_gt rfl rfl q6 ?_
    refine run_s (ss_load_struct rfl (Nat.le_of_ble_eq_true rfl)) rfl ?_
    refine run_gt rfl rfl q6 ?_
    obtain ⟨q8, h⟩ := h
    refine run_w (ws_call (xs := [.tmp 12]) (ids := []) rfl rfl rfl rfl (c_spec_l02Twice s1 s2 q8) rfl ?_ )
    rintro _ rfl
    refine ⟨rfl, ?_⟩
    refine run_gt rfl rfl q6 ?_
    refine run_s (ss_not rfl) rfl ?_
    refine run_s (ss_pickF rfl q6 rfl) rfl ?_
    refine run_nil ?_
    refine aw_cond rfl (fun q10 => ?_) (fun q10 => ?_)
    ·replace h := h.1 ((bnot_t q10))
     refine aw_seq ?_
     refine aw_gh (gh_to (n := 19) (σ' := [(2, ⟨[cnil], []⟩)]) (env' := [(2, .cell 2 0), (3, .c (ci 0))]) rfl rfl ⟨rfl, rfl, trivial⟩) ?_
     refine aw_region ?_
     refine run_s (ss_build0) rfl ?_
     refine run_w (ws_storeS rfl rfl (Nat.le_of_ble_eq_true rfl) rfl rfl rfl ⟨rfl, ?_⟩)
     refine run_s (ss_assign rfl) rfl ?_
     refine run_nil ?_
     refine aw_ret ?_
     exact retAF_mk (retv2 rfl (rv_struct rfl rfl rfl) (rv_tmp rfl)) rfl rfl ⟨_, (cle_tup (cleL_cons (cle_agg (cleL_cons cle_nilO cleL_nil)) (cleL_cons (cle_refl _) cleL_nil))), _, _, h, rfl⟩
    ·replace h := h.2 ((bnot_f q10))
     refine aw_skip ?_
     refine aw_seq ?_
     refine aw_gh (gh_to (n := 19) (σ' := [(2, ⟨[cnil], []⟩)]) (env' := [(1, .c (.ptr [.lst (rows s1), .lst (rows s2)])), (2, .cell 2 0), (3, .c (ci 0))]) rfl rfl ⟨rfl, rfl, rfl, trivial⟩) ?_
     refine aw_region ?_
     refine run_s (ss_load_struct rfl (Nat.le_of_ble_eq_true rfl)) rfl ?_
     obtain ⟨q11, h⟩ := h
     refine run_w (ws_call (xs := [.tmp 17]) (ids := [18]) rfl rfl rfl rfl (c_spec_l05Cycle s1 s2 q11) rfl ?_ )
     rintro _ rfl
     refine ⟨rfl, ?_⟩
     refine run_w (ws_storeS rfl rfl (Nat.le_of_ble_eq_true rfl) rfl rfl rfl ⟨rfl, ?_⟩)
     refine run_s (ss_assign rfl) rfl ?_
     refine run_nil ?_
     refine aw_ret ?_
     exact retAF_mk (retv2 rfl (rv_struct rfl rfl rfl) (rv_tmp rfl)) rfl rfl ⟨_, (cle_refl _), _, _, h, rfl⟩

theorem c_spec_CycleSetOfSolution (s1 : List (List Int)) (s2 : List (List Int)) (hp : small2 s1 ∧ small2 s2) : AF Try.prog 73 [.agg [.lst (rows s1), .lst (rows s2)]] (fun R_ => R_ = .tup [.agg [.own (orows (CsoT s1 s2))], ci (CsoE s1 s2)]) :=
  (w_spec_CycleSetOfSolution s1 s2 (fun y0 y1 => y0 = CsoT s1 s2 ∧ y1 = CsoE s1 s2) (p_spec_CycleSetOfSolution s1 s2 hp)).mono (by rintro r ⟨_, _, ⟨rfl, rfl⟩, rfl⟩; rfl)

set_option maxRecDepth 100000 in
set_option maxHeartbeats 4000000 in
theorem w_impl_CycleSetOfSolution (s1 : List (List Int)) (s2 : List (List Int)) (Q : List (List Int) → Int → Prop) (h : wp_impl_CycleSetOfSolution s1 s2 Q) : AF Try.prog 65 [.agg [.lst (rows s1), .lst (rows s2)]] (fun R_ => ∃ y0 y1, Q y0 y1 ∧ R_ = .tup [.agg [.own (orows y0)], ci y1]) := by
  refine AF.ofWQ (af_enter (n := 19) Try.func65 rfl (by rfl) rfl (Nat.le_of_ble_eq_true rfl) ?_)
  unfold wp_impl_CycleSetOfSolution at h
  refine aw_seq ?_
  refine aw_gh (gh_to (n := 19) (σ' := []) (env' := [(0, .c (.agg [.lst (rows s1), .lst (rows s2)]))]) rfl rfl ⟨rfl, trivial⟩) ?_
  refine aw_region ?_
  refine run_w (ws_boxR rfl (.inl rfl) rfl ⟨rfl, ?_⟩)
  refine run_w (ws_alloc (id := 2) rfl (Nat.le_of_ble_eq_true rfl) ⟨rfl, ?_⟩)
  refine run_s (ss_assign rfl) rfl ?_
  refine run_nil ?_
  refine aw_seq ?_
  refine aw_seq ?_
  refine aw_region ?_
  refine run_s (ss_load_struct rfl (Nat.le_of_ble_eq_true rfl)) rfl ?_
  obtain ⟨q1, h⟩ := h
  refine run_w (ws_call (xs := [.tmp 4]) (ids := []) rfl rfl rfl rfl (c_impl_IsSolution s1 s2 q1) rfl ?_ )
  rintro _ rfl
  refine ⟨rfl, ?_⟩
  refine run_s (ss_not rfl) rfl ?_
  refine run_nil ?_
  refine aw_cond rfl (fun q3 => ?_) (fun q3 => ?_)
  ·replace h := h.1 ((bnot_t q3))
   refine aw_seq ?_
   refine aw_gh (gh_to (n := 19) (σ' := [(2, ⟨[cnil], []⟩)]) (env' := [(2, .cell 2 0), (3, .c (ci 0))]) rfl rfl ⟨rfl, rfl, trivial⟩) ?_
   refine aw_region ?_
   refine run_s (ss_build0) rfl ?_
   refine run_w (ws_storeS rfl rfl (Nat.le_of_ble_eq_true rfl) rfl rfl rfl ⟨rfl, ?_⟩)
   refine run_s (ss_assign rfl) rfl ?_
   refine run_nil ?_
   refine aw_ret ?_
   exact retAF_mk (retv2 rfl (rv_struct rfl rfl rfl) (rv_tmp rfl)) rfl rfl ⟨_, (cle_tup (cleL_cons (cle_agg (cleL_cons cle_nilO cleL_nil)) (cleL_cons (cle_refl _) cleL_nil))), _, _, h, rfl⟩
  ·replace h := h.2 ((bnot_f q3))
   refine aw_skip ?_
   refine aw_seq ?_
   refine aw_seq ?_
   refine aw_region ?_
   refine run_s (ss_load_struct rfl (Nat.le_of_ble_eq_true rfl)) rfl ?_
   obtain ⟨q4, h⟩ := h
   refine run_w (ws_call (xs := [.tmp 8]) (ids := []) rfl rfl rfl rfl (c_impl_isNondegenerate s1 s2 q4) rfl ?_ )
   rintro _ rfl
   refine ⟨rfl, ?_⟩
   refine run_s (ss_not rfl) rfl ?_
   refine run_s (ss_move rfl) rfl ?_
   refine run_split (s := 11) rfl (fun q6 => ?_) (fun q6 => ?_)
   ·replace h := h.1 ((bnot_t q6))
    refine run_gf rfl rfl q6 rfl ?_
    refine run_gf rfl rfl q6 rfl ?_
    refine run_gf rfl rfl q6 rfl ?_
    refine run_s (ss_pickT rfl q6 rfl) rfl ?_
    refine run_nil ?_
    refine aw_cond rfl (fun q7 => ?_) (fun q7 => ?_)
    ·skip
     refine aw_seq ?_
     refine aw_gh (gh_to (n := 19) (σ' := [(2, ⟨[cnil], []⟩)]) (env' := [(2, .cell 2 0), (3, .c (ci 0))]) rfl rfl ⟨rfl, rfl, trivial⟩) ?_
     refine aw_region ?_
     refine run_s (ss_build0) rfl ?_
     refine run_w (ws_storeS rfl rfl (Nat.le_of_ble_eq_true rfl) rfl rfl rfl ⟨rfl, ?_⟩)
     refine run_s (ss_assign rfl) rfl ?_
     refine run_nil ?_
     refine aw_ret ?_
     exact retAF_mk (retv2 rfl (rv_struct rfl rfl rfl) (rv_tmp rfl)) rfl rfl ⟨_, (cle_tup (cleL_cons (cle_agg (cleL_cons cle_nilO cleL_nil)) (cleL_cons (cle_refl _) cleL_nil))), _, _, h, rfl⟩
    ·cases q7
   ·replace h := h.2 ((bnot_f q6))
    refine run_gt rfl rfl q6 ?_
    refine run_s (ss_load_struct rfl (Nat.le_of_ble_eq_true rfl)) rfl ?_
    refine run_gt rfl rfl q6 ?_
    obtain ⟨q8, h⟩ := h
    refine run_w (ws_call (xs := [.tmp 12]) (ids := []) rfl rfl rfl rfl (c_impl_isInvolutive s1 s2 q8) rfl ?_ )
    rintro _ rfl
    refine ⟨rfl, ?_⟩
    refine run_gt rfl rfl q6 ?_
    refine run_s (ss_not rfl) rfl ?_
    refine run_s (ss_pickF rfl q6 rfl) rfl ?_
    refine run_nil ?_
    refine aw_cond rfl (fun q10 => ?_) (fun q10 => ?_)
    ·replace h := h.1 ((bnot_t q10))
     refine aw_seq ?_
     refine aw_gh (gh_to (n := 19) (σ' := [(2, ⟨[cnil], []⟩)]) (env' := [(2, .cell 2 0), (3, .c (ci 0))]) rfl rfl ⟨rfl, rfl, trivial⟩) ?_
     refine aw_region ?_
     refine run_s (ss_build0) rfl ?_
     refine run_w (ws_storeS rfl rfl (Nat.le_of_ble_eq_true rfl) rfl rfl rfl ⟨rfl, ?_⟩)
     refine run_s (ss_assign rfl) rfl ?_
     refine run_nil ?_
     refine aw_ret ?_
     exact retAF_mk (retv2 rfl (rv_struct rfl rfl rfl) (rv_tmp rfl)) rfl rfl ⟨_, (cle_tup (cleL_cons (cle_agg (cleL_cons cle_nilO cleL_nil)) (cleL_cons (cle_refl _) cleL_nil))), _, _, h, rfl⟩
    ·replace h := h.2 ((bnot_f q10))
     refine aw_skip ?_
     refine aw_seq ?_
     refine aw_gh (gh_to (n := 19) (σ' := [(2, ⟨[cnil], []⟩)]) (env' := [(1, .c (.ptr [.lst (rows s1), .lst (rows s2)])), (2, .cell 2 0), (3, .c (ci 0))]) rfl rfl ⟨rfl, rfl, rfl, trivial⟩) ?_
     refine aw_region ?_
     refine run_s (ss_load_struct rfl (Nat.le_of_ble_eq_true rfl)) rfl ?_
     obtain ⟨q11, h⟩ := h
     refine run_w (ws_call (xs := [.tmp 17]) (ids := [18]) rfl rfl rfl rfl (c_impl_solutionCycle s1 s2 q11) rfl ?_ )
     rintro _ rfl
     refine ⟨rfl, ?_⟩
     refine run_w (ws_storeS rfl rfl (Nat.le_of_ble_eq_true rfl) rfl rfl rfl ⟨rfl, ?_⟩)
     refine run_s (ss_assign rfl) rfl ?_
     refine run_nil ?_
     refine aw_ret ?_
     exact retAF_mk (retv2 rfl (rv_struct rfl rfl rfl) (rv_tmp rfl)) rfl rfl ⟨_, (cle_refl _), _, _, h, rfl⟩

theorem c_impl_CycleSetOfSolution (s1 : List (List Int)) (s2 : List (List Int)) (hp : small2 s1 ∧ small2 s2) : AF Try.prog 65 [.agg [.lst (rows s1), .lst (rows s2)]] (fun R_ => R_ = .tup [.agg [.own (orows (CsoT s1 s2))], ci (CsoE s1 s2)]) :=
  (w_impl_CycleSetOfSolution s1 s2 (fun y0 y1 => y0 = CsoT s1 s2 ∧ y1 = CsoE s1 s2) (p_impl_CycleSetOfSolution s1 s2 hp)).mono (by rintro r ⟨_, _, ⟨rfl, rfl⟩, rfl⟩; rfl)

end Go.Proofs.Ytbodlnpmplcaoaa

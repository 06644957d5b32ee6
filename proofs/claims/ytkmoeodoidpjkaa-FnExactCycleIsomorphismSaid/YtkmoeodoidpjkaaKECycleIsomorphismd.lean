/- Contracts of functions that the law FnExactCycleIsomorphism reaches: conditions, plain proofs, walks; no condition. -/
import Derived.Test.YtkmoeodoidpjkaaKECycleIsomorphismc
import Derived.Test.YtkmoeodoidpjkaaPP
namespace Go.Proofs.Ytkmoeodoidpjkaa

def wp_spec_l03Mark (t : List (List (List Int))) (colours : List Int) (x : Int) (Q : List Int → Prop) : Prop :=
 (0 ≤ x ∧ x < (colours.length : Int)) ∧
 ∃ (H1 : Int → List Int → Prop) (m1 : Int → List Int → Nat),
 H1 0 ([el colours x]) ∧
 ∀ (v9_1 : Int) (o28_1 : List Int), H1 v9_1 o28_1 →
 ( ((v9_1 < (t.length : Int) →
 ∃ (H2 : Int → List Int → Prop) (m2 : Int → List Int → Nat),
 H2 0 ([] : List Int) ∧
 ∀ (v11_2 : Int) (o35_2 : List Int), H2 v11_2 o35_2 →
 ( ((v11_2 < (colours.length : Int) →
 (0 ≤ v9_1 ∧ v9_1 < (t.length : Int)) ∧
 (0 ≤ v9_1 ∧ v9_1 < (t.length : Int)) ∧
 (0 ≤ x ∧ x < ((el t v9_1).length : Int)) ∧
 (0 ≤ v11_2 ∧ v11_2 < ((el (el t v9_1) x).length : Int)) ∧
 (0 ≤ v11_2 ∧ v11_2 < ((el t v9_1).length : Int)) ∧
 (0 ≤ x ∧ x < ((el (el t v9_1) v11_2).length : Int)) ∧
 ((el (el (el t v9_1) x) v11_2 = v11_2 →
 ((el (el (el t v9_1) v11_2) x = v11_2 →
 (InI (1 + 2)) ∧
 ((el (el (el t v9_1) x) v11_2 = x →
 (InI ((1 + 2) + 4)) ∧
 ((el (el (el t v9_1) v11_2) x = x →
 (InI (((1 + 2) + 4) + 8)) ∧
 (0 ≤ v11_2 ∧ v11_2 < (colours.length : Int)) ∧
 (0 ≤ el (el (el t v9_1) x) v11_2 ∧ el (el (el t v9_1) x) v11_2 < (colours.length : Int)) ∧
 (0 ≤ el (el (el t v9_1) v11_2) x ∧ el (el (el t v9_1) v11_2) x < (colours.length : Int)) ∧
 (InI ((el colours v11_2) * 64)) ∧
 (InI (((el colours v11_2) * 64) + (el colours (el (el (el t v9_1) x) v11_2)))) ∧
 (InI ((((el colours v11_2) * 64) + (el colours (el (el (el t v9_1) x) v11_2))) * 64)) ∧
 (InI (((((el colours v11_2) * 64) + (el colours (el (el (el t v9_1) x) v11_2))) * 64) + (el colours (el (el (el t v9_1) v11_2) x)))) ∧
 (InI ((((((el colours v11_2) * 64) + (el colours (el (el (el t v9_1) x) v11_2))) * 64) + (el colours (el (el (el t v9_1) v11_2) x))) * 16)) ∧
 (InI (((((((el colours v11_2) * 64) + (el colours (el (el (el t v9_1) x) v11_2))) * 64) + (el colours (el (el (el t v9_1) v11_2) x))) * 16) + (((1 + 2) + 4) + 8))) ∧
 ((o35_2.length : Int) + (([((((((el colours v11_2) * 64) + (el colours (el (el (el t v9_1) x) v11_2))) * 64) + (el colours (el (el (el t v9_1) v11_2) x))) * 16) + (((1 + 2) + 4) + 8)]).length : Int) ≤ 1000000000) ∧
 (InI (v11_2 + 1)) ∧
 (H2 (v11_2 + 1) (o35_2 ++ ([((((((el colours v11_2) * 64) + (el colours (el (el (el t v9_1) x) v11_2))) * 64) + (el colours (el (el (el t v9_1) v11_2) x))) * 16) + (((1 + 2) + 4) + 8)])) ∧ m2 (v11_2 + 1) (o35_2 ++ ([((((((el colours v11_2) * 64) + (el colours (el (el (el t v9_1) x) v11_2))) * 64) + (el colours (el (el (el t v9_1) v11_2) x))) * 16) + (((1 + 2) + 4) + 8)])) < m2 v11_2 o35_2)) ∧
 (¬ (el (el (el t v9_1) v11_2) x = x) →
 (0 ≤ v11_2 ∧ v11_2 < (colours.length : Int)) ∧
 (0 ≤ el (el (el t v9_1) x) v11_2 ∧ el (el (el t v9_1) x) v11_2 < (colours.length : Int)) ∧
 (0 ≤ el (el (el t v9_1) v11_2) x ∧ el (el (el t v9_1) v11_2) x < (colours.length : Int)) ∧
 (InI ((el colours v11_2) * 64)) ∧
 (InI (((el colours v11_2) * 64) + (el colours (el (el (el t v9_1) x) v11_2)))) ∧
 (InI ((((el colours v11_2) * 64) + (el colours (el (el (el t v9_1) x) v11_2))) * 64)) ∧
 (InI (((((el colours v11_2) * 64) + (el colours (el (el (el t v9_1) x) v11_2))) * 64) + (el colours (el (el (el t v9_1) v11_2) x)))) ∧
 (InI ((((((el colours v11_2) * 64) + (el colours (el (el (el t v9_1) x) v11_2))) * 64) + (el colours (el (el (el t v9_1) v11_2) x))) * 16)) ∧
 (InI (((((((el colours v11_2) * 64) + (el colours (el (el (el t v9_1) x) v11_2))) * 64) + (el colours (el (el (el t v9_1) v11_2) x))) * 16) + ((1 + 2) + 4))) ∧
 ((o35_2.length : Int) + (([((((((el colours v11_2) * 64) + (el colours (el (el (el t v9_1) x) v11_2))) * 64) + (el colours (el (el (el t v9_1) v11_2) x))) * 16) + ((1 + 2) + 4)]).length : Int) ≤ 1000000000) ∧
 (InI (v11_2 + 1)) ∧
 (H2 (v11_2 + 1) (o35_2 ++ ([((((((el colours v11_2) * 64) + (el colours (el (el (el t v9_1) x) v11_2))) * 64) + (el colours (el (el (el t v9_1) v11_2) x))) * 16) + ((1 + 2) + 4)])) ∧ m2 (v11_2 + 1) (o35_2 ++ ([((((((el colours v11_2) * 64) + (el colours (el (el (el t v9_1) x) v11_2))) * 64) + (el colours (el (el (el t v9_1) v11_2) x))) * 16) + ((1 + 2) + 4)])) < m2 v11_2 o35_2)))) ∧
 (¬ (el (el (el t v9_1) x) v11_2 = x) →
 ((el (el (el t v9_1) v11_2) x = x →
 (InI ((1 + 2) + 8)) ∧
 (0 ≤ v11_2 ∧ v11_2 < (colours.length : Int)) ∧
 (0 ≤ el (el (el t v9_1) x) v11_2 ∧ el (el (el t v9_1) x) v11_2 < (colours.length : Int)) ∧
 (0 ≤ el (el (el t v9_1) v11_2) x ∧ el (el (el t v9_1) v11_2) x < (colours.length : Int)) ∧
 (InI ((el colours v11_2) * 64)) ∧
 (InI (((el colours v11_2) * 64) + (el colours (el (el (el t v9_1) x) v11_2)))) ∧
 (InI ((((el colours v11_2) * 64) + (el colours (el (el (el t v9_1) x) v11_2))) * 64)) ∧
 (InI (((((el colours v11_2) * 64) + (el colours (el (el (el t v9_1) x) v11_2))) * 64) + (el colours (el (el (el t v9_1) v11_2) x)))) ∧
 (InI ((((((el colours v11_2) * 64) + (el colours (el (el (el t v9_1) x) v11_2))) * 64) + (el colours (el (el (el t v9_1) v11_2) x))) * 16)) ∧
 (InI (((((((el colours v11_2) * 64) + (el colours (el (el (el t v9_1) x) v11_2))) * 64) + (el colours (el (el (el t v9_1) v11_2) x))) * 16) + ((1 + 2) + 8))) ∧
 ((o35_2.length : Int) + (([((((((el colours v11_2) * 64) + (el colours (el (el (el t v9_1) x) v11_2))) * 64) + (el colours (el (el (el t v9_1) v11_2) x))) * 16) + ((1 + 2) + 8)]).length : Int) ≤ 1000000000) ∧
 (InI (v11_2 + 1)) ∧
 (H2 (v11_2 + 1) (o35_2 ++ ([((((((el colours v11_2) * 64) + (el colours (el (el (el t v9_1) x) v11_2))) * 64) + (el colours (el (el (el t v9_1) v11_2) x))) * 16) + ((1 + 2) + 8)])) ∧ m2 (v11_2 + 1) (o35_2 ++ ([((((((el colours v11_2) * 64) + (el colours (el (el (el t v9_1) x) v11_2))) * 64) + (el colours (el (el (el t v9_1) v11_2) x))) * 16) + ((1 + 2) + 8)])) < m2 v11_2 o35_2)) ∧
 (¬ (el (el (el t v9_1) v11_2) x = x) →
 (0 ≤ v11_2 ∧ v11_2 < (colours.length : Int)) ∧
 (0 ≤ el (el (el t v9_1) x) v11_2 ∧ el (el (el t v9_1) x) v11_2 < (colours.length : Int)) ∧
 (0 ≤ el (el (el t v9_1) v11_2) x ∧ el (el (el t v9_1) v11_2) x < (colours.length : Int)) ∧
 (InI ((el colours v11_2) * 64)) ∧
 (InI (((el colours v11_2) * 64) + (el colours (el (el (el t v9_1) x) v11_2)))) ∧
 (InI ((((el colours v11_2) * 64) + (el colours (el (el (el t v9_1) x) v11_2))) * 64)) ∧
 (InI (((((el colours v11_2) * 64) + (el colours (el (el (el t v9_1) x) v11_2))) * 64) + (el colours (el (el (el t v9_1) v11_2) x)))) ∧
 (InI ((((((el colours v11_2) * 64) + (el colours (el (el (el t v9_1) x) v11_2))) * 64) + (el colours (el (el (el t v9_1) v11_2) x))) * 16)) ∧
 (InI (((((((el colours v11_2) * 64) + (el colours (el (el (el t v9_1) x) v11_2))) * 64) + (el colours (el (el (el t v9_1) v11_2) x))) * 16) + (1 + 2))) ∧
 ((o35_2.length : Int) + (([((((((el colours v11_2) * 64) + (el colours (el (el (el t v9_1) x) v11_2))) * 64) + (el colours (el (el (el t v9_1) v11_2) x))) * 16) + (1 + 2)]).length : Int) ≤ 1000000000) ∧
 (InI (v11_2 + 1)) ∧
 (H2 (v11_2 + 1) (o35_2 ++ ([((((((el colours v11_2) * 64) + (el colours (el (el (el t v9_1) x) v11_2))) * 64) + (el colours (el (el (el t v9_1) v11_2) x))) * 16) + (1 + 2)])) ∧ m2 (v11_2 + 1) (o35_2 ++ ([((((((el colours v11_2) * 64) + (el colours (el (el (el t v9_1) x) v11_2))) * 64) + (el colours (el (el (el t v9_1) v11_2) x))) * 16) + (1 + 2)])) < m2 v11_2 o35_2)))))) ∧
 (¬ (el (el (el t v9_1) v11_2) x = v11_2) →
 ((el (el (el t v9_1) x) v11_2 = x →
 (InI (1 + 4)) ∧
 ((el (el (el t v9_1) v11_2) x = x →
 (InI ((1 + 4) + 8)) ∧
 (0 ≤ v11_2 ∧ v11_2 < (colours.length : Int)) ∧
 (0 ≤ el (el (el t v9_1) x) v11_2 ∧ el (el (el t v9_1) x) v11_2 < (colours.length : Int)) ∧
 (0 ≤ el (el (el t v9_1) v11_2) x ∧ el (el (el t v9_1) v11_2) x < (colours.length : Int)) ∧
 (InI ((el colours v11_2) * 64)) ∧
 (InI (((el colours v11_2) * 64) + (el colours (el (el (el t v9_1) x) v11_2)))) ∧
 (InI ((((el colours v11_2) * 64) + (el colours (el (el (el t v9_1) x) v11_2))) * 64)) ∧
 (InI (((((el colours v11_2) * 64) + (el colours (el (el (el t v9_1) x) v11_2))) * 64) + (el colours (el (el (el t v9_1) v11_2) x)))) ∧
 (InI ((((((el colours v11_2) * 64) + (el colours (el (el (el t v9_1) x) v11_2))) * 64) + (el colours (el (el (el t v9_1) v11_2) x))) * 16)) ∧
 (InI (((((((el colours v11_2) * 64) + (el colours (el (el (el t v9_1) x) v11_2))) * 64) + (el colours (el (el (el t v9_1) v11_2) x))) * 16) + ((1 + 4) + 8))) ∧
 ((o35_2.length : Int) + (([((((((el colours v11_2) * 64) + (el colours (el (el (el t v9_1) x) v11_2))) * 64) + (el colours (el (el (el t v9_1) v11_2) x))) * 16) + ((1 + 4) + 8)]).length : Int) ≤ 1000000000) ∧
 (InI (v11_2 + 1)) ∧
 (H2 (v11_2 + 1) (o35_2 ++ ([((((((el colours v11_2) * 64) + (el colours (el (el (el t v9_1) x) v11_2))) * 64) + (el colours (el (el (el t v9_1) v11_2) x))) * 16) + ((1 + 4) + 8)])) ∧ m2 (v11_2 + 1) (o35_2 ++ ([((((((el colours v11_2) * 64) + (el colours (el (el (el t v9_1) x) v11_2))) * 64) + (el colours (el (el (el t v9_1) v11_2) x))) * 16) + ((1 + 4) + 8)])) < m2 v11_2 o35_2)) ∧
 (¬ (el (el (el t v9_1) v11_2) x = x) →
 (0 ≤ v11_2 ∧ v11_2 < (colours.length : Int)) ∧
 (0 ≤ el (el (el t v9_1) x) v11_2 ∧ el (el (el t v9_1) x) v11_2 < (colours.length : Int)) ∧
 (0 ≤ el (el (el t v9_1) v11_2) x ∧ el (el (el t v9_1) v11_2) x < (colours.length : Int)) ∧
 (InI ((el colours v11_2) * 64)) ∧
 (InI (((el colours v11_2) * 64) + (el colours (el (el (el t v9_1) x) v11_2)))) ∧
 (InI ((((el colours v11_2) * 64) + (el colours (el (el (el t v9_1) x) v11_2))) * 64)) ∧
 (InI (((((el colours v11_2) * 64) + (el colours (el (el (el t v9_1) x) v11_2))) * 64) + (el colours (el (el (el t v9_1) v11_2) x)))) ∧
 (InI ((((((el colours v11_2) * 64) + (el colours (el (el (el t v9_1) x) v11_2))) * 64) + (el colours (el (el (el t v9_1) v11_2) x))) * 16)) ∧
 (InI (((((((el colours v11_2) * 64) + (el colours (el (el (el t v9_1) x) v11_2))) * 64) + (el colours (el (el (el t v9_1) v11_2) x))) * 16) + (1 + 4))) ∧
 ((o35_2.length : Int) + (([((((((el colours v11_2) * 64) + (el colours (el (el (el t v9_1) x) v11_2))) * 64) + (el colours (el (el (el t v9_1) v11_2) x))) * 16) + (1 + 4)]).length : Int) ≤ 1000000000) ∧
 (InI (v11_2 + 1)) ∧
 (H2 (v11_2 + 1) (o35_2 ++ ([((((((el colours v11_2) * 64) + (el colours (el (el (el t v9_1) x) v11_2))) * 64) + (el colours (el (el (el t v9_1) v11_2) x))) * 16) + (1 + 4)])) ∧ m2 (v11_2 + 1) (o35_2 ++ ([((((((el colours v11_2) * 64) + (el colours (el (el (el t v9_1) x) v11_2))) * 64) + (el colours (el (el (el t v9_1) v11_2) x))) * 16) + (1 + 4)])) < m2 v11_2 o35_2)))) ∧
 (¬ (el (el (el t v9_1) x) v11_2 = x) →
 ((el (el (el t v9_1) v11_2) x = x →
 (InI (1 + 8)) ∧
 (0 ≤ v11_2 ∧ v11_2 < (colours.length : Int)) ∧
 (0 ≤ el (el (el t v9_1) x) v11_2 ∧ el (el (el t v9_1) x) v11_2 < (colours.length : Int)) ∧
 (0 ≤ el (el (el t v9_1) v11_2) x ∧ el (el (el t v9_1) v11_2) x < (colours.length : Int)) ∧
 (InI ((el colours v11_2) * 64)) ∧
 (InI (((el colours v11_2) * 64) + (el colours (el (el (el t v9_1) x) v11_2)))) ∧
 (InI ((((el colours v11_2) * 64) + (el colours (el (el (el t v9_1) x) v11_2))) * 64)) ∧
 (InI (((((el colours v11_2) * 64) + (el colours (el (el (el t v9_1) x) v11_2))) * 64) + (el colours (el (el (el t v9_1) v11_2) x)))) ∧
 (InI ((((((el colours v11_2) * 64) + (el colours (el (el (el t v9_1) x) v11_2))) * 64) + (el colours (el (el (el t v9_1) v11_2) x))) * 16)) ∧
 (InI (((((((el colours v11_2) * 64) + (el colours (el (el (el t v9_1) x) v11_2))) * 64) + (el colours (el (el (el t v9_1) v11_2) x))) * 16) + (1 + 8))) ∧
 ((o35_2.length : Int) + (([((((((el colours v11_2) * 64) + (el colours (el (el (el t v9_1) x) v11_2))) * 64) + (el colours (el (el (el t v9_1) v11_2) x))) * 16) + (1 + 8)]).length : Int) ≤ 1000000000) ∧
 (InI (v11_2 + 1)) ∧
 (H2 (v11_2 + 1) (o35_2 ++ ([((((((el colours v11_2) * 64) + (el colours (el (el (el t v9_1) x) v11_2))) * 64) + (el colours (el (el (el t v9_1) v11_2) x))) * 16) + (1 + 8)])) ∧ m2 (v11_2 + 1) (o35_2 ++ ([((((((el colours v11_2) * 64) + (el colours (el (el (el t v9_1) x) v11_2))) * 64) + (el colours (el (el (el t v9_1) v11_2) x))) * 16) + (1 + 8)])) < m2 v11_2 o35_2)) ∧
 (¬ (el (el (el t v9_1) v11_2) x = x) →
 (0 ≤ v11_2 ∧ v11_2 < (colours.length : Int)) ∧
 (0 ≤ el (el (el t v9_1) x) v11_2 ∧ el (el (el t v9_1) x) v11_2 < (colours.length : Int)) ∧
 (0 ≤ el (el (el t v9_1) v11_2) x ∧ el (el (el t v9_1) v11_2) x < (colours.length : Int)) ∧
 (InI ((el colours v11_2) * 64)) ∧
 (InI (((el colours v11_2) * 64) + (el colours (el (el (el t v9_1) x) v11_2)))) ∧
 (InI ((((el colours v11_2) * 64) + (el colours (el (el (el t v9_1) x) v11_2))) * 64)) ∧
 (InI (((((el colours v11_2) * 64) + (el colours (el (el (el t v9_1) x) v11_2))) * 64) + (el colours (el (el (el t v9_1) v11_2) x)))) ∧
 (InI ((((((el colours v11_2) * 64) + (el colours (el (el (el t v9_1) x) v11_2))) * 64) + (el colours (el (el (el t v9_1) v11_2) x))) * 16)) ∧
 (InI (((((((el colours v11_2) * 64) + (el colours (el (el (el t v9_1) x) v11_2))) * 64) + (el colours (el (el (el t v9_1) v11_2) x))) * 16) + 1)) ∧
 ((o35_2.length : Int) + (([((((((el colours v11_2) * 64) + (el colours (el (el (el t v9_1) x) v11_2))) * 64) + (el colours (el (el (el t v9_1) v11_2) x))) * 16) + 1]).length : Int) ≤ 1000000000) ∧
 (InI (v11_2 + 1)) ∧
 (H2 (v11_2 + 1) (o35_2 ++ ([((((((el colours v11_2) * 64) + (el colours (el (el (el t v9_1) x) v11_2))) * 64) + (el colours (el (el (el t v9_1) v11_2) x))) * 16) + 1])) ∧ m2 (v11_2 + 1) (o35_2 ++ ([((((((el colours v11_2) * 64) + (el colours (el (el (el t v9_1) x) v11_2))) * 64) + (el colours (el (el (el t v9_1) v11_2) x))) * 16) + 1])) < m2 v11_2 o35_2)))))))) ∧
 (¬ (el (el (el t v9_1) x) v11_2 = v11_2) →
 ((el (el (el t v9_1) v11_2) x = v11_2 →
 (InI (0 + 2)) ∧
 ((el (el (el t v9_1) x) v11_2 = x →
 (InI ((0 + 2) + 4)) ∧
 ((el (el (el t v9_1) v11_2) x = x →
 (InI (((0 + 2) + 4) + 8)) ∧
 (0 ≤ v11_2 ∧ v11_2 < (colours.length : Int)) ∧
 (0 ≤ el (el (el t v9_1) x) v11_2 ∧ el (el (el t v9_1) x) v11_2 < (colours.length : Int)) ∧
 (0 ≤ el (el (el t v9_1) v11_2) x ∧ el (el (el t v9_1) v11_2) x < (colours.length : Int)) ∧
 (InI ((el colours v11_2) * 64)) ∧
 (InI (((el colours v11_2) * 64) + (el colours (el (el (el t v9_1) x) v11_2)))) ∧
 (InI ((((el colours v11_2) * 64) + (el colours (el (el (el t v9_1) x) v11_2))) * 64)) ∧
 (InI (((((el colours v11_2) * 64) + (el colours (el (el (el t v9_1) x) v11_2))) * 64) + (el colours (el (el (el t v9_1) v11_2) x)))) ∧
 (InI ((((((el colours v11_2) * 64) + (el colours (el (el (el t v9_1) x) v11_2))) * 64) + (el colours (el (el (el t v9_1) v11_2) x))) * 16)) ∧
 (InI (((((((el colours v11_2) * 64) + (el colours (el (el (el t v9_1) x) v11_2))) * 64) + (el colours (el (el (el t v9_1) v11_2) x))) * 16) + (((0 + 2) + 4) + 8))) ∧
 ((o35_2.length : Int) + (([((((((el colours v11_2) * 64) + (el colours (el (el (el t v9_1) x) v11_2))) * 64) + (el colours (el (el (el t v9_1) v11_2) x))) * 16) + (((0 + 2) + 4) + 8)]).length : Int) ≤ 1000000000) ∧
 (InI (v11_2 + 1)) ∧
 (H2 (v11_2 + 1) (o35_2 ++ ([((((((el colours v11_2) * 64) + (el colours (el (el (el t v9_1) x) v11_2))) * 64) + (el colours (el (el (el t v9_1) v11_2) x))) * 16) + (((0 + 2) + 4) + 8)])) ∧ m2 (v11_2 + 1) (o35_2 ++ ([((((((el colours v11_2) * 64) + (el colours (el (el (el t v9_1) x) v11_2))) * 64) + (el colours (el (el (el t v9_1) v11_2) x))) * 16) + (((0 + 2) + 4) + 8)])) < m2 v11_2 o35_2)) ∧
 (¬ (el (el (el t v9_1) v11_2) x = x) →
 (0 ≤ v11_2 ∧ v11_2 < (colours.length : Int)) ∧
 (0 ≤ el (el (el t v9_1) x) v11_2 ∧ el (el (el t v9_1) x) v11_2 < (colours.length : Int)) ∧
 (0 ≤ el (el (el t v9_1) v11_2) x ∧ el (el (el t v9_1) v11_2) x < (colours.length : Int)) ∧
 (InI ((el colours v11_2) * 64)) ∧
 (InI (((el colours v11_2) * 64) + (el colours (el (el (el t v9_1) x) v11_2)))) ∧
 (InI ((((el colours v11_2) * 64) + (el colours (el (el (el t v9_1) x) v11_2))) * 64)) ∧
 (InI (((((el colours v11_2) * 64) + (el colours (el (el (el t v9_1) x) v11_2))) * 64) + (el colours (el (el (el t v9_1) v11_2) x)))) ∧
 (InI ((((((el colours v11_2) * 64) + (el colours (el (el (el t v9_1) x) v11_2))) * 64) + (el colours (el (el (el t v9_1) v11_2) x))) * 16)) ∧
 (InI (((((((el colours v11_2) * 64) + (el colours (el (el (el t v9_1) x) v11_2))) * 64) + (el colours (el (el (el t v9_1) v11_2) x))) * 16) + ((0 + 2) + 4))) ∧
 ((o35_2.length : Int) + (([((((((el colours v11_2) * 64) + (el colours (el (el (el t v9_1) x) v11_2))) * 64) + (el colours (el (el (el t v9_1) v11_2) x))) * 16) + ((0 + 2) + 4)]).length : Int) ≤ 1000000000) ∧
 (InI (v11_2 + 1)) ∧
 (H2 (v11_2 + 1) (o35_2 ++ ([((((((el colours v11_2) * 64) + (el colours (el (el (el t v9_1) x) v11_2))) * 64) + (el colours (el (el (el t v9_1) v11_2) x))) * 16) + ((0 + 2) + 4)])) ∧ m2 (v11_2 + 1) (o35_2 ++ ([((((((el colours v11_2) * 64) + (el colours (el (el (el t v9_1) x) v11_2))) * 64) + (el colours (el (el (el t v9_1) v11_2) x))) * 16) + ((0 + 2) + 4)])) < m2 v11_2 o35_2)))) ∧
 (¬ (el (el (el t v9_1) x) v11_2 = x) →
 ((el (el (el t v9_1) v11_2) x = x →
 (InI ((0 + 2) + 8)) ∧
 (0 ≤ v11_2 ∧ v11_2 < (colours.length : Int)) ∧
 (0 ≤ el (el (el t v9_1) x) v11_2 ∧ el (el (el t v9_1) x) v11_2 < (colours.length : Int)) ∧
 (0 ≤ el (el (el t v9_1) v11_2) x ∧ el (el (el t v9_1) v11_2) x < (colours.length : Int)) ∧
 (InI ((el colours v11_2) * 64)) ∧
 (InI (((el colours v11_2) * 64) + (el colours (el (el (el t v9_1) x) v11_2)))) ∧
 (InI ((((el colours v11_2) * 64) + (el colours (el (el (el t v9_1) x) v11_2))) * 64)) ∧
 (InI (((((el colours v11_2) * 64) + (el colours (el (el (el t v9_1) x) v11_2))) * 64) + (el colours (el (el (el t v9_1) v11_2) x)))) ∧
 (InI ((((((el colours v11_2) * 64) + (el colours (el (el (el t v9_1) x) v11_2))) * 64) + (el colours (el (el (el t v9_1) v11_2) x))) * 16)) ∧
 (InI (((((((el colours v11_2) * 64) + (el colours (el (el (el t v9_1) x) v11_2))) * 64) + (el colours (el (el (el t v9_1) v11_2) x))) * 16) + ((0 + 2) + 8))) ∧
 ((o35_2.length : Int) + (([((((((el colours v11_2) * 64) + (el colours (el (el (el t v9_1) x) v11_2))) * 64) + (el colours (el (el (el t v9_1) v11_2) x))) * 16) + ((0 + 2) + 8)]).length : Int) ≤ 1000000000) ∧
 (InI (v11_2 + 1)) ∧
 (H2 (v11_2 + 1) (o35_2 ++ ([((((((el colours v11_2) * 64) + (el colours (el (el (el t v9_1) x) v11_2))) * 64) + (el colours (el (el (el t v9_1) v11_2) x))) * 16) + ((0 + 2) + 8)])) ∧ m2 (v11_2 + 1) (o35_2 ++ ([((((((el colours v11_2) * 64) + (el colours (el (el (el t v9_1) x) v11_2))) * 64) + (el colours (el (el (el t v9_1) v11_2) x))) * 16) + ((0 + 2) + 8)])) < m2 v11_2 o35_2)) ∧
 (¬ (el (el (el t v9_1) v11_2) x = x) →
 (0 ≤ v11_2 ∧ v11_2 < (colours.length : Int)) ∧
 (0 ≤ el (el (el t v9_1) x) v11_2 ∧ el (el (el t v9_1) x) v11_2 < (colours.length : Int)) ∧
 (0 ≤ el (el (el t v9_1) v11_2) x ∧ el (el (el t v9_1) v11_2) x < (colours.length : Int)) ∧
 (InI ((el colours v11_2) * 64)) ∧
 (InI (((el colours v11_2) * 64) + (el colours (el (el (el t v9_1) x) v11_2)))) ∧
 (InI ((((el colours v11_2) * 64) + (el colours (el (el (el t v9_1) x) v11_2))) * 64)) ∧
 (InI (((((el colours v11_2) * 64) + (el colours (el (el (el t v9_1) x) v11_2))) * 64) + (el colours (el (el (el t v9_1) v11_2) x)))) ∧
 (InI ((((((el colours v11_2) * 64) + (el colours (el (el (el t v9_1) x) v11_2))) * 64) + (el colours (el (el (el t v9_1) v11_2) x))) * 16)) ∧
 (InI (((((((el colours v11_2) * 64) + (el colours (el (el (el t v9_1) x) v11_2))) * 64) + (el colours (el (el (el t v9_1) v11_2) x))) * 16) + (0 + 2))) ∧
 ((o35_2.length : Int) + (([((((((el colours v11_2) * 64) + (el colours (el (el (el t v9_1) x) v11_2))) * 64) + (el colours (el (el (el t v9_1) v11_2) x))) * 16) + (0 + 2)]).length : Int) ≤ 1000000000) ∧
 (InI (v11_2 + 1)) ∧
 (H2 (v11_2 + 1) (o35_2 ++ ([((((((el colours v11_2) * 64) + (el colours (el (el (el t v9_1) x) v11_2))) * 64) + (el colours (el (el (el t v9_1) v11_2) x))) * 16) + (0 + 2)])) ∧ m2 (v11_2 + 1) (o35_2 ++ ([((((((el colours v11_2) * 64) + (el colours (el (el (el t v9_1) x) v11_2))) * 64) + (el colours (el (el (el t v9_1) v11_2) x))) * 16) + (0 + 2)])) < m2 v11_2 o35_2)))))) ∧
 (¬ (el (el (el t v9_1) v11_2) x = v11_2) →
 ((el (el (el t v9_1) x) v11_2 = x →
 (InI (0 + 4)) ∧
 ((el (el (el t v9_1) v11_2) x = x →
 (InI ((0 + 4) + 8)) ∧
 (0 ≤ v11_2 ∧ v11_2 < (colours.length : Int)) ∧
 (0 ≤ el (el (el t v9_1) x) v11_2 ∧ el (el (el t v9_1) x) v11_2 < (colours.length : Int)) ∧
 (0 ≤ el (el (el t v9_1) v11_2) x ∧ el (el (el t v9_1) v11_2) x < (colours.length : Int)) ∧
 (InI ((el colours v11_2) * 64)) ∧
 (InI (((el colours v11_2) * 64) + (el colours (el (el (el t v9_1) x) v11_2)))) ∧
 (InI ((((el colours v11_2) * 64) + (el colours (el (el (el t v9_1) x) v11_2))) * 64)) ∧
 (InI (((((el colours v11_2) * 64) + (el colours (el (el (el t v9_1) x) v11_2))) * 64) + (el colours (el (el (el t v9_1) v11_2) x)))) ∧
 (InI ((((((el colours v11_2) * 64) + (el colours (el (el (el t v9_1) x) v11_2))) * 64) + (el colours (el (el (el t v9_1) v11_2) x))) * 16)) ∧
 (InI (((((((el colours v11_2) * 64) + (el colours (el (el (el t v9_1) x) v11_2))) * 64) + (el colours (el (el (el t v9_1) v11_2) x))) * 16) + ((0 + 4) + 8))) ∧
 ((o35_2.length : Int) + (([((((((el colours v11_2) * 64) + (el colours (el (el (el t v9_1) x) v11_2))) * 64) + (el colours (el (el (el t v9_1) v11_2) x))) * 16) + ((0 + 4) + 8)]).length : Int) ≤ 1000000000) ∧
 (InI (v11_2 + 1)) ∧
 (H2 (v11_2 + 1) (o35_2 ++ ([((((((el colours v11_2) * 64) + (el colours (el (el (el t v9_1) x) v11_2))) * 64) + (el colours (el (el (el t v9_1) v11_2) x))) * 16) + ((0 + 4) + 8)])) ∧ m2 (v11_2 + 1) (o35_2 ++ ([((((((el colours v11_2) * 64) + (el colours (el (el (el t v9_1) x) v11_2))) * 64) + (el colours (el (el (el t v9_1) v11_2) x))) * 16) + ((0 + 4) + 8)])) < m2 v11_2 o35_2)) ∧
 (¬ (el (el (el t v9_1) v11_2) x = x) →
 (0 ≤ v11_2 ∧ v11_2 < (colours.length : Int)) ∧
 (0 ≤ el (el (el t v9_1) x) v11_2 ∧ el (el (el t v9_1) x) v11_2 < (colours.length : Int)) ∧
 (0 ≤ el (el (el t v9_1) v11_2) x ∧ el (el (el t v9_1) v11_2) x < (colours.length : Int)) ∧
 (InI ((el colours v11_2) * 64)) ∧
 (InI (((el colours v11_2) * 64) + (el colours (el (el (el t v9_1) x) v11_2)))) ∧
 (InI ((((el colours v11_2) * 64) + (el colours (el (el (el t v9_1) x) v11_2))) * 64)) ∧
 (InI (((((el colours v11_2) * 64) + (el colours (el (el (el t v9_1) x) v11_2))) * 64) + (el colours (el (el (el t v9_1) v11_2) x)))) ∧
 (InI ((((((el colours v11_2) * 64) + (el colours (el (el (el t v9_1) x) v11_2))) * 64) + (el colours (el (el (el t v9_1) v11_2) x))) * 16)) ∧
 (InI (((((((el colours v11_2) * 64) + (el colours (el (el (el t v9_1) x) v11_2))) * 64) + (el colours (el (el (el t v9_1) v11_2) x))) * 16) + (0 + 4))) ∧
 ((o35_2.length : Int) + (([((((((el colours v11_2) * 64) + (el colours (el (el (el t v9_1) x) v11_2))) * 64) + (el colours (el (el (el t v9_1) v11_2) x))) * 16) + (0 + 4)]).length : Int) ≤ 1000000000) ∧
 (InI (v11_2 + 1)) ∧
 (H2 (v11_2 + 1) (o35_2 ++ ([((((((el colours v11_2) * 64) + (el colours (el (el (el t v9_1) x) v11_2))) * 64) + (el colours (el (el (el t v9_1) v11_2) x))) * 16) + (0 + 4)])) ∧ m2 (v11_2 + 1) (o35_2 ++ ([((((((el colours v11_2) * 64) + (el colours (el (el (el t v9_1) x) v11_2))) * 64) + (el colours (el (el (el t v9_1) v11_2) x))) * 16) + (0 + 4)])) < m2 v11_2 o35_2)))) ∧
 (¬ (el (el (el t v9_1) x) v11_2 = x) →
 ((el (el (el t v9_1) v11_2) x = x →
 (InI (0 + 8)) ∧
 (0 ≤ v11_2 ∧ v11_2 < (colours.length : Int)) ∧
 (0 ≤ el (el (el t v9_1) x) v11_2 ∧ el (el (el t v9_1) x) v11_2 < (colours.length : Int)) ∧
 (0 ≤ el (el (el t v9_1) v11_2) x ∧ el (el (el t v9_1) v11_2) x < (colours.length : Int)) ∧
 (InI ((el colours v11_2) * 64)) ∧
 (InI (((el colours v11_2) * 64) + (el colours (el (el (el t v9_1) x) v11_2)))) ∧
 (InI ((((el colours v11_2) * 64) + (el colours (el (el (el t v9_1) x) v11_2))) * 64)) ∧
 (InI (((((el colours v11_2) * 64) + (el colours (el (el (el t v9_1) x) v11_2))) * 64) + (el colours (el (el (el t v9_1) v11_2) x)))) ∧
 (InI ((((((el colours v11_2) * 64) + (el colours (el (el (el t v9_1) x) v11_2))) * 64) + (el colours (el (el (el t v9_1) v11_2) x))) * 16)) ∧
 (InI (((((((el colours v11_2) * 64) + (el colours (el (el (el t v9_1) x) v11_2))) * 64) + (el colours (el (el (el t v9_1) v11_2) x))) * 16) + (0 + 8))) ∧
 ((o35_2.length : Int) + (([((((((el colours v11_2) * 64) + (el colours (el (el (el t v9_1) x) v11_2))) * 64) + (el colours (el (el (el t v9_1) v11_2) x))) * 16) + (0 + 8)]).length : Int) ≤ 1000000000) ∧
 (InI (v11_2 + 1)) ∧
 (H2 (v11_2 + 1) (o35_2 ++ ([((((((el colours v11_2) * 64) + (el colours (el (el (el t v9_1) x) v11_2))) * 64) + (el colours (el (el (el t v9_1) v11_2) x))) * 16) + (0 + 8)])) ∧ m2 (v11_2 + 1) (o35_2 ++ ([((((((el colours v11_2) * 64) + (el colours (el (el (el t v9_1) x) v11_2))) * 64) + (el colours (el (el (el t v9_1) v11_2) x))) * 16) + (0 + 8)])) < m2 v11_2 o35_2)) ∧
 (¬ (el (el (el t v9_1) v11_2) x = x) →
 (0 ≤ v11_2 ∧ v11_2 < (colours.length : Int)) ∧
 (0 ≤ el (el (el t v9_1) x) v11_2 ∧ el (el (el t v9_1) x) v11_2 < (colours.length : Int)) ∧
 (0 ≤ el (el (el t v9_1) v11_2) x ∧ el (el (el t v9_1) v11_2) x < (colours.length : Int)) ∧
 (InI ((el colours v11_2) * 64)) ∧
 (InI (((el colours v11_2) * 64) + (el colours (el (el (el t v9_1) x) v11_2)))) ∧
 (InI ((((el colours v11_2) * 64) + (el colours (el (el (el t v9_1) x) v11_2))) * 64)) ∧
 (InI (((((el colours v11_2) * 64) + (el colours (el (el (el t v9_1) x) v11_2))) * 64) + (el colours (el (el (el t v9_1) v11_2) x)))) ∧
 (InI ((((((el colours v11_2) * 64) + (el colours (el (el (el t v9_1) x) v11_2))) * 64) + (el colours (el (el (el t v9_1) v11_2) x))) * 16)) ∧
 (InI (((((((el colours v11_2) * 64) + (el colours (el (el (el t v9_1) x) v11_2))) * 64) + (el colours (el (el (el t v9_1) v11_2) x))) * 16) + 0)) ∧
 ((o35_2.length : Int) + (([((((((el colours v11_2) * 64) + (el colours (el (el (el t v9_1) x) v11_2))) * 64) + (el colours (el (el (el t v9_1) v11_2) x))) * 16) + 0]).length : Int) ≤ 1000000000) ∧
 (InI (v11_2 + 1)) ∧
 (H2 (v11_2 + 1) (o35_2 ++ ([((((((el colours v11_2) * 64) + (el colours (el (el (el t v9_1) x) v11_2))) * 64) + (el colours (el (el (el t v9_1) v11_2) x))) * 16) + 0])) ∧ m2 (v11_2 + 1) (o35_2 ++ ([((((((el colours v11_2) * 64) + (el colours (el (el (el t v9_1) x) v11_2))) * 64) + (el colours (el (el (el t v9_1) v11_2) x))) * 16) + 0])) < m2 v11_2 o35_2)))))))))) ∧
 (¬ (v11_2 < (colours.length : Int)) →
 (0 ≤ (colours.length : Int) ∧ (colours.length : Int) ≤ 1000000000) ∧
 ∃ (H3 : Int → List Int → Prop) (m3 : Int → List Int → Nat),
 H3 0 (List.replicate (colours.length : Int).toNat (0 : Int)) ∧
 ∀ (v16_3 : Int) (o102_3 : List Int), H3 v16_3 o102_3 →
 ( ((v16_3 < (colours.length : Int) →
 ∃ (H4 : Int → List Int → Prop) (m4 : Int → List Int → Nat),
 H4 0 o102_3 ∧
 ∀ (v17_4 : Int) (o102_4 : List Int), H4 v17_4 o102_4 →
 ( ((v17_4 < (colours.length : Int) →
 (0 ≤ v9_1 ∧ v9_1 < (t.length : Int)) ∧
 (0 ≤ v16_3 ∧ v16_3 < ((el t v9_1).length : Int)) ∧
 (0 ≤ v17_4 ∧ v17_4 < ((el (el t v9_1) v16_3).length : Int)) ∧
 ((el (el (el t v9_1) v16_3) v17_4 = x →
 (0 ≤ v16_3 ∧ v16_3 < (o102_4.length : Int)) ∧
 (InI ((el o102_4 v16_3) + 1)) ∧
 (0 ≤ v16_3 ∧ v16_3 < (o102_4.length : Int)) ∧
 (InI (v17_4 + 1)) ∧
 (H4 (v17_4 + 1) (se o102_4 v16_3 ((el o102_4 v16_3) + 1)) ∧ m4 (v17_4 + 1) (se o102_4 v16_3 ((el o102_4 v16_3) + 1)) < m4 v17_4 o102_4)) ∧
 (¬ (el (el (el t v9_1) v16_3) v17_4 = x) →
 (InI (v17_4 + 1)) ∧
 (H4 (v17_4 + 1) o102_4 ∧ m4 (v17_4 + 1) o102_4 < m4 v17_4 o102_4)))) ∧
 (¬ (v17_4 < (colours.length : Int)) →
 (InI (v16_3 + 1)) ∧
 (H3 (v16_3 + 1) o102_4 ∧ m3 (v16_3 + 1) o102_4 < m3 v16_3 o102_3))))) ∧
 (¬ (v16_3 < (colours.length : Int)) →
 ∃ (H5 : Int → List Int → Prop) (m5 : Int → List Int → Nat),
 H5 0 o35_2 ∧
 ∀ (v18_4 : Int) (o35_4 : List Int), H5 v18_4 o35_4 →
 ( ((v18_4 < (colours.length : Int) →
 (0 ≤ v18_4 ∧ v18_4 < (colours.length : Int)) ∧
 (0 ≤ v18_4 ∧ v18_4 < (o102_3.length : Int)) ∧
 (InI ((el colours v18_4) * 64)) ∧
 (InI (1099511627776 + ((el colours v18_4) * 64))) ∧
 (InI ((1099511627776 + ((el colours v18_4) * 64)) + (el o102_3 v18_4))) ∧
 ((o35_4.length : Int) + (([(1099511627776 + ((el colours v18_4) * 64)) + (el o102_3 v18_4)]).length : Int) ≤ 1000000000) ∧
 (InI (v18_4 + 1)) ∧
 (H5 (v18_4 + 1) (o35_4 ++ ([(1099511627776 + ((el colours v18_4) * 64)) + (el o102_3 v18_4)])) ∧ m5 (v18_4 + 1) (o35_4 ++ ([(1099511627776 + ((el colours v18_4) * 64)) + (el o102_3 v18_4)])) < m5 v18_4 o35_4)) ∧
 (¬ (v18_4 < (colours.length : Int)) →
 ∃ (H6 : Int → List Int → Prop) (m6 : Int → List Int → Nat),
 H6 1 o35_4 ∧
 ∀ (v19_5 : Int) (o35_5 : List Int), H6 v19_5 o35_5 →
 ( ((v19_5 < (o35_5.length : Int) →
 ∃ (H7 : Int → List Int → Prop) (m7 : Int → List Int → Nat),
 H7 v19_5 o35_5 ∧
 ∀ (v20_6 : Int) (o35_6 : List Int), H7 v20_6 o35_6 →
 ( ((0 < v20_6 →
 (0 ≤ v20_6 ∧ v20_6 < (o35_6.length : Int)) ∧
 (InI (v20_6 - 1)) ∧
 (0 ≤ v20_6 - 1 ∧ v20_6 - 1 < (o35_6.length : Int)) ∧
 ((el o35_6 v20_6 < el o35_6 (v20_6 - 1) →
 (0 ≤ v20_6 ∧ v20_6 < (o35_6.length : Int)) ∧
 (InI (v20_6 - 1)) ∧
 (0 ≤ v20_6 - 1 ∧ v20_6 - 1 < (o35_6.length : Int)) ∧
 (0 ≤ v20_6 ∧ v20_6 < (o35_6.length : Int)) ∧
 (InI (v20_6 - 1)) ∧
 (0 ≤ v20_6 - 1 ∧ v20_6 - 1 < ((se o35_6 v20_6 (el o35_6 (v20_6 - 1))).length : Int)) ∧
 (InI (v20_6 - 1)) ∧
 (H7 (v20_6 - 1) (se (se o35_6 v20_6 (el o35_6 (v20_6 - 1))) (v20_6 - 1) (el o35_6 v20_6)) ∧ m7 (v20_6 - 1) (se (se o35_6 v20_6 (el o35_6 (v20_6 - 1))) (v20_6 - 1) (el o35_6 v20_6)) < m7 v20_6 o35_6)) ∧
 (¬ (el o35_6 v20_6 < el o35_6 (v20_6 - 1)) →
 (InI (v19_5 + 1)) ∧
 (H6 (v19_5 + 1) o35_6 ∧ m6 (v19_5 + 1) o35_6 < m6 v19_5 o35_5)))) ∧
 (¬ (0 < v20_6) →
 (InI (v19_5 + 1)) ∧
 (H6 (v19_5 + 1) o35_6 ∧ m6 (v19_5 + 1) o35_6 < m6 v19_5 o35_5))))) ∧
 (¬ (v19_5 < (o35_5.length : Int)) →
 ((o28_1.length : Int) + (o35_5.length : Int) ≤ 1000000000) ∧
 (InI (v9_1 + 1)) ∧
 (H1 (v9_1 + 1) (o28_1 ++ o35_5) ∧ m1 (v9_1 + 1) (o28_1 ++ o35_5) < m1 v9_1 o28_1)))))))))))))) ∧
 (¬ (v9_1 < (t.length : Int)) →
 Q o28_1)))

def wp_spec_l03Refine (a : List (List (List Int))) (b : List (List (List Int))) (first : List Int) (second : List Int) (Q : List Int → List Int → Bool → Prop) : Prop :=
 ∃ (H1 : List Int → List Int → Int → Prop) (m1 : List Int → List Int → Int → Nat),
 H1 first second 0 ∧
 ∀ (v2_1 : List Int) (v3_1 : List Int) (v12_1 : Int), H1 v2_1 v3_1 v12_1 →
 ( ∃ (H2 : Int → List (List Int) → Prop) (m2 : Int → List (List Int) → Nat),
 H2 0 ([] : List (List Int)) ∧
 ∀ (v14_2 : Int) (o27_2 : List (List Int)), H2 v14_2 o27_2 →
 ( ((v14_2 < (first.length : Int) →
 (MkD a v2_1 v14_2) ∧
 ((o27_2.length : Int) + (([mrkI a v2_1 v14_2]).length : Int) ≤ 1000000000) ∧
 (InI (v14_2 + 1)) ∧
 (H2 (v14_2 + 1) (o27_2 ++ ([mrkI a v2_1 v14_2])) ∧ m2 (v14_2 + 1) (o27_2 ++ ([mrkI a v2_1 v14_2])) < m2 v14_2 o27_2)) ∧
 (¬ (v14_2 < (first.length : Int)) →
 ∃ (H3 : Int → List (List Int) → Prop) (m3 : Int → List (List Int) → Nat),
 H3 0 o27_2 ∧
 ∀ (v15_3 : Int) (o27_3 : List (List Int)), H3 v15_3 o27_3 →
 ( ((v15_3 < (first.length : Int) →
 (MkD b v3_1 v15_3) ∧
 ((o27_3.length : Int) + (([mrkI b v3_1 v15_3]).length : Int) ≤ 1000000000) ∧
 (InI (v15_3 + 1)) ∧
 (H3 (v15_3 + 1) (o27_3 ++ ([mrkI b v3_1 v15_3])) ∧ m3 (v15_3 + 1) (o27_3 ++ ([mrkI b v3_1 v15_3])) < m3 v15_3 o27_3)) ∧
 (¬ (v15_3 < (first.length : Int)) →
 ∃ (H4 : List (List Int) → Int → Prop) (m4 : List (List Int) → Int → Nat),
 H4 ([] : List (List Int)) 0 ∧
 ∀ (v16_4 : List (List Int)) (v17_4 : Int), H4 v16_4 v17_4 →
 ( ((v17_4 < (o27_3.length : Int) →
 ∃ (H5 : Int → Prop) (m5 : Int → Nat),
 H5 0 ∧
 ∀ (v18_5 : Int), H5 v18_5 →
 ( ((v18_5 < (v16_4.length : Int) →
 (0 ≤ v18_5 ∧ v18_5 < (v16_4.length : Int)) ∧
 (0 ≤ v17_4 ∧ v17_4 < (o27_3.length : Int)) ∧
 (small (el v16_4 v18_5) ∧ small (el o27_3 v17_4)) ∧
 ((cmpG cmp1 (el v16_4 v18_5) (el o27_3 v17_4) < 0 →
 (InI (v18_5 + 1)) ∧
 (H5 (v18_5 + 1) ∧ m5 (v18_5 + 1) < m5 v18_5)) ∧
 (¬ (cmpG cmp1 (el v16_4 v18_5) (el o27_3 v17_4) < 0) →
 ((v18_5 < (v16_4.length : Int) →
 (0 ≤ v18_5 ∧ v18_5 < (v16_4.length : Int)) ∧
 (0 ≤ v17_4 ∧ v17_4 < (o27_3.length : Int)) ∧
 (small (el v16_4 v18_5) ∧ small (el o27_3 v17_4)) ∧
 (((el v16_4 v18_5) = (el o27_3 v17_4) →
 (InI (v17_4 + 1)) ∧
 (H4 v16_4 (v17_4 + 1) ∧ m4 v16_4 (v17_4 + 1) < m4 v16_4 v17_4)) ∧
 (¬ ((el v16_4 v18_5) = (el o27_3 v17_4)) →
 (0 ≤ v17_4 ∧ v17_4 < (o27_3.length : Int)) ∧
 (0 ≤ v18_5 ∧ v18_5 ≤ (v16_4.length : Int) ∧ (v16_4.length : Int) ≤ (v16_4.length : Int)) ∧
 ((([el o27_3 v17_4]).length : Int) + ((sl v16_4 v18_5 (v16_4.length : Int)).length : Int) ≤ 1000000000) ∧
 ((0 : Int) ≤ 0 ∧ 0 ≤ v18_5 ∧ v18_5 ≤ (v16_4.length : Int)) ∧
 ((([] : List (List Int)).length : Int) + ((sl v16_4 0 v18_5).length : Int) ≤ 1000000000) ∧
 (((([] : List (List Int)) ++ (sl v16_4 0 v18_5)).length : Int) + ((([el o27_3 v17_4]) ++ (sl v16_4 v18_5 (v16_4.length : Int))).length : Int) ≤ 1000000000) ∧
 (InI (v17_4 + 1)) ∧
 (H4 ((([] : List (List Int)) ++ (sl v16_4 0 v18_5)) ++ (([el o27_3 v17_4]) ++ (sl v16_4 v18_5 (v16_4.length : Int)))) (v17_4 + 1) ∧ m4 ((([] : List (List Int)) ++ (sl v16_4 0 v18_5)) ++ (([el o27_3 v17_4]) ++ (sl v16_4 v18_5 (v16_4.length : Int)))) (v17_4 + 1) < m4 v16_4 v17_4)))) ∧
 (¬ (v18_5 < (v16_4.length : Int)) →
 (0 ≤ v17_4 ∧ v17_4 < (o27_3.length : Int)) ∧
 (0 ≤ v18_5 ∧ v18_5 ≤ (v16_4.length : Int) ∧ (v16_4.length : Int) ≤ (v16_4.length : Int)) ∧
 ((([el o27_3 v17_4]).length : Int) + ((sl v16_4 v18_5 (v16_4.length : Int)).length : Int) ≤ 1000000000) ∧
 ((0 : Int) ≤ 0 ∧ 0 ≤ v18_5 ∧ v18_5 ≤ (v16_4.length : Int)) ∧
 ((([] : List (List Int)).length : Int) + ((sl v16_4 0 v18_5).length : Int) ≤ 1000000000) ∧
 (((([] : List (List Int)) ++ (sl v16_4 0 v18_5)).length : Int) + ((([el o27_3 v17_4]) ++ (sl v16_4 v18_5 (v16_4.length : Int))).length : Int) ≤ 1000000000) ∧
 (InI (v17_4 + 1)) ∧
 (H4 ((([] : List (List Int)) ++ (sl v16_4 0 v18_5)) ++ (([el o27_3 v17_4]) ++ (sl v16_4 v18_5 (v16_4.length : Int)))) (v17_4 + 1) ∧ m4 ((([] : List (List Int)) ++ (sl v16_4 0 v18_5)) ++ (([el o27_3 v17_4]) ++ (sl v16_4 v18_5 (v16_4.length : Int)))) (v17_4 + 1) < m4 v16_4 v17_4)))))) ∧
 (¬ (v18_5 < (v16_4.length : Int)) →
 ((v18_5 < (v16_4.length : Int) →
 (0 ≤ v18_5 ∧ v18_5 < (v16_4.length : Int)) ∧
 (0 ≤ v17_4 ∧ v17_4 < (o27_3.length : Int)) ∧
 (small (el v16_4 v18_5) ∧ small (el o27_3 v17_4)) ∧
 (((el v16_4 v18_5) = (el o27_3 v17_4) →
 (InI (v17_4 + 1)) ∧
 (H4 v16_4 (v17_4 + 1) ∧ m4 v16_4 (v17_4 + 1) < m4 v16_4 v17_4)) ∧
 (¬ ((el v16_4 v18_5) = (el o27_3 v17_4)) →
 (0 ≤ v17_4 ∧ v17_4 < (o27_3.length : Int)) ∧
 (0 ≤ v18_5 ∧ v18_5 ≤ (v16_4.length : Int) ∧ (v16_4.length : Int) ≤ (v16_4.length : Int)) ∧
 ((([el o27_3 v17_4]).length : Int) + ((sl v16_4 v18_5 (v16_4.length : Int)).length : Int) ≤ 1000000000) ∧
 ((0 : Int) ≤ 0 ∧ 0 ≤ v18_5 ∧ v18_5 ≤ (v16_4.length : Int)) ∧
 ((([] : List (List Int)).length : Int) + ((sl v16_4 0 v18_5).length : Int) ≤ 1000000000) ∧
 (((([] : List (List Int)) ++ (sl v16_4 0 v18_5)).length : Int) + ((([el o27_3 v17_4]) ++ (sl v16_4 v18_5 (v16_4.length : Int))).length : Int) ≤ 1000000000) ∧
 (InI (v17_4 + 1)) ∧
 (H4 ((([] : List (List Int)) ++ (sl v16_4 0 v18_5)) ++ (([el o27_3 v17_4]) ++ (sl v16_4 v18_5 (v16_4.length : Int)))) (v17_4 + 1) ∧ m4 ((([] : List (List Int)) ++ (sl v16_4 0 v18_5)) ++ (([el o27_3 v17_4]) ++ (sl v16_4 v18_5 (v16_4.length : Int)))) (v17_4 + 1) < m4 v16_4 v17_4)))) ∧
 (¬ (v18_5 < (v16_4.length : Int)) →
 (0 ≤ v17_4 ∧ v17_4 < (o27_3.length : Int)) ∧
 (0 ≤ v18_5 ∧ v18_5 ≤ (v16_4.length : Int) ∧ (v16_4.length : Int) ≤ (v16_4.length : Int)) ∧
 ((([el o27_3 v17_4]).length : Int) + ((sl v16_4 v18_5 (v16_4.length : Int)).length : Int) ≤ 1000000000) ∧
 ((0 : Int) ≤ 0 ∧ 0 ≤ v18_5 ∧ v18_5 ≤ (v16_4.length : Int)) ∧
 ((([] : List (List Int)).length : Int) + ((sl v16_4 0 v18_5).length : Int) ≤ 1000000000) ∧
 (((([] : List (List Int)) ++ (sl v16_4 0 v18_5)).length : Int) + ((([el o27_3 v17_4]) ++ (sl v16_4 v18_5 (v16_4.length : Int))).length : Int) ≤ 1000000000) ∧
 (InI (v17_4 + 1)) ∧
 (H4 ((([] : List (List Int)) ++ (sl v16_4 0 v18_5)) ++ (([el o27_3 v17_4]) ++ (sl v16_4 v18_5 (v16_4.length : Int)))) (v17_4 + 1) ∧ m4 ((([] : List (List Int)) ++ (sl v16_4 0 v18_5)) ++ (([el o27_3 v17_4]) ++ (sl v16_4 v18_5 (v16_4.length : Int)))) (v17_4 + 1) < m4 v16_4 v17_4))))))) ∧
 (¬ (v17_4 < (o27_3.length : Int)) →
 (0 ≤ (v16_4.length : Int) ∧ (v16_4.length : Int) ≤ 1000000000) ∧
 ∃ (H6 : Int → List Int → List Int → Prop) (m6 : Int → List Int → List Int → Nat),
 H6 0 (List.replicate (v16_4.length : Int).toNat (0 : Int)) ([] : List Int) ∧
 ∀ (v22_5 : Int) (o109_5 : List Int) (o110_5 : List Int), H6 v22_5 o109_5 o110_5 →
 ( ((v22_5 < (o27_3.length : Int) →
 ∃ (H7 : Int → Prop) (m7 : Int → Nat),
 H7 0 ∧
 ∀ (v23_6 : Int), H7 v23_6 →
 ( (0 ≤ v23_6 ∧ v23_6 < (v16_4.length : Int)) ∧
 (0 ≤ v22_5 ∧ v22_5 < (o27_3.length : Int)) ∧
 (small (el v16_4 v23_6) ∧ small (el o27_3 v22_5)) ∧
 ((¬ ((el v16_4 v23_6) = (el o27_3 v22_5)) →
 (InI (v23_6 + 1)) ∧
 (H7 (v23_6 + 1) ∧ m7 (v23_6 + 1) < m7 v23_6)) ∧
 ((el v16_4 v23_6) = (el o27_3 v22_5) →
 ((o110_5.length : Int) + (([v23_6]).length : Int) ≤ 1000000000) ∧
 ((v22_5 < (first.length : Int) →
 (0 ≤ v23_6 ∧ v23_6 < (o109_5.length : Int)) ∧
 (InI ((el o109_5 v23_6) + 1)) ∧
 (0 ≤ v23_6 ∧ v23_6 < (o109_5.length : Int)) ∧
 (InI (v22_5 + 1)) ∧
 (H6 (v22_5 + 1) (se o109_5 v23_6 ((el o109_5 v23_6) + 1)) (o110_5 ++ ([v23_6])) ∧ m6 (v22_5 + 1) (se o109_5 v23_6 ((el o109_5 v23_6) + 1)) (o110_5 ++ ([v23_6])) < m6 v22_5 o109_5 o110_5)) ∧
 (¬ (v22_5 < (first.length : Int)) →
 (0 ≤ v23_6 ∧ v23_6 < (o109_5.length : Int)) ∧
 (InI ((el o109_5 v23_6) - 1)) ∧
 (0 ≤ v23_6 ∧ v23_6 < (o109_5.length : Int)) ∧
 (InI (v22_5 + 1)) ∧
 (H6 (v22_5 + 1) (se o109_5 v23_6 ((el o109_5 v23_6) - 1)) (o110_5 ++ ([v23_6])) ∧ m6 (v22_5 + 1) (se o109_5 v23_6 ((el o109_5 v23_6) - 1)) (o110_5 ++ ([v23_6])) < m6 v22_5 o109_5 o110_5))))))) ∧
 (¬ (v22_5 < (o27_3.length : Int)) →
 ∃ (H8 : Int → Prop) (m8 : Int → Nat),
 H8 0 ∧
 ∀ (v24_6 : Int), H8 v24_6 →
 ( ((v24_6 < (o109_5.length : Int) →
 (0 ≤ v24_6 ∧ v24_6 < (o109_5.length : Int)) ∧
 ((¬ (el o109_5 v24_6 = 0) →
 Q ([]) ([]) false) ∧
 (el o109_5 v24_6 = 0 →
 (InI (v24_6 + 1)) ∧
 (H8 (v24_6 + 1) ∧ m8 (v24_6 + 1) < m8 v24_6)))) ∧
 (¬ (v24_6 < (o109_5.length : Int)) →
 ((0 : Int) ≤ 0 ∧ 0 ≤ (first.length : Int) ∧ (first.length : Int) ≤ (o110_5.length : Int)) ∧
 (0 ≤ (first.length : Int) ∧ (first.length : Int) ≤ (o110_5.length : Int) ∧ (o110_5.length : Int) ≤ (o110_5.length : Int)) ∧
 (((v16_4.length : Int) = v12_1 →
 Q (sl o110_5 0 (first.length : Int)) (sl o110_5 (first.length : Int) (o110_5.length : Int)) true) ∧
 (¬ ((v16_4.length : Int) = v12_1) →
 (H1 (sl o110_5 0 (first.length : Int)) (sl o110_5 (first.length : Int) (o110_5.length : Int)) (v16_4.length : Int) ∧ m1 (sl o110_5 0 (first.length : Int)) (sl o110_5 (first.length : Int) (o110_5.length : Int)) (v16_4.length : Int) < m1 v2_1 v3_1 v12_1)))))))))))))))))))

def wp_spec_l03Seek (a : List (List (List Int))) (b : List (List (List Int))) (f : List Int) (first : List Int) (second : List Int) (most : Int) (out : List (List Int)) (Q : List (List Int) → Prop) : Prop :=
 (((f.length : Int) = (first.length : Int) →
 (small f) ∧
 ((out.length : Int) + (([f]).length : Int) ≤ 1000000000) ∧
 Q (out ++ ([f]))) ∧
 (¬ ((f.length : Int) = (first.length : Int)) →
 ∃ (H1 : Int → List (List Int) → Prop) (m1 : Int → List (List Int) → Nat),
 H1 0 out ∧
 ∀ (v16_1 : Int) (o800_1 : List (List Int)), H1 v16_1 o800_1 →
 ( ((v16_1 < (second.length : Int) →
 (((o800_1.length : Int) < most →
 (small f) ∧
 ((f.length : Int) + (([v16_1]).length : Int) ≤ 1000000000) ∧
 (small f) ∧
 (((f.contains v16_1) = true →
 (InI (v16_1 + 1)) ∧
 (H1 (v16_1 + 1) o800_1 ∧ m1 (v16_1 + 1) o800_1 < m1 v16_1 o800_1)) ∧
 ((f.contains v16_1) = false →
 (0 ≤ (f.length : Int) ∧ (f.length : Int) < (first.length : Int)) ∧
 (0 ≤ v16_1 ∧ v16_1 < (second.length : Int)) ∧
 ((¬ (el first (f.length : Int) = el second v16_1) →
 (InI (v16_1 + 1)) ∧
 (H1 (v16_1 + 1) o800_1 ∧ m1 (v16_1 + 1) o800_1 < m1 v16_1 o800_1)) ∧
 (el first (f.length : Int) = el second v16_1 →
 (fitD a b (f ++ ([v16_1]))) ∧
 (((dec (conA a b (f ++ ([v16_1])))) = false →
 (InI (v16_1 + 1)) ∧
 (H1 (v16_1 + 1) o800_1 ∧ m1 (v16_1 + 1) o800_1 < m1 v16_1 o800_1)) ∧
 ((dec (conA a b (f ++ ([v16_1])))) = true →
 (small first) ∧
 (small second) ∧
 (0 ≤ (f.length : Int) ∧ (f.length : Int) < (first.length : Int)) ∧
 (0 ≤ v16_1 ∧ v16_1 < (second.length : Int)) ∧
 (RfD a b (se first (f.length : Int) 60) (se second v16_1 60)) ∧
 ∀ (r1_0 : List Int) (r1_1 : List Int) (r1_2 : Bool), (RfP a b (se first (f.length : Int) 60) (se second v16_1 60) r1_0 r1_1 r1_2) →
 ((r1_2 = true →
 (((el a 0).length - (f ++ ([v16_1])).length) < ((el a 0).length - f.length)) ∧
 (SkD a b (f ++ ([v16_1])) r1_0 r1_1 most o800_1) ∧
 (InI (v16_1 + 1)) ∧
 (H1 (v16_1 + 1) (o800_1 ++ (extL a b (padM (f ++ ([v16_1])) r1_0)).take (most - (o800_1.length : Int)).toNat) ∧ m1 (v16_1 + 1) (o800_1 ++ (extL a b (padM (f ++ ([v16_1])) r1_0)).take (most - (o800_1.length : Int)).toNat) < m1 v16_1 o800_1)) ∧
 (r1_2 = false →
 (InI (v16_1 + 1)) ∧
 (H1 (v16_1 + 1) o800_1 ∧ m1 (v16_1 + 1) o800_1 < m1 v16_1 o800_1)))))))))) ∧
 (¬ ((o800_1.length : Int) < most) →
 Q o800_1))) ∧
 (¬ (v16_1 < (second.length : Int)) →
 Q o800_1)))))

def wp_spec_l03Maps (a : List (List (List Int))) (b : List (List (List Int))) (f : List Int) (most : Int) (Q : List (List Int) → Prop) : Prop :=
 ((0 : Int) ≤ 0 ∧ 0 < (a.length : Int)) ∧
 ((0 : Int) ≤ 0 ∧ 0 < (b.length : Int)) ∧
 ((¬ (((el a 0).length : Int) = ((el b 0).length : Int)) →
 Q ([])) ∧
 (((el a 0).length : Int) = ((el b 0).length : Int) →
 ((0 : Int) ≤ 0 ∧ 0 < (a.length : Int)) ∧
 ((0 : Int) ≤ 0 ∧ 0 < (a.length : Int)) ∧
 (0 ≤ ((el a 0).length : Int) ∧ ((el a 0).length : Int) ≤ 1000000000) ∧
 (0 ≤ ((el a 0).length : Int) ∧ ((el a 0).length : Int) ≤ 1000000000) ∧
 ((0 < (f.length : Int) →
 (fitD a b f) ∧
 (((dec (conA a b f)) = false →
 Q ([])) ∧
 ((dec (conA a b f)) = true →
 ((0 : Int) ≤ 0 ∧ 0 < ((List.replicate ((el a 0).length : Int).toNat (0 : Int)).length : Int)) ∧
 ((0 : Int) ≤ 0 ∧ 0 < ((List.replicate ((el a 0).length : Int).toNat (0 : Int)).length : Int)) ∧
 (RfD a b (se (List.replicate ((el a 0).length : Int).toNat (0 : Int)) 0 60) (se (List.replicate ((el a 0).length : Int).toNat (0 : Int)) 0 60)) ∧
 ∀ (r1_0 : List Int) (r1_1 : List Int) (r1_2 : Bool), (RfP a b (se (List.replicate ((el a 0).length : Int).toNat (0 : Int)) 0 60) (se (List.replicate ((el a 0).length : Int).toNat (0 : Int)) 0 60) r1_0 r1_1 r1_2) →
 ((r1_2 = false →
 Q ([])) ∧
 (r1_2 = true →
 (SkD a b f r1_0 r1_1 most ([] : List (List Int))) ∧
 Q (([] : List (List Int)) ++ (extL a b (padM f r1_0)).take (most - (([] : List (List Int)).length : Int)).toNat)))))) ∧
 (¬ (0 < (f.length : Int)) →
 (RfD a b (List.replicate ((el a 0).length : Int).toNat (0 : Int)) (List.replicate ((el a 0).length : Int).toNat (0 : Int))) ∧
 ∀ (r2_0 : List Int) (r2_1 : List Int) (r2_2 : Bool), (RfP a b (List.replicate ((el a 0).length : Int).toNat (0 : Int)) (List.replicate ((el a 0).length : Int).toNat (0 : Int)) r2_0 r2_1 r2_2) →
 ((r2_2 = false →
 Q ([])) ∧
 (r2_2 = true →
 (SkD a b f r2_0 r2_1 most ([] : List (List Int))) ∧
 Q (([] : List (List Int)) ++ (extL a b (padM f r2_0)).take (most - (([] : List (List Int)).length : Int)).toNat)))))))

def wp_spec_l02Maps (s1 : List (List Int)) (s2 : List (List Int)) (t1 : List (List Int)) (t2 : List (List Int)) (most : Int) (Q : List (List Int) → Prop) : Prop :=
 (([] : List Int) = [] ∧ TabsP ([s1, s2]) ∧ TabsP ([t1, t2]) ∧ ([s1, s2]).length = ([t1, t2]).length ∧ 1 ≤ most ∧ most ≤ 1000000) ∧
 Q ((isoL ([s1, s2]) ([t1, t2])).take most.toNat)

def wp_spec_SolutionIsomorphism (s1 : List (List Int)) (s2 : List (List Int)) (t1 : List (List Int)) (t2 : List (List Int)) (Q : List Int → Int → Prop) : Prop :=
 (small2 s1 ∧ small2 s2) ∧
 (((pmB s1 s2) = false →
 Q ([]) 1) ∧
 ((pmB s1 s2) = true →
 (small2 t1 ∧ small2 t2) ∧
 (((pmB t1 t2) = false →
 Q ([]) 1) ∧
 ((pmB t1 t2) = true →
 ((¬ ((s1.length : Int) = (t1.length : Int)) →
 Q ([]) 4) ∧
 ((s1.length : Int) = (t1.length : Int) →
 (pmB s1 s2 = true ∧ pmB t1 t2 = true ∧ 1 ≤ (1 : Int) ∧ (1 : Int) ≤ 1000000) ∧
 (((((isoL [s1, s2] [t1, t2]).take (1 : Int).toNat).length : Int) = 0 →
 Q ([]) 4) ∧
 (¬ ((((isoL [s1, s2] [t1, t2]).take (1 : Int).toNat).length : Int) = 0) →
 ((0 : Int) ≤ 0 ∧ 0 < (((isoL [s1, s2] [t1, t2]).take (1 : Int).toNat).length : Int)) ∧
 Q (el ((isoL [s1, s2] [t1, t2]).take (1 : Int).toNat) 0) 0))))))))

theorem p_spec_l03Mark (t : List (List (List Int))) (c : List Int) (x : Int) (hp : MkD t c x) : wp_spec_l03Mark t c x (fun y0 => y0 = mrkI t c x) := by
  obtain ⟨⟨t1, t2, t3⟩, ⟨cl, cc⟩, hx⟩ := hp
  have ht := isTab_len (t3 0 (by omega) (by omega)).1
  have tin : ∀ {k u v : Int}, (0 ≤ k ∧ k < (t.length : Int)) → (0 ≤ u ∧ u < (c.length : Int)) → (0 ≤ v ∧ v < (c.length : Int)) → u < ((el t k).length : Int) ∧ v < ((el (el t k) u).length : Int) ∧ 0 ≤ el (el (el t k) u) v ∧ el (el (el t k) u) v < (c.length : Int) := fun hk hu hv => by
    obtain ⟨h1, h2⟩ := t3 _ hk.1 hk.2
    have := isTab_row h1 (i := _) ⟨hu.1, by omega⟩
    have h3 := this.2 _ hv.1 (by omega)
    exact ⟨by omega, by omega, h3.1, by omega⟩
  have cin : ∀ {u : Int}, (0 ≤ u ∧ u < (c.length : Int)) → 0 ≤ el c u ∧ el c u ≤ 100 := fun hu => cc _ hu.1 (by omega)
  unfold wp_spec_l03Mark
  have lenK : ∀ k, ((mkK t c x k).length : Int) = (c.length : Int) + (c.length : Int) := fun k => by
    unfold mkK; rw [srt_len, List.length_append, length_ran, length_ran]; omega
  refine ⟨hx, fun k o => (0 ≤ k ∧ k ≤ (t.length : Int)) ∧ o = [el c x] ++ (ran k (mkK t c x)).flatten ∧ (o.length : Int) ≤ 1 + k * 24, fun k _ => ((t.length : Int) - k).toNat, ⟨⟨by omega, by omega⟩, by simp [ran], by simp⟩, ?_⟩
  rintro k o ⟨⟨k0, k1⟩, ho, hol⟩
  dsimp only
  refine ⟨fun klt => ?_, fun kge => by rw [ho, show k = (t.length : Int) by omega]; rfl⟩
  refine ⟨fun y q => (0 ≤ y ∧ y ≤ (c.length : Int)) ∧ (q.length : Int) = y ∧ Upto y fun j => el q j = mkA t c k x j, fun y _ => ((c.length : Int) - y).toNat, ⟨⟨by omega, by omega⟩, by simp, upto0⟩, ?_⟩
  rintro y q ⟨⟨y0, y1⟩, ql, qI⟩
  dsimp only
  refine ⟨fun ylt => ?_, fun yge => ?_⟩
  · have g1 := tin ⟨k0, klt⟩ hx ⟨y0, ylt⟩
    have g2 := tin ⟨k0, klt⟩ ⟨y0, ylt⟩ hx
    have c1 := cin ⟨y0, ylt⟩
    have c2 := cin g1.2.2
    have c3 := cin g2.2.2
    have leaf : ∀ own : Int, own = mkO t k x y →
        (0 ≤ y ∧ y < (c.length : Int)) ∧ (0 ≤ el (el (el t k) x) y ∧ el (el (el t k) x) y < (c.length : Int)) ∧ (0 ≤ el (el (el t k) y) x ∧ el (el (el t k) y) x < (c.length : Int)) ∧ InI (el c y * 64) ∧ InI (el c y * 64 + el c (el (el (el t k) x) y)) ∧ InI ((el c y * 64 + el c (el (el (el t k) x) y)) * 64) ∧ InI ((el c y * 64 + el c (el (el (el t k) x) y)) * 64 + el c (el (el (el t k) y) x)) ∧
        InI (((el c y * 64 + el c (el (el (el t k) x) y)) * 64 + el c (el (el (el t k) y) x)) * 16) ∧ InI (((el c y * 64 + el c (el (el (el t k) x) y)) * 64 + el c (el (el (el t k) y) x)) * 16 + own) ∧ ((q.length : Int) + (([(((el c y * 64 + el c (el (el (el t k) x) y)) * 64 + el c (el (el (el t k) y) x)) * 16 + own)]).length : Int) ≤ 1000000000) ∧ InI (y + 1) ∧ (((0 ≤ y + 1 ∧ y + 1 ≤ (c.length : Int)) ∧ ((q ++ [(((el c y * 64 + el c (el (el (el t k) x) y)) * 64 + el c (el (el (el t k) y) x)) * 16 + own)]).length : Int) = y + 1 ∧ Upto (y + 1) fun j => el (q ++ [(((el c y * 64 + el c (el (el (el t k) x) y)) * 64 + el c (el (el (el t k) y) x)) * 16 + own)]) j = mkA t c k x j) ∧ ((c.length : Int) - (y + 1)).toNat < ((c.length : Int) - y).toNat) := fun own ho => by
      have hb : 0 ≤ own ∧ own ≤ 15 := by
        rw [ho]; unfold mkO
        split <;> split <;> split <;> split <;> omega
      refine ⟨⟨y0, ylt⟩, g1.2.2, g2.2.2, ⟨by omega, by omega⟩, ⟨by omega, by omega⟩, ⟨by omega, by omega⟩, ⟨by omega, by omega⟩, ⟨by omega, by omega⟩, ⟨by omega, by omega⟩, by simp; omega, ⟨by omega, by omega⟩, ⟨⟨by omega, by omega⟩, by simp; omega, app1 (f := mkA t c k x) (by omega) qI ?_⟩, by omega⟩
      rw [ho]; rfl
    exact ⟨⟨k0, klt⟩, ⟨k0, klt⟩, ⟨hx.1, g1.1⟩, ⟨y0, g1.2.1⟩, ⟨y0, g2.1⟩, ⟨hx.1, g2.2.1⟩, ⟨fun h1 => ⟨fun h2 => ⟨⟨by omega, by omega⟩, ⟨fun h3 => ⟨⟨by omega, by omega⟩, ⟨fun h4 => ⟨⟨by omega, by omega⟩, (leaf _ (by have e : mkO t k x y = 1 + 2 + 4 + 8 := (by unfold mkO; rw [if_pos (show el3 t k x y = y from h1), if_pos (show el3 t k y x = y from h2), if_pos (show el3 t k x y = x from h3), if_pos (show el3 t k y x = x from h4)]); omega))⟩, fun h4 => (leaf _ (by have e : mkO t k x y = 1 + 2 + 4 + 0 := (by unfold mkO; rw [if_pos (show el3 t k x y = y from h1), if_pos (show el3 t k y x = y from h2), if_pos (show el3 t k x y = x from h3), if_neg (show ¬ el3 t k y x = x from h4)]); omega))⟩⟩, fun h3 => ⟨fun h4 => ⟨⟨by omega, by omega⟩, (leaf _ (by have e : mkO t k x y = 1 + 2 + 0 + 8 := (by unfold mkO; rw [if_pos (show el3 t k x y = y from h1), if_pos (show el3 t k y x = y from h2), if_neg (show ¬ el3 t k x y = x from h3), if_pos (show el3 t k y x = x from h4)]); omega))⟩, fun h4 => (leaf _ (by have e : mkO t k x y = 1 + 2 + 0 + 0 := (by unfold mkO; rw [if_pos (show el3 t k x y = y from h1), if_pos (show el3 t k y x = y from h2), if_neg (show ¬ el3 t k x y = x from h3), if_neg (show ¬ el3 t k y x = x from h4)]); omega))⟩⟩⟩, fun h2 => ⟨fun h3 => ⟨⟨by omega, by omega⟩, ⟨fun h4 => ⟨⟨by omega, by omega⟩, (leaf _ (by have e : mkO t k x y = 1 + 0 + 4 + 8 := (by unfold mkO; rw [if_pos (show el3 t k x y = y from h1), if_neg (show ¬ el3 t k y x = y from h2), if_pos (show el3 t k x y = x from h3), if_pos (show el3 t k y x = x from h4)]); omega))⟩, fun h4 => (leaf _ (by have e : mkO t k x y = 1 + 0 + 4 + 0 := (by unfold mkO; rw [if_pos (show el3 t k x y = y from h1), if_neg (show ¬ el3 t k y x = y from h2), if_pos (show el3 t k x y = x from h3), if_neg (show ¬ el3 t k y x = x from h4)]); omega))⟩⟩, fun h3 => ⟨fun h4 => ⟨⟨by omega, by omega⟩, (leaf _ (by have e : mkO t k x y = 1 + 0 + 0 + 8 := (by unfold mkO; rw [if_pos (show el3 t k x y = y from h1), if_neg (show ¬ el3 t k y x = y from h2), if_neg (show ¬ el3 t k x y = x from h3), if_pos (show el3 t k y x = x from h4)]); omega))⟩, fun h4 => (leaf _ (by have e : mkO t k x y = 1 + 0 + 0 + 0 := (by unfold mkO; rw [if_pos (show el3 t k x y = y from h1), if_neg (show ¬ el3 t k y x = y from h2), if_neg (show ¬ el3 t k x y = x from h3), if_neg (show ¬ el3 t k y x = x from h4)]); omega))⟩⟩⟩, fun h1 => ⟨fun h2 => ⟨⟨by omega, by omega⟩, ⟨fun h3 => ⟨⟨by omega, by omega⟩, ⟨fun h4 => ⟨⟨by omega, by omega⟩, (leaf _ (by have e : mkO t k x y = 0 + 2 + 4 + 8 := (by unfold mkO; rw [if_neg (show ¬ el3 t k x y = y from h1), if_pos (show el3 t k y x = y from h2), if_pos (show el3 t k x y = x from h3), if_pos (show el3 t k y x = x from h4)]); omega))⟩, fun h4 => (leaf _ (by have e : mkO t k x y = 0 + 2 + 4 + 0 := (by unfold mkO; rw [if_neg (show ¬ el3 t k x y = y from h1), if_pos (show el3 t k y x = y from h2), if_pos (show el3 t k x y = x from h3), if_neg (show ¬ el3 t k y x = x from h4)]); omega))⟩⟩, fun h3 => ⟨fun h4 => ⟨⟨by omega, by omega⟩, (leaf _ (by have e : mkO t k x y = 0 + 2 + 0 + 8 := (by unfold mkO; rw [if_neg (show ¬ el3 t k x y = y from h1), if_pos (show el3 t k y x = y from h2), if_neg (show ¬ el3 t k x y = x from h3), if_pos (show el3 t k y x = x from h4)]); omega))⟩, fun h4 => (leaf _ (by have e : mkO t k x y = 0 + 2 + 0 + 0 := (by unfold mkO; rw [if_neg (show ¬ el3 t k x y = y from h1), if_pos (show el3 t k y x = y from h2), if_neg (show ¬ el3 t k x y = x from h3), if_neg (show ¬ el3 t k y x = x from h4)]); omega))⟩⟩⟩, fun h2 => ⟨fun h3 => ⟨⟨by omega, by omega⟩, ⟨fun h4 => ⟨⟨by omega, by omega⟩, (leaf _ (by have e : mkO t k x y = 0 + 0 + 4 + 8 := (by unfold mkO; rw [if_neg (show ¬ el3 t k x y = y from h1), if_neg (show ¬ el3 t k y x = y from h2), if_pos (show el3 t k x y = x from h3), if_pos (show el3 t k y x = x from h4)]); omega))⟩, fun h4 => (leaf _ (by have e : mkO t k x y = 0 + 0 + 4 + 0 := (by unfold mkO; rw [if_neg (show ¬ el3 t k x y = y from h1), if_neg (show ¬ el3 t k y x = y from h2), if_pos (show el3 t k x y = x from h3), if_neg (show ¬ el3 t k y x = x from h4)]); omega))⟩⟩, fun h3 => ⟨fun h4 => ⟨⟨by omega, by omega⟩, (leaf _ (by have e : mkO t k x y = 0 + 0 + 0 + 8 := (by unfold mkO; rw [if_neg (show ¬ el3 t k x y = y from h1), if_neg (show ¬ el3 t k y x = y from h2), if_neg (show ¬ el3 t k x y = x from h3), if_pos (show el3 t k y x = x from h4)]); omega))⟩, fun h4 => (leaf _ (by have e : mkO t k x y = 0 + 0 + 0 + 0 := (by unfold mkO; rw [if_neg (show ¬ el3 t k x y = y from h1), if_neg (show ¬ el3 t k y x = y from h2), if_neg (show ¬ el3 t k x y = x from h3), if_neg (show ¬ el3 t k y x = x from h4)]); omega))⟩⟩⟩⟩⟩
  have hq : q = ran (c.length : Int) (mkA t c k x) := eq_ran (by omega) fun j a b => qI j a (by omega)
  refine ⟨⟨by omega, by omega⟩, ?_⟩
  -- how often x stands in each row
  refine ⟨fun y o => (0 ≤ y ∧ y ≤ (c.length : Int)) ∧ o.length = c.length ∧ (Upto y fun j => el o j = mkC t (c.length : Int) k x j) ∧ ∀ j, y ≤ j → j < (c.length : Int) → el o j = 0, fun y _ => ((c.length : Int) - y).toNat, ⟨⟨by omega, by omega⟩, by simp, upto0, fun j a b => el_rep ⟨by omega, by omega⟩⟩, ?_⟩
  rintro y o2 ⟨⟨y0, y1⟩, ol, oI, oZ⟩
  dsimp only
  refine ⟨fun ylt => ?_, fun yge => ?_⟩
  · refine ⟨fun z o => (0 ≤ z ∧ z ≤ (c.length : Int)) ∧ o.length = c.length ∧ (Upto y fun j => el o j = mkC t (c.length : Int) k x j) ∧ (∀ j, y < j → j < (c.length : Int) → el o j = 0) ∧ el o y = mkC t z k x y, fun z _ => ((c.length : Int) - z).toNat,
      ⟨⟨by omega, by omega⟩, ol, oI, fun j a b => oZ j (by omega) b, by rw [oZ y (by omega) ylt]; simp [mkC, ran]⟩, ?_⟩
    rintro z o3 ⟨⟨z0, z1⟩, ol, oI, oZ, oy⟩
    dsimp only
    refine ⟨fun zlt => ?_, fun zge => ⟨⟨by omega, by omega⟩, ⟨⟨by omega, by omega⟩, ol, upto1 oI (by rw [oy, show z = (c.length : Int) by omega]), fun j a b => oZ j (by omega) b⟩, by omega⟩⟩
    have g := tin ⟨k0, klt⟩ ⟨y0, ylt⟩ ⟨z0, zlt⟩
    have hs : mkC t (z + 1) k x y = mkC t z k x y + (if el3 t k y z = x then 1 else 0) := by
      unfold mkC
      rw [ran_succ _ z0, List.filter_append, List.length_append]
      by_cases e : el3 t k y z = x
      · rw [if_pos e]; simp [e]
      · rw [if_neg e]; simp [e]
    have hcb : 0 ≤ mkC t z k x y ∧ mkC t z k x y ≤ z := by
      unfold mkC
      have := List.length_filter_le (fun z => decide (el3 t k y z = x)) (ran z id)
      rw [length_ran] at this
      omega
    refine ⟨⟨k0, klt⟩, ⟨y0, g.1⟩, ⟨z0, g.2.1⟩, fun he => ?_, fun hne => ⟨⟨by omega, by omega⟩, ⟨⟨by omega, by omega⟩, ol, oI, oZ, by rw [hs, if_neg (show ¬ el3 t k y z = x from hne), oy]; omega⟩, by omega⟩⟩
    refine ⟨⟨y0, by omega⟩, ⟨by omega, by omega⟩, ⟨y0, by omega⟩, ⟨by omega, by omega⟩, ⟨⟨by omega, by omega⟩, by simp [ol], fun j a b => ?_, fun j a b => ?_, ?_⟩, by omega⟩
    · show el (se _ _ _) j = _
      rw [el_se_ne y0 a (by omega)]; exact oI j a b
    · rw [el_se_ne y0 (by omega) (by omega)]; exact oZ j a b
    · rw [el_se_same ⟨y0, by omega⟩, hs, if_pos (show el3 t k y z = x from he), oy]
  have hcb : ∀ j, 0 ≤ j → j < (c.length : Int) → 0 ≤ el o2 j ∧ el o2 j ≤ (c.length : Int) := fun j a b => by
    rw [oI j a (by omega)]
    unfold mkC
    have := List.length_filter_le (fun z => decide (el3 t k j z = x)) (ran (c.length : Int) id)
    rw [length_ran] at this
    omega
  refine ⟨fun y q2 => (0 ≤ y ∧ y ≤ (c.length : Int)) ∧ q2 = ran (c.length : Int) (mkA t c k x) ++ ran y (mkB t c k x), fun y _ => ((c.length : Int) - y).toNat, ⟨⟨by omega, by omega⟩, by rw [hq]; simp [ran]⟩, ?_⟩
  rintro y q2 ⟨⟨y0, y1⟩, rfl⟩
  dsimp only
  refine ⟨fun ylt => ?_, fun yge => ?_⟩
  · have h1 := hcb y y0 ylt
    have c1 := cin ⟨y0, ylt⟩
    refine ⟨⟨y0, ylt⟩, ⟨y0, by omega⟩, ⟨by omega, by omega⟩, ⟨by omega, by omega⟩, ⟨by omega, by omega⟩, ?_, ⟨by omega, by omega⟩, ⟨⟨by omega, by omega⟩, ?_⟩, by omega⟩
    · rw [List.length_append, length_ran, length_ran]; simp; omega
    · rw [ran_succ _ y0, List.append_assoc, oI y y0 (by omega)]; rfl
  have hy : y = (c.length : Int) := by omega
  subst hy
  generalize hL : ran (c.length : Int) (mkA t c k x) ++ ran (c.length : Int) (mkB t c k x) = L at *
  have hLl : (L.length : Int) = (c.length : Int) + (c.length : Int) := by rw [← hL, List.length_append, length_ran, length_ran]; omega
  -- the sort
  refine ⟨fun i o => (1 ≤ i ∧ i ≤ (L.length : Int)) ∧ o.Perm L ∧ ∀ m, 1 ≤ m → m < i → el o (m - 1) ≤ el o m, fun i _ => ((L.length : Int) - i).toNat, ⟨⟨by omega, by omega⟩, List.Perm.refl _, fun m _ _ => by omega⟩, ?_⟩
  rintro i s ⟨⟨i1, i2⟩, hP, hS⟩
  dsimp only
  have hsl := hP.length_eq
  refine ⟨fun ilt => ?_, fun ige => ⟨by omega, ⟨by omega, by omega⟩, ⟨⟨by omega, by omega⟩, ?_, ?_⟩, by omega⟩⟩
  · refine ⟨fun j q => (0 ≤ j ∧ j ≤ i) ∧ q.Perm L ∧ (∀ m, 1 ≤ m → m ≤ i → m ≠ j → el q (m - 1) ≤ el q m) ∧ (1 ≤ j → j < i → el q (j - 1) ≤ el q (j + 1)), fun j _ => j.toNat, ⟨⟨by omega, by omega⟩, hP, fun m m1 m2 hne => hS m m1 (by omega), fun _ h => by omega⟩, ?_⟩
    rintro j q ⟨⟨j0, j1⟩, hQ, hA, hB⟩
    dsimp only
    have hql := hQ.length_eq
    have next : (∀ m, 1 ≤ m → m < i + 1 → el q (m - 1) ≤ el q m) → InI (i + 1) ∧ (((1 ≤ i + 1 ∧ i + 1 ≤ (L.length : Int)) ∧ q.Perm L ∧ ∀ m, 1 ≤ m → m < i + 1 → el q (m - 1) ≤ el q m) ∧ ((L.length : Int) - (i + 1)).toNat < ((L.length : Int) - i).toNat) := fun h =>
      ⟨⟨by omega, by omega⟩, ⟨⟨by omega, by omega⟩, hQ, h⟩, by omega⟩
    refine ⟨fun jlt => ⟨⟨by omega, by omega⟩, ⟨by omega, by omega⟩, ⟨by omega, by omega⟩, fun hc => ?_, fun hc => next fun m m1 m2 => ?_⟩, fun jge => next fun m m1 m2 => hA m m1 (by omega) (by omega)⟩
    · refine ⟨⟨by omega, by omega⟩, ⟨by omega, by omega⟩, ⟨by omega, by omega⟩, ⟨by omega, by omega⟩, ⟨by omega, by omega⟩, ⟨by omega, by simp; omega⟩, ⟨by omega, by omega⟩, ⟨⟨by omega, by omega⟩, (swap_nb ⟨by omega, by omega⟩).trans hQ, fun m m1 m2 hne => ?_, fun h1 h2 => ?_⟩, by omega⟩
      · rw [swap_nb_el ⟨by omega, by omega⟩ (by omega), swap_nb_el ⟨by omega, by omega⟩ (by omega), if_neg hne]
        by_cases e : m = j
        · subst e
          rw [if_pos rfl, if_pos rfl]; omega
        · rw [if_neg e, if_neg (by omega)]
          by_cases e2 : m = j + 1
          · subst e2
            rw [if_pos (by omega)]
            exact hB (by omega) (by omega)
          · rw [if_neg (by omega)]
            exact hA m m1 m2 e
      · rw [swap_nb_el ⟨by omega, by omega⟩ (by omega), swap_nb_el ⟨by omega, by omega⟩ (by omega), if_neg (by omega), if_neg (by omega), if_neg (by omega), if_pos (by omega)]
        exact hA (j - 1) (by omega) (by omega) (by omega)
    · by_cases e : m = j
      · subst e; omega
      · exact hA m m1 (by omega) e
  · have hs : s = mkK t c x k := by
      unfold mkK; rw [hL]
      exact srt_uniq hP (adj_le fun m m0 m1 => by have := hS (m + 1) (by omega) (by omega); rwa [Int.add_sub_cancel] at this)
    rw [ho, hs, ran_succ _ k0]; simp
  · rw [List.length_append, hsl]; omega

theorem ran_add {α : Type} {m n : Int} (hm : 0 ≤ m) (hn : 0 ≤ n) (f : Int → α) : ran (m + n) f = ran m f ++ ran n fun j => f (m + j) := by
  unfold ran
  rw [show (m + n).toNat = m.toNat + n.toNat by omega, List.range_add, List.map_append, List.map_map]
  congr 1
  refine List.map_congr_left fun j _ => ?_
  show f _ = f _
  congr 1
  simp; omega
theorem len_flat {n : Int} : ∀ (l : List (List Int)), (∀ r ∈ l, (r.length : Int) = n) → (l.flatten.length : Int) = (l.length : Int) * n
  | [], _ => by simp
  | r :: l, h => by
    have := len_flat l fun z hz => h z (List.mem_cons_of_mem _ hz)
    have := h r List.mem_cons_self
    rw [List.flatten_cons, List.length_append, List.length_cons]
    have e : ((l.length : Int) + 1) * n = (l.length : Int) * n + n := by rw [Int.add_mul, Int.one_mul]
    have e2 : ((l.length + 1 : Nat) : Int) = (l.length : Int) + 1 := by omega
    rw [e2, e]; omega
theorem mrk_len (t : List (List (List Int))) (c : List Int) (x : Int) : ((mrkI t c x).length : Int) = 1 + (t.length : Int) * ((c.length : Int) + (c.length : Int)) := by
  unfold mrkI
  rw [List.length_append, List.length_singleton]
  have := len_flat (n := (c.length : Int) + (c.length : Int)) (ran (t.length : Int) (mkK t c x)) fun r hr => by
    obtain ⟨i, _, e⟩ := List.mem_map.1 (show r ∈ (List.range _).map _ from hr)
    have e := e.symm; subst e
    show ((mkK t c x _).length : Int) = _
    unfold mkK; rw [srt_len, List.length_append, length_ran, length_ran]; omega
  rw [len_ran (by omega)] at this
  omega
theorem mrk_head (t : List (List (List Int))) (c : List Int) (x : Int) : el (mrkI t c x) 0 = el c x := by
  unfold mrkI; exact el_cons_0
def cntU (n : Int) (q : Int → Int) (i v : Int) : Int := (((ran i id).filter fun j => decide (j < n ∧ q j = v)).length : Int)
def cntV (n : Int) (q : Int → Int) (i v : Int) : Int := (((ran i id).filter fun j => decide (n ≤ j ∧ q j = v)).length : Int)
theorem cntU_one {n : Int} {q : Int → Int} {i v : Int} (hi : 0 ≤ i) : cntU n q (i + 1) v = cntU n q i v + (if i < n ∧ q i = v then 1 else 0) := by
  unfold cntU
  rw [ran_succ _ hi, List.filter_append, List.length_append]
  by_cases e : i < n ∧ q i = v
  · rw [if_pos e]; simp [e]
  · rw [if_neg e]; simp [e]
theorem cntV_one {n : Int} {q : Int → Int} {i v : Int} (hi : 0 ≤ i) : cntV n q (i + 1) v = cntV n q i v + (if n ≤ i ∧ q i = v then 1 else 0) := by
  unfold cntV
  rw [ran_succ _ hi, List.filter_append, List.length_append]
  by_cases e : n ≤ i ∧ q i = v
  · rw [if_pos e]; simp [e]
  · rw [if_neg e]; simp [e]
theorem cnt_bd (n : Int) (q : Int → Int) {i : Int} (hi : 0 ≤ i) (v : Int) : (0 ≤ cntU n q i v ∧ cntU n q i v ≤ i) ∧ 0 ≤ cntV n q i v ∧ cntV n q i v ≤ i := by
  unfold cntU cntV
  have h1 := List.length_filter_le (fun j => decide (j < n ∧ q j = v)) (ran i id)
  have h2 := List.length_filter_le (fun j => decide (n ≤ j ∧ q j = v)) (ran i id)
  rw [length_ran] at h1 h2
  omega
theorem cnt_same {p : List Int} (hp : isPerm p = true) {q : Int → Int} (h : ∀ x, 0 ≤ x → x < (p.length : Int) → q x = q ((p.length : Int) + el p x)) (v : Int) : cntU (p.length : Int) q ((p.length : Int) + (p.length : Int)) v = cntV (p.length : Int) q ((p.length : Int) + (p.length : Int)) v := by
  unfold cntU cntV
  rw [ran_add (by omega) (by omega), List.filter_append, List.filter_append, List.length_append, List.length_append]
  have e1 : (ran (p.length : Int) fun j => id ((p.length : Int) + j)) = (ran (p.length : Int) id).map fun j => (p.length : Int) + j := by unfold ran; rw [List.map_map]; rfl
  have f1 : (ran (p.length : Int) id).filter (fun j => decide (j < (p.length : Int) ∧ q j = v)) = (ran (p.length : Int) id).filter fun j => decide (q ((p.length : Int) + el p j) = v) :=
    List.filter_congr fun j hj => by
      have hj := mem_ran.1 hj
      rw [h j hj.1 hj.2]
      exact decide_eq_decide.2 ⟨fun k => k.2, fun k => ⟨hj.2, k⟩⟩
  have f2 : (ran (p.length : Int) id).filter (fun j => decide ((p.length : Int) ≤ j ∧ q j = v)) = [] := List.filter_eq_nil_iff.2 fun j hj => by
    have hj := mem_ran.1 hj
    simp; omega
  have f3 : ((ran (p.length : Int) id).map fun j => (p.length : Int) + j).filter (fun j => decide (j < (p.length : Int) ∧ q j = v)) = [] := List.filter_eq_nil_iff.2 fun j hj => by
    obtain ⟨m, hm, rfl⟩ := List.mem_map.1 hj
    have hm := mem_ran.1 hm
    simp; omega
  have f4 : (((ran (p.length : Int) id).map fun j => (p.length : Int) + j).filter (fun j => decide ((p.length : Int) ≤ j ∧ q j = v))).length = ((ran (p.length : Int) id).filter fun j => decide (q ((p.length : Int) + j) = v)).length := by
    rw [List.filter_map, List.length_map]
    congr 1
    refine List.filter_congr fun j hj => ?_
    have hj := mem_ran.1 hj
    exact decide_eq_decide.2 ⟨fun k => k.2, fun k => ⟨by show (p.length : Int) ≤ (p.length : Int) + j; omega, k⟩⟩
  rw [e1, f1, f2, f3, f4, cnt_perm hp fun j => decide (q ((p.length : Int) + j) = v)]
  simp
def FulC (n num : Int) (c d : List Int) : Prop := ∀ v, 0 ≤ v → v < num → (∃ x, (0 ≤ x ∧ x < n) ∧ el c x = v) ∨ ∃ x, (0 ≤ x ∧ x < n) ∧ el d x = v
theorem p_spec_l03Refine (a b : List (List (List Int))) (c d : List Int) (hp : RfD a b c d) : wp_spec_l03Refine a b c d (fun y0 y1 y2 => RfP a b c d y0 y1 y2) := by
  obtain ⟨hta, htb, hab, hn0, hc, hd⟩ := hp
  have ht := isTab_len (hta.2.2 0 (by omega) (by have := hta.1; omega)).1
  have hcl : (c.length : Int) = ((el a 0).length : Int) := hc.1
  have hka := hta.2.1
  unfold wp_spec_l03Refine
  unfold RfP
  rw [← hcl] at hc hd ht ⊢
  generalize hn : (c.length : Int) = n at *
  have inA : ∀ k, 0 ≤ k → k < (a.length : Int) → ∀ x y, (0 ≤ x ∧ x < n) → (0 ≤ y ∧ y < n) → 0 ≤ el3 a k x y ∧ el3 a k x y < n := fun k k0 k1 x y hx hy => by
    obtain ⟨h1, h2⟩ := hta.2.2 k k0 k1
    have h3 := (isTab_row h1 (i := x) ⟨hx.1, by omega⟩).2 y hy.1 (by omega)
    exact ⟨h3.1, by show el (el (el a k) x) y < _; omega⟩
  refine ⟨fun c1 d1 num => (ColD n c1 ∧ ColD n d1) ∧ (0 ≤ num ∧ num ≤ 24) ∧ FulC n num c1 d1 ∧ ∀ p, (p.length : Int) = n → IsoP a b p → Keep p c d → Keep p c1 d1, fun _ _ num => (25 - num).toNat, ⟨⟨hc, hd⟩, ⟨by omega, by omega⟩, fun v _ _ => by omega, fun _ _ _ h => h⟩, ?_⟩
  rintro c1 d1 num ⟨⟨hc1, hd1⟩, ⟨m0, m1⟩, hF, hK⟩
  dsimp only
  have lenA : ∀ x, ((mrkI a c1 x).length : Int) = 1 + (a.length : Int) * (n + n) := fun x => by rw [mrk_len, hc1.1]
  have lenB : ∀ x, ((mrkI b d1 x).length : Int) = 1 + (a.length : Int) * (n + n) := fun x => by rw [mrk_len, hd1.1, hab]
  have lenS : 1 + (a.length : Int) * (n + n) ≤ 1000000 := by
    have : (a.length : Int) * (n + n) ≤ 1000 * 24 := Int.mul_le_mul hka (by omega) (by omega) (by omega)
    omega
  have lenP : 0 ≤ (a.length : Int) * (n + n) := Int.mul_nonneg (by omega) (by omega)
  -- the marks
  refine ⟨fun i o => (0 ≤ i ∧ i ≤ n) ∧ o = ran i (mrkI a c1), fun i _ => (n - i).toNat, ⟨⟨by omega, by omega⟩, by simp [ran]⟩, ?_⟩
  rintro i o ⟨⟨i0, i1⟩, rfl⟩
  dsimp only
  refine ⟨fun ilt => ⟨⟨hta, by rw [← hcl]; exact hc1, i0, by rw [hc1.1]; exact ilt⟩, by rw [length_ran]; simp; omega, ⟨by omega, by omega⟩, ⟨⟨by omega, by omega⟩, (ran_succ _ i0).symm⟩, by omega⟩, fun ige => ?_⟩
  have hi : i = n := by omega
  subst hi
  refine ⟨fun j o => (0 ≤ j ∧ j ≤ i) ∧ o = ran i (mrkI a c1) ++ ran j (mrkI b d1), fun j _ => (i - j).toNat, ⟨⟨by omega, by omega⟩, by simp [ran]⟩, ?_⟩
  rintro j o ⟨⟨j0, j1⟩, rfl⟩
  dsimp only
  refine ⟨fun jlt => ⟨⟨htb, by rw [← hn0, ← hcl]; exact hd1, j0, by rw [hd1.1]; exact jlt⟩, by rw [List.length_append, length_ran, length_ran]; simp; omega, ⟨by omega, by omega⟩, ⟨⟨by omega, by omega⟩, by rw [ran_succ _ j0, List.append_assoc]⟩, by omega⟩, fun jge => ?_⟩
  have hj : j = i := by omega
  subst hj
  have hM1 : ∀ x, 0 ≤ x → x < j → el (ran j (mrkI a c1) ++ ran j (mrkI b d1)) x = mrkI a c1 x := fun x x0 x1 => by
    rw [el_append_l ⟨x0, by rw [length_ran]; omega⟩, el_ran ⟨x0, x1⟩]
  have hM2 : ∀ x, 0 ≤ x → x < j → el (ran j (mrkI a c1) ++ ran j (mrkI b d1)) (j + x) = mrkI b d1 x := fun x x0 x1 => by
    have e : ((ran j (mrkI a c1)).length : Int) = j := len_ran (by omega)
    rw [el_append_r (by omega), e, show j + x - j = x by omega, el_ran ⟨x0, x1⟩]
  have hML : ((ran j (mrkI a c1) ++ ran j (mrkI b d1)).length : Int) = j + j := by rw [List.length_append, length_ran, length_ran]; omega
  generalize ran j (mrkI a c1) ++ ran j (mrkI b d1) = M at *
  generalize hm0 : (1 + (a.length : Int) * (j + j)).toNat = L0 at *
  have hMl : ∀ x, 0 ≤ x → x < j + j → (el M x).length = L0 := fun x x0 x1 => by
    by_cases e : x < j
    · rw [hM1 x x0 e]; have := lenA x; omega
    · have h2 := hM2 (x - j) (by omega) (by omega)
      rw [show j + (x - j) = x by omega] at h2
      rw [h2]; have := lenB (x - j); omega
  have hsm : ∀ {z : List Int}, z.length = L0 → small z := fun h => by show _ ≤ (1000000000 : Int); omega
  -- the kinds
  refine ⟨fun K i => (0 ≤ i ∧ i ≤ j + j) ∧ (LexS L0 K ∧ (K.length : Int) ≤ i) ∧ ∀ z, z ∈ K ↔ ∃ m, (0 ≤ m ∧ m < i) ∧ el M m = z, fun _ i => (j + j - i).toNat, ⟨⟨by omega, by omega⟩, ⟨⟨List.Pairwise.nil, fun x h => by simp at h⟩, by simp⟩, fun z => ⟨fun h => by simp at h, fun ⟨m, hm, _⟩ => by omega⟩⟩, ?_⟩
  rintro K i ⟨⟨i0, i1⟩, ⟨hS, hKl⟩, hKm⟩
  dsimp only
  refine ⟨fun ilt => ?_, fun ige => ?_⟩
  · have hx := hMl i i0 (by omega)
    have hxs := hsm hx
    have hKs : ∀ {m : Int}, 0 ≤ m → m < (K.length : Int) → small (el K m) := fun m0 m1 => hsm (hS.2 _ (el_mem ⟨m0, m1⟩))
    have hlen : ∀ {m : Int}, 0 ≤ m → m < (K.length : Int) → (el K m).length = (el M i).length := fun m0 m1 => by rw [hS.2 _ (el_mem ⟨m0, m1⟩), hx]
    refine ⟨fun r => (0 ≤ r ∧ r ≤ (K.length : Int)) ∧ ∀ m, 0 ≤ m → m < r → cmpG cmp1 (el K m) (el M i) < 0, fun r => ((K.length : Int) - r).toNat, ⟨⟨by omega, by omega⟩, fun m _ _ => by omega⟩, ?_⟩
    rintro r ⟨⟨r0, r1⟩, hR⟩
    dsimp only
    have grow : ∀ K' : List (List Int), (∀ z, z ∈ K' ↔ z = el M i ∨ z ∈ K) → ∀ z, z ∈ K' ↔ ∃ m, (0 ≤ m ∧ m < i + 1) ∧ el M m = z := fun K' h z => by
      rw [h, hKm]
      constructor
      · rintro (e | ⟨m, hm, e⟩)
        · exact ⟨i, ⟨i0, by omega⟩, e.symm⟩
        · exact ⟨m, ⟨hm.1, by omega⟩, e⟩
      · rintro ⟨m, hm, e⟩
        by_cases hmi : m = i
        · subst hmi; exact .inl e.symm
        · exact .inr ⟨m, ⟨hm.1, by omega⟩, e⟩
    have put : (r < (K.length : Int) → el K r ≠ el M i ∧ ¬ cmpG cmp1 (el K r) (el M i) < 0) → (0 ≤ i ∧ i < (M.length : Int)) ∧ (0 ≤ r ∧ r ≤ (K.length : Int) ∧ (K.length : Int) ≤ (K.length : Int)) ∧ ((([el M i]).length : Int) + ((sl K r (K.length : Int)).length : Int) ≤ 1000000000) ∧ ((0 : Int) ≤ 0 ∧ 0 ≤ r ∧ r ≤ (K.length : Int)) ∧
        ((([] : List (List Int)).length : Int) + ((sl K 0 r).length : Int) ≤ 1000000000) ∧ (((([] : List (List Int)) ++ (sl K 0 r)).length : Int) + ((([el M i]) ++ (sl K r (K.length : Int))).length : Int) ≤ 1000000000) ∧ (InI (i + 1)) ∧
        (((0 ≤ i + 1 ∧ i + 1 ≤ j + j) ∧ (LexS L0 ((([] : List (List Int)) ++ (sl K 0 r)) ++ (([el M i]) ++ (sl K r (K.length : Int)))) ∧ (((([] : List (List Int)) ++ (sl K 0 r)) ++ (([el M i]) ++ (sl K r (K.length : Int)))).length : Int) ≤ i + 1) ∧
          ∀ z, z ∈ (([] : List (List Int)) ++ (sl K 0 r)) ++ (([el M i]) ++ (sl K r (K.length : Int))) ↔ ∃ m, (0 ≤ m ∧ m < i + 1) ∧ el M m = z) ∧ (j + j - (i + 1)).toNat < (j + j - i).toNat) := fun hne => by
      have l1 := length_sl (l := K) (a := 0) (b := r) ⟨by omega, r0, r1⟩
      have l2 := length_sl (l := K) (a := r) (b := (K.length : Int)) ⟨r0, r1, by omega⟩
      have lo : 0 < r → lexL (el K (r - 1)) (el M i) := fun h0 => (cmp_lex (hlen (by omega) (by omega))).1 (hR (r - 1) (by omega) (by omega))
      have hi : r < (K.length : Int) → lexL (el M i) (el K r) := fun hlt => (lexL_total (hlen r0 hlt).symm (Ne.symm (hne hlt).1)).resolve_right fun c => (hne hlt).2 ((cmp_lex (hlen r0 hlt)).2 c)
      obtain ⟨P1, P2⟩ := lexS_put (k := r) hS hx ⟨r0, r1⟩ lo hi
      have e : (([] : List (List Int)) ++ (sl K 0 r)) ++ (([el M i]) ++ (sl K r (K.length : Int))) = sl K 0 r ++ el M i :: sl K r (K.length : Int) := by simp
      rw [e]
      exact ⟨⟨i0, by omega⟩, ⟨r0, r1, by omega⟩, by simp; omega, ⟨by omega, r0, r1⟩, by simp; omega, by simp; omega, ⟨by omega, by omega⟩, ⟨⟨by omega, by omega⟩, ⟨P1, by simp; omega⟩, grow _ P2⟩, by omega⟩
    refine ⟨fun rlt => ⟨⟨r0, rlt⟩, ⟨i0, by omega⟩, ⟨hKs r0 rlt, hxs⟩, fun hc => ⟨⟨by omega, by omega⟩, ⟨⟨by omega, by omega⟩, fun m m0 m1 => ?_⟩, by omega⟩, fun hc => ⟨fun _ => ⟨⟨r0, rlt⟩, ⟨i0, by omega⟩, ⟨hKs r0 rlt, hxs⟩, fun he => ⟨⟨by omega, by omega⟩, ⟨⟨by omega, by omega⟩, ⟨hS, by omega⟩, grow K fun z => ⟨.inr, fun k => k.elim (fun e => by rw [e, ← he]; exact el_mem ⟨r0, rlt⟩) id⟩⟩, by omega⟩, fun hne => put fun _ => ⟨hne, hc⟩⟩, fun hge => absurd rlt hge⟩⟩,
      fun rge => ⟨fun rlt => absurd rlt rge, fun _ => put fun rlt => absurd rlt rge⟩⟩
    by_cases e : m = r
    · subst e; exact hc
    · exact hR m m0 (by omega)
  have hi : i = j + j := by omega
  subst hi
  have hKn := hS.nodup
  have hin : ∀ x, 0 ≤ x → x < j + j → el M x ∈ K := fun x x0 x1 => (hKm _).2 ⟨x, ⟨x0, x1⟩, rfl⟩
  have hidx : ∀ x, 0 ≤ x → x < j + j → 0 ≤ idxL K (el M x) ∧ idxL K (el M x) < (K.length : Int) := fun x x0 x1 => idxL_mem (hin x x0 x1)
  -- what an isomorphism does
  have hiso : ∀ p, (p.length : Int) = j → IsoP a b p → Keep p c d → ∀ x, 0 ≤ x → x < j → el M x = el M (j + el p x) := fun p p1 p2 p3 x x0 x1 => by
    have hb := isPerm_el p2.1 (i := x) ⟨x0, by omega⟩
    rw [hM1 x x0 x1, hM2 _ hb.1 (by omega)]
    exact mrk_iso p2 (by omega) (fun k k0 k1 u v hu hv => by have := inA k k0 k1 u v ⟨hu.1, by omega⟩ ⟨hv.1, by omega⟩; omega) (by have := hc1.1; omega) (by have := hd1.1; omega) (hK p p1 p2 p3) ⟨x0, by omega⟩
  have hK1 : num ≤ (K.length : Int) := by
    have := nodup_len (ran num id) (K.map fun z => el z 0) (nodup_ran num) fun v hv => by
      have hv := mem_ran.1 hv
      rw [List.mem_map]
      rcases hF v hv.1 hv.2 with ⟨x, hx, e⟩ | ⟨x, hx, e⟩
      · exact ⟨el M x, hin x hx.1 (by omega), by rw [hM1 x hx.1 hx.2, mrk_head]; exact e⟩
      · exact ⟨el M (j + x), hin _ (by omega) (by omega), by rw [hM2 x hx.1 hx.2, mrk_head]; exact e⟩
    rw [length_ran, List.length_map] at this
    omega
  refine ⟨⟨by omega, by omega⟩, ?_⟩
  refine ⟨fun i cnt col => (0 ≤ i ∧ i ≤ j + j) ∧ cnt.length = K.length ∧ col = ran i (fun x => idxL K (el M x)) ∧ ∀ v, 0 ≤ v → v < (K.length : Int) → el cnt v = cntU j (fun x => idxL K (el M x)) i v - cntV j (fun x => idxL K (el M x)) i v, fun i _ _ => (j + j - i).toNat,
    ⟨⟨by omega, by omega⟩, by simp, by simp [ran], fun v v0 v1 => by rw [el_rep ⟨v0, by omega⟩]; simp [cntU, cntV, ran]⟩, ?_⟩
  rintro i cnt col ⟨⟨i0, i1⟩, hcn, rfl, hcv⟩
  dsimp only
  refine ⟨fun ilt => ?_, fun ige => ?_⟩
  · refine ⟨fun r => (0 ≤ r ∧ r < (K.length : Int)) ∧ ∀ m, 0 ≤ m → m < r → el K m ≠ el M i, fun r => ((K.length : Int) - r).toNat, ⟨⟨by omega, by have := hidx i i0 (by omega); omega⟩, fun m _ _ => by omega⟩, ?_⟩
    rintro r ⟨⟨r0, r1⟩, hR⟩
    dsimp only
    refine ⟨⟨r0, r1⟩, ⟨i0, by omega⟩, ⟨hsm (hS.2 _ (el_mem ⟨r0, r1⟩)), hsm (hMl i i0 (by omega))⟩, fun hne => ?_, fun he => ?_⟩
    · obtain ⟨m, hm, e⟩ := mem_el (hin i i0 (by omega))
      have : r < m := by
        rcases Int.lt_trichotomy r m with g | g | g
        · exact g
        · subst g; exact absurd e hne
        · exact absurd e (hR m hm.1 g)
      refine ⟨⟨by omega, by omega⟩, ⟨⟨by omega, by omega⟩, fun q q0 q1 => ?_⟩, by omega⟩
      by_cases e2 : q = r
      · subst e2; exact hne
      · exact hR q q0 (by omega)
    · have hid : idxL K (el M i) = r := idxF_found ⟨r0, r1⟩ (fun m m0 m1 => decide_eq_false (hR m m0 m1)) (decide_eq_true he)
      have hb := cnt_bd j (fun x => idxL K (el M x)) i0 r
      have hv := hcv r r0 r1
      have step : ∀ w, (w = el cnt r + 1 ∧ i < j ∨ w = el cnt r - 1 ∧ j ≤ i) → (InI (i + 1)) ∧ (((0 ≤ i + 1 ∧ i + 1 ≤ j + j) ∧ (se cnt r w).length = K.length ∧ ran i (fun x => idxL K (el M x)) ++ ([r]) = ran (i + 1) (fun x => idxL K (el M x)) ∧
          ∀ v, 0 ≤ v → v < (K.length : Int) → el (se cnt r w) v = cntU j (fun x => idxL K (el M x)) (i + 1) v - cntV j (fun x => idxL K (el M x)) (i + 1) v) ∧ (j + j - (i + 1)).toNat < (j + j - i).toNat) := fun w hw => by
        refine ⟨⟨by omega, by omega⟩, ⟨⟨by omega, by omega⟩, by simp [hcn], by rw [ran_succ _ i0, hid], fun v v0 v1 => ?_⟩, by omega⟩
        rw [cntU_one i0, cntV_one i0, hid]
        by_cases e : v = r
        · subst e
          rw [el_se_same ⟨v0, by omega⟩]
          rcases hw with ⟨rfl, g⟩ | ⟨rfl, g⟩
          · rw [if_pos ⟨g, rfl⟩, if_neg (by omega)]; omega
          · rw [if_neg (by omega), if_pos ⟨g, rfl⟩]; omega
        · rw [el_se_ne r0 v0 (Ne.symm e), if_neg (fun k => e k.2.symm), if_neg (fun k => e k.2.symm), hcv v v0 v1]; omega
      refine ⟨by rw [length_ran]; simp; omega, fun hlt => ⟨⟨r0, by omega⟩, ⟨by omega, by omega⟩, ⟨r0, by omega⟩, step _ (.inl ⟨rfl, hlt⟩)⟩, fun hge => ⟨⟨r0, by omega⟩, ⟨by omega, by omega⟩, ⟨r0, by omega⟩, step _ (.inr ⟨rfl, by omega⟩)⟩⟩
  have hi : i = j + j := by omega
  subst hi
  have zero : ∀ p, (p.length : Int) = j → IsoP a b p → Keep p c d → ∀ v, 0 ≤ v → v < (K.length : Int) → el cnt v = 0 := fun p p1 p2 p3 v v0 v1 => by
    have := cnt_same p2.1 (q := fun x => idxL K (el M x)) (fun x x0 x1 => by
      show idxL K (el M x) = idxL K (el M ((p.length : Int) + el p x))
      rw [p1, hiso p p1 p2 p3 x x0 (by omega)]) v
    rw [p1] at this
    rw [hcv v v0 v1, this]; omega
  refine ⟨fun i => (0 ≤ i ∧ i ≤ (K.length : Int)) , fun i => ((K.length : Int) - i).toNat, ⟨by omega, by omega⟩, ?_⟩
  rintro i ⟨i0, i1⟩
  dsimp only
  refine ⟨fun ilt => ⟨⟨i0, by omega⟩, fun hne => ⟨fun h => absurd h (by simp), fun p p1 p2 p3 => absurd (zero p p1 p2 p3 i i0 (by omega)) hne⟩, fun _ => ⟨⟨by omega, by omega⟩, ⟨by omega, by omega⟩, by omega⟩⟩, fun ige => ?_⟩
  have hcl2 : ((ran (j + j) fun x => idxL K (el M x)).length : Int) = j + j := len_ran (by omega)
  have s0 : ∀ x, 0 ≤ x → x < j → el (sl (ran (j + j) fun x => idxL K (el M x)) 0 j) x = idxL K (el M x) := fun x x0 x1 => by
    rw [el_sl (by omega) x0 (by omega), Int.zero_add, el_ran ⟨x0, by omega⟩]
  have s1 : ∀ x, 0 ≤ x → x < j → el (sl (ran (j + j) fun x => idxL K (el M x)) j (((ran (j + j) fun x => idxL K (el M x)).length : Int))) x = idxL K (el M (j + x)) := fun x x0 x1 => by
    rw [el_sl (by omega) x0 (by omega), el_ran ⟨by omega, by omega⟩]
  have l0 := length_sl (l := ran (j + j) fun x => idxL K (el M x)) (a := 0) (b := j) ⟨by omega, by omega, by omega⟩
  have l1 := length_sl (l := ran (j + j) fun x => idxL K (el M x)) (a := j) (b := ((ran (j + j) fun x => idxL K (el M x)).length : Int)) ⟨by omega, by omega, by omega⟩
  refine ⟨⟨by omega, by omega, by omega⟩, ⟨by omega, by omega, by omega⟩, ?_⟩
  generalize sl (ran (j + j) fun x => idxL K (el M x)) j (((ran (j + j) fun x => idxL K (el M x)).length : Int)) = r1 at *
  generalize sl (ran (j + j) fun x => idxL K (el M x)) 0 j = r0 at *
  have C0 : ColD j r0 := ⟨by omega, fun x x0 x1 => by have := hidx x x0 (by omega); rw [s0 x x0 x1]; omega⟩
  have C1 : ColD j r1 := ⟨by omega, fun x x0 x1 => by have := hidx (j + x) (by omega) (by omega); rw [s1 x x0 x1]; omega⟩
  have KP : ∀ p, (p.length : Int) = j → IsoP a b p → Keep p c d → Keep p r0 r1 := fun p p1 p2 p3 x x0 x1 => by
    have hb := isPerm_el p2.1 (i := x) ⟨x0, by omega⟩
    rw [s0 x x0 (by omega), s1 _ hb.1 (by omega), hiso p p1 p2 p3 x x0 (by omega)]
  refine ⟨fun _ => ⟨fun _ => ⟨C0, C1⟩, fun p p1 p2 p3 => ⟨rfl, KP p p1 p2 p3⟩⟩, fun hne => ⟨⟨⟨C0, C1⟩, ⟨by omega, by omega⟩, fun v v0 v1 => ?_, KP⟩, by omega⟩⟩
  obtain ⟨m, hm, e⟩ := (hKm _).1 (el_mem (l := K) ⟨v0, v1⟩)
  have hid : idxL K (el M m) = v := by rw [e]; exact (idxL_self ⟨v0, v1⟩).2 fun q q0 q1 => nodup_el.1 hKn q v q0 q1 v1
  by_cases g : m < j
  · exact .inl ⟨m, ⟨hm.1, g⟩, by rw [s0 m hm.1 g, hid]⟩
  · exact .inr ⟨m - j, ⟨by omega, by omega⟩, by rw [s1 _ (by omega) (by omega), show j + (m - j) = m by omega, hid]⟩
section
variable {a b : List (List (List Int))} {f c c' p : List Int}
theorem padM_len (h : (f.length : Int) ≤ (c.length : Int)) : (padM f c).length = c.length := by
  unfold padM; rw [List.length_append, List.length_replicate]; omega
theorem padM_l {i : Int} (h : 0 ≤ i ∧ i < (f.length : Int)) : el (padM f c) i = el f i := el_append_l h
theorem padM_r {i : Int} (h : (f.length : Int) ≤ i ∧ i < (c.length : Int)) : el (padM f c) i = -1 := by
  unfold padM; rw [el_append_r h.1]; exact el_rep ⟨by omega, by omega⟩
theorem ext_pad (h : (f.length : Int) ≤ (c.length : Int)) (h0 : ∀ x ∈ f, 0 ≤ x) : ExtI (padM f c) p ↔ ∀ x, 0 ≤ x → x < (f.length : Int) → el p x = el f x := by
  have hl := padM_len h
  constructor
  · intro g x x0 x1
    rw [g x x0 (by omega) (by rw [padM_l ⟨x0, x1⟩]; exact h0 _ (el_mem ⟨x0, x1⟩)), padM_l ⟨x0, x1⟩]
  · intro g x x0 x1 x2
    by_cases e : x < (f.length : Int)
    · rw [padM_l ⟨x0, e⟩]; exact g x x0 e
    · rw [padM_r ⟨by omega, by omega⟩] at x2; omega
theorem mem_pad (h : (f.length : Int) ≤ (c.length : Int)) (h0 : ∀ x ∈ f, 0 ≤ x) : p ∈ extL a b (padM f c) ↔ p.length = c.length ∧ IsoP a b p ∧ ∀ x, 0 ≤ x → x < (f.length : Int) → el p x = el f x := by
  rw [mem_ext, padM_len h, ext_pad h h0]
theorem app_ag {v : Int} : (∀ x, 0 ≤ x → x < ((f ++ [v]).length : Int) → el p x = el (f ++ [v]) x) ↔ (∀ x, 0 ≤ x → x < (f.length : Int) → el p x = el f x) ∧ el p (f.length : Int) = v := by
  constructor
  · intro h
    refine ⟨fun x x0 x1 => by rw [h x x0 (by simp; omega), el_append_l ⟨x0, x1⟩], by rw [h _ (by omega) (by simp; omega), el_append_last rfl]⟩
  · rintro ⟨h1, h2⟩ x x0 x1
    by_cases e : x < (f.length : Int)
    · rw [el_append_l ⟨x0, e⟩]; exact h1 x x0 e
    · have e : x = (f.length : Int) := by simp at x1; omega
      rw [el_append_last e, e]; exact h2
theorem exB_pad {v : Int} (h : (f.length : Int) + 1 ≤ (c.length : Int)) (h0 : ∀ x ∈ f, 0 ≤ x) (v0 : 0 ≤ v) (hc : c'.length = c.length) : exB a b (padM f c) (f.length : Int) v = extL a b (padM (f ++ [v]) c') := by
  have h0' : ∀ x ∈ f ++ [v], 0 ≤ x := fun x hx => (List.mem_append.1 hx).elim (h0 x) fun k => by rw [List.mem_singleton.1 k]; exact v0
  have hl' : ((f ++ [v]).length : Int) ≤ (c'.length : Int) := by simp; omega
  have l1 := padM_len hl'
  have l2 := padM_len (f := f) (c := c) (by omega)
  have hlx : LexS (padM f c).length (extL a b (padM (f ++ [v]) c')) := by have := ext_lex (a := a) (b := b) (f := padM (f ++ [v]) c'); rwa [l1, hc, ← l2] at this
  refine lexS_uniq (ext_lex.filter _) hlx fun p => ?_
  show p ∈ exB a b (padM f c) (f.length : Int) v ↔ _
  rw [mem_exB, mem_pad (by omega) h0, mem_pad hl' h0', app_ag, hc]
  exact ⟨fun k => ⟨k.1.1, k.1.2.1, k.1.2.2, k.2⟩, fun k => ⟨⟨k.1, k.2.1, k.2.2.1⟩, k.2.2.2⟩⟩
theorem con_of_iso (hI : IsoP a b p) (hf : (f.length : Int) ≤ (p.length : Int)) (ha : ∀ k, 0 ≤ k → k < (a.length : Int) → isTab (el a k) = true ∧ (el a k).length = p.length) (h : ∀ x, 0 ≤ x → x < (f.length : Int) → el p x = el f x) : conA a b f := fun k k0 k1 x y x0 x1 y0 y1 z1 => by
  have hk := ha k k0 k1
  have z0 := ((isTab_row hk.1 (i := x) ⟨x0, by omega⟩).2 y y0 (by omega)).1
  have := hI.2 k k0 k1 x y ⟨x0, by omega⟩ ⟨y0, by omega⟩
  rw [h x x0 x1, h y y0 y1] at this
  rw [← h _ z0 z1]; exact this
theorem ext_full (hf : f.length = c.length) (hp : isPerm f = true) (ha : ∀ k, 0 ≤ k → k < (a.length : Int) → isTab (el a k) = true ∧ (el a k).length = c.length) (hc : conA a b f) : extL a b (padM f c) = [f] := by
  have h0 : ∀ x ∈ f, 0 ≤ x := fun x hx => ((isPerm_iff.1 hp).2 x hx).1
  have hl := padM_len (f := f) (c := c) (by omega)
  have hi : IsoP a b f := ⟨hp, fun k k0 k1 x y hx hy => by
    have hk := ha k k0 k1
    have z := (isTab_row hk.1 (i := x) ⟨hx.1, by omega⟩).2 y hy.1 (by omega)
    exact hc k k0 k1 x y hx.1 hx.2 hy.1 hy.2 (by omega)⟩
  refine lexS_uniq (n := c.length) (by have := ext_lex (a := a) (b := b) (f := padM f c); rwa [hl] at this) ⟨List.pairwise_singleton _ _, fun x hx => by rw [List.mem_singleton.1 hx]; exact hf⟩ fun p => ?_
  rw [mem_pad (by omega) h0, List.mem_singleton]
  constructor
  · rintro ⟨h1, _, h3⟩; exact ext_el (by omega) fun i i0 i1 => h3 i i0 (by omega)
  · rintro rfl; exact ⟨hf, hi, fun _ _ _ => rfl⟩
end
theorem p_spec_l03Seek (a b : List (List (List Int))) (f c d : List Int) (most : Int) (out : List (List Int)) (hp : SkD a b f c d most out) :
    wp_spec_l03Seek a b f c d most out (fun y0 => y0 = out ++ (extL a b (padM f c)).take (most - (out.length : Int)).toNat) := by
  obtain ⟨⟨hta, htb, hab, hn0, hc, hd⟩, ⟨hfl, hfn, hfr⟩, hco, ⟨ho1, ho2⟩, hke⟩ := hp
  have ht := isTab_len (hta.2.2 0 (by omega) (by have := hta.1; omega)).1
  have hka := hta.2.1
  have hcl : (c.length : Int) = ((el a 0).length : Int) := hc.1
  have hdl : d.length = c.length := by have := hd.1; omega
  have haa : ∀ k, 0 ≤ k → k < (a.length : Int) → isTab (el a k) = true ∧ (el a k).length = c.length := fun k k0 k1 => ⟨(hta.2.2 k k0 k1).1, by have := (hta.2.2 k k0 k1).2; omega⟩
  have hbb : ∀ k, 0 ≤ k → k < (a.length : Int) → isTab (el b k) = true ∧ (el b k).length = c.length := fun k k0 k1 => ⟨(htb.2.2 k k0 (by omega)).1, by have := (htb.2.2 k k0 (by omega)).2; omega⟩
  have hf0 : ∀ x ∈ f, 0 ≤ x := fun x hx => (hfr x hx).1
  have hsf : small f := by show _ ≤ (1000000000 : Int); omega
  unfold wp_spec_l03Seek
  refine ⟨fun he => ⟨hsf, by simp; omega, ?_⟩, fun hne => ?_⟩
  · rw [ext_full (by omega) (isPerm_iff.2 ⟨hfn, fun x hx => by have := hfr x hx; omega⟩) haa hco, List.take_of_length_le (by simp; omega)]
  have hpl := padM_len hfl
  have hx : 0 ≤ (f.length : Int) ∧ (f.length : Int) < ((padM f c).length : Int) := ⟨by omega, by omega⟩
  have hbe : ∀ y, 0 ≤ y → y < (f.length : Int) → 0 ≤ el (padM f c) y := fun y y0 y1 => by rw [padM_l ⟨y0, y1⟩]; exact hf0 _ (el_mem ⟨y0, y1⟩)
  refine ⟨fun v o => (0 ≤ v ∧ v ≤ (c.length : Int)) ∧ o = out ++ (exA a b (padM f c) (f.length : Int) v).take (most - (out.length : Int)).toNat, fun v _ => ((c.length : Int) - v).toNat, ⟨⟨by omega, by omega⟩, by rw [exA_zero hx]; simp⟩, ?_⟩
  rintro v o ⟨⟨v0, v1⟩, ho⟩
  dsimp only
  refine ⟨fun vlt => ⟨fun olt => ?_, fun oge => ?_⟩, fun vge => ?_⟩
  · have hsucc := exA_succ (a := a) (b := b) (v := v) hx hbe
    have hwhole : o = out ++ exA a b (padM f c) (f.length : Int) v := by
      rw [ho] at olt ⊢
      rw [List.length_append, List.length_take] at olt
      rw [List.take_of_length_le (by omega)]
    have hol : (out.length : Int) ≤ (o.length : Int) := by rw [hwhole, List.length_append]; omega
    have skip : (∀ p, p.length = c.length → IsoP a b p → (∀ x, 0 ≤ x → x < (f.length : Int) → el p x = el f x) → el p (f.length : Int) = v → False) →
        InI (v + 1) ∧ (((0 ≤ v + 1 ∧ v + 1 ≤ (c.length : Int)) ∧ o = out ++ (exA a b (padM f c) (f.length : Int) (v + 1)).take (most - (out.length : Int)).toNat) ∧ ((c.length : Int) - (v + 1)).toNat < ((c.length : Int) - v).toNat) := fun h => by
      refine ⟨⟨by omega, by omega⟩, ⟨⟨by omega, by omega⟩, ?_⟩, by omega⟩
      have e : exB a b (padM f c) (f.length : Int) v = [] := List.eq_nil_iff_forall_not_mem.2 fun p hp => by
        obtain ⟨h1, h2⟩ := mem_exB.1 hp
        obtain ⟨p1, p2, p3⟩ := (mem_pad hfl hf0).1 h1
        exact h p p1 p2 p3 h2
      rw [hsucc, e, List.append_nil]; exact ho
    have hv : 0 ≤ v ∧ v < (c.length : Int) := ⟨v0, by omega⟩
    refine ⟨hsf, by simp; omega, hsf, fun hcn => skip fun p p1 p2 p3 p4 => ?_, fun hcn => ⟨⟨by omega, by omega⟩, ⟨v0, vlt⟩, fun hcl2 => skip fun p p1 p2 p3 p4 => ?_, fun hcl2 => ?_⟩⟩
    · obtain ⟨i, hi, e⟩ := mem_el (List.contains_iff_mem.1 hcn)
      have := isPerm_inj p2.1 (i := i) (j := (f.length : Int)) ⟨hi.1, by omega⟩ ⟨by omega, by omega⟩ (by rw [p3 i hi.1 hi.2, e, p4])
      omega
    · have := hke p p1 p2 ((ext_pad hfl hf0).2 p3) (f.length : Int) (by omega) (by omega)
      rw [p4] at this; exact hcl2 this
    have hvn : v ∉ f := fun hm => by rw [List.contains_iff_mem.2 hm] at hcn; cases hcn
    have hfr' : ∀ x ∈ f ++ [v], 0 ≤ x ∧ x < (c.length : Int) := fun x hx => (List.mem_append.1 hx).elim (hfr x) fun k => by rw [List.mem_singleton.1 k]; exact hv
    have hfit : fitD a b (f ++ [v]) := by
      refine ⟨by show (a.length : Int) ≤ 1000000000; omega, by show ((f ++ [v]).length : Int) ≤ 1000000000; simp; omega, hab.symm, fun k k0 k1 => ⟨(haa k k0 k1).1, (hbb k k0 k1).1, by have := (haa k k0 k1).2; simp; omega, fun x hx => by have := (hbb k k0 k1).2; have := hfr' x hx; omega, fun x y x0 x1 y0 y1 z1 => ?_⟩⟩
      simp only [List.length_append, List.length_singleton, Int.natCast_add, Int.natCast_one] at x1 y1 z1
      exact conP_app (hco k k0 k1) x0 (by omega) y0 (by omega) ((isTab_row (haa k k0 k1).1 (i := x) ⟨x0, by have := (haa k k0 k1).2; omega⟩).2 y y0 (by have := (haa k k0 k1).2; omega)).1 (by omega)
    refine ⟨hfit, fun hcon => skip fun p p1 p2 p3 p4 => ?_, fun hcon => ⟨by show (c.length : Int) ≤ 1000000000; omega, by show (d.length : Int) ≤ 1000000000; omega, ⟨by omega, by omega⟩, ⟨v0, vlt⟩, ?_, fun r0 r1 r2 hR => ⟨fun h2 => ?_, fun h2 => skip fun p p1 p2 p3 p4 => ?_⟩⟩⟩
    · exact (dec_iff_f.1 hcon) (con_of_iso p2 (by simp; omega) (fun k k0 k1 => by rw [p1]; exact haa k k0 k1) (app_ag.2 ⟨p3, p4⟩))
    · refine ⟨hta, htb, hab, hn0, ⟨by simpa using hc.1, fun i i0 i1 => ?_⟩, ⟨by simpa using hd.1, fun i i0 i1 => ?_⟩⟩
      · by_cases e : i = (f.length : Int)
        · subst e; rw [el_se_same ⟨by omega, by omega⟩]; omega
        · rw [el_se_ne (by omega) i0 (Ne.symm e)]; exact hc.2 i i0 i1
      · by_cases e : i = v
        · subst e; rw [el_se_same ⟨by omega, by omega⟩]; omega
        · rw [el_se_ne (by omega) i0 (Ne.symm e)]; exact hd.2 i i0 i1
    all_goals
      have keep : ∀ p, p.length = c.length → IsoP a b p → (∀ x, 0 ≤ x → x < (f.length : Int) → el p x = el f x) → el p (f.length : Int) = v → Keep p (se c (f.length : Int) 60) (se d v 60) := fun p p1 p2 p3 p4 x x0 x1 => by
        have hb := isPerm_el p2.1 ⟨x0, x1⟩
        by_cases e : x = (f.length : Int)
        · subst e; rw [p4, el_se_same ⟨by omega, by omega⟩, el_se_same ⟨by omega, by omega⟩]
        · rw [el_se_ne (by omega) x0 (Ne.symm e), el_se_ne (by omega) hb.1 fun k => e (isPerm_inj p2.1 ⟨x0, x1⟩ ⟨by omega, by omega⟩ (by rw [p4, k]))]
          exact hke p p1 p2 ((ext_pad hfl hf0).2 p3) x x0 x1
    · have hcc := hR.1 h2
      have hr0 : r0.length = c.length := by have := hcc.1.1; omega
      have e : exB a b (padM f c) (f.length : Int) v = extL a b (padM (f ++ [v]) r0) := exB_pad (by omega) hf0 v0 hr0
      refine ⟨by simp; omega, ⟨⟨hta, htb, hab, hn0, hcc.1, hcc.2⟩, ⟨by simp; omega, List.nodup_append.2 ⟨hfn, by simp, fun y hy z hz e => by rw [List.mem_singleton.1 hz] at e; exact hvn (e ▸ hy)⟩, fun x hx => by have := hfr' x hx; omega⟩, dec_iff.1 hcon, ⟨olt, ho2⟩, fun p p1 p2 p3 => ?_⟩, ⟨by omega, by omega⟩, ⟨⟨by omega, by omega⟩, ?_⟩, by omega⟩
      · have p3 := app_ag.1 ((ext_pad (by simp; omega) (fun x hx => (hfr' x hx).1)).1 p3)
        exact (hR.2 p (by omega) p2 (keep p (by omega) p2 p3.1 p3.2)).2
      · rw [hsucc, e, List.take_append, List.take_of_length_le (l := exA a b (padM f c) (f.length : Int) v) (by have := congrArg List.length hwhole; rw [List.length_append] at this; omega), ← List.append_assoc, ← hwhole]
        congr 2
        have := congrArg List.length hwhole; rw [List.length_append] at this; omega
    · have := (hR.2 p (by omega) p2 (keep p p1 p2 p3 p4)).1
      rw [h2] at this; cases this
  · obtain ⟨R, hR⟩ := exA_pre (a := a) (b := b) (v := v) hx hbe
    rw [ho, hR, List.take_append_of_le_length]
    rw [ho, List.length_append, List.length_take] at oge
    omega
  · have e : v = ((padM f c).length : Int) := by omega
    rw [ho, e, exA_all hx]
theorem pad_nil {a b : List (List (List Int))} {c : List Int} (h : (c.length : Int) = ((el a 0).length : Int)) (h2 : (el a 0).length = (el b 0).length) : extL a b (padM [] c) = isoL a b := by
  have hl := padM_len (f := []) (c := c) (by simp)
  unfold extL isoL
  rw [if_pos h2, hl, h]
  refine List.filter_congr fun p _ => dec_congr ⟨fun k => k.1, fun k => ⟨k, (ext_pad (by simp) fun x hx => by cases hx).2 fun x x0 x1 => by simp at x1; omega⟩⟩
theorem p_spec_l03Maps (a b : List (List (List Int))) (f : List Int) (most : Int) (hp : f = [] ∧ TabsP a ∧ TabsP b ∧ a.length = b.length ∧ 1 ≤ most ∧ most ≤ 1000000) :
    wp_spec_l03Maps a b f most (fun y0 => y0 = (isoL a b).take most.toNat) := by
  obtain ⟨rfl, hta, htb, hab, hm1, hm2⟩ := hp
  unfold wp_spec_l03Maps
  have ht := isTab_len (hta.2.2 0 (by omega) (by have := hta.1; omega)).1
  refine ⟨⟨by omega, by have := hta.1; omega⟩, ⟨by omega, by have := htb.1; omega⟩, fun hne => ?_, fun he => ⟨⟨by omega, by have := hta.1; omega⟩, ⟨by omega, by have := hta.1; omega⟩, ⟨by omega, by omega⟩, ⟨by omega, by omega⟩, fun h => absurd h (by simp), fun _ => ?_⟩⟩
  · unfold isoL; rw [if_neg (by omega)]; simp
  have hz : ColD ((el a 0).length : Int) (List.replicate ((el a 0).length : Int).toNat (0 : Int)) := ⟨by simp, fun i i0 i1 => by rw [el_rep ⟨i0, by omega⟩]; omega⟩
  have hk : ∀ p : List Int, (p.length : Int) = ((el a 0).length : Int) → IsoP a b p → Keep p (List.replicate ((el a 0).length : Int).toNat (0 : Int)) (List.replicate ((el a 0).length : Int).toNat (0 : Int)) := fun p p1 p2 x x0 x1 => by
    have hb := isPerm_el p2.1 ⟨x0, x1⟩
    rw [el_rep ⟨x0, by omega⟩, el_rep ⟨hb.1, by omega⟩]
  refine ⟨⟨hta, htb, hab, by omega, hz, hz⟩, fun r0 r1 r2 hR => ⟨fun h2 => ?_, fun h2 => ?_⟩⟩
  · have e : isoL a b = [] := List.eq_nil_iff_forall_not_mem.2 fun p hp => by
      unfold isoL at hp
      rw [if_pos (by omega), List.mem_filter, dec_iff, grow_iff (by omega)] at hp
      have := (hR.2 p hp.1.1 hp.2 (hk p hp.1.1 hp.2)).1
      rw [h2] at this; cases this
    rw [e]; simp
  · have hcc := hR.1 h2
    refine ⟨⟨⟨hta, htb, hab, by omega, hcc.1, hcc.2⟩, ⟨by simp, List.nodup_nil, fun x hx => by cases hx⟩, fun k k0 k1 x y x0 x1 => by simp at x1; omega, ⟨by simp; omega, hm2⟩, fun p p1 p2 _ => (hR.2 p (by have := hcc.1.1; omega) p2 (hk p (by have := hcc.1.1; omega) p2)).2⟩, ?_⟩
    rw [pad_nil hcc.1.1 (by omega)]
    simp
theorem tabs2 {s t : List (List Int)} (h : pmB s t = true) : TabsP [s, t] := by
  unfold pmB at h
  simp only [Bool.and_eq_true, decide_eq_true_eq] at h
  refine ⟨by simp, by simp, fun k k0 k1 => ?_⟩
  have hk : k = 0 ∨ k = 1 := by simp at k1; omega
  rcases hk with rfl | rfl
  · exact ⟨h.1.1, rfl⟩
  · exact ⟨h.1.2, by show t.length = s.length; omega⟩
theorem tabs1 {r : List (List Int)} (h : isTab r = true) : TabsP [r] := by
  refine ⟨by simp, by simp, fun k k0 k1 => ?_⟩
  have hk : k = 0 := by simp at k1; omega
  subst hk
  exact ⟨h, rfl⟩
theorem p_spec_l02Maps (s1 s2 t1 t2 : List (List Int)) (most : Int) (hp : pmB s1 s2 = true ∧ pmB t1 t2 = true ∧ 1 ≤ most ∧ most ≤ 1000000) :
    wp_spec_l02Maps s1 s2 t1 t2 most (fun y0 => y0 = (isoL [s1, s2] [t1, t2]).take most.toNat) :=
  ⟨⟨rfl, tabs2 hp.1, tabs2 hp.2.1, rfl, hp.2.2.1, hp.2.2.2⟩, rfl⟩
theorem take1 {α : Type} [Inhabited α] {l : List α} : (((l.take (1 : Int).toNat).length : Int) = 0 ↔ l = []) ∧ (l ≠ [] → el (l.take (1 : Int).toNat) 0 = el l 0) := by
  cases l with
  | nil => simp
  | cons x l => simp [el]
theorem pmB_len {s t : List (List Int)} (h : pmB s t = true) : (s.length : Int) = (t.length : Int) ∧ isTab s = true ∧ isTab t = true := by
  unfold pmB at h
  simp only [Bool.and_eq_true, decide_eq_true_eq] at h
  exact ⟨h.2, h.1.1, h.1.2⟩
theorem tab_small2 {t : List (List Int)} (h : isTab t = true) : small2 t := by
  have := isTab_len h
  refine ⟨by show (t.length : Int) ≤ 1000000000; omega, fun r hr => ?_⟩
  obtain ⟨i, hi, rfl⟩ := mem_el hr
  have := isTab_row h hi
  show ((el t i).length : Int) ≤ 1000000000; omega
theorem isoL_ne {a b : List (List (List Int))} (h : ¬ ((el a 0).length : Int) = ((el b 0).length : Int)) : isoL a b = [] := by unfold isoL; rw [if_neg (by omega)]
theorem p_spec_SolutionIsomorphism (s1 s2 t1 t2 : List (List Int)) (hp : pmB s1 s2 = true ∧ pmB t1 t2 = true) :
    wp_spec_SolutionIsomorphism s1 s2 t1 t2 (fun y0 y1 => y0 = (if isoL [s1, s2] [t1, t2] = [] then [] else el (isoL [s1, s2] [t1, t2]) 0) ∧ y1 = (if isoL [s1, s2] [t1, t2] = [] then (4 : Int) else 0)) := by
  obtain ⟨h1, h2⟩ := hp
  obtain ⟨l1, a1, a2⟩ := pmB_len h1
  obtain ⟨l2, b1, b2⟩ := pmB_len h2
  unfold wp_spec_SolutionIsomorphism
  refine ⟨⟨tab_small2 a1, tab_small2 a2⟩, fun h => absurd h (by rw [h1]; simp), fun _ => ⟨⟨tab_small2 b1, tab_small2 b2⟩, fun h => absurd h (by rw [h2]; simp), fun _ => ⟨fun hne => ?_, fun he => ⟨⟨h1, h2, by omega, by omega⟩, fun h0 => ?_, fun h0 => ?_⟩⟩⟩⟩
  · rw [isoL_ne (show ¬ ((el [s1, s2] 0).length : Int) = ((el [t1, t2] 0).length : Int) from hne), if_pos rfl, if_pos rfl]
    exact ⟨rfl, rfl⟩
  · rw [if_pos (take1.1.1 h0), if_pos (take1.1.1 h0)]
    exact ⟨rfl, rfl⟩
  · have hne : isoL [s1, s2] [t1, t2] ≠ [] := fun h => h0 (take1.1.2 h)
    rw [if_neg hne, if_neg hne]
    exact ⟨⟨by omega, by omega⟩, take1.2 hne, rfl⟩

set_option maxRecDepth 100000 in
set_option maxHeartbeats 4000000 in
theorem w_spec_l03Mark (t : List (List (List Int))) (colours : List Int) (x : Int) (Q : List Int → Prop) (h : wp_spec_l03Mark t colours x Q) : AF Try.prog 58 [.lst (tabs t), .lst (ints colours), ci x] (fun R_ => ∃ y0, Q y0 ∧ R_ = .own (ints y0)) := by
  refine AF.ofWQ (af_enter (n := 194) Try.func58 rfl (by rfl) rfl (Nat.le_of_ble_eq_true rfl) ?_)
  unfold wp_spec_l03Mark at h
  refine aw_seq ?_
  refine aw_gh (gh_to (n := 194) (σ' := []) (env' := [(0, .c (.lst (tabs t))), (1, .c (.lst (ints colours))), (2, .c (ci x))]) rfl rfl ⟨rfl, rfl, rfl, trivial⟩) ?_
  refine aw_region ?_
  refine run_s (ss_assign rfl) rfl ?_
  refine run_nil ?_
  refine aw_seq ?_
  refine aw_gh (gh_to (n := 194) (σ' := []) (env' := [(0, .c (.lst (tabs t))), (1, .c (.lst (ints colours))), (2, .c (ci x))]) rfl rfl ⟨rfl, rfl, rfl, trivial⟩) ?_
  refine aw_regionD (kd := kdl [0, 0, 0, 0, 0, 1, 2, 0, 0]) (ord := [0, 1, 2, 3, 4, 7, 5, 6, 8]) [] mixed (by kernel_rfl) ?_
  refine rd_s rfl rfl trivial (ss_move rfl) rfl ?_
  refine rd_s rfl rfl trivial (ss_lenL (f := ci) rfl) rfl ?_
  refine rd_s rfl rfl trivial (ss_move rfl) rfl ?_
  refine rd_s rfl rfl trivial (ss_move rfl) rfl ?_
  obtain ⟨q1, h⟩ := h
  refine rd_s rfl rfl trivial (ss_idxL rfl rfl q1) rfl ?_
  refine rd_s rfl rfl trivial (ss_assign rfl) rfl ?_
  refine rd_l rfl rfl trivial (ss_loadL (f := ci) rfl q1) rfl ?_
  refine rd_w rfl rfl trivial rfl rfl (ws_buildSlice (id := 28) (ps := [(0, .tmp 27)]) rfl rfl (Nat.le_of_ble_eq_true rfl) rfl ⟨rfl, ?_⟩)
  refine rd_s rfl rfl trivial (ss_assign rfl) rfl ?_
  refine rd_nil ?_
  refine aw_seq ?_
  refine aw_seq ?_
  refine aw_region ?_
  refine run_s (ss_assign rfl) rfl ?_
  refine run_nil ?_
  refine aw_block ?_
  obtain ⟨H1, m1, q2, h⟩ := h
  refine aw_loop2 (fun (v9_1 : Int) (o28_1 : List Int) => ⟨[(28, ⟨ints o28_1, []⟩)], [(0, .c (.lst (tabs t))), (1, .c (.lst (ints colours))), (2, .c (ci x)), (7, .c (ci (colours.length : Int))), (8, .ref 28), (9, .c (ci v9_1))], 194⟩) H1 m1 ⟨0, [el colours x], ghe_to (n := 194) rfl rfl ⟨rfl, rfl, rfl, rfl, rfl, rfl, trivial⟩, q2⟩ ?_
  rintro v9_1 o28_1 q2
  replace h := h v9_1 o28_1 q2
  refine aw_seq ?_
  refine aw_seq ?_
  refine aw_region ?_
  refine run_s (ss_move rfl) rfl ?_
  refine run_s (ss_move rfl) rfl ?_
  refine run_s (ss_lenL (f := (fun r => C.lst (rows r))) rfl) rfl ?_
  refine run_s (ss_lss rfl rfl) rfl ?_
  refine run_nil ?_
  refine aw_cond rfl (fun q3 => ?_) (fun q3 => ?_)
  ·replace h := h.1 (of_decide_eq_true q3)
   refine aw_skip ?_
   refine aw_seq ?_
   refine aw_block ?_
   refine aw_seq ?_
   refine aw_region ?_
   refine run_w (ws_buildSlice (id := 35) (ps := []) rfl rfl (Nat.le_of_ble_eq_true rfl) rfl ⟨rfl, ?_⟩)
   refine run_s (ss_assign rfl) rfl ?_
   refine run_nil ?_
   refine aw_seq ?_
   refine aw_seq ?_
   refine aw_region ?_
   refine run_s (ss_assign rfl) rfl ?_
   refine run_nil ?_
   refine aw_block ?_
   obtain ⟨H2, m2, q4, h⟩ := h
   refine aw_loop2 (fun (v11_2 : Int) (o35_2 : List Int) => ⟨[(35, ⟨ints o35_2, []⟩), (28, ⟨ints o28_1, []⟩)], [(0, .c (.lst (tabs t))), (1, .c (.lst (ints colours))), (2, .c (ci x)), (7, .c (ci (colours.length : Int))), (8, .ref 28), (9, .c (ci v9_1)), (10, .ref 35), (11, .c (ci v11_2))], 194⟩) H2 m2 ⟨0, ([] : List Int), ghe_to (n := 194) rfl rfl ⟨rfl, rfl, rfl, rfl, rfl, rfl, rfl, rfl, trivial⟩, q4⟩ ?_
   rintro v11_2 o35_2 q4
   replace h := h v11_2 o35_2 q4
   refine aw_seq ?_
   refine aw_seq ?_
   refine aw_region ?_
   refine run_s (ss_move rfl) rfl ?_
   refine run_s (ss_move rfl) rfl ?_
   refine run_s (ss_lss rfl rfl) rfl ?_
   refine run_nil ?_
   refine aw_cond rfl (fun q5 => ?_) (fun q5 => ?_)
   ·replace h := h.1 (of_decide_eq_true q5)
    refine aw_skip ?_
    refine aw_seq ?_
    refine aw_block ?_
    refine aw_seq ?_
    refine aw_gh (gh_to (n := 194) (σ' := [(35, ⟨ints o35_2, []⟩), (28, ⟨ints o28_1, []⟩)]) (env' := [(0, .c (.lst (tabs t))), (1, .c (.lst (ints colours))), (2, .c (ci x)), (7, .c (ci (colours.length : Int))), (8, .ref 28), (9, .c (ci v9_1)), (10, .ref 35), (11, .c (ci v11_2))]) rfl rfl ⟨rfl, rfl, rfl, rfl, rfl, rfl, rfl, rfl, trivial⟩) ?_
    refine aw_regionD (kd := kdl [0, 0, 0, 1, 0, 0, 1, 0, 0, 1, 0, 0, 0, 1, 0, 0, 1, 0, 0, 1, 0, 0]) (ord := [0, 1, 2, 4, 7, 10, 11, 12, 14, 17, 3, 5, 6, 8, 9, 20, 13, 15, 16, 18, 19, 21]) [] mixed (by kernel_rfl) ?_
    refine rd_s rfl rfl trivial (ss_move rfl) rfl ?_
    refine rd_s rfl rfl trivial (ss_move rfl) rfl ?_
    obtain ⟨q6, h⟩ := h
    refine rd_s rfl rfl trivial (ss_idxL rfl rfl q6) rfl ?_
    refine rd_s rfl rfl trivial (ss_move rfl) rfl ?_
    refine rd_s rfl rfl trivial (ss_move rfl) rfl ?_
    refine rd_s rfl rfl trivial (ss_move rfl) rfl ?_
    refine rd_s rfl rfl trivial (ss_move rfl) rfl ?_
    obtain ⟨q7, h⟩ := h
    refine rd_s rfl rfl trivial (ss_idxL rfl rfl q7) rfl ?_
    refine rd_s rfl rfl trivial (ss_move rfl) rfl ?_
    refine rd_s rfl rfl trivial (ss_move rfl) rfl ?_
    refine rd_l rfl rfl trivial (ss_loadL (f := (fun r => C.lst (rows r))) rfl q6) rfl ?_
    obtain ⟨q8, h⟩ := h
    refine rd_s rfl rfl trivial (ss_idxL rfl rfl q8) rfl ?_
    refine rd_l rfl rfl trivial (ss_loadL (f := (fun r => C.lst (ints r))) rfl q8) rfl ?_
    obtain ⟨q9, h⟩ := h
    refine rd_s rfl rfl trivial (ss_idxL rfl rfl q9) rfl ?_
    refine rd_l rfl rfl trivial (ss_loadL (f := ci) rfl q9) rfl ?_
    refine rd_s rfl rfl trivial (ss_assign rfl) rfl ?_
    refine rd_l rfl rfl trivial (ss_loadL (f := (fun r => C.lst (rows r))) rfl q7) rfl ?_
    obtain ⟨q10, h⟩ := h
    refine rd_s rfl rfl trivial (ss_idxL rfl rfl q10) rfl ?_
    refine rd_l rfl rfl trivial (ss_loadL (f := (fun r => C.lst (ints r))) rfl q10) rfl ?_
    obtain ⟨q11, h⟩ := h
    refine rd_s rfl rfl trivial (ss_idxL rfl rfl q11) rfl ?_
    refine rd_l rfl rfl trivial (ss_loadL (f := ci) rfl q11) rfl ?_
    refine rd_s rfl rfl trivial (ss_assign rfl) rfl ?_
    refine rd_nil ?_
    refine aw_seq ?_
    refine aw_gh (gh_to (n := 194) (σ' := [(35, ⟨ints o35_2, []⟩), (28, ⟨ints o28_1, []⟩)]) (env' := [(0, .c (.lst (tabs t))), (1, .c (.lst (ints colours))), (2, .c (ci x)), (7, .c (ci (colours.length : Int))), (8, .ref 28), (9, .c (ci v9_1)), (10, .ref 35), (11, .c (ci v11_2)), (12, .c (ci (el (el (el t v9_1) x) v11_2))), (13, .c (ci (el (el (el t v9_1) v11_2) x)))]) rfl rfl ⟨rfl, rfl, rfl, rfl, rfl, rfl, rfl, rfl, rfl, rfl, trivial⟩) ?_
    refine aw_region ?_
    refine run_s (ss_assign rfl) rfl ?_
    refine run_nil ?_
    refine aw_seq ?_
    refine aw_seq ?_
    refine aw_region ?_
    refine run_s (ss_move rfl) rfl ?_
    refine run_s (ss_move rfl) rfl ?_
    refine run_s (ss_eql rfl rfl) rfl ?_
    refine run_nil ?_
    refine aw_cond rfl (fun q12 => ?_) (fun q12 => ?_)
    ·replace h := h.1 (of_decide_eq_true q12)
     refine aw_region ?_
     refine run_s (ss_assign rfl) rfl ?_
     refine run_nil ?_
     refine aw_seq ?_
     refine aw_seq ?_
     refine aw_region ?_
     refine run_s (ss_move rfl) rfl ?_
     refine run_s (ss_move rfl) rfl ?_
     refine run_s (ss_eql rfl rfl) rfl ?_
     refine run_nil ?_
     refine aw_cond rfl (fun q13 => ?_) (fun q13 => ?_)
     ·replace h := h.1 (of_decide_eq_true q13)
      refine aw_region ?_
      refine run_s (ss_move rfl) rfl ?_
      obtain ⟨q14, h⟩ := h
      refine run_s (ss_add rfl rfl q14) rfl ?_
      refine run_s (ss_assign rfl) rfl ?_
      refine run_nil ?_
      refine aw_seq ?_
      refine aw_seq ?_
      refine aw_region ?_
      refine run_s (ss_move rfl) rfl ?_
      refine run_s (ss_move rfl) rfl ?_
      refine run_s (ss_eql rfl rfl) rfl ?_
      refine run_nil ?_
      refine aw_cond rfl (fun q15 => ?_) (fun q15 => ?_)
      ·replace h := h.1 (of_decide_eq_true q15)
       refine aw_region ?_
       refine run_s (ss_move rfl) rfl ?_
       obtain ⟨q16, h⟩ := h
       refine run_s (ss_add rfl rfl q16) rfl ?_
       refine run_s (ss_assign rfl) rfl ?_
       refine run_nil ?_
       refine aw_seq ?_
       refine aw_seq ?_
       refine aw_region ?_
       refine run_s (ss_move rfl) rfl ?_
       refine run_s (ss_move rfl) rfl ?_
       refine run_s (ss_eql rfl rfl) rfl ?_
       refine run_nil ?_
       refine aw_cond rfl (fun q17 => ?_) (fun q17 => ?_)
       ·replace h := h.1 (of_decide_eq_true q17)
        refine aw_gh (gh_to (n := 194) (σ' := [(35, ⟨ints o35_2, []⟩), (28, ⟨ints o28_1, []⟩)]) (env' := [(0, .c (.lst (tabs t))), (1, .c (.lst (ints colours))), (2, .c (ci x)), (7, .c (ci (colours.length : Int))), (8, .ref 28), (9, .c (ci v9_1)), (10, .ref 35), (11, .c (ci v11_2)), (12, .c (ci (el (el (el t v9_1) x) v11_2))), (13, .c (ci (el (el (el t v9_1) v11_2) x))), (14, .c (ci ((1 + 2) + 4)))]) rfl rfl ⟨rfl, rfl, rfl, rfl, rfl, rfl, rfl, rfl, rfl, rfl, rfl, trivial⟩) ?_
        refine aw_region ?_
        refine run_s (ss_move rfl) rfl ?_
        obtain ⟨q18, h⟩ := h
        refine run_s (ss_add rfl rfl q18) rfl ?_
        refine run_s (ss_assign rfl) rfl ?_
        refine run_nil ?_
        refine aw_gh (gh_to (n := 194) (σ' := [(35, ⟨ints o35_2, []⟩), (28, ⟨ints o28_1, []⟩)]) (env' := [(0, .c (.lst (tabs t))), (1, .c (.lst (ints colours))), (2, .c (ci x)), (7, .c (ci (colours.length : Int))), (8, .ref 28), (9, .c (ci v9_1)), (10, .ref 35), (11, .c (ci v11_2)), (12, .c (ci (el (el (el t v9_1) x) v11_2))), (13, .c (ci (el (el (el t v9_1) v11_2) x))), (14, .c (ci (((1 + 2) + 4) + 8)))]) rfl rfl ⟨rfl, rfl, rfl, rfl, rfl, rfl, rfl, rfl, rfl, rfl, rfl, trivial⟩) ?_
        refine aw_regionD (kd := kdl [0, 0, 0, 0, 1, 0, 0, 0, 0, 1, 0, 0, 0, 0, 0, 1, 0, 0, 0, 0, 2, 2, 0]) (ord := [0, 1, 2, 3, 6, 7, 8, 12, 13, 14, 18, 4, 5, 9, 10, 11, 15, 16, 17, 19, 20, 21, 22]) [35, 99] mixed (by kernel_rfl) ?_
        refine rd_s rfl rfl trivial (ss_move rfl) rfl ?_
        refine rd_s rfl rfl trivial (ss_move rfl) rfl ?_
        refine rd_s rfl rfl trivial (ss_move rfl) rfl ?_
        obtain ⟨q19, h⟩ := h
        refine rd_s rfl rfl trivial (ss_idxL rfl rfl q19) rfl ?_
        refine rd_s rfl rfl trivial (ss_move rfl) rfl ?_
        refine rd_s rfl rfl trivial (ss_move rfl) rfl ?_
        obtain ⟨q20, h⟩ := h
        refine rd_s rfl rfl trivial (ss_idxL rfl rfl q20) rfl ?_
        refine rd_s rfl rfl trivial (ss_move rfl) rfl ?_
        refine rd_s rfl rfl trivial (ss_move rfl) rfl ?_
        obtain ⟨q21, h⟩ := h
        refine rd_s rfl rfl trivial (ss_idxL rfl rfl q21) rfl ?_
        refine rd_s rfl rfl trivial (ss_move rfl) rfl ?_
        refine rd_l rfl rfl trivial (ss_loadL (f := ci) rfl q19) rfl ?_
        obtain ⟨q22, h⟩ := h
        refine rd_s rfl rfl trivial (ss_mul rfl rfl q22) rfl ?_
        refine rd_l rfl rfl trivial (ss_loadL (f := ci) rfl q20) rfl ?_
        obtain ⟨q23, h⟩ := h
        refine rd_s rfl rfl trivial (ss_add rfl rfl q23) rfl ?_
        obtain ⟨q24, h⟩ := h
        refine rd_s rfl rfl trivial (ss_mul rfl rfl q24) rfl ?_
        refine rd_l rfl rfl trivial (ss_loadL (f := ci) rfl q21) rfl ?_
        obtain ⟨q25, h⟩ := h
        refine rd_s rfl rfl trivial (ss_add rfl rfl q25) rfl ?_
        obtain ⟨q26, h⟩ := h
        refine rd_s rfl rfl trivial (ss_mul rfl rfl q26) rfl ?_
        obtain ⟨q27, h⟩ := h
        refine rd_s rfl rfl trivial (ss_add rfl rfl q27) rfl ?_
        refine rd_w rfl rfl trivial rfl rfl (ws_buildSlice (id := 99) (ps := [(0, .tmp 98)]) rfl rfl (Nat.le_of_ble_eq_true rfl) rfl ⟨rfl, ?_⟩)
        obtain ⟨q28, h⟩ := h
        refine rd_w rfl rfl trivial rfl rfl (ws_app1 ci (l := o35_2) (m := [((((((el colours v11_2) * 64) + (el colours (el (el (el t v9_1) x) v11_2))) * 64) + (el colours (el (el (el t v9_1) v11_2) x))) * 16) + (((1 + 2) + 4) + 8)]) rfl rfl rfl rfl rfl (Nat.le_of_ble_eq_true rfl) q28 ⟨rfl, ?_⟩)
        refine rd_s rfl rfl trivial (ss_assign rfl) rfl ?_
        refine rd_nil ?_
        refine aw_gh (gh_to (n := 194) (σ' := [(35, ⟨ints (o35_2 ++ ([((((((el colours v11_2) * 64) + (el colours (el (el (el t v9_1) x) v11_2))) * 64) + (el colours (el (el (el t v9_1) v11_2) x))) * 16) + (((1 + 2) + 4) + 8)])), []⟩), (28, ⟨ints o28_1, []⟩)]) (env' := [(0, .c (.lst (tabs t))), (1, .c (.lst (ints colours))), (2, .c (ci x)), (7, .c (ci (colours.length : Int))), (8, .ref 28), (9, .c (ci v9_1)), (10, .ref 35), (11, .c (ci v11_2))]) rfl rfl ⟨rfl, rfl, rfl, rfl, rfl, rfl, rfl, rfl, trivial⟩) ?_
        refine aw_region ?_
        refine run_s (ss_move rfl) rfl ?_
        obtain ⟨q29, h⟩ := h
        refine run_s (ss_add rfl rfl q29) rfl ?_
        refine run_s (ss_assign rfl) rfl ?_
        refine run_nil ?_
        exact ⟨v11_2 + 1, o35_2 ++ ([((((((el colours v11_2) * 64) + (el colours (el (el (el t v9_1) x) v11_2))) * 64) + (el colours (el (el (el t v9_1) v11_2) x))) * 16) + (((1 + 2) + 4) + 8)]), ghe_to (n := 194) rfl rfl ⟨rfl, rfl, rfl, rfl, rfl, rfl, rfl, rfl, trivial⟩, h.1, h.2⟩
       ·replace h := h.2 (of_decide_eq_false q17)
        refine aw_skip ?_
        refine aw_gh (gh_to (n := 194) (σ' := [(35, ⟨ints o35_2, []⟩), (28, ⟨ints o28_1, []⟩)]) (env' := [(0, .c (.lst (tabs t))), (1, .c (.lst (ints colours))), (2, .c (ci x)), (7, .c (ci (colours.length : Int))), (8, .ref 28), (9, .c (ci v9_1)), (10, .ref 35), (11, .c (ci v11_2)), (12, .c (ci (el (el (el t v9_1) x) v11_2))), (13, .c (ci (el (el (el t v9_1) v11_2) x))), (14, .c (ci ((1 + 2) + 4)))]) rfl rfl ⟨rfl, rfl, rfl, rfl, rfl, rfl, rfl, rfl, rfl, rfl, rfl, trivial⟩) ?_
        refine aw_regionD (kd := kdl [0, 0, 0, 0, 1, 0, 0, 0, 0, 1, 0, 0, 0, 0, 0, 1, 0, 0, 0, 0, 2, 2, 0]) (ord := [0, 1, 2, 3, 6, 7, 8, 12, 13, 14, 18, 4, 5, 9, 10, 11, 15, 16, 17, 19, 20, 21, 22]) [35, 99] mixed (by kernel_rfl) ?_
        refine rd_s rfl rfl trivial (ss_move rfl) rfl ?_
        refine rd_s rfl rfl trivial (ss_move rfl) rfl ?_
        refine rd_s rfl rfl trivial (ss_move rfl) rfl ?_
        obtain ⟨q30, h⟩ := h
        refine rd_s rfl rfl trivial (ss_idxL rfl rfl q30) rfl ?_
        refine rd_s rfl rfl trivial (ss_move rfl) rfl ?_
        refine rd_s rfl rfl trivial (ss_move rfl) rfl ?_
        obtain ⟨q31, h⟩ := h
        refine rd_s rfl rfl trivial (ss_idxL rfl rfl q31) rfl ?_
        refine rd_s rfl rfl trivial (ss_move rfl) rfl ?_
        refine rd_s rfl rfl trivial (ss_move rfl) rfl ?_
        obtain ⟨q32, h⟩ := h
        refine rd_s rfl rfl trivial (ss_idxL rfl rfl q32) rfl ?_
        refine rd_s rfl rfl trivial (ss_move rfl) rfl ?_
        refine rd_l rfl rfl trivial (ss_loadL (f := ci) rfl q30) rfl ?_
        obtain ⟨q33, h⟩ := h
        refine rd_s rfl rfl trivial (ss_mul rfl rfl q33) rfl ?_
        refine rd_l rfl rfl trivial (ss_loadL (f := ci) rfl q31) rfl ?_
        obtain ⟨q34, h⟩ := h
        refine rd_s rfl rfl trivial (ss_add rfl rfl q34) rfl ?_
        obtain ⟨q35, h⟩ := h
        refine rd_s rfl rfl trivial (ss_mul rfl rfl q35) rfl ?_
        refine rd_l rfl rfl trivial (ss_loadL (f := ci) rfl q32) rfl ?_
        obtain ⟨q36, h⟩ := h
        refine rd_s rfl rfl trivial (ss_add rfl rfl q36) rfl ?_
        obtain ⟨q37, h⟩ := h
        refine rd_s rfl rfl trivial (ss_mul rfl rfl q37) rfl ?_
        obtain ⟨q38, h⟩ := h
        refine rd_s rfl rfl trivial (ss_add rfl rfl q38) rfl ?_
        refine rd_w rfl rfl trivial rfl rfl (ws_buildSlice (id := 99) (ps := [(0, .tmp 98)]) rfl rfl (Nat.le_of_ble_eq_true rfl) rfl ⟨rfl, ?_⟩)
        obtain ⟨q39, h⟩ := h
        refine rd_w rfl rfl trivial rfl rfl (ws_app1 ci (l := o35_2) (m := [((((((el colours v11_2) * 64) + (el colours (el (el (el t v9_1) x) v11_2))) * 64) + (el colours (el (el (el t v9_1) v11_2) x))) * 16) + ((1 + 2) + 4)]) rfl rfl rfl rfl rfl (Nat.le_of_ble_eq_true rfl) q39 ⟨rfl, ?_⟩)
        refine rd_s rfl rfl trivial (ss_assign rfl) rfl ?_
        refine rd_nil ?_
        refine aw_gh (gh_to (n := 194) (σ' := [(35, ⟨ints (o35_2 ++ ([((((((el colours v11_2) * 64) + (el colours (el (el (el t v9_1) x) v11_2))) * 64) + (el colours (el (el (el t v9_1) v11_2) x))) * 16) + ((1 + 2) + 4)])), []⟩), (28, ⟨ints o28_1, []⟩)]) (env' := [(0, .c (.lst (tabs t))), (1, .c (.lst (ints colours))), (2, .c (ci x)), (7, .c (ci (colours.length : Int))), (8, .ref 28), (9, .c (ci v9_1)), (10, .ref 35), (11, .c (ci v11_2))]) rfl rfl ⟨rfl, rfl, rfl, rfl, rfl, rfl, rfl, rfl, trivial⟩) ?_
        refine aw_region ?_
        refine run_s (ss_move rfl) rfl ?_
        obtain ⟨q40, h⟩ := h
        refine run_s (ss_add rfl rfl q40) rfl ?_
        refine run_s (ss_assign rfl) rfl ?_
        refine run_nil ?_
        exact ⟨v11_2 + 1, o35_2 ++ ([((((((el colours v11_2) * 64) + (el colours (el (el (el t v9_1) x) v11_2))) * 64) + (el colours (el (el (el t v9_1) v11_2) x))) * 16) + ((1 + 2) + 4)]), ghe_to (n := 194) rfl rfl ⟨rfl, rfl, rfl, rfl, rfl, rfl, rfl, rfl, trivial⟩, h.1, h.2⟩
      ·replace h := h.2 (of_decide_eq_false q15)
       refine aw_skip ?_
       refine aw_seq ?_
       refine aw_seq ?_
       refine aw_region ?_
       refine run_s (ss_move rfl) rfl ?_
       refine run_s (ss_move rfl) rfl ?_
       refine run_s (ss_eql rfl rfl) rfl ?_
       refine run_nil ?_
       refine aw_cond rfl (fun q41 => ?_) (fun q41 => ?_)
       ·replace h := h.1 (of_decide_eq_true q41)
        refine aw_region ?_
        refine run_s (ss_move rfl) rfl ?_
        obtain ⟨q42, h⟩ := h
        refine run_s (ss_add rfl rfl q42) rfl ?_
        refine run_s (ss_assign rfl) rfl ?_
        refine run_nil ?_
        refine aw_gh (gh_to (n := 194) (σ' := [(35, ⟨ints o35_2, []⟩), (28, ⟨ints o28_1, []⟩)]) (env' := [(0, .c (.lst (tabs t))), (1, .c (.lst (ints colours))), (2, .c (ci x)), (7, .c (ci (colours.length : Int))), (8, .ref 28), (9, .c (ci v9_1)), (10, .ref 35), (11, .c (ci v11_2)), (12, .c (ci (el (el (el t v9_1) x) v11_2))), (13, .c (ci (el (el (el t v9_1) v11_2) x))), (14, .c (ci ((1 + 2) + 8)))]) rfl rfl ⟨rfl, rfl, rfl, rfl, rfl, rfl, rfl, rfl, rfl, rfl, rfl, trivial⟩) ?_
        refine aw_regionD (kd := kdl [0, 0, 0, 0, 1, 0, 0, 0, 0, 1, 0, 0, 0, 0, 0, 1, 0, 0, 0, 0, 2, 2, 0]) (ord := [0, 1, 2, 3, 6, 7, 8, 12, 13, 14, 18, 4, 5, 9, 10, 11, 15, 16, 17, 19, 20, 21, 22]) [35, 99] mixed (by kernel_rfl) ?_
        refine rd_s rfl rfl trivial (ss_move rfl) rfl ?_
        refine rd_s rfl rfl trivial (ss_move rfl) rfl ?_
        refine rd_s rfl rfl trivial (ss_move rfl) rfl ?_
        obtain ⟨q43, h⟩ := h
        refine rd_s rfl rfl trivial (ss_idxL rfl rfl q43) rfl ?_
        refine rd_s rfl rfl trivial (ss_move rfl) rfl ?_
        refine rd_s rfl rfl trivial (ss_move rfl) rfl ?_
        obtain ⟨q44, h⟩ := h
        refine rd_s rfl rfl trivial (ss_idxL rfl rfl q44) rfl ?_
        refine rd_s rfl rfl trivial (ss_move rfl) rfl ?_
        refine rd_s rfl rfl trivial (ss_move rfl) rfl ?_
        obtain ⟨q45, h⟩ := h
        refine rd_s rfl rfl trivial (ss_idxL rfl rfl q45) rfl ?_
        refine rd_s rfl rfl trivial (ss_move rfl) rfl ?_
        refine rd_l rfl rfl trivial (ss_loadL (f := ci) rfl q43) rfl ?_
        obtain ⟨q46, h⟩ := h
        refine rd_s rfl rfl trivial (ss_mul rfl rfl q46) rfl ?_
        refine rd_l rfl rfl trivial (ss_loadL (f := ci) rfl q44) rfl ?_
        obtain ⟨q47, h⟩ := h
        refine rd_s rfl rfl trivial (ss_add rfl rfl q47) rfl ?_
        obtain ⟨q48, h⟩ := h
        refine rd_s rfl rfl trivial (ss_mul rfl rfl q48) rfl ?_
        refine rd_l rfl rfl trivial (ss_loadL (f := ci) rfl q45) rfl ?_
        obtain ⟨q49, h⟩ := h
        refine rd_s rfl rfl trivial (ss_add rfl rfl q49) rfl ?_
        obtain ⟨q50, h⟩ := h
        refine rd_s rfl rfl trivial (ss_mul rfl rfl q50) rfl ?_
        obtain ⟨q51, h⟩ := h
        refine rd_s rfl rfl trivial (ss_add rfl rfl q51) rfl ?_
        refine rd_w rfl rfl trivial rfl rfl (ws_buildSlice (id := 99) (ps := [(0, .tmp 98)]) rfl rfl (Nat.le_of_ble_eq_true rfl) rfl ⟨rfl, ?_⟩)
        obtain ⟨q52, h⟩ := h
        refine rd_w rfl rfl trivial rfl rfl (ws_app1 ci (l := o35_2) (m := [((((((el colours v11_2) * 64) + (el colours (el (el (el t v9_1) x) v11_2))) * 64) + (el colours (el (el (el t v9_1) v11_2) x))) * 16) + ((1 + 2) + 8)]) rfl rfl rfl rfl rfl (Nat.le_of_ble_eq_true rfl) q52 ⟨rfl, ?_⟩)
        refine rd_s rfl rfl trivial (ss_assign rfl) rfl ?_
        refine rd_nil ?_
        refine aw_gh (gh_to (n := 194) (σ' := [(35, ⟨ints (o35_2 ++ ([((((((el colours v11_2) * 64) + (el colours (el (el (el t v9_1) x) v11_2))) * 64) + (el colours (el (el (el t v9_1) v11_2) x))) * 16) + ((1 + 2) + 8)])), []⟩), (28, ⟨ints o28_1, []⟩)]) (env' := [(0, .c (.lst (tabs t))), (1, .c (.lst (ints colours))), (2, .c (ci x)), (7, .c (ci (colours.length : Int))), (8, .ref 28), (9, .c (ci v9_1)), (10, .ref 35), (11, .c (ci v11_2))]) rfl rfl ⟨rfl, rfl, rfl, rfl, rfl, rfl, rfl, rfl, trivial⟩) ?_
        refine aw_region ?_
        refine run_s (ss_move rfl) rfl ?_
        obtain ⟨q53, h⟩ := h
        refine run_s (ss_add rfl rfl q53) rfl ?_
        refine run_s (ss_assign rfl) rfl ?_
        refine run_nil ?_
        exact ⟨v11_2 + 1, o35_2 ++ ([((((((el colours v11_2) * 64) + (el colours (el (el (el t v9_1) x) v11_2))) * 64) + (el colours (el (el (el t v9_1) v11_2) x))) * 16) + ((1 + 2) + 8)]), ghe_to (n := 194) rfl rfl ⟨rfl, rfl, rfl, rfl, rfl, rfl, rfl, rfl, trivial⟩, h.1, h.2⟩
       ·replace h := h.2 (of_decide_eq_false q41)
        refine aw_skip ?_
        refine aw_gh (gh_to (n := 194) (σ' := [(35, ⟨ints o35_2, []⟩), (28, ⟨ints o28_1, []⟩)]) (env' := [(0, .c (.lst (tabs t))), (1, .c (.lst (ints colours))), (2, .c (ci x)), (7, .c (ci (colours.length : Int))), (8, .ref 28), (9, .c (ci v9_1)), (10, .ref 35), (11, .c (ci v11_2)), (12, .c (ci (el (el (el t v9_1) x) v11_2))), (13, .c (ci (el (el (el t v9_1) v11_2) x))), (14, .c (ci (1 + 2)))]) rfl rfl ⟨rfl, rfl, rfl, rfl, rfl, rfl, rfl, rfl, rfl, rfl, rfl, trivial⟩) ?_
        refine aw_regionD (kd := kdl [0, 0, 0, 0, 1, 0, 0, 0, 0, 1, 0, 0, 0, 0, 0, 1, 0, 0, 0, 0, 2, 2, 0]) (ord := [0, 1, 2, 3, 6, 7, 8, 12, 13, 14, 18, 4, 5, 9, 10, 11, 15, 16, 17, 19, 20, 21, 22]) [35, 99] mixed (by kernel_rfl) ?_
        refine rd_s rfl rfl trivial (ss_move rfl) rfl ?_
        refine rd_s rfl rfl trivial (ss_move rfl) rfl ?_
        refine rd_s rfl rfl trivial (ss_move rfl) rfl ?_
        obtain ⟨q54, h⟩ := h
        refine rd_s rfl rfl trivial (ss_idxL rfl rfl q54) rfl ?_
        refine rd_s rfl rfl trivial (ss_move rfl) rfl ?_
        refine rd_s rfl rfl trivial (ss_move rfl) rfl ?_
        obtain ⟨q55, h⟩ := h
        refine rd_s rfl rfl trivial (ss_idxL rfl rfl q55) rfl ?_
        refine rd_s rfl rfl trivial (ss_move rfl) rfl ?_
        refine rd_s rfl rfl trivial (ss_move rfl) rfl ?_
        obtain ⟨q56, h⟩ := h
        refine rd_s rfl rfl trivial (ss_idxL rfl rfl q56) rfl ?_
        refine rd_s rfl rfl trivial (ss_move rfl) rfl ?_
        refine rd_l rfl rfl trivial (ss_loadL (f := ci) rfl q54) rfl ?_
        obtain ⟨q57, h⟩ := h
        refine rd_s rfl rfl trivial (ss_mul rfl rfl q57) rfl ?_
        refine rd_l rfl rfl trivial (ss_loadL (f := ci) rfl q55) rfl ?_
        obtain ⟨q58, h⟩ := h
        refine rd_s rfl rfl trivial (ss_add rfl rfl q58) rfl ?_
        obtain ⟨q59, h⟩ := h
        refine rd_s rfl rfl trivial (ss_mul rfl rfl q59) rfl ?_
        refine rd_l rfl rfl trivial (ss_loadL (f := ci) rfl q56) rfl ?_
        obtain ⟨q60, h⟩ := h
        refine rd_s rfl rfl trivial (ss_add rfl rfl q60) rfl ?_
        obtain ⟨q61, h⟩ := h
        refine rd_s rfl rfl trivial (ss_mul rfl rfl q61) rfl ?_
        obtain ⟨q62, h⟩ := h
        refine rd_s rfl rfl trivial (ss_add rfl rfl q62) rfl ?_
        refine rd_w rfl rfl trivial rfl rfl (ws_buildSlice (id := 99) (ps := [(0, .tmp 98)]) rfl rfl (Nat.le_of_ble_eq_true rfl) rfl ⟨rfl, ?_⟩)
        obtain ⟨q63, h⟩ := h
        refine rd_w rfl rfl trivial rfl rfl (ws_app1 ci (l := o35_2) (m := [((((((el colours v11_2) * 64) + (el colours (el (el (el t v9_1) x) v11_2))) * 64) + (el colours (el (el (el t v9_1) v11_2) x))) * 16) + (1 + 2)]) rfl rfl rfl rfl rfl (Nat.le_of_ble_eq_true rfl) q63 ⟨rfl, ?_⟩)
        refine rd_s rfl rfl trivial (ss_assign rfl) rfl ?_
        refine rd_nil ?_
        refine aw_gh (gh_to (n := 194) (σ' := [(35, ⟨ints (o35_2 ++ ([((((((el colours v11_2) * 64) + (el colours (el (el (el t v9_1) x) v11_2))) * 64) + (el colours (el (el (el t v9_1) v11_2) x))) * 16) + (1 + 2)])), []⟩), (28, ⟨ints o28_1, []⟩)]) (env' := [(0, .c (.lst (tabs t))), (1, .c (.lst (ints colours))), (2, .c (ci x)), (7, .c (ci (colours.length : Int))), (8, .ref 28), (9, .c (ci v9_1)), (10, .ref 35), (11, .c (ci v11_2))]) rfl rfl ⟨rfl, rfl, rfl, rfl, rfl, rfl, rfl, rfl, trivial⟩) ?_
        refine aw_region ?_
        refine run_s (ss_move rfl) rfl ?_
        obtain ⟨q64, h⟩ := h
        refine run_s (ss_add rfl rfl q64) rfl ?_
        refine run_s (ss_assign rfl) rfl ?_
        refine run_nil ?_
        exact ⟨v11_2 + 1, o35_2 ++ ([((((((el colours v11_2) * 64) + (el colours (el (el (el t v9_1) x) v11_2))) * 64) + (el colours (el (el (el t v9_1) v11_2) x))) * 16) + (1 + 2)]), ghe_to (n := 194) rfl rfl ⟨rfl, rfl, rfl, rfl, rfl, rfl, rfl, rfl, trivial⟩, h.1, h.2⟩
     ·replace h := h.2 (of_decide_eq_false q13)
      refine aw_skip ?_
      refine aw_seq ?_
      refine aw_seq ?_
      refine aw_region ?_
      refine run_s (ss_move rfl) rfl ?_
      refine run_s (ss_move rfl) rfl ?_
      refine run_s (ss_eql rfl rfl) rfl ?_
      refine run_nil ?_
      refine aw_cond rfl (fun q65 => ?_) (fun q65 => ?_)
      ·replace h := h.1 (of_decide_eq_true q65)
       refine aw_region ?_
       refine run_s (ss_move rfl) rfl ?_
       obtain ⟨q66, h⟩ := h
       refine run_s (ss_add rfl rfl q66) rfl ?_
       refine run_s (ss_assign rfl) rfl ?_
       refine run_nil ?_
       refine aw_seq ?_
       refine aw_seq ?_
       refine aw_region ?_
       refine run_s (ss_move rfl) rfl ?_
       refine run_s (ss_move rfl) rfl ?_
       refine run_s (ss_eql rfl rfl) rfl ?_
       refine run_nil ?_
       refine aw_cond rfl (fun q67 => ?_) (fun q67 => ?_)
       ·replace h := h.1 (of_decide_eq_true q67)
        refine aw_region ?_
        refine run_s (ss_move rfl) rfl ?_
        obtain ⟨q68, h⟩ := h
        refine run_s (ss_add rfl rfl q68) rfl ?_
        refine run_s (ss_assign rfl) rfl ?_
        refine run_nil ?_
        refine aw_gh (gh_to (n := 194) (σ' := [(35, ⟨ints o35_2, []⟩), (28, ⟨ints o28_1, []⟩)]) (env' := [(0, .c (.lst (tabs t))), (1, .c (.lst (ints colours))), (2, .c (ci x)), (7, .c (ci (colours.length : Int))), (8, .ref 28), (9, .c (ci v9_1)), (10, .ref 35), (11, .c (ci v11_2)), (12, .c (ci (el (el (el t v9_1) x) v11_2))), (13, .c (ci (el (el (el t v9_1) v11_2) x))), (14, .c (ci ((1 + 4) + 8)))]) rfl rfl ⟨rfl, rfl, rfl, rfl, rfl, rfl, rfl, rfl, rfl, rfl, rfl, trivial⟩) ?_
        refine aw_regionD (kd := kdl [0, 0, 0, 0, 1, 0, 0, 0, 0, 1, 0, 0, 0, 0, 0, 1, 0, 0, 0, 0, 2, 2, 0]) (ord := [0, 1, 2, 3, 6, 7, 8, 12, 13, 14, 18, 4, 5, 9, 10, 11, 15, 16, 17, 19, 20, 21, 22]) [35, 99] mixed (by kernel_rfl) ?_
        refine rd_s rfl rfl trivial (ss_move rfl) rfl ?_
        refine rd_s rfl rfl trivial (ss_move rfl) rfl ?_
        refine rd_s rfl rfl trivial (ss_move rfl) rfl ?_
        obtain ⟨q69, h⟩ := h
        refine rd_s rfl rfl trivial (ss_idxL rfl rfl q69) rfl ?_
        refine rd_s rfl rfl trivial (ss_move rfl) rfl ?_
        refine rd_s rfl rfl trivial (ss_move rfl) rfl ?_
        obtain ⟨q70, h⟩ := h
        refine rd_s rfl rfl trivial (ss_idxL rfl rfl q70) rfl ?_
        refine rd_s rfl rfl trivial (ss_move rfl) rfl ?_
        refine rd_s rfl rfl trivial (ss_move rfl) rfl ?_
        obtain ⟨q71, h⟩ := h
        refine rd_s rfl rfl trivial (ss_idxL rfl rfl q71) rfl ?_
        refine rd_s rfl rfl trivial (ss_move rfl) rfl ?_
        refine rd_l rfl rfl trivial (ss_loadL (f := ci) rfl q69) rfl ?_
        obtain ⟨q72, h⟩ := h
        refine rd_s rfl rfl trivial (ss_mul rfl rfl q72) rfl ?_
        refine rd_l rfl rfl trivial (ss_loadL (f := ci) rfl q70) rfl ?_
        obtain ⟨q73, h⟩ := h
        refine rd_s rfl rfl trivial (ss_add rfl rfl q73) rfl ?_
        obtain ⟨q74, h⟩ := h
        refine rd_s rfl rfl trivial (ss_mul rfl rfl q74) rfl ?_
        refine rd_l rfl rfl trivial (ss_loadL (f := ci) rfl q71) rfl ?_
        obtain ⟨q75, h⟩ := h
        refine rd_s rfl rfl trivial (ss_add rfl rfl q75) rfl ?_
        obtain ⟨q76, h⟩ := h
        refine rd_s rfl rfl trivial (ss_mul rfl rfl q76) rfl ?_
        obtain ⟨q77, h⟩ := h
        refine rd_s rfl rfl trivial (ss_add rfl rfl q77) rfl ?_
        refine rd_w rfl rfl trivial rfl rfl (ws_buildSlice (id := 99) (ps := [(0, .tmp 98)]) rfl rfl (Nat.le_of_ble_eq_true rfl) rfl ⟨rfl, ?_⟩)
        obtain ⟨q78, h⟩ := h
        refine rd_w rfl rfl trivial rfl rfl (ws_app1 ci (l := o35_2) (m := [((((((el colours v11_2) * 64) + (el colours (el (el (el t v9_1) x) v11_2))) * 64) + (el colours (el (el (el t v9_1) v11_2) x))) * 16) + ((1 + 4) + 8)]) rfl rfl rfl rfl rfl (Nat.le_of_ble_eq_true rfl) q78 ⟨rfl, ?_⟩)
        refine rd_s rfl rfl trivial (ss_assign rfl) rfl ?_
        refine rd_nil ?_
        refine aw_gh (gh_to (n := 194) (σ' := [(35, ⟨ints (o35_2 ++ ([((((((el colours v11_2) * 64) + (el colours (el (el (el t v9_1) x) v11_2))) * 64) + (el colours (el (el (el t v9_1) v11_2) x))) * 16) + ((1 + 4) + 8)])), []⟩), (28, ⟨ints o28_1, []⟩)]) (env' := [(0, .c (.lst (tabs t))), (1, .c (.lst (ints colours))), (2, .c (ci x)), (7, .c (ci (colours.length : Int))), (8, .ref 28), (9, .c (ci v9_1)), (10, .ref 35), (11, .c (ci v11_2))]) rfl rfl ⟨rfl, rfl, rfl, rfl, rfl, rfl, rfl, rfl, trivial⟩) ?_
        refine aw_region ?_
        refine run_s (ss_move rfl) rfl ?_
        obtain ⟨q79, h⟩ := h
        refine run_s (ss_add rfl rfl q79) rfl ?_
        refine run_s (ss_assign rfl) rfl ?_
        refine run_nil ?_
        exact ⟨v11_2 + 1, o35_2 ++ ([((((((el colours v11_2) * 64) + (el colours (el (el (el t v9_1) x) v11_2))) * 64) + (el colours (el (el (el t v9_1) v11_2) x))) * 16) + ((1 + 4) + 8)]), ghe_to (n := 194) rfl rfl ⟨rfl, rfl, rfl, rfl, rfl, rfl, rfl, rfl, trivial⟩, h.1, h.2⟩
       ·replace h := h.2 (of_decide_eq_false q67)
        refine aw_skip ?_
        refine aw_gh (gh_to (n := 194) (σ' := [(35, ⟨ints o35_2, []⟩), (28, ⟨ints o28_1, []⟩)]) (env' := [(0, .c (.lst (tabs t))), (1, .c (.lst (ints colours))), (2, .c (ci x)), (7, .c (ci (colours.length : Int))), (8, .ref 28), (9, .c (ci v9_1)), (10, .ref 35), (11, .c (ci v11_2)), (12, .c (ci (el (el (el t v9_1) x) v11_2))), (13, .c (ci (el (el (el t v9_1) v11_2) x))), (14, .c (ci (1 + 4)))]) rfl rfl ⟨rfl, rfl, rfl, rfl, rfl, rfl, rfl, rfl, rfl, rfl, rfl, trivial⟩) ?_
        refine aw_regionD (kd := kdl [0, 0, 0, 0, 1, 0, 0, 0, 0, 1, 0, 0, 0, 0, 0, 1, 0, 0, 0, 0, 2, 2, 0]) (ord := [0, 1, 2, 3, 6, 7, 8, 12, 13, 14, 18, 4, 5, 9, 10, 11, 15, 16, 17, 19, 20, 21, 22]) [35, 99] mixed (by kernel_rfl) ?_
        refine rd_s rfl rfl trivial (ss_move rfl) rfl ?_
        refine rd_s rfl rfl trivial (ss_move rfl) rfl ?_
        refine rd_s rfl rfl trivial (ss_move rfl) rfl ?_
        obtain ⟨q80, h⟩ := h
        refine rd_s rfl rfl trivial (ss_idxL rfl rfl q80) rfl ?_
        refine rd_s rfl rfl trivial (ss_move rfl) rfl ?_
        refine rd_s rfl rfl trivial (ss_move rfl) rfl ?_
        obtain ⟨q81, h⟩ := h
        refine rd_s rfl rfl trivial (ss_idxL rfl rfl q81) rfl ?_
        refine rd_s rfl rfl trivial (ss_move rfl) rfl ?_
        refine rd_s rfl rfl trivial (ss_move rfl) rfl ?_
        obtain ⟨q82, h⟩ := h
        refine rd_s rfl rfl trivial (ss_idxL rfl rfl q82) rfl ?_
        refine rd_s rfl rfl trivial (ss_move rfl) rfl ?_
        refine rd_l rfl rfl trivial (ss_loadL (f := ci) rfl q80) rfl ?_
        obtain ⟨q83, h⟩ := h
        refine rd_s rfl rfl trivial (ss_mul rfl rfl q83) rfl ?_
        refine rd_l rfl rfl trivial (ss_loadL (f := ci) rfl q81) rfl ?_
        obtain ⟨q84, h⟩ := h
        refine rd_s rfl rfl trivial (ss_add rfl rfl q84) rfl ?_
        obtain ⟨q85, h⟩ := h
        refine rd_s rfl rfl trivial (ss_mul rfl rfl q85) rfl ?_
        refine rd_l rfl rfl trivial (ss_loadL (f := ci) rfl q82) rfl ?_
        obtain ⟨q86, h⟩ := h
        refine rd_s rfl rfl trivial (ss_add rfl rfl q86) rfl ?_
        obtain ⟨q87, h⟩ := h
        refine rd_s rfl rfl trivial (ss_mul rfl rfl q87) rfl ?_
        obtain ⟨q88, h⟩ := h
        refine rd_s rfl rfl trivial (ss_add rfl rfl q88) rfl ?_
        refine rd_w rfl rfl trivial rfl rfl (ws_buildSlice (id := 99) (ps := [(0, .tmp 98)]) rfl rfl (Nat.le_of_ble_eq_true rfl) rfl ⟨rfl, ?_⟩)
        obtain ⟨q89, h⟩ := h
        refine rd_w rfl rfl trivial rfl rfl (ws_app1 ci (l := o35_2) (m := [((((((el colours v11_2) * 64) + (el colours (el (el (el t v9_1) x) v11_2))) * 64) + (el colours (el (el (el t v9_1) v11_2) x))) * 16) + (1 + 4)]) rfl rfl rfl rfl rfl (Nat.le_of_ble_eq_true rfl) q89 ⟨rfl, ?_⟩)
        refine rd_s rfl rfl trivial (ss_assign rfl) rfl ?_
        refine rd_nil ?_
        refine aw_gh (gh_to (n := 194) (σ' := [(35, ⟨ints (o35_2 ++ ([((((((el colours v11_2) * 64) + (el colours (el (el (el t v9_1) x) v11_2))) * 64) + (el colours (el (el (el t v9_1) v11_2) x))) * 16) + (1 + 4)])), []⟩), (28, ⟨ints o28_1, []⟩)]) (env' := [(0, .c (.lst (tabs t))), (1, .c (.lst (ints colours))), (2, .c (ci x)), (7, .c (ci (colours.length : Int))), (8, .ref 28), (9, .c (ci v9_1)), (10, .ref 35), (11, .c (ci v11_2))]) rfl rfl ⟨rfl, rfl, rfl, rfl, rfl, rfl, rfl, rfl, trivial⟩) ?_
        refine aw_region ?_
        refine run_s (ss_move rfl) rfl ?_
        obtain ⟨q90, h⟩ := h
        refine run_s (ss_add rfl rfl q90) rfl ?_
        refine run_s (ss_assign rfl) rfl ?_
        refine run_nil ?_
        exact ⟨v11_2 + 1, o35_2 ++ ([((((((el colours v11_2) * 64) + (el colours (el (el (el t v9_1) x) v11_2))) * 64) + (el colours (el (el (el t v9_1) v11_2) x))) * 16) + (1 + 4)]), ghe_to (n := 194) rfl rfl ⟨rfl, rfl, rfl, rfl, rfl, rfl, rfl, rfl, trivial⟩, h.1, h.2⟩
      ·replace h := h.2 (of_decide_eq_false q65)
       refine aw_skip ?_
       refine aw_seq ?_
       refine aw_seq ?_
       refine aw_region ?_
       refine run_s (ss_move rfl) rfl ?_
       refine run_s (ss_move rfl) rfl ?_
       refine run_s (ss_eql rfl rfl) rfl ?_
       refine run_nil ?_
       refine aw_cond rfl (fun q91 => ?_) (fun q91 => ?_)
       ·replace h := h.1 (of_decide_eq_true q91)
        refine aw_region ?_
        refine run_s (ss_move rfl) rfl ?_
        obtain ⟨q92, h⟩ := h
        refine run_s (ss_add rfl rfl q92) rfl ?_
        refine run_s (ss_assign rfl) rfl ?_
        refine run_nil ?_
        refine aw_gh (gh_to (n := 194) (σ' := [(35, ⟨ints o35_2, []⟩), (28, ⟨ints o28_1, []⟩)]) (env' := [(0, .c (.lst (tabs t))), (1, .c (.lst (ints colours))), (2, .c (ci x)), (7, .c (ci (colours.length : Int))), (8, .ref 28), (9, .c (ci v9_1)), (10, .ref 35), (11, .c (ci v11_2)), (12, .c (ci (el (el (el t v9_1) x) v11_2))), (13, .c (ci (el (el (el t v9_1) v11_2) x))), (14, .c (ci (1 + 8)))]) rfl rfl ⟨rfl, rfl, rfl, rfl, rfl, rfl, rfl, rfl, rfl, rfl, rfl, trivial⟩) ?_
        refine aw_regionD (kd := kdl [0, 0, 0, 0, 1, 0, 0, 0, 0, 1, 0, 0, 0, 0, 0, 1, 0, 0, 0, 0, 2, 2, 0]) (ord := [0, 1, 2, 3, 6, 7, 8, 12, 13, 14, 18, 4, 5, 9, 10, 11, 15, 16, 17, 19, 20, 21, 22]) [35, 99] mixed (by kernel_rfl) ?_
        refine rd_s rfl rfl trivial (ss_move rfl) rfl ?_
        refine rd_s rfl rfl trivial (ss_move rfl) rfl ?_
        refine rd_s rfl rfl trivial (ss_move rfl) rfl ?_
        obtain ⟨q93, h⟩ := h
        refine rd_s rfl rfl trivial (ss_idxL rfl rfl q93) rfl ?_
        refine rd_s rfl rfl trivial (ss_move rfl) rfl ?_
        refine rd_s rfl rfl trivial (ss_move rfl) rfl ?_
        obtain ⟨q94, h⟩ := h
        refine rd_s rfl rfl trivial (ss_idxL rfl rfl q94) rfl ?_
        refine rd_s rfl rfl trivial (ss_move rfl) rfl ?_
        refine rd_s rfl rfl trivial (ss_move rfl) rfl ?_
        obtain ⟨q95, h⟩ := h
        refine rd_s rfl rfl trivial (ss_idxL rfl rfl q95) rfl ?_
        refine rd_s rfl rfl trivial (ss_move rfl) rfl ?_
        refine rd_l rfl rfl trivial (ss_loadL (f := ci) rfl q93) rfl ?_
        obtain ⟨q96, h⟩ := h
        refine rd_s rfl rfl trivial (ss_mul rfl rfl q96) rfl ?_
        refine rd_l rfl rfl trivial (ss_loadL (f := ci) rfl q94) rfl ?_
        obtain ⟨q97, h⟩ := h
        refine rd_s rfl rfl trivial (ss_add rfl rfl q97) rfl ?_
        obtain ⟨q98, h⟩ := h
        refine rd_s rfl rfl trivial (ss_mul rfl rfl q98) rfl ?_
        refine rd_l rfl rfl trivial (ss_loadL (f := ci) rfl q95) rfl ?_
        obtain ⟨q99, h⟩ := h
        refine rd_s rfl rfl trivial (ss_add rfl rfl q99) rfl ?_
        obtain ⟨q100, h⟩ := h
        refine rd_s rfl rfl trivial (ss_mul rfl rfl q100) rfl ?_
        obtain ⟨q101, h⟩ := h
        refine rd_s rfl rfl trivial (ss_add rfl rfl q101) rfl ?_
        refine rd_w rfl rfl trivial rfl rfl (ws_buildSlice (id := 99) (ps := [(0, .tmp 98)]) rfl rfl (Nat.le_of_ble_eq_true rfl) rfl ⟨rfl, ?_⟩)
        obtain ⟨q102, h⟩ := h
        refine rd_w rfl rfl trivial rfl rfl (ws_app1 ci (l := o35_2) (m := [((((((el colours v11_2) * 64) + (el colours (el (el (el t v9_1) x) v11_2))) * 64) + (el colours (el (el (el t v9_1) v11_2) x))) * 16) + (1 + 8)]) rfl rfl rfl rfl rfl (Nat.le_of_ble_eq_true rfl) q102 ⟨rfl, ?_⟩)
        refine rd_s rfl rfl trivial (ss_assign rfl) rfl ?_
        refine rd_nil ?_
        refine aw_gh (gh_to (n := 194) (σ' := [(35, ⟨ints (o35_2 ++ ([((((((el colours v11_2) * 64) + (el colours (el (el (el t v9_1) x) v11_2))) * 64) + (el colours (el (el (el t v9_1) v11_2) x))) * 16) + (1 + 8)])), []⟩), (28, ⟨ints o28_1, []⟩)]) (env' := [(0, .c (.lst (tabs t))), (1, .c (.lst (ints colours))), (2, .c (ci x)), (7, .c (ci (colours.length : Int))), (8, .ref 28), (9, .c (ci v9_1)), (10, .ref 35), (11, .c (ci v11_2))]) rfl rfl ⟨rfl, rfl, rfl, rfl, rfl, rfl, rfl, rfl, trivial⟩) ?_
        refine aw_region ?_
        refine run_s (ss_move rfl) rfl ?_
        obtain ⟨q103, h⟩ := h
        refine run_s (ss_add rfl rfl q103) rfl ?_
        refine run_s (ss_assign rfl) rfl ?_
        refine run_nil ?_
        exact ⟨v11_2 + 1, o35_2 ++ ([((((((el colours v11_2) * 64) + (el colours (el (el (el t v9_1) x) v11_2))) * 64) + (el colours (el (el (el t v9_1) v11_2) x))) * 16) + (1 + 8)]), ghe_to (n := 194) rfl rfl ⟨rfl, rfl, rfl, rfl, rfl, rfl, rfl, rfl, trivial⟩, h.1, h.2⟩
       ·replace h := h.2 (of_decide_eq_false q91)
        refine aw_skip ?_
        refine aw_gh (gh_to (n := 194) (σ' := [(35, ⟨ints o35_2, []⟩), (28, ⟨ints o28_1, []⟩)]) (env' := [(0, .c (.lst (tabs t))), (1, .c (.lst (ints colours))), (2, .c (ci x)), (7, .c (ci (colours.length : Int))), (8, .ref 28), (9, .c (ci v9_1)), (10, .ref 35), (11, .c (ci v11_2)), (12, .c (ci (el (el (el t v9_1) x) v11_2))), (13, .c (ci (el (el (el t v9_1) v11_2) x))), (14, .c (ci 1))]) rfl rfl ⟨rfl, rfl, rfl, rfl, rfl, rfl, rfl, rfl, rfl, rfl, rfl, trivial⟩) ?_
        refine aw_regionD (kd := kdl [0, 0, 0, 0, 1, 0, 0, 0, 0, 1, 0, 0, 0, 0, 0, 1, 0, 0, 0, 0, 2, 2, 0]) (ord := [0, 1, 2, 3, 6, 7, 8, 12, 13, 14, 18, 4, 5, 9, 10, 11, 15, 16, 17, 19, 20, 21, 22]) [35, 99] mixed (by kernel_rfl) ?_
        refine rd_s rfl rfl trivial (ss_move rfl) rfl ?_
        refine rd_s rfl rfl trivial (ss_move rfl) rfl ?_
        refine rd_s rfl rfl trivial (ss_move rfl) rfl ?_
        obtain ⟨q104, h⟩ := h
        refine rd_s rfl rfl trivial (ss_idxL rfl rfl q104) rfl ?_
        refine rd_s rfl rfl trivial (ss_move rfl) rfl ?_
        refine rd_s rfl rfl trivial (ss_move rfl) rfl ?_
        obtain ⟨q105, h⟩ := h
        refine rd_s rfl rfl trivial (ss_idxL rfl rfl q105) rfl ?_
        refine rd_s rfl rfl trivial (ss_move rfl) rfl ?_
        refine rd_s rfl rfl trivial (ss_move rfl) rfl ?_
        obtain ⟨q106, h⟩ := h
        refine rd_s rfl rfl trivial (ss_idxL rfl rfl q106) rfl ?_
        refine rd_s rfl rfl trivial (ss_move rfl) rfl ?_
        refine rd_l rfl rfl trivial (ss_loadL (f := ci) rfl q104) rfl ?_
        obtain ⟨q107, h⟩ := h
        refine rd_s rfl rfl trivial (ss_mul rfl rfl q107) rfl ?_
        refine rd_l rfl rfl trivial (ss_loadL (f := ci) rfl q105) rfl ?_
        obtain ⟨q108, h⟩ := h
        refine rd_s rfl rfl trivial (ss_add rfl rfl q108) rfl ?_
        obtain ⟨q109, h⟩ := h
        refine rd_s rfl rfl trivial (ss_mul rfl rfl q109) rfl ?_
        refine rd_l rfl rfl trivial (ss_loadL (f := ci) rfl q106) rfl ?_
        obtain ⟨q110, h⟩ := h
        refine rd_s rfl rfl trivial (ss_add rfl rfl q110) rfl ?_
        obtain ⟨q111, h⟩ := h
        refine rd_s rfl rfl trivial (ss_mul rfl rfl q111) rfl ?_
        obtain ⟨q112, h⟩ := h
        refine rd_s rfl rfl trivial (ss_add rfl rfl q112) rfl ?_
        refine rd_w rfl rfl trivial rfl rfl (ws_buildSlice (id := 99) (ps := [(0, .tmp 98)]) rfl rfl (Nat.le_of_ble_eq_true rfl) rfl ⟨rfl, ?_⟩)
        obtain ⟨q113, h⟩ := h
        refine rd_w rfl rfl trivial rfl rfl (ws_app1 ci (l := o35_2) (m := [((((((el colours v11_2) * 64) + (el colours (el (el (el t v9_1) x) v11_2))) * 64) + (el colours (el (el (el t v9_1) v11_2) x))) * 16) + 1]) rfl rfl rfl rfl rfl (Nat.le_of_ble_eq_true rfl) q113 ⟨rfl, ?_⟩)
        refine rd_s rfl rfl trivial (ss_assign rfl) rfl ?_
        refine rd_nil ?_
        refine aw_gh (gh_to (n := 194) (σ' := [(35, ⟨ints (o35_2 ++ ([((((((el colours v11_2) * 64) + (el colours (el (el (el t v9_1) x) v11_2))) * 64) + (el colours (el (el (el t v9_1) v11_2) x))) * 16) + 1])), []⟩), (28, ⟨ints o28_1, []⟩)]) (env' := [(0, .c (.lst (tabs t))), (1, .c (.lst (ints colours))), (2, .c (ci x)), (7, .c (ci (colours.length : Int))), (8, .ref 28), (9, .c (ci v9_1)), (10, .ref 35), (11, .c (ci v11_2))]) rfl rfl ⟨rfl, rfl, rfl, rfl, rfl, rfl, rfl, rfl, trivial⟩) ?_
        refine aw_region ?_
        refine run_s (ss_move rfl) rfl ?_
        obtain ⟨q114, h⟩ := h
        refine run_s (ss_add rfl rfl q114) rfl ?_
        refine run_s (ss_assign rfl) rfl ?_
        refine run_nil ?_
        exact ⟨v11_2 + 1, o35_2 ++ ([((((((el colours v11_2) * 64) + (el colours (el (el (el t v9_1) x) v11_2))) * 64) + (el colours (el (el (el t v9_1) v11_2) x))) * 16) + 1]), ghe_to (n := 194) rfl rfl ⟨rfl, rfl, rfl, rfl, rfl, rfl, rfl, rfl, trivial⟩, h.1, h.2⟩
    ·replace h := h.2 (of_decide_eq_false q12)
     refine aw_skip ?_
     refine aw_seq ?_
     refine aw_seq ?_
     refine aw_region ?_
     refine run_s (ss_move rfl) rfl ?_
     refine run_s (ss_move rfl) rfl ?_
     refine run_s (ss_eql rfl rfl) rfl ?_
     refine run_nil ?_
     refine aw_cond rfl (fun q115 => ?_) (fun q115 => ?_)
     ·replace h := h.1 (of_decide_eq_true q115)
      refine aw_region ?_
      refine run_s (ss_move rfl) rfl ?_
      obtain ⟨q116, h⟩ := h
      refine run_s (ss_add rfl rfl q116) rfl ?_
      refine run_s (ss_assign rfl) rfl ?_
      refine run_nil ?_
      refine aw_seq ?_
      refine aw_seq ?_
      refine aw_region ?_
      refine run_s (ss_move rfl) rfl ?_
      refine run_s (ss_move rfl) rfl ?_
      refine run_s (ss_eql rfl rfl) rfl ?_
      refine run_nil ?_
      refine aw_cond rfl (fun q117 => ?_) (fun q117 => ?_)
      ·replace h := h.1 (of_decide_eq_true q117)
       refine aw_region ?_
       refine run_s (ss_move rfl) rfl ?_
       obtain ⟨q118, h⟩ := h
       refine run_s (ss_add rfl rfl q118) rfl ?_
       refine run_s (ss_assign rfl) rfl ?_
       refine run_nil ?_
       refine aw_seq ?_
       refine aw_seq ?_
       refine aw_region ?_
       refine run_s (ss_move rfl) rfl ?_
       refine run_s (ss_move rfl) rfl ?_
       refine run_s (ss_eql rfl rfl) rfl ?_
       refine run_nil ?_
       refine aw_cond rfl (fun q119 => ?_) (fun q119 => ?_)
       ·replace h := h.1 (of_decide_eq_true q119)
        refine aw_gh (gh_to (n := 194) (σ' := [(35, ⟨ints o35_2, []⟩), (28, ⟨ints o28_1, []⟩)]) (env' := [(0, .c (.lst (tabs t))), (1, .c (.lst (ints colours))), (2, .c (ci x)), (7, .c (ci (colours.length : Int))), (8, .ref 28), (9, .c (ci v9_1)), (10, .ref 35), (11, .c (ci v11_2)), (12, .c (ci (el (el (el t v9_1) x) v11_2))), (13, .c (ci (el (el (el t v9_1) v11_2) x))), (14, .c (ci ((0 + 2) + 4)))]) rfl rfl ⟨rfl, rfl, rfl, rfl, rfl, rfl, rfl, rfl, rfl, rfl, rfl, trivial⟩) ?_
        refine aw_region ?_
        refine run_s (ss_move rfl) rfl ?_
        obtain ⟨q120, h⟩ := h
        refine run_s (ss_add rfl rfl q120) rfl ?_
        refine run_s (ss_assign rfl) rfl ?_
        refine run_nil ?_
        refine aw_gh (gh_to (n := 194) (σ' := [(35, ⟨ints o35_2, []⟩), (28, ⟨ints o28_1, []⟩)]) (env' := [(0, .c (.lst (tabs t))), (1, .c (.lst (ints colours))), (2, .c (ci x)), (7, .c (ci (colours.length : Int))), (8, .ref 28), (9, .c (ci v9_1)), (10, .ref 35), (11, .c (ci v11_2)), (12, .c (ci (el (el (el t v9_1) x) v11_2))), (13, .c (ci (el (el (el t v9_1) v11_2) x))), (14, .c (ci (((0 + 2) + 4) + 8)))]) rfl rfl ⟨rfl, rfl, rfl, rfl, rfl, rfl, rfl, rfl, rfl, rfl, rfl, trivial⟩) ?_
        refine aw_regionD (kd := kdl [0, 0, 0, 0, 1, 0, 0, 0, 0, 1, 0, 0, 0, 0, 0, 1, 0, 0, 0, 0, 2, 2, 0]) (ord := [0, 1, 2, 3, 6, 7, 8, 12, 13, 14, 18, 4, 5, 9, 10, 11, 15, 16, 17, 19, 20, 21, 22]) [35, 99] mixed (by kernel_rfl) ?_
        refine rd_s rfl rfl trivial (ss_move rfl) rfl ?_
        refine rd_s rfl rfl trivial (ss_move rfl) rfl ?_
        refine rd_s rfl rfl trivial (ss_move rfl) rfl ?_
        obtain ⟨q121, h⟩ := h
        refine rd_s rfl rfl trivial (ss_idxL rfl rfl q121) rfl ?_
        refine rd_s rfl rfl trivial (ss_move rfl) rfl ?_
        refine rd_s rfl rfl trivial (ss_move rfl) rfl ?_
        obtain ⟨q122, h⟩ := h
        refine rd_s rfl rfl trivial (ss_idxL rfl rfl q122) rfl ?_
        refine rd_s rfl rfl trivial (ss_move rfl) rfl ?_
        refine rd_s rfl rfl trivial (ss_move rfl) rfl ?_
        obtain ⟨q123, h⟩ := h
        refine rd_s rfl rfl trivial (ss_idxL rfl rfl q123) rfl ?_
        refine rd_s rfl rfl trivial (ss_move rfl) rfl ?_
        refine rd_l rfl rfl trivial (ss_loadL (f := ci) rfl q121) rfl ?_
        obtain ⟨q124, h⟩ := h
        refine rd_s rfl rfl trivial (ss_mul rfl rfl q124) rfl ?_
        refine rd_l rfl rfl trivial (ss_loadL (f := ci) rfl q122) rfl ?_
        obtain ⟨q125, h⟩ := h
        refine rd_s rfl rfl trivial (ss_add rfl rfl q125) rfl ?_
        obtain ⟨q126, h⟩ := h
        refine rd_s rfl rfl trivial (ss_mul rfl rfl q126) rfl ?_
        refine rd_l rfl rfl trivial (ss_loadL (f := ci) rfl q123) rfl ?_
        obtain ⟨q127, h⟩ := h
        refine rd_s rfl rfl trivial (ss_add rfl rfl q127) rfl ?_
        obtain ⟨q128, h⟩ := h
        refine rd_s rfl rfl trivial (ss_mul rfl rfl q128) rfl ?_
        obtain ⟨q129, h⟩ := h
        refine rd_s rfl rfl trivial (ss_add rfl rfl q129) rfl ?_
        refine rd_w rfl rfl trivial rfl rfl (ws_buildSlice (id := 99) (ps := [(0, .tmp 98)]) rfl rfl (Nat.le_of_ble_eq_true rfl) rfl ⟨rfl, ?_⟩)
        obtain ⟨q130, h⟩ := h
        refine rd_w rfl rfl trivial rfl rfl (ws_app1 ci (l := o35_2) (m := [((((((el colours v11_2) * 64) + (el colours (el (el (el t v9_1) x) v11_2))) * 64) + (el colours (el (el (el t v9_1) v11_2) x))) * 16) + (((0 + 2) + 4) + 8)]) rfl rfl rfl rfl rfl (Nat.le_of_ble_eq_true rfl) q130 ⟨rfl, ?_⟩)
        refine rd_s rfl rfl trivial (ss_assign rfl) rfl ?_
        refine rd_nil ?_
        refine aw_gh (gh_to (n := 194) (σ' := [(35, ⟨ints (o35_2 ++ ([((((((el colours v11_2) * 64) + (el colours (el (el (el t v9_1) x) v11_2))) * 64) + (el colours (el (el (el t v9_1) v11_2) x))) * 16) + (((0 + 2) + 4) + 8)])), []⟩), (28, ⟨ints o28_1, []⟩)]) (env' := [(0, .c (.lst (tabs t))), (1, .c (.lst (ints colours))), (2, .c (ci x)), (7, .c (ci (colours.length : Int))), (8, .ref 28), (9, .c (ci v9_1)), (10, .ref 35), (11, .c (ci v11_2))]) rfl rfl ⟨rfl, rfl, rfl, rfl, rfl, rfl, rfl, rfl, trivial⟩) ?_
        refine aw_region ?_
        refine run_s (ss_move rfl) rfl ?_
        obtain ⟨q131, h⟩ := h
        refine run_s (ss_add rfl rfl q131) rfl ?_
        refine run_s (ss_assign rfl) rfl ?_
        refine run_nil ?_
        exact ⟨v11_2 + 1, o35_2 ++ ([((((((el colours v11_2) * 64) + (el colours (el (el (el t v9_1) x) v11_2))) * 64) + (el colours (el (el (el t v9_1) v11_2) x))) * 16) + (((0 + 2) + 4) + 8)]), ghe_to (n := 194) rfl rfl ⟨rfl, rfl, rfl, rfl, rfl, rfl, rfl, rfl, trivial⟩, h.1, h.2⟩
       ·replace h := h.2 (of_decide_eq_false q119)
        refine aw_skip ?_
        refine aw_gh (gh_to (n := 194) (σ' := [(35, ⟨ints o35_2, []⟩), (28, ⟨ints o28_1, []⟩)]) (env' := [(0, .c (.lst (tabs t))), (1, .c (.lst (ints colours))), (2, .c (ci x)), (7, .c (ci (colours.length : Int))), (8, .ref 28), (9, .c (ci v9_1)), (10, .ref 35), (11, .c (ci v11_2)), (12, .c (ci (el (el (el t v9_1) x) v11_2))), (13, .c (ci (el (el (el t v9_1) v11_2) x))), (14, .c (ci ((0 + 2) + 4)))]) rfl rfl ⟨rfl, rfl, rfl, rfl, rfl, rfl, rfl, rfl, rfl, rfl, rfl, trivial⟩) ?_
        refine aw_regionD (kd := kdl [0, 0, 0, 0, 1, 0, 0, 0, 0, 1, 0, 0, 0, 0, 0, 1, 0, 0, 0, 0, 2, 2, 0]) (ord := [0, 1, 2, 3, 6, 7, 8, 12, 13, 14, 18, 4, 5, 9, 10, 11, 15, 16, 17, 19, 20, 21, 22]) [35, 99] mixed (by kernel_rfl) ?_
        refine rd_s rfl rfl trivial (ss_move rfl) rfl ?_
        refine rd_s rfl rfl trivial (ss_move rfl) rfl ?_
        refine rd_s rfl rfl trivial (ss_move rfl) rfl ?_
        obtain ⟨q132, h⟩ := h
        refine rd_s rfl rfl trivial (ss_idxL rfl rfl q132) rfl ?_
        refine rd_s rfl rfl trivial (ss_move rfl) rfl ?_
        refine rd_s rfl rfl trivial (ss_move rfl) rfl ?_
        obtain ⟨q133, h⟩ := h
        refine rd_s rfl rfl trivial (ss_idxL rfl rfl q133) rfl ?_
        refine rd_s rfl rfl trivial (ss_move rfl) rfl ?_
        refine rd_s rfl rfl trivial (ss_move rfl) rfl ?_
        obtain ⟨q134, h⟩ := h
        refine rd_s rfl rfl trivial (ss_idxL rfl rfl q134) rfl ?_
        refine rd_s rfl rfl trivial (ss_move rfl) rfl ?_
        refine rd_l rfl rfl trivial (ss_loadL (f := ci) rfl q132) rfl ?_
        obtain ⟨q135, h⟩ := h
        refine rd_s rfl rfl trivial (ss_mul rfl rfl q135) rfl ?_
        refine rd_l rfl rfl trivial (ss_loadL (f := ci) rfl q133) rfl ?_
        obtain ⟨q136, h⟩ := h
        refine rd_s rfl rfl trivial (ss_add rfl rfl q136) rfl ?_
        obtain ⟨q137, h⟩ := h
        refine rd_s rfl rfl trivial (ss_mul rfl rfl q137) rfl ?_
        refine rd_l rfl rfl trivial (ss_loadL (f := ci) rfl q134) rfl ?_
        obtain ⟨q138, h⟩ := h
        refine rd_s rfl rfl trivial (ss_add rfl rfl q138) rfl ?_
        obtain ⟨q139, h⟩ := h
        refine rd_s rfl rfl trivial (ss_mul rfl rfl q139) rfl ?_
        obtain ⟨q140, h⟩ := h
        refine rd_s rfl rfl trivial (ss_add rfl rfl q140) rfl ?_
        refine rd_w rfl rfl trivial rfl rfl (ws_buildSlice (id := 99) (ps := [(0, .tmp 98)]) rfl rfl (Nat.le_of_ble_eq_true rfl) rfl ⟨rfl, ?_⟩)
        obtain ⟨q141, h⟩ := h
        refine rd_w rfl rfl trivial rfl rfl (ws_app1 ci (l := o35_2) (m := [((((((el colours v11_2) * 64) + (el colours (el (el (el t v9_1) x) v11_2))) * 64) + (el colours (el (el (el t v9_1) v11_2) x))) * 16) + ((0 + 2) + 4)]) rfl rfl rfl rfl rfl (Nat.le_of_ble_eq_true rfl) q141 ⟨rfl, ?_⟩)
        refine rd_s rfl rfl trivial (ss_assign rfl) rfl ?_
        refine rd_nil ?_
        refine aw_gh (gh_to (n := 194) (σ' := [(35, ⟨ints (o35_2 ++ ([((((((el colours v11_2) * 64) + (el colours (el (el (el t v9_1) x) v11_2))) * 64) + (el colours (el (el (el t v9_1) v11_2) x))) * 16) + ((0 + 2) + 4)])), []⟩), (28, ⟨ints o28_1, []⟩)]) (env' := [(0, .c (.lst (tabs t))), (1, .c (.lst (ints colours))), (2, .c (ci x)), (7, .c (ci (colours.length : Int))), (8, .ref 28), (9, .c (ci v9_1)), (10, .ref 35), (11, .c (ci v11_2))]) rfl rfl ⟨rfl, rfl, rfl, rfl, rfl, rfl, rfl, rfl, trivial⟩) ?_
        refine aw_region ?_
        refine run_s (ss_move rfl) rfl ?_
        obtain ⟨q142, h⟩ := h
        refine run_s (ss_add rfl rfl q142) rfl ?_
        refine run_s (ss_assign rfl) rfl ?_
        refine run_nil ?_
        exact ⟨v11_2 + 1, o35_2 ++ ([((((((el colours v11_2) * 64) + (el colours (el (el (el t v9_1) x) v11_2))) * 64) + (el colours (el (el (el t v9_1) v11_2) x))) * 16) + ((0 + 2) + 4)]), ghe_to (n := 194) rfl rfl ⟨rfl, rfl, rfl, rfl, rfl, rfl, rfl, rfl, trivial⟩, h.1, h.2⟩
      ·replace h := h.2 (of_decide_eq_false q117)
       refine aw_skip ?_
       refine aw_seq ?_
       refine aw_seq ?_
       refine aw_region ?_
       refine run_s (ss_move rfl) rfl ?_
       refine run_s (ss_move rfl) rfl ?_
       refine run_s (ss_eql rfl rfl) rfl ?_
       refine run_nil ?_
       refine aw_cond rfl (fun q143 => ?_) (fun q143 => ?_)
       ·replace h := h.1 (of_decide_eq_true q143)
        refine aw_region ?_
        refine run_s (ss_move rfl) rfl ?_
        obtain ⟨q144, h⟩ := h
        refine run_s (ss_add rfl rfl q144) rfl ?_
        refine run_s (ss_assign rfl) rfl ?_
        refine run_nil ?_
        refine aw_gh (gh_to (n := 194) (σ' := [(35, ⟨ints o35_2, []⟩), (28, ⟨ints o28_1, []⟩)]) (env' := [(0, .c (.lst (tabs t))), (1, .c (.lst (ints colours))), (2, .c (ci x)), (7, .c (ci (colours.length : Int))), (8, .ref 28), (9, .c (ci v9_1)), (10, .ref 35), (11, .c (ci v11_2)), (12, .c (ci (el (el (el t v9_1) x) v11_2))), (13, .c (ci (el (el (el t v9_1) v11_2) x))), (14, .c (ci ((0 + 2) + 8)))]) rfl rfl ⟨rfl, rfl, rfl, rfl, rfl, rfl, rfl, rfl, rfl, rfl, rfl, trivial⟩) ?_
        refine aw_regionD (kd := kdl [0, 0, 0, 0, 1, 0, 0, 0, 0, 1, 0, 0, 0, 0, 0, 1, 0, 0, 0, 0, 2, 2, 0]) (ord := [0, 1, 2, 3, 6, 7, 8, 12, 13, 14, 18, 4, 5, 9, 10, 11, 15, 16, 17, 19, 20, 21, 22]) [35, 99] mixed (by kernel_rfl) ?_
        refine rd_s rfl rfl trivial (ss_move rfl) rfl ?_
        refine rd_s rfl rfl trivial (ss_move rfl) rfl ?_
        refine rd_s rfl rfl trivial (ss_move rfl) rfl ?_
        obtain ⟨q145, h⟩ := h
        refine rd_s rfl rfl trivial (ss_idxL rfl rfl q145) rfl ?_
        refine rd_s rfl rfl trivial (ss_move rfl) rfl ?_
        refine rd_s rfl rfl trivial (ss_move rfl) rfl ?_
        obtain ⟨q146, h⟩ := h
        refine rd_s rfl rfl trivial (ss_idxL rfl rfl q146) rfl ?_
        refine rd_s rfl rfl trivial (ss_move rfl) rfl ?_
        refine rd_s rfl rfl trivial (ss_move rfl) rfl ?_
        obtain ⟨q147, h⟩ := h
        refine rd_s rfl rfl trivial (ss_idxL rfl rfl q147) rfl ?_
        refine rd_s rfl rfl trivial (ss_move rfl) rfl ?_
        refine rd_l rfl rfl trivial (ss_loadL (f := ci) rfl q145) rfl ?_
        obtain ⟨q148, h⟩ := h
        refine rd_s rfl rfl trivial (ss_mul rfl rfl q148) rfl ?_
        refine rd_l rfl rfl trivial (ss_loadL (f := ci) rfl q146) rfl ?_
        obtain ⟨q149, h⟩ := h
        refine rd_s rfl rfl trivial (ss_add rfl rfl q149) rfl ?_
        obtain ⟨q150, h⟩ := h
        refine rd_s rfl rfl trivial (ss_mul rfl rfl q150) rfl ?_
        refine rd_l rfl rfl trivial (ss_loadL (f := ci) rfl q147) rfl ?_
        obtain ⟨q151, h⟩ := h
        refine rd_s rfl rfl trivial (ss_add rfl rfl q151) rfl ?_
        obtain ⟨q152, h⟩ := h
        refine rd_s rfl rfl trivial (ss_mul rfl rfl q152) rfl ?_
        obtain ⟨q153, h⟩ := h
        refine rd_s rfl rfl trivial (ss_add rfl rfl q153) rfl ?_
        refine rd_w rfl rfl trivial rfl rfl (ws_buildSlice (id := 99) (ps := [(0, .tmp 98)]) rfl rfl (Nat.le_of_ble_eq_true rfl) rfl ⟨rfl, ?_⟩)
        obtain ⟨q154, h⟩ := h
        refine rd_w rfl rfl trivial rfl rfl (ws_app1 ci (l := o35_2) (m := [((((((el colours v11_2) * 64) + (el colours (el (el (el t v9_1) x) v11_2))) * 64) + (el colours (el (el (el t v9_1) v11_2) x))) * 16) + ((0 + 2) + 8)]) rfl rfl rfl rfl rfl (Nat.le_of_ble_eq_true rfl) q154 ⟨rfl, ?_⟩)
        refine rd_s rfl rfl trivial (ss_assign rfl) rfl ?_
        refine rd_nil ?_
        refine aw_gh (gh_to (n := 194) (σ' := [(35, ⟨ints (o35_2 ++ ([((((((el colours v11_2) * 64) + (el colours (el (el (el t v9_1) x) v11_2))) * 64) + (el colours (el (el (el t v9_1) v11_2) x))) * 16) + ((0 + 2) + 8)])), []⟩), (28, ⟨ints o28_1, []⟩)]) (env' := [(0, .c (.lst (tabs t))), (1, .c (.lst (ints colours))), (2, .c (ci x)), (7, .c (ci (colours.length : Int))), (8, .ref 28), (9, .c (ci v9_1)), (10, .ref 35), (11, .c (ci v11_2))]) rfl rfl ⟨rfl, rfl, rfl, rfl, rfl, rfl, rfl, rfl, trivial⟩) ?_
        refine aw_region ?_
        refine run_s (ss_move rfl) rfl ?_
        obtain ⟨q155, h⟩ := h
        refine run_s (ss_add rfl rfl q155) rfl ?_
        refine run_s (ss_assign rfl) rfl ?_
        refine run_nil ?_
        exact ⟨v11_2 + 1, o35_2 ++ ([((((((el colours v11_2) * 64) + (el colours (el (el (el t v9_1) x) v11_2))) * 64) + (el colours (el (el (el t v9_1) v11_2) x))) * 16) + ((0 + 2) + 8)]), ghe_to (n := 194) rfl rfl ⟨rfl, rfl, rfl, rfl, rfl, rfl, rfl, rfl, trivial⟩, h.1, h.2⟩
       ·replace h := h.2 (of_decide_eq_false q143)
        refine aw_skip ?_
        refine aw_gh (gh_to (n := 194) (σ' := [(35, ⟨ints o35_2, []⟩), (28, ⟨ints o28_1, []⟩)]) (env' := [(0, .c (.lst (tabs t))), (1, .c (.lst (ints colours))), (2, .c (ci x)), (7, .c (ci (colours.length : Int))), (8, .ref 28), (9, .c (ci v9_1)), (10, .ref 35), (11, .c (ci v11_2)), (12, .c (ci (el (el (el t v9_1) x) v11_2))), (13, .c (ci (el (el (el t v9_1) v11_2) x))), (14, .c (ci (0 + 2)))]) rfl rfl ⟨rfl, rfl, rfl, rfl, rfl, rfl, rfl, rfl, rfl, rfl, rfl, trivial⟩) ?_
        refine aw_regionD (kd := kdl [0, 0, 0, 0, 1, 0, 0, 0, 0, 1, 0, 0, 0, 0, 0, 1, 0, 0, 0, 0, 2, 2, 0]) (ord := [0, 1, 2, 3, 6, 7, 8, 12, 13, 14, 18, 4, 5, 9, 10, 11, 15, 16, 17, 19, 20, 21, 22]) [35, 99] mixed (by kernel_rfl) ?_
        refine rd_s rfl rfl trivial (ss_move rfl) rfl ?_
        refine rd_s rfl rfl trivial (ss_move rfl) rfl ?_
        refine rd_s rfl rfl trivial (ss_move rfl) rfl ?_
        obtain ⟨q156, h⟩ := h
        refine rd_s rfl rfl trivial (ss_idxL rfl rfl q156) rfl ?_
        refine rd_s rfl rfl trivial (ss_move rfl) rfl ?_
        refine rd_s rfl rfl trivial (ss_move rfl) rfl ?_
        obtain ⟨q157, h⟩ := h
        refine rd_s rfl rfl trivial (ss_idxL rfl rfl q157) rfl ?_
        refine rd_s rfl rfl trivial (ss_move rfl) rfl ?_
        refine rd_s rfl rfl trivial (ss_move rfl) rfl ?_
        obtain ⟨q158, h⟩ := h
        refine rd_s rfl rfl trivial (ss_idxL rfl rfl q158) rfl ?_
        refine rd_s rfl rfl trivial (ss_move rfl) rfl ?_
        refine rd_l rfl rfl trivial (ss_loadL (f := ci) rfl q156) rfl ?_
        obtain ⟨q159, h⟩ := h
        refine rd_s rfl rfl trivial (ss_mul rfl rfl q159) rfl ?_
        refine rd_l rfl rfl trivial (ss_loadL (f := ci) rfl q157) rfl ?_
        obtain ⟨q160, h⟩ := h
        refine rd_s rfl rfl trivial (ss_add rfl rfl q160) rfl ?_
        obtain ⟨q161, h⟩ := h
        refine rd_s rfl rfl trivial (ss_mul rfl rfl q161) rfl ?_
        refine rd_l rfl rfl trivial (ss_loadL (f := ci) rfl q158) rfl ?_
        obtain ⟨q162, h⟩ := h
        refine rd_s rfl rfl trivial (ss_add rfl rfl q162) rfl ?_
        obtain ⟨q163, h⟩ := h
        refine rd_s rfl rfl trivial (ss_mul rfl rfl q163) rfl ?_
        obtain ⟨q164, h⟩ := h
        refine rd_s rfl rfl trivial (ss_add rfl rfl q164) rfl ?_
        refine rd_w rfl rfl trivial rfl rfl (ws_buildSlice (id := 99) (ps := [(0, .tmp 98)]) rfl rfl (Nat.le_of_ble_eq_true rfl) rfl ⟨rfl, ?_⟩)
        obtain ⟨q165, h⟩ := h
        refine rd_w rfl rfl trivial rfl rfl (ws_app1 ci (l := o35_2) (m := [((((((el colours v11_2) * 64) + (el colours (el (el (el t v9_1) x) v11_2))) * 64) + (el colours (el (el (el t v9_1) v11_2) x))) * 16) + (0 + 2)]) rfl rfl rfl rfl rfl (Nat.le_of_ble_eq_true rfl) q165 ⟨rfl, ?_⟩)
        refine rd_s rfl rfl trivial (ss_assign rfl) rfl ?_
        refine rd_nil ?_
        refine aw_gh (gh_to (n := 194) (σ' := [(35, ⟨ints (o35_2 ++ ([((((((el colours v11_2) * 64) + (el colours (el (el (el t v9_1) x) v11_2))) * 64) + (el colours (el (el (el t v9_1) v11_2) x))) * 16) + (0 + 2)])), []⟩), (28, ⟨ints o28_1, []⟩)]) (env' := [(0, .c (.lst (tabs t))), (1, .c (.lst (ints colours))), (2, .c (ci x)), (7, .c (ci (colours.length : Int))), (8, .ref 28), (9, .c (ci v9_1)), (10, .ref 35), (11, .c (ci v11_2))]) rfl rfl ⟨rfl, rfl, rfl, rfl, rfl, rfl, rfl, rfl, trivial⟩) ?_
        refine aw_region ?_
        refine run_s (ss_move rfl) rfl ?_
        obtain ⟨q166, h⟩ := h
        refine run_s (ss_add rfl rfl q166) rfl ?_
        refine run_s (ss_assign rfl) rfl ?_
        refine run_nil ?_
        exact ⟨v11_2 + 1, o35_2 ++ ([((((((el colours v11_2) * 64) + (el colours (el (el (el t v9_1) x) v11_2))) * 64) + (el colours (el (el (el t v9_1) v11_2) x))) * 16) + (0 + 2)]), ghe_to (n := 194) rfl rfl ⟨rfl, rfl, rfl, rfl, rfl, rfl, rfl, rfl, trivial⟩, h.1, h.2⟩
     ·replace h := h.2 (of_decide_eq_false q115)
      refine aw_skip ?_
      refine aw_seq ?_
      refine aw_seq ?_
      refine aw_region ?_
      refine run_s (ss_move rfl) rfl ?_
      refine run_s (ss_move rfl) rfl ?_
      refine run_s (ss_eql rfl rfl) rfl ?_
      refine run_nil ?_
      refine aw_cond rfl (fun q167 => ?_) (fun q167 => ?_)
      ·replace h := h.1 (of_decide_eq_true q167)
       refine aw_region ?_
       refine run_s (ss_move rfl) rfl ?_
       obtain ⟨q168, h⟩ := h
       refine run_s (ss_add rfl rfl q168) rfl ?_
       refine run_s (ss_assign rfl) rfl ?_
       refine run_nil ?_
       refine aw_seq ?_
       refine aw_seq ?_
       refine aw_region ?_
       refine run_s (ss_move rfl) rfl ?_
       refine run_s (ss_move rfl) rfl ?_
       refine run_s (ss_eql rfl rfl) rfl ?_
       refine run_nil ?_
       refine aw_cond rfl (fun q169 => ?_) (fun q169 => ?_)
       ·replace h := h.1 (of_decide_eq_true q169)
        refine aw_region ?_
        refine run_s (ss_move rfl) rfl ?_
        obtain ⟨q170, h⟩ := h
        refine run_s (ss_add rfl rfl q170) rfl ?_
        refine run_s (ss_assign rfl) rfl ?_
        refine run_nil ?_
        refine aw_gh (gh_to (n := 194) (σ' := [(35, ⟨ints o35_2, []⟩), (28, ⟨ints o28_1, []⟩)]) (env' := [(0, .c (.lst (tabs t))), (1, .c (.lst (ints colours))), (2, .c (ci x)), (7, .c (ci (colours.length : Int))), (8, .ref 28), (9, .c (ci v9_1)), (10, .ref 35), (11, .c (ci v11_2)), (12, .c (ci (el (el (el t v9_1) x) v11_2))), (13, .c (ci (el (el (el t v9_1) v11_2) x))), (14, .c (ci ((0 + 4) + 8)))]) rfl rfl ⟨rfl, rfl, rfl, rfl, rfl, rfl, rfl, rfl, rfl, rfl, rfl, trivial⟩) ?_
        refine aw_regionD (kd := kdl [0, 0, 0, 0, 1, 0, 0, 0, 0, 1, 0, 0, 0, 0, 0, 1, 0, 0, 0, 0, 2, 2, 0]) (ord := [0, 1, 2, 3, 6, 7, 8, 12, 13, 14, 18, 4, 5, 9, 10, 11, 15, 16, 17, 19, 20, 21, 22]) [35, 99] mixed (by kernel_rfl) ?_
        refine rd_s rfl rfl trivial (ss_move rfl) rfl ?_
        refine rd_s rfl rfl trivial (ss_move rfl) rfl ?_
        refine rd_s rfl rfl trivial (ss_move rfl) rfl ?_
        obtain ⟨q171, h⟩ := h
        refine rd_s rfl rfl trivial (ss_idxL rfl rfl q171) rfl ?_
        refine rd_s rfl rfl trivial (ss_move rfl) rfl ?_
        refine rd_s rfl rfl trivial (ss_move rfl) rfl ?_
        obtain ⟨q172, h⟩ := h
        refine rd_s rfl rfl trivial (ss_idxL rfl rfl q172) rfl ?_
        refine rd_s rfl rfl trivial (ss_move rfl) rfl ?_
        refine rd_s rfl rfl trivial (ss_move rfl) rfl ?_
        obtain ⟨q173, h⟩ := h
        refine rd_s rfl rfl trivial (ss_idxL rfl rfl q173) rfl ?_
        refine rd_s rfl rfl trivial (ss_move rfl) rfl ?_
        refine rd_l rfl rfl trivial (ss_loadL (f := ci) rfl q171) rfl ?_
        obtain ⟨q174, h⟩ := h
        refine rd_s rfl rfl trivial (ss_mul rfl rfl q174) rfl ?_
        refine rd_l rfl rfl trivial (ss_loadL (f := ci) rfl q172) rfl ?_
        obtain ⟨q175, h⟩ := h
        refine rd_s rfl rfl trivial (ss_add rfl rfl q175) rfl ?_
        obtain ⟨q176, h⟩ := h
        refine rd_s rfl rfl trivial (ss_mul rfl rfl q176) rfl ?_
        refine rd_l rfl rfl trivial (ss_loadL (f := ci) rfl q173) rfl ?_
        obtain ⟨q177, h⟩ := h
        refine rd_s rfl rfl trivial (ss_add rfl rfl q177) rfl ?_
        obtain ⟨q178, h⟩ := h
        refine rd_s rfl rfl trivial (ss_mul rfl rfl q178) rfl ?_
        obtain ⟨q179, h⟩ := h
        refine rd_s rfl rfl trivial (ss_add rfl rfl q179) rfl ?_
        refine rd_w rfl rfl trivial rfl rfl (ws_buildSlice (id := 99) (ps := [(0, .tmp 98)]) rfl rfl (Nat.le_of_ble_eq_true rfl) rfl ⟨rfl, ?_⟩)
        obtain ⟨q180, h⟩ := h
        refine rd_w rfl rfl trivial rfl rfl (ws_app1 ci (l := o35_2) (m := [((((((el colours v11_2) * 64) + (el colours (el (el (el t v9_1) x) v11_2))) * 64) + (el colours (el (el (el t v9_1) v11_2) x))) * 16) + ((0 + 4) + 8)]) rfl rfl rfl rfl rfl (Nat.le_of_ble_eq_true rfl) q180 ⟨rfl, ?_⟩)
        refine rd_s rfl rfl trivial (ss_assign rfl) rfl ?_
        refine rd_nil ?_
        refine aw_gh (gh_to (n := 194) (σ' := [(35, ⟨ints (o35_2 ++ ([((((((el colours v11_2) * 64) + (el colours (el (el (el t v9_1) x) v11_2))) * 64) + (el colours (el (el (el t v9_1) v11_2) x))) * 16) + ((0 + 4) + 8)])), []⟩), (28, ⟨ints o28_1, []⟩)]) (env' := [(0, .c (.lst (tabs t))), (1, .c (.lst (ints colours))), (2, .c (ci x)), (7, .c (ci (colours.length : Int))), (8, .ref 28), (9, .c (ci v9_1)), (10, .ref 35), (11, .c (ci v11_2))]) rfl rfl ⟨rfl, rfl, rfl, rfl, rfl, rfl, rfl, rfl, trivial⟩) ?_
        refine aw_region ?_
        refine run_s (ss_move rfl) rfl ?_
        obtain ⟨q181, h⟩ := h
        refine run_s (ss_add rfl rfl q181) rfl ?_
        refine run_s (ss_assign rfl) rfl ?_
        refine run_nil ?_
        exact ⟨v11_2 + 1, o35_2 ++ ([((((((el colours v11_2) * 64) + (el colours (el (el (el t v9_1) x) v11_2))) * 64) + (el colours (el (el (el t v9_1) v11_2) x))) * 16) + ((0 + 4) + 8)]), ghe_to (n := 194) rfl rfl ⟨rfl, rfl, rfl, rfl, rfl, rfl, rfl, rfl, trivial⟩, h.1, h.2⟩
       ·replace h := h.2 (of_decide_eq_false q169)
        refine aw_skip ?_
        refine aw_gh (gh_to (n := 194) (σ' := [(35, ⟨ints o35_2, []⟩), (28, ⟨ints o28_1, []⟩)]) (env' := [(0, .c (.lst (tabs t))), (1, .c (.lst (ints colours))), (2, .c (ci x)), (7, .c (ci (colours.length : Int))), (8, .ref 28), (9, .c (ci v9_1)), (10, .ref 35), (11, .c (ci v11_2)), (12, .c (ci (el (el (el t v9_1) x) v11_2))), (13, .c (ci (el (el (el t v9_1) v11_2) x))), (14, .c (ci (0 + 4)))]) rfl rfl ⟨rfl, rfl, rfl, rfl, rfl, rfl, rfl, rfl, rfl, rfl, rfl, trivial⟩) ?_
        refine aw_regionD (kd := kdl [0, 0, 0, 0, 1, 0, 0, 0, 0, 1, 0, 0, 0, 0, 0, 1, 0, 0, 0, 0, 2, 2, 0]) (ord := [0, 1, 2, 3, 6, 7, 8, 12, 13, 14, 18, 4, 5, 9, 10, 11, 15, 16, 17, 19, 20, 21, 22]) [35, 99] mixed (by kernel_rfl) ?_
        refine rd_s rfl rfl trivial (ss_move rfl) rfl ?_
        refine rd_s rfl rfl trivial (ss_move rfl) rfl ?_
        refine rd_s rfl rfl trivial (ss_move rfl) rfl ?_
        obtain ⟨q182, h⟩ := h
        refine rd_s rfl rfl trivial (ss_idxL rfl rfl q182) rfl ?_
        refine rd_s rfl rfl trivial (ss_move rfl) rfl ?_
        refine rd_s rfl rfl trivial (ss_move rfl) rfl ?_
        obtain ⟨q183, h⟩ := h
        refine rd_s rfl rfl trivial (ss_idxL rfl rfl q183) rfl ?_
        refine rd_s rfl rfl trivial (ss_move rfl) rfl ?_
        refine rd_s rfl rfl trivial (ss_move rfl) rfl ?_
        obtain ⟨q184, h⟩ := h
        refine rd_s rfl rfl trivial (ss_idxL rfl rfl q184) rfl ?_
        refine rd_s rfl rfl trivial (ss_move rfl) rfl ?_
        refine rd_l rfl rfl trivial (ss_loadL (f := ci) rfl q182) rfl ?_
        obtain ⟨q185, h⟩ := h
        refine rd_s rfl rfl trivial (ss_mul rfl rfl q185) rfl ?_
        refine rd_l rfl rfl trivial (ss_loadL (f := ci) rfl q183) rfl ?_
        obtain ⟨q186, h⟩ := h
        refine rd_s rfl rfl trivial (ss_add rfl rfl q186) rfl ?_
        obtain ⟨q187, h⟩ := h
        refine rd_s rfl rfl trivial (ss_mul rfl rfl q187) rfl ?_
        refine rd_l rfl rfl trivial (ss_loadL (f := ci) rfl q184) rfl ?_
        obtain ⟨q188, h⟩ := h
        refine rd_s rfl rfl trivial (ss_add rfl rfl q188) rfl ?_
        obtain ⟨q189, h⟩ := h
        refine rd_s rfl rfl trivial (ss_mul rfl rfl q189) rfl ?_
        obtain ⟨q190, h⟩ := h
        refine rd_s rfl rfl trivial (ss_add rfl rfl q190) rfl ?_
        refine rd_w rfl rfl trivial rfl rfl (ws_buildSlice (id := 99) (ps := [(0, .tmp 98)]) rfl rfl (Nat.le_of_ble_eq_true rfl) rfl ⟨rfl, ?_⟩)
        obtain ⟨q191, h⟩ := h
        refine rd_w rfl rfl trivial rfl rfl (ws_app1 ci (l := o35_2) (m := [((((((el colours v11_2) * 64) + (el colours (el (el (el t v9_1) x) v11_2))) * 64) + (el colours (el (el (el t v9_1) v11_2) x))) * 16) + (0 + 4)]) rfl rfl rfl rfl rfl (Nat.le_of_ble_eq_true rfl) q191 ⟨rfl, ?_⟩)
        refine rd_s rfl rfl trivial (ss_assign rfl) rfl ?_
        refine rd_nil ?_
        refine aw_gh (gh_to (n := 194) (σ' := [(35, ⟨ints (o35_2 ++ ([((((((el colours v11_2) * 64) + (el colours (el (el (el t v9_1) x) v11_2))) * 64) + (el colours (el (el (el t v9_1) v11_2) x))) * 16) + (0 + 4)])), []⟩), (28, ⟨ints o28_1, []⟩)]) (env' := [(0, .c (.lst (tabs t))), (1, .c (.lst (ints colours))), (2, .c (ci x)), (7, .c (ci (colours.length : Int))), (8, .ref 28), (9, .c (ci v9_1)), (10, .ref 35), (11, .c (ci v11_2))]) rfl rfl ⟨rfl, rfl, rfl, rfl, rfl, rfl, rfl, rfl, trivial⟩) ?_
        refine aw_region ?_
        refine run_s (ss_move rfl) rfl ?_
        obtain ⟨q192, h⟩ := h
        refine run_s (ss_add rfl rfl q192) rfl ?_
        refine run_s (ss_assign rfl) rfl ?_
        refine run_nil ?_
        exact ⟨v11_2 + 1, o35_2 ++ ([((((((el colours v11_2) * 64) + (el colours (el (el (el t v9_1) x) v11_2))) * 64) + (el colours (el (el (el t v9_1) v11_2) x))) * 16) + (0 + 4)]), ghe_to (n := 194) rfl rfl ⟨rfl, rfl, rfl, rfl, rfl, rfl, rfl, rfl, trivial⟩, h.1, h.2⟩
      ·replace h := h.2 (of_decide_eq_false q167)
       refine aw_skip ?_
       refine aw_seq ?_
       refine aw_seq ?_
       refine aw_region ?_
       refine run_s (ss_move rfl) rfl ?_
       refine run_s (ss_move rfl) rfl ?_
       refine run_s (ss_eql rfl rfl) rfl ?_
       refine run_nil ?_
       refine aw_cond rfl (fun q193 => ?_) (fun q193 => ?_)
       ·replace h := h.1 (of_decide_eq_true q193)
        refine aw_region ?_
        refine run_s (ss_move rfl) rfl ?_
        obtain ⟨q194, h⟩ := h
        refine run_s (ss_add rfl rfl q194) rfl ?_
        refine run_s (ss_assign rfl) rfl ?_
        refine run_nil ?_
        refine aw_gh (gh_to (n := 194) (σ' := [(35, ⟨ints o35_2, []⟩), (28, ⟨ints o28_1, []⟩)]) (env' := [(0, .c (.lst (tabs t))), (1, .c (.lst (ints colours))), (2, .c (ci x)), (7, .c (ci (colours.length : Int))), (8, .ref 28), (9, .c (ci v9_1)), (10, .ref 35), (11, .c (ci v11_2)), (12, .c (ci (el (el (el t v9_1) x) v11_2))), (13, .c (ci (el (el (el t v9_1) v11_2) x))), (14, .c (ci (0 + 8)))]) rfl rfl ⟨rfl, rfl, rfl, rfl, rfl, rfl, rfl, rfl, rfl, rfl, rfl, trivial⟩) ?_
        refine aw_regionD (kd := kdl [0, 0, 0, 0, 1, 0, 0, 0, 0, 1, 0, 0, 0, 0, 0, 1, 0, 0, 0, 0, 2, 2, 0]) (ord := [0, 1, 2, 3, 6, 7, 8, 12, 13, 14, 18, 4, 5, 9, 10, 11, 15, 16, 17, 19, 20, 21, 22]) [35, 99] mixed (by kernel_rfl) ?_
        refine rd_s rfl rfl trivial (ss_move rfl) rfl ?_
        refine rd_s rfl rfl trivial (ss_move rfl) rfl ?_
        refine rd_s rfl rfl trivial (ss_move rfl) rfl ?_
        obtain ⟨q195, h⟩ := h
        refine rd_s rfl rfl trivial (ss_idxL rfl rfl q195) rfl ?_
        refine rd_s rfl rfl trivial (ss_move rfl) rfl ?_
        refine rd_s rfl rfl trivial (ss_move rfl) rfl ?_
        obtain ⟨q196, h⟩ := h
        refine rd_s rfl rfl trivial (ss_idxL rfl rfl q196) rfl ?_
        refine rd_s rfl rfl trivial (ss_move rfl) rfl ?_
        refine rd_s rfl rfl trivial (ss_move rfl) rfl ?_
        obtain ⟨q197, h⟩ := h
        refine rd_s rfl rfl trivial (ss_idxL rfl rfl q197) rfl ?_
        refine rd_s rfl rfl trivial (ss_move rfl) rfl ?_
        refine rd_l rfl rfl trivial (ss_loadL (f := ci) rfl q195) rfl ?_
        obtain ⟨q198, h⟩ := h
        refine rd_s rfl rfl trivial (ss_mul rfl rfl q198) rfl ?_
        refine rd_l rfl rfl trivial (ss_loadL (f := ci) rfl q196) rfl ?_
        obtain ⟨q199, h⟩ := h
        refine rd_s rfl rfl trivial (ss_add rfl rfl q199) rfl ?_
        obtain ⟨q200, h⟩ := h
        refine rd_s rfl rfl trivial (ss_mul rfl rfl q200) rfl ?_
        refine rd_l rfl rfl trivial (ss_loadL (f := ci) rfl q197) rfl ?_
        obtain ⟨q201, h⟩ := h
        refine rd_s rfl rfl trivial (ss_add rfl rfl q201) rfl ?_
        obtain ⟨q202, h⟩ := h
        refine rd_s rfl rfl trivial (ss_mul rfl rfl q202) rfl ?_
        obtain ⟨q203, h⟩ := h
        refine rd_s rfl rfl trivial (ss_add rfl rfl q203) rfl ?_
        refine rd_w rfl rfl trivial rfl rfl (ws_buildSlice (id := 99) (ps := [(0, .tmp 98)]) rfl rfl (Nat.le_of_ble_eq_true rfl) rfl ⟨rfl, ?_⟩)
        obtain ⟨q204, h⟩ := h
        refine rd_w rfl rfl trivial rfl rfl (ws_app1 ci (l := o35_2) (m := [((((((el colours v11_2) * 64) + (el colours (el (el (el t v9_1) x) v11_2))) * 64) + (el colours (el (el (el t v9_1) v11_2) x))) * 16) + (0 + 8)]) rfl rfl rfl rfl rfl (Nat.le_of_ble_eq_true rfl) q204 ⟨rfl, ?_⟩)
        refine rd_s rfl rfl trivial (ss_assign rfl) rfl ?_
        refine rd_nil ?_
        refine aw_gh (gh_to (n := 194) (σ' := [(35, ⟨ints (o35_2 ++ ([((((((el colours v11_2) * 64) + (el colours (el (el (el t v9_1) x) v11_2))) * 64) + (el colours (el (el (el t v9_1) v11_2) x))) * 16) + (0 + 8)])), []⟩), (28, ⟨ints o28_1, []⟩)]) (env' := [(0, .c (.lst (tabs t))), (1, .c (.lst (ints colours))), (2, .c (ci x)), (7, .c (ci (colours.length : Int))), (8, .ref 28), (9, .c (ci v9_1)), (10, .ref 35), (11, .c (ci v11_2))]) rfl rfl ⟨rfl, rfl, rfl, rfl, rfl, rfl, rfl, rfl, trivial⟩) ?_
        refine aw_region ?_
        refine run_s (ss_move rfl) rfl ?_
        obtain ⟨q205, h⟩ := h
        refine run_s (ss_add rfl rfl q205) rfl ?_
        refine run_s (ss_assign rfl) rfl ?_
        refine run_nil ?_
        exact ⟨v11_2 + 1, o35_2 ++ ([((((((el colours v11_2) * 64) + (el colours (el (el (el t v9_1) x) v11_2))) * 64) + (el colours (el (el (el t v9_1) v11_2) x))) * 16) + (0 + 8)]), ghe_to (n := 194) rfl rfl ⟨rfl, rfl, rfl, rfl, rfl, rfl, rfl, rfl, trivial⟩, h.1, h.2⟩
       ·replace h := h.2 (of_decide_eq_false q193)
        refine aw_skip ?_
        refine aw_gh (gh_to (n := 194) (σ' := [(35, ⟨ints o35_2, []⟩), (28, ⟨ints o28_1, []⟩)]) (env' := [(0, .c (.lst (tabs t))), (1, .c (.lst (ints colours))), (2, .c (ci x)), (7, .c (ci (colours.length : Int))), (8, .ref 28), (9, .c (ci v9_1)), (10, .ref 35), (11, .c (ci v11_2)), (12, .c (ci (el (el (el t v9_1) x) v11_2))), (13, .c (ci (el (el (el t v9_1) v11_2) x))), (14, .c (ci 0))]) rfl rfl ⟨rfl, rfl, rfl, rfl, rfl, rfl, rfl, rfl, rfl, rfl, rfl, trivial⟩) ?_
        refine aw_regionD (kd := kdl [0, 0, 0, 0, 1, 0, 0, 0, 0, 1, 0, 0, 0, 0, 0, 1, 0, 0, 0, 0, 2, 2, 0]) (ord := [0, 1, 2, 3, 6, 7, 8, 12, 13, 14, 18, 4, 5, 9, 10, 11, 15, 16, 17, 19, 20, 21, 22]) [35, 99] mixed (by kernel_rfl) ?_
        refine rd_s rfl rfl trivial (ss_move rfl) rfl ?_
        refine rd_s rfl rfl trivial (ss_move rfl) rfl ?_
        refine rd_s rfl rfl trivial (ss_move rfl) rfl ?_
        obtain ⟨q206, h⟩ := h
        refine rd_s rfl rfl trivial (ss_idxL rfl rfl q206) rfl ?_
        refine rd_s rfl rfl trivial (ss_move rfl) rfl ?_
        refine rd_s rfl rfl trivial (ss_move rfl) rfl ?_
        obtain ⟨q207, h⟩ := h
        refine rd_s rfl rfl trivial (ss_idxL rfl rfl q207) rfl ?_
        refine rd_s rfl rfl trivial (ss_move rfl) rfl ?_
        refine rd_s rfl rfl trivial (ss_move rfl) rfl ?_
        obtain ⟨q208, h⟩ := h
        refine rd_s rfl rfl trivial (ss_idxL rfl rfl q208) rfl ?_
        refine rd_s rfl rfl trivial (ss_move rfl) rfl ?_
        refine rd_l rfl rfl trivial (ss_loadL (f := ci) rfl q206) rfl ?_
        obtain ⟨q209, h⟩ := h
        refine rd_s rfl rfl trivial (ss_mul rfl rfl q209) rfl ?_
        refine rd_l rfl rfl trivial (ss_loadL (f := ci) rfl q207) rfl ?_
        obtain ⟨q210, h⟩ := h
        refine rd_s rfl rfl trivial (ss_add rfl rfl q210) rfl ?_
        obtain ⟨q211, h⟩ := h
        refine rd_s rfl rfl trivial (ss_mul rfl rfl q211) rfl ?_
        refine rd_l rfl rfl trivial (ss_loadL (f := ci) rfl q208) rfl ?_
        obtain ⟨q212, h⟩ := h
        refine rd_s rfl rfl trivial (ss_add rfl rfl q212) rfl ?_
        obtain ⟨q213, h⟩ := h
        refine rd_s rfl rfl trivial (ss_mul rfl rfl q213) rfl ?_
        obtain ⟨q214, h⟩ := h
        refine rd_s rfl rfl trivial (ss_add rfl rfl q214) rfl ?_
        refine rd_w rfl rfl trivial rfl rfl (ws_buildSlice (id := 99) (ps := [(0, .tmp 98)]) rfl rfl (Nat.le_of_ble_eq_true rfl) rfl ⟨rfl, ?_⟩)
        obtain ⟨q215, h⟩ := h
        refine rd_w rfl rfl trivial rfl rfl (ws_app1 ci (l := o35_2) (m := [((((((el colours v11_2) * 64) + (el colours (el (el (el t v9_1) x) v11_2))) * 64) + (el colours (el (el (el t v9_1) v11_2) x))) * 16) + 0]) rfl rfl rfl rfl rfl (Nat.le_of_ble_eq_true rfl) q215 ⟨rfl, ?_⟩)
        refine rd_s rfl rfl trivial (ss_assign rfl) rfl ?_
        refine rd_nil ?_
        refine aw_gh (gh_to (n := 194) (σ' := [(35, ⟨ints (o35_2 ++ ([((((((el colours v11_2) * 64) + (el colours (el (el (el t v9_1) x) v11_2))) * 64) + (el colours (el (el (el t v9_1) v11_2) x))) * 16) + 0])), []⟩), (28, ⟨ints o28_1, []⟩)]) (env' := [(0, .c (.lst (tabs t))), (1, .c (.lst (ints colours))), (2, .c (ci x)), (7, .c (ci (colours.length : Int))), (8, .ref 28), (9, .c (ci v9_1)), (10, .ref 35), (11, .c (ci v11_2))]) rfl rfl ⟨rfl, rfl, rfl, rfl, rfl, rfl, rfl, rfl, trivial⟩) ?_
        refine aw_region ?_
        refine run_s (ss_move rfl) rfl ?_
        obtain ⟨q216, h⟩ := h
        refine run_s (ss_add rfl rfl q216) rfl ?_
        refine run_s (ss_assign rfl) rfl ?_
        refine run_nil ?_
        exact ⟨v11_2 + 1, o35_2 ++ ([((((((el colours v11_2) * 64) + (el colours (el (el (el t v9_1) x) v11_2))) * 64) + (el colours (el (el (el t v9_1) v11_2) x))) * 16) + 0]), ghe_to (n := 194) rfl rfl ⟨rfl, rfl, rfl, rfl, rfl, rfl, rfl, rfl, trivial⟩, h.1, h.2⟩
   ·replace h := h.2 (of_decide_eq_false q5)
    refine aw_exit ?_
    refine aw_seq ?_
    refine aw_region ?_
    refine run_s (ss_move rfl) rfl ?_
    obtain ⟨q217, h⟩ := h
    refine run_w (ws_mk (id := 102) ci (0 : Int) rfl rfl rfl q217 (Nat.le_of_ble_eq_true rfl) rfl ⟨rfl, ?_⟩)
    refine run_s (ss_assign rfl) rfl ?_
    refine run_nil ?_
    refine aw_seq ?_
    refine aw_seq ?_
    refine aw_region ?_
    refine run_s (ss_assign rfl) rfl ?_
    refine run_nil ?_
    refine aw_block ?_
    obtain ⟨H3, m3, q218, h⟩ := h
    refine aw_loop2 (fun (v16_3 : Int) (o102_3 : List Int) => ⟨[(102, ⟨ints o102_3, []⟩), (35, ⟨ints o35_2, []⟩), (28, ⟨ints o28_1, []⟩)], [(0, .c (.lst (tabs t))), (1, .c (.lst (ints colours))), (2, .c (ci x)), (7, .c (ci (colours.length : Int))), (8, .ref 28), (9, .c (ci v9_1)), (10, .ref 35), (15, .ref 102), (16, .c (ci v16_3))], 194⟩) H3 m3 ⟨0, List.replicate (colours.length : Int).toNat (0 : Int), ghe_to (n := 194) rfl rfl ⟨rfl, rfl, rfl, rfl, rfl, rfl, rfl, rfl, rfl, trivial⟩, q218⟩ ?_
    rintro v16_3 o102_3 q218
    replace h := h v16_3 o102_3 q218
    refine aw_seq ?_
    refine aw_seq ?_
    refine aw_region ?_
    refine run_s (ss_move rfl) rfl ?_
    refine run_s (ss_move rfl) rfl ?_
    refine run_s (ss_lss rfl rfl) rfl ?_
    refine run_nil ?_
    refine aw_cond rfl (fun q219 => ?_) (fun q219 => ?_)
    ·replace h := h.1 (of_decide_eq_true q219)
     refine aw_skip ?_
     refine aw_seq ?_
     refine aw_block ?_
     refine aw_seq ?_
     refine aw_region ?_
     refine run_s (ss_assign rfl) rfl ?_
     refine run_nil ?_
     refine aw_block ?_
     obtain ⟨H4, m4, q220, h⟩ := h
     refine aw_loop2 (fun (v17_4 : Int) (o102_4 : List Int) => ⟨[(102, ⟨ints o102_4, []⟩), (35, ⟨ints o35_2, []⟩), (28, ⟨ints o28_1, []⟩)], [(0, .c (.lst (tabs t))), (1, .c (.lst (ints colours))), (2, .c (ci x)), (7, .c (ci (colours.length : Int))), (8, .ref 28), (9, .c (ci v9_1)), (10, .ref 35), (15, .ref 102), (16, .c (ci v16_3)), (17, .c (ci v17_4))], 194⟩) H4 m4 ⟨0, o102_3, ghe_to (n := 194) rfl rfl ⟨rfl, rfl, rfl, rfl, rfl, rfl, rfl, rfl, rfl, rfl, trivial⟩, q220⟩ ?_
     rintro v17_4 o102_4 q220
     replace h := h v17_4 o102_4 q220
     refine aw_seq ?_
     refine aw_seq ?_
     refine aw_region ?_
     refine run_s (ss_move rfl) rfl ?_
     refine run_s (ss_move rfl) rfl ?_
     refine run_s (ss_lss rfl rfl) rfl ?_
     refine run_nil ?_
     refine aw_cond rfl (fun q221 => ?_) (fun q221 => ?_)
     ·replace h := h.1 (of_decide_eq_true q221)
      refine aw_skip ?_
      refine aw_seq ?_
      refine aw_block ?_
      refine aw_seq ?_
      refine aw_region ?_
      refine run_s (ss_move rfl) rfl ?_
      refine run_s (ss_move rfl) rfl ?_
      obtain ⟨q222, h⟩ := h
      refine run_s (ss_idxL rfl rfl q222) rfl ?_
      refine run_s (ss_loadL (f := (fun r => C.lst (rows r))) rfl q222) rfl ?_
      refine run_s (ss_move rfl) rfl ?_
      obtain ⟨q223, h⟩ := h
      refine run_s (ss_idxL rfl rfl q223) rfl ?_
      refine run_s (ss_loadL (f := (fun r => C.lst (ints r))) rfl q223) rfl ?_
      refine run_s (ss_move rfl) rfl ?_
      obtain ⟨q224, h⟩ := h
      refine run_s (ss_idxL rfl rfl q224) rfl ?_
      refine run_s (ss_loadL (f := ci) rfl q224) rfl ?_
      refine run_s (ss_move rfl) rfl ?_
      refine run_s (ss_eql rfl rfl) rfl ?_
      refine run_nil ?_
      refine aw_cond rfl (fun q225 => ?_) (fun q225 => ?_)
      ·replace h := h.1 (of_decide_eq_true q225)
       refine aw_region ?_
       refine run_s (ss_move rfl) rfl ?_
       refine run_s (ss_move rfl) rfl ?_
       obtain ⟨q226, h⟩ := h
       refine run_s (ss_idxR (f := ci) rfl rfl rfl q226) rfl ?_
       refine run_s (ss_loadR (f := ci) rfl rfl q226 rfl rfl) rfl ?_
       obtain ⟨q227, h⟩ := h
       refine run_s (ss_add rfl rfl q227) rfl ?_
       obtain ⟨q228, h⟩ := h
       refine run_s (ss_idxR (f := ci) rfl rfl rfl q228) rfl ?_
       refine run_w (ws_storeE rfl rfl (map_lt q228) rfl rfl (map_se (f := ci)) rfl ⟨rfl, ?_⟩)
       refine run_nil ?_
       refine aw_gh (gh_to (n := 194) (σ' := [(102, ⟨ints (se o102_4 v16_3 ((el o102_4 v16_3) + 1)), []⟩), (35, ⟨ints o35_2, []⟩), (28, ⟨ints o28_1, []⟩)]) (env' := [(0, .c (.lst (tabs t))), (1, .c (.lst (ints colours))), (2, .c (ci x)), (7, .c (ci (colours.length : Int))), (8, .ref 28), (9, .c (ci v9_1)), (10, .ref 35), (15, .ref 102), (16, .c (ci v16_3)), (17, .c (ci v17_4))]) rfl rfl ⟨rfl, rfl, rfl, rfl, rfl, rfl, rfl, rfl, rfl, rfl, trivial⟩) ?_
       refine aw_region ?_
       refine run_s (ss_move rfl) rfl ?_
       obtain ⟨q229, h⟩ := h
       refine run_s (ss_add rfl rfl q229) rfl ?_
       refine run_s (ss_assign rfl) rfl ?_
       refine run_nil ?_
       exact ⟨v17_4 + 1, se o102_4 v16_3 ((el o102_4 v16_3) + 1), ghe_to (n := 194) rfl rfl ⟨rfl, rfl, rfl, rfl, rfl, rfl, rfl, rfl, rfl, rfl, trivial⟩, h.1, h.2⟩
      ·replace h := h.2 (of_decide_eq_false q225)
       refine aw_skip ?_
       refine aw_gh (gh_to (n := 194) (σ' := [(102, ⟨ints o102_4, []⟩), (35, ⟨ints o35_2, []⟩), (28, ⟨ints o28_1, []⟩)]) (env' := [(0, .c (.lst (tabs t))), (1, .c (.lst (ints colours))), (2, .c (ci x)), (7, .c (ci (colours.length : Int))), (8, .ref 28), (9, .c (ci v9_1)), (10, .ref 35), (15, .ref 102), (16, .c (ci v16_3)), (17, .c (ci v17_4))]) rfl rfl ⟨rfl, rfl, rfl, rfl, rfl, rfl, rfl, rfl, rfl, rfl, trivial⟩) ?_
       refine aw_region ?_
       refine run_s (ss_move rfl) rfl ?_
       obtain ⟨q230, h⟩ := h
       refine run_s (ss_add rfl rfl q230) rfl ?_
       refine run_s (ss_assign rfl) rfl ?_
       refine run_nil ?_
       exact ⟨v17_4 + 1, o102_4, ghe_to (n := 194) rfl rfl ⟨rfl, rfl, rfl, rfl, rfl, rfl, rfl, rfl, rfl, rfl, trivial⟩, h.1, h.2⟩
     ·replace h := h.2 (of_decide_eq_false q221)
      refine aw_exit ?_
      refine aw_region ?_
      refine run_s (ss_move rfl) rfl ?_
      obtain ⟨q231, h⟩ := h
      refine run_s (ss_add rfl rfl q231) rfl ?_
      refine run_s (ss_assign rfl) rfl ?_
      refine run_nil ?_
      exact ⟨v16_3 + 1, o102_4, ghe_to (n := 194) rfl rfl ⟨rfl, rfl, rfl, rfl, rfl, rfl, rfl, rfl, rfl, trivial⟩, h.1, h.2⟩
    ·replace h := h.2 (of_decide_eq_false q219)
     refine aw_exit ?_
     refine aw_seq ?_
     refine aw_seq ?_
     refine aw_region ?_
     refine run_s (ss_assign rfl) rfl ?_
     refine run_nil ?_
     refine aw_block ?_
     obtain ⟨H5, m5, q232, h⟩ := h
     refine aw_loop2 (fun (v18_4 : Int) (o35_4 : List Int) => ⟨[(102, ⟨ints o102_3, []⟩), (35, ⟨ints o35_4, []⟩), (28, ⟨ints o28_1, []⟩)], [(0, .c (.lst (tabs t))), (1, .c (.lst (ints colours))), (2, .c (ci x)), (7, .c (ci (colours.length : Int))), (8, .ref 28), (9, .c (ci v9_1)), (10, .ref 35), (15, .ref 102), (18, .c (ci v18_4))], 194⟩) H5 m5 ⟨0, o35_2, ghe_to (n := 194) rfl rfl ⟨rfl, rfl, rfl, rfl, rfl, rfl, rfl, rfl, rfl, trivial⟩, q232⟩ ?_
     rintro v18_4 o35_4 q232
     replace h := h v18_4 o35_4 q232
     refine aw_seq ?_
     refine aw_seq ?_
     refine aw_region ?_
     refine run_s (ss_move rfl) rfl ?_
     refine run_s (ss_move rfl) rfl ?_
     refine run_s (ss_lss rfl rfl) rfl ?_
     refine run_nil ?_
     refine aw_cond rfl (fun q233 => ?_) (fun q233 => ?_)
     ·replace h := h.1 (of_decide_eq_true q233)
      refine aw_skip ?_
      refine aw_seq ?_
      refine aw_block ?_
      refine aw_gh (gh_to (n := 194) (σ' := [(102, ⟨ints o102_3, []⟩), (35, ⟨ints o35_4, []⟩), (28, ⟨ints o28_1, []⟩)]) (env' := [(0, .c (.lst (tabs t))), (1, .c (.lst (ints colours))), (2, .c (ci x)), (7, .c (ci (colours.length : Int))), (8, .ref 28), (9, .c (ci v9_1)), (10, .ref 35), (15, .ref 102), (18, .c (ci v18_4))]) rfl rfl ⟨rfl, rfl, rfl, rfl, rfl, rfl, rfl, rfl, rfl, trivial⟩) ?_
      refine aw_regionD (kd := kdl [0, 0, 0, 0, 1, 0, 0, 0, 0, 0, 1, 0, 2, 2, 0]) (ord := [0, 1, 2, 3, 7, 8, 9, 4, 5, 6, 10, 11, 12, 13, 14]) [35, 148] mixed (by kernel_rfl) ?_
      refine rd_s rfl rfl trivial (ss_move rfl) rfl ?_
      refine rd_s rfl rfl trivial (ss_move rfl) rfl ?_
      refine rd_s rfl rfl trivial (ss_move rfl) rfl ?_
      obtain ⟨q234, h⟩ := h
      refine rd_s rfl rfl trivial (ss_idxL rfl rfl q234) rfl ?_
      refine rd_s rfl rfl trivial (ss_move rfl) rfl ?_
      refine rd_s rfl rfl trivial (ss_move rfl) rfl ?_
      obtain ⟨q235, h⟩ := h
      refine rd_s rfl rfl trivial (ss_idxR (f := ci) rfl rfl rfl q235) rfl ?_
      refine rd_l rfl rfl trivial (ss_loadL (f := ci) rfl q234) rfl ?_
      obtain ⟨q236, h⟩ := h
      refine rd_s rfl rfl trivial (ss_mul rfl rfl q236) rfl ?_
      obtain ⟨q237, h⟩ := h
      refine rd_s rfl rfl trivial (ss_add rfl rfl q237) rfl ?_
      refine rd_l rfl rfl trivial (ss_loadR (f := ci) rfl rfl q235 rfl rfl) rfl ?_
      obtain ⟨q238, h⟩ := h
      refine rd_s rfl rfl trivial (ss_add rfl rfl q238) rfl ?_
      refine rd_w rfl rfl trivial rfl rfl (ws_buildSlice (id := 148) (ps := [(0, .tmp 147)]) rfl rfl (Nat.le_of_ble_eq_true rfl) rfl ⟨rfl, ?_⟩)
      obtain ⟨q239, h⟩ := h
      refine rd_w rfl rfl trivial rfl rfl (ws_app1 ci (l := o35_4) (m := [(1099511627776 + ((el colours v18_4) * 64)) + (el o102_3 v18_4)]) rfl rfl rfl rfl rfl (Nat.le_of_ble_eq_true rfl) q239 ⟨rfl, ?_⟩)
      refine rd_s rfl rfl trivial (ss_assign rfl) rfl ?_
      refine rd_nil ?_
      refine aw_region ?_
      refine run_s (ss_move rfl) rfl ?_
      obtain ⟨q240, h⟩ := h
      refine run_s (ss_add rfl rfl q240) rfl ?_
      refine run_s (ss_assign rfl) rfl ?_
      refine run_nil ?_
      exact ⟨v18_4 + 1, o35_4 ++ ([(1099511627776 + ((el colours v18_4) * 64)) + (el o102_3 v18_4)]), ghe_to (n := 194) rfl rfl ⟨rfl, rfl, rfl, rfl, rfl, rfl, rfl, rfl, rfl, trivial⟩, h.1, h.2⟩
     ·replace h := h.2 (of_decide_eq_false q233)
      refine aw_exit ?_
      refine aw_seq ?_
      refine aw_seq ?_
      refine aw_region ?_
      refine run_s (ss_assign rfl) rfl ?_
      refine run_nil ?_
      refine aw_block ?_
      refine aw_gh (gh_frzE (id := 102) ci rfl (fun _ => rfl)) ?_
      obtain ⟨H6, m6, q241, h⟩ := h
      refine aw_loop2 (fun (v19_5 : Int) (o35_5 : List Int) => ⟨[(35, ⟨ints o35_5, []⟩), (28, ⟨ints o28_1, []⟩)], [(0, .c (.lst (tabs t))), (1, .c (.lst (ints colours))), (2, .c (ci x)), (7, .c (ci (colours.length : Int))), (8, .ref 28), (9, .c (ci v9_1)), (10, .ref 35), (19, .c (ci v19_5))], 194⟩) H6 m6 ⟨1, o35_4, ghe_to (n := 194) rfl rfl ⟨rfl, rfl, rfl, rfl, rfl, rfl, rfl, rfl, trivial⟩, q241⟩ ?_
      rintro v19_5 o35_5 q241
      replace h := h v19_5 o35_5 q241
      refine aw_seq ?_
      refine aw_seq ?_
      refine aw_region ?_
      refine run_s (ss_move rfl) rfl ?_
      refine run_s (ss_move rfl) rfl ?_
      refine run_s (ss_lenR (f := ci) rfl rfl) rfl ?_
      refine run_s (ss_lss rfl rfl) rfl ?_
      refine run_nil ?_
      refine aw_cond rfl (fun q242 => ?_) (fun q242 => ?_)
      ·replace h := h.1 (of_decide_eq_true q242)
       refine aw_skip ?_
       refine aw_seq ?_
       refine aw_block ?_
       refine aw_seq ?_
       refine aw_region ?_
       refine run_s (ss_move rfl) rfl ?_
       refine run_s (ss_assign rfl) rfl ?_
       refine run_nil ?_
       refine aw_block ?_
       obtain ⟨H7, m7, q243, h⟩ := h
       refine aw_loop2 (fun (v20_6 : Int) (o35_6 : List Int) => ⟨[(35, ⟨ints o35_6, []⟩), (28, ⟨ints o28_1, []⟩)], [(0, .c (.lst (tabs t))), (1, .c (.lst (ints colours))), (2, .c (ci x)), (7, .c (ci (colours.length : Int))), (8, .ref 28), (9, .c (ci v9_1)), (10, .ref 35), (19, .c (ci v19_5)), (20, .c (ci v20_6))], 194⟩) H7 m7 ⟨v19_5, o35_5, ghe_to (n := 194) rfl rfl ⟨rfl, rfl, rfl, rfl, rfl, rfl, rfl, rfl, rfl, trivial⟩, q243⟩ ?_
       rintro v20_6 o35_6 q243
       replace h := h v20_6 o35_6 q243
       refine aw_seq ?_
       refine aw_seq ?_
       refine aw_gh (gh_to (n := 194) (σ' := [(35, ⟨ints o35_6, []⟩), (28, ⟨ints o28_1, []⟩)]) (env' := [(0, .c (.lst (tabs t))), (1, .c (.lst (ints colours))), (2, .c (ci x)), (7, .c (ci (colours.length : Int))), (8, .ref 28), (9, .c (ci v9_1)), (10, .ref 35), (19, .c (ci v19_5)), (20, .c (ci v20_6))]) rfl rfl ⟨rfl, rfl, rfl, rfl, rfl, rfl, rfl, rfl, rfl, trivial⟩) ?_
       refine aw_regionD (kd := kdl [0, 0, 0, 0, 0, 0, 1, 0, 0, 0, 0, 1, 0, 0]) (ord := [0, 1, 2, 3, 4, 5, 7, 8, 9, 10, 6, 11, 12, 13]) [] mixed (by kernel_rfl) ?_
       refine rd_s rfl rfl trivial (ss_move rfl) rfl ?_
       refine rd_s rfl rfl trivial (ss_gtr rfl rfl) rfl ?_
       refine rd_s rfl rfl trivial (ss_move rfl) rfl ?_
       refine rd_split (s := 159) rfl (fun q244 => ?_) (fun q244 => ?_)
       ·replace h := h.1 (of_decide_eq_true q244)
        refine rd_s rfl rfl ⟨_, _, rfl, rfl, q244⟩ (ss_move rfl) rfl ?_
        refine rd_s rfl rfl ⟨_, _, rfl, rfl, q244⟩ (ss_move rfl) rfl ?_
        obtain ⟨q245, h⟩ := h
        refine rd_s rfl rfl ⟨_, _, rfl, rfl, q244⟩ (ss_idxR (f := ci) rfl rfl rfl q245) rfl ?_
        refine rd_s rfl rfl ⟨_, _, rfl, rfl, q244⟩ (ss_move rfl) rfl ?_
        refine rd_s rfl rfl ⟨_, _, rfl, rfl, q244⟩ (ss_move rfl) rfl ?_
        obtain ⟨q246, h⟩ := h
        refine rd_s rfl rfl ⟨_, _, rfl, rfl, q244⟩ (ss_sub rfl rfl q246) rfl ?_
        obtain ⟨q247, h⟩ := h
        refine rd_s rfl rfl ⟨_, _, rfl, rfl, q244⟩ (ss_idxR (f := ci) rfl rfl rfl q247) rfl ?_
        refine rd_l rfl rfl ⟨_, _, rfl, rfl, q244⟩ (ss_loadR (f := ci) rfl rfl q245 rfl rfl) rfl ?_
        refine rd_l rfl rfl ⟨_, _, rfl, rfl, q244⟩ (ss_loadR (f := ci) rfl rfl q247 rfl rfl) rfl ?_
        refine rd_s rfl rfl ⟨_, _, rfl, rfl, q244⟩ (ss_lss rfl rfl) rfl ?_
        refine rd_s rfl rfl trivial (ss_pickT rfl q244 rfl) rfl ?_
        refine rd_nil ?_
        refine aw_cond rfl (fun q248 => ?_) (fun q248 => ?_)
        ·replace h := h.1 (of_decide_eq_true q248)
         refine aw_skip ?_
         refine aw_seq ?_
         refine aw_block ?_
         refine aw_seq ?_
         refine aw_region ?_
         refine run_s (ss_move rfl) rfl ?_
         refine run_s (ss_move rfl) rfl ?_
         obtain ⟨q249, h⟩ := h
         refine run_s (ss_idxR (f := ci) rfl rfl rfl q249) rfl ?_
         refine run_s (ss_loadR (f := ci) rfl rfl q249 rfl rfl) rfl ?_
         refine run_s (ss_assign rfl) rfl ?_
         refine run_nil ?_
         refine aw_seq ?_
         refine aw_region ?_
         refine run_s (ss_move rfl) rfl ?_
         refine run_s (ss_move rfl) rfl ?_
         refine run_s (ss_move rfl) rfl ?_
         refine run_s (ss_move rfl) rfl ?_
         obtain ⟨q250, h⟩ := h
         refine run_s (ss_sub rfl rfl q250) rfl ?_
         obtain ⟨q251, h⟩ := h
         refine run_s (ss_idxR (f := ci) rfl rfl rfl q251) rfl ?_
         refine run_s (ss_loadR (f := ci) rfl rfl q251 rfl rfl) rfl ?_
         obtain ⟨q252, h⟩ := h
         refine run_s (ss_idxR (f := ci) rfl rfl rfl q252) rfl ?_
         refine run_w (ws_storeE rfl rfl (map_lt q252) rfl rfl (map_se (f := ci)) rfl ⟨rfl, ?_⟩)
         refine run_nil ?_
         refine aw_gh (gh_to (n := 194) (σ' := [(35, ⟨ints (se o35_6 v20_6 (el o35_6 (v20_6 - 1))), []⟩), (28, ⟨ints o28_1, []⟩)]) (env' := [(0, .c (.lst (tabs t))), (1, .c (.lst (ints colours))), (2, .c (ci x)), (7, .c (ci (colours.length : Int))), (8, .ref 28), (9, .c (ci v9_1)), (10, .ref 35), (19, .c (ci v19_5)), (20, .c (ci v20_6)), (21, .c (ci (el o35_6 v20_6))), (160, .ref 35), (161, .c (ci v20_6)), (162, .cell 35 v20_6.toNat), (163, .c (ci (el o35_6 v20_6))), (164, .ref 35), (165, .c (ci v20_6)), (166, .c (ci (v20_6 - 1))), (167, .cell 35 (v20_6 - 1).toNat), (168, .c (ci (el o35_6 (v20_6 - 1)))), (169, .c (cb (decide (el o35_6 v20_6 < el o35_6 (v20_6 - 1)))))]) rfl rfl ⟨rfl, rfl, rfl, rfl, rfl, rfl, rfl, rfl, rfl, rfl, rfl, rfl, rfl, rfl, rfl, rfl, rfl, rfl, rfl, rfl, trivial⟩) ?_
         refine aw_region ?_
         refine run_s (ss_move rfl) rfl ?_
         refine run_s (ss_move rfl) rfl ?_
         obtain ⟨q253, h⟩ := h
         refine run_s (ss_sub rfl rfl q253) rfl ?_
         refine run_s (ss_move rfl) rfl ?_
         obtain ⟨q254, h⟩ := h
         refine run_s (ss_idxR (f := ci) rfl rfl rfl q254) rfl ?_
         refine run_w (ws_storeE rfl rfl (map_lt q254) rfl rfl (map_se (f := ci)) rfl ⟨rfl, ?_⟩)
         refine run_nil ?_
         refine aw_gh (gh_to (n := 194) (σ' := [(35, ⟨ints (se (se o35_6 v20_6 (el o35_6 (v20_6 - 1))) (v20_6 - 1) (el o35_6 v20_6)), []⟩), (28, ⟨ints o28_1, []⟩)]) (env' := [(0, .c (.lst (tabs t))), (1, .c (.lst (ints colours))), (2, .c (ci x)), (7, .c (ci (colours.length : Int))), (8, .ref 28), (9, .c (ci v9_1)), (10, .ref 35), (19, .c (ci v19_5)), (20, .c (ci v20_6)), (160, .ref 35), (161, .c (ci v20_6)), (162, .cell 35 v20_6.toNat), (163, .c (ci (el o35_6 v20_6))), (164, .ref 35), (165, .c (ci v20_6)), (166, .c (ci (v20_6 - 1))), (167, .cell 35 (v20_6 - 1).toNat), (168, .c (ci (el o35_6 (v20_6 - 1)))), (169, .c (cb (decide (el o35_6 v20_6 < el o35_6 (v20_6 - 1)))))]) rfl rfl ⟨rfl, rfl, rfl, rfl, rfl, rfl, rfl, rfl, rfl, rfl, rfl, rfl, rfl, rfl, rfl, rfl, rfl, rfl, rfl, trivial⟩) ?_
         refine aw_region ?_
         refine run_s (ss_move rfl) rfl ?_
         obtain ⟨q255, h⟩ := h
         refine run_s (ss_sub rfl rfl q255) rfl ?_
         refine run_s (ss_assign rfl) rfl ?_
         refine run_nil ?_
         exact ⟨v20_6 - 1, se (se o35_6 v20_6 (el o35_6 (v20_6 - 1))) (v20_6 - 1) (el o35_6 v20_6), ghe_to (n := 194) rfl rfl ⟨rfl, rfl, rfl, rfl, rfl, rfl, rfl, rfl, rfl, trivial⟩, h.1, h.2⟩
        ·replace h := h.2 (of_decide_eq_false q248)
         refine aw_exit ?_
         refine aw_gh (gh_to (n := 194) (σ' := [(35, ⟨ints o35_6, []⟩), (28, ⟨ints o28_1, []⟩)]) (env' := [(0, .c (.lst (tabs t))), (1, .c (.lst (ints colours))), (2, .c (ci x)), (7, .c (ci (colours.length : Int))), (8, .ref 28), (9, .c (ci v9_1)), (10, .ref 35), (19, .c (ci v19_5)), (160, .ref 35), (161, .c (ci v20_6)), (162, .cell 35 v20_6.toNat), (163, .c (ci (el o35_6 v20_6))), (164, .ref 35), (165, .c (ci v20_6)), (166, .c (ci (v20_6 - 1))), (167, .cell 35 (v20_6 - 1).toNat), (168, .c (ci (el o35_6 (v20_6 - 1)))), (169, .c (cb (decide (el o35_6 v20_6 < el o35_6 (v20_6 - 1)))))]) rfl rfl ⟨rfl, rfl, rfl, rfl, rfl, rfl, rfl, rfl, rfl, rfl, rfl, rfl, rfl, rfl, rfl, rfl, rfl, rfl, trivial⟩) ?_
         refine aw_region ?_
         refine run_s (ss_move rfl) rfl ?_
         obtain ⟨q256, h⟩ := h
         refine run_s (ss_add rfl rfl q256) rfl ?_
         refine run_s (ss_assign rfl) rfl ?_
         refine run_nil ?_
         exact ⟨v19_5 + 1, o35_6, ghe_to (n := 194) rfl rfl ⟨rfl, rfl, rfl, rfl, rfl, rfl, rfl, rfl, trivial⟩, h.1, h.2⟩
       ·replace h := h.2 (of_decide_eq_false q244)
        refine rd_no rfl rfl rfl q244 rfl ?_
        refine rd_no rfl rfl rfl q244 rfl ?_
        refine rd_no rfl rfl rfl q244 rfl ?_
        refine rd_no rfl rfl rfl q244 rfl ?_
        refine rd_no rfl rfl rfl q244 rfl ?_
        refine rd_no rfl rfl rfl q244 rfl ?_
        refine rd_no rfl rfl rfl q244 rfl ?_
        refine rd_no rfl rfl rfl q244 rfl ?_
        refine rd_no rfl rfl rfl q244 rfl ?_
        refine rd_no rfl rfl rfl q244 rfl ?_
        refine rd_s rfl rfl trivial (ss_pickF rfl q244 rfl) rfl ?_
        refine rd_nil ?_
        refine aw_cond rfl (fun q257 => ?_) (fun q257 => ?_)
        ·cases q257
        ·skip
         refine aw_exit ?_
         refine aw_gh (gh_to (n := 194) (σ' := [(35, ⟨ints o35_6, []⟩), (28, ⟨ints o28_1, []⟩)]) (env' := [(0, .c (.lst (tabs t))), (1, .c (.lst (ints colours))), (2, .c (ci x)), (7, .c (ci (colours.length : Int))), (8, .ref 28), (9, .c (ci v9_1)), (10, .ref 35), (19, .c (ci v19_5))]) rfl rfl ⟨rfl, rfl, rfl, rfl, rfl, rfl, rfl, rfl, trivial⟩) ?_
         refine aw_region ?_
         refine run_s (ss_move rfl) rfl ?_
         obtain ⟨q258, h⟩ := h
         refine run_s (ss_add rfl rfl q258) rfl ?_
         refine run_s (ss_assign rfl) rfl ?_
         refine run_nil ?_
         exact ⟨v19_5 + 1, o35_6, ghe_to (n := 194) rfl rfl ⟨rfl, rfl, rfl, rfl, rfl, rfl, rfl, rfl, trivial⟩, h.1, h.2⟩
      ·replace h := h.2 (of_decide_eq_false q242)
       refine aw_exit ?_
       refine aw_region ?_
       refine run_s (ss_move rfl) rfl ?_
       refine run_s (ss_move rfl) rfl ?_
       obtain ⟨q259, h⟩ := h
       refine run_w (ws_app1 ci (l := o28_1) (m := o35_5) rfl rfl rfl rfl rfl (Nat.le_of_ble_eq_true rfl) q259 ⟨rfl, ?_⟩)
       refine run_s (ss_assign rfl) rfl ?_
       refine run_nil ?_
       refine aw_region ?_
       refine run_s (ss_move rfl) rfl ?_
       obtain ⟨q260, h⟩ := h
       refine run_s (ss_add rfl rfl q260) rfl ?_
       refine run_s (ss_assign rfl) rfl ?_
       refine run_nil ?_
       exact ⟨v9_1 + 1, o28_1 ++ o35_5, ghe_to (n := 194) rfl rfl ⟨rfl, rfl, rfl, rfl, rfl, rfl, trivial⟩, h.1, h.2⟩
  ·replace h := h.2 (of_decide_eq_false q3)
   refine aw_exit ?_
   refine aw_seq ?_
   refine aw_gh (gh_to (n := 194) (σ' := [(28, ⟨ints o28_1, []⟩)]) (env' := [(8, .ref 28)]) rfl rfl ⟨rfl, trivial⟩) ?_
   refine aw_region ?_
   refine run_s (ss_move rfl) rfl ?_
   refine run_s (ss_assign rfl) rfl ?_
   refine run_nil ?_
   refine aw_ret ?_
   exact retAF_mk (retv1 rfl (rv_tmp rfl)) rfl rfl ⟨_, (cle_refl _), _, h, rfl⟩

theorem c_spec_l03Mark (t : List (List (List Int))) (colours : List Int) (x : Int) (hp : MkD t colours x) : AF Try.prog 58 [.lst (tabs t), .lst (ints colours), ci x] (fun R_ => R_ = .own (ints (mrkI t colours x))) :=
  (w_spec_l03Mark t colours x (fun y0 => y0 = mrkI t colours x) (p_spec_l03Mark t colours x hp)).mono (by rintro r ⟨_, rfl, rfl⟩; rfl)

end Go.Proofs.Ytkmoeodoidpjkaa

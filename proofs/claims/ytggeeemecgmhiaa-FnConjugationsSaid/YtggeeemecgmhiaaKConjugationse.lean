/- Contracts of functions that the law FnConjugations reaches: conditions, plain proofs, walks; no condition. -/
import Derived.Test.YtggeeemecgmhiaaKConjugationsd
import Derived.Test.YtggeeemecgmhiaaPP
namespace Go.Proofs.Ytggeeemecgmhiaa

def wp_laws_fact9 (n : Int) (Q : Int → Prop) : Prop :=
 ∃ (H1 : Int → Int → Prop) (m1 : Int → Int → Nat),
 H1 1 2 ∧
 ∀ (v3_1 : Int) (v4_1 : Int), H1 v3_1 v4_1 →
 ( ((v4_1 ≤ n →
 (InI (v3_1 * v4_1)) ∧
 (InI (v4_1 + 1)) ∧
 (H1 (v3_1 * v4_1) (v4_1 + 1) ∧ m1 (v3_1 * v4_1) (v4_1 + 1) < m1 v3_1 v4_1)) ∧
 (¬ (v4_1 ≤ n) →
 Q v3_1)))

def wp_spec_DrawConjugationQuandle (code : List Int) (Q : List (List Int) → Prop) : Prop :=
 (small code ∧ bytes code) ∧
 ∀ (r1_0 : List Int) (r1_1 : Int) (r1_2 : Int), (r1_0 = code ∧ okS code r1_1 r1_2) →
 (okS r1_0 r1_1 r1_2 ∧ InI (3 : Int)) ∧
 ∀ (r2_0 : Int) (o2_0 : List Int) (o2_1 : Int) (o2_2 : Int), (nxP (3 : Int) r2_0 ∧ o2_0 = r1_0 ∧ okS r1_0 o2_1 o2_2) →
 (InI (2 + r2_0)) ∧
 (okS o2_0 o2_1 o2_2 ∧ (2 + r2_0) ≤ 1000) ∧
 ∀ (r3_0 : List Int) (o3_0 : List Int) (o3_1 : Int) (o3_2 : Int), (((r3_0.length : Int) = max (2 + r2_0) 0 ∧ (∀ z_ ∈ r3_0, 0 ≤ z_ ∧ z_ < (2 + r2_0)) ∧ r3_0.Nodup) ∧ o3_0 = o2_0 ∧ okS o2_0 o3_1 o3_2) →
 (okS o3_0 o3_1 o3_2 ∧ InI (3 : Int)) ∧
 ∀ (r4_0 : Int) (o4_0 : List Int) (o4_1 : Int) (o4_2 : Int), (nxP (3 : Int) r4_0 ∧ o4_0 = o3_0 ∧ okS o3_0 o4_1 o4_2) →
 ((r4_0 = 0 →
 (okS o4_0 o4_1 o4_2 ∧ (2 + r2_0) ≤ 1000) ∧
 ∀ (r5_0 : List Int) (o5_0 : List Int) (o5_1 : Int) (o5_2 : Int), (((r5_0.length : Int) = max (2 + r2_0) 0 ∧ (∀ z_ ∈ r5_0, 0 ≤ z_ ∧ z_ < (2 + r2_0)) ∧ r5_0.Nodup) ∧ o5_0 = o4_0 ∧ okS o4_0 o5_1 o5_2) →
 ((([r3_0]).length : Int) + (([r5_0]).length : Int) ≤ 1000000000) ∧
 ∃ (H1 : Int → List Int → Int → Int → List (List Int) → Prop) (m1 : Int → List Int → Int → Int → List (List Int) → Nat),
 H1 0 o5_0 o5_1 o5_2 (([r3_0]) ++ ([r5_0])) ∧
 ∀ (v6_1 : Int) (f11_0_1 : List Int) (f11_1_1 : Int) (f11_2_1 : Int) (o18_1 : List (List Int)), H1 v6_1 f11_0_1 f11_1_1 f11_2_1 o18_1 →
 ( ((v6_1 < (o18_1.length : Int) →
 (((o18_1.length : Int) ≤ 12 →
 (okS f11_0_1 f11_1_1 f11_2_1 ∧ InI (20 : Int)) ∧
 ∀ (r6_0 : Int) (o6_0 : List Int) (o6_1 : Int) (o6_2 : Int), (nxP (20 : Int) r6_0 ∧ o6_0 = f11_0_1 ∧ okS f11_0_1 o6_1 o6_2) →
 ((0 < r6_0 →
 ∃ (H2 : Int → List (List Int) → Prop) (m2 : Int → List (List Int) → Nat),
 H2 0 o18_1 ∧
 ∀ (v7_2 : Int) (o18_2 : List (List Int)), H2 v7_2 o18_2 →
 ( ((v7_2 < (o18_2.length : Int) →
 (((o18_2.length : Int) ≤ 12 →
 (0 ≤ v6_1 ∧ v6_1 < (o18_2.length : Int)) ∧
 (0 ≤ v7_2 ∧ v7_2 < (o18_2.length : Int)) ∧
 (cjD (el o18_2 v6_1) (el o18_2 v7_2)) ∧
 (small2 o18_2 ∧ small (conjI (el o18_2 v6_1) (el o18_2 v7_2))) ∧
 ((idxL o18_2 (conjI (el o18_2 v6_1) (el o18_2 v7_2)) < 0 →
 ((o18_2.length : Int) + (([conjI (el o18_2 v6_1) (el o18_2 v7_2)]).length : Int) ≤ 1000000000) ∧
 (0 ≤ v7_2 ∧ v7_2 < ((o18_2 ++ ([conjI (el o18_2 v6_1) (el o18_2 v7_2)])).length : Int)) ∧
 (0 ≤ v6_1 ∧ v6_1 < ((o18_2 ++ ([conjI (el o18_2 v6_1) (el o18_2 v7_2)])).length : Int)) ∧
 (cjD (el (o18_2 ++ ([conjI (el o18_2 v6_1) (el o18_2 v7_2)])) v7_2) (el (o18_2 ++ ([conjI (el o18_2 v6_1) (el o18_2 v7_2)])) v6_1)) ∧
 (small2 (o18_2 ++ ([conjI (el o18_2 v6_1) (el o18_2 v7_2)])) ∧ small (conjI (el (o18_2 ++ ([conjI (el o18_2 v6_1) (el o18_2 v7_2)])) v7_2) (el (o18_2 ++ ([conjI (el o18_2 v6_1) (el o18_2 v7_2)])) v6_1))) ∧
 ((idxL (o18_2 ++ ([conjI (el o18_2 v6_1) (el o18_2 v7_2)])) (conjI (el (o18_2 ++ ([conjI (el o18_2 v6_1) (el o18_2 v7_2)])) v7_2) (el (o18_2 ++ ([conjI (el o18_2 v6_1) (el o18_2 v7_2)])) v6_1)) < 0 →
 (((o18_2 ++ ([conjI (el o18_2 v6_1) (el o18_2 v7_2)])).length : Int) + (([conjI (el (o18_2 ++ ([conjI (el o18_2 v6_1) (el o18_2 v7_2)])) v7_2) (el (o18_2 ++ ([conjI (el o18_2 v6_1) (el o18_2 v7_2)])) v6_1)]).length : Int) ≤ 1000000000) ∧
 (InI (v7_2 + 1)) ∧
 (H2 (v7_2 + 1) ((o18_2 ++ ([conjI (el o18_2 v6_1) (el o18_2 v7_2)])) ++ ([conjI (el (o18_2 ++ ([conjI (el o18_2 v6_1) (el o18_2 v7_2)])) v7_2) (el (o18_2 ++ ([conjI (el o18_2 v6_1) (el o18_2 v7_2)])) v6_1)])) ∧ m2 (v7_2 + 1) ((o18_2 ++ ([conjI (el o18_2 v6_1) (el o18_2 v7_2)])) ++ ([conjI (el (o18_2 ++ ([conjI (el o18_2 v6_1) (el o18_2 v7_2)])) v7_2) (el (o18_2 ++ ([conjI (el o18_2 v6_1) (el o18_2 v7_2)])) v6_1)])) < m2 v7_2 o18_2)) ∧
 (¬ (idxL (o18_2 ++ ([conjI (el o18_2 v6_1) (el o18_2 v7_2)])) (conjI (el (o18_2 ++ ([conjI (el o18_2 v6_1) (el o18_2 v7_2)])) v7_2) (el (o18_2 ++ ([conjI (el o18_2 v6_1) (el o18_2 v7_2)])) v6_1)) < 0) →
 (InI (v7_2 + 1)) ∧
 (H2 (v7_2 + 1) (o18_2 ++ ([conjI (el o18_2 v6_1) (el o18_2 v7_2)])) ∧ m2 (v7_2 + 1) (o18_2 ++ ([conjI (el o18_2 v6_1) (el o18_2 v7_2)])) < m2 v7_2 o18_2)))) ∧
 (¬ (idxL o18_2 (conjI (el o18_2 v6_1) (el o18_2 v7_2)) < 0) →
 (0 ≤ v7_2 ∧ v7_2 < (o18_2.length : Int)) ∧
 (0 ≤ v6_1 ∧ v6_1 < (o18_2.length : Int)) ∧
 (cjD (el o18_2 v7_2) (el o18_2 v6_1)) ∧
 (small2 o18_2 ∧ small (conjI (el o18_2 v7_2) (el o18_2 v6_1))) ∧
 ((idxL o18_2 (conjI (el o18_2 v7_2) (el o18_2 v6_1)) < 0 →
 ((o18_2.length : Int) + (([conjI (el o18_2 v7_2) (el o18_2 v6_1)]).length : Int) ≤ 1000000000) ∧
 (InI (v7_2 + 1)) ∧
 (H2 (v7_2 + 1) (o18_2 ++ ([conjI (el o18_2 v7_2) (el o18_2 v6_1)])) ∧ m2 (v7_2 + 1) (o18_2 ++ ([conjI (el o18_2 v7_2) (el o18_2 v6_1)])) < m2 v7_2 o18_2)) ∧
 (¬ (idxL o18_2 (conjI (el o18_2 v7_2) (el o18_2 v6_1)) < 0) →
 (InI (v7_2 + 1)) ∧
 (H2 (v7_2 + 1) o18_2 ∧ m2 (v7_2 + 1) o18_2 < m2 v7_2 o18_2)))))) ∧
 (¬ ((o18_2.length : Int) ≤ 12) →
 (InI (v6_1 + 1)) ∧
 (H1 (v6_1 + 1) o6_0 o6_1 o6_2 o18_2 ∧ m1 (v6_1 + 1) o6_0 o6_1 o6_2 o18_2 < m1 v6_1 f11_0_1 f11_1_1 f11_2_1 o18_1)))) ∧
 (¬ (v7_2 < (o18_2.length : Int)) →
 (InI (v6_1 + 1)) ∧
 (H1 (v6_1 + 1) o6_0 o6_1 o6_2 o18_2 ∧ m1 (v6_1 + 1) o6_0 o6_1 o6_2 o18_2 < m1 v6_1 f11_0_1 f11_1_1 f11_2_1 o18_1))))) ∧
 (¬ (0 < r6_0) →
 (okS o6_0 o6_1 o6_2 ∧ InI (24 : Int)) ∧
 ∀ (r7_0 : Int) (o7_0 : List Int) (o7_1 : Int) (o7_2 : Int), (nxP (24 : Int) r7_0 ∧ o7_0 = o6_0 ∧ okS o6_0 o7_1 o7_2) →
 ((r7_0 = 0 →
 ((0 : Int) ≤ 0 ∧ 0 < (o18_1.length : Int)) ∧
 ((o18_1.length : Int) + (([el o18_1 0]).length : Int) ≤ 1000000000) ∧
 Q (o18_1 ++ ([el o18_1 0]))) ∧
 (¬ (r7_0 = 0) →
 ((r7_0 = 1 →
 Q ([])) ∧
 (¬ (r7_0 = 1) →
 Q o18_1))))))) ∧
 (¬ ((o18_1.length : Int) ≤ 12) →
 (okS f11_0_1 f11_1_1 f11_2_1 ∧ InI (24 : Int)) ∧
 ∀ (r8_0 : Int) (o8_0 : List Int) (o8_1 : Int) (o8_2 : Int), (nxP (24 : Int) r8_0 ∧ o8_0 = f11_0_1 ∧ okS f11_0_1 o8_1 o8_2) →
 ((r8_0 = 0 →
 ((0 : Int) ≤ 0 ∧ 0 < (o18_1.length : Int)) ∧
 ((o18_1.length : Int) + (([el o18_1 0]).length : Int) ≤ 1000000000) ∧
 Q (o18_1 ++ ([el o18_1 0]))) ∧
 (¬ (r8_0 = 0) →
 ((r8_0 = 1 →
 Q ([])) ∧
 (¬ (r8_0 = 1) →
 Q o18_1))))))) ∧
 (¬ (v6_1 < (o18_1.length : Int)) →
 (okS f11_0_1 f11_1_1 f11_2_1 ∧ InI (24 : Int)) ∧
 ∀ (r9_0 : Int) (o9_0 : List Int) (o9_1 : Int) (o9_2 : Int), (nxP (24 : Int) r9_0 ∧ o9_0 = f11_0_1 ∧ okS f11_0_1 o9_1 o9_2) →
 ((r9_0 = 0 →
 ((0 : Int) ≤ 0 ∧ 0 < (o18_1.length : Int)) ∧
 ((o18_1.length : Int) + (([el o18_1 0]).length : Int) ≤ 1000000000) ∧
 Q (o18_1 ++ ([el o18_1 0]))) ∧
 (¬ (r9_0 = 0) →
 ((r9_0 = 1 →
 Q ([])) ∧
 (¬ (r9_0 = 1) →
 Q o18_1)))))))) ∧
 (¬ (r4_0 = 0) →
 ∃ (H3 : Int → List Int → Int → Int → List (List Int) → Prop) (m3 : Int → List Int → Int → Int → List (List Int) → Nat),
 H3 0 o4_0 o4_1 o4_2 ([r3_0]) ∧
 ∀ (v6_1 : Int) (f11_0_1 : List Int) (f11_1_1 : Int) (f11_2_1 : Int) (o18_1 : List (List Int)), H3 v6_1 f11_0_1 f11_1_1 f11_2_1 o18_1 →
 ( ((v6_1 < (o18_1.length : Int) →
 (((o18_1.length : Int) ≤ 12 →
 (okS f11_0_1 f11_1_1 f11_2_1 ∧ InI (20 : Int)) ∧
 ∀ (r10_0 : Int) (o10_0 : List Int) (o10_1 : Int) (o10_2 : Int), (nxP (20 : Int) r10_0 ∧ o10_0 = f11_0_1 ∧ okS f11_0_1 o10_1 o10_2) →
 ((0 < r10_0 →
 ∃ (H4 : Int → List (List Int) → Prop) (m4 : Int → List (List Int) → Nat),
 H4 0 o18_1 ∧
 ∀ (v7_2 : Int) (o18_2 : List (List Int)), H4 v7_2 o18_2 →
 ( ((v7_2 < (o18_2.length : Int) →
 (((o18_2.length : Int) ≤ 12 →
 (0 ≤ v6_1 ∧ v6_1 < (o18_2.length : Int)) ∧
 (0 ≤ v7_2 ∧ v7_2 < (o18_2.length : Int)) ∧
 (cjD (el o18_2 v6_1) (el o18_2 v7_2)) ∧
 (small2 o18_2 ∧ small (conjI (el o18_2 v6_1) (el o18_2 v7_2))) ∧
 ((idxL o18_2 (conjI (el o18_2 v6_1) (el o18_2 v7_2)) < 0 →
 ((o18_2.length : Int) + (([conjI (el o18_2 v6_1) (el o18_2 v7_2)]).length : Int) ≤ 1000000000) ∧
 (0 ≤ v7_2 ∧ v7_2 < ((o18_2 ++ ([conjI (el o18_2 v6_1) (el o18_2 v7_2)])).length : Int)) ∧
 (0 ≤ v6_1 ∧ v6_1 < ((o18_2 ++ ([conjI (el o18_2 v6_1) (el o18_2 v7_2)])).length : Int)) ∧
 (cjD (el (o18_2 ++ ([conjI (el o18_2 v6_1) (el o18_2 v7_2)])) v7_2) (el (o18_2 ++ ([conjI (el o18_2 v6_1) (el o18_2 v7_2)])) v6_1)) ∧
 (small2 (o18_2 ++ ([conjI (el o18_2 v6_1) (el o18_2 v7_2)])) ∧ small (conjI (el (o18_2 ++ ([conjI (el o18_2 v6_1) (el o18_2 v7_2)])) v7_2) (el (o18_2 ++ ([conjI (el o18_2 v6_1) (el o18_2 v7_2)])) v6_1))) ∧
 ((idxL (o18_2 ++ ([conjI (el o18_2 v6_1) (el o18_2 v7_2)])) (conjI (el (o18_2 ++ ([conjI (el o18_2 v6_1) (el o18_2 v7_2)])) v7_2) (el (o18_2 ++ ([conjI (el o18_2 v6_1) (el o18_2 v7_2)])) v6_1)) < 0 →
 (((o18_2 ++ ([conjI (el o18_2 v6_1) (el o18_2 v7_2)])).length : Int) + (([conjI (el (o18_2 ++ ([conjI (el o18_2 v6_1) (el o18_2 v7_2)])) v7_2) (el (o18_2 ++ ([conjI (el o18_2 v6_1) (el o18_2 v7_2)])) v6_1)]).length : Int) ≤ 1000000000) ∧
 (InI (v7_2 + 1)) ∧
 (H4 (v7_2 + 1) ((o18_2 ++ ([conjI (el o18_2 v6_1) (el o18_2 v7_2)])) ++ ([conjI (el (o18_2 ++ ([conjI (el o18_2 v6_1) (el o18_2 v7_2)])) v7_2) (el (o18_2 ++ ([conjI (el o18_2 v6_1) (el o18_2 v7_2)])) v6_1)])) ∧ m4 (v7_2 + 1) ((o18_2 ++ ([conjI (el o18_2 v6_1) (el o18_2 v7_2)])) ++ ([conjI (el (o18_2 ++ ([conjI (el o18_2 v6_1) (el o18_2 v7_2)])) v7_2) (el (o18_2 ++ ([conjI (el o18_2 v6_1) (el o18_2 v7_2)])) v6_1)])) < m4 v7_2 o18_2)) ∧
 (¬ (idxL (o18_2 ++ ([conjI (el o18_2 v6_1) (el o18_2 v7_2)])) (conjI (el (o18_2 ++ ([conjI (el o18_2 v6_1) (el o18_2 v7_2)])) v7_2) (el (o18_2 ++ ([conjI (el o18_2 v6_1) (el o18_2 v7_2)])) v6_1)) < 0) →
 (InI (v7_2 + 1)) ∧
 (H4 (v7_2 + 1) (o18_2 ++ ([conjI (el o18_2 v6_1) (el o18_2 v7_2)])) ∧ m4 (v7_2 + 1) (o18_2 ++ ([conjI (el o18_2 v6_1) (el o18_2 v7_2)])) < m4 v7_2 o18_2)))) ∧
 (¬ (idxL o18_2 (conjI (el o18_2 v6_1) (el o18_2 v7_2)) < 0) →
 (0 ≤ v7_2 ∧ v7_2 < (o18_2.length : Int)) ∧
 (0 ≤ v6_1 ∧ v6_1 < (o18_2.length : Int)) ∧
 (cjD (el o18_2 v7_2) (el o18_2 v6_1)) ∧
 (small2 o18_2 ∧ small (conjI (el o18_2 v7_2) (el o18_2 v6_1))) ∧
 ((idxL o18_2 (conjI (el o18_2 v7_2) (el o18_2 v6_1)) < 0 →
 ((o18_2.length : Int) + (([conjI (el o18_2 v7_2) (el o18_2 v6_1)]).length : Int) ≤ 1000000000) ∧
 (InI (v7_2 + 1)) ∧
 (H4 (v7_2 + 1) (o18_2 ++ ([conjI (el o18_2 v7_2) (el o18_2 v6_1)])) ∧ m4 (v7_2 + 1) (o18_2 ++ ([conjI (el o18_2 v7_2) (el o18_2 v6_1)])) < m4 v7_2 o18_2)) ∧
 (¬ (idxL o18_2 (conjI (el o18_2 v7_2) (el o18_2 v6_1)) < 0) →
 (InI (v7_2 + 1)) ∧
 (H4 (v7_2 + 1) o18_2 ∧ m4 (v7_2 + 1) o18_2 < m4 v7_2 o18_2)))))) ∧
 (¬ ((o18_2.length : Int) ≤ 12) →
 (InI (v6_1 + 1)) ∧
 (H3 (v6_1 + 1) o10_0 o10_1 o10_2 o18_2 ∧ m3 (v6_1 + 1) o10_0 o10_1 o10_2 o18_2 < m3 v6_1 f11_0_1 f11_1_1 f11_2_1 o18_1)))) ∧
 (¬ (v7_2 < (o18_2.length : Int)) →
 (InI (v6_1 + 1)) ∧
 (H3 (v6_1 + 1) o10_0 o10_1 o10_2 o18_2 ∧ m3 (v6_1 + 1) o10_0 o10_1 o10_2 o18_2 < m3 v6_1 f11_0_1 f11_1_1 f11_2_1 o18_1))))) ∧
 (¬ (0 < r10_0) →
 (okS o10_0 o10_1 o10_2 ∧ InI (24 : Int)) ∧
 ∀ (r11_0 : Int) (o11_0 : List Int) (o11_1 : Int) (o11_2 : Int), (nxP (24 : Int) r11_0 ∧ o11_0 = o10_0 ∧ okS o10_0 o11_1 o11_2) →
 ((r11_0 = 0 →
 ((0 : Int) ≤ 0 ∧ 0 < (o18_1.length : Int)) ∧
 ((o18_1.length : Int) + (([el o18_1 0]).length : Int) ≤ 1000000000) ∧
 Q (o18_1 ++ ([el o18_1 0]))) ∧
 (¬ (r11_0 = 0) →
 ((r11_0 = 1 →
 Q ([])) ∧
 (¬ (r11_0 = 1) →
 Q o18_1))))))) ∧
 (¬ ((o18_1.length : Int) ≤ 12) →
 (okS f11_0_1 f11_1_1 f11_2_1 ∧ InI (24 : Int)) ∧
 ∀ (r12_0 : Int) (o12_0 : List Int) (o12_1 : Int) (o12_2 : Int), (nxP (24 : Int) r12_0 ∧ o12_0 = f11_0_1 ∧ okS f11_0_1 o12_1 o12_2) →
 ((r12_0 = 0 →
 ((0 : Int) ≤ 0 ∧ 0 < (o18_1.length : Int)) ∧
 ((o18_1.length : Int) + (([el o18_1 0]).length : Int) ≤ 1000000000) ∧
 Q (o18_1 ++ ([el o18_1 0]))) ∧
 (¬ (r12_0 = 0) →
 ((r12_0 = 1 →
 Q ([])) ∧
 (¬ (r12_0 = 1) →
 Q o18_1))))))) ∧
 (¬ (v6_1 < (o18_1.length : Int)) →
 (okS f11_0_1 f11_1_1 f11_2_1 ∧ InI (24 : Int)) ∧
 ∀ (r13_0 : Int) (o13_0 : List Int) (o13_1 : Int) (o13_2 : Int), (nxP (24 : Int) r13_0 ∧ o13_0 = f11_0_1 ∧ okS f11_0_1 o13_1 o13_2) →
 ((r13_0 = 0 →
 ((0 : Int) ≤ 0 ∧ 0 < (o18_1.length : Int)) ∧
 ((o18_1.length : Int) + (([el o18_1 0]).length : Int) ≤ 1000000000) ∧
 Q (o18_1 ++ ([el o18_1 0]))) ∧
 (¬ (r13_0 = 0) →
 ((r13_0 = 1 →
 Q ([])) ∧
 (¬ (r13_0 = 1) →
 Q o18_1)))))))))

def wp_spec_DrawClassQuandle (code : List Int) (Q : List Int → Prop) : Prop :=
 (small code ∧ bytes code) ∧
 ∀ (r1_0 : List Int) (r1_1 : Int) (r1_2 : Int), (r1_0 = code ∧ okS code r1_1 r1_2) →
 (okS r1_0 r1_1 r1_2 ∧ InI (5 : Int)) ∧
 ∀ (r2_0 : Int) (o2_0 : List Int) (o2_1 : Int) (o2_2 : Int), (nxP (5 : Int) r2_0 ∧ o2_0 = r1_0 ∧ okS r1_0 o2_1 o2_2) →
 (okS o2_0 o2_1 o2_2 ∧ r2_0 ≤ 1000) ∧
 ∀ (r3_0 : List Int) (o3_0 : List Int) (o3_1 : Int) (o3_2 : Int), (((r3_0.length : Int) = max r2_0 0 ∧ (∀ z_ ∈ r3_0, 0 ≤ z_ ∧ z_ < r2_0) ∧ r3_0.Nodup) ∧ o3_0 = o2_0 ∧ okS o2_0 o3_1 o3_2) →
 (okS o3_0 o3_1 o3_2 ∧ InI (12 : Int)) ∧
 ∀ (r4_0 : Int) (o4_0 : List Int) (o4_1 : Int) (o4_2 : Int), (nxP (12 : Int) r4_0 ∧ o4_0 = o3_0 ∧ okS o3_0 o4_1 o4_2) →
 ((r4_0 = 0 →
 (InI ((r3_0.length : Int) + 1)) ∧
 ((r3_0.length : Int) + (([(r3_0.length : Int), (r3_0.length : Int) + 1]).length : Int) ≤ 1000000000) ∧
 Q (r3_0 ++ ([(r3_0.length : Int), (r3_0.length : Int) + 1]))) ∧
 (¬ (r4_0 = 0) →
 ((r4_0 = 1 →
 (okS o4_0 o4_1 o4_2 ∧ (8 : Int) ≤ 1000) ∧
 ∀ (r5_0 : List Int) (o5_0 : List Int) (o5_1 : Int) (o5_2 : Int), (((r5_0.length : Int) = max (8 : Int) 0 ∧ (∀ z_ ∈ r5_0, 0 ≤ z_ ∧ z_ < (8 : Int)) ∧ r5_0.Nodup) ∧ o5_0 = o4_0 ∧ okS o4_0 o5_1 o5_2) →
 Q r5_0) ∧
 (¬ (r4_0 = 1) →
 ((r4_0 = 2 →
 ((r3_0.length : Int) + (([0]).length : Int) ≤ 1000000000) ∧
 Q (r3_0 ++ ([0]))) ∧
 (¬ (r4_0 = 2) →
 Q r3_0))))))

theorem p_laws_fact9 (n : Int) (hp : 0 ≤ n ∧ n ≤ 12) : wp_laws_fact9 n (fun y0 => y0 = facI n) := by
  have big : ∀ k : Nat, k ≤ 12 → facN k ≤ 479001600 := by decide
  refine ⟨fun v k => (2 ≤ k ∧ k ≤ 13) ∧ ((2 ≤ n → k ≤ n + 1) ∧ (n < 2 → k = 2)) ∧ v = facI (k - 1), fun _ k => (14 - k).toNat, ⟨⟨by omega, by omega⟩, ⟨fun _ => by omega, fun _ => rfl⟩, rfl⟩, ?_⟩
  rintro v k ⟨⟨k0, k1⟩, ⟨kn, k2⟩, rfl⟩
  dsimp only
  have hs : facI (k - 1) * k = facI (k + 1 - 1) := by
    unfold facI
    obtain ⟨m, rfl⟩ : ∃ m : Nat, k = (m : Int) + 1 := ⟨(k - 1).toNat, by omega⟩
    rw [show ((m : Int) + 1 - 1).toNat = m by omega, show ((m : Int) + 1 + 1 - 1).toNat = m + 1 by omega]
    show (facN m : Int) * _ = (((m + 1) * facN m : Nat) : Int)
    rw [Int.natCast_mul, Int.mul_comm]; simp
  refine ⟨fun h => ?_, fun h => ?_⟩
  · have hb := big (k + 1 - 1).toNat (by omega)
    have hb2 : facI (k + 1 - 1) ≤ 479001600 ∧ 0 ≤ facI (k + 1 - 1) := by unfold facI; omega
    rw [hs]
    exact ⟨⟨by omega, by omega⟩, ⟨by omega, by omega⟩, ⟨⟨by omega, by omega⟩, ⟨fun _ => by omega, fun _ => by omega⟩, rfl⟩, by omega⟩
  · by_cases g : 2 ≤ n
    · rw [show k - 1 = n by have := kn g; omega]
    · have e := k2 (by omega)
      subst e
      have hn : n = 0 ∨ n = 1 := by omega
      rcases hn with rfl | rfl <;> rfl
def PLn (n : Int) (l : List (List Int)) : Prop := (1 ≤ (l.length : Int) ∧ (l.length : Int) ≤ 14) ∧ ∀ z ∈ l, (z.length : Int) = n ∧ isPerm z = true
section
variable {n : Int} {l : List (List Int)}
theorem PLn.cj (h : PLn n l) (hn : n ≤ 12) {i j : Int} (hi : 0 ≤ i ∧ i < (l.length : Int)) (hj : 0 ≤ j ∧ j < (l.length : Int)) : cjD (el l i) (el l j) ∧ ((conjI (el l i) (el l j)).length : Int) = n ∧ isPerm (conjI (el l i) (el l j)) = true := by
  have h1 := h.2 _ (el_mem hi)
  have h2 := h.2 _ (el_mem hj)
  exact ⟨⟨by show (_ : Int) ≤ 1000000000; omega, h1.2, by omega, h2.2⟩, by rw [cj_len]; exact h1.1, cj_perm h1.2 h2.2 (by omega)⟩
theorem PLn.sm (h : PLn n l) (hn : n ≤ 12) : small2 l := ⟨by show (_ : Int) ≤ 1000000000; have := h.1; omega, fun z hz => by show (_ : Int) ≤ 1000000000; have := h.2 z hz; omega⟩
theorem PLn.app (h : PLn n l) (hl : (l.length : Int) ≤ 13) {x : List Int} (hx : (x.length : Int) = n ∧ isPerm x = true) : PLn n (l ++ [x]) :=
  ⟨⟨by simp; omega, by simp; omega⟩, fun z hz => (List.mem_append.1 hz).elim (h.2 z) fun k => by rw [List.mem_singleton.1 k]; exact hx⟩
def dcjQ (y : List (List Int)) : Prop := (y.length : Int) ≤ 20 ∧ ∀ z_ ∈ y, (z_.length : Int) ≤ 12
theorem PLn.fin (h : PLn n l) (hn : n ≤ 12) {c : List Int} {a s : Int} (hs : okS c a s) : (okS c a s ∧ InI (24 : Int)) ∧ ∀ (r : Int) (c2 : List Int) (a2 s2 : Int), (nxP (24 : Int) r ∧ c2 = c ∧ okS c a2 s2) →
    ((r = 0 → ((0 : Int) ≤ 0 ∧ 0 < (l.length : Int)) ∧ ((l.length : Int) + (([el l 0]).length : Int) ≤ 1000000000) ∧ dcjQ (l ++ ([el l 0]))) ∧ (¬ (r = 0) → ((r = 1 → dcjQ ([])) ∧ (¬ (r = 1) → dcjQ l)))) := by
  have hl := h.1
  have hz : ∀ z ∈ l, (z.length : Int) ≤ 12 := fun z hz => by have := h.2 z hz; omega
  refine ⟨⟨hs, by omega, by omega⟩, fun r c2 a2 s2 _ => ⟨fun _ => ⟨⟨by omega, by omega⟩, by simp; omega, by simp; omega, fun z hz2 => (List.mem_append.1 hz2).elim (hz z) fun k => ?_⟩, fun _ => ⟨fun _ => ⟨by simp, fun z hz => by cases hz⟩, fun _ => ⟨by omega, hz⟩⟩⟩⟩
  rw [List.mem_singleton.1 k]
  exact hz _ (el_mem ⟨by omega, by omega⟩)
end
def dcjT (c : List Int) (a h : Int) (l : List (List Int)) (Q : List (List Int) → Prop) : Prop :=
  ∃ (H3 : Int → List Int → Int → Int → List (List Int) → Prop) (m3 : Int → List Int → Int → Int → List (List Int) → Nat),
  H3 0 c a h l ∧
  ∀ (v6_1 : Int) (f11_0_1 : List Int) (f11_1_1 : Int) (f11_2_1 : Int) (o18_1 : List (List Int)), H3 v6_1 f11_0_1 f11_1_1 f11_2_1 o18_1 →
  ( ((v6_1 < (o18_1.length : Int) →
    (((o18_1.length : Int) ≤ 12 →
     (okS f11_0_1 f11_1_1 f11_2_1 ∧ InI (20 : Int)) ∧
     ∀ (r10_0 : Int) (o10_0 : List Int) (o10_1 : Int) (o10_2 : Int), (nxP (20 : Int) r10_0 ∧ o10_0 = f11_0_1 ∧ okS f11_0_1 o10_1 o10_2) →
     ((0 < r10_0 →
      ∃ (H4 : Int → List (List Int) → Prop) (m4 : Int → List (List Int) → Nat),
      H4 0 o18_1 ∧
      ∀ (v7_2 : Int) (o18_2 : List (List Int)), H4 v7_2 o18_2 →
      ( ((v7_2 < (o18_2.length : Int) →
        (((o18_2.length : Int) ≤ 12 →
         (0 ≤ v6_1 ∧ v6_1 < (o18_2.length : Int)) ∧
         (0 ≤ v7_2 ∧ v7_2 < (o18_2.length : Int)) ∧
         (cjD (el o18_2 v6_1) (el o18_2 v7_2)) ∧
         (small2 o18_2 ∧ small (conjI (el o18_2 v6_1) (el o18_2 v7_2))) ∧
         ((idxL o18_2 (conjI (el o18_2 v6_1) (el o18_2 v7_2)) < 0 →
          ((o18_2.length : Int) + (([conjI (el o18_2 v6_1) (el o18_2 v7_2)]).length : Int) ≤ 1000000000) ∧
          (0 ≤ v7_2 ∧ v7_2 < ((o18_2 ++ ([conjI (el o18_2 v6_1) (el o18_2 v7_2)])).length : Int)) ∧
          (0 ≤ v6_1 ∧ v6_1 < ((o18_2 ++ ([conjI (el o18_2 v6_1) (el o18_2 v7_2)])).length : Int)) ∧
          (cjD (el (o18_2 ++ ([conjI (el o18_2 v6_1) (el o18_2 v7_2)])) v7_2) (el (o18_2 ++ ([conjI (el o18_2 v6_1) (el o18_2 v7_2)])) v6_1)) ∧
          (small2 (o18_2 ++ ([conjI (el o18_2 v6_1) (el o18_2 v7_2)])) ∧ small (conjI (el (o18_2 ++ ([conjI (el o18_2 v6_1) (el o18_2 v7_2)])) v7_2) (el (o18_2 ++ ([conjI (el o18_2 v6_1) (el o18_2 v7_2)])) v6_1))) ∧
          ((idxL (o18_2 ++ ([conjI (el o18_2 v6_1) (el o18_2 v7_2)])) (conjI (el (o18_2 ++ ([conjI (el o18_2 v6_1) (el o18_2 v7_2)])) v7_2) (el (o18_2 ++ ([conjI (el o18_2 v6_1) (el o18_2 v7_2)])) v6_1)) < 0 →
           (((o18_2 ++ ([conjI (el o18_2 v6_1) (el o18_2 v7_2)])).length : Int) + (([conjI (el (o18_2 ++ ([conjI (el o18_2 v6_1) (el o18_2 v7_2)])) v7_2) (el (o18_2 ++ ([conjI (el o18_2 v6_1) (el o18_2 v7_2)])) v6_1)]).length : Int) ≤ 1000000000) ∧
           (InI (v7_2 + 1)) ∧
           (H4 (v7_2 + 1) ((o18_2 ++ ([conjI (el o18_2 v6_1) (el o18_2 v7_2)])) ++ ([conjI (el (o18_2 ++ ([conjI (el o18_2 v6_1) (el o18_2 v7_2)])) v7_2) (el (o18_2 ++ ([conjI (el o18_2 v6_1) (el o18_2 v7_2)])) v6_1)])) ∧ m4 (v7_2 + 1) ((o18_2 ++ ([conjI (el o18_2 v6_1) (el o18_2 v7_2)])) ++ ([conjI (el (o18_2 ++ ([conjI (el o18_2 v6_1) (el o18_2 v7_2)])) v7_2) (el (o18_2 ++ ([conjI (el o18_2 v6_1) (el o18_2 v7_2)])) v6_1)])) < m4 v7_2 o18_2)) ∧
          (¬ (idxL (o18_2 ++ ([conjI (el o18_2 v6_1) (el o18_2 v7_2)])) (conjI (el (o18_2 ++ ([conjI (el o18_2 v6_1) (el o18_2 v7_2)])) v7_2) (el (o18_2 ++ ([conjI (el o18_2 v6_1) (el o18_2 v7_2)])) v6_1)) < 0) →
           (InI (v7_2 + 1)) ∧
           (H4 (v7_2 + 1) (o18_2 ++ ([conjI (el o18_2 v6_1) (el o18_2 v7_2)])) ∧ m4 (v7_2 + 1) (o18_2 ++ ([conjI (el o18_2 v6_1) (el o18_2 v7_2)])) < m4 v7_2 o18_2)))) ∧
         (¬ (idxL o18_2 (conjI (el o18_2 v6_1) (el o18_2 v7_2)) < 0) →
          (0 ≤ v7_2 ∧ v7_2 < (o18_2.length : Int)) ∧
          (0 ≤ v6_1 ∧ v6_1 < (o18_2.length : Int)) ∧
          (cjD (el o18_2 v7_2) (el o18_2 v6_1)) ∧
          (small2 o18_2 ∧ small (conjI (el o18_2 v7_2) (el o18_2 v6_1))) ∧
          ((idxL o18_2 (conjI (el o18_2 v7_2) (el o18_2 v6_1)) < 0 →
           ((o18_2.length : Int) + (([conjI (el o18_2 v7_2) (el o18_2 v6_1)]).length : Int) ≤ 1000000000) ∧
           (InI (v7_2 + 1)) ∧
           (H4 (v7_2 + 1) (o18_2 ++ ([conjI (el o18_2 v7_2) (el o18_2 v6_1)])) ∧ m4 (v7_2 + 1) (o18_2 ++ ([conjI (el o18_2 v7_2) (el o18_2 v6_1)])) < m4 v7_2 o18_2)) ∧
          (¬ (idxL o18_2 (conjI (el o18_2 v7_2) (el o18_2 v6_1)) < 0) →
           (InI (v7_2 + 1)) ∧
           (H4 (v7_2 + 1) o18_2 ∧ m4 (v7_2 + 1) o18_2 < m4 v7_2 o18_2)))))) ∧
        (¬ ((o18_2.length : Int) ≤ 12) →
         (InI (v6_1 + 1)) ∧
         (H3 (v6_1 + 1) o10_0 o10_1 o10_2 o18_2 ∧ m3 (v6_1 + 1) o10_0 o10_1 o10_2 o18_2 < m3 v6_1 f11_0_1 f11_1_1 f11_2_1 o18_1)))) ∧
       (¬ (v7_2 < (o18_2.length : Int)) →
        (InI (v6_1 + 1)) ∧
        (H3 (v6_1 + 1) o10_0 o10_1 o10_2 o18_2 ∧ m3 (v6_1 + 1) o10_0 o10_1 o10_2 o18_2 < m3 v6_1 f11_0_1 f11_1_1 f11_2_1 o18_1))))) ∧
     (¬ (0 < r10_0) →
      (okS o10_0 o10_1 o10_2 ∧ InI (24 : Int)) ∧
      ∀ (r11_0 : Int) (o11_0 : List Int) (o11_1 : Int) (o11_2 : Int), (nxP (24 : Int) r11_0 ∧ o11_0 = o10_0 ∧ okS o10_0 o11_1 o11_2) →
      ((r11_0 = 0 →
       ((0 : Int) ≤ 0 ∧ 0 < (o18_1.length : Int)) ∧
       ((o18_1.length : Int) + (([el o18_1 0]).length : Int) ≤ 1000000000) ∧
       Q (o18_1 ++ ([el o18_1 0]))) ∧
      (¬ (r11_0 = 0) →
       ((r11_0 = 1 →
        Q ([])) ∧
       (¬ (r11_0 = 1) →
        Q o18_1))))))) ∧
    (¬ ((o18_1.length : Int) ≤ 12) →
     (okS f11_0_1 f11_1_1 f11_2_1 ∧ InI (24 : Int)) ∧
     ∀ (r12_0 : Int) (o12_0 : List Int) (o12_1 : Int) (o12_2 : Int), (nxP (24 : Int) r12_0 ∧ o12_0 = f11_0_1 ∧ okS f11_0_1 o12_1 o12_2) →
     ((r12_0 = 0 →
      ((0 : Int) ≤ 0 ∧ 0 < (o18_1.length : Int)) ∧
      ((o18_1.length : Int) + (([el o18_1 0]).length : Int) ≤ 1000000000) ∧
      Q (o18_1 ++ ([el o18_1 0]))) ∧
     (¬ (r12_0 = 0) →
      ((r12_0 = 1 →
       Q ([])) ∧
      (¬ (r12_0 = 1) →
       Q o18_1))))))) ∧
   (¬ (v6_1 < (o18_1.length : Int)) →
    (okS f11_0_1 f11_1_1 f11_2_1 ∧ InI (24 : Int)) ∧
    ∀ (r13_0 : Int) (o13_0 : List Int) (o13_1 : Int) (o13_2 : Int), (nxP (24 : Int) r13_0 ∧ o13_0 = f11_0_1 ∧ okS f11_0_1 o13_1 o13_2) →
    ((r13_0 = 0 →
     ((0 : Int) ≤ 0 ∧ 0 < (o18_1.length : Int)) ∧
     ((o18_1.length : Int) + (([el o18_1 0]).length : Int) ≤ 1000000000) ∧
     Q (o18_1 ++ ([el o18_1 0]))) ∧
    (¬ (r13_0 = 0) →
     ((r13_0 = 1 →
      Q ([])) ∧
     (¬ (r13_0 = 1) →
      Q o18_1)))))))
theorem dcj_ok {n : Int} (hn : n ≤ 12) {c : List Int} {a s : Int} {l : List (List Int)} (hs : okS c a s) (hl : PLn n l) : dcjT c a s l dcjQ := by
  refine ⟨fun v c2 a2 s2 l2 => (0 ≤ v ∧ v ≤ 14) ∧ okS c2 a2 s2 ∧ PLn n l2, fun v _ _ _ _ => (20 - v).toNat, ⟨⟨by omega, by omega⟩, hs, hl⟩, ?_⟩
  rintro v c2 a2 s2 l2 ⟨⟨v0, v1⟩, hs, hl⟩
  dsimp only
  have hlen := hl.1
  refine ⟨fun vlt => ⟨fun l12 => ⟨⟨hs, by omega, by omega⟩, fun r c3 a3 s3 ⟨_, e, hs3⟩ => ?_⟩, fun _ => hl.fin hn hs⟩, fun _ => hl.fin hn hs⟩
  subst e
  refine ⟨fun _ => ?_, fun _ => hl.fin hn hs3⟩
  refine ⟨fun k l3 => (0 ≤ k ∧ k ≤ 15) ∧ PLn n l3 ∧ v < (l3.length : Int), fun k _ => (20 - k).toNat, ⟨⟨by omega, by omega⟩, hl, vlt⟩, ?_⟩
  rintro k l3 ⟨⟨k0, k1⟩, hl3, hv⟩
  dsimp only
  have hlen3 := hl3.1
  have out : InI (v + 1) ∧ (((0 ≤ v + 1 ∧ v + 1 ≤ 14) ∧ okS c3 a3 s3 ∧ PLn n l3) ∧ (20 - (v + 1)).toNat < (20 - v).toNat) := ⟨⟨by omega, by omega⟩, ⟨⟨by omega, by omega⟩, hs3, hl3⟩, by omega⟩
  refine ⟨fun klt => ⟨fun l12 => ?_, fun _ => out⟩, fun _ => out⟩
  have g := hl3.cj hn ⟨v0, hv⟩ ⟨k0, klt⟩
  have nxt : ∀ l4 : List (List Int), PLn n l4 → (l3.length : Int) ≤ (l4.length : Int) → InI (k + 1) ∧ (((0 ≤ k + 1 ∧ k + 1 ≤ 15) ∧ PLn n l4 ∧ v < (l4.length : Int)) ∧ (20 - (k + 1)).toNat < (20 - k).toNat) := fun l4 h4 hle => ⟨⟨by omega, by omega⟩, ⟨⟨by omega, by omega⟩, h4, by omega⟩, by omega⟩
  have sm : ∀ {x : List Int}, (x.length : Int) = n → small x := fun h => by show (_ : Int) ≤ 1000000000; omega
  refine ⟨⟨v0, hv⟩, ⟨k0, klt⟩, g.1, ⟨hl3.sm hn, sm g.2.1⟩, fun _ => ?_, fun _ => ?_⟩
  · have h4 := hl3.app (by omega) g.2
    generalize hq : l3 ++ [conjI (el l3 v) (el l3 k)] = l4 at *
    have hlen4 : (l4.length : Int) = (l3.length : Int) + 1 := by rw [← hq]; simp
    have g2 := h4.cj hn (i := k) (j := v) ⟨k0, by omega⟩ ⟨v0, by omega⟩
    refine ⟨by simp; omega, ⟨k0, by omega⟩, ⟨v0, by omega⟩, g2.1, ⟨h4.sm hn, sm g2.2.1⟩, fun _ => ⟨by simp; omega, nxt _ (h4.app (by omega) g2.2) (by simp; omega)⟩, fun _ => nxt _ h4 (by omega)⟩
  · have g2 := hl3.cj hn (i := k) (j := v) ⟨k0, klt⟩ ⟨v0, hv⟩
    exact ⟨⟨k0, klt⟩, ⟨v0, hv⟩, g2.1, ⟨hl3.sm hn, sm g2.2.1⟩, fun _ => ⟨by simp; omega, nxt _ (hl3.app (by omega) g2.2) (by simp; omega)⟩, fun _ => nxt _ hl3 (by omega)⟩
theorem p_spec_DrawConjugationQuandle (code : List Int) (hp : small code ∧ bytes code) : wp_spec_DrawConjugationQuandle code (fun y0 => (y0.length : Int) ≤ 20 ∧ ∀ z_ ∈ y0, (z_.length : Int) ≤ 12) := by
  refine ⟨hp, ?_⟩
  rintro c a h ⟨rfl, hs⟩
  refine ⟨⟨hs, by omega, by omega⟩, ?_⟩
  rintro r c2 a2 h2 ⟨hr, rfl, hs2⟩
  have hr2 := hr.2 (by omega)
  refine ⟨⟨by omega, by omega⟩, ⟨hs2, by omega⟩, ?_⟩
  rintro p c3 a3 h3 ⟨⟨pl, pz, pn⟩, rfl, hs3⟩
  refine ⟨⟨hs3, by omega, by omega⟩, ?_⟩
  rintro q c4 a4 h4 ⟨hq, rfl, hs4⟩
  have mk : ∀ {p : List Int}, (p.length : Int) = max (2 + r) 0 → (∀ z_ ∈ p, 0 ≤ z_ ∧ z_ < 2 + r) → p.Nodup → (p.length : Int) = 2 + r ∧ isPerm p = true := fun a b c => ⟨by omega, isPerm_iff.2 ⟨c, fun x hx => by have := b x hx; omega⟩⟩
  have hP := mk pl pz pn
  refine ⟨fun _ => ⟨⟨hs4, by omega⟩, ?_⟩, fun _ => dcj_ok (n := 2 + r) (by omega) hs4 ⟨⟨by simp, by simp⟩, fun z hz => by rw [List.mem_singleton.1 hz]; exact hP⟩⟩
  rintro p5 c5 a5 h5 ⟨⟨pl5, pz5, pn5⟩, rfl, hs5⟩
  have hP5 := mk pl5 pz5 pn5
  exact ⟨by simp, dcj_ok (n := 2 + r) (by omega) hs5 ⟨⟨by simp, by simp⟩, fun z hz => by
    rcases List.mem_append.1 hz with hz | hz
    · rw [List.mem_singleton.1 hz]; exact hP
    · rw [List.mem_singleton.1 hz]; exact hP5⟩⟩
theorem p_spec_DrawClassQuandle (code : List Int) (hp : small code ∧ bytes code) : wp_spec_DrawClassQuandle code (fun y0 => (y0.length : Int) ≤ 20 ∧ ∀ z_ ∈ y0, 0 ≤ z_ ∧ z_ ≤ 1000) := by
  refine ⟨hp, ?_⟩
  rintro c a h ⟨rfl, hs⟩
  refine ⟨⟨hs, by omega, by omega⟩, ?_⟩
  rintro r c2 a2 h2 ⟨hr, rfl, hs2⟩
  have hr2 := hr.2 (by omega)
  refine ⟨⟨hs2, by omega⟩, ?_⟩
  rintro p c3 a3 h3 ⟨⟨pl, pz, pn⟩, rfl, hs3⟩
  refine ⟨⟨hs3, by omega, by omega⟩, ?_⟩
  rintro q c4 a4 h4 ⟨hq, rfl, hs4⟩
  have hz : ∀ z ∈ p, 0 ≤ z ∧ z ≤ 1000 := fun z hz => by have := pz z hz; omega
  refine ⟨fun _ => ⟨⟨by omega, by omega⟩, by simp; omega, by simp; omega, fun z hz2 => ?_⟩, fun _ => ⟨fun _ => ⟨⟨hs4, by omega⟩, ?_⟩, fun _ => ⟨fun _ => ⟨by simp; omega, by simp; omega, fun z hz2 => ?_⟩, fun _ => ⟨by omega, hz⟩⟩⟩⟩
  · rcases List.mem_append.1 hz2 with g | g
    · exact hz z g
    · simp only [List.mem_cons, List.not_mem_nil, or_false] at g
      rcases g with g | g <;> omega
  · rintro p5 c5 a5 h5 ⟨⟨pl5, pz5, pn5⟩, rfl, hs5⟩
    exact ⟨by omega, fun z hz => by have := pz5 z hz; omega⟩
  · rcases List.mem_append.1 hz2 with g | g
    · exact hz z g
    · rw [List.mem_singleton.1 g]; omega

set_option maxRecDepth 100000 in
set_option maxHeartbeats 4000000 in
theorem w_laws_fact9 (n : Int) (Q : Int → Prop) (h : wp_laws_fact9 n Q) : AF Try.prog 15 [ci n] (fun R_ => ∃ y0, Q y0 ∧ R_ = ci y0) := by
  refine AF.ofWQ (af_enter (n := 14) Try.func15 rfl (by rfl) rfl (Nat.le_of_ble_eq_true rfl) ?_)
  unfold wp_laws_fact9 at h
  refine aw_seq ?_
  refine aw_gh (gh_to (n := 14) (σ' := []) (env' := [(0, .c (ci n))]) rfl rfl ⟨rfl, trivial⟩) ?_
  refine aw_region ?_
  refine run_s (ss_assign rfl) rfl ?_
  refine run_nil ?_
  refine aw_seq ?_
  refine aw_region ?_
  refine run_s (ss_assign rfl) rfl ?_
  refine run_nil ?_
  refine aw_seq ?_
  refine aw_seq ?_
  refine aw_region ?_
  refine run_s (ss_assign rfl) rfl ?_
  refine run_nil ?_
  refine aw_block ?_
  obtain ⟨H1, m1, q1, h⟩ := h
  refine aw_loop2 (fun (v3_1 : Int) (v4_1 : Int) => ⟨[], [(0, .c (ci n)), (3, .c (ci v3_1)), (4, .c (ci v4_1))], 14⟩) H1 m1 ⟨1, 2, ghe_to (n := 14) rfl rfl ⟨rfl, rfl, rfl, trivial⟩, q1⟩ ?_
  rintro v3_1 v4_1 q1
  replace h := h v3_1 v4_1 q1
  refine aw_seq ?_
  refine aw_seq ?_
  refine aw_region ?_
  refine run_s (ss_move rfl) rfl ?_
  refine run_s (ss_move rfl) rfl ?_
  refine run_s (ss_leq rfl rfl) rfl ?_
  refine run_nil ?_
  refine aw_cond rfl (fun q2 => ?_) (fun q2 => ?_)
  ·replace h := h.1 (of_decide_eq_true q2)
   refine aw_skip ?_
   refine aw_seq ?_
   refine aw_block ?_
   refine aw_region ?_
   refine run_s (ss_move rfl) rfl ?_
   refine run_s (ss_move rfl) rfl ?_
   obtain ⟨q3, h⟩ := h
   refine run_s (ss_mul rfl rfl q3) rfl ?_
   refine run_s (ss_assign rfl) rfl ?_
   refine run_nil ?_
   refine aw_gh (gh_to (n := 14) (σ' := []) (env' := [(0, .c (ci n)), (3, .c (ci (v3_1 * v4_1))), (4, .c (ci v4_1))]) rfl rfl ⟨rfl, rfl, rfl, trivial⟩) ?_
   refine aw_region ?_
   refine run_s (ss_move rfl) rfl ?_
   obtain ⟨q4, h⟩ := h
   refine run_s (ss_add rfl rfl q4) rfl ?_
   refine run_s (ss_assign rfl) rfl ?_
   refine run_nil ?_
   exact ⟨v3_1 * v4_1, v4_1 + 1, ghe_to (n := 14) rfl rfl ⟨rfl, rfl, rfl, trivial⟩, h.1, h.2⟩
  ·replace h := h.2 (of_decide_eq_false q2)
   refine aw_exit ?_
   refine aw_seq ?_
   refine aw_gh (gh_to (n := 14) (σ' := []) (env' := [(3, .c (ci v3_1))]) rfl rfl ⟨rfl, trivial⟩) ?_
   refine aw_region ?_
   refine run_s (ss_move rfl) rfl ?_
   refine run_s (ss_assign rfl) rfl ?_
   refine run_nil ?_
   refine aw_ret ?_
   exact retAF_mk (retv1 rfl (rv_tmp rfl)) rfl rfl ⟨_, (cle_refl _), _, h, rfl⟩

theorem c_laws_fact9 (n : Int) (hp : 0 ≤ n ∧ n ≤ 12) : AF Try.prog 15 [ci n] (fun R_ => R_ = ci (facI n)) :=
  (w_laws_fact9 n (fun y0 => y0 = (facI n)) (p_laws_fact9 n hp)).mono (by rintro r ⟨_, rfl, rfl⟩; rfl)

set_option maxRecDepth 100000 in
set_option maxHeartbeats 4000000 in
theorem w_spec_DrawConjugationQuandle (code : List Int) (Q : List (List Int) → Prop) (h : wp_spec_DrawConjugationQuandle code Q) : AF Try.prog 7 [.lst (bys code)] (fun R_ => ∃ y0, Q y0 ∧ R_ = .own (rows y0)) := by
  refine AF.ofWQ (af_enter (n := 102) Try.func7 rfl (by rfl) rfl (Nat.le_of_ble_eq_true rfl) ?_)
  unfold wp_spec_DrawConjugationQuandle at h
  refine aw_seq ?_
  refine aw_gh (gh_to (n := 102) (σ' := []) (env' := [(0, .c (.lst (bys code)))]) rfl rfl ⟨rfl, trivial⟩) ?_
  refine aw_region ?_
  refine run_s (ss_assign rfl) rfl ?_
  refine run_nil ?_
  refine aw_seq ?_
  refine aw_region ?_
  refine run_s (ss_move rfl) rfl ?_
  obtain ⟨q1, h⟩ := h
  refine run_w (ws_call (xs := [.tmp 10]) (ids := [11]) rfl rfl rfl rfl (c_spec_l01From code q1) rfl ?_ )
  rintro _ ⟨r1_0, r1_1, r1_2, q2, rfl⟩
  replace h := h r1_0 r1_1 r1_2 q2
  refine ⟨rfl, ?_⟩
  refine run_s (ss_assign rfl) rfl ?_
  refine run_nil ?_
  refine aw_seq ?_
  refine aw_region ?_
  refine run_s (ss_move rfl) rfl ?_
  obtain ⟨q3, h⟩ := h
  refine run_w (ws_callM (xs := [.tmp 12, .const (.int .i64 (3))]) (cs := [.obox [.lst (bys r1_0), ci r1_1, cu r1_2], ci 3]) (ids := []) rfl (.inr ⟨rfl, rfl⟩) rfl rfl rfl (c_spec_l01Next r1_0 r1_1 r1_2 3 q3) rfl rfl ?_ )
  rintro _ _ ⟨r2_0, o2_0, o2_1, o2_2, q4, rfl, rfl⟩
  replace h := h r2_0 o2_0 o2_1 o2_2 q4
  refine ⟨rfl, rfl, ?_⟩
  obtain ⟨q5, h⟩ := h
  refine run_s (ss_add rfl rfl q5) rfl ?_
  refine run_s (ss_assign rfl) rfl ?_
  refine run_nil ?_
  refine aw_seq ?_
  refine aw_region ?_
  refine run_s (ss_move rfl) rfl ?_
  refine run_s (ss_move rfl) rfl ?_
  obtain ⟨q6, h⟩ := h
  refine run_w (ws_callM (xs := [.tmp 15, .tmp 16]) (cs := [.obox [.lst (bys o2_0), ci o2_1, cu o2_2], ci (2 + r2_0)]) (ids := [17]) rfl (.inr ⟨rfl, rfl⟩) rfl rfl rfl (c_spec_l03DrawPerm o2_0 o2_1 o2_2 (2 + r2_0) q6) rfl rfl ?_ )
  rintro _ _ ⟨r3_0, o3_0, o3_1, o3_2, q7, rfl, rfl⟩
  replace h := h r3_0 o3_0 o3_1 o3_2 q7
  refine ⟨rfl, rfl, ?_⟩
  refine run_gh (gh_frzE (id := 17) ci rfl (fun _ => rfl)) ?_
  refine run_w (ws_buildSlice (id := 18) (ps := [(0, .tmp 17)]) rfl rfl (Nat.le_of_ble_eq_true rfl) rfl ⟨rfl, ?_⟩)
  refine run_s (ss_assign rfl) rfl ?_
  refine run_nil ?_
  refine aw_seq ?_
  refine aw_seq ?_
  refine aw_region ?_
  refine run_s (ss_move rfl) rfl ?_
  obtain ⟨q8, h⟩ := h
  refine run_w (ws_callM (xs := [.tmp 19, .const (.int .i64 (3))]) (cs := [.obox [.lst (bys o3_0), ci o3_1, cu o3_2], ci 3]) (ids := []) rfl (.inr ⟨rfl, rfl⟩) rfl rfl rfl (c_spec_l01Next o3_0 o3_1 o3_2 3 q8) rfl rfl ?_ )
  rintro _ _ ⟨r4_0, o4_0, o4_1, o4_2, q9, rfl, rfl⟩
  replace h := h r4_0 o4_0 o4_1 o4_2 q9
  refine ⟨rfl, rfl, ?_⟩
  refine run_s (ss_eql rfl rfl) rfl ?_
  refine run_nil ?_
  refine aw_cond rfl (fun q10 => ?_) (fun q10 => ?_)
  ·replace h := h.1 (of_decide_eq_true q10)
   refine aw_region ?_
   refine run_s (ss_move rfl) rfl ?_
   refine run_s (ss_move rfl) rfl ?_
   refine run_s (ss_move rfl) rfl ?_
   obtain ⟨q11, h⟩ := h
   refine run_w (ws_callM (xs := [.tmp 23, .tmp 24]) (cs := [.obox [.lst (bys o4_0), ci o4_1, cu o4_2], ci (2 + r2_0)]) (ids := [25]) rfl (.inr ⟨rfl, rfl⟩) rfl rfl rfl (c_spec_l03DrawPerm o4_0 o4_1 o4_2 (2 + r2_0) q11) rfl rfl ?_ )
   rintro _ _ ⟨r5_0, o5_0, o5_1, o5_2, q12, rfl, rfl⟩
   replace h := h r5_0 o5_0 o5_1 o5_2 q12
   refine ⟨rfl, rfl, ?_⟩
   refine run_gh (gh_frzE (id := 25) ci rfl (fun _ => rfl)) ?_
   refine run_w (ws_buildSlice (id := 26) (ps := [(0, .tmp 25)]) rfl rfl (Nat.le_of_ble_eq_true rfl) rfl ⟨rfl, ?_⟩)
   obtain ⟨q13, h⟩ := h
   refine run_w (ws_app1 (fun r => C.lst (ints r)) (l := [r3_0]) (m := [r5_0]) rfl rfl rfl rfl rfl (Nat.le_of_ble_eq_true rfl) q13 ⟨rfl, ?_⟩)
   refine run_s (ss_assign rfl) rfl ?_
   refine run_nil ?_
   refine aw_seq ?_
   refine aw_seq ?_
   refine aw_gh (gh_to (n := 102) (σ' := [(18, ⟨rows (([r3_0]) ++ ([r5_0])), []⟩), (11, ⟨[.lst (bys o5_0), ci o5_1, cu o5_2], []⟩)]) (env' := [(3, .cell 11 0), (5, .ref 18)]) rfl rfl ⟨rfl, rfl, trivial⟩) ?_
   refine aw_region ?_
   refine run_s (ss_assign rfl) rfl ?_
   refine run_nil ?_
   refine aw_block ?_
   obtain ⟨H1, m1, q14, h⟩ := h
   refine aw_loop5 (fun (v6_1 : Int) (f11_0_1 : List Int) (f11_1_1 : Int) (f11_2_1 : Int) (o18_1 : List (List Int)) => ⟨[(18, ⟨rows o18_1, []⟩), (11, ⟨[.lst (bys f11_0_1), ci f11_1_1, cu f11_2_1], []⟩)], [(3, .cell 11 0), (5, .ref 18), (6, .c (ci v6_1))], 102⟩) H1 m1 ⟨0, o5_0, o5_1, o5_2, ([r3_0]) ++ ([r5_0]), ghe_to (n := 102) rfl rfl ⟨rfl, rfl, rfl, trivial⟩, q14⟩ ?_
   rintro v6_1 f11_0_1 f11_1_1 f11_2_1 o18_1 q14
   replace h := h v6_1 f11_0_1 f11_1_1 f11_2_1 o18_1 q14
   refine aw_seq ?_
   refine aw_seq ?_
   refine aw_region ?_
   refine run_s (ss_move rfl) rfl ?_
   refine run_s (ss_move rfl) rfl ?_
   refine run_s (ss_lenR (f := (fun r => C.lst (ints r))) rfl rfl) rfl ?_
   refine run_s (ss_lss rfl rfl) rfl ?_
   refine run_s (ss_move rfl) rfl ?_
   refine run_split (s := 32) rfl (fun q15 => ?_) (fun q15 => ?_)
   ·replace h := h.1 (of_decide_eq_true q15)
    refine run_gt rfl rfl q15 ?_
    refine run_s (ss_move rfl) rfl ?_
    refine run_gt rfl rfl q15 ?_
    refine run_s (ss_lenR (f := (fun r => C.lst (ints r))) rfl rfl) rfl ?_
    refine run_gt rfl rfl q15 ?_
    refine run_s (ss_leq rfl rfl) rfl ?_
    refine run_s (ss_pickT rfl q15 rfl) rfl ?_
    refine run_s (ss_move rfl) rfl ?_
    refine run_split (s := 37) rfl (fun q16 => ?_) (fun q16 => ?_)
    ·replace h := h.1 (of_decide_eq_true q16)
     refine run_gt rfl rfl q16 ?_
     refine run_s (ss_move rfl) rfl ?_
     refine run_gt rfl rfl q16 ?_
     obtain ⟨q17, h⟩ := h
     refine run_w (ws_callM (xs := [.tmp 38, .const (.int .i64 (20))]) (cs := [.obox [.lst (bys f11_0_1), ci f11_1_1, cu f11_2_1], ci 20]) (ids := []) rfl (.inr ⟨rfl, rfl⟩) rfl rfl rfl (c_spec_l01Next f11_0_1 f11_1_1 f11_2_1 20 q17) rfl rfl ?_ )
     rintro _ _ ⟨r6_0, o6_0, o6_1, o6_2, q18, rfl, rfl⟩
     replace h := h r6_0 o6_0 o6_1 o6_2 q18
     refine ⟨rfl, rfl, ?_⟩
     refine run_gt rfl rfl q16 ?_
     refine run_s (ss_gtr rfl rfl) rfl ?_
     refine run_s (ss_pickT rfl q16 rfl) rfl ?_
     refine run_nil ?_
     refine aw_cond rfl (fun q19 => ?_) (fun q19 => ?_)
     ·replace h := h.1 (of_decide_eq_true q19)
      refine aw_skip ?_
      refine aw_seq ?_
      refine aw_block ?_
      refine aw_seq ?_
      refine aw_gh (gh_to (n := 102) (σ' := [(18, ⟨rows o18_1, []⟩), (11, ⟨[.lst (bys o6_0), ci o6_1, cu o6_2], []⟩)]) (env' := [(3, .cell 11 0), (5, .ref 18), (6, .c (ci v6_1)), (33, .ref 18), (34, .c (ci (o18_1.length : Int))), (35, .c (cb (decide ((o18_1.length : Int) ≤ 12)))), (38, .cell 11 0), (39, .c (ci r6_0)), (40, .c (cb (decide (0 < r6_0))))]) rfl rfl ⟨rfl, rfl, rfl, rfl, rfl, rfl, rfl, rfl, rfl, trivial⟩) ?_
      refine aw_region ?_
      refine run_s (ss_assign rfl) rfl ?_
      refine run_nil ?_
      refine aw_block ?_
      obtain ⟨H2, m2, q20, h⟩ := h
      refine aw_loop2 (fun (v7_2 : Int) (o18_2 : List (List Int)) => ⟨[(18, ⟨rows o18_2, []⟩), (11, ⟨[.lst (bys o6_0), ci o6_1, cu o6_2], []⟩)], [(3, .cell 11 0), (5, .ref 18), (6, .c (ci v6_1)), (7, .c (ci v7_2)), (34, .c (ci (o18_1.length : Int))), (35, .c (cb (decide ((o18_1.length : Int) ≤ 12)))), (38, .cell 11 0), (39, .c (ci r6_0)), (40, .c (cb (decide (0 < r6_0))))], 102⟩) H2 m2 ⟨0, o18_1, ghe_to (n := 102) rfl rfl ⟨rfl, rfl, rfl, rfl, rfl, rfl, rfl, rfl, rfl, trivial⟩, q20⟩ ?_
      rintro v7_2 o18_2 q20
      replace h := h v7_2 o18_2 q20
      refine aw_seq ?_
      refine aw_seq ?_
      refine aw_region ?_
      refine run_s (ss_move rfl) rfl ?_
      refine run_s (ss_move rfl) rfl ?_
      refine run_s (ss_lenR (f := (fun r => C.lst (ints r))) rfl rfl) rfl ?_
      refine run_s (ss_lss rfl rfl) rfl ?_
      refine run_s (ss_move rfl) rfl ?_
      refine run_split (s := 48) rfl (fun q21 => ?_) (fun q21 => ?_)
      ·replace h := h.1 (of_decide_eq_true q21)
       refine run_gt rfl rfl q21 ?_
       refine run_s (ss_move rfl) rfl ?_
       refine run_gt rfl rfl q21 ?_
       refine run_s (ss_lenR (f := (fun r => C.lst (ints r))) rfl rfl) rfl ?_
       refine run_gt rfl rfl q21 ?_
       refine run_s (ss_leq rfl rfl) rfl ?_
       refine run_s (ss_pickT rfl q21 rfl) rfl ?_
       refine run_nil ?_
       refine aw_cond rfl (fun q22 => ?_) (fun q22 => ?_)
       ·replace h := h.1 (of_decide_eq_true q22)
        refine aw_skip ?_
        refine aw_seq ?_
        refine aw_block ?_
        refine aw_seq ?_
        refine aw_seq ?_
        refine aw_gh (gh_to (n := 102) (σ' := [(18, ⟨rows o18_2, []⟩), (11, ⟨[.lst (bys o6_0), ci o6_1, cu o6_2], []⟩)]) (env' := [(3, .cell 11 0), (5, .ref 18), (6, .c (ci v6_1)), (7, .c (ci v7_2)), (34, .c (ci (o18_1.length : Int))), (35, .c (cb (decide ((o18_1.length : Int) ≤ 12)))), (38, .cell 11 0), (39, .c (ci r6_0)), (40, .c (cb (decide (0 < r6_0)))), (49, .ref 18), (50, .c (ci (o18_2.length : Int))), (51, .c (cb (decide ((o18_2.length : Int) ≤ 12))))]) rfl rfl ⟨rfl, rfl, rfl, rfl, rfl, rfl, rfl, rfl, rfl, rfl, rfl, rfl, trivial⟩) ?_
        refine aw_regionD (kd := kdl [0, 0, 0, 1, 0, 0, 0, 1, 2, 0]) (ord := [0, 1, 2, 4, 5, 6, 3, 7, 8, 9]) [] mixed (by kernel_rfl) ?_
        refine rd_s rfl rfl trivial (ss_move rfl) rfl ?_
        refine rd_s rfl rfl trivial (ss_move rfl) rfl ?_
        obtain ⟨q23, h⟩ := h
        refine rd_s rfl rfl trivial (ss_idxR (f := (fun r => C.lst (ints r))) rfl rfl rfl q23) rfl ?_
        refine rd_s rfl rfl trivial (ss_move rfl) rfl ?_
        refine rd_s rfl rfl trivial (ss_move rfl) rfl ?_
        obtain ⟨q24, h⟩ := h
        refine rd_s rfl rfl trivial (ss_idxR (f := (fun r => C.lst (ints r))) rfl rfl rfl q24) rfl ?_
        refine rd_l rfl rfl trivial (ss_loadR (f := (fun r => C.lst (ints r))) rfl rfl q23 rfl rfl) rfl ?_
        refine rd_l rfl rfl trivial (ss_loadR (f := (fun r => C.lst (ints r))) rfl rfl q24 rfl rfl) rfl ?_
        obtain ⟨q25, h⟩ := h
        refine rd_w rfl rfl trivial rfl rfl (ws_call (xs := [.tmp 58, .tmp 62]) (ids := [63]) rfl rfl rfl rfl (c_spec_l04Conjugate (el o18_2 v6_1) (el o18_2 v7_2) q25) rfl ?_ )
        rintro _ rfl
        refine ⟨rfl, ?_⟩
        refine rd_s rfl rfl trivial (ss_assign rfl) rfl ?_
        refine rd_nil ?_
        refine aw_seq ?_
        refine aw_gh (gh_to (n := 102) (σ' := [(63, ⟨ints (conjI (el o18_2 v6_1) (el o18_2 v7_2)), []⟩), (18, ⟨rows o18_2, []⟩), (11, ⟨[.lst (bys o6_0), ci o6_1, cu o6_2], []⟩)]) (env' := [(3, .cell 11 0), (5, .ref 18), (6, .c (ci v6_1)), (7, .c (ci v7_2)), (8, .ref 63), (34, .c (ci (o18_1.length : Int))), (35, .c (cb (decide ((o18_1.length : Int) ≤ 12)))), (38, .cell 11 0), (39, .c (ci r6_0)), (40, .c (cb (decide (0 < r6_0)))), (49, .ref 18), (50, .c (ci (o18_2.length : Int))), (51, .c (cb (decide ((o18_2.length : Int) ≤ 12))))]) rfl rfl ⟨rfl, rfl, rfl, rfl, rfl, rfl, rfl, rfl, rfl, rfl, rfl, rfl, rfl, trivial⟩) ?_
        refine aw_region ?_
        refine run_s (ss_move rfl) rfl ?_
        refine run_s (ss_move rfl) rfl ?_
        obtain ⟨q27, h⟩ := h
        refine run_w (ws_callR (xs := [.tmp 64, .tmp 65]) (cs := [.own (rows o18_2), .own (ints (conjI (el o18_2 v6_1) (el o18_2 v7_2)))]) (ids := []) rfl (.inr ⟨rfl, rfl⟩) rfl rfl (fz_cons (fz_own (fz_map (fun _ => rfl) _)) (fz_cons (fz_own (fz_map (fun _ => rfl) _)) fz_nil)) (c_spec_l04Find o18_2 (conjI (el o18_2 v6_1) (el o18_2 v7_2)) q27) rfl ?_ )
        rintro _ rfl
        refine ⟨rfl, rfl, ?_⟩
        refine run_s (ss_lss rfl rfl) rfl ?_
        refine run_nil ?_
        refine aw_cond rfl (fun q29 => ?_) (fun q29 => ?_)
        ·replace h := h.1 (of_decide_eq_true q29)
         refine aw_gh (gh_to (n := 102) (σ' := [(63, ⟨ints (conjI (el o18_2 v6_1) (el o18_2 v7_2)), []⟩), (18, ⟨rows o18_2, []⟩), (11, ⟨[.lst (bys o6_0), ci o6_1, cu o6_2], []⟩)]) (env' := [(3, .cell 11 0), (5, .ref 18), (6, .c (ci v6_1)), (7, .c (ci v7_2)), (8, .ref 63), (34, .c (ci (o18_1.length : Int))), (35, .c (cb (decide ((o18_1.length : Int) ≤ 12)))), (38, .cell 11 0), (39, .c (ci r6_0)), (40, .c (cb (decide (0 < r6_0)))), (49, .ref 18), (50, .c (ci (o18_2.length : Int))), (51, .c (cb (decide ((o18_2.length : Int) ≤ 12))))]) rfl rfl ⟨rfl, rfl, rfl, rfl, rfl, rfl, rfl, rfl, rfl, rfl, rfl, rfl, rfl, trivial⟩) ?_
         refine aw_region ?_
         refine run_s (ss_move rfl) rfl ?_
         refine run_s (ss_move rfl) rfl ?_
         refine run_gh (gh_frzE (id := 63) ci rfl (fun _ => rfl)) ?_
         refine run_w (ws_buildSlice (id := 70) (ps := [(0, .tmp 69)]) rfl rfl (Nat.le_of_ble_eq_true rfl) rfl ⟨rfl, ?_⟩)
         obtain ⟨q30, h⟩ := h
         refine run_w (ws_app1 (fun r => C.lst (ints r)) (l := o18_2) (m := [conjI (el o18_2 v6_1) (el o18_2 v7_2)]) rfl rfl rfl rfl rfl (Nat.le_of_ble_eq_true rfl) q30 ⟨rfl, ?_⟩)
         refine run_s (ss_assign rfl) rfl ?_
         refine run_nil ?_
         refine aw_seq ?_
         refine aw_gh (gh_to (n := 102) (σ' := [(18, ⟨rows (o18_2 ++ ([conjI (el o18_2 v6_1) (el o18_2 v7_2)])), []⟩), (11, ⟨[.lst (bys o6_0), ci o6_1, cu o6_2], []⟩)]) (env' := [(3, .cell 11 0), (5, .ref 18), (6, .c (ci v6_1)), (7, .c (ci v7_2)), (34, .c (ci (o18_1.length : Int))), (35, .c (cb (decide ((o18_1.length : Int) ≤ 12)))), (38, .cell 11 0), (39, .c (ci r6_0)), (40, .c (cb (decide (0 < r6_0)))), (50, .c (ci (o18_2.length : Int))), (51, .c (cb (decide ((o18_2.length : Int) ≤ 12))))]) rfl rfl ⟨rfl, rfl, rfl, rfl, rfl, rfl, rfl, rfl, rfl, rfl, rfl, trivial⟩) ?_
         refine aw_regionD (kd := kdl [0, 0, 0, 1, 0, 0, 0, 1, 2, 0]) (ord := [0, 1, 2, 4, 5, 6, 3, 7, 8, 9]) [] mixed (by kernel_rfl) ?_
         refine rd_s rfl rfl trivial (ss_move rfl) rfl ?_
         refine rd_s rfl rfl trivial (ss_move rfl) rfl ?_
         obtain ⟨q31, h⟩ := h
         refine rd_s rfl rfl trivial (ss_idxR (f := (fun r => C.lst (ints r))) rfl rfl rfl q31) rfl ?_
         refine rd_s rfl rfl trivial (ss_move rfl) rfl ?_
         refine rd_s rfl rfl trivial (ss_move rfl) rfl ?_
         obtain ⟨q32, h⟩ := h
         refine rd_s rfl rfl trivial (ss_idxR (f := (fun r => C.lst (ints r))) rfl rfl rfl q32) rfl ?_
         refine rd_l rfl rfl trivial (ss_loadR (f := (fun r => C.lst (ints r))) rfl rfl q31 rfl rfl) rfl ?_
         refine rd_l rfl rfl trivial (ss_loadR (f := (fun r => C.lst (ints r))) rfl rfl q32 rfl rfl) rfl ?_
         obtain ⟨q33, h⟩ := h
         refine rd_w rfl rfl trivial rfl rfl (ws_call (xs := [.tmp 75, .tmp 79]) (ids := [80]) rfl rfl rfl rfl (c_spec_l04Conjugate (el (o18_2 ++ ([conjI (el o18_2 v6_1) (el o18_2 v7_2)])) v7_2) (el (o18_2 ++ ([conjI (el o18_2 v6_1) (el o18_2 v7_2)])) v6_1) q33) rfl ?_ )
         rintro _ rfl
         refine ⟨rfl, ?_⟩
         refine rd_s rfl rfl trivial (ss_assign rfl) rfl ?_
         refine rd_nil ?_
         refine aw_seq ?_
         refine aw_gh (gh_to (n := 102) (σ' := [(80, ⟨ints (conjI (el (o18_2 ++ ([conjI (el o18_2 v6_1) (el o18_2 v7_2)])) v7_2) (el (o18_2 ++ ([conjI (el o18_2 v6_1) (el o18_2 v7_2)])) v6_1)), []⟩), (18, ⟨rows (o18_2 ++ ([conjI (el o18_2 v6_1) (el o18_2 v7_2)])), []⟩), (11, ⟨[.lst (bys o6_0), ci o6_1, cu o6_2], []⟩)]) (env' := [(3, .cell 11 0), (5, .ref 18), (6, .c (ci v6_1)), (7, .c (ci v7_2)), (9, .ref 80), (34, .c (ci (o18_1.length : Int))), (35, .c (cb (decide ((o18_1.length : Int) ≤ 12)))), (38, .cell 11 0), (39, .c (ci r6_0)), (40, .c (cb (decide (0 < r6_0)))), (50, .c (ci (o18_2.length : Int))), (51, .c (cb (decide ((o18_2.length : Int) ≤ 12))))]) rfl rfl ⟨rfl, rfl, rfl, rfl, rfl, rfl, rfl, rfl, rfl, rfl, rfl, rfl, trivial⟩) ?_
         refine aw_region ?_
         refine run_s (ss_move rfl) rfl ?_
         refine run_s (ss_move rfl) rfl ?_
         obtain ⟨q35, h⟩ := h
         refine run_w (ws_callR (xs := [.tmp 81, .tmp 82]) (cs := [.own (rows (o18_2 ++ ([conjI (el o18_2 v6_1) (el o18_2 v7_2)]))), .own (ints (conjI (el (o18_2 ++ ([conjI (el o18_2 v6_1) (el o18_2 v7_2)])) v7_2) (el (o18_2 ++ ([conjI (el o18_2 v6_1) (el o18_2 v7_2)])) v6_1)))]) (ids := []) rfl (.inr ⟨rfl, rfl⟩) rfl rfl (fz_cons (fz_own (fz_map (fun _ => rfl) _)) (fz_cons (fz_own (fz_map (fun _ => rfl) _)) fz_nil)) (c_spec_l04Find (o18_2 ++ ([conjI (el o18_2 v6_1) (el o18_2 v7_2)])) (conjI (el (o18_2 ++ ([conjI (el o18_2 v6_1) (el o18_2 v7_2)])) v7_2) (el (o18_2 ++ ([conjI (el o18_2 v6_1) (el o18_2 v7_2)])) v6_1)) q35) rfl ?_ )
         rintro _ rfl
         refine ⟨rfl, rfl, ?_⟩
         refine run_s (ss_lss rfl rfl) rfl ?_
         refine run_nil ?_
         refine aw_cond rfl (fun q37 => ?_) (fun q37 => ?_)
         ·replace h := h.1 (of_decide_eq_true q37)
          refine aw_gh (gh_to (n := 102) (σ' := [(80, ⟨ints (conjI (el (o18_2 ++ ([conjI (el o18_2 v6_1) (el o18_2 v7_2)])) v7_2) (el (o18_2 ++ ([conjI (el o18_2 v6_1) (el o18_2 v7_2)])) v6_1)), []⟩), (18, ⟨rows (o18_2 ++ ([conjI (el o18_2 v6_1) (el o18_2 v7_2)])), []⟩), (11, ⟨[.lst (bys o6_0), ci o6_1, cu o6_2], []⟩)]) (env' := [(3, .cell 11 0), (5, .ref 18), (6, .c (ci v6_1)), (7, .c (ci v7_2)), (9, .ref 80), (34, .c (ci (o18_1.length : Int))), (35, .c (cb (decide ((o18_1.length : Int) ≤ 12)))), (38, .cell 11 0), (39, .c (ci r6_0)), (40, .c (cb (decide (0 < r6_0)))), (50, .c (ci (o18_2.length : Int))), (51, .c (cb (decide ((o18_2.length : Int) ≤ 12))))]) rfl rfl ⟨rfl, rfl, rfl, rfl, rfl, rfl, rfl, rfl, rfl, rfl, rfl, rfl, trivial⟩) ?_
          refine aw_region ?_
          refine run_s (ss_move rfl) rfl ?_
          refine run_s (ss_move rfl) rfl ?_
          refine run_gh (gh_frzE (id := 80) ci rfl (fun _ => rfl)) ?_
          refine run_w (ws_buildSlice (id := 87) (ps := [(0, .tmp 86)]) rfl rfl (Nat.le_of_ble_eq_true rfl) rfl ⟨rfl, ?_⟩)
          obtain ⟨q38, h⟩ := h
          refine run_w (ws_app1 (fun r => C.lst (ints r)) (l := o18_2 ++ ([conjI (el o18_2 v6_1) (el o18_2 v7_2)])) (m := [conjI (el (o18_2 ++ ([conjI (el o18_2 v6_1) (el o18_2 v7_2)])) v7_2) (el (o18_2 ++ ([conjI (el o18_2 v6_1) (el o18_2 v7_2)])) v6_1)]) rfl rfl rfl rfl rfl (Nat.le_of_ble_eq_true rfl) q38 ⟨rfl, ?_⟩)
          refine run_s (ss_assign rfl) rfl ?_
          refine run_nil ?_
          refine aw_region ?_
          refine run_s (ss_move rfl) rfl ?_
          obtain ⟨q39, h⟩ := h
          refine run_s (ss_add rfl rfl q39) rfl ?_
          refine run_s (ss_assign rfl) rfl ?_
          refine run_nil ?_
          exact ⟨v7_2 + 1, (o18_2 ++ ([conjI (el o18_2 v6_1) (el o18_2 v7_2)])) ++ ([conjI (el (o18_2 ++ ([conjI (el o18_2 v6_1) (el o18_2 v7_2)])) v7_2) (el (o18_2 ++ ([conjI (el o18_2 v6_1) (el o18_2 v7_2)])) v6_1)]), ghe_to (n := 102) rfl rfl ⟨rfl, rfl, rfl, rfl, rfl, rfl, rfl, rfl, rfl, trivial⟩, h.1, h.2⟩
         ·replace h := h.2 (of_decide_eq_false q37)
          refine aw_skip ?_
          refine aw_region ?_
          refine run_s (ss_move rfl) rfl ?_
          obtain ⟨q40, h⟩ := h
          refine run_s (ss_add rfl rfl q40) rfl ?_
          refine run_s (ss_assign rfl) rfl ?_
          refine run_nil ?_
          exact ⟨v7_2 + 1, o18_2 ++ ([conjI (el o18_2 v6_1) (el o18_2 v7_2)]), ghe_step (gh_frzE (id := 80) ci rfl (fun _ => rfl)) (ghe_to (n := 102) rfl rfl ⟨rfl, rfl, rfl, rfl, rfl, rfl, rfl, rfl, rfl, trivial⟩), h.1, h.2⟩
        ·replace h := h.2 (of_decide_eq_false q29)
         refine aw_skip ?_
         refine aw_seq ?_
         refine aw_gh (gh_to (n := 102) (σ' := [(63, ⟨ints (conjI (el o18_2 v6_1) (el o18_2 v7_2)), []⟩), (18, ⟨rows o18_2, []⟩), (11, ⟨[.lst (bys o6_0), ci o6_1, cu o6_2], []⟩)]) (env' := [(3, .cell 11 0), (5, .ref 18), (6, .c (ci v6_1)), (7, .c (ci v7_2)), (34, .c (ci (o18_1.length : Int))), (35, .c (cb (decide ((o18_1.length : Int) ≤ 12)))), (38, .cell 11 0), (39, .c (ci r6_0)), (40, .c (cb (decide (0 < r6_0)))), (49, .ref 18), (50, .c (ci (o18_2.length : Int))), (51, .c (cb (decide ((o18_2.length : Int) ≤ 12))))]) rfl rfl ⟨rfl, rfl, rfl, rfl, rfl, rfl, rfl, rfl, rfl, rfl, rfl, rfl, trivial⟩) ?_
         refine aw_regionD (kd := kdl [0, 0, 0, 1, 0, 0, 0, 1, 2, 0]) (ord := [0, 1, 2, 4, 5, 6, 3, 7, 8, 9]) [] mixed (by kernel_rfl) ?_
         refine rd_s rfl rfl trivial (ss_move rfl) rfl ?_
         refine rd_s rfl rfl trivial (ss_move rfl) rfl ?_
         obtain ⟨q41, h⟩ := h
         refine rd_s rfl rfl trivial (ss_idxR (f := (fun r => C.lst (ints r))) rfl rfl rfl q41) rfl ?_
         refine rd_s rfl rfl trivial (ss_move rfl) rfl ?_
         refine rd_s rfl rfl trivial (ss_move rfl) rfl ?_
         obtain ⟨q42, h⟩ := h
         refine rd_s rfl rfl trivial (ss_idxR (f := (fun r => C.lst (ints r))) rfl rfl rfl q42) rfl ?_
         refine rd_l rfl rfl trivial (ss_loadR (f := (fun r => C.lst (ints r))) rfl rfl q41 rfl rfl) rfl ?_
         refine rd_l rfl rfl trivial (ss_loadR (f := (fun r => C.lst (ints r))) rfl rfl q42 rfl rfl) rfl ?_
         obtain ⟨q43, h⟩ := h
         refine rd_w rfl rfl trivial rfl rfl (ws_call (xs := [.tmp 75, .tmp 79]) (ids := [80]) rfl rfl rfl rfl (c_spec_l04Conjugate (el o18_2 v7_2) (el o18_2 v6_1) q43) rfl ?_ )
         rintro _ rfl
         refine ⟨rfl, ?_⟩
         refine rd_s rfl rfl trivial (ss_assign rfl) rfl ?_
         refine rd_nil ?_
         refine aw_seq ?_
         refine aw_gh (gh_to (n := 102) (σ' := [(80, ⟨ints (conjI (el o18_2 v7_2) (el o18_2 v6_1)), []⟩), (63, ⟨ints (conjI (el o18_2 v6_1) (el o18_2 v7_2)), []⟩), (18, ⟨rows o18_2, []⟩), (11, ⟨[.lst (bys o6_0), ci o6_1, cu o6_2], []⟩)]) (env' := [(3, .cell 11 0), (5, .ref 18), (6, .c (ci v6_1)), (7, .c (ci v7_2)), (9, .ref 80), (34, .c (ci (o18_1.length : Int))), (35, .c (cb (decide ((o18_1.length : Int) ≤ 12)))), (38, .cell 11 0), (39, .c (ci r6_0)), (40, .c (cb (decide (0 < r6_0)))), (49, .ref 18), (50, .c (ci (o18_2.length : Int))), (51, .c (cb (decide ((o18_2.length : Int) ≤ 12))))]) rfl rfl ⟨rfl, rfl, rfl, rfl, rfl, rfl, rfl, rfl, rfl, rfl, rfl, rfl, rfl, trivial⟩) ?_
         refine aw_region ?_
         refine run_s (ss_move rfl) rfl ?_
         refine run_s (ss_move rfl) rfl ?_
         obtain ⟨q45, h⟩ := h
         refine run_w (ws_callR (xs := [.tmp 81, .tmp 82]) (cs := [.own (rows o18_2), .own (ints (conjI (el o18_2 v7_2) (el o18_2 v6_1)))]) (ids := []) rfl (.inr ⟨rfl, rfl⟩) rfl rfl (fz_cons (fz_own (fz_map (fun _ => rfl) _)) (fz_cons (fz_own (fz_map (fun _ => rfl) _)) fz_nil)) (c_spec_l04Find o18_2 (conjI (el o18_2 v7_2) (el o18_2 v6_1)) q45) rfl ?_ )
         rintro _ rfl
         refine ⟨rfl, rfl, ?_⟩
         refine run_s (ss_lss rfl rfl) rfl ?_
         refine run_nil ?_
         refine aw_cond rfl (fun q47 => ?_) (fun q47 => ?_)
         ·replace h := h.1 (of_decide_eq_true q47)
          refine aw_gh (gh_to (n := 102) (σ' := [(80, ⟨ints (conjI (el o18_2 v7_2) (el o18_2 v6_1)), []⟩), (63, ⟨ints (conjI (el o18_2 v6_1) (el o18_2 v7_2)), []⟩), (18, ⟨rows o18_2, []⟩), (11, ⟨[.lst (bys o6_0), ci o6_1, cu o6_2], []⟩)]) (env' := [(3, .cell 11 0), (5, .ref 18), (6, .c (ci v6_1)), (7, .c (ci v7_2)), (9, .ref 80), (34, .c (ci (o18_1.length : Int))), (35, .c (cb (decide ((o18_1.length : Int) ≤ 12)))), (38, .cell 11 0), (39, .c (ci r6_0)), (40, .c (cb (decide (0 < r6_0)))), (49, .ref 18), (50, .c (ci (o18_2.length : Int))), (51, .c (cb (decide ((o18_2.length : Int) ≤ 12))))]) rfl rfl ⟨rfl, rfl, rfl, rfl, rfl, rfl, rfl, rfl, rfl, rfl, rfl, rfl, rfl, trivial⟩) ?_
          refine aw_region ?_
          refine run_s (ss_move rfl) rfl ?_
          refine run_s (ss_move rfl) rfl ?_
          refine run_gh (gh_frzE (id := 80) ci rfl (fun _ => rfl)) ?_
          refine run_w (ws_buildSlice (id := 87) (ps := [(0, .tmp 86)]) rfl rfl (Nat.le_of_ble_eq_true rfl) rfl ⟨rfl, ?_⟩)
          obtain ⟨q48, h⟩ := h
          refine run_w (ws_app1 (fun r => C.lst (ints r)) (l := o18_2) (m := [conjI (el o18_2 v7_2) (el o18_2 v6_1)]) rfl rfl rfl rfl rfl (Nat.le_of_ble_eq_true rfl) q48 ⟨rfl, ?_⟩)
          refine run_s (ss_assign rfl) rfl ?_
          refine run_nil ?_
          refine aw_region ?_
          refine run_s (ss_move rfl) rfl ?_
          obtain ⟨q49, h⟩ := h
          refine run_s (ss_add rfl rfl q49) rfl ?_
          refine run_s (ss_assign rfl) rfl ?_
          refine run_nil ?_
          exact ⟨v7_2 + 1, o18_2 ++ ([conjI (el o18_2 v7_2) (el o18_2 v6_1)]), ghe_step (gh_frzE (id := 63) ci rfl (fun _ => rfl)) (ghe_to (n := 102) rfl rfl ⟨rfl, rfl, rfl, rfl, rfl, rfl, rfl, rfl, rfl, trivial⟩), h.1, h.2⟩
         ·replace h := h.2 (of_decide_eq_false q47)
          refine aw_skip ?_
          refine aw_region ?_
          refine run_s (ss_move rfl) rfl ?_
          obtain ⟨q50, h⟩ := h
          refine run_s (ss_add rfl rfl q50) rfl ?_
          refine run_s (ss_assign rfl) rfl ?_
          refine run_nil ?_
          exact ⟨v7_2 + 1, o18_2, ghe_step (gh_frzE (id := 80) ci rfl (fun _ => rfl)) (ghe_step (gh_frzE (id := 63) ci rfl (fun _ => rfl)) (ghe_to (n := 102) rfl rfl ⟨rfl, rfl, rfl, rfl, rfl, rfl, rfl, rfl, rfl, trivial⟩)), h.1, h.2⟩
       ·replace h := h.2 (of_decide_eq_false q22)
        refine aw_exit ?_
        refine aw_gh (gh_to (n := 102) (σ' := [(18, ⟨rows o18_2, []⟩), (11, ⟨[.lst (bys o6_0), ci o6_1, cu o6_2], []⟩)]) (env' := [(3, .cell 11 0), (5, .ref 18), (6, .c (ci v6_1)), (34, .c (ci (o18_1.length : Int))), (35, .c (cb (decide ((o18_1.length : Int) ≤ 12)))), (38, .cell 11 0), (39, .c (ci r6_0)), (40, .c (cb (decide (0 < r6_0)))), (49, .ref 18), (50, .c (ci (o18_2.length : Int))), (51, .c (cb (decide ((o18_2.length : Int) ≤ 12))))]) rfl rfl ⟨rfl, rfl, rfl, rfl, rfl, rfl, rfl, rfl, rfl, rfl, rfl, trivial⟩) ?_
        refine aw_region ?_
        refine run_s (ss_move rfl) rfl ?_
        obtain ⟨q51, h⟩ := h
        refine run_s (ss_add rfl rfl q51) rfl ?_
        refine run_s (ss_assign rfl) rfl ?_
        refine run_nil ?_
        exact ⟨v6_1 + 1, o6_0, o6_1, o6_2, o18_2, ghe_to (n := 102) rfl rfl ⟨rfl, rfl, rfl, trivial⟩, h.1, h.2⟩
      ·replace h := h.2 (of_decide_eq_false q21)
       refine run_gf rfl rfl q21 rfl ?_
       refine run_gf rfl rfl q21 rfl ?_
       refine run_gf rfl rfl q21 rfl ?_
       refine run_s (ss_pickF rfl q21 rfl) rfl ?_
       refine run_nil ?_
       refine aw_cond rfl (fun q52 => ?_) (fun q52 => ?_)
       ·cases q52
       ·skip
        refine aw_exit ?_
        refine aw_gh (gh_to (n := 102) (σ' := [(18, ⟨rows o18_2, []⟩), (11, ⟨[.lst (bys o6_0), ci o6_1, cu o6_2], []⟩)]) (env' := [(3, .cell 11 0), (5, .ref 18), (6, .c (ci v6_1)), (34, .c (ci (o18_1.length : Int))), (35, .c (cb (decide ((o18_1.length : Int) ≤ 12)))), (38, .cell 11 0), (39, .c (ci r6_0)), (40, .c (cb (decide (0 < r6_0))))]) rfl rfl ⟨rfl, rfl, rfl, rfl, rfl, rfl, rfl, rfl, trivial⟩) ?_
        refine aw_region ?_
        refine run_s (ss_move rfl) rfl ?_
        obtain ⟨q53, h⟩ := h
        refine run_s (ss_add rfl rfl q53) rfl ?_
        refine run_s (ss_assign rfl) rfl ?_
        refine run_nil ?_
        exact ⟨v6_1 + 1, o6_0, o6_1, o6_2, o18_2, ghe_to (n := 102) rfl rfl ⟨rfl, rfl, rfl, trivial⟩, h.1, h.2⟩
     ·replace h := h.2 (of_decide_eq_false q19)
      refine aw_exit ?_
      refine aw_seq ?_
      refine aw_seq ?_
      refine aw_gh (gh_to (n := 102) (σ' := [(18, ⟨rows o18_1, []⟩), (11, ⟨[.lst (bys o6_0), ci o6_1, cu o6_2], []⟩)]) (env' := [(3, .cell 11 0), (5, .ref 18)]) rfl rfl ⟨rfl, rfl, trivial⟩) ?_
      refine aw_region ?_
      refine run_s (ss_move rfl) rfl ?_
      obtain ⟨q54, h⟩ := h
      refine run_w (ws_callM (xs := [.tmp 89, .const (.int .i64 (24))]) (cs := [.obox [.lst (bys o6_0), ci o6_1, cu o6_2], ci 24]) (ids := []) rfl (.inr ⟨rfl, rfl⟩) rfl rfl rfl (c_spec_l01Next o6_0 o6_1 o6_2 24 q54) rfl rfl ?_ )
      rintro _ _ ⟨r7_0, o7_0, o7_1, o7_2, q55, rfl, rfl⟩
      replace h := h r7_0 o7_0 o7_1 o7_2 q55
      refine ⟨rfl, rfl, ?_⟩
      refine run_nil ?_
      refine aw_block ?_
      refine aw_seq ?_
      refine aw_region ?_
      refine run_s (ss_eql rfl rfl) rfl ?_
      refine run_s (ss_assign rfl) rfl ?_
      refine run_nil ?_
      refine aw_cond rfl (fun q56 => ?_) (fun q56 => ?_)
      ·replace h := h.1 (of_decide_eq_true q56)
       refine aw_region ?_
       refine run_s (ss_move rfl) rfl ?_
       refine run_s (ss_move rfl) rfl ?_
       obtain ⟨q57, h⟩ := h
       refine run_s (ss_idxR (f := (fun r => C.lst (ints r))) rfl rfl rfl q57) rfl ?_
       refine run_s (ss_loadR (f := (fun r => C.lst (ints r))) rfl rfl q57 rfl rfl) rfl ?_
       refine run_w (ws_buildSlice (id := 97) (ps := [(0, .tmp 96)]) rfl rfl (Nat.le_of_ble_eq_true rfl) rfl ⟨rfl, ?_⟩)
       obtain ⟨q58, h⟩ := h
       refine run_w (ws_app1 (fun r => C.lst (ints r)) (l := o18_1) (m := [el o18_1 0]) rfl rfl rfl rfl rfl (Nat.le_of_ble_eq_true rfl) q58 ⟨rfl, ?_⟩)
       refine run_s (ss_assign rfl) rfl ?_
       refine run_nil ?_
       refine aw_seq ?_
       refine aw_gh (gh_to (n := 102) (σ' := [(18, ⟨rows (o18_1 ++ ([el o18_1 0])), []⟩), (11, ⟨[.lst (bys o7_0), ci o7_1, cu o7_2], []⟩)]) (env' := [(5, .ref 18)]) rfl rfl ⟨rfl, trivial⟩) ?_
       refine aw_region ?_
       refine run_s (ss_move rfl) rfl ?_
       refine run_s (ss_assign rfl) rfl ?_
       refine run_nil ?_
       refine aw_ret ?_
       exact retAF_mk (retv1 rfl (rv_tmp rfl)) rfl rfl ⟨_, (cle_refl _), _, h, rfl⟩
      ·replace h := h.2 (of_decide_eq_false q56)
       refine aw_seq ?_
       refine aw_region ?_
       refine run_s (ss_eql rfl rfl) rfl ?_
       refine run_s (ss_assign rfl) rfl ?_
       refine run_nil ?_
       refine aw_cond rfl (fun q59 => ?_) (fun q59 => ?_)
       ·replace h := h.1 (of_decide_eq_true q59)
        refine aw_gh (gh_to (n := 102) (σ' := [(18, ⟨rows o18_1, []⟩), (11, ⟨[.lst (bys o7_0), ci o7_1, cu o7_2], []⟩)]) (env' := [(5, .ref 18)]) rfl rfl ⟨rfl, trivial⟩) ?_
        refine aw_region ?_
        refine run_s (ss_assign rfl) rfl ?_
        refine run_nil ?_
        refine aw_seq ?_
        refine aw_region ?_
        refine run_s (ss_move rfl) rfl ?_
        refine run_s (ss_assign rfl) rfl ?_
        refine run_nil ?_
        refine aw_ret ?_
        exact retAF_mk (retv1 rfl (rv_tmp rfl)) rfl rfl ⟨_, cle_nilO, _, h, rfl⟩
       ·replace h := h.2 (of_decide_eq_false q59)
        refine aw_skip ?_
        refine aw_seq ?_
        refine aw_gh (gh_to (n := 102) (σ' := [(18, ⟨rows o18_1, []⟩), (11, ⟨[.lst (bys o7_0), ci o7_1, cu o7_2], []⟩)]) (env' := [(5, .ref 18)]) rfl rfl ⟨rfl, trivial⟩) ?_
        refine aw_region ?_
        refine run_s (ss_move rfl) rfl ?_
        refine run_s (ss_assign rfl) rfl ?_
        refine run_nil ?_
        refine aw_ret ?_
        exact retAF_mk (retv1 rfl (rv_tmp rfl)) rfl rfl ⟨_, (cle_refl _), _, h, rfl⟩
    ·replace h := h.2 (of_decide_eq_false q16)
     refine run_gf rfl rfl q16 rfl ?_
     refine run_gf rfl rfl q16 rfl ?_
     refine run_gf rfl rfl q16 rfl ?_
     refine run_s (ss_pickF rfl q16 rfl) rfl ?_
     refine run_nil ?_
     refine aw_cond rfl (fun q60 => ?_) (fun q60 => ?_)
     ·cases q60
     ·skip
      refine aw_exit ?_
      refine aw_seq ?_
      refine aw_seq ?_
      refine aw_gh (gh_to (n := 102) (σ' := [(18, ⟨rows o18_1, []⟩), (11, ⟨[.lst (bys f11_0_1), ci f11_1_1, cu f11_2_1], []⟩)]) (env' := [(3, .cell 11 0), (5, .ref 18)]) rfl rfl ⟨rfl, rfl, trivial⟩) ?_
      refine aw_region ?_
      refine run_s (ss_move rfl) rfl ?_
      obtain ⟨q61, h⟩ := h
      refine run_w (ws_callM (xs := [.tmp 89, .const (.int .i64 (24))]) (cs := [.obox [.lst (bys f11_0_1), ci f11_1_1, cu f11_2_1], ci 24]) (ids := []) rfl (.inr ⟨rfl, rfl⟩) rfl rfl rfl (c_spec_l01Next f11_0_1 f11_1_1 f11_2_1 24 q61) rfl rfl ?_ )
      rintro _ _ ⟨r8_0, o8_0, o8_1, o8_2, q62, rfl, rfl⟩
      replace h := h r8_0 o8_0 o8_1 o8_2 q62
      refine ⟨rfl, rfl, ?_⟩
      refine run_nil ?_
      refine aw_block ?_
      refine aw_seq ?_
      refine aw_region ?_
      refine run_s (ss_eql rfl rfl) rfl ?_
      refine run_s (ss_assign rfl) rfl ?_
      refine run_nil ?_
      refine aw_cond rfl (fun q63 => ?_) (fun q63 => ?_)
      ·replace h := h.1 (of_decide_eq_true q63)
       refine aw_region ?_
       refine run_s (ss_move rfl) rfl ?_
       refine run_s (ss_move rfl) rfl ?_
       obtain ⟨q64, h⟩ := h
       refine run_s (ss_idxR (f := (fun r => C.lst (ints r))) rfl rfl rfl q64) rfl ?_
       refine run_s (ss_loadR (f := (fun r => C.lst (ints r))) rfl rfl q64 rfl rfl) rfl ?_
       refine run_w (ws_buildSlice (id := 97) (ps := [(0, .tmp 96)]) rfl rfl (Nat.le_of_ble_eq_true rfl) rfl ⟨rfl, ?_⟩)
       obtain ⟨q65, h⟩ := h
       refine run_w (ws_app1 (fun r => C.lst (ints r)) (l := o18_1) (m := [el o18_1 0]) rfl rfl rfl rfl rfl (Nat.le_of_ble_eq_true rfl) q65 ⟨rfl, ?_⟩)
       refine run_s (ss_assign rfl) rfl ?_
       refine run_nil ?_
       refine aw_seq ?_
       refine aw_gh (gh_to (n := 102) (σ' := [(18, ⟨rows (o18_1 ++ ([el o18_1 0])), []⟩), (11, ⟨[.lst (bys o8_0), ci o8_1, cu o8_2], []⟩)]) (env' := [(5, .ref 18)]) rfl rfl ⟨rfl, trivial⟩) ?_
       refine aw_region ?_
       refine run_s (ss_move rfl) rfl ?_
       refine run_s (ss_assign rfl) rfl ?_
       refine run_nil ?_
       refine aw_ret ?_
       exact retAF_mk (retv1 rfl (rv_tmp rfl)) rfl rfl ⟨_, (cle_refl _), _, h, rfl⟩
      ·replace h := h.2 (of_decide_eq_false q63)
       refine aw_seq ?_
       refine aw_region ?_
       refine run_s (ss_eql rfl rfl) rfl ?_
       refine run_s (ss_assign rfl) rfl ?_
       refine run_nil ?_
       refine aw_cond rfl (fun q66 => ?_) (fun q66 => ?_)
       ·replace h := h.1 (of_decide_eq_true q66)
        refine aw_gh (gh_to (n := 102) (σ' := [(18, ⟨rows o18_1, []⟩), (11, ⟨[.lst (bys o8_0), ci o8_1, cu o8_2], []⟩)]) (env' := [(5, .ref 18)]) rfl rfl ⟨rfl, trivial⟩) ?_
        refine aw_region ?_
        refine run_s (ss_assign rfl) rfl ?_
        refine run_nil ?_
        refine aw_seq ?_
        refine aw_region ?_
        refine run_s (ss_move rfl) rfl ?_
        refine run_s (ss_assign rfl) rfl ?_
        refine run_nil ?_
        refine aw_ret ?_
        exact retAF_mk (retv1 rfl (rv_tmp rfl)) rfl rfl ⟨_, cle_nilO, _, h, rfl⟩
       ·replace h := h.2 (of_decide_eq_false q66)
        refine aw_skip ?_
        refine aw_seq ?_
        refine aw_gh (gh_to (n := 102) (σ' := [(18, ⟨rows o18_1, []⟩), (11, ⟨[.lst (bys o8_0), ci o8_1, cu o8_2], []⟩)]) (env' := [(5, .ref 18)]) rfl rfl ⟨rfl, trivial⟩) ?_
        refine aw_region ?_
        refine run_s (ss_move rfl) rfl ?_
        refine run_s (ss_assign rfl) rfl ?_
        refine run_nil ?_
        refine aw_ret ?_
        exact retAF_mk (retv1 rfl (rv_tmp rfl)) rfl rfl ⟨_, (cle_refl _), _, h, rfl⟩
   ·replace h := h.2 (of_decide_eq_false q15)
    refine run_gf rfl rfl q15 rfl ?_
    refine run_gf rfl rfl q15 rfl ?_
    refine run_gf rfl rfl q15 rfl ?_
    refine run_s (ss_pickF rfl q15 rfl) rfl ?_
    refine run_s (ss_move rfl) rfl ?_
    refine run_split (s := 37) rfl (fun q67 => ?_) (fun q67 => ?_)
    ·cases q67
    ·skip
     refine run_gf rfl rfl q67 rfl ?_
     refine run_gf rfl rfl q67 rfl ?_
     refine run_gf rfl rfl q67 rfl ?_
     refine run_s (ss_pickF rfl q67 rfl) rfl ?_
     refine run_nil ?_
     refine aw_cond rfl (fun q68 => ?_) (fun q68 => ?_)
     ·cases q68
     ·skip
      refine aw_exit ?_
      refine aw_seq ?_
      refine aw_seq ?_
      refine aw_gh (gh_to (n := 102) (σ' := [(18, ⟨rows o18_1, []⟩), (11, ⟨[.lst (bys f11_0_1), ci f11_1_1, cu f11_2_1], []⟩)]) (env' := [(3, .cell 11 0), (5, .ref 18)]) rfl rfl ⟨rfl, rfl, trivial⟩) ?_
      refine aw_region ?_
      refine run_s (ss_move rfl) rfl ?_
      obtain ⟨q69, h⟩ := h
      refine run_w (ws_callM (xs := [.tmp 89, .const (.int .i64 (24))]) (cs := [.obox [.lst (bys f11_0_1), ci f11_1_1, cu f11_2_1], ci 24]) (ids := []) rfl (.inr ⟨rfl, rfl⟩) rfl rfl rfl (c_spec_l01Next f11_0_1 f11_1_1 f11_2_1 24 q69) rfl rfl ?_ )
      rintro _ _ ⟨r9_0, o9_0, o9_1, o9_2, q70, rfl, rfl⟩
      replace h := h r9_0 o9_0 o9_1 o9_2 q70
      refine ⟨rfl, rfl, ?_⟩
      refine run_nil ?_
      refine aw_block ?_
      refine aw_seq ?_
      refine aw_region ?_
      refine run_s (ss_eql rfl rfl) rfl ?_
      refine run_s (ss_assign rfl) rfl ?_
      refine run_nil ?_
      refine aw_cond rfl (fun q71 => ?_) (fun q71 => ?_)
      ·replace h := h.1 (of_decide_eq_true q71)
       refine aw_region ?_
       refine run_s (ss_move rfl) rfl ?_
       refine run_s (ss_move rfl) rfl ?_
       obtain ⟨q72, h⟩ := h
       refine run_s (ss_idxR (f := (fun r => C.lst (ints r))) rfl rfl rfl q72) rfl ?_
       refine run_s (ss_loadR (f := (fun r => C.lst (ints r))) rfl rfl q72 rfl rfl) rfl ?_
       refine run_w (ws_buildSlice (id := 97) (ps := [(0, .tmp 96)]) rfl rfl (Nat.le_of_ble_eq_true rfl) rfl ⟨rfl, ?_⟩)
       obtain ⟨q73, h⟩ := h
       refine run_w (ws_app1 (fun r => C.lst (ints r)) (l := o18_1) (m := [el o18_1 0]) rfl rfl rfl rfl rfl (Nat.le_of_ble_eq_true rfl) q73 ⟨rfl, ?_⟩)
       refine run_s (ss_assign rfl) rfl ?_
       refine run_nil ?_
       refine aw_seq ?_
       refine aw_gh (gh_to (n := 102) (σ' := [(18, ⟨rows (o18_1 ++ ([el o18_1 0])), []⟩), (11, ⟨[.lst (bys o9_0), ci o9_1, cu o9_2], []⟩)]) (env' := [(5, .ref 18)]) rfl rfl ⟨rfl, trivial⟩) ?_
       refine aw_region ?_
       refine run_s (ss_move rfl) rfl ?_
       refine run_s (ss_assign rfl) rfl ?_
       refine run_nil ?_
       refine aw_ret ?_
       exact retAF_mk (retv1 rfl (rv_tmp rfl)) rfl rfl ⟨_, (cle_refl _), _, h, rfl⟩
      ·replace h := h.2 (of_decide_eq_false q71)
       refine aw_seq ?_
       refine aw_region ?_
       refine run_s (ss_eql rfl rfl) rfl ?_
       refine run_s (ss_assign rfl) rfl ?_
       refine run_nil ?_
       refine aw_cond rfl (fun q74 => ?_) (fun q74 => ?_)
       ·replace h := h.1 (of_decide_eq_true q74)
        refine aw_gh (gh_to (n := 102) (σ' := [(18, ⟨rows o18_1, []⟩), (11, ⟨[.lst (bys o9_0), ci o9_1, cu o9_2], []⟩)]) (env' := [(5, .ref 18)]) rfl rfl ⟨rfl, trivial⟩) ?_
        refine aw_region ?_
        refine run_s (ss_assign rfl) rfl ?_
        refine run_nil ?_
        refine aw_seq ?_
        refine aw_region ?_
        refine run_s (ss_move rfl) rfl ?_
        refine run_s (ss_assign rfl) rfl ?_
        refine run_nil ?_
        refine aw_ret ?_
        exact retAF_mk (retv1 rfl (rv_tmp rfl)) rfl rfl ⟨_, cle_nilO, _, h, rfl⟩
       ·replace h := h.2 (of_decide_eq_false q74)
        refine aw_skip ?_
        refine aw_seq ?_
        refine aw_gh (gh_to (n := 102) (σ' := [(18, ⟨rows o18_1, []⟩), (11, ⟨[.lst (bys o9_0), ci o9_1, cu o9_2], []⟩)]) (env' := [(5, .ref 18)]) rfl rfl ⟨rfl, trivial⟩) ?_
        refine aw_region ?_
        refine run_s (ss_move rfl) rfl ?_
        refine run_s (ss_assign rfl) rfl ?_
        refine run_nil ?_
        refine aw_ret ?_
        exact retAF_mk (retv1 rfl (rv_tmp rfl)) rfl rfl ⟨_, (cle_refl _), _, h, rfl⟩
  ·replace h := h.2 (of_decide_eq_false q10)
   refine aw_skip ?_
   refine aw_seq ?_
   refine aw_seq ?_
   refine aw_gh (gh_to (n := 102) (σ' := [(18, ⟨rows ([r3_0]), []⟩), (11, ⟨[.lst (bys o4_0), ci o4_1, cu o4_2], []⟩)]) (env' := [(3, .cell 11 0), (5, .ref 18)]) rfl rfl ⟨rfl, rfl, trivial⟩) ?_
   refine aw_region ?_
   refine run_s (ss_assign rfl) rfl ?_
   refine run_nil ?_
   refine aw_block ?_
   obtain ⟨H3, m3, q75, h⟩ := h
   refine aw_loop5 (fun (v6_1 : Int) (f11_0_1 : List Int) (f11_1_1 : Int) (f11_2_1 : Int) (o18_1 : List (List Int)) => ⟨[(18, ⟨rows o18_1, []⟩), (11, ⟨[.lst (bys f11_0_1), ci f11_1_1, cu f11_2_1], []⟩)], [(3, .cell 11 0), (5, .ref 18), (6, .c (ci v6_1))], 102⟩) H3 m3 ⟨0, o4_0, o4_1, o4_2, [r3_0], ghe_to (n := 102) rfl rfl ⟨rfl, rfl, rfl, trivial⟩, q75⟩ ?_
   rintro v6_1 f11_0_1 f11_1_1 f11_2_1 o18_1 q75
   replace h := h v6_1 f11_0_1 f11_1_1 f11_2_1 o18_1 q75
   refine aw_seq ?_
   refine aw_seq ?_
   refine aw_region ?_
   refine run_s (ss_move rfl) rfl ?_
   refine run_s (ss_move rfl) rfl ?_
   refine run_s (ss_lenR (f := (fun r => C.lst (ints r))) rfl rfl) rfl ?_
   refine run_s (ss_lss rfl rfl) rfl ?_
   refine run_s (ss_move rfl) rfl ?_
   refine run_split (s := 32) rfl (fun q76 => ?_) (fun q76 => ?_)
   ·replace h := h.1 (of_decide_eq_true q76)
    refine run_gt rfl rfl q76 ?_
    refine run_s (ss_move rfl) rfl ?_
    refine run_gt rfl rfl q76 ?_
    refine run_s (ss_lenR (f := (fun r => C.lst (ints r))) rfl rfl) rfl ?_
    refine run_gt rfl rfl q76 ?_
    refine run_s (ss_leq rfl rfl) rfl ?_
    refine run_s (ss_pickT rfl q76 rfl) rfl ?_
    refine run_s (ss_move rfl) rfl ?_
    refine run_split (s := 37) rfl (fun q77 => ?_) (fun q77 => ?_)
    ·replace h := h.1 (of_decide_eq_true q77)
     refine run_gt rfl rfl q77 ?_
     refine run_s (ss_move rfl) rfl ?_
     refine run_gt rfl rfl q77 ?_
     obtain ⟨q78, h⟩ := h
     refine run_w (ws_callM (xs := [.tmp 38, .const (.int .i64 (20))]) (cs := [.obox [.lst (bys f11_0_1), ci f11_1_1, cu f11_2_1], ci 20]) (ids := []) rfl (.inr ⟨rfl, rfl⟩) rfl rfl rfl (c_spec_l01Next f11_0_1 f11_1_1 f11_2_1 20 q78) rfl rfl ?_ )
     rintro _ _ ⟨r10_0, o10_0, o10_1, o10_2, q79, rfl, rfl⟩
     replace h := h r10_0 o10_0 o10_1 o10_2 q79
     refine ⟨rfl, rfl, ?_⟩
     refine run_gt rfl rfl q77 ?_
     refine run_s (ss_gtr rfl rfl) rfl ?_
     refine run_s (ss_pickT rfl q77 rfl) rfl ?_
     refine run_nil ?_
     refine aw_cond rfl (fun q80 => ?_) (fun q80 => ?_)
     ·replace h := h.1 (of_decide_eq_true q80)
      refine aw_skip ?_
      refine aw_seq ?_
      refine aw_block ?_
      refine aw_seq ?_
      refine aw_gh (gh_to (n := 102) (σ' := [(18, ⟨rows o18_1, []⟩), (11, ⟨[.lst (bys o10_0), ci o10_1, cu o10_2], []⟩)]) (env' := [(3, .cell 11 0), (5, .ref 18), (6, .c (ci v6_1)), (33, .ref 18), (34, .c (ci (o18_1.length : Int))), (35, .c (cb (decide ((o18_1.length : Int) ≤ 12)))), (38, .cell 11 0), (39, .c (ci r10_0)), (40, .c (cb (decide (0 < r10_0))))]) rfl rfl ⟨rfl, rfl, rfl, rfl, rfl, rfl, rfl, rfl, rfl, trivial⟩) ?_
      refine aw_region ?_
      refine run_s (ss_assign rfl) rfl ?_
      refine run_nil ?_
      refine aw_block ?_
      obtain ⟨H4, m4, q81, h⟩ := h
      refine aw_loop2 (fun (v7_2 : Int) (o18_2 : List (List Int)) => ⟨[(18, ⟨rows o18_2, []⟩), (11, ⟨[.lst (bys o10_0), ci o10_1, cu o10_2], []⟩)], [(3, .cell 11 0), (5, .ref 18), (6, .c (ci v6_1)), (7, .c (ci v7_2)), (34, .c (ci (o18_1.length : Int))), (35, .c (cb (decide ((o18_1.length : Int) ≤ 12)))), (38, .cell 11 0), (39, .c (ci r10_0)), (40, .c (cb (decide (0 < r10_0))))], 102⟩) H4 m4 ⟨0, o18_1, ghe_to (n := 102) rfl rfl ⟨rfl, rfl, rfl, rfl, rfl, rfl, rfl, rfl, rfl, trivial⟩, q81⟩ ?_
      rintro v7_2 o18_2 q81
      replace h := h v7_2 o18_2 q81
      refine aw_seq ?_
      refine aw_seq ?_
      refine aw_region ?_
      refine run_s (ss_move rfl) rfl ?_
      refine run_s (ss_move rfl) rfl ?_
      refine run_s (ss_lenR (f := (fun r => C.lst (ints r))) rfl rfl) rfl ?_
      refine run_s (ss_lss rfl rfl) rfl ?_
      refine run_s (ss_move rfl) rfl ?_
      refine run_split (s := 48) rfl (fun q82 => ?_) (fun q82 => ?_)
      ·replace h := h.1 (of_decide_eq_true q82)
       refine run_gt rfl rfl q82 ?_
       refine run_s (ss_move rfl) rfl ?_
       refine run_gt rfl rfl q82 ?_
       refine run_s (ss_lenR (f := (fun r => C.lst (ints r))) rfl rfl) rfl ?_
       refine run_gt rfl rfl q82 ?_
       refine run_s (ss_leq rfl rfl) rfl ?_
       refine run_s (ss_pickT rfl q82 rfl) rfl ?_
       refine run_nil ?_
       refine aw_cond rfl (fun q83 => ?_) (fun q83 => ?_)
       ·replace h := h.1 (of_decide_eq_true q83)
        refine aw_skip ?_
        refine aw_seq ?_
        refine aw_block ?_
        refine aw_seq ?_
        refine aw_seq ?_
        refine aw_gh (gh_to (n := 102) (σ' := [(18, ⟨rows o18_2, []⟩), (11, ⟨[.lst (bys o10_0), ci o10_1, cu o10_2], []⟩)]) (env' := [(3, .cell 11 0), (5, .ref 18), (6, .c (ci v6_1)), (7, .c (ci v7_2)), (34, .c (ci (o18_1.length : Int))), (35, .c (cb (decide ((o18_1.length : Int) ≤ 12)))), (38, .cell 11 0), (39, .c (ci r10_0)), (40, .c (cb (decide (0 < r10_0)))), (49, .ref 18), (50, .c (ci (o18_2.length : Int))), (51, .c (cb (decide ((o18_2.length : Int) ≤ 12))))]) rfl rfl ⟨rfl, rfl, rfl, rfl, rfl, rfl, rfl, rfl, rfl, rfl, rfl, rfl, trivial⟩) ?_
        refine aw_regionD (kd := kdl [0, 0, 0, 1, 0, 0, 0, 1, 2, 0]) (ord := [0, 1, 2, 4, 5, 6, 3, 7, 8, 9]) [] mixed (by kernel_rfl) ?_
        refine rd_s rfl rfl trivial (ss_move rfl) rfl ?_
        refine rd_s rfl rfl trivial (ss_move rfl) rfl ?_
        obtain ⟨q84, h⟩ := h
        refine rd_s rfl rfl trivial (ss_idxR (f := (fun r => C.lst (ints r))) rfl rfl rfl q84) rfl ?_
        refine rd_s rfl rfl trivial (ss_move rfl) rfl ?_
        refine rd_s rfl rfl trivial (ss_move rfl) rfl ?_
        obtain ⟨q85, h⟩ := h
        refine rd_s rfl rfl trivial (ss_idxR (f := (fun r => C.lst (ints r))) rfl rfl rfl q85) rfl ?_
        refine rd_l rfl rfl trivial (ss_loadR (f := (fun r => C.lst (ints r))) rfl rfl q84 rfl rfl) rfl ?_
        refine rd_l rfl rfl trivial (ss_loadR (f := (fun r => C.lst (ints r))) rfl rfl q85 rfl rfl) rfl ?_
        obtain ⟨q86, h⟩ := h
        refine rd_w rfl rfl trivial rfl rfl (ws_call (xs := [.tmp 58, .tmp 62]) (ids := [63]) rfl rfl rfl rfl (c_spec_l04Conjugate (el o18_2 v6_1) (el o18_2 v7_2) q86) rfl ?_ )
        rintro _ rfl
        refine ⟨rfl, ?_⟩
        refine rd_s rfl rfl trivial (ss_assign rfl) rfl ?_
        refine rd_nil ?_
        refine aw_seq ?_
        refine aw_gh (gh_to (n := 102) (σ' := [(63, ⟨ints (conjI (el o18_2 v6_1) (el o18_2 v7_2)), []⟩), (18, ⟨rows o18_2, []⟩), (11, ⟨[.lst (bys o10_0), ci o10_1, cu o10_2], []⟩)]) (env' := [(3, .cell 11 0), (5, .ref 18), (6, .c (ci v6_1)), (7, .c (ci v7_2)), (8, .ref 63), (34, .c (ci (o18_1.length : Int))), (35, .c (cb (decide ((o18_1.length : Int) ≤ 12)))), (38, .cell 11 0), (39, .c (ci r10_0)), (40, .c (cb (decide (0 < r10_0)))), (49, .ref 18), (50, .c (ci (o18_2.length : Int))), (51, .c (cb (decide ((o18_2.length : Int) ≤ 12))))]) rfl rfl ⟨rfl, rfl, rfl, rfl, rfl, rfl, rfl, rfl, rfl, rfl, rfl, rfl, rfl, trivial⟩) ?_
        refine aw_region ?_
        refine run_s (ss_move rfl) rfl ?_
        refine run_s (ss_move rfl) rfl ?_
        obtain ⟨q88, h⟩ := h
        refine run_w (ws_callR (xs := [.tmp 64, .tmp 65]) (cs := [.own (rows o18_2), .own (ints (conjI (el o18_2 v6_1) (el o18_2 v7_2)))]) (ids := []) rfl (.inr ⟨rfl, rfl⟩) rfl rfl (fz_cons (fz_own (fz_map (fun _ => rfl) _)) (fz_cons (fz_own (fz_map (fun _ => rfl) _)) fz_nil)) (c_spec_l04Find o18_2 (conjI (el o18_2 v6_1) (el o18_2 v7_2)) q88) rfl ?_ )
        rintro _ rfl
        refine ⟨rfl, rfl, ?_⟩
        refine run_s (ss_lss rfl rfl) rfl ?_
        refine run_nil ?_
        refine aw_cond rfl (fun q90 => ?_) (fun q90 => ?_)
        ·replace h := h.1 (of_decide_eq_true q90)
         refine aw_gh (gh_to (n := 102) (σ' := [(63, ⟨ints (conjI (el o18_2 v6_1) (el o18_2 v7_2)), []⟩), (18, ⟨rows o18_2, []⟩), (11, ⟨[.lst (bys o10_0), ci o10_1, cu o10_2], []⟩)]) (env' := [(3, .cell 11 0), (5, .ref 18), (6, .c (ci v6_1)), (7, .c (ci v7_2)), (8, .ref 63), (34, .c (ci (o18_1.length : Int))), (35, .c (cb (decide ((o18_1.length : Int) ≤ 12)))), (38, .cell 11 0), (39, .c (ci r10_0)), (40, .c (cb (decide (0 < r10_0)))), (49, .ref 18), (50, .c (ci (o18_2.length : Int))), (51, .c (cb (decide ((o18_2.length : Int) ≤ 12))))]) rfl rfl ⟨rfl, rfl, rfl, rfl, rfl, rfl, rfl, rfl, rfl, rfl, rfl, rfl, rfl, trivial⟩) ?_
         refine aw_region ?_
         refine run_s (ss_move rfl) rfl ?_
         refine run_s (ss_move rfl) rfl ?_
         refine run_gh (gh_frzE (id := 63) ci rfl (fun _ => rfl)) ?_
         refine run_w (ws_buildSlice (id := 70) (ps := [(0, .tmp 69)]) rfl rfl (Nat.le_of_ble_eq_true rfl) rfl ⟨rfl, ?_⟩)
         obtain ⟨q91, h⟩ := h
         refine run_w (ws_app1 (fun r => C.lst (ints r)) (l := o18_2) (m := [conjI (el o18_2 v6_1) (el o18_2 v7_2)]) rfl rfl rfl rfl rfl (Nat.le_of_ble_eq_true rfl) q91 ⟨rfl, ?_⟩)
         refine run_s (ss_assign rfl) rfl ?_
         refine run_nil ?_
         refine aw_seq ?_
         refine aw_gh (gh_to (n := 102) (σ' := [(18, ⟨rows (o18_2 ++ ([conjI (el o18_2 v6_1) (el o18_2 v7_2)])), []⟩), (11, ⟨[.lst (bys o10_0), ci o10_1, cu o10_2], []⟩)]) (env' := [(3, .cell 11 0), (5, .ref 18), (6, .c (ci v6_1)), (7, .c (ci v7_2)), (34, .c (ci (o18_1.length : Int))), (35, .c (cb (decide ((o18_1.length : Int) ≤ 12)))), (38, .cell 11 0), (39, .c (ci r10_0)), (40, .c (cb (decide (0 < r10_0)))), (50, .c (ci (o18_2.length : Int))), (51, .c (cb (decide ((o18_2.length : Int) ≤ 12))))]) rfl rfl ⟨rfl, rfl, rfl, rfl, rfl, rfl, rfl, rfl, rfl, rfl, rfl, trivial⟩) ?_
         refine aw_regionD (kd := kdl [0, 0, 0, 1, 0, 0, 0, 1, 2, 0]) (ord := [0, 1, 2, 4, 5, 6, 3, 7, 8, 9]) [] mixed (by kernel_rfl) ?_
         refine rd_s rfl rfl trivial (ss_move rfl) rfl ?_
         refine rd_s rfl rfl trivial (ss_move rfl) rfl ?_
         obtain ⟨q92, h⟩ := h
         refine rd_s rfl rfl trivial (ss_idxR (f := (fun r => C.lst (ints r))) rfl rfl rfl q92) rfl ?_
         refine rd_s rfl rfl trivial (ss_move rfl) rfl ?_
         refine rd_s rfl rfl trivial (ss_move rfl) rfl ?_
         obtain ⟨q93, h⟩ := h
         refine rd_s rfl rfl trivial (ss_idxR (f := (fun r => C.lst (ints r))) rfl rfl rfl q93) rfl ?_
         refine rd_l rfl rfl trivial (ss_loadR (f := (fun r => C.lst (ints r))) rfl rfl q92 rfl rfl) rfl ?_
         refine rd_l rfl rfl trivial (ss_loadR (f := (fun r => C.lst (ints r))) rfl rfl q93 rfl rfl) rfl ?_
         obtain ⟨q94, h⟩ := h
         refine rd_w rfl rfl trivial rfl rfl (ws_call (xs := [.tmp 75, .tmp 79]) (ids := [80]) rfl rfl rfl rfl (c_spec_l04Conjugate (el (o18_2 ++ ([conjI (el o18_2 v6_1) (el o18_2 v7_2)])) v7_2) (el (o18_2 ++ ([conjI (el o18_2 v6_1) (el o18_2 v7_2)])) v6_1) q94) rfl ?_ )
         rintro _ rfl
         refine ⟨rfl, ?_⟩
         refine rd_s rfl rfl trivial (ss_assign rfl) rfl ?_
         refine rd_nil ?_
         refine aw_seq ?_
         refine aw_gh (gh_to (n := 102) (σ' := [(80, ⟨ints (conjI (el (o18_2 ++ ([conjI (el o18_2 v6_1) (el o18_2 v7_2)])) v7_2) (el (o18_2 ++ ([conjI (el o18_2 v6_1) (el o18_2 v7_2)])) v6_1)), []⟩), (18, ⟨rows (o18_2 ++ ([conjI (el o18_2 v6_1) (el o18_2 v7_2)])), []⟩), (11, ⟨[.lst (bys o10_0), ci o10_1, cu o10_2], []⟩)]) (env' := [(3, .cell 11 0), (5, .ref 18), (6, .c (ci v6_1)), (7, .c (ci v7_2)), (9, .ref 80), (34, .c (ci (o18_1.length : Int))), (35, .c (cb (decide ((o18_1.length : Int) ≤ 12)))), (38, .cell 11 0), (39, .c (ci r10_0)), (40, .c (cb (decide (0 < r10_0)))), (50, .c (ci (o18_2.length : Int))), (51, .c (cb (decide ((o18_2.length : Int) ≤ 12))))]) rfl rfl ⟨rfl, rfl, rfl, rfl, rfl, rfl, rfl, rfl, rfl, rfl, rfl, rfl, trivial⟩) ?_
         refine aw_region ?_
         refine run_s (ss_move rfl) rfl ?_
         refine run_s (ss_move rfl) rfl ?_
         obtain ⟨q96, h⟩ := h
         refine run_w (ws_callR (xs := [.tmp 81, .tmp 82]) (cs := [.own (rows (o18_2 ++ ([conjI (el o18_2 v6_1) (el o18_2 v7_2)]))), .own (ints (conjI (el (o18_2 ++ ([conjI (el o18_2 v6_1) (el o18_2 v7_2)])) v7_2) (el (o18_2 ++ ([conjI (el o18_2 v6_1) (el o18_2 v7_2)])) v6_1)))]) (ids := []) rfl (.inr ⟨rfl, rfl⟩) rfl rfl (fz_cons (fz_own (fz_map (fun _ => rfl) _)) (fz_cons (fz_own (fz_map (fun _ => rfl) _)) fz_nil)) (c_spec_l04Find (o18_2 ++ ([conjI (el o18_2 v6_1) (el o18_2 v7_2)])) (conjI (el (o18_2 ++ ([conjI (el o18_2 v6_1) (el o18_2 v7_2)])) v7_2) (el (o18_2 ++ ([conjI (el o18_2 v6_1) (el o18_2 v7_2)])) v6_1)) q96) rfl ?_ )
         rintro _ rfl
         refine ⟨rfl, rfl, ?_⟩
         refine run_s (ss_lss rfl rfl) rfl ?_
         refine run_nil ?_
         refine aw_cond rfl (fun q98 => ?_) (fun q98 => ?_)
         ·replace h := h.1 (of_decide_eq_true q98)
          refine aw_gh (gh_to (n := 102) (σ' := [(80, ⟨ints (conjI (el (o18_2 ++ ([conjI (el o18_2 v6_1) (el o18_2 v7_2)])) v7_2) (el (o18_2 ++ ([conjI (el o18_2 v6_1) (el o18_2 v7_2)])) v6_1)), []⟩), (18, ⟨rows (o18_2 ++ ([conjI (el o18_2 v6_1) (el o18_2 v7_2)])), []⟩), (11, ⟨[.lst (bys o10_0), ci o10_1, cu o10_2], []⟩)]) (env' := [(3, .cell 11 0), (5, .ref 18), (6, .c (ci v6_1)), (7, .c (ci v7_2)), (9, .ref 80), (34, .c (ci (o18_1.length : Int))), (35, .c (cb (decide ((o18_1.length : Int) ≤ 12)))), (38, .cell 11 0), (39, .c (ci r10_0)), (40, .c (cb (decide (0 < r10_0)))), (50, .c (ci (o18_2.length : Int))), (51, .c (cb (decide ((o18_2.length : Int) ≤ 12))))]) rfl rfl ⟨rfl, rfl, rfl, rfl, rfl, rfl, rfl, rfl, rfl, rfl, rfl, rfl, trivial⟩) ?_
          refine aw_region ?_
          refine run_s (ss_move rfl) rfl ?_
          refine run_s (ss_move rfl) rfl ?_
          refine run_gh (gh_frzE (id := 80) ci rfl (fun _ => rfl)) ?_
          refine run_w (ws_buildSlice (id := 87) (ps := [(0, .tmp 86)]) rfl rfl (Nat.le_of_ble_eq_true rfl) rfl ⟨rfl, ?_⟩)
          obtain ⟨q99, h⟩ := h
          refine run_w (ws_app1 (fun r => C.lst (ints r)) (l := o18_2 ++ ([conjI (el o18_2 v6_1) (el o18_2 v7_2)])) (m := [conjI (el (o18_2 ++ ([conjI (el o18_2 v6_1) (el o18_2 v7_2)])) v7_2) (el (o18_2 ++ ([conjI (el o18_2 v6_1) (el o18_2 v7_2)])) v6_1)]) rfl rfl rfl rfl rfl (Nat.le_of_ble_eq_true rfl) q99 ⟨rfl, ?_⟩)
          refine run_s (ss_assign rfl) rfl ?_
          refine run_nil ?_
          refine aw_region ?_
          refine run_s (ss_move rfl) rfl ?_
          obtain ⟨q100, h⟩ := h
          refine run_s (ss_add rfl rfl q100) rfl ?_
          refine run_s (ss_assign rfl) rfl ?_
          refine run_nil ?_
          exact ⟨v7_2 + 1, (o18_2 ++ ([conjI (el o18_2 v6_1) (el o18_2 v7_2)])) ++ ([conjI (el (o18_2 ++ ([conjI (el o18_2 v6_1) (el o18_2 v7_2)])) v7_2) (el (o18_2 ++ ([conjI (el o18_2 v6_1) (el o18_2 v7_2)])) v6_1)]), ghe_to (n := 102) rfl rfl ⟨rfl, rfl, rfl, rfl, rfl, rfl, rfl, rfl, rfl, trivial⟩, h.1, h.2⟩
         ·replace h := h.2 (of_decide_eq_false q98)
          refine aw_skip ?_
          refine aw_region ?_
          refine run_s (ss_move rfl) rfl ?_
          obtain ⟨q101, h⟩ := h
          refine run_s (ss_add rfl rfl q101) rfl ?_
          refine run_s (ss_assign rfl) rfl ?_
          refine run_nil ?_
          exact ⟨v7_2 + 1, o18_2 ++ ([conjI (el o18_2 v6_1) (el o18_2 v7_2)]), ghe_step (gh_frzE (id := 80) ci rfl (fun _ => rfl)) (ghe_to (n := 102) rfl rfl ⟨rfl, rfl, rfl, rfl, rfl, rfl, rfl, rfl, rfl, trivial⟩), h.1, h.2⟩
        ·replace h := h.2 (of_decide_eq_false q90)
         refine aw_skip ?_
         refine aw_seq ?_
         refine aw_gh (gh_to (n := 102) (σ' := [(63, ⟨ints (conjI (el o18_2 v6_1) (el o18_2 v7_2)), []⟩), (18, ⟨rows o18_2, []⟩), (11, ⟨[.lst (bys o10_0), ci o10_1, cu o10_2], []⟩)]) (env' := [(3, .cell 11 0), (5, .ref 18), (6, .c (ci v6_1)), (7, .c (ci v7_2)), (34, .c (ci (o18_1.length : Int))), (35, .c (cb (decide ((o18_1.length : Int) ≤ 12)))), (38, .cell 11 0), (39, .c (ci r10_0)), (40, .c (cb (decide (0 < r10_0)))), (49, .ref 18), (50, .c (ci (o18_2.length : Int))), (51, .c (cb (decide ((o18_2.length : Int) ≤ 12))))]) rfl rfl ⟨rfl, rfl, rfl, rfl, rfl, rfl, rfl, rfl, rfl, rfl, rfl, rfl, trivial⟩) ?_
         refine aw_regionD (kd := kdl [0, 0, 0, 1, 0, 0, 0, 1, 2, 0]) (ord := [0, 1, 2, 4, 5, 6, 3, 7, 8, 9]) [] mixed (by kernel_rfl) ?_
         refine rd_s rfl rfl trivial (ss_move rfl) rfl ?_
         refine rd_s rfl rfl trivial (ss_move rfl) rfl ?_
         obtain ⟨q102, h⟩ := h
         refine rd_s rfl rfl trivial (ss_idxR (f := (fun r => C.lst (ints r))) rfl rfl rfl q102) rfl ?_
         refine rd_s rfl rfl trivial (ss_move rfl) rfl ?_
         refine rd_s rfl rfl trivial (ss_move rfl) rfl ?_
         obtain ⟨q103, h⟩ := h
         refine rd_s rfl rfl trivial (ss_idxR (f := (fun r => C.lst (ints r))) rfl rfl rfl q103) rfl ?_
         refine rd_l rfl rfl trivial (ss_loadR (f := (fun r => C.lst (ints r))) rfl rfl q102 rfl rfl) rfl ?_
         refine rd_l rfl rfl trivial (ss_loadR (f := (fun r => C.lst (ints r))) rfl rfl q103 rfl rfl) rfl ?_
         obtain ⟨q104, h⟩ := h
         refine rd_w rfl rfl trivial rfl rfl (ws_call (xs := [.tmp 75, .tmp 79]) (ids := [80]) rfl rfl rfl rfl (c_spec_l04Conjugate (el o18_2 v7_2) (el o18_2 v6_1) q104) rfl ?_ )
         rintro _ rfl
         refine ⟨rfl, ?_⟩
         refine rd_s rfl rfl trivial (ss_assign rfl) rfl ?_
         refine rd_nil ?_
         refine aw_seq ?_
         refine aw_gh (gh_to (n := 102) (σ' := [(80, ⟨ints (conjI (el o18_2 v7_2) (el o18_2 v6_1)), []⟩), (63, ⟨ints (conjI (el o18_2 v6_1) (el o18_2 v7_2)), []⟩), (18, ⟨rows o18_2, []⟩), (11, ⟨[.lst (bys o10_0), ci o10_1, cu o10_2], []⟩)]) (env' := [(3, .cell 11 0), (5, .ref 18), (6, .c (ci v6_1)), (7, .c (ci v7_2)), (9, .ref 80), (34, .c (ci (o18_1.length : Int))), (35, .c (cb (decide ((o18_1.length : Int) ≤ 12)))), (38, .cell 11 0), (39, .c (ci r10_0)), (40, .c (cb (decide (0 < r10_0)))), (49, .ref 18), (50, .c (ci (o18_2.length : Int))), (51, .c (cb (decide ((o18_2.length : Int) ≤ 12))))]) rfl rfl ⟨rfl, rfl, rfl, rfl, rfl, rfl, rfl, rfl, rfl, rfl, rfl, rfl, rfl, trivial⟩) ?_
         refine aw_region ?_
         refine run_s (ss_move rfl) rfl ?_
         refine run_s (ss_move rfl) rfl ?_
         obtain ⟨q106, h⟩ := h
         refine run_w (ws_callR (xs := [.tmp 81, .tmp 82]) (cs := [.own (rows o18_2), .own (ints (conjI (el o18_2 v7_2) (el o18_2 v6_1)))]) (ids := []) rfl (.inr ⟨rfl, rfl⟩) rfl rfl (fz_cons (fz_own (fz_map (fun _ => rfl) _)) (fz_cons (fz_own (fz_map (fun _ => rfl) _)) fz_nil)) (c_spec_l04Find o18_2 (conjI (el o18_2 v7_2) (el o18_2 v6_1)) q106) rfl ?_ )
         rintro _ rfl
         refine ⟨rfl, rfl, ?_⟩
         refine run_s (ss_lss rfl rfl) rfl ?_
         refine run_nil ?_
         refine aw_cond rfl (fun q108 => ?_) (fun q108 => ?_)
         ·replace h := h.1 (of_decide_eq_true q108)
          refine aw_gh (gh_to (n := 102) (σ' := [(80, ⟨ints (conjI (el o18_2 v7_2) (el o18_2 v6_1)), []⟩), (63, ⟨ints (conjI (el o18_2 v6_1) (el o18_2 v7_2)), []⟩), (18, ⟨rows o18_2, []⟩), (11, ⟨[.lst (bys o10_0), ci o10_1, cu o10_2], []⟩)]) (env' := [(3, .cell 11 0), (5, .ref 18), (6, .c (ci v6_1)), (7, .c (ci v7_2)), (9, .ref 80), (34, .c (ci (o18_1.length : Int))), (35, .c (cb (decide ((o18_1.length : Int) ≤ 12)))), (38, .cell 11 0), (39, .c (ci r10_0)), (40, .c (cb (decide (0 < r10_0)))), (49, .ref 18), (50, .c (ci (o18_2.length : Int))), (51, .c (cb (decide ((o18_2.length : Int) ≤ 12))))]) rfl rfl ⟨rfl, rfl, rfl, rfl, rfl, rfl, rfl, rfl, rfl, rfl, rfl, rfl, rfl, trivial⟩) ?_
          refine aw_region ?_
          refine run_s (ss_move rfl) rfl ?_
          refine run_s (ss_move rfl) rfl ?_
          refine run_gh (gh_frzE (id := 80) ci rfl (fun _ => rfl)) ?_
          refine run_w (ws_buildSlice (id := 87) (ps := [(0, .tmp 86)]) rfl rfl (Nat.le_of_ble_eq_true rfl) rfl ⟨rfl, ?_⟩)
          obtain ⟨q109, h⟩ := h
          refine run_w (ws_app1 (fun r => C.lst (ints r)) (l := o18_2) (m := [conjI (el o18_2 v7_2) (el o18_2 v6_1)]) rfl rfl rfl rfl rfl (Nat.le_of_ble_eq_true rfl) q109 ⟨rfl, ?_⟩)
          refine run_s (ss_assign rfl) rfl ?_
          refine run_nil ?_
          refine aw_region ?_
          refine run_s (ss_move rfl) rfl ?_
          obtain ⟨q110, h⟩ := h
          refine run_s (ss_add rfl rfl q110) rfl ?_
          refine run_s (ss_assign rfl) rfl ?_
          refine run_nil ?_
          exact ⟨v7_2 + 1, o18_2 ++ ([conjI (el o18_2 v7_2) (el o18_2 v6_1)]), ghe_step (gh_frzE (id := 63) ci rfl (fun _ => rfl)) (ghe_to (n := 102) rfl rfl ⟨rfl, rfl, rfl, rfl, rfl, rfl, rfl, rfl, rfl, trivial⟩), h.1, h.2⟩
         ·replace h := h.2 (of_decide_eq_false q108)
          refine aw_skip ?_
          refine aw_region ?_
          refine run_s (ss_move rfl) rfl ?_
          obtain ⟨q111, h⟩ := h
          refine run_s (ss_add rfl rfl q111) rfl ?_
          refine run_s (ss_assign rfl) rfl ?_
          refine run_nil ?_
          exact ⟨v7_2 + 1, o18_2, ghe_step (gh_frzE (id := 80) ci rfl (fun _ => rfl)) (ghe_step (gh_frzE (id := 63) ci rfl (fun _ => rfl)) (ghe_to (n := 102) rfl rfl ⟨rfl, rfl, rfl, rfl, rfl, rfl, rfl, rfl, rfl, trivial⟩)), h.1, h.2⟩
       ·replace h := h.2 (of_decide_eq_false q83)
        refine aw_exit ?_
        refine aw_gh (gh_to (n := 102) (σ' := [(18, ⟨rows o18_2, []⟩), (11, ⟨[.lst (bys o10_0), ci o10_1, cu o10_2], []⟩)]) (env' := [(3, .cell 11 0), (5, .ref 18), (6, .c (ci v6_1)), (34, .c (ci (o18_1.length : Int))), (35, .c (cb (decide ((o18_1.length : Int) ≤ 12)))), (38, .cell 11 0), (39, .c (ci r10_0)), (40, .c (cb (decide (0 < r10_0)))), (49, .ref 18), (50, .c (ci (o18_2.length : Int))), (51, .c (cb (decide ((o18_2.length : Int) ≤ 12))))]) rfl rfl ⟨rfl, rfl, rfl, rfl, rfl, rfl, rfl, rfl, rfl, rfl, rfl, trivial⟩) ?_
        refine aw_region ?_
        refine run_s (ss_move rfl) rfl ?_
        obtain ⟨q112, h⟩ := h
        refine run_s (ss_add rfl rfl q112) rfl ?_
        refine run_s (ss_assign rfl) rfl ?_
        refine run_nil ?_
        exact ⟨v6_1 + 1, o10_0, o10_1, o10_2, o18_2, ghe_to (n := 102) rfl rfl ⟨rfl, rfl, rfl, trivial⟩, h.1, h.2⟩
      ·replace h := h.2 (of_decide_eq_false q82)
       refine run_gf rfl rfl q82 rfl ?_
       refine run_gf rfl rfl q82 rfl ?_
       refine run_gf rfl rfl q82 rfl ?_
       refine run_s (ss_pickF rfl q82 rfl) rfl ?_
       refine run_nil ?_
       refine aw_cond rfl (fun q113 => ?_) (fun q113 => ?_)
       ·cases q113
       ·skip
        refine aw_exit ?_
        refine aw_gh (gh_to (n := 102) (σ' := [(18, ⟨rows o18_2, []⟩), (11, ⟨[.lst (bys o10_0), ci o10_1, cu o10_2], []⟩)]) (env' := [(3, .cell 11 0), (5, .ref 18), (6, .c (ci v6_1)), (34, .c (ci (o18_1.length : Int))), (35, .c (cb (decide ((o18_1.length : Int) ≤ 12)))), (38, .cell 11 0), (39, .c (ci r10_0)), (40, .c (cb (decide (0 < r10_0))))]) rfl rfl ⟨rfl, rfl, rfl, rfl, rfl, rfl, rfl, rfl, trivial⟩) ?_
        refine aw_region ?_
        refine run_s (ss_move rfl) rfl ?_
        obtain ⟨q114, h⟩ := h
        refine run_s (ss_add rfl rfl q114) rfl ?_
        refine run_s (ss_assign rfl) rfl ?_
        refine run_nil ?_
        exact ⟨v6_1 + 1, o10_0, o10_1, o10_2, o18_2, ghe_to (n := 102) rfl rfl ⟨rfl, rfl, rfl, trivial⟩, h.1, h.2⟩
     ·replace h := h.2 (of_decide_eq_false q80)
      refine aw_exit ?_
      refine aw_seq ?_
      refine aw_seq ?_
      refine aw_gh (gh_to (n := 102) (σ' := [(18, ⟨rows o18_1, []⟩), (11, ⟨[.lst (bys o10_0), ci o10_1, cu o10_2], []⟩)]) (env' := [(3, .cell 11 0), (5, .ref 18)]) rfl rfl ⟨rfl, rfl, trivial⟩) ?_
      refine aw_region ?_
      refine run_s (ss_move rfl) rfl ?_
      obtain ⟨q115, h⟩ := h
      refine run_w (ws_callM (xs := [.tmp 89, .const (.int .i64 (24))]) (cs := [.obox [.lst (bys o10_0), ci o10_1, cu o10_2], ci 24]) (ids := []) rfl (.inr ⟨rfl, rfl⟩) rfl rfl rfl (c_spec_l01Next o10_0 o10_1 o10_2 24 q115) rfl rfl ?_ )
      rintro _ _ ⟨r11_0, o11_0, o11_1, o11_2, q116, rfl, rfl⟩
      replace h := h r11_0 o11_0 o11_1 o11_2 q116
      refine ⟨rfl, rfl, ?_⟩
      refine run_nil ?_
      refine aw_block ?_
      refine aw_seq ?_
      refine aw_region ?_
      refine run_s (ss_eql rfl rfl) rfl ?_
      refine run_s (ss_assign rfl) rfl ?_
      refine run_nil ?_
      refine aw_cond rfl (fun q117 => ?_) (fun q117 => ?_)
      ·replace h := h.1 (of_decide_eq_true q117)
       refine aw_region ?_
       refine run_s (ss_move rfl) rfl ?_
       refine run_s (ss_move rfl) rfl ?_
       obtain ⟨q118, h⟩ := h
       refine run_s (ss_idxR (f := (fun r => C.lst (ints r))) rfl rfl rfl q118) rfl ?_
       refine run_s (ss_loadR (f := (fun r => C.lst (ints r))) rfl rfl q118 rfl rfl) rfl ?_
       refine run_w (ws_buildSlice (id := 97) (ps := [(0, .tmp 96)]) rfl rfl (Nat.le_of_ble_eq_true rfl) rfl ⟨rfl, ?_⟩)
       obtain ⟨q119, h⟩ := h
       refine run_w (ws_app1 (fun r => C.lst (ints r)) (l := o18_1) (m := [el o18_1 0]) rfl rfl rfl rfl rfl (Nat.le_of_ble_eq_true rfl) q119 ⟨rfl, ?_⟩)
       refine run_s (ss_assign rfl) rfl ?_
       refine run_nil ?_
       refine aw_seq ?_
       refine aw_gh (gh_to (n := 102) (σ' := [(18, ⟨rows (o18_1 ++ ([el o18_1 0])), []⟩), (11, ⟨[.lst (bys o11_0), ci o11_1, cu o11_2], []⟩)]) (env' := [(5, .ref 18)]) rfl rfl ⟨rfl, trivial⟩) ?_
       refine aw_region ?_
       refine run_s (ss_move rfl) rfl ?_
       refine run_s (ss_assign rfl) rfl ?_
       refine run_nil ?_
       refine aw_ret ?_
       exact retAF_mk (retv1 rfl (rv_tmp rfl)) rfl rfl ⟨_, (cle_refl _), _, h, rfl⟩
      ·replace h := h.2 (of_decide_eq_false q117)
       refine aw_seq ?_
       refine aw_region ?_
       refine run_s (ss_eql rfl rfl) rfl ?_
       refine run_s (ss_assign rfl) rfl ?_
       refine run_nil ?_
       refine aw_cond rfl (fun q120 => ?_) (fun q120 => ?_)
       ·replace h := h.1 (of_decide_eq_true q120)
        refine aw_gh (gh_to (n := 102) (σ' := [(18, ⟨rows o18_1, []⟩), (11, ⟨[.lst (bys o11_0), ci o11_1, cu o11_2], []⟩)]) (env' := [(5, .ref 18)]) rfl rfl ⟨rfl, trivial⟩) ?_
        refine aw_region ?_
        refine run_s (ss_assign rfl) rfl ?_
        refine run_nil ?_
        refine aw_seq ?_
        refine aw_region ?_
        refine run_s (ss_move rfl) rfl ?_
        refine run_s (ss_assign rfl) rfl ?_
        refine run_nil ?_
        refine aw_ret ?_
        exact retAF_mk (retv1 rfl (rv_tmp rfl)) rfl rfl ⟨_, cle_nilO, _, h, rfl⟩
       ·replace h := h.2 (of_decide_eq_false q120)
        refine aw_skip ?_
        refine aw_seq ?_
        refine aw_gh (gh_to (n := 102) (σ' := [(18, ⟨rows o18_1, []⟩), (11, ⟨[.lst (bys o11_0), ci o11_1, cu o11_2], []⟩)]) (env' := [(5, .ref 18)]) rfl rfl ⟨rfl, trivial⟩) ?_
        refine aw_region ?_
        refine run_s (ss_move rfl) rfl ?_
        refine run_s (ss_assign rfl) rfl ?_
        refine run_nil ?_
        refine aw_ret ?_
        exact retAF_mk (retv1 rfl (rv_tmp rfl)) rfl rfl ⟨_, (cle_refl _), _, h, rfl⟩
    ·replace h := h.2 (of_decide_eq_false q77)
     refine run_gf rfl rfl q77 rfl ?_
     refine run_gf rfl rfl q77 rfl ?_
     refine run_gf rfl rfl q77 rfl ?_
     refine run_s (ss_pickF rfl q77 rfl) rfl ?_
     refine run_nil ?_
     refine aw_cond rfl (fun q121 => ?_) (fun q121 => ?_)
     ·cases q121
     ·skip
      refine aw_exit ?_
      refine aw_seq ?_
      refine aw_seq ?_
      refine aw_gh (gh_to (n := 102) (σ' := [(18, ⟨rows o18_1, []⟩), (11, ⟨[.lst (bys f11_0_1), ci f11_1_1, cu f11_2_1], []⟩)]) (env' := [(3, .cell 11 0), (5, .ref 18)]) rfl rfl ⟨rfl, rfl, trivial⟩) ?_
      refine aw_region ?_
      refine run_s (ss_move rfl) rfl ?_
      obtain ⟨q122, h⟩ := h
      refine run_w (ws_callM (xs := [.tmp 89, .const (.int .i64 (24))]) (cs := [.obox [.lst (bys f11_0_1), ci f11_1_1, cu f11_2_1], ci 24]) (ids := []) rfl (.inr ⟨rfl, rfl⟩) rfl rfl rfl (c_spec_l01Next f11_0_1 f11_1_1 f11_2_1 24 q122) rfl rfl ?_ )
      rintro _ _ ⟨r12_0, o12_0, o12_1, o12_2, q123, rfl, rfl⟩
      replace h := h r12_0 o12_0 o12_1 o12_2 q123
      refine ⟨rfl, rfl, ?_⟩
      refine run_nil ?_
      refine aw_block ?_
      refine aw_seq ?_
      refine aw_region ?_
      refine run_s (ss_eql rfl rfl) rfl ?_
      refine run_s (ss_assign rfl) rfl ?_
      refine run_nil ?_
      refine aw_cond rfl (fun q124 => ?_) (fun q124 => ?_)
      ·replace h := h.1 (of_decide_eq_true q124)
       refine aw_region ?_
       refine run_s (ss_move rfl) rfl ?_
       refine run_s (ss_move rfl) rfl ?_
       obtain ⟨q125, h⟩ := h
       refine run_s (ss_idxR (f := (fun r => C.lst (ints r))) rfl rfl rfl q125) rfl ?_
       refine run_s (ss_loadR (f := (fun r => C.lst (ints r))) rfl rfl q125 rfl rfl) rfl ?_
       refine run_w (ws_buildSlice (id := 97) (ps := [(0, .tmp 96)]) rfl rfl (Nat.le_of_ble_eq_true rfl) rfl ⟨rfl, ?_⟩)
       obtain ⟨q126, h⟩ := h
       refine run_w (ws_app1 (fun r => C.lst (ints r)) (l := o18_1) (m := [el o18_1 0]) rfl rfl rfl rfl rfl (Nat.le_of_ble_eq_true rfl) q126 ⟨rfl, ?_⟩)
       refine run_s (ss_assign rfl) rfl ?_
       refine run_nil ?_
       refine aw_seq ?_
       refine aw_gh (gh_to (n := 102) (σ' := [(18, ⟨rows (o18_1 ++ ([el o18_1 0])), []⟩), (11, ⟨[.lst (bys o12_0), ci o12_1, cu o12_2], []⟩)]) (env' := [(5, .ref 18)]) rfl rfl ⟨rfl, trivial⟩) ?_
       refine aw_region ?_
       refine run_s (ss_move rfl) rfl ?_
       refine run_s (ss_assign rfl) rfl ?_
       refine run_nil ?_
       refine aw_ret ?_
       exact retAF_mk (retv1 rfl (rv_tmp rfl)) rfl rfl ⟨_, (cle_refl _), _, h, rfl⟩
      ·replace h := h.2 (of_decide_eq_false q124)
       refine aw_seq ?_
       refine aw_region ?_
       refine run_s (ss_eql rfl rfl) rfl ?_
       refine run_s (ss_assign rfl) rfl ?_
       refine run_nil ?_
       refine aw_cond rfl (fun q127 => ?_) (fun q127 => ?_)
       ·replace h := h.1 (of_decide_eq_true q127)
        refine aw_gh (gh_to (n := 102) (σ' := [(18, ⟨rows o18_1, []⟩), (11, ⟨[.lst (bys o12_0), ci o12_1, cu o12_2], []⟩)]) (env' := [(5, .ref 18)]) rfl rfl ⟨rfl, trivial⟩) ?_
        refine aw_region ?_
        refine run_s (ss_assign rfl) rfl ?_
        refine run_nil ?_
        refine aw_seq ?_
        refine aw_region ?_
        refine run_s (ss_move rfl) rfl ?_
        refine run_s (ss_assign rfl) rfl ?_
        refine run_nil ?_
        refine aw_ret ?_
        exact retAF_mk (retv1 rfl (rv_tmp rfl)) rfl rfl ⟨_, cle_nilO, _, h, rfl⟩
       ·replace h := h.2 (of_decide_eq_false q127)
        refine aw_skip ?_
        refine aw_seq ?_
        refine aw_gh (gh_to (n := 102) (σ' := [(18, ⟨rows o18_1, []⟩), (11, ⟨[.lst (bys o12_0), ci o12_1, cu o12_2], []⟩)]) (env' := [(5, .ref 18)]) rfl rfl ⟨rfl, trivial⟩) ?_
        refine aw_region ?_
        refine run_s (ss_move rfl) rfl ?_
        refine run_s (ss_assign rfl) rfl ?_
        refine run_nil ?_
        refine aw_ret ?_
        exact retAF_mk (retv1 rfl (rv_tmp rfl)) rfl rfl ⟨_, (cle_refl _), _, h, rfl⟩
   ·replace h := h.2 (of_decide_eq_false q76)
    refine run_gf rfl rfl q76 rfl ?_
    refine run_gf rfl rfl q76 rfl ?_
    refine run_gf rfl rfl q76 rfl ?_
    refine run_s (ss_pickF rfl q76 rfl) rfl ?_
    refine run_s (ss_move rfl) rfl ?_
    refine run_split (s := 37) rfl (fun q128 => ?_) (fun q128 => ?_)
    ·cases q128
    ·skip
     refine run_gf rfl rfl q128 rfl ?_
     refine run_gf rfl rfl q128 rfl ?_
     refine run_gf rfl rfl q128 rfl ?_
     refine run_s (ss_pickF rfl q128 rfl) rfl ?_
     refine run_nil ?_
     refine aw_cond rfl (fun q129 => ?_) (fun q129 => ?_)
     ·cases q129
     ·skip
      refine aw_exit ?_
      refine aw_seq ?_
      refine aw_seq ?_
      refine aw_gh (gh_to (n := 102) (σ' := [(18, ⟨rows o18_1, []⟩), (11, ⟨[.lst (bys f11_0_1), ci f11_1_1, cu f11_2_1], []⟩)]) (env' := [(3, .cell 11 0), (5, .ref 18)]) rfl rfl ⟨rfl, rfl, trivial⟩) ?_
      refine aw_region ?_
      refine run_s (ss_move rfl) rfl ?_
      obtain ⟨q130, h⟩ := h
      refine run_w (ws_callM (xs := [.tmp 89, .const (.int .i64 (24))]) (cs := [.obox [.lst (bys f11_0_1), ci f11_1_1, cu f11_2_1], ci 24]) (ids := []) rfl (.inr ⟨rfl, rfl⟩) rfl rfl rfl (c_spec_l01Next f11_0_1 f11_1_1 f11_2_1 24 q130) rfl rfl ?_ )
      rintro _ _ ⟨r13_0, o13_0, o13_1, o13_2, q131, rfl, rfl⟩
      replace h := h r13_0 o13_0 o13_1 o13_2 q131
      refine ⟨rfl, rfl, ?_⟩
      refine run_nil ?_
      refine aw_block ?_
      refine aw_seq ?_
      refine aw_region ?_
      refine run_s (ss_eql rfl rfl) rfl ?_
      refine run_s (ss_assign rfl) rfl ?_
      refine run_nil ?_
      refine aw_cond rfl (fun q132 => ?_) (fun q132 => ?_)
      ·replace h := h.1 (of_decide_eq_true q132)
       refine aw_region ?_
       refine run_s (ss_move rfl) rfl ?_
       refine run_s (ss_move rfl) rfl ?_
       obtain ⟨q133, h⟩ := h
       refine run_s (ss_idxR (f := (fun r => C.lst (ints r))) rfl rfl rfl q133) rfl ?_
       refine run_s (ss_loadR (f := (fun r => C.lst (ints r))) rfl rfl q133 rfl rfl) rfl ?_
       refine run_w (ws_buildSlice (id := 97) (ps := [(0, .tmp 96)]) rfl rfl (Nat.le_of_ble_eq_true rfl) rfl ⟨rfl, ?_⟩)
       obtain ⟨q134, h⟩ := h
       refine run_w (ws_app1 (fun r => C.lst (ints r)) (l := o18_1) (m := [el o18_1 0]) rfl rfl rfl rfl rfl (Nat.le_of_ble_eq_true rfl) q134 ⟨rfl, ?_⟩)
       refine run_s (ss_assign rfl) rfl ?_
       refine run_nil ?_
       refine aw_seq ?_
       refine aw_gh (gh_to (n := 102) (σ' := [(18, ⟨rows (o18_1 ++ ([el o18_1 0])), []⟩), (11, ⟨[.lst (bys o13_0), ci o13_1, cu o13_2], []⟩)]) (env' := [(5, .ref 18)]) rfl rfl ⟨rfl, trivial⟩) ?_
       refine aw_region ?_
       refine run_s (ss_move rfl) rfl ?_
       refine run_s (ss_assign rfl) rfl ?_
       refine run_nil ?_
       refine aw_ret ?_
       exact retAF_mk (retv1 rfl (rv_tmp rfl)) rfl rfl ⟨_, (cle_refl _), _, h, rfl⟩
      ·replace h := h.2 (of_decide_eq_false q132)
       refine aw_seq ?_
       refine aw_region ?_
       refine run_s (ss_eql rfl rfl) rfl ?_
       refine run_s (ss_assign rfl) rfl ?_
       refine run_nil ?_
       refine aw_cond rfl (fun q135 => ?_) (fun q135 => ?_)
       ·replace h := h.1 (of_decide_eq_true q135)
        refine aw_gh (gh_to (n := 102) (σ' := [(18, ⟨rows o18_1, []⟩), (11, ⟨[.lst (bys o13_0), ci o13_1, cu o13_2], []⟩)]) (env' := [(5, .ref 18)]) rfl rfl ⟨rfl, trivial⟩) ?_
        refine aw_region ?_
        refine run_s (ss_assign rfl) rfl ?_
        refine run_nil ?_
        refine aw_seq ?_
        refine aw_region ?_
        refine run_s (ss_move rfl) rfl ?_
        refine run_s (ss_assign rfl) rfl ?_
        refine run_nil ?_
        refine aw_ret ?_
        exact retAF_mk (retv1 rfl (rv_tmp rfl)) rfl rfl ⟨_, cle_nilO, _, h, rfl⟩
       ·replace h := h.2 (of_decide_eq_false q135)
        refine aw_skip ?_
        refine aw_seq ?_
        refine aw_gh (gh_to (n := 102) (σ' := [(18, ⟨rows o18_1, []⟩), (11, ⟨[.lst (bys o13_0), ci o13_1, cu o13_2], []⟩)]) (env' := [(5, .ref 18)]) rfl rfl ⟨rfl, trivial⟩) ?_
        refine aw_region ?_
        refine run_s (ss_move rfl) rfl ?_
        refine run_s (ss_assign rfl) rfl ?_
        refine run_nil ?_
        refine aw_ret ?_
        exact retAF_mk (retv1 rfl (rv_tmp rfl)) rfl rfl ⟨_, (cle_refl _), _, h, rfl⟩

theorem c_spec_DrawConjugationQuandle (code : List Int) (hp : small code ∧ bytes code) : AF Try.prog 7 [.lst (bys code)] (fun R_ => ∃ y0, ((y0.length : Int) ≤ 20 ∧ ∀ z_ ∈ y0, (z_.length : Int) ≤ 12) ∧ R_ = .own (rows y0)) :=
  w_spec_DrawConjugationQuandle code (fun y0 => (y0.length : Int) ≤ 20 ∧ ∀ z_ ∈ y0, (z_.length : Int) ≤ 12) (p_spec_DrawConjugationQuandle code hp)

set_option maxRecDepth 100000 in
set_option maxHeartbeats 4000000 in
theorem w_spec_DrawClassQuandle (code : List Int) (Q : List Int → Prop) (h : wp_spec_DrawClassQuandle code Q) : AF Try.prog 12 [.lst (bys code)] (fun R_ => ∃ y0, Q y0 ∧ R_ = .own (ints y0)) := by
  refine AF.ofWQ (af_enter (n := 33) Try.func12 rfl (by rfl) rfl (Nat.le_of_ble_eq_true rfl) ?_)
  unfold wp_spec_DrawClassQuandle at h
  refine aw_seq ?_
  refine aw_gh (gh_to (n := 33) (σ' := []) (env' := [(0, .c (.lst (bys code)))]) rfl rfl ⟨rfl, trivial⟩) ?_
  refine aw_region ?_
  refine run_s (ss_assign rfl) rfl ?_
  refine run_nil ?_
  refine aw_seq ?_
  refine aw_region ?_
  refine run_s (ss_move rfl) rfl ?_
  obtain ⟨q1, h⟩ := h
  refine run_w (ws_call (xs := [.tmp 5]) (ids := [6]) rfl rfl rfl rfl (c_spec_l01From code q1) rfl ?_ )
  rintro _ ⟨r1_0, r1_1, r1_2, q2, rfl⟩
  replace h := h r1_0 r1_1 r1_2 q2
  refine ⟨rfl, ?_⟩
  refine run_s (ss_assign rfl) rfl ?_
  refine run_nil ?_
  refine aw_seq ?_
  refine aw_region ?_
  refine run_s (ss_move rfl) rfl ?_
  refine run_s (ss_move rfl) rfl ?_
  obtain ⟨q3, h⟩ := h
  refine run_w (ws_callM (xs := [.tmp 8, .const (.int .i64 (5))]) (cs := [.obox [.lst (bys r1_0), ci r1_1, cu r1_2], ci 5]) (ids := []) rfl (.inr ⟨rfl, rfl⟩) rfl rfl rfl (c_spec_l01Next r1_0 r1_1 r1_2 5 q3) rfl rfl ?_ )
  rintro _ _ ⟨r2_0, o2_0, o2_1, o2_2, q4, rfl, rfl⟩
  replace h := h r2_0 o2_0 o2_1 o2_2 q4
  refine ⟨rfl, rfl, ?_⟩
  obtain ⟨q5, h⟩ := h
  refine run_w (ws_callM (xs := [.tmp 7, .tmp 9]) (cs := [.obox [.lst (bys o2_0), ci o2_1, cu o2_2], ci r2_0]) (ids := [10]) rfl (.inr ⟨rfl, rfl⟩) rfl rfl rfl (c_spec_l03DrawPerm o2_0 o2_1 o2_2 r2_0 q5) rfl rfl ?_ )
  rintro _ _ ⟨r3_0, o3_0, o3_1, o3_2, q6, rfl, rfl⟩
  replace h := h r3_0 o3_0 o3_1 o3_2 q6
  refine ⟨rfl, rfl, ?_⟩
  refine run_s (ss_assign rfl) rfl ?_
  refine run_nil ?_
  refine aw_seq ?_
  refine aw_seq ?_
  refine aw_gh (gh_to (n := 33) (σ' := [(10, ⟨ints r3_0, []⟩), (6, ⟨[.lst (bys o3_0), ci o3_1, cu o3_2], []⟩)]) (env' := [(3, .cell 6 0), (4, .ref 10)]) rfl rfl ⟨rfl, rfl, trivial⟩) ?_
  refine aw_region ?_
  refine run_s (ss_move rfl) rfl ?_
  obtain ⟨q7, h⟩ := h
  refine run_w (ws_callM (xs := [.tmp 11, .const (.int .i64 (12))]) (cs := [.obox [.lst (bys o3_0), ci o3_1, cu o3_2], ci 12]) (ids := []) rfl (.inr ⟨rfl, rfl⟩) rfl rfl rfl (c_spec_l01Next o3_0 o3_1 o3_2 12 q7) rfl rfl ?_ )
  rintro _ _ ⟨r4_0, o4_0, o4_1, o4_2, q8, rfl, rfl⟩
  replace h := h r4_0 o4_0 o4_1 o4_2 q8
  refine ⟨rfl, rfl, ?_⟩
  refine run_nil ?_
  refine aw_block ?_
  refine aw_seq ?_
  refine aw_region ?_
  refine run_s (ss_eql rfl rfl) rfl ?_
  refine run_s (ss_assign rfl) rfl ?_
  refine run_nil ?_
  refine aw_cond rfl (fun q9 => ?_) (fun q9 => ?_)
  ·replace h := h.1 (of_decide_eq_true q9)
   refine aw_region ?_
   refine run_s (ss_move rfl) rfl ?_
   refine run_s (ss_move rfl) rfl ?_
   refine run_s (ss_lenR (f := ci) rfl rfl) rfl ?_
   refine run_s (ss_move rfl) rfl ?_
   refine run_s (ss_lenR (f := ci) rfl rfl) rfl ?_
   obtain ⟨q10, h⟩ := h
   refine run_s (ss_add rfl rfl q10) rfl ?_
   refine run_w (ws_buildSlice (id := 21) (ps := [(0, .tmp 17), (1, .tmp 20)]) rfl rfl (Nat.le_of_ble_eq_true rfl) rfl ⟨rfl, ?_⟩)
   obtain ⟨q11, h⟩ := h
   refine run_w (ws_app1 ci (l := r3_0) (m := [(r3_0.length : Int), (r3_0.length : Int) + 1]) rfl rfl rfl rfl rfl (Nat.le_of_ble_eq_true rfl) q11 ⟨rfl, ?_⟩)
   refine run_s (ss_assign rfl) rfl ?_
   refine run_nil ?_
   refine aw_seq ?_
   refine aw_gh (gh_to (n := 33) (σ' := [(10, ⟨ints (r3_0 ++ ([(r3_0.length : Int), (r3_0.length : Int) + 1])), []⟩), (6, ⟨[.lst (bys o4_0), ci o4_1, cu o4_2], []⟩)]) (env' := [(4, .ref 10)]) rfl rfl ⟨rfl, trivial⟩) ?_
   refine aw_region ?_
   refine run_s (ss_move rfl) rfl ?_
   refine run_s (ss_assign rfl) rfl ?_
   refine run_nil ?_
   refine aw_ret ?_
   exact retAF_mk (retv1 rfl (rv_tmp rfl)) rfl rfl ⟨_, (cle_refl _), _, h, rfl⟩
  ·replace h := h.2 (of_decide_eq_false q9)
   refine aw_seq ?_
   refine aw_region ?_
   refine run_s (ss_eql rfl rfl) rfl ?_
   refine run_s (ss_assign rfl) rfl ?_
   refine run_nil ?_
   refine aw_cond rfl (fun q12 => ?_) (fun q12 => ?_)
   ·replace h := h.1 (of_decide_eq_true q12)
    refine aw_gh (gh_to (n := 33) (σ' := [(10, ⟨ints r3_0, []⟩), (6, ⟨[.lst (bys o4_0), ci o4_1, cu o4_2], []⟩)]) (env' := [(3, .cell 6 0), (4, .ref 10)]) rfl rfl ⟨rfl, rfl, trivial⟩) ?_
    refine aw_region ?_
    refine run_s (ss_move rfl) rfl ?_
    obtain ⟨q13, h⟩ := h
    refine run_w (ws_callM (xs := [.tmp 25, .const (.int .i64 (8))]) (cs := [.obox [.lst (bys o4_0), ci o4_1, cu o4_2], ci 8]) (ids := [26]) rfl (.inr ⟨rfl, rfl⟩) rfl rfl rfl (c_spec_l03DrawPerm o4_0 o4_1 o4_2 8 q13) rfl rfl ?_ )
    rintro _ _ ⟨r5_0, o5_0, o5_1, o5_2, q14, rfl, rfl⟩
    replace h := h r5_0 o5_0 o5_1 o5_2 q14
    refine ⟨rfl, rfl, ?_⟩
    refine run_s (ss_assign rfl) rfl ?_
    refine run_nil ?_
    refine aw_seq ?_
    refine aw_region ?_
    refine run_s (ss_move rfl) rfl ?_
    refine run_s (ss_assign rfl) rfl ?_
    refine run_nil ?_
    refine aw_ret ?_
    exact retAF_mk (retv1 rfl (rv_tmp rfl)) rfl rfl ⟨_, (cle_refl _), _, h, rfl⟩
   ·replace h := h.2 (of_decide_eq_false q12)
    refine aw_seq ?_
    refine aw_gh (gh_to (n := 33) (σ' := [(10, ⟨ints r3_0, []⟩), (6, ⟨[.lst (bys o4_0), ci o4_1, cu o4_2], []⟩)]) (env' := [(4, .ref 10), (12, .c (ci r4_0))]) rfl rfl ⟨rfl, rfl, trivial⟩) ?_
    refine aw_region ?_
    refine run_s (ss_eql rfl rfl) rfl ?_
    refine run_s (ss_assign rfl) rfl ?_
    refine run_nil ?_
    refine aw_cond rfl (fun q15 => ?_) (fun q15 => ?_)
    ·replace h := h.1 (of_decide_eq_true q15)
     refine aw_region ?_
     refine run_s (ss_move rfl) rfl ?_
     refine run_w (ws_buildSlice (id := 30) (ps := [(0, .const (.int .i64 (0)))]) rfl rfl (Nat.le_of_ble_eq_true rfl) rfl ⟨rfl, ?_⟩)
     obtain ⟨q16, h⟩ := h
     refine run_w (ws_app1 ci (l := r3_0) (m := [0]) rfl rfl rfl rfl rfl (Nat.le_of_ble_eq_true rfl) q16 ⟨rfl, ?_⟩)
     refine run_s (ss_assign rfl) rfl ?_
     refine run_nil ?_
     refine aw_seq ?_
     refine aw_gh (gh_to (n := 33) (σ' := [(10, ⟨ints (r3_0 ++ ([0])), []⟩), (6, ⟨[.lst (bys o4_0), ci o4_1, cu o4_2], []⟩)]) (env' := [(4, .ref 10)]) rfl rfl ⟨rfl, trivial⟩) ?_
     refine aw_region ?_
     refine run_s (ss_move rfl) rfl ?_
     refine run_s (ss_assign rfl) rfl ?_
     refine run_nil ?_
     refine aw_ret ?_
     exact retAF_mk (retv1 rfl (rv_tmp rfl)) rfl rfl ⟨_, (cle_refl _), _, h, rfl⟩
    ·replace h := h.2 (of_decide_eq_false q15)
     refine aw_skip ?_
     refine aw_seq ?_
     refine aw_region ?_
     refine run_s (ss_move rfl) rfl ?_
     refine run_s (ss_assign rfl) rfl ?_
     refine run_nil ?_
     refine aw_ret ?_
     exact retAF_mk (retv1 rfl (rv_tmp rfl)) rfl rfl ⟨_, (cle_refl _), _, h, rfl⟩

theorem c_spec_DrawClassQuandle (code : List Int) (hp : small code ∧ bytes code) : AF Try.prog 12 [.lst (bys code)] (fun R_ => ∃ y0, ((y0.length : Int) ≤ 20 ∧ ∀ z_ ∈ y0, 0 ≤ z_ ∧ z_ ≤ 1000) ∧ R_ = .own (ints y0)) :=
  w_spec_DrawClassQuandle code (fun y0 => (y0.length : Int) ≤ 20 ∧ ∀ z_ ∈ y0, 0 ≤ z_ ∧ z_ ≤ 1000) (p_spec_DrawClassQuandle code hp)

end Go.Proofs.Ytggeeemecgmhiaa

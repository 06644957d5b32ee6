/- Contracts of functions that the law FnRackMaps reaches: conditions, plain proofs, walks; no condition. -/
import Derived.Test.YtjolbldlhjfciaaKRackMapsc
import Derived.Test.YtjolbldlhjfciaaPP
namespace Go.Proofs.Ytjolbldlhjfciaa

def wp_spec_l01Grow (n : Int) (start : List Int) (list : List (List Int)) (Q : List (List Int) → Prop) : Prop :=
 (((start.length : Int) = n →
 ((list.length : Int) + (([start]).length : Int) ≤ 1000000000) ∧
 Q (list ++ ([start]))) ∧
 (¬ ((start.length : Int) = n) →
 ∃ (H1 : Int → List (List Int) → Prop) (m1 : Int → List (List Int) → Nat),
 H1 0 list ∧
 ∀ (v7_1 : Int) (o801_1 : List (List Int)), H1 v7_1 o801_1 →
 ( ((v7_1 < n →
 (small start) ∧
 (((start.contains v7_1) = false →
 (small start) ∧
 ((start.length : Int) + (([v7_1]).length : Int) ≤ 1000000000) ∧
 ((n - ((start ++ ([v7_1])).length : Int)).toNat < (n - (start.length : Int)).toNat) ∧
 (((start ++ ([v7_1])).length : Int) ≤ n ∧ n ≤ 8 ∧ ((o801_1 ++ growL n (start ++ ([v7_1]))).length : Int) ≤ 100000000) ∧
 (InI (v7_1 + 1)) ∧
 (H1 (v7_1 + 1) (o801_1 ++ growL n (start ++ ([v7_1]))) ∧ m1 (v7_1 + 1) (o801_1 ++ growL n (start ++ ([v7_1]))) < m1 v7_1 o801_1)) ∧
 ((start.contains v7_1) = true →
 (InI (v7_1 + 1)) ∧
 (H1 (v7_1 + 1) o801_1 ∧ m1 (v7_1 + 1) o801_1 < m1 v7_1 o801_1)))) ∧
 (¬ (v7_1 < n) →
 Q o801_1)))))

def wp_spec_l01Perms (n : Int) (Q : List (List Int) → Prop) : Prop :=
 ((([] : List Int).length : Int) ≤ n ∧ n ≤ 8 ∧ ((([] : List (List Int)) ++ growL n ([] : List Int)).length : Int) ≤ 100000000) ∧
 Q (([] : List (List Int)) ++ growL n ([] : List Int))

def wp_spec_l03Image (t : List (List Int)) (p : List Int) (Q : List (List Int) → Prop) : Prop :=
 (small2 t) ∧
 ∃ (H1 : Int → List (List Int) → Prop) (m1 : Int → List (List Int) → Nat),
 H1 0 t ∧
 ∀ (v6_1 : Int) (o9_1 : List (List Int)), H1 v6_1 o9_1 →
 ( ((v6_1 < (t.length : Int) →
 ∃ (H2 : Int → List (List Int) → Prop) (m2 : Int → List (List Int) → Nat),
 H2 0 o9_1 ∧
 ∀ (v7_2 : Int) (o9_2 : List (List Int)), H2 v7_2 o9_2 →
 ( ((v7_2 < (t.length : Int) →
 (0 ≤ v6_1 ∧ v6_1 < (p.length : Int)) ∧
 (0 ≤ v7_2 ∧ v7_2 < (p.length : Int)) ∧
 (0 ≤ v6_1 ∧ v6_1 < (t.length : Int)) ∧
 (0 ≤ el p v6_1 ∧ el p v6_1 < (o9_2.length : Int)) ∧
 (0 ≤ v7_2 ∧ v7_2 < ((el t v6_1).length : Int)) ∧
 (0 ≤ el (el t v6_1) v7_2 ∧ el (el t v6_1) v7_2 < (p.length : Int)) ∧
 (0 ≤ el p v7_2 ∧ el p v7_2 < ((el o9_2 (el p v6_1)).length : Int)) ∧
 (InI (v7_2 + 1)) ∧
 (H2 (v7_2 + 1) (se o9_2 (el p v6_1) (se (el o9_2 (el p v6_1)) (el p v7_2) (el p (el (el t v6_1) v7_2)))) ∧ m2 (v7_2 + 1) (se o9_2 (el p v6_1) (se (el o9_2 (el p v6_1)) (el p v7_2) (el p (el (el t v6_1) v7_2)))) < m2 v7_2 o9_2)) ∧
 (¬ (v7_2 < (t.length : Int)) →
 (InI (v6_1 + 1)) ∧
 (H1 (v6_1 + 1) o9_2 ∧ m1 (v6_1 + 1) o9_2 < m1 v6_1 o9_1))))) ∧
 (¬ (v6_1 < (t.length : Int)) →
 Q o9_1)))

def wp_spec_l03DrawTable (s1 : List Int) (s2 : Int) (s3 : Int) (most : Int) (Q : List (List Int) → List Int → Int → Int → Prop) : Prop :=
 (okS s1 s2 s3 ∧ InI most) ∧
 ∀ (r1_0 : Int) (o1_0 : List Int) (o1_1 : Int) (o1_2 : Int), (nxP most r1_0 ∧ o1_0 = s1 ∧ okS s1 o1_1 o1_2) →
 (InI (1 + r1_0)) ∧
 (okS o1_0 o1_1 o1_2 ∧ InI (5 : Int)) ∧
 ∀ (r2_0 : Int) (o2_0 : List Int) (o2_1 : Int) (o2_2 : Int), (nxP (5 : Int) r2_0 ∧ o2_0 = o1_0 ∧ okS o1_0 o2_1 o2_2) →
 ((r2_0 = 0 →
 (okS o2_0 o2_1 o2_2 ∧ (1 + r1_0) ≤ 1000) ∧
 ∀ (r3_0 : List Int) (o3_0 : List Int) (o3_1 : Int) (o3_2 : Int), (((r3_0.length : Int) = max (1 + r1_0) 0 ∧ (∀ z_ ∈ r3_0, 0 ≤ z_ ∧ z_ < (1 + r1_0)) ∧ r3_0.Nodup) ∧ o3_0 = o2_0 ∧ okS o2_0 o3_1 o3_2) →
 ∃ (H1 : Int → List (List Int) → Prop) (m1 : Int → List (List Int) → Nat),
 H1 0 ([] : List (List Int)) ∧
 ∀ (v8_1 : Int) (o37_1 : List (List Int)), H1 v8_1 o37_1 →
 ( ((v8_1 < 1 + r1_0 →
 (small r3_0) ∧
 ((o37_1.length : Int) + (([r3_0]).length : Int) ≤ 1000000000) ∧
 (InI (v8_1 + 1)) ∧
 (H1 (v8_1 + 1) (o37_1 ++ ([r3_0])) ∧ m1 (v8_1 + 1) (o37_1 ++ ([r3_0])) < m1 v8_1 o37_1)) ∧
 (¬ (v8_1 < 1 + r1_0) →
 Q o37_1 o3_0 o3_1 o3_2)))) ∧
 (¬ (r2_0 = 0) →
 ((r2_0 = 1 →
 (InI ((1 + r1_0) - 1)) ∧
 ((0 : Int) ≤ 2 ∧ (0 : Int) < 1 + r1_0) ∧
 (1 ≤ (1 + r1_0) ∧ (1 + r1_0) ≤ 1000 ∧ 0 ≤ ((1 + r1_0) - 1) ∧ ((1 + r1_0) - 1) ≤ 1000 ∧ 0 ≤ (2 % (1 + r1_0)) ∧ (2 % (1 + r1_0)) ≤ 1000) ∧
 Q (tab (1 + r1_0) (fun x_ y_ => ((2 % (1 + r1_0)) * x_ + ((1 + r1_0) - 1) * y_) % (1 + r1_0))) o2_0 o2_1 o2_2) ∧
 (¬ (r2_0 = 1) →
 ((r2_0 = 2 →
 ∃ (H2 : Int → List Int → Int → Int → Prop) (m2 : Int → List Int → Int → Int → Nat),
 H2 0 o2_0 o2_1 o2_2 ∧
 ∀ (v9_1 : Int) (f800_0_1 : List Int) (f800_1_1 : Int) (f800_2_1 : Int), H2 v9_1 f800_0_1 f800_1_1 f800_2_1 →
 ( ((v9_1 < 6 →
 (okS f800_0_1 f800_1_1 f800_2_1 ∧ InI (1 + r1_0)) ∧
 ∀ (r4_0 : Int) (o4_0 : List Int) (o4_1 : Int) (o4_2 : Int), (nxP (1 + r1_0) r4_0 ∧ o4_0 = f800_0_1 ∧ okS f800_0_1 o4_1 o4_2) →
 (0 ≤ r4_0 ∧ 1 ≤ (1 + r1_0) ∧ (1 + r1_0) ≤ 1000) ∧
 (((!decide (1 < gcdI (1 + r1_0) r4_0)) = true →
 (InI (1 - r4_0)) ∧
 (InI ((1 - r4_0) + (1 + r1_0))) ∧
 ((0 : Int) ≤ (1 - r4_0) + (1 + r1_0) ∧ (0 : Int) < 1 + r1_0) ∧
 (1 ≤ (1 + r1_0) ∧ (1 + r1_0) ≤ 1000 ∧ 0 ≤ r4_0 ∧ r4_0 ≤ 1000 ∧ 0 ≤ (((1 - r4_0) + (1 + r1_0)) % (1 + r1_0)) ∧ (((1 - r4_0) + (1 + r1_0)) % (1 + r1_0)) ≤ 1000) ∧
 Q (tab (1 + r1_0) (fun x_ y_ => ((((1 - r4_0) + (1 + r1_0)) % (1 + r1_0)) * x_ + r4_0 * y_) % (1 + r1_0))) o4_0 o4_1 o4_2) ∧
 ((!decide (1 < gcdI (1 + r1_0) r4_0)) = false →
 (InI (v9_1 + 1)) ∧
 (H2 (v9_1 + 1) o4_0 o4_1 o4_2 ∧ m2 (v9_1 + 1) o4_0 o4_1 o4_2 < m2 v9_1 f800_0_1 f800_1_1 f800_2_1)))) ∧
 (¬ (v9_1 < 6) →
 (okS f800_0_1 f800_1_1 f800_2_1 ∧ InI (1 + r1_0)) ∧
 ∀ (r5_0 : Int) (o5_0 : List Int) (o5_1 : Int) (o5_2 : Int), (nxP (1 + r1_0) r5_0 ∧ o5_0 = f800_0_1 ∧ okS f800_0_1 o5_1 o5_2) →
 (InI ((if 1 < r5_0 then r5_0 else 1) - 1)) ∧
 ((0 : Int) ≤ 2 ∧ (0 : Int) < (if 1 < r5_0 then r5_0 else 1)) ∧
 (InI ((1 + r1_0) - r5_0)) ∧
 (InI ((1 + r1_0) - r5_0)) ∧
 ((0 : Int) ≤ 1 ∧ (0 : Int) < (1 + r1_0) - r5_0) ∧
 (1 ≤ (if 1 < r5_0 then r5_0 else 1) ∧ (if 1 < r5_0 then r5_0 else 1) ≤ 1000 ∧ 0 ≤ ((if 1 < r5_0 then r5_0 else 1) - 1) ∧ ((if 1 < r5_0 then r5_0 else 1) - 1) ≤ 1000 ∧ 0 ≤ (2 % (if 1 < r5_0 then r5_0 else 1)) ∧ (2 % (if 1 < r5_0 then r5_0 else 1)) ≤ 1000) ∧
 (1 ≤ ((1 + r1_0) - r5_0) ∧ ((1 + r1_0) - r5_0) ≤ 1000 ∧ 0 ≤ (1 % ((1 + r1_0) - r5_0)) ∧ (1 % ((1 + r1_0) - r5_0)) ≤ 1000 ∧ 0 ≤ (0 : Int) ∧ (0 : Int) ≤ 1000) ∧
 ((r5_0 = 0 →
 Q (tab ((1 + r1_0) - r5_0) (fun x_ y_ => ((0 : Int) * x_ + (1 % ((1 + r1_0) - r5_0)) * y_) % ((1 + r1_0) - r5_0))) o5_0 o5_1 o5_2) ∧
 (¬ (r5_0 = 0) →
 (InI ((1 + r1_0) - r5_0)) ∧
 (okS o5_0 o5_1 o5_2 ∧ ((1 + r1_0) - r5_0) ≤ 1000) ∧
 ∀ (r6_0 : List Int) (o6_0 : List Int) (o6_1 : Int) (o6_2 : Int), (((r6_0.length : Int) = max ((1 + r1_0) - r5_0) 0 ∧ (∀ z_ ∈ r6_0, 0 ≤ z_ ∧ z_ < ((1 + r1_0) - r5_0)) ∧ r6_0.Nodup) ∧ o6_0 = o5_0 ∧ okS o5_0 o6_1 o6_2) →
 ∃ (H3 : Int → List (List Int) → Prop) (m3 : Int → List (List Int) → Nat),
 H3 0 ([] : List (List Int)) ∧
 ∀ (v23_2 : Int) (o165_2 : List (List Int)), H3 v23_2 o165_2 →
 ( ((v23_2 < 1 + r1_0 →
 ∃ (H4 : Int → List Int → Prop) (m4 : Int → List Int → Nat),
 H4 0 ([] : List Int) ∧
 ∀ (v25_3 : Int) (o171_3 : List Int), H4 v25_3 o171_3 →
 ( ((v25_3 < 1 + r1_0 →
 ((v23_2 < r5_0 →
 ((v25_3 < r5_0 →
 (0 ≤ v23_2 ∧ v23_2 < ((tab (if 1 < r5_0 then r5_0 else 1) (fun x_ y_ => ((2 % (if 1 < r5_0 then r5_0 else 1)) * x_ + ((if 1 < r5_0 then r5_0 else 1) - 1) * y_) % (if 1 < r5_0 then r5_0 else 1))).length : Int)) ∧
 (0 ≤ v25_3 ∧ v25_3 < ((el (tab (if 1 < r5_0 then r5_0 else 1) (fun x_ y_ => ((2 % (if 1 < r5_0 then r5_0 else 1)) * x_ + ((if 1 < r5_0 then r5_0 else 1) - 1) * y_) % (if 1 < r5_0 then r5_0 else 1))) v23_2).length : Int)) ∧
 ((o171_3.length : Int) + (([el (el (tab (if 1 < r5_0 then r5_0 else 1) (fun x_ y_ => ((2 % (if 1 < r5_0 then r5_0 else 1)) * x_ + ((if 1 < r5_0 then r5_0 else 1) - 1) * y_) % (if 1 < r5_0 then r5_0 else 1))) v23_2) v25_3]).length : Int) ≤ 1000000000) ∧
 (InI (v25_3 + 1)) ∧
 (H4 (v25_3 + 1) (o171_3 ++ ([el (el (tab (if 1 < r5_0 then r5_0 else 1) (fun x_ y_ => ((2 % (if 1 < r5_0 then r5_0 else 1)) * x_ + ((if 1 < r5_0 then r5_0 else 1) - 1) * y_) % (if 1 < r5_0 then r5_0 else 1))) v23_2) v25_3])) ∧ m4 (v25_3 + 1) (o171_3 ++ ([el (el (tab (if 1 < r5_0 then r5_0 else 1) (fun x_ y_ => ((2 % (if 1 < r5_0 then r5_0 else 1)) * x_ + ((if 1 < r5_0 then r5_0 else 1) - 1) * y_) % (if 1 < r5_0 then r5_0 else 1))) v23_2) v25_3])) < m4 v25_3 o171_3)) ∧
 (¬ (v25_3 < r5_0) →
 ((r5_0 ≤ v23_2 →
 ((r5_0 ≤ v25_3 →
 (InI (v23_2 - r5_0)) ∧
 (0 ≤ v23_2 - r5_0 ∧ v23_2 - r5_0 < ((tab ((1 + r1_0) - r5_0) (fun x_ y_ => ((0 : Int) * x_ + (1 % ((1 + r1_0) - r5_0)) * y_) % ((1 + r1_0) - r5_0))).length : Int)) ∧
 (InI (v25_3 - r5_0)) ∧
 (0 ≤ v25_3 - r5_0 ∧ v25_3 - r5_0 < ((el (tab ((1 + r1_0) - r5_0) (fun x_ y_ => ((0 : Int) * x_ + (1 % ((1 + r1_0) - r5_0)) * y_) % ((1 + r1_0) - r5_0))) (v23_2 - r5_0)).length : Int)) ∧
 (0 ≤ el (el (tab ((1 + r1_0) - r5_0) (fun x_ y_ => ((0 : Int) * x_ + (1 % ((1 + r1_0) - r5_0)) * y_) % ((1 + r1_0) - r5_0))) (v23_2 - r5_0)) (v25_3 - r5_0) ∧ el (el (tab ((1 + r1_0) - r5_0) (fun x_ y_ => ((0 : Int) * x_ + (1 % ((1 + r1_0) - r5_0)) * y_) % ((1 + r1_0) - r5_0))) (v23_2 - r5_0)) (v25_3 - r5_0) < (r6_0.length : Int)) ∧
 (InI (r5_0 + (el r6_0 (el (el (tab ((1 + r1_0) - r5_0) (fun x_ y_ => ((0 : Int) * x_ + (1 % ((1 + r1_0) - r5_0)) * y_) % ((1 + r1_0) - r5_0))) (v23_2 - r5_0)) (v25_3 - r5_0))))) ∧
 ((o171_3.length : Int) + (([r5_0 + (el r6_0 (el (el (tab ((1 + r1_0) - r5_0) (fun x_ y_ => ((0 : Int) * x_ + (1 % ((1 + r1_0) - r5_0)) * y_) % ((1 + r1_0) - r5_0))) (v23_2 - r5_0)) (v25_3 - r5_0)))]).length : Int) ≤ 1000000000) ∧
 (InI (v25_3 + 1)) ∧
 (H4 (v25_3 + 1) (o171_3 ++ ([r5_0 + (el r6_0 (el (el (tab ((1 + r1_0) - r5_0) (fun x_ y_ => ((0 : Int) * x_ + (1 % ((1 + r1_0) - r5_0)) * y_) % ((1 + r1_0) - r5_0))) (v23_2 - r5_0)) (v25_3 - r5_0)))])) ∧ m4 (v25_3 + 1) (o171_3 ++ ([r5_0 + (el r6_0 (el (el (tab ((1 + r1_0) - r5_0) (fun x_ y_ => ((0 : Int) * x_ + (1 % ((1 + r1_0) - r5_0)) * y_) % ((1 + r1_0) - r5_0))) (v23_2 - r5_0)) (v25_3 - r5_0)))])) < m4 v25_3 o171_3)) ∧
 (¬ (r5_0 ≤ v25_3) →
 ((o171_3.length : Int) + (([v25_3]).length : Int) ≤ 1000000000) ∧
 (InI (v25_3 + 1)) ∧
 (H4 (v25_3 + 1) (o171_3 ++ ([v25_3])) ∧ m4 (v25_3 + 1) (o171_3 ++ ([v25_3])) < m4 v25_3 o171_3)))) ∧
 (¬ (r5_0 ≤ v23_2) →
 ((o171_3.length : Int) + (([v25_3]).length : Int) ≤ 1000000000) ∧
 (InI (v25_3 + 1)) ∧
 (H4 (v25_3 + 1) (o171_3 ++ ([v25_3])) ∧ m4 (v25_3 + 1) (o171_3 ++ ([v25_3])) < m4 v25_3 o171_3)))))) ∧
 (¬ (v23_2 < r5_0) →
 ((r5_0 ≤ v23_2 →
 ((r5_0 ≤ v25_3 →
 (InI (v23_2 - r5_0)) ∧
 (0 ≤ v23_2 - r5_0 ∧ v23_2 - r5_0 < ((tab ((1 + r1_0) - r5_0) (fun x_ y_ => ((0 : Int) * x_ + (1 % ((1 + r1_0) - r5_0)) * y_) % ((1 + r1_0) - r5_0))).length : Int)) ∧
 (InI (v25_3 - r5_0)) ∧
 (0 ≤ v25_3 - r5_0 ∧ v25_3 - r5_0 < ((el (tab ((1 + r1_0) - r5_0) (fun x_ y_ => ((0 : Int) * x_ + (1 % ((1 + r1_0) - r5_0)) * y_) % ((1 + r1_0) - r5_0))) (v23_2 - r5_0)).length : Int)) ∧
 (0 ≤ el (el (tab ((1 + r1_0) - r5_0) (fun x_ y_ => ((0 : Int) * x_ + (1 % ((1 + r1_0) - r5_0)) * y_) % ((1 + r1_0) - r5_0))) (v23_2 - r5_0)) (v25_3 - r5_0) ∧ el (el (tab ((1 + r1_0) - r5_0) (fun x_ y_ => ((0 : Int) * x_ + (1 % ((1 + r1_0) - r5_0)) * y_) % ((1 + r1_0) - r5_0))) (v23_2 - r5_0)) (v25_3 - r5_0) < (r6_0.length : Int)) ∧
 (InI (r5_0 + (el r6_0 (el (el (tab ((1 + r1_0) - r5_0) (fun x_ y_ => ((0 : Int) * x_ + (1 % ((1 + r1_0) - r5_0)) * y_) % ((1 + r1_0) - r5_0))) (v23_2 - r5_0)) (v25_3 - r5_0))))) ∧
 ((o171_3.length : Int) + (([r5_0 + (el r6_0 (el (el (tab ((1 + r1_0) - r5_0) (fun x_ y_ => ((0 : Int) * x_ + (1 % ((1 + r1_0) - r5_0)) * y_) % ((1 + r1_0) - r5_0))) (v23_2 - r5_0)) (v25_3 - r5_0)))]).length : Int) ≤ 1000000000) ∧
 (InI (v25_3 + 1)) ∧
 (H4 (v25_3 + 1) (o171_3 ++ ([r5_0 + (el r6_0 (el (el (tab ((1 + r1_0) - r5_0) (fun x_ y_ => ((0 : Int) * x_ + (1 % ((1 + r1_0) - r5_0)) * y_) % ((1 + r1_0) - r5_0))) (v23_2 - r5_0)) (v25_3 - r5_0)))])) ∧ m4 (v25_3 + 1) (o171_3 ++ ([r5_0 + (el r6_0 (el (el (tab ((1 + r1_0) - r5_0) (fun x_ y_ => ((0 : Int) * x_ + (1 % ((1 + r1_0) - r5_0)) * y_) % ((1 + r1_0) - r5_0))) (v23_2 - r5_0)) (v25_3 - r5_0)))])) < m4 v25_3 o171_3)) ∧
 (¬ (r5_0 ≤ v25_3) →
 ((o171_3.length : Int) + (([v25_3]).length : Int) ≤ 1000000000) ∧
 (InI (v25_3 + 1)) ∧
 (H4 (v25_3 + 1) (o171_3 ++ ([v25_3])) ∧ m4 (v25_3 + 1) (o171_3 ++ ([v25_3])) < m4 v25_3 o171_3)))) ∧
 (¬ (r5_0 ≤ v23_2) →
 ((o171_3.length : Int) + (([v25_3]).length : Int) ≤ 1000000000) ∧
 (InI (v25_3 + 1)) ∧
 (H4 (v25_3 + 1) (o171_3 ++ ([v25_3])) ∧ m4 (v25_3 + 1) (o171_3 ++ ([v25_3])) < m4 v25_3 o171_3)))))) ∧
 (¬ (v25_3 < 1 + r1_0) →
 ((o165_2.length : Int) + (([o171_3]).length : Int) ≤ 1000000000) ∧
 (InI (v23_2 + 1)) ∧
 (H3 (v23_2 + 1) (o165_2 ++ ([o171_3])) ∧ m3 (v23_2 + 1) (o165_2 ++ ([o171_3])) < m3 v23_2 o165_2))))) ∧
 (¬ (v23_2 < 1 + r1_0) →
 Q o165_2 o6_0 o6_1 o6_2))))))))) ∧
 (¬ (r2_0 = 2) →
 ((r2_0 = 3 →
 ((6 ≤ most →
 (0 ≤ (3 : Int) ∧ (3 : Int) ≤ 8) ∧
 (okS o2_0 o2_1 o2_2 ∧ InI (2 : Int)) ∧
 ∀ (r7_0 : Int) (o7_0 : List Int) (o7_1 : Int) (o7_2 : Int), (nxP (2 : Int) r7_0 ∧ o7_0 = o2_0 ∧ okS o2_0 o7_1 o7_2) →
 ((r7_0 = 0 →
 ∃ (H5 : Int → List (List Int) → Prop) (m5 : Int → List (List Int) → Nat),
 H5 0 ([] : List (List Int)) ∧
 ∀ (v13_1 : Int) (o83_1 : List (List Int)), H5 v13_1 o83_1 →
 ( ((v13_1 < (([[0, 2, 1], [1, 0, 2], [2, 1, 0]] : List (List Int)).length : Int) →
 ∃ (H6 : Int → List Int → Prop) (m6 : Int → List Int → Nat),
 H6 0 ([] : List Int) ∧
 ∀ (v15_2 : Int) (o97_2 : List Int), H6 v15_2 o97_2 →
 ( ((v15_2 < (([[0, 2, 1], [1, 0, 2], [2, 1, 0]] : List (List Int)).length : Int) →
 (0 ≤ v13_1 ∧ v13_1 < (([[0, 2, 1], [1, 0, 2], [2, 1, 0]] : List (List Int)).length : Int)) ∧
 (0 ≤ v15_2 ∧ v15_2 < (([[0, 2, 1], [1, 0, 2], [2, 1, 0]] : List (List Int)).length : Int)) ∧
 (0 ≤ v13_1 ∧ v13_1 < (([[0, 2, 1], [1, 0, 2], [2, 1, 0]] : List (List Int)).length : Int)) ∧
 (small (el ([[0, 2, 1], [1, 0, 2], [2, 1, 0]] : List (List Int)) v13_1) ∧ isPerm (el ([[0, 2, 1], [1, 0, 2], [2, 1, 0]] : List (List Int)) v13_1) = true) ∧
 (small (backI (el ([[0, 2, 1], [1, 0, 2], [2, 1, 0]] : List (List Int)) v13_1)) ∧ ∀ x_ ∈ (backI (el ([[0, 2, 1], [1, 0, 2], [2, 1, 0]] : List (List Int)) v13_1)), 0 ≤ x_ ∧ x_ < ((el ([[0, 2, 1], [1, 0, 2], [2, 1, 0]] : List (List Int)) v15_2).length : Int)) ∧
 (small ((backI (el ([[0, 2, 1], [1, 0, 2], [2, 1, 0]] : List (List Int)) v13_1)).map (el (el ([[0, 2, 1], [1, 0, 2], [2, 1, 0]] : List (List Int)) v15_2))) ∧ ∀ x_ ∈ ((backI (el ([[0, 2, 1], [1, 0, 2], [2, 1, 0]] : List (List Int)) v13_1)).map (el (el ([[0, 2, 1], [1, 0, 2], [2, 1, 0]] : List (List Int)) v15_2))), 0 ≤ x_ ∧ x_ < ((el ([[0, 2, 1], [1, 0, 2], [2, 1, 0]] : List (List Int)) v13_1).length : Int)) ∧
 ∃ (H7 : Int → Prop) (m7 : Int → Nat),
 H7 0 ∧
 ∀ (v17_3 : Int), H7 v17_3 →
 ( (0 ≤ v17_3 ∧ v17_3 < (([[0, 2, 1], [1, 0, 2], [2, 1, 0]] : List (List Int)).length : Int)) ∧
 (small (el ([[0, 2, 1], [1, 0, 2], [2, 1, 0]] : List (List Int)) v17_3) ∧ small (((backI (el ([[0, 2, 1], [1, 0, 2], [2, 1, 0]] : List (List Int)) v13_1)).map (el (el ([[0, 2, 1], [1, 0, 2], [2, 1, 0]] : List (List Int)) v15_2))).map (el (el ([[0, 2, 1], [1, 0, 2], [2, 1, 0]] : List (List Int)) v13_1)))) ∧
 ((¬ ((el ([[0, 2, 1], [1, 0, 2], [2, 1, 0]] : List (List Int)) v17_3) = (((backI (el ([[0, 2, 1], [1, 0, 2], [2, 1, 0]] : List (List Int)) v13_1)).map (el (el ([[0, 2, 1], [1, 0, 2], [2, 1, 0]] : List (List Int)) v15_2))).map (el (el ([[0, 2, 1], [1, 0, 2], [2, 1, 0]] : List (List Int)) v13_1)))) →
 (InI (v17_3 + 1)) ∧
 (H7 (v17_3 + 1) ∧ m7 (v17_3 + 1) < m7 v17_3)) ∧
 ((el ([[0, 2, 1], [1, 0, 2], [2, 1, 0]] : List (List Int)) v17_3) = (((backI (el ([[0, 2, 1], [1, 0, 2], [2, 1, 0]] : List (List Int)) v13_1)).map (el (el ([[0, 2, 1], [1, 0, 2], [2, 1, 0]] : List (List Int)) v15_2))).map (el (el ([[0, 2, 1], [1, 0, 2], [2, 1, 0]] : List (List Int)) v13_1))) →
 ((o97_2.length : Int) + (([v17_3]).length : Int) ≤ 1000000000) ∧
 (InI (v15_2 + 1)) ∧
 (H6 (v15_2 + 1) (o97_2 ++ ([v17_3])) ∧ m6 (v15_2 + 1) (o97_2 ++ ([v17_3])) < m6 v15_2 o97_2))))) ∧
 (¬ (v15_2 < (([[0, 2, 1], [1, 0, 2], [2, 1, 0]] : List (List Int)).length : Int)) →
 ((o83_1.length : Int) + (([o97_2]).length : Int) ≤ 1000000000) ∧
 (InI (v13_1 + 1)) ∧
 (H5 (v13_1 + 1) (o83_1 ++ ([o97_2])) ∧ m5 (v13_1 + 1) (o83_1 ++ ([o97_2])) < m5 v13_1 o83_1))))) ∧
 (¬ (v13_1 < (([[0, 2, 1], [1, 0, 2], [2, 1, 0]] : List (List Int)).length : Int)) →
 Q o83_1 o7_0 o7_1 o7_2)))) ∧
 (¬ (r7_0 = 0) →
 ∃ (H8 : Int → List (List Int) → Prop) (m8 : Int → List (List Int) → Nat),
 H8 0 ([] : List (List Int)) ∧
 ∀ (v13_1 : Int) (o83_1 : List (List Int)), H8 v13_1 o83_1 →
 ( ((v13_1 < ((growL (3 : Int) []).length : Int) →
 ∃ (H9 : Int → List Int → Prop) (m9 : Int → List Int → Nat),
 H9 0 ([] : List Int) ∧
 ∀ (v15_2 : Int) (o97_2 : List Int), H9 v15_2 o97_2 →
 ( ((v15_2 < ((growL (3 : Int) []).length : Int) →
 (0 ≤ v13_1 ∧ v13_1 < ((growL (3 : Int) []).length : Int)) ∧
 (0 ≤ v15_2 ∧ v15_2 < ((growL (3 : Int) []).length : Int)) ∧
 (0 ≤ v13_1 ∧ v13_1 < ((growL (3 : Int) []).length : Int)) ∧
 (small (el (growL (3 : Int) []) v13_1) ∧ isPerm (el (growL (3 : Int) []) v13_1) = true) ∧
 (small (backI (el (growL (3 : Int) []) v13_1)) ∧ ∀ x_ ∈ (backI (el (growL (3 : Int) []) v13_1)), 0 ≤ x_ ∧ x_ < ((el (growL (3 : Int) []) v15_2).length : Int)) ∧
 (small ((backI (el (growL (3 : Int) []) v13_1)).map (el (el (growL (3 : Int) []) v15_2))) ∧ ∀ x_ ∈ ((backI (el (growL (3 : Int) []) v13_1)).map (el (el (growL (3 : Int) []) v15_2))), 0 ≤ x_ ∧ x_ < ((el (growL (3 : Int) []) v13_1).length : Int)) ∧
 ∃ (H10 : Int → Prop) (m10 : Int → Nat),
 H10 0 ∧
 ∀ (v17_3 : Int), H10 v17_3 →
 ( (0 ≤ v17_3 ∧ v17_3 < ((growL (3 : Int) []).length : Int)) ∧
 (small (el (growL (3 : Int) []) v17_3) ∧ small (((backI (el (growL (3 : Int) []) v13_1)).map (el (el (growL (3 : Int) []) v15_2))).map (el (el (growL (3 : Int) []) v13_1)))) ∧
 ((¬ ((el (growL (3 : Int) []) v17_3) = (((backI (el (growL (3 : Int) []) v13_1)).map (el (el (growL (3 : Int) []) v15_2))).map (el (el (growL (3 : Int) []) v13_1)))) →
 (InI (v17_3 + 1)) ∧
 (H10 (v17_3 + 1) ∧ m10 (v17_3 + 1) < m10 v17_3)) ∧
 ((el (growL (3 : Int) []) v17_3) = (((backI (el (growL (3 : Int) []) v13_1)).map (el (el (growL (3 : Int) []) v15_2))).map (el (el (growL (3 : Int) []) v13_1))) →
 ((o97_2.length : Int) + (([v17_3]).length : Int) ≤ 1000000000) ∧
 (InI (v15_2 + 1)) ∧
 (H9 (v15_2 + 1) (o97_2 ++ ([v17_3])) ∧ m9 (v15_2 + 1) (o97_2 ++ ([v17_3])) < m9 v15_2 o97_2))))) ∧
 (¬ (v15_2 < ((growL (3 : Int) []).length : Int)) →
 ((o83_1.length : Int) + (([o97_2]).length : Int) ≤ 1000000000) ∧
 (InI (v13_1 + 1)) ∧
 (H8 (v13_1 + 1) (o83_1 ++ ([o97_2])) ∧ m8 (v13_1 + 1) (o83_1 ++ ([o97_2])) < m8 v13_1 o83_1))))) ∧
 (¬ (v13_1 < ((growL (3 : Int) []).length : Int)) →
 Q o83_1 o7_0 o7_1 o7_2)))))) ∧
 (¬ (6 ≤ most) →
 (okS o2_0 o2_1 o2_2 ∧ InI (1 + r1_0)) ∧
 ∀ (r8_0 : Int) (o8_0 : List Int) (o8_1 : Int) (o8_2 : Int), (nxP (1 + r1_0) r8_0 ∧ o8_0 = o2_0 ∧ okS o2_0 o8_1 o8_2) →
 (InI ((if 1 < r8_0 then r8_0 else 1) - 1)) ∧
 ((0 : Int) ≤ 2 ∧ (0 : Int) < (if 1 < r8_0 then r8_0 else 1)) ∧
 (InI ((1 + r1_0) - r8_0)) ∧
 (InI ((1 + r1_0) - r8_0)) ∧
 ((0 : Int) ≤ 1 ∧ (0 : Int) < (1 + r1_0) - r8_0) ∧
 (1 ≤ (if 1 < r8_0 then r8_0 else 1) ∧ (if 1 < r8_0 then r8_0 else 1) ≤ 1000 ∧ 0 ≤ ((if 1 < r8_0 then r8_0 else 1) - 1) ∧ ((if 1 < r8_0 then r8_0 else 1) - 1) ≤ 1000 ∧ 0 ≤ (2 % (if 1 < r8_0 then r8_0 else 1)) ∧ (2 % (if 1 < r8_0 then r8_0 else 1)) ≤ 1000) ∧
 (1 ≤ ((1 + r1_0) - r8_0) ∧ ((1 + r1_0) - r8_0) ≤ 1000 ∧ 0 ≤ (1 % ((1 + r1_0) - r8_0)) ∧ (1 % ((1 + r1_0) - r8_0)) ≤ 1000 ∧ 0 ≤ (0 : Int) ∧ (0 : Int) ≤ 1000) ∧
 ((r8_0 = 0 →
 Q (tab ((1 + r1_0) - r8_0) (fun x_ y_ => ((0 : Int) * x_ + (1 % ((1 + r1_0) - r8_0)) * y_) % ((1 + r1_0) - r8_0))) o8_0 o8_1 o8_2) ∧
 (¬ (r8_0 = 0) →
 (InI ((1 + r1_0) - r8_0)) ∧
 (okS o8_0 o8_1 o8_2 ∧ ((1 + r1_0) - r8_0) ≤ 1000) ∧
 ∀ (r9_0 : List Int) (o9_0 : List Int) (o9_1 : Int) (o9_2 : Int), (((r9_0.length : Int) = max ((1 + r1_0) - r8_0) 0 ∧ (∀ z_ ∈ r9_0, 0 ≤ z_ ∧ z_ < ((1 + r1_0) - r8_0)) ∧ r9_0.Nodup) ∧ o9_0 = o8_0 ∧ okS o8_0 o9_1 o9_2) →
 ∃ (H11 : Int → List (List Int) → Prop) (m11 : Int → List (List Int) → Nat),
 H11 0 ([] : List (List Int)) ∧
 ∀ (v23_1 : Int) (o165_1 : List (List Int)), H11 v23_1 o165_1 →
 ( ((v23_1 < 1 + r1_0 →
 ∃ (H12 : Int → List Int → Prop) (m12 : Int → List Int → Nat),
 H12 0 ([] : List Int) ∧
 ∀ (v25_2 : Int) (o171_2 : List Int), H12 v25_2 o171_2 →
 ( ((v25_2 < 1 + r1_0 →
 ((v23_1 < r8_0 →
 ((v25_2 < r8_0 →
 (0 ≤ v23_1 ∧ v23_1 < ((tab (if 1 < r8_0 then r8_0 else 1) (fun x_ y_ => ((2 % (if 1 < r8_0 then r8_0 else 1)) * x_ + ((if 1 < r8_0 then r8_0 else 1) - 1) * y_) % (if 1 < r8_0 then r8_0 else 1))).length : Int)) ∧
 (0 ≤ v25_2 ∧ v25_2 < ((el (tab (if 1 < r8_0 then r8_0 else 1) (fun x_ y_ => ((2 % (if 1 < r8_0 then r8_0 else 1)) * x_ + ((if 1 < r8_0 then r8_0 else 1) - 1) * y_) % (if 1 < r8_0 then r8_0 else 1))) v23_1).length : Int)) ∧
 ((o171_2.length : Int) + (([el (el (tab (if 1 < r8_0 then r8_0 else 1) (fun x_ y_ => ((2 % (if 1 < r8_0 then r8_0 else 1)) * x_ + ((if 1 < r8_0 then r8_0 else 1) - 1) * y_) % (if 1 < r8_0 then r8_0 else 1))) v23_1) v25_2]).length : Int) ≤ 1000000000) ∧
 (InI (v25_2 + 1)) ∧
 (H12 (v25_2 + 1) (o171_2 ++ ([el (el (tab (if 1 < r8_0 then r8_0 else 1) (fun x_ y_ => ((2 % (if 1 < r8_0 then r8_0 else 1)) * x_ + ((if 1 < r8_0 then r8_0 else 1) - 1) * y_) % (if 1 < r8_0 then r8_0 else 1))) v23_1) v25_2])) ∧ m12 (v25_2 + 1) (o171_2 ++ ([el (el (tab (if 1 < r8_0 then r8_0 else 1) (fun x_ y_ => ((2 % (if 1 < r8_0 then r8_0 else 1)) * x_ + ((if 1 < r8_0 then r8_0 else 1) - 1) * y_) % (if 1 < r8_0 then r8_0 else 1))) v23_1) v25_2])) < m12 v25_2 o171_2)) ∧
 (¬ (v25_2 < r8_0) →
 ((r8_0 ≤ v23_1 →
 ((r8_0 ≤ v25_2 →
 (InI (v23_1 - r8_0)) ∧
 (0 ≤ v23_1 - r8_0 ∧ v23_1 - r8_0 < ((tab ((1 + r1_0) - r8_0) (fun x_ y_ => ((0 : Int) * x_ + (1 % ((1 + r1_0) - r8_0)) * y_) % ((1 + r1_0) - r8_0))).length : Int)) ∧
 (InI (v25_2 - r8_0)) ∧
 (0 ≤ v25_2 - r8_0 ∧ v25_2 - r8_0 < ((el (tab ((1 + r1_0) - r8_0) (fun x_ y_ => ((0 : Int) * x_ + (1 % ((1 + r1_0) - r8_0)) * y_) % ((1 + r1_0) - r8_0))) (v23_1 - r8_0)).length : Int)) ∧
 (0 ≤ el (el (tab ((1 + r1_0) - r8_0) (fun x_ y_ => ((0 : Int) * x_ + (1 % ((1 + r1_0) - r8_0)) * y_) % ((1 + r1_0) - r8_0))) (v23_1 - r8_0)) (v25_2 - r8_0) ∧ el (el (tab ((1 + r1_0) - r8_0) (fun x_ y_ => ((0 : Int) * x_ + (1 % ((1 + r1_0) - r8_0)) * y_) % ((1 + r1_0) - r8_0))) (v23_1 - r8_0)) (v25_2 - r8_0) < (r9_0.length : Int)) ∧
 (InI (r8_0 + (el r9_0 (el (el (tab ((1 + r1_0) - r8_0) (fun x_ y_ => ((0 : Int) * x_ + (1 % ((1 + r1_0) - r8_0)) * y_) % ((1 + r1_0) - r8_0))) (v23_1 - r8_0)) (v25_2 - r8_0))))) ∧
 ((o171_2.length : Int) + (([r8_0 + (el r9_0 (el (el (tab ((1 + r1_0) - r8_0) (fun x_ y_ => ((0 : Int) * x_ + (1 % ((1 + r1_0) - r8_0)) * y_) % ((1 + r1_0) - r8_0))) (v23_1 - r8_0)) (v25_2 - r8_0)))]).length : Int) ≤ 1000000000) ∧
 (InI (v25_2 + 1)) ∧
 (H12 (v25_2 + 1) (o171_2 ++ ([r8_0 + (el r9_0 (el (el (tab ((1 + r1_0) - r8_0) (fun x_ y_ => ((0 : Int) * x_ + (1 % ((1 + r1_0) - r8_0)) * y_) % ((1 + r1_0) - r8_0))) (v23_1 - r8_0)) (v25_2 - r8_0)))])) ∧ m12 (v25_2 + 1) (o171_2 ++ ([r8_0 + (el r9_0 (el (el (tab ((1 + r1_0) - r8_0) (fun x_ y_ => ((0 : Int) * x_ + (1 % ((1 + r1_0) - r8_0)) * y_) % ((1 + r1_0) - r8_0))) (v23_1 - r8_0)) (v25_2 - r8_0)))])) < m12 v25_2 o171_2)) ∧
 (¬ (r8_0 ≤ v25_2) →
 ((o171_2.length : Int) + (([v25_2]).length : Int) ≤ 1000000000) ∧
 (InI (v25_2 + 1)) ∧
 (H12 (v25_2 + 1) (o171_2 ++ ([v25_2])) ∧ m12 (v25_2 + 1) (o171_2 ++ ([v25_2])) < m12 v25_2 o171_2)))) ∧
 (¬ (r8_0 ≤ v23_1) →
 ((o171_2.length : Int) + (([v25_2]).length : Int) ≤ 1000000000) ∧
 (InI (v25_2 + 1)) ∧
 (H12 (v25_2 + 1) (o171_2 ++ ([v25_2])) ∧ m12 (v25_2 + 1) (o171_2 ++ ([v25_2])) < m12 v25_2 o171_2)))))) ∧
 (¬ (v23_1 < r8_0) →
 ((r8_0 ≤ v23_1 →
 ((r8_0 ≤ v25_2 →
 (InI (v23_1 - r8_0)) ∧
 (0 ≤ v23_1 - r8_0 ∧ v23_1 - r8_0 < ((tab ((1 + r1_0) - r8_0) (fun x_ y_ => ((0 : Int) * x_ + (1 % ((1 + r1_0) - r8_0)) * y_) % ((1 + r1_0) - r8_0))).length : Int)) ∧
 (InI (v25_2 - r8_0)) ∧
 (0 ≤ v25_2 - r8_0 ∧ v25_2 - r8_0 < ((el (tab ((1 + r1_0) - r8_0) (fun x_ y_ => ((0 : Int) * x_ + (1 % ((1 + r1_0) - r8_0)) * y_) % ((1 + r1_0) - r8_0))) (v23_1 - r8_0)).length : Int)) ∧
 (0 ≤ el (el (tab ((1 + r1_0) - r8_0) (fun x_ y_ => ((0 : Int) * x_ + (1 % ((1 + r1_0) - r8_0)) * y_) % ((1 + r1_0) - r8_0))) (v23_1 - r8_0)) (v25_2 - r8_0) ∧ el (el (tab ((1 + r1_0) - r8_0) (fun x_ y_ => ((0 : Int) * x_ + (1 % ((1 + r1_0) - r8_0)) * y_) % ((1 + r1_0) - r8_0))) (v23_1 - r8_0)) (v25_2 - r8_0) < (r9_0.length : Int)) ∧
 (InI (r8_0 + (el r9_0 (el (el (tab ((1 + r1_0) - r8_0) (fun x_ y_ => ((0 : Int) * x_ + (1 % ((1 + r1_0) - r8_0)) * y_) % ((1 + r1_0) - r8_0))) (v23_1 - r8_0)) (v25_2 - r8_0))))) ∧
 ((o171_2.length : Int) + (([r8_0 + (el r9_0 (el (el (tab ((1 + r1_0) - r8_0) (fun x_ y_ => ((0 : Int) * x_ + (1 % ((1 + r1_0) - r8_0)) * y_) % ((1 + r1_0) - r8_0))) (v23_1 - r8_0)) (v25_2 - r8_0)))]).length : Int) ≤ 1000000000) ∧
 (InI (v25_2 + 1)) ∧
 (H12 (v25_2 + 1) (o171_2 ++ ([r8_0 + (el r9_0 (el (el (tab ((1 + r1_0) - r8_0) (fun x_ y_ => ((0 : Int) * x_ + (1 % ((1 + r1_0) - r8_0)) * y_) % ((1 + r1_0) - r8_0))) (v23_1 - r8_0)) (v25_2 - r8_0)))])) ∧ m12 (v25_2 + 1) (o171_2 ++ ([r8_0 + (el r9_0 (el (el (tab ((1 + r1_0) - r8_0) (fun x_ y_ => ((0 : Int) * x_ + (1 % ((1 + r1_0) - r8_0)) * y_) % ((1 + r1_0) - r8_0))) (v23_1 - r8_0)) (v25_2 - r8_0)))])) < m12 v25_2 o171_2)) ∧
 (¬ (r8_0 ≤ v25_2) →
 ((o171_2.length : Int) + (([v25_2]).length : Int) ≤ 1000000000) ∧
 (InI (v25_2 + 1)) ∧
 (H12 (v25_2 + 1) (o171_2 ++ ([v25_2])) ∧ m12 (v25_2 + 1) (o171_2 ++ ([v25_2])) < m12 v25_2 o171_2)))) ∧
 (¬ (r8_0 ≤ v23_1) →
 ((o171_2.length : Int) + (([v25_2]).length : Int) ≤ 1000000000) ∧
 (InI (v25_2 + 1)) ∧
 (H12 (v25_2 + 1) (o171_2 ++ ([v25_2])) ∧ m12 (v25_2 + 1) (o171_2 ++ ([v25_2])) < m12 v25_2 o171_2)))))) ∧
 (¬ (v25_2 < 1 + r1_0) →
 ((o165_1.length : Int) + (([o171_2]).length : Int) ≤ 1000000000) ∧
 (InI (v23_1 + 1)) ∧
 (H11 (v23_1 + 1) (o165_1 ++ ([o171_2])) ∧ m11 (v23_1 + 1) (o165_1 ++ ([o171_2])) < m11 v23_1 o165_1))))) ∧
 (¬ (v23_1 < 1 + r1_0) →
 Q o165_1 o9_0 o9_1 o9_2)))))))) ∧
 (¬ (r2_0 = 3) →
 (okS o2_0 o2_1 o2_2 ∧ InI (1 + r1_0)) ∧
 ∀ (r10_0 : Int) (o10_0 : List Int) (o10_1 : Int) (o10_2 : Int), (nxP (1 + r1_0) r10_0 ∧ o10_0 = o2_0 ∧ okS o2_0 o10_1 o10_2) →
 (InI ((if 1 < r10_0 then r10_0 else 1) - 1)) ∧
 ((0 : Int) ≤ 2 ∧ (0 : Int) < (if 1 < r10_0 then r10_0 else 1)) ∧
 (InI ((1 + r1_0) - r10_0)) ∧
 (InI ((1 + r1_0) - r10_0)) ∧
 ((0 : Int) ≤ 1 ∧ (0 : Int) < (1 + r1_0) - r10_0) ∧
 (1 ≤ (if 1 < r10_0 then r10_0 else 1) ∧ (if 1 < r10_0 then r10_0 else 1) ≤ 1000 ∧ 0 ≤ ((if 1 < r10_0 then r10_0 else 1) - 1) ∧ ((if 1 < r10_0 then r10_0 else 1) - 1) ≤ 1000 ∧ 0 ≤ (2 % (if 1 < r10_0 then r10_0 else 1)) ∧ (2 % (if 1 < r10_0 then r10_0 else 1)) ≤ 1000) ∧
 (1 ≤ ((1 + r1_0) - r10_0) ∧ ((1 + r1_0) - r10_0) ≤ 1000 ∧ 0 ≤ (1 % ((1 + r1_0) - r10_0)) ∧ (1 % ((1 + r1_0) - r10_0)) ≤ 1000 ∧ 0 ≤ (0 : Int) ∧ (0 : Int) ≤ 1000) ∧
 ((r10_0 = 0 →
 Q (tab ((1 + r1_0) - r10_0) (fun x_ y_ => ((0 : Int) * x_ + (1 % ((1 + r1_0) - r10_0)) * y_) % ((1 + r1_0) - r10_0))) o10_0 o10_1 o10_2) ∧
 (¬ (r10_0 = 0) →
 (InI ((1 + r1_0) - r10_0)) ∧
 (okS o10_0 o10_1 o10_2 ∧ ((1 + r1_0) - r10_0) ≤ 1000) ∧
 ∀ (r11_0 : List Int) (o11_0 : List Int) (o11_1 : Int) (o11_2 : Int), (((r11_0.length : Int) = max ((1 + r1_0) - r10_0) 0 ∧ (∀ z_ ∈ r11_0, 0 ≤ z_ ∧ z_ < ((1 + r1_0) - r10_0)) ∧ r11_0.Nodup) ∧ o11_0 = o10_0 ∧ okS o10_0 o11_1 o11_2) →
 ∃ (H13 : Int → List (List Int) → Prop) (m13 : Int → List (List Int) → Nat),
 H13 0 ([] : List (List Int)) ∧
 ∀ (v23_1 : Int) (o165_1 : List (List Int)), H13 v23_1 o165_1 →
 ( ((v23_1 < 1 + r1_0 →
 ∃ (H14 : Int → List Int → Prop) (m14 : Int → List Int → Nat),
 H14 0 ([] : List Int) ∧
 ∀ (v25_2 : Int) (o171_2 : List Int), H14 v25_2 o171_2 →
 ( ((v25_2 < 1 + r1_0 →
 ((v23_1 < r10_0 →
 ((v25_2 < r10_0 →
 (0 ≤ v23_1 ∧ v23_1 < ((tab (if 1 < r10_0 then r10_0 else 1) (fun x_ y_ => ((2 % (if 1 < r10_0 then r10_0 else 1)) * x_ + ((if 1 < r10_0 then r10_0 else 1) - 1) * y_) % (if 1 < r10_0 then r10_0 else 1))).length : Int)) ∧
 (0 ≤ v25_2 ∧ v25_2 < ((el (tab (if 1 < r10_0 then r10_0 else 1) (fun x_ y_ => ((2 % (if 1 < r10_0 then r10_0 else 1)) * x_ + ((if 1 < r10_0 then r10_0 else 1) - 1) * y_) % (if 1 < r10_0 then r10_0 else 1))) v23_1).length : Int)) ∧
 ((o171_2.length : Int) + (([el (el (tab (if 1 < r10_0 then r10_0 else 1) (fun x_ y_ => ((2 % (if 1 < r10_0 then r10_0 else 1)) * x_ + ((if 1 < r10_0 then r10_0 else 1) - 1) * y_) % (if 1 < r10_0 then r10_0 else 1))) v23_1) v25_2]).length : Int) ≤ 1000000000) ∧
 (InI (v25_2 + 1)) ∧
 (H14 (v25_2 + 1) (o171_2 ++ ([el (el (tab (if 1 < r10_0 then r10_0 else 1) (fun x_ y_ => ((2 % (if 1 < r10_0 then r10_0 else 1)) * x_ + ((if 1 < r10_0 then r10_0 else 1) - 1) * y_) % (if 1 < r10_0 then r10_0 else 1))) v23_1) v25_2])) ∧ m14 (v25_2 + 1) (o171_2 ++ ([el (el (tab (if 1 < r10_0 then r10_0 else 1) (fun x_ y_ => ((2 % (if 1 < r10_0 then r10_0 else 1)) * x_ + ((if 1 < r10_0 then r10_0 else 1) - 1) * y_) % (if 1 < r10_0 then r10_0 else 1))) v23_1) v25_2])) < m14 v25_2 o171_2)) ∧
 (¬ (v25_2 < r10_0) →
 ((r10_0 ≤ v23_1 →
 ((r10_0 ≤ v25_2 →
 (InI (v23_1 - r10_0)) ∧
 (0 ≤ v23_1 - r10_0 ∧ v23_1 - r10_0 < ((tab ((1 + r1_0) - r10_0) (fun x_ y_ => ((0 : Int) * x_ + (1 % ((1 + r1_0) - r10_0)) * y_) % ((1 + r1_0) - r10_0))).length : Int)) ∧
 (InI (v25_2 - r10_0)) ∧
 (0 ≤ v25_2 - r10_0 ∧ v25_2 - r10_0 < ((el (tab ((1 + r1_0) - r10_0) (fun x_ y_ => ((0 : Int) * x_ + (1 % ((1 + r1_0) - r10_0)) * y_) % ((1 + r1_0) - r10_0))) (v23_1 - r10_0)).length : Int)) ∧
 (0 ≤ el (el (tab ((1 + r1_0) - r10_0) (fun x_ y_ => ((0 : Int) * x_ + (1 % ((1 + r1_0) - r10_0)) * y_) % ((1 + r1_0) - r10_0))) (v23_1 - r10_0)) (v25_2 - r10_0) ∧ el (el (tab ((1 + r1_0) - r10_0) (fun x_ y_ => ((0 : Int) * x_ + (1 % ((1 + r1_0) - r10_0)) * y_) % ((1 + r1_0) - r10_0))) (v23_1 - r10_0)) (v25_2 - r10_0) < (r11_0.length : Int)) ∧
 (InI (r10_0 + (el r11_0 (el (el (tab ((1 + r1_0) - r10_0) (fun x_ y_ => ((0 : Int) * x_ + (1 % ((1 + r1_0) - r10_0)) * y_) % ((1 + r1_0) - r10_0))) (v23_1 - r10_0)) (v25_2 - r10_0))))) ∧
 ((o171_2.length : Int) + (([r10_0 + (el r11_0 (el (el (tab ((1 + r1_0) - r10_0) (fun x_ y_ => ((0 : Int) * x_ + (1 % ((1 + r1_0) - r10_0)) * y_) % ((1 + r1_0) - r10_0))) (v23_1 - r10_0)) (v25_2 - r10_0)))]).length : Int) ≤ 1000000000) ∧
 (InI (v25_2 + 1)) ∧
 (H14 (v25_2 + 1) (o171_2 ++ ([r10_0 + (el r11_0 (el (el (tab ((1 + r1_0) - r10_0) (fun x_ y_ => ((0 : Int) * x_ + (1 % ((1 + r1_0) - r10_0)) * y_) % ((1 + r1_0) - r10_0))) (v23_1 - r10_0)) (v25_2 - r10_0)))])) ∧ m14 (v25_2 + 1) (o171_2 ++ ([r10_0 + (el r11_0 (el (el (tab ((1 + r1_0) - r10_0) (fun x_ y_ => ((0 : Int) * x_ + (1 % ((1 + r1_0) - r10_0)) * y_) % ((1 + r1_0) - r10_0))) (v23_1 - r10_0)) (v25_2 - r10_0)))])) < m14 v25_2 o171_2)) ∧
 (¬ (r10_0 ≤ v25_2) →
 ((o171_2.length : Int) + (([v25_2]).length : Int) ≤ 1000000000) ∧
 (InI (v25_2 + 1)) ∧
 (H14 (v25_2 + 1) (o171_2 ++ ([v25_2])) ∧ m14 (v25_2 + 1) (o171_2 ++ ([v25_2])) < m14 v25_2 o171_2)))) ∧
 (¬ (r10_0 ≤ v23_1) →
 ((o171_2.length : Int) + (([v25_2]).length : Int) ≤ 1000000000) ∧
 (InI (v25_2 + 1)) ∧
 (H14 (v25_2 + 1) (o171_2 ++ ([v25_2])) ∧ m14 (v25_2 + 1) (o171_2 ++ ([v25_2])) < m14 v25_2 o171_2)))))) ∧
 (¬ (v23_1 < r10_0) →
 ((r10_0 ≤ v23_1 →
 ((r10_0 ≤ v25_2 →
 (InI (v23_1 - r10_0)) ∧
 (0 ≤ v23_1 - r10_0 ∧ v23_1 - r10_0 < ((tab ((1 + r1_0) - r10_0) (fun x_ y_ => ((0 : Int) * x_ + (1 % ((1 + r1_0) - r10_0)) * y_) % ((1 + r1_0) - r10_0))).length : Int)) ∧
 (InI (v25_2 - r10_0)) ∧
 (0 ≤ v25_2 - r10_0 ∧ v25_2 - r10_0 < ((el (tab ((1 + r1_0) - r10_0) (fun x_ y_ => ((0 : Int) * x_ + (1 % ((1 + r1_0) - r10_0)) * y_) % ((1 + r1_0) - r10_0))) (v23_1 - r10_0)).length : Int)) ∧
 (0 ≤ el (el (tab ((1 + r1_0) - r10_0) (fun x_ y_ => ((0 : Int) * x_ + (1 % ((1 + r1_0) - r10_0)) * y_) % ((1 + r1_0) - r10_0))) (v23_1 - r10_0)) (v25_2 - r10_0) ∧ el (el (tab ((1 + r1_0) - r10_0) (fun x_ y_ => ((0 : Int) * x_ + (1 % ((1 + r1_0) - r10_0)) * y_) % ((1 + r1_0) - r10_0))) (v23_1 - r10_0)) (v25_2 - r10_0) < (r11_0.length : Int)) ∧
 (InI (r10_0 + (el r11_0 (el (el (tab ((1 + r1_0) - r10_0) (fun x_ y_ => ((0 : Int) * x_ + (1 % ((1 + r1_0) - r10_0)) * y_) % ((1 + r1_0) - r10_0))) (v23_1 - r10_0)) (v25_2 - r10_0))))) ∧
 ((o171_2.length : Int) + (([r10_0 + (el r11_0 (el (el (tab ((1 + r1_0) - r10_0) (fun x_ y_ => ((0 : Int) * x_ + (1 % ((1 + r1_0) - r10_0)) * y_) % ((1 + r1_0) - r10_0))) (v23_1 - r10_0)) (v25_2 - r10_0)))]).length : Int) ≤ 1000000000) ∧
 (InI (v25_2 + 1)) ∧
 (H14 (v25_2 + 1) (o171_2 ++ ([r10_0 + (el r11_0 (el (el (tab ((1 + r1_0) - r10_0) (fun x_ y_ => ((0 : Int) * x_ + (1 % ((1 + r1_0) - r10_0)) * y_) % ((1 + r1_0) - r10_0))) (v23_1 - r10_0)) (v25_2 - r10_0)))])) ∧ m14 (v25_2 + 1) (o171_2 ++ ([r10_0 + (el r11_0 (el (el (tab ((1 + r1_0) - r10_0) (fun x_ y_ => ((0 : Int) * x_ + (1 % ((1 + r1_0) - r10_0)) * y_) % ((1 + r1_0) - r10_0))) (v23_1 - r10_0)) (v25_2 - r10_0)))])) < m14 v25_2 o171_2)) ∧
 (¬ (r10_0 ≤ v25_2) →
 ((o171_2.length : Int) + (([v25_2]).length : Int) ≤ 1000000000) ∧
 (InI (v25_2 + 1)) ∧
 (H14 (v25_2 + 1) (o171_2 ++ ([v25_2])) ∧ m14 (v25_2 + 1) (o171_2 ++ ([v25_2])) < m14 v25_2 o171_2)))) ∧
 (¬ (r10_0 ≤ v23_1) →
 ((o171_2.length : Int) + (([v25_2]).length : Int) ≤ 1000000000) ∧
 (InI (v25_2 + 1)) ∧
 (H14 (v25_2 + 1) (o171_2 ++ ([v25_2])) ∧ m14 (v25_2 + 1) (o171_2 ++ ([v25_2])) < m14 v25_2 o171_2)))))) ∧
 (¬ (v25_2 < 1 + r1_0) →
 ((o165_1.length : Int) + (([o171_2]).length : Int) ≤ 1000000000) ∧
 (InI (v23_1 + 1)) ∧
 (H13 (v23_1 + 1) (o165_1 ++ ([o171_2])) ∧ m13 (v23_1 + 1) (o165_1 ++ ([o171_2])) < m13 v23_1 o165_1))))) ∧
 (¬ (v23_1 < 1 + r1_0) →
 Q o165_1 o11_0 o11_1 o11_2)))))))))))))

def wp_spec_l03Draw (s1 : List Int) (s2 : Int) (s3 : Int) (most : Int) (Q : List (List Int) → List Int → Int → Int → Prop) : Prop :=
 (okS s1 s2 s3 ∧ 1 ≤ most ∧ most ≤ 12) ∧
 ∀ (r1_0 : List (List Int)) (o1_0 : List Int) (o1_1 : Int) (o1_2 : Int), ((isTab r1_0 = true ∧ (r1_0.length : Int) ≤ most) ∧ o1_0 = s1 ∧ okS s1 o1_1 o1_2) →
 (okS o1_0 o1_1 o1_2 ∧ InI (2 : Int)) ∧
 ∀ (r2_0 : Int) (o2_0 : List Int) (o2_1 : Int) (o2_2 : Int), (nxP (2 : Int) r2_0 ∧ o2_0 = o1_0 ∧ okS o1_0 o2_1 o2_2) →
 ((r2_0 = 0 →
 (okS o2_0 o2_1 o2_2 ∧ (r1_0.length : Int) ≤ 1000) ∧
 ∀ (r3_0 : List Int) (o3_0 : List Int) (o3_1 : Int) (o3_2 : Int), (((r3_0.length : Int) = max (r1_0.length : Int) 0 ∧ (∀ z_ ∈ r3_0, 0 ≤ z_ ∧ z_ < (r1_0.length : Int)) ∧ r3_0.Nodup) ∧ o3_0 = o2_0 ∧ okS o2_0 o3_1 o3_2) →
 (isTab r1_0 = true ∧ (r3_0.length : Int) = (r1_0.length : Int) ∧ ∀ z_ ∈ r3_0, 0 ≤ z_ ∧ z_ < (r1_0.length : Int)) ∧
 ∀ (r4_0 : List (List Int)), (isTab r4_0 = true ∧ r4_0.length = r1_0.length ∧ (isPerm r3_0 = true → ∀ u_ v_ : Int, (0 ≤ u_ ∧ u_ < (r1_0.length : Int)) → (0 ≤ v_ ∧ v_ < (r1_0.length : Int)) → el (el r4_0 (el r3_0 u_)) (el r3_0 v_) = el r3_0 (el (el r1_0 u_) v_))) →
 Q r4_0 o3_0 o3_1 o3_2) ∧
 (¬ (r2_0 = 0) →
 Q r1_0 o2_0 o2_1 o2_2))

def wp_spec_l03DrawAny (s1 : List Int) (s2 : Int) (s3 : Int) (most : Int) (Q : List (List Int) → List Int → Int → Int → Prop) : Prop :=
 (okS s1 s2 s3 ∧ 1 ≤ most ∧ most ≤ 12) ∧
 ∀ (r1_0 : List (List Int)) (o1_0 : List Int) (o1_1 : Int) (o1_2 : Int), ((isTab r1_0 = true ∧ (r1_0.length : Int) ≤ most) ∧ o1_0 = s1 ∧ okS s1 o1_1 o1_2) →
 (okS o1_0 o1_1 o1_2 ∧ InI (24 : Int)) ∧
 ∀ (r2_0 : Int) (o2_0 : List Int) (o2_1 : Int) (o2_2 : Int), (nxP (24 : Int) r2_0 ∧ o2_0 = o1_0 ∧ okS o1_0 o2_1 o2_2) →
 ((r2_0 = 0 →
 (okS o2_0 o2_1 o2_2 ∧ InI (r1_0.length : Int)) ∧
 ∀ (r3_0 : Int) (o3_0 : List Int) (o3_1 : Int) (o3_2 : Int), (nxP (r1_0.length : Int) r3_0 ∧ o3_0 = o2_0 ∧ okS o2_0 o3_1 o3_2) →
 (okS o3_0 o3_1 o3_2 ∧ (r1_0.length : Int) ≤ 1000) ∧
 ∀ (r4_0 : List Int) (o4_0 : List Int) (o4_1 : Int) (o4_2 : Int), (((r4_0.length : Int) = max (r1_0.length : Int) 0 ∧ (∀ z_ ∈ r4_0, 0 ≤ z_ ∧ z_ < (r1_0.length : Int)) ∧ r4_0.Nodup) ∧ o4_0 = o3_0 ∧ okS o3_0 o4_1 o4_2) →
 (0 ≤ r3_0 ∧ r3_0 < (r1_0.length : Int)) ∧
 Q (se r1_0 r3_0 r4_0) o4_0 o4_1 o4_2) ∧
 (¬ (r2_0 = 0) →
 ((r2_0 = 1 →
 (InI ((r1_0.length : Int) + 1)) ∧
 (okS o2_0 o2_1 o2_2 ∧ InI (r1_0.length : Int)) ∧
 ∀ (r5_0 : Int) (o5_0 : List Int) (o5_1 : Int) (o5_2 : Int), (nxP (r1_0.length : Int) r5_0 ∧ o5_0 = o2_0 ∧ okS o2_0 o5_1 o5_2) →
 (0 ≤ r5_0 ∧ r5_0 < (r1_0.length : Int)) ∧
 (okS o5_0 o5_1 o5_2 ∧ InI (r1_0.length : Int)) ∧
 ∀ (r6_0 : Int) (o6_0 : List Int) (o6_1 : Int) (o6_2 : Int), (nxP (r1_0.length : Int) r6_0 ∧ o6_0 = o5_0 ∧ okS o5_0 o6_1 o6_2) →
 (okS o6_0 o6_1 o6_2 ∧ InI ((r1_0.length : Int) + 1)) ∧
 ∀ (r7_0 : Int) (o7_0 : List Int) (o7_1 : Int) (o7_2 : Int), (nxP ((r1_0.length : Int) + 1) r7_0 ∧ o7_0 = o6_0 ∧ okS o6_0 o7_1 o7_2) →
 (0 ≤ r6_0 ∧ r6_0 < ((el r1_0 r5_0).length : Int)) ∧
 Q (se r1_0 r5_0 (se (el r1_0 r5_0) r6_0 r7_0)) o7_0 o7_1 o7_2) ∧
 (¬ (r2_0 = 1) →
 ((r2_0 = 2 →
 ((0 : Int) ≤ 1 ∧ 1 ≤ (r1_0.length : Int) ∧ (r1_0.length : Int) ≤ (r1_0.length : Int)) ∧
 Q (sl r1_0 1 (r1_0.length : Int)) o2_0 o2_1 o2_2) ∧
 (¬ (r2_0 = 2) →
 Q r1_0 o2_0 o2_1 o2_2))))))

def wp_laws_big (code : List Int) (Q : Bool → Prop) : Prop :=
 Q (decide (4096 < (code.length : Int)))

def wtT (n k : Int) (A B : List (List Int)) (p : List Int) (Q : List (List Int) → Prop) : Prop :=
       ∃ (H3 : Int → List (List Int) → Prop) (m3 : Int → List (List Int) → Nat),
       H3 0 ([] : List (List Int)) ∧
       ∀ (x : Int) (o : List (List Int)), H3 x o →
       ( ((x < n →
         ∃ (H4 : Int → List Int → Prop) (m4 : Int → List Int → Nat),
         H4 0 ([] : List Int) ∧
         ∀ (y : Int) (r : List Int), H4 y r →
         ( ((y < n →
           ((x < k →
            ((y < k →
             (0 ≤ x ∧ x < (A.length : Int)) ∧
             (0 ≤ y ∧ y < ((el A x).length : Int)) ∧
             ((r.length : Int) + (([el (el A x) y]).length : Int) ≤ 1000000000) ∧
             (InI (y + 1)) ∧
             (H4 (y + 1) (r ++ ([el (el A x) y])) ∧ m4 (y + 1) (r ++ ([el (el A x) y])) < m4 y r)) ∧
            (¬ (y < k) →
             ((k ≤ x →
              ((k ≤ y →
               (InI (x - k)) ∧
               (0 ≤ x - k ∧ x - k < (B.length : Int)) ∧
               (InI (y - k)) ∧
               (0 ≤ y - k ∧ y - k < ((el B (x - k)).length : Int)) ∧
               (0 ≤ el (el B (x - k)) (y - k) ∧ el (el B (x - k)) (y - k) < (p.length : Int)) ∧
               (InI (k + (el p (el (el B (x - k)) (y - k))))) ∧
               ((r.length : Int) + (([k + (el p (el (el B (x - k)) (y - k)))]).length : Int) ≤ 1000000000) ∧
               (InI (y + 1)) ∧
               (H4 (y + 1) (r ++ ([k + (el p (el (el B (x - k)) (y - k)))])) ∧ m4 (y + 1) (r ++ ([k + (el p (el (el B (x - k)) (y - k)))])) < m4 y r)) ∧
              (¬ (k ≤ y) →
               ((r.length : Int) + (([y]).length : Int) ≤ 1000000000) ∧
               (InI (y + 1)) ∧
               (H4 (y + 1) (r ++ ([y])) ∧ m4 (y + 1) (r ++ ([y])) < m4 y r)))) ∧
             (¬ (k ≤ x) →
              ((r.length : Int) + (([y]).length : Int) ≤ 1000000000) ∧
              (InI (y + 1)) ∧
              (H4 (y + 1) (r ++ ([y])) ∧ m4 (y + 1) (r ++ ([y])) < m4 y r)))))) ∧
           (¬ (x < k) →
            ((k ≤ x →
             ((k ≤ y →
              (InI (x - k)) ∧
              (0 ≤ x - k ∧ x - k < (B.length : Int)) ∧
              (InI (y - k)) ∧
              (0 ≤ y - k ∧ y - k < ((el B (x - k)).length : Int)) ∧
              (0 ≤ el (el B (x - k)) (y - k) ∧ el (el B (x - k)) (y - k) < (p.length : Int)) ∧
              (InI (k + (el p (el (el B (x - k)) (y - k))))) ∧
              ((r.length : Int) + (([k + (el p (el (el B (x - k)) (y - k)))]).length : Int) ≤ 1000000000) ∧
              (InI (y + 1)) ∧
              (H4 (y + 1) (r ++ ([k + (el p (el (el B (x - k)) (y - k)))])) ∧ m4 (y + 1) (r ++ ([k + (el p (el (el B (x - k)) (y - k)))])) < m4 y r)) ∧
             (¬ (k ≤ y) →
              ((r.length : Int) + (([y]).length : Int) ≤ 1000000000) ∧
              (InI (y + 1)) ∧
              (H4 (y + 1) (r ++ ([y])) ∧ m4 (y + 1) (r ++ ([y])) < m4 y r)))) ∧
            (¬ (k ≤ x) →
             ((r.length : Int) + (([y]).length : Int) ≤ 1000000000) ∧
             (InI (y + 1)) ∧
             (H4 (y + 1) (r ++ ([y])) ∧ m4 (y + 1) (r ++ ([y])) < m4 y r)))))) ∧
          (¬ (y < n) →
           ((o.length : Int) + (([r]).length : Int) ≤ 1000000000) ∧
           (InI (x + 1)) ∧
           (H3 (x + 1) (o ++ ([r])) ∧ m3 (x + 1) (o ++ ([r])) < m3 x o))))) ∧
        (¬ (x < n) →
         Q o)))
def wtC (A : List (List Int)) (Q : List (List Int) → Prop) : Prop :=
       ∃ (H5 : Int → List (List Int) → Prop) (m5 : Int → List (List Int) → Nat),
       H5 0 ([] : List (List Int)) ∧
       ∀ (x : Int) (o : List (List Int)), H5 x o →
       ( ((x < (A.length : Int) →
         ∃ (H6 : Int → List Int → Prop) (m6 : Int → List Int → Nat),
         H6 0 ([] : List Int) ∧
         ∀ (y : Int) (r : List Int), H6 y r →
         ( ((y < (A.length : Int) →
           (0 ≤ x ∧ x < (A.length : Int)) ∧
           (0 ≤ y ∧ y < (A.length : Int)) ∧
           (0 ≤ x ∧ x < (A.length : Int)) ∧
           (small (el A x) ∧ isPerm (el A x) = true) ∧
           (small (backI (el A x)) ∧ ∀ x_ ∈ (backI (el A x)), 0 ≤ x_ ∧ x_ < ((el A y).length : Int)) ∧
           (small ((backI (el A x)).map (el (el A y))) ∧ ∀ x_ ∈ ((backI (el A x)).map (el (el A y))), 0 ≤ x_ ∧ x_ < ((el A x).length : Int)) ∧
           ∃ (H7 : Int → Prop) (m7 : Int → Nat),
           H7 0 ∧
           ∀ (z : Int), H7 z →
           ( (0 ≤ z ∧ z < (A.length : Int)) ∧
            (small (el A z) ∧ small (((backI (el A x)).map (el (el A y))).map (el (el A x)))) ∧
            ((¬ ((el A z) = (((backI (el A x)).map (el (el A y))).map (el (el A x)))) →
             (InI (z + 1)) ∧
             (H7 (z + 1) ∧ m7 (z + 1) < m7 z)) ∧
            ((el A z) = (((backI (el A x)).map (el (el A y))).map (el (el A x))) →
             ((r.length : Int) + (([z]).length : Int) ≤ 1000000000) ∧
             (InI (y + 1)) ∧
             (H6 (y + 1) (r ++ ([z])) ∧ m6 (y + 1) (r ++ ([z])) < m6 y r))))) ∧
          (¬ (y < (A.length : Int)) →
           ((o.length : Int) + (([r]).length : Int) ≤ 1000000000) ∧
           (InI (x + 1)) ∧
           (H5 (x + 1) (o ++ ([r])) ∧ m5 (x + 1) (o ++ ([r])) < m5 x o))))) ∧
        (¬ (x < (A.length : Int)) →
         Q o)))

theorem tail_ok {n k : Int} {A B : List (List Int)} {p : List Int} {Q : List (List Int) → Prop} (hk : 1 ≤ k ∧ k < n ∧ n ≤ 12) (hA : isTab A = true ∧ (A.length : Int) = k) (hB : isTab B = true ∧ (B.length : Int) = n - k) (hp : (p.length : Int) = n - k ∧ ∀ z ∈ p, 0 ≤ z ∧ z < n - k)
    (hQ : ∀ o, isTab o = true → (o.length : Int) = n → Q o) : wtT n k A B p Q := by
  refine ⟨fun x o => (0 ≤ x ∧ x ≤ n) ∧ (o.length : Int) = x ∧ ∀ r ∈ o, (r.length : Int) = n ∧ ∀ z ∈ r, 0 ≤ z ∧ z < n, fun x _ => (n - x).toNat, ⟨⟨by omega, by omega⟩, rfl, by simp⟩, ?_⟩
  rintro x o ⟨⟨x0, x1⟩, ol, ho⟩
  dsimp only
  refine ⟨fun xn => ?_, fun xn => hQ o (isTab_rows (by omega) (by omega) ho) (by omega)⟩
  refine ⟨fun y r => (0 ≤ y ∧ y ≤ n) ∧ (r.length : Int) = y ∧ ∀ z ∈ r, 0 ≤ z ∧ z < n, fun y _ => (n - y).toNat, ⟨⟨by omega, by omega⟩, rfl, by simp⟩, ?_⟩
  rintro y r ⟨⟨y0, y1⟩, rl, hr⟩
  dsimp only
  have nx : ∀ z : Int, 0 ≤ z → z < n → y < n → (((r.length : Int) + (([z]).length : Int) ≤ 1000000000) ∧ InI (y + 1) ∧ ((0 ≤ y + 1 ∧ y + 1 ≤ n) ∧ ((r ++ [z]).length : Int) = y + 1 ∧ ∀ w ∈ r ++ [z], 0 ≤ w ∧ w < n) ∧ (n - (y + 1)).toNat < (n - y).toNat) := fun z z0 z1 yn =>
    ⟨by rw [List.length_singleton]; omega, ⟨by omega, by omega⟩, ⟨⟨by omega, by omega⟩, by simp; omega, mem_app hr ⟨z0, z1⟩⟩, by omega⟩
  refine ⟨fun yn => ?_, fun yn => ⟨by rw [List.length_singleton]; omega, ⟨by omega, by omega⟩, ⟨⟨by omega, by omega⟩, by simp; omega, mem_app ho ⟨by omega, hr⟩⟩, by omega⟩⟩
  have bb : k ≤ x → k ≤ y → _ := fun xk yk =>
    have a := rk_len hB.1 (x := x - k) ⟨by omega, by omega⟩
    have v := rk_el hB.1 (x := x - k) (y := y - k) ⟨by omega, by omega⟩ ⟨by omega, by omega⟩
    have pv := hp.2 _ (el_mem (i := el (el B (x - k)) (y - k)) ⟨v.1, by omega⟩)
    (⟨(⟨by omega, by omega⟩ : InI (x - k)), (⟨by omega, by omega⟩ : 0 ≤ x - k ∧ x - k < (B.length : Int)), (⟨by omega, by omega⟩ : InI (y - k)), (⟨by omega, by omega⟩ : 0 ≤ y - k ∧ y - k < ((el B (x - k)).length : Int)),
      (⟨v.1, by omega⟩ : 0 ≤ el (el B (x - k)) (y - k) ∧ el (el B (x - k)) (y - k) < (p.length : Int)), (⟨by omega, by omega⟩ : InI (k + el p (el (el B (x - k)) (y - k)))), nx (k + el p (el (el B (x - k)) (y - k))) (by omega) (by omega) yn⟩ :
      InI (x - k) ∧ (0 ≤ x - k ∧ x - k < (B.length : Int)) ∧ InI (y - k) ∧ (0 ≤ y - k ∧ y - k < ((el B (x - k)).length : Int)) ∧ (0 ≤ el (el B (x - k)) (y - k) ∧ el (el B (x - k)) (y - k) < (p.length : Int)) ∧ InI (k + el p (el (el B (x - k)) (y - k))) ∧ (((r.length : Int) + (([k + el p (el (el B (x - k)) (y - k))]).length : Int) ≤ 1000000000) ∧ InI (y + 1) ∧ ((0 ≤ y + 1 ∧ y + 1 ≤ n) ∧ ((r ++ [k + el p (el (el B (x - k)) (y - k))]).length : Int) = y + 1 ∧ ∀ w ∈ r ++ [k + el p (el (el B (x - k)) (y - k))], 0 ≤ w ∧ w < n) ∧ (n - (y + 1)).toNat < (n - y).toNat))
  refine ⟨fun xk => ⟨fun yk => ?_, fun yk => ⟨fun g => absurd g (by omega), fun _ => nx y y0 yn yn⟩⟩, fun xk => ⟨fun xk' => ⟨fun yk => bb xk' yk, fun yk => nx y y0 yn yn⟩, fun g => absurd g (by omega)⟩⟩
  have a := rk_len hA.1 (x := x) ⟨x0, by omega⟩
  have v := rk_el hA.1 (x := x) (y := y) ⟨x0, by omega⟩ ⟨y0, by omega⟩
  exact ⟨⟨x0, by omega⟩, ⟨y0, by omega⟩, nx _ v.1 (by omega) yn⟩
theorem conj_ok {A : List (List Int)} {Q : List (List Int) → Prop} (h : cj3 A = true) (hQ : ∀ o, isTab o = true → o.length = A.length → Q o) : wtC A Q := by
  simp only [cj3, Bool.and_eq_true, decide_eq_true_eq, List.all_eq_true] at h
  obtain ⟨⟨l1, l2⟩, h⟩ := h
  refine ⟨fun x o => (0 ≤ x ∧ x ≤ (A.length : Int)) ∧ (o.length : Int) = x ∧ ∀ r ∈ o, (r.length : Int) = (A.length : Int) ∧ ∀ z ∈ r, 0 ≤ z ∧ z < (A.length : Int), fun x _ => ((A.length : Int) - x).toNat, ⟨⟨by omega, by omega⟩, rfl, by simp⟩, ?_⟩
  rintro x o ⟨⟨x0, x1⟩, ol, ho⟩
  dsimp only
  refine ⟨fun xn => ?_, fun xn => hQ o (isTab_rows (by omega) (by omega) ho) (by omega)⟩
  refine ⟨fun y r => (0 ≤ y ∧ y ≤ (A.length : Int)) ∧ (r.length : Int) = y ∧ ∀ z ∈ r, 0 ≤ z ∧ z < (A.length : Int), fun y _ => ((A.length : Int) - y).toNat, ⟨⟨by omega, by omega⟩, rfl, by simp⟩, ?_⟩
  rintro y r ⟨⟨y0, y1⟩, rl, hr⟩
  dsimp only
  refine ⟨fun yn => ?_, fun yn => ⟨by rw [List.length_singleton]; omega, ⟨by omega, by omega⟩, ⟨⟨by omega, by omega⟩, by simp; omega, mem_app ho ⟨by omega, hr⟩⟩, by omega⟩⟩
  have hx := h _ (el_mem (i := x) ⟨x0, xn⟩)
  have hy := h _ (el_mem (i := y) ⟨y0, yn⟩)
  have px := hx.1.2
  have py := hy.1.2
  have lb : ((backI (el A x)).length : Int) = 3 := by simp; omega
  have pb := (isPerm_iff.1 (isPerm_backI px)).2
  have hc := List.contains_iff_mem.1 (hx.2 _ (el_mem (i := y) ⟨y0, yn⟩))
  refine ⟨⟨x0, xn⟩, ⟨y0, yn⟩, ⟨x0, xn⟩, ⟨by show (_ : Int) ≤ _; omega, px⟩, ⟨by show (_ : Int) ≤ _; omega, fun z hz => by have := pb z hz; omega⟩, ⟨by show (_ : Int) ≤ _; rw [List.length_map]; omega, fun z hz => ?_⟩, ?_⟩
  · obtain ⟨w, hw, rfl⟩ := List.mem_map.1 hz
    have h1 := pb w hw
    have := (isPerm_iff.1 py).2 _ (el_mem (i := w) ⟨h1.1, by omega⟩)
    omega
  generalize hC : ((backI (el A x)).map (el (el A y))).map (el (el A x)) = c at hc ⊢
  obtain ⟨i, hi, hie⟩ := mem_el hc
  refine ⟨fun z => 0 ≤ z ∧ ∀ j, 0 ≤ j → j < z → el A j ≠ c, fun z => ((A.length : Int) - z).toNat, ⟨by omega, fun j a b => absurd b (by omega)⟩, ?_⟩
  rintro z ⟨z0, hz⟩
  dsimp only
  have zi : z ≤ i := by
    rcases Int.lt_or_le i z with g | g
    · exact absurd hie (hz i hi.1 g)
    · exact g
  have hzz := h _ (el_mem (i := z) ⟨z0, by omega⟩)
  have lc : c.length = 3 := by rw [← hC]; simp; omega
  refine ⟨⟨z0, by omega⟩, ⟨by show (_ : Int) ≤ _; omega, by show (_ : Int) ≤ _; omega⟩, fun hn => ⟨⟨by omega, by omega⟩, ⟨by omega, fun j j0 j1 => ?_⟩, ?_⟩, fun he => ⟨by rw [List.length_singleton]; omega, ⟨by omega, by omega⟩, ⟨⟨by omega, by omega⟩, by simp; omega, mem_app hr ⟨z0, by omega⟩⟩, by omega⟩⟩
  · rcases Int.lt_or_le j z with g | g
    · exact hz j j0 g
    · rw [show j = z by omega]; exact hn
  · have : z ≠ i := fun e => hn (by rw [e]; exact hie)
    omega
theorem cj3_a : cj3 [[0, 2, 1], [1, 0, 2], [2, 1, 0]] = true := by decide +kernel
theorem cj3_b : cj3 (growL 3 []) = true := by decide +kernel
theorem len_growL3 : (growL 3 []).length = 6 := by decide +kernel
theorem p_spec_l01Grow (n : Int) (start : List Int) (list : List (List Int)) (hp : (start.length : Int) ≤ n ∧ n ≤ 8 ∧ ((list ++ growL n start).length : Int) ≤ 100000000) : wp_spec_l01Grow n start list (fun y0 => y0 = list ++ growL n start) := by
  obtain ⟨h1, h2, h3⟩ := hp
  refine ⟨fun e => ?_, fun e => ?_⟩
  · rw [growL_end e] at h3 ⊢
    exact ⟨by rw [List.length_append] at h3; omega, rfl⟩
  · have hs : small start := by show (start.length : Int) ≤ _; omega
    have hlt : (start.length : Int) < n := by omega
    refine ⟨fun x o => (0 ≤ x ∧ x ≤ n) ∧ o = list ++ growT n start x, fun x _ => (n - x).toNat, ⟨⟨by omega, by omega⟩, by rw [growT_zero, List.append_nil]⟩, ?_⟩
    rintro x o ⟨⟨x0, x1⟩, rfl⟩
    dsimp only
    refine ⟨fun xn => ⟨hs, fun hc => ?_, fun hc => ?_⟩, fun xn => by rw [growL_step hlt, show x = n by omega]⟩
    · refine ⟨hs, by rw [List.length_singleton]; omega, by simp; omega, ⟨by simp; omega, h2, ?_⟩, ⟨by omega, by omega⟩, ⟨⟨by omega, by omega⟩, ?_⟩, by omega⟩
      · have := growT_len (n := n) (s := start) (x := x + 1) (y := n) ⟨by omega, by omega⟩
        rw [growT_succ x0, hc] at this
        rw [growL_step hlt] at h3
        simp at this h3 ⊢; omega
      · rw [growT_succ x0, hc]; simp
    · exact ⟨⟨by omega, by omega⟩, ⟨⟨by omega, by omega⟩, by rw [growT_succ x0, hc]; simp⟩, by omega⟩
def wtE (n : Int) (c : List Int) (a h : Int) (Q : List (List Int) → List Int → Int → Int → Prop) : Prop :=
      (okS c a h ∧ InI (n)) ∧
      ∀ (r5_0 : Int) (o5_0 : List Int) (o5_1 : Int) (o5_2 : Int), (nxP (n) r5_0 ∧ o5_0 = c ∧ okS c o5_1 o5_2) →
      (InI ((if 1 < r5_0 then r5_0 else 1) - 1)) ∧
      ((0 : Int) ≤ 2 ∧ (0 : Int) < (if 1 < r5_0 then r5_0 else 1)) ∧
      (InI ((n) - r5_0)) ∧
      (InI ((n) - r5_0)) ∧
      ((0 : Int) ≤ 1 ∧ (0 : Int) < (n) - r5_0) ∧
      (1 ≤ (if 1 < r5_0 then r5_0 else 1) ∧ (if 1 < r5_0 then r5_0 else 1) ≤ 1000 ∧ 0 ≤ ((if 1 < r5_0 then r5_0 else 1) - 1) ∧ ((if 1 < r5_0 then r5_0 else 1) - 1) ≤ 1000 ∧ 0 ≤ (2 % (if 1 < r5_0 then r5_0 else 1)) ∧ (2 % (if 1 < r5_0 then r5_0 else 1)) ≤ 1000) ∧
      (1 ≤ ((n) - r5_0) ∧ ((n) - r5_0) ≤ 1000 ∧ 0 ≤ (1 % ((n) - r5_0)) ∧ (1 % ((n) - r5_0)) ≤ 1000 ∧ 0 ≤ (0 : Int) ∧ (0 : Int) ≤ 1000) ∧
      ((r5_0 = 0 →
       Q (tab ((n) - r5_0) (fun x_ y_ => ((0 : Int) * x_ + (1 % ((n) - r5_0)) * y_) % ((n) - r5_0))) o5_0 o5_1 o5_2) ∧
      (¬ (r5_0 = 0) →
       (InI ((n) - r5_0)) ∧
       (okS o5_0 o5_1 o5_2 ∧ ((n) - r5_0) ≤ 1000) ∧
       ∀ (r6_0 : List Int) (o6_0 : List Int) (o6_1 : Int) (o6_2 : Int), (((r6_0.length : Int) = max ((n) - r5_0) 0 ∧ (∀ z_ ∈ r6_0, 0 ≤ z_ ∧ z_ < ((n) - r5_0)) ∧ r6_0.Nodup) ∧ o6_0 = o5_0 ∧ okS o5_0 o6_1 o6_2) →
       ∃ (H3 : Int → List (List Int) → Prop) (m3 : Int → List (List Int) → Nat),
       H3 0 ([] : List (List Int)) ∧
       ∀ (v23_2 : Int) (o165_2 : List (List Int)), H3 v23_2 o165_2 →
       ( ((v23_2 < n →
         ∃ (H4 : Int → List Int → Prop) (m4 : Int → List Int → Nat),
         H4 0 ([] : List Int) ∧
         ∀ (v25_3 : Int) (o171_3 : List Int), H4 v25_3 o171_3 →
         ( ((v25_3 < n →
           ((v23_2 < r5_0 →
            ((v25_3 < r5_0 →
             (0 ≤ v23_2 ∧ v23_2 < ((tab (if 1 < r5_0 then r5_0 else 1) (fun x_ y_ => ((2 % (if 1 < r5_0 then r5_0 else 1)) * x_ + ((if 1 < r5_0 then r5_0 else 1) - 1) * y_) % (if 1 < r5_0 then r5_0 else 1))).length : Int)) ∧
             (0 ≤ v25_3 ∧ v25_3 < ((el (tab (if 1 < r5_0 then r5_0 else 1) (fun x_ y_ => ((2 % (if 1 < r5_0 then r5_0 else 1)) * x_ + ((if 1 < r5_0 then r5_0 else 1) - 1) * y_) % (if 1 < r5_0 then r5_0 else 1))) v23_2).length : Int)) ∧
             ((o171_3.length : Int) + (([el (el (tab (if 1 < r5_0 then r5_0 else 1) (fun x_ y_ => ((2 % (if 1 < r5_0 then r5_0 else 1)) * x_ + ((if 1 < r5_0 then r5_0 else 1) - 1) * y_) % (if 1 < r5_0 then r5_0 else 1))) v23_2) v25_3]).length : Int) ≤ 1000000000) ∧
             (InI (v25_3 + 1)) ∧
             (H4 (v25_3 + 1) (o171_3 ++ ([el (el (tab (if 1 < r5_0 then r5_0 else 1) (fun x_ y_ => ((2 % (if 1 < r5_0 then r5_0 else 1)) * x_ + ((if 1 < r5_0 then r5_0 else 1) - 1) * y_) % (if 1 < r5_0 then r5_0 else 1))) v23_2) v25_3])) ∧ m4 (v25_3 + 1) (o171_3 ++ ([el (el (tab (if 1 < r5_0 then r5_0 else 1) (fun x_ y_ => ((2 % (if 1 < r5_0 then r5_0 else 1)) * x_ + ((if 1 < r5_0 then r5_0 else 1) - 1) * y_) % (if 1 < r5_0 then r5_0 else 1))) v23_2) v25_3])) < m4 v25_3 o171_3)) ∧
            (¬ (v25_3 < r5_0) →
             ((r5_0 ≤ v23_2 →
              ((r5_0 ≤ v25_3 →
               (InI (v23_2 - r5_0)) ∧
               (0 ≤ v23_2 - r5_0 ∧ v23_2 - r5_0 < ((tab ((n) - r5_0) (fun x_ y_ => ((0 : Int) * x_ + (1 % ((n) - r5_0)) * y_) % ((n) - r5_0))).length : Int)) ∧
               (InI (v25_3 - r5_0)) ∧
               (0 ≤ v25_3 - r5_0 ∧ v25_3 - r5_0 < ((el (tab ((n) - r5_0) (fun x_ y_ => ((0 : Int) * x_ + (1 % ((n) - r5_0)) * y_) % ((n) - r5_0))) (v23_2 - r5_0)).length : Int)) ∧
               (0 ≤ el (el (tab ((n) - r5_0) (fun x_ y_ => ((0 : Int) * x_ + (1 % ((n) - r5_0)) * y_) % ((n) - r5_0))) (v23_2 - r5_0)) (v25_3 - r5_0) ∧ el (el (tab ((n) - r5_0) (fun x_ y_ => ((0 : Int) * x_ + (1 % ((n) - r5_0)) * y_) % ((n) - r5_0))) (v23_2 - r5_0)) (v25_3 - r5_0) < (r6_0.length : Int)) ∧
               (InI (r5_0 + (el r6_0 (el (el (tab ((n) - r5_0) (fun x_ y_ => ((0 : Int) * x_ + (1 % ((n) - r5_0)) * y_) % ((n) - r5_0))) (v23_2 - r5_0)) (v25_3 - r5_0))))) ∧
               ((o171_3.length : Int) + (([r5_0 + (el r6_0 (el (el (tab ((n) - r5_0) (fun x_ y_ => ((0 : Int) * x_ + (1 % ((n) - r5_0)) * y_) % ((n) - r5_0))) (v23_2 - r5_0)) (v25_3 - r5_0)))]).length : Int) ≤ 1000000000) ∧
               (InI (v25_3 + 1)) ∧
               (H4 (v25_3 + 1) (o171_3 ++ ([r5_0 + (el r6_0 (el (el (tab ((n) - r5_0) (fun x_ y_ => ((0 : Int) * x_ + (1 % ((n) - r5_0)) * y_) % ((n) - r5_0))) (v23_2 - r5_0)) (v25_3 - r5_0)))])) ∧ m4 (v25_3 + 1) (o171_3 ++ ([r5_0 + (el r6_0 (el (el (tab ((n) - r5_0) (fun x_ y_ => ((0 : Int) * x_ + (1 % ((n) - r5_0)) * y_) % ((n) - r5_0))) (v23_2 - r5_0)) (v25_3 - r5_0)))])) < m4 v25_3 o171_3)) ∧
              (¬ (r5_0 ≤ v25_3) →
               ((o171_3.length : Int) + (([v25_3]).length : Int) ≤ 1000000000) ∧
               (InI (v25_3 + 1)) ∧
               (H4 (v25_3 + 1) (o171_3 ++ ([v25_3])) ∧ m4 (v25_3 + 1) (o171_3 ++ ([v25_3])) < m4 v25_3 o171_3)))) ∧
             (¬ (r5_0 ≤ v23_2) →
              ((o171_3.length : Int) + (([v25_3]).length : Int) ≤ 1000000000) ∧
              (InI (v25_3 + 1)) ∧
              (H4 (v25_3 + 1) (o171_3 ++ ([v25_3])) ∧ m4 (v25_3 + 1) (o171_3 ++ ([v25_3])) < m4 v25_3 o171_3)))))) ∧
           (¬ (v23_2 < r5_0) →
            ((r5_0 ≤ v23_2 →
             ((r5_0 ≤ v25_3 →
              (InI (v23_2 - r5_0)) ∧
              (0 ≤ v23_2 - r5_0 ∧ v23_2 - r5_0 < ((tab ((n) - r5_0) (fun x_ y_ => ((0 : Int) * x_ + (1 % ((n) - r5_0)) * y_) % ((n) - r5_0))).length : Int)) ∧
              (InI (v25_3 - r5_0)) ∧
              (0 ≤ v25_3 - r5_0 ∧ v25_3 - r5_0 < ((el (tab ((n) - r5_0) (fun x_ y_ => ((0 : Int) * x_ + (1 % ((n) - r5_0)) * y_) % ((n) - r5_0))) (v23_2 - r5_0)).length : Int)) ∧
              (0 ≤ el (el (tab ((n) - r5_0) (fun x_ y_ => ((0 : Int) * x_ + (1 % ((n) - r5_0)) * y_) % ((n) - r5_0))) (v23_2 - r5_0)) (v25_3 - r5_0) ∧ el (el (tab ((n) - r5_0) (fun x_ y_ => ((0 : Int) * x_ + (1 % ((n) - r5_0)) * y_) % ((n) - r5_0))) (v23_2 - r5_0)) (v25_3 - r5_0) < (r6_0.length : Int)) ∧
              (InI (r5_0 + (el r6_0 (el (el (tab ((n) - r5_0) (fun x_ y_ => ((0 : Int) * x_ + (1 % ((n) - r5_0)) * y_) % ((n) - r5_0))) (v23_2 - r5_0)) (v25_3 - r5_0))))) ∧
              ((o171_3.length : Int) + (([r5_0 + (el r6_0 (el (el (tab ((n) - r5_0) (fun x_ y_ => ((0 : Int) * x_ + (1 % ((n) - r5_0)) * y_) % ((n) - r5_0))) (v23_2 - r5_0)) (v25_3 - r5_0)))]).length : Int) ≤ 1000000000) ∧
              (InI (v25_3 + 1)) ∧
              (H4 (v25_3 + 1) (o171_3 ++ ([r5_0 + (el r6_0 (el (el (tab ((n) - r5_0) (fun x_ y_ => ((0 : Int) * x_ + (1 % ((n) - r5_0)) * y_) % ((n) - r5_0))) (v23_2 - r5_0)) (v25_3 - r5_0)))])) ∧ m4 (v25_3 + 1) (o171_3 ++ ([r5_0 + (el r6_0 (el (el (tab ((n) - r5_0) (fun x_ y_ => ((0 : Int) * x_ + (1 % ((n) - r5_0)) * y_) % ((n) - r5_0))) (v23_2 - r5_0)) (v25_3 - r5_0)))])) < m4 v25_3 o171_3)) ∧
             (¬ (r5_0 ≤ v25_3) →
              ((o171_3.length : Int) + (([v25_3]).length : Int) ≤ 1000000000) ∧
              (InI (v25_3 + 1)) ∧
              (H4 (v25_3 + 1) (o171_3 ++ ([v25_3])) ∧ m4 (v25_3 + 1) (o171_3 ++ ([v25_3])) < m4 v25_3 o171_3)))) ∧
            (¬ (r5_0 ≤ v23_2) →
             ((o171_3.length : Int) + (([v25_3]).length : Int) ≤ 1000000000) ∧
             (InI (v25_3 + 1)) ∧
             (H4 (v25_3 + 1) (o171_3 ++ ([v25_3])) ∧ m4 (v25_3 + 1) (o171_3 ++ ([v25_3])) < m4 v25_3 o171_3)))))) ∧
          (¬ (v25_3 < n) →
           ((o165_2.length : Int) + (([o171_3]).length : Int) ≤ 1000000000) ∧
           (InI (v23_2 + 1)) ∧
           (H3 (v23_2 + 1) (o165_2 ++ ([o171_3])) ∧ m3 (v23_2 + 1) (o165_2 ++ ([o171_3])) < m3 v23_2 o165_2))))) ∧
        (¬ (v23_2 < n) →
         Q o165_2 o6_0 o6_1 o6_2)))))
theorem tailE_ok {n most : Int} {s1 c : List Int} {a h : Int} (hn : 1 ≤ n ∧ n ≤ most ∧ most ≤ 12) (hc : c = s1) (hS : okS c a h) : wtE n c a h (fun y0 w0 w1 w2 => (isTab y0 = true ∧ (y0.length : Int) ≤ most) ∧ w0 = s1 ∧ okS s1 w1 w2) := by
  subst hc
  refine ⟨⟨hS, by omega, by omega⟩, ?_⟩
  rintro k o0 o1 o2 ⟨hk, rfl, h1⟩
  have hk2 := hk.2 (by omega)
  have mx : 1 ≤ (if 1 < k then k else 1) ∧ (if 1 < k then k else 1) ≤ 12 ∧ (1 ≤ k → (if 1 < k then k else 1) = k) := by split <;> omega
  have hA : isTab (tab (if 1 < k then k else 1) (fun x_ y_ => ((2 % (if 1 < k then k else 1)) * x_ + ((if 1 < k then k else 1) - 1) * y_) % (if 1 < k then k else 1))) = true :=
    isTab_tab ⟨mx.1, mx.2.1⟩ fun x y _ _ _ _ => ⟨Int.emod_nonneg _ (by omega), Int.emod_lt_of_pos _ (by omega)⟩
  have hB : isTab (tab (n - k) (fun x_ y_ => ((0 : Int) * x_ + (1 % (n - k)) * y_) % (n - k))) = true :=
    isTab_tab ⟨by omega, by omega⟩ fun x y _ _ _ _ => ⟨Int.emod_nonneg _ (by omega), Int.emod_lt_of_pos _ (by omega)⟩
  have lB : ((tab (n - k) (fun x_ y_ => ((0 : Int) * x_ + (1 % (n - k)) * y_) % (n - k))).length : Int) = n - k := len_tab (by omega)
  have lA : ((tab (if 1 < k then k else 1) (fun x_ y_ => ((2 % (if 1 < k then k else 1)) * x_ + ((if 1 < k then k else 1) - 1) * y_) % (if 1 < k then k else 1))).length : Int) = (if 1 < k then k else 1) := len_tab (by omega)
  generalize hm : (if 1 < k then k else 1) = m at *
  have e2 : 0 ≤ 2 % m ∧ 2 % m < m := ⟨Int.emod_nonneg _ (by omega), Int.emod_lt_of_pos _ (by omega)⟩
  have e1 : 0 ≤ 1 % (n - k) ∧ 1 % (n - k) < n - k := ⟨Int.emod_nonneg _ (by omega), Int.emod_lt_of_pos _ (by omega)⟩
  refine ⟨⟨by omega, by omega⟩, ⟨by omega, by omega⟩, ⟨by omega, by omega⟩, ⟨by omega, by omega⟩, ⟨by omega, by omega⟩, ⟨by omega, by omega, by omega, by omega, e2.1, by omega⟩, ⟨by omega, by omega, e1.1, by omega, by omega, by omega⟩, fun k0 => ⟨⟨hB, by omega⟩, rfl, h1⟩, fun k0 => ⟨⟨by omega, by omega⟩, ⟨h1, by omega⟩, ?_⟩⟩
  rintro p p0 p1 p2 ⟨⟨pl, pz, _⟩, rfl, h2⟩
  exact tail_ok (Q := fun o => (isTab o = true ∧ (o.length : Int) ≤ most) ∧ p0 = p0 ∧ okS p0 p1 p2) ⟨by omega, by omega, by omega⟩ ⟨hA, by omega⟩ ⟨hB, lB⟩ ⟨by omega, pz⟩ fun o ho ol => ⟨⟨ho, by omega⟩, rfl, h2⟩
theorem p_spec_l01Perms (n : Int) (hp : 0 ≤ n ∧ n ≤ 8) : wp_spec_l01Perms n (fun y0 => y0 = growL n []) := by
  have := growL_len8 hp
  refine ⟨⟨by simp; omega, hp.2, by rw [List.nil_append]; omega⟩, by rw [List.nil_append]⟩
theorem p_spec_l03DrawTable (s1 : List Int) (s2 s3 most : Int) (hp : okS s1 s2 s3 ∧ 1 ≤ most ∧ most ≤ 12) : wp_spec_l03DrawTable s1 s2 s3 most (fun y0 w0 w1 w2 => (isTab y0 = true ∧ (y0.length : Int) ≤ most) ∧ w0 = s1 ∧ okS s1 w1 w2) := by
  obtain ⟨hS, m1, m2⟩ := hp
  refine ⟨⟨hS, by omega, by omega⟩, ?_⟩
  rintro r o0 o1 o2 ⟨hr, rfl, h1⟩
  have hr2 := hr.2 (by omega)
  refine ⟨⟨by omega, by omega⟩, ⟨h1, by omega, by omega⟩, ?_⟩
  rintro c a0 a1 a2 ⟨hc, rfl, h2⟩
  have al : ∀ u v : Int, isTab (tab (1 + r) (fun x_ y_ => (u * x_ + v * y_) % (1 + r))) = true := fun u v =>
    isTab_tab ⟨by omega, by omega⟩ fun x y _ _ _ _ => ⟨Int.emod_nonneg _ (by omega), Int.emod_lt_of_pos _ (by omega)⟩
  have ll : ∀ u v : Int, ((tab (1 + r) (fun x_ y_ => (u * x_ + v * y_) % (1 + r))).length : Int) = 1 + r := fun u v => len_tab (by omega)
  have md : ∀ z : Int, 0 ≤ z % (1 + r) ∧ z % (1 + r) < 1 + r := fun z => ⟨Int.emod_nonneg _ (by omega), Int.emod_lt_of_pos _ (by omega)⟩
  refine ⟨fun _ => ⟨⟨h2, by omega⟩, ?_⟩, fun _ => ⟨fun _ => ?_, fun _ => ⟨fun _ => ?_, fun _ => ⟨fun _ => ⟨fun hm => ?_, fun _ => ?_⟩, fun _ => ?_⟩⟩⟩⟩
  · rintro p p0 p1 p2 ⟨⟨pl, pz, _⟩, rfl, h3⟩
    refine ⟨fun x o => (0 ≤ x ∧ x ≤ 1 + r) ∧ (o.length : Int) = x ∧ ∀ q ∈ o, (q.length : Int) = 1 + r ∧ ∀ z ∈ q, 0 ≤ z ∧ z < 1 + r, fun x _ => (1 + r - x).toNat, ⟨⟨by omega, by omega⟩, rfl, by simp⟩, ?_⟩
    rintro x o ⟨⟨x0, x1⟩, ol, ho⟩
    dsimp only
    exact ⟨fun xn => ⟨by show (_ : Int) ≤ _; omega, by rw [List.length_singleton]; omega, ⟨by omega, by omega⟩, ⟨⟨by omega, by omega⟩, by simp; omega, mem_app ho ⟨by omega, pz⟩⟩, by omega⟩, fun xn => ⟨⟨isTab_rows (by omega) (by omega) ho, by omega⟩, rfl, h3⟩⟩
  · have := md 2
    exact ⟨⟨by omega, by omega⟩, ⟨by omega, by omega⟩, ⟨by omega, by omega, by omega, by omega, this.1, by omega⟩, ⟨al _ _, by rw [ll]; omega⟩, rfl, h2⟩
  · refine ⟨fun x c a h => (0 ≤ x ∧ x ≤ 6) ∧ c = a0 ∧ okS c a h, fun x _ _ _ => (6 - x).toNat, ⟨⟨by omega, by omega⟩, rfl, h2⟩, ?_⟩
    rintro x c a h ⟨⟨x0, x1⟩, rfl, h3⟩
    dsimp only
    refine ⟨fun xn => ⟨⟨h3, by omega, by omega⟩, ?_⟩, fun xn => tailE_ok ⟨by omega, by omega, m2⟩ rfl h3⟩
    rintro q b0 b1 b2 ⟨hq, rfl, h4⟩
    have hq2 := hq.2 (by omega)
    have := md ((1 - q) + (1 + r))
    exact ⟨⟨hq2.1, by omega, by omega⟩, fun _ => ⟨⟨by omega, by omega⟩, ⟨by omega, by omega⟩, ⟨by omega, by omega⟩, ⟨by omega, by omega, hq2.1, by omega, this.1, by omega⟩, ⟨al _ _, by rw [ll]; omega⟩, rfl, h4⟩, fun _ => ⟨⟨by omega, by omega⟩, ⟨⟨by omega, by omega⟩, rfl, h4⟩, by omega⟩⟩
  · refine ⟨⟨by omega, by omega⟩, ⟨h2, by omega, by omega⟩, ?_⟩
    rintro q b0 b1 b2 ⟨hq, rfl, h4⟩
    exact ⟨fun _ => conj_ok (Q := fun o => (isTab o = true ∧ (o.length : Int) ≤ most) ∧ b0 = b0 ∧ okS b0 b1 b2) cj3_a fun o ho ol => ⟨⟨ho, by rw [ol]; exact Int.le_trans (by decide) hm⟩, rfl, h4⟩,
      fun _ => conj_ok (Q := fun o => (isTab o = true ∧ (o.length : Int) ≤ most) ∧ b0 = b0 ∧ okS b0 b1 b2) cj3_b fun o ho ol => ⟨⟨ho, by rw [ol, len_growL3]; exact hm⟩, rfl, h4⟩⟩
  · exact tailE_ok ⟨by omega, by omega, m2⟩ rfl h2
  · exact tailE_ok ⟨by omega, by omega, m2⟩ rfl h2
theorem p_spec_l03Image (t : List (List Int)) (p : List Int) (hp : isTab t = true ∧ (p.length : Int) = (t.length : Int) ∧ ∀ z_ ∈ p, 0 ≤ z_ ∧ z_ < (t.length : Int)) : wp_spec_l03Image t p (fun y0 => isTab y0 = true ∧ y0.length = t.length ∧ (isPerm p = true → ∀ u_ v_ : Int, (0 ≤ u_ ∧ u_ < (t.length : Int)) → (0 ≤ v_ ∧ v_ < (t.length : Int)) → el (el y0 (el p u_)) (el p v_) = el p (el (el t u_) v_))) := by
  obtain ⟨ht, hl, hr⟩ := hp
  have hn := isTab_len ht
  have pe : ∀ {x : Int}, 0 ≤ x → x < (t.length : Int) → 0 ≤ el p x ∧ el p x < (t.length : Int) := fun h1 h2 => hr _ (el_mem ⟨h1, by omega⟩)
  refine ⟨isTab_small ht, fun x o => (0 ≤ x ∧ x ≤ (t.length : Int)) ∧ isTab o = true ∧ o.length = t.length ∧ (isPerm p = true → ∀ u v : Int, (0 ≤ u ∧ u < x) → (0 ≤ v ∧ v < (t.length : Int)) → el (el o (el p u)) (el p v) = el p (el (el t u) v)), fun x _ => ((t.length : Int) - x).toNat, ⟨⟨by omega, by omega⟩, ht, rfl, fun _ u v hu => by omega⟩, ?_⟩
  rintro x o ⟨⟨x0, x1⟩, ho, hol, hv⟩
  dsimp only
  refine ⟨fun xlt => ?_, fun xge => ⟨ho, hol, fun hP u v hu => hv hP u v ⟨hu.1, by omega⟩⟩⟩
  refine ⟨fun y o => (0 ≤ y ∧ y ≤ (t.length : Int)) ∧ isTab o = true ∧ o.length = t.length ∧ (isPerm p = true → ∀ u v : Int, (0 ≤ u ∧ u < (t.length : Int)) → (0 ≤ v ∧ v < (t.length : Int)) → (u < x ∨ (u = x ∧ v < y)) → el (el o (el p u)) (el p v) = el p (el (el t u) v)), fun y _ => ((t.length : Int) - y).toNat, ⟨⟨by omega, by omega⟩, ho, hol, fun hP u v hu hv2 hc => hv hP u v ⟨hu.1, by omega⟩ hv2⟩, ?_⟩
  rintro y w ⟨⟨y0, y1⟩, hw, hwl, hv⟩
  dsimp only
  refine ⟨fun ylt => ?_, fun yge => ⟨⟨by omega, by omega⟩, ⟨⟨by omega, by omega⟩, hw, hwl, fun hP u v hu hv2 => hv hP u v ⟨hu.1, by omega⟩ hv2 (by omega)⟩, by omega⟩⟩
  have a := pe x0 xlt
  have b := pe y0 ylt
  have lx := rk_len ht ⟨x0, xlt⟩
  have v := rk_el ht (x := x) (y := y) ⟨x0, xlt⟩ ⟨y0, ylt⟩
  have c := pe v.1 v.2
  have lw := rk_len hw (x := el p x) ⟨a.1, by omega⟩
  refine ⟨⟨x0, by omega⟩, ⟨y0, by omega⟩, ⟨x0, xlt⟩, ⟨a.1, by omega⟩, ⟨y0, by omega⟩, ⟨v.1, by omega⟩, ⟨b.1, by omega⟩, ⟨by omega, by omega⟩, ⟨⟨by omega, by omega⟩, isTab_se hw ⟨a.1, by omega⟩ ⟨b.1, by omega⟩ ⟨c.1, by omega⟩, by simpa using hwl, fun hP u z hu hz hc => ?_⟩, by omega⟩
  have pu := pe hu.1 hu.2
  have pz := pe hz.1 hz.2
  by_cases e : u = x
  · subst e
    rw [el_se_same ⟨a.1, by omega⟩]
    by_cases e2 : z = y
    · subst e2; rw [el_se_same ⟨b.1, by omega⟩]
    · rw [el_se_ne b.1 pz.1 (fun e3 => e2 (isPerm_inj hP ⟨hz.1, by omega⟩ ⟨y0, by omega⟩ e3.symm))]
      exact hv hP u z hu hz (.inr ⟨rfl, by omega⟩)
  · rw [el_se_ne a.1 pu.1 (fun e3 => e (isPerm_inj hP ⟨hu.1, by omega⟩ ⟨x0, by omega⟩ e3.symm))]
    exact hv hP u z hu hz (.inl (by omega))
theorem drT_tab {t : List (List Int)} {m : Int} (h : isTab t = true) (hm : (t.length : Int) ≤ m) : drT m t := by
  have hn := isTab_len h
  refine ⟨hm, fun r hr => ?_⟩
  obtain ⟨i, hi, rfl⟩ := mem_el hr
  have hl := rk_len h hi
  refine ⟨by omega, fun z hz => ?_⟩
  obtain ⟨j, hj, rfl⟩ := mem_el hz
  have : 0 ≤ el (el t i) j ∧ el (el t i) j < (t.length : Int) := rk_el h hi ⟨hj.1, by omega⟩
  omega
theorem drT_se {t : List (List Int)} {m i : Int} {r : List Int} (h : drT m t) (hr : (r.length : Int) ≤ 12 ∧ ∀ z ∈ r, 0 ≤ z ∧ z ≤ 12) : drT m (se t i r) :=
  ⟨by have := h.1; simpa using this, fun q hq => by
    rcases List.mem_or_eq_of_mem_set hq with h1 | h1
    · exact h.2 q h1
    · rw [h1]; exact hr⟩
theorem p_spec_l03Draw (s1 : List Int) (s2 s3 most : Int) (hp : okS s1 s2 s3 ∧ 1 ≤ most ∧ most ≤ 12) : wp_spec_l03Draw s1 s2 s3 most (fun y0 w0 w1 w2 => (isTab y0 = true ∧ (y0.length : Int) ≤ most) ∧ w0 = s1 ∧ okS s1 w1 w2) := by
  refine ⟨hp, ?_⟩
  rintro t o0 o1 o2 ⟨ht, rfl, h1⟩
  have hn := isTab_len ht.1
  refine ⟨⟨h1, by omega, by omega⟩, ?_⟩
  rintro r p0 p1 p2 ⟨hr, rfl, h2⟩
  refine ⟨fun _ => ⟨⟨h2, by omega⟩, ?_⟩, fun _ => ⟨ht, rfl, h2⟩⟩
  rintro p q0 q1 q2 ⟨⟨hl, hz, _⟩, rfl, h3⟩
  refine ⟨⟨ht.1, by omega, hz⟩, ?_⟩
  rintro u ⟨hu, hul, _⟩
  exact ⟨⟨hu, by rw [hul]; exact ht.2⟩, rfl, h3⟩
theorem p_spec_l03DrawAny (s1 : List Int) (s2 s3 most : Int) (hp : okS s1 s2 s3 ∧ 1 ≤ most ∧ most ≤ 12) : wp_spec_l03DrawAny s1 s2 s3 most (fun y0 w0 w1 w2 => drT most y0 ∧ w0 = s1 ∧ okS s1 w1 w2) := by
  refine ⟨hp, ?_⟩
  rintro t o0 o1 o2 ⟨ht, rfl, h1⟩
  have hn := isTab_len ht.1
  have hd := drT_tab ht.1 ht.2
  refine ⟨⟨h1, by omega, by omega⟩, ?_⟩
  rintro r p0 p1 p2 ⟨hr, rfl, h2⟩
  refine ⟨fun _ => ⟨⟨h2, by omega, by omega⟩, ?_⟩, fun _ => ⟨fun _ => ⟨⟨by omega, by omega⟩, ⟨h2, by omega, by omega⟩, ?_⟩, fun _ => ⟨fun _ => ⟨⟨by omega, by omega, by omega⟩, ⟨?_, fun q hq => hd.2 q (List.mem_of_mem_take (List.mem_of_mem_drop hq))⟩, rfl, h2⟩, fun _ => ⟨hd, rfl, h2⟩⟩⟩⟩
  · rintro i a0 a1 a2 ⟨hi, rfl, h3⟩
    have hi2 := hi.2 (by omega)
    refine ⟨⟨h3, by omega⟩, ?_⟩
    rintro p b0 b1 b2 ⟨⟨hl, hz, _⟩, rfl, h4⟩
    exact ⟨hi2, drT_se hd ⟨by omega, fun z hz' => by have := hz z hz'; omega⟩, rfl, h4⟩
  · rintro i a0 a1 a2 ⟨hi, rfl, h3⟩
    have hi2 := hi.2 (by omega)
    refine ⟨hi2, ⟨h3, by omega, by omega⟩, ?_⟩
    rintro j b0 b1 b2 ⟨hj, rfl, h4⟩
    have hj2 := hj.2 (by omega)
    refine ⟨⟨h4, by omega, by omega⟩, ?_⟩
    rintro v c0 c1 c2 ⟨hv, rfl, h5⟩
    have hv2 := hv.2 (by omega)
    have hl := rk_len ht.1 hi2
    have hrow := hd.2 _ (el_mem hi2)
    refine ⟨⟨hj2.1, by omega⟩, drT_se hd ⟨by simpa using hrow.1, fun z hz => ?_⟩, rfl, h5⟩
    rcases List.mem_or_eq_of_mem_set hz with h6 | h6
    · exact hrow.2 z h6
    · rw [h6]; omega
  · have := ht.2; simp [sl]; omega
theorem p_laws_big (code : List Int) : wp_laws_big code (fun y0 => y0 = decide (4096 < (code.length : Int))) := rfl

set_option maxRecDepth 100000 in
set_option maxHeartbeats 4000000 in
theorem w_spec_l01Grow (n : Int) (start : List Int) (list : List (List Int)) (Q : List (List Int) → Prop) (hrec : ∀ (n' : Int) (start' : List Int) (list' : List (List Int)), (n' - (start'.length : Int)).toNat < (n - (start.length : Int)).toNat → ((start'.length : Int) ≤ n' ∧ n' ≤ 8 ∧ ((list' ++ growL n' start').length : Int) ≤ 100000000) → AM Try.prog 60 [ci n', .own (ints start'), .own (orows list')] (fun R_ O_ => R_ = .own (orows (list' ++ growL n' start')) ∧ O_ = [ci n', .hole, .hole])) (h : wp_spec_l01Grow n start list Q) : AM Try.prog 60 [ci n, .own (ints start), .own (orows list)] (fun R_ O_ => ∃ y0, Q y0 ∧ R_ = .own (orows y0) ∧ O_ = [ci n, .hole, .hole]) := by
  refine am_enter (n := 34) (m := 3) Try.func60 rfl (by rfl) rfl rfl (Nat.le_of_ble_eq_true rfl) [800, 801] rfl ?_
  unfold wp_spec_l01Grow at h
  refine aw_gh (gh_to (n := 34) (σ' := [(800, ⟨ints start, []⟩), (801, ⟨orows list, []⟩)]) (env' := [(0, .c (ci n)), (1, .ref 800), (2, .ref 801), (34, .c (ci n))]) rfl rfl ⟨rfl, rfl, rfl, rfl, trivial⟩) ?_
  refine aw_seq ?_
  refine aw_gh (gh_to (n := 34) (σ' := [(800, ⟨ints start, []⟩), (801, ⟨orows list, []⟩)]) (env' := [(0, .c (ci n)), (1, .ref 800), (2, .ref 801), (34, .c (ci n))]) rfl rfl ⟨rfl, rfl, rfl, rfl, trivial⟩) ?_
  refine aw_region ?_
  refine run_s (ss_assign rfl) rfl ?_
  refine run_nil ?_
  refine aw_seq ?_
  refine aw_seq ?_
  refine aw_region ?_
  refine run_s (ss_move rfl) rfl ?_
  refine run_s (ss_lenR (f := ci) rfl rfl) rfl ?_
  refine run_s (ss_move rfl) rfl ?_
  refine run_s (ss_eql rfl rfl) rfl ?_
  refine run_nil ?_
  refine aw_cond rfl (fun q1 => ?_) (fun q1 => ?_)
  ·replace h := h.1 (of_decide_eq_true q1)
   refine aw_seq ?_
   refine aw_region ?_
   refine run_s (ss_move rfl) rfl ?_
   refine run_s (ss_move rfl) rfl ?_
   refine run_w (ws_buildSlice (id := 14) (ps := [(0, .tmp 13)]) rfl rfl (Nat.le_of_ble_eq_true rfl) rfl ⟨rfl, ?_⟩)
   refine run_gh (gh_fill (id := 14) (id2 := 800) (j := 0) rfl rfl (Nat.le_of_ble_eq_true rfl) rfl rfl rfl) ?_
   obtain ⟨q2, h⟩ := h
   refine run_w (ws_app1 (fun r => C.own (ints r)) (l := list) (m := [start]) rfl rfl rfl rfl rfl (Nat.le_of_ble_eq_true rfl) q2 ⟨rfl, ?_⟩)
   refine run_s (ss_assign rfl) rfl ?_
   refine run_nil ?_
   refine aw_ret ?_
   exact retAM_mk (retv1 rfl (rv_tmp rfl)) rfl rfl rfl ⟨_, h, rfl, rfl⟩
  ·replace h := h.2 (of_decide_eq_false q1)
   refine aw_skip ?_
   refine aw_seq ?_
   refine aw_seq ?_
   refine aw_gh (gh_to (n := 34) (σ' := [(800, ⟨ints start, []⟩), (801, ⟨orows list, []⟩)]) (env' := [(0, .c (ci n)), (1, .ref 800), (2, .ref 801), (34, .c (ci n))]) rfl rfl ⟨rfl, rfl, rfl, rfl, trivial⟩) ?_
   refine aw_region ?_
   refine run_s (ss_assign rfl) rfl ?_
   refine run_nil ?_
   refine aw_block ?_
   obtain ⟨H1, m1, q3, h⟩ := h
   refine aw_loop2 (fun (v7_1 : Int) (o801_1 : List (List Int)) => ⟨[(800, ⟨ints start, []⟩), (801, ⟨orows o801_1, []⟩)], [(0, .c (ci n)), (1, .ref 800), (2, .ref 801), (7, .c (ci v7_1)), (34, .c (ci n))], 34⟩) H1 m1 ⟨0, list, ghe_to (n := 34) rfl rfl ⟨rfl, rfl, rfl, rfl, rfl, trivial⟩, q3⟩ ?_
   rintro v7_1 o801_1 q3
   replace h := h v7_1 o801_1 q3
   refine aw_seq ?_
   refine aw_seq ?_
   refine aw_region ?_
   refine run_s (ss_move rfl) rfl ?_
   refine run_s (ss_move rfl) rfl ?_
   refine run_s (ss_lss rfl rfl) rfl ?_
   refine run_nil ?_
   refine aw_cond rfl (fun q4 => ?_) (fun q4 => ?_)
   ·replace h := h.1 (of_decide_eq_true q4)
    refine aw_skip ?_
    refine aw_seq ?_
    refine aw_block ?_
    refine aw_seq ?_
    refine aw_region ?_
    refine run_s (ss_move rfl) rfl ?_
    refine run_s (ss_move rfl) rfl ?_
    obtain ⟨q5, h⟩ := h
    refine run_w (ws_callR (xs := [.tmp 21, .tmp 22]) (cs := [.own (ints start), ci v7_1]) (ids := []) rfl (.inr ⟨rfl, rfl⟩) rfl rfl (fz_cons (fz_own (fz_map (fun _ => rfl) _)) (fz_cons rfl fz_nil)) (c_spec_l01Has start v7_1 q5) rfl ?_ )
    rintro _ rfl
    refine ⟨rfl, rfl, ?_⟩
    refine run_s (ss_not rfl) rfl ?_
    refine run_nil ?_
    refine aw_cond rfl (fun q7 => ?_) (fun q7 => ?_)
    ·replace h := h.1 ((bnot_t q7))
     refine aw_gh (gh_to (n := 34) (σ' := [(800, ⟨ints start, []⟩), (801, ⟨orows o801_1, []⟩)]) (env' := [(0, .c (ci n)), (1, .ref 800), (2, .ref 801), (7, .c (ci v7_1)), (34, .c (ci n))]) rfl rfl ⟨rfl, rfl, rfl, rfl, rfl, trivial⟩) ?_
     refine aw_region ?_
     refine run_s (ss_move rfl) rfl ?_
     refine run_s (ss_move rfl) rfl ?_
     obtain ⟨q8, h⟩ := h
     refine run_w (ws_callR (xs := [.tmp 26]) (cs := [.own (ints start)]) (ids := [27]) rfl (.inr ⟨rfl, rfl⟩) rfl rfl (fz_cons (fz_own (fz_map (fun _ => rfl) _)) fz_nil) (c_spec_l01Own start q8) rfl ?_ )
     rintro _ rfl
     refine ⟨(slf_own (slfL_map (f := ci) (fun _ => rfl) _)), rfl, ?_⟩
     refine run_s (ss_move rfl) rfl ?_
     refine run_w (ws_buildSlice (id := 29) (ps := [(0, .tmp 28)]) rfl rfl (Nat.le_of_ble_eq_true rfl) rfl ⟨rfl, ?_⟩)
     obtain ⟨q10, h⟩ := h
     refine run_w (ws_app1 ci (l := start) (m := [v7_1]) rfl rfl rfl rfl rfl (Nat.le_of_ble_eq_true rfl) q10 ⟨rfl, ?_⟩)
     refine run_s (ss_move rfl) rfl ?_
     obtain ⟨q11, h⟩ := h
     obtain ⟨q12, h⟩ := h
     refine run_w (ws_callC (xs := [.tmp 25, .tmp 30, .tmp 31]) (cs := [ci n, .own (ints (start ++ ([v7_1]))), .own (orows o801_1)]) (ids := [32]) rfl rfl rfl rfl (hrec n (start ++ ([v7_1])) o801_1 q11 q12) rfl ?_ )
     rintro _ _ ⟨rfl, rfl⟩
     refine ⟨rfl, ?_⟩
     refine run_s (ss_assign rfl) rfl ?_
     refine run_nil ?_
     refine aw_gh (gh_to (n := 34) (σ' := [(32, ⟨orows (o801_1 ++ growL n (start ++ ([v7_1]))), []⟩), (800, ⟨ints start, []⟩)]) (env' := [(0, .c (ci n)), (1, .ref 800), (2, .ref 32), (7, .c (ci v7_1)), (34, .c (ci n))]) rfl rfl ⟨rfl, rfl, rfl, rfl, rfl, trivial⟩) ?_
     refine aw_region ?_
     refine run_s (ss_move rfl) rfl ?_
     obtain ⟨q14, h⟩ := h
     refine run_s (ss_add rfl rfl q14) rfl ?_
     refine run_s (ss_assign rfl) rfl ?_
     refine run_nil ?_
     exact ⟨v7_1 + 1, o801_1 ++ growL n (start ++ ([v7_1])), ghe_step (gh_ren (a := 32) (b := 801) rfl rfl) (ghe_step (gh_to (n := 34) (σ' := [(801, ⟨orows (o801_1 ++ growL n (start ++ ([v7_1]))), []⟩), (800, ⟨ints start, []⟩)]) (env' := [(0, .c (ci n)), (1, .ref 800), (2, .ref 801), (7, .c (ci (v7_1 + 1))), (34, .c (ci n))]) rfl rfl ⟨rfl, rfl, rfl, rfl, rfl, trivial⟩) (ghe_step (gh_sort _) (ghe_to (n := 34) rfl rfl ⟨rfl, rfl, rfl, rfl, rfl, trivial⟩))), h.1, h.2⟩
    ·replace h := h.2 ((bnot_f q7))
     refine aw_skip ?_
     refine aw_gh (gh_to (n := 34) (σ' := [(800, ⟨ints start, []⟩), (801, ⟨orows o801_1, []⟩)]) (env' := [(0, .c (ci n)), (1, .ref 800), (2, .ref 801), (7, .c (ci v7_1)), (34, .c (ci n))]) rfl rfl ⟨rfl, rfl, rfl, rfl, rfl, trivial⟩) ?_
     refine aw_region ?_
     refine run_s (ss_move rfl) rfl ?_
     obtain ⟨q15, h⟩ := h
     refine run_s (ss_add rfl rfl q15) rfl ?_
     refine run_s (ss_assign rfl) rfl ?_
     refine run_nil ?_
     exact ⟨v7_1 + 1, o801_1, ghe_to (n := 34) rfl rfl ⟨rfl, rfl, rfl, rfl, rfl, trivial⟩, h.1, h.2⟩
   ·replace h := h.2 (of_decide_eq_false q4)
    refine aw_exit ?_
    refine aw_seq ?_
    refine aw_gh (gh_to (n := 34) (σ' := [(800, ⟨ints start, []⟩), (801, ⟨orows o801_1, []⟩)]) (env' := [(2, .ref 801), (34, .c (ci n))]) rfl rfl ⟨rfl, rfl, trivial⟩) ?_
    refine aw_region ?_
    refine run_s (ss_move rfl) rfl ?_
    refine run_s (ss_assign rfl) rfl ?_
    refine run_nil ?_
    refine aw_ret ?_
    exact retAM_mk (retv1 rfl (rv_tmp rfl)) rfl rfl rfl ⟨_, h, rfl, rfl⟩

theorem c_spec_l01Grow : ∀ (n : Int) (start : List Int) (list : List (List Int)), ((start.length : Int) ≤ n ∧ n ≤ 8 ∧ ((list ++ growL n start).length : Int) ≤ 100000000) → AM Try.prog 60 [ci n, .own (ints start), .own (orows list)] (fun R_ O_ => R_ = .own (orows (list ++ growL n start)) ∧ O_ = [ci n, .hole, .hole]) := by
  have key : ∀ (k_ : Nat) (n : Int) (start : List Int) (list : List (List Int)), (n - (start.length : Int)).toNat ≤ k_ → ((start.length : Int) ≤ n ∧ n ≤ 8 ∧ ((list ++ growL n start).length : Int) ≤ 100000000) → AM Try.prog 60 [ci n, .own (ints start), .own (orows list)] (fun R_ O_ => R_ = .own (orows (list ++ growL n start)) ∧ O_ = [ci n, .hole, .hole]) := by
    intro k_; induction k_ with
    | zero => intro n start list hn hp; exact (w_spec_l01Grow n start list (fun y0 => y0 = list ++ growL n start) (fun _ _ _ hlt => absurd hlt (by omega)) (p_spec_l01Grow n start list hp)).mono (by rintro r o ⟨_, rfl, rfl, rfl⟩; exact ⟨rfl, rfl⟩)
    | succ k_ ih => intro n start list hn hp; exact (w_spec_l01Grow n start list (fun y0 => y0 = list ++ growL n start) (fun n' start' list' hlt => ih n' start' list' (by omega)) (p_spec_l01Grow n start list hp)).mono (by rintro r o ⟨_, rfl, rfl, rfl⟩; exact ⟨rfl, rfl⟩)
  exact fun n start list => key _ n start list (Nat.le_refl _)

set_option maxRecDepth 100000 in
set_option maxHeartbeats 4000000 in
theorem w_spec_l01Perms (n : Int) (Q : List (List Int) → Prop) (h : wp_spec_l01Perms n Q) : AF Try.prog 53 [ci n] (fun R_ => ∃ y0, Q y0 ∧ R_ = .own (orows y0)) := by
  refine AF.ofWQ (af_enter (n := 7) Try.func53 rfl (by rfl) rfl (Nat.le_of_ble_eq_true rfl) ?_)
  unfold wp_spec_l01Perms at h
  refine aw_seq ?_
  refine aw_gh (gh_to (n := 7) (σ' := []) (env' := [(0, .c (ci n))]) rfl rfl ⟨rfl, trivial⟩) ?_
  refine aw_region ?_
  refine run_s (ss_assign rfl) rfl ?_
  refine run_nil ?_
  refine aw_seq ?_
  refine aw_region ?_
  refine run_s (ss_move rfl) rfl ?_
  refine run_w (ws_buildSlice (id := 4) (ps := []) rfl rfl (Nat.le_of_ble_eq_true rfl) rfl ⟨rfl, ?_⟩)
  refine run_w (ws_buildSlice (id := 5) (ps := []) rfl rfl (Nat.le_of_ble_eq_true rfl) rfl ⟨rfl, ?_⟩)
  obtain ⟨q1, h⟩ := h
  refine run_w (ws_callC (xs := [.tmp 3, .tmp 4, .tmp 5]) (cs := [ci n, .own (ints ([] : List Int)), .own (orows ([] : List (List Int)))]) (ids := [6]) rfl rfl rfl rfl (c_spec_l01Grow n ([] : List Int) ([] : List (List Int)) q1) rfl ?_ )
  rintro _ _ ⟨rfl, rfl⟩
  refine ⟨rfl, ?_⟩
  refine run_s (ss_assign rfl) rfl ?_
  refine run_nil ?_
  refine aw_ret ?_
  exact retAF_mk (retv1 rfl (rv_tmp rfl)) rfl rfl ⟨_, (cle_refl _), _, h, rfl⟩

theorem c_spec_l01Perms (n : Int) (hp : 0 ≤ n ∧ n ≤ 8) : AF Try.prog 53 [ci n] (fun R_ => R_ = .own (orows (growL n []))) :=
  (w_spec_l01Perms n (fun y0 => y0 = growL n []) (p_spec_l01Perms n hp)).mono (by rintro r ⟨_, rfl, rfl⟩; rfl)

set_option maxRecDepth 100000 in
set_option maxHeartbeats 4000000 in
theorem w_spec_l03Image (t : List (List Int)) (p : List Int) (Q : List (List Int) → Prop) (h : wp_spec_l03Image t p Q) : AF Try.prog 40 [.lst (rows t), .lst (ints p)] (fun R_ => ∃ y0, Q y0 ∧ R_ = .own (orows y0)) := by
  refine AF.ofWQ (af_enter (n := 45) Try.func40 rfl (by rfl) rfl (Nat.le_of_ble_eq_true rfl) ?_)
  unfold wp_spec_l03Image at h
  refine aw_seq ?_
  refine aw_gh (gh_to (n := 45) (σ' := []) (env' := [(0, .c (.lst (rows t))), (1, .c (.lst (ints p)))]) rfl rfl ⟨rfl, rfl, trivial⟩) ?_
  refine aw_region ?_
  refine run_s (ss_assign rfl) rfl ?_
  refine run_nil ?_
  refine aw_seq ?_
  refine aw_region ?_
  refine run_s (ss_move rfl) rfl ?_
  obtain ⟨q1, h⟩ := h
  refine run_w (ws_call (xs := [.tmp 8]) (ids := [9]) rfl rfl rfl rfl (c_spec_l01Own2 t q1) rfl ?_ )
  rintro _ rfl
  refine ⟨rfl, ?_⟩
  refine run_s (ss_assign rfl) rfl ?_
  refine run_nil ?_
  refine aw_seq ?_
  refine aw_seq ?_
  refine aw_region ?_
  refine run_s (ss_assign rfl) rfl ?_
  refine run_nil ?_
  refine aw_block ?_
  obtain ⟨H1, m1, q3, h⟩ := h
  refine aw_loop2 (fun (v6_1 : Int) (o9_1 : List (List Int)) => ⟨[(9, ⟨orows o9_1, []⟩)], [(0, .c (.lst (rows t))), (1, .c (.lst (ints p))), (5, .ref 9), (6, .c (ci v6_1))], 45⟩) H1 m1 ⟨0, t, ghe_to (n := 45) rfl rfl ⟨rfl, rfl, rfl, rfl, trivial⟩, q3⟩ ?_
  rintro v6_1 o9_1 q3
  replace h := h v6_1 o9_1 q3
  refine aw_seq ?_
  refine aw_seq ?_
  refine aw_region ?_
  refine run_s (ss_move rfl) rfl ?_
  refine run_s (ss_move rfl) rfl ?_
  refine run_s (ss_lenL (f := (fun r => C.lst (ints r))) rfl) rfl ?_
  refine run_s (ss_lss rfl rfl) rfl ?_
  refine run_nil ?_
  refine aw_cond rfl (fun q4 => ?_) (fun q4 => ?_)
  ·replace h := h.1 (of_decide_eq_true q4)
   refine aw_skip ?_
   refine aw_seq ?_
   refine aw_block ?_
   refine aw_seq ?_
   refine aw_gh (gh_to (n := 45) (σ' := [(9, ⟨orows o9_1, []⟩)]) (env' := [(0, .c (.lst (rows t))), (1, .c (.lst (ints p))), (5, .ref 9), (6, .c (ci v6_1))]) rfl rfl ⟨rfl, rfl, rfl, rfl, trivial⟩) ?_
   refine aw_region ?_
   refine run_s (ss_assign rfl) rfl ?_
   refine run_nil ?_
   refine aw_block ?_
   obtain ⟨H2, m2, q5, h⟩ := h
   refine aw_loop2 (fun (v7_2 : Int) (o9_2 : List (List Int)) => ⟨[(9, ⟨orows o9_2, []⟩)], [(0, .c (.lst (rows t))), (1, .c (.lst (ints p))), (5, .ref 9), (6, .c (ci v6_1)), (7, .c (ci v7_2))], 45⟩) H2 m2 ⟨0, o9_1, ghe_to (n := 45) rfl rfl ⟨rfl, rfl, rfl, rfl, rfl, trivial⟩, q5⟩ ?_
   rintro v7_2 o9_2 q5
   replace h := h v7_2 o9_2 q5
   refine aw_seq ?_
   refine aw_seq ?_
   refine aw_region ?_
   refine run_s (ss_move rfl) rfl ?_
   refine run_s (ss_move rfl) rfl ?_
   refine run_s (ss_lenL (f := (fun r => C.lst (ints r))) rfl) rfl ?_
   refine run_s (ss_lss rfl rfl) rfl ?_
   refine run_nil ?_
   refine aw_cond rfl (fun q6 => ?_) (fun q6 => ?_)
   ·replace h := h.1 (of_decide_eq_true q6)
    refine aw_skip ?_
    refine aw_seq ?_
    refine aw_block ?_
    refine aw_gh (gh_to (n := 45) (σ' := [(9, ⟨orows o9_2, []⟩)]) (env' := [(0, .c (.lst (rows t))), (1, .c (.lst (ints p))), (5, .ref 9), (6, .c (ci v6_1)), (7, .c (ci v7_2))]) rfl rfl ⟨rfl, rfl, rfl, rfl, rfl, trivial⟩) ?_
    refine aw_regionD (kd := kdl [0, 0, 0, 0, 1, 0, 1, 0, 0, 0, 1, 0, 0, 0, 0, 1, 0, 0, 1, 0, 1, 0, 3]) (ord := [0, 1, 2, 3, 7, 8, 9, 11, 12, 13, 14, 16, 4, 5, 6, 10, 15, 17, 18, 19, 20, 21, 22]) [] mixed (by kernel_rfl) ?_
    refine rd_s rfl rfl trivial (ss_move rfl) rfl ?_
    refine rd_s rfl rfl trivial (ss_move rfl) rfl ?_
    refine rd_s rfl rfl trivial (ss_move rfl) rfl ?_
    obtain ⟨q7, h⟩ := h
    refine rd_s rfl rfl trivial (ss_idxL rfl rfl q7) rfl ?_
    refine rd_s rfl rfl trivial (ss_move rfl) rfl ?_
    refine rd_s rfl rfl trivial (ss_move rfl) rfl ?_
    obtain ⟨q8, h⟩ := h
    refine rd_s rfl rfl trivial (ss_idxL rfl rfl q8) rfl ?_
    refine rd_s rfl rfl trivial (ss_move rfl) rfl ?_
    refine rd_s rfl rfl trivial (ss_move rfl) rfl ?_
    refine rd_s rfl rfl trivial (ss_move rfl) rfl ?_
    obtain ⟨q9, h⟩ := h
    refine rd_s rfl rfl trivial (ss_idxL rfl rfl q9) rfl ?_
    refine rd_s rfl rfl trivial (ss_move rfl) rfl ?_
    refine rd_l rfl rfl trivial (ss_loadL (f := ci) rfl q7) rfl ?_
    obtain ⟨q10, h⟩ := h
    refine rd_s rfl rfl trivial (ss_idxR (f := (fun r => C.own (ints r))) rfl rfl rfl q10) rfl ?_
    refine rd_open 1001 (id := 9) (j := (el p v6_1).toNat) rfl (map_get (f := (fun r => C.own (ints r))) q10) rfl rfl rfl ?_
    refine rd_l rfl rfl trivial (ss_loadH rfl rfl lk_self rfl) rfl ?_
    refine rd_l rfl rfl trivial (ss_loadL (f := ci) rfl q8) rfl ?_
    refine rd_l rfl rfl trivial (ss_loadL (f := (fun r => C.lst (ints r))) rfl q9) rfl ?_
    obtain ⟨q11, h⟩ := h
    refine rd_s rfl rfl trivial (ss_idxL rfl rfl q11) rfl ?_
    refine rd_l rfl rfl trivial (ss_loadL (f := ci) rfl q11) rfl ?_
    obtain ⟨q12, h⟩ := h
    refine rd_s rfl rfl trivial (ss_idxL rfl rfl q12) rfl ?_
    refine rd_l rfl rfl trivial (ss_loadL (f := ci) rfl q12) rfl ?_
    obtain ⟨q13, h⟩ := h
    refine rd_s rfl rfl trivial (ss_idxR (f := ci) rfl rfl rfl q13) rfl ?_
    refine rd_f rfl rfl trivial (ws_storeE rfl rfl (map_lt q13) rfl rfl (map_se (f := ci)) rfl ⟨rfl, ?_⟩)
    refine rd_nil ?_
    refine aw_gh (gh_to (n := 45) (σ' := [(1001, ⟨ints (se (el o9_2 (el p v6_1)) (el p v7_2) (el p (el (el t v6_1) v7_2))), []⟩), (9, ⟨(orows o9_2).set (el p v6_1).toNat .hole, [((el p v6_1).toNat, .ref 1001)]⟩)]) (env' := [(0, .c (.lst (rows t))), (1, .c (.lst (ints p))), (5, .ref 9), (6, .c (ci v6_1)), (7, .c (ci v7_2))]) rfl rfl ⟨rfl, rfl, rfl, rfl, rfl, trivial⟩) ?_
    refine aw_region ?_
    refine run_s (ss_move rfl) rfl ?_
    obtain ⟨q14, h⟩ := h
    refine run_s (ss_add rfl rfl q14) rfl ?_
    refine run_s (ss_assign rfl) rfl ?_
    refine run_nil ?_
    exact ⟨v7_2 + 1, se o9_2 (el p v6_1) (se (el o9_2 (el p v6_1)) (el p v7_2) (el p (el (el t v6_1) v7_2))), ghe_step (gh_fillA (id := 9) (id2 := 1001) (f := (fun r => C.own (ints r))) (v := se (el o9_2 (el p v6_1)) (el p v7_2) (el p (el (el t v6_1) v7_2))) rfl lk_self rfl q10 rfl rfl kr_self) (ghe_to (n := 45) rfl rfl ⟨rfl, rfl, rfl, rfl, rfl, trivial⟩), h.1, h.2⟩
   ·replace h := h.2 (of_decide_eq_false q6)
    refine aw_exit ?_
    refine aw_gh (gh_to (n := 45) (σ' := [(9, ⟨orows o9_2, []⟩)]) (env' := [(0, .c (.lst (rows t))), (1, .c (.lst (ints p))), (5, .ref 9), (6, .c (ci v6_1))]) rfl rfl ⟨rfl, rfl, rfl, rfl, trivial⟩) ?_
    refine aw_region ?_
    refine run_s (ss_move rfl) rfl ?_
    obtain ⟨q15, h⟩ := h
    refine run_s (ss_add rfl rfl q15) rfl ?_
    refine run_s (ss_assign rfl) rfl ?_
    refine run_nil ?_
    exact ⟨v6_1 + 1, o9_2, ghe_to (n := 45) rfl rfl ⟨rfl, rfl, rfl, rfl, trivial⟩, h.1, h.2⟩
  ·replace h := h.2 (of_decide_eq_false q4)
   refine aw_exit ?_
   refine aw_seq ?_
   refine aw_gh (gh_to (n := 45) (σ' := [(9, ⟨orows o9_1, []⟩)]) (env' := [(5, .ref 9)]) rfl rfl ⟨rfl, trivial⟩) ?_
   refine aw_region ?_
   refine run_s (ss_move rfl) rfl ?_
   refine run_s (ss_assign rfl) rfl ?_
   refine run_nil ?_
   refine aw_ret ?_
   exact retAF_mk (retv1 rfl (rv_tmp rfl)) rfl rfl ⟨_, (cle_refl _), _, h, rfl⟩

theorem c_spec_l03Image (t : List (List Int)) (p : List Int) (hp : isTab t = true ∧ (p.length : Int) = (t.length : Int) ∧ ∀ z_ ∈ p, 0 ≤ z_ ∧ z_ < (t.length : Int)) : AF Try.prog 40 [.lst (rows t), .lst (ints p)] (fun R_ => ∃ y0, (isTab y0 = true ∧ y0.length = t.length ∧ (isPerm p = true → ∀ u_ v_ : Int, (0 ≤ u_ ∧ u_ < (t.length : Int)) → (0 ≤ v_ ∧ v_ < (t.length : Int)) → el (el y0 (el p u_)) (el p v_) = el p (el (el t u_) v_))) ∧ R_ = .own (orows y0)) :=
  w_spec_l03Image t p (fun y0 => isTab y0 = true ∧ y0.length = t.length ∧ (isPerm p = true → ∀ u_ v_ : Int, (0 ≤ u_ ∧ u_ < (t.length : Int)) → (0 ≤ v_ ∧ v_ < (t.length : Int)) → el (el y0 (el p u_)) (el p v_) = el p (el (el t u_) v_))) (p_spec_l03Image t p hp)

set_option maxRecDepth 100000 in
set_option maxHeartbeats 4000000 in
theorem w_spec_l03DrawTable (s1 : List Int) (s2 : Int) (s3 : Int) (most : Int) (Q : List (List Int) → List Int → Int → Int → Prop) (h : wp_spec_l03DrawTable s1 s2 s3 most Q) : AM Try.prog 39 [.obox [.lst (bys s1), ci s2, cu s3], ci most] (fun R_ O_ => ∃ y0 w0 w1 w2, Q y0 w0 w1 w2 ∧ R_ = .own (orows y0) ∧ O_ = [.obox [.lst (bys w0), ci w1, cu w2], ci most]) := by
  refine am_enter (n := 233) (m := 2) Try.func39 rfl (by rfl) rfl rfl (Nat.le_of_ble_eq_true rfl) [800] rfl ?_
  unfold wp_spec_l03DrawTable at h
  refine aw_seq ?_
  refine aw_gh (gh_to (n := 233) (σ' := [(800, ⟨[.lst (bys s1), ci s2, cu s3], []⟩)]) (env' := [(0, .cell 800 0), (1, .c (ci most)), (233, .cell 800 0), (234, .c (ci most))]) rfl rfl ⟨rfl, rfl, rfl, rfl, trivial⟩) ?_
  refine aw_region ?_
  refine run_s (ss_assign rfl) rfl ?_
  refine run_nil ?_
  refine aw_seq ?_
  refine aw_region ?_
  refine run_s (ss_move rfl) rfl ?_
  refine run_s (ss_move rfl) rfl ?_
  obtain ⟨q1, h⟩ := h
  refine run_w (ws_callM (xs := [.tmp 26, .tmp 27]) (cs := [.obox [.lst (bys s1), ci s2, cu s3], ci most]) (ids := []) rfl (.inr ⟨rfl, rfl⟩) rfl rfl rfl (c_spec_l01Next s1 s2 s3 most q1) rfl rfl ?_ )
  rintro _ _ ⟨r1_0, o1_0, o1_1, o1_2, q2, rfl, rfl⟩
  replace h := h r1_0 o1_0 o1_1 o1_2 q2
  refine ⟨rfl, rfl, ?_⟩
  obtain ⟨q3, h⟩ := h
  refine run_s (ss_add rfl rfl q3) rfl ?_
  refine run_s (ss_assign rfl) rfl ?_
  refine run_nil ?_
  refine aw_seq ?_
  refine aw_seq ?_
  refine aw_region ?_
  refine run_s (ss_move rfl) rfl ?_
  obtain ⟨q4, h⟩ := h
  refine run_w (ws_callM (xs := [.tmp 30, .const (.int .i64 (5))]) (cs := [.obox [.lst (bys o1_0), ci o1_1, cu o1_2], ci 5]) (ids := []) rfl (.inr ⟨rfl, rfl⟩) rfl rfl rfl (c_spec_l01Next o1_0 o1_1 o1_2 5 q4) rfl rfl ?_ )
  rintro _ _ ⟨r2_0, o2_0, o2_1, o2_2, q5, rfl, rfl⟩
  replace h := h r2_0 o2_0 o2_1 o2_2 q5
  refine ⟨rfl, rfl, ?_⟩
  refine run_nil ?_
  refine aw_block ?_
  refine aw_seq ?_
  refine aw_region ?_
  refine run_s (ss_eql rfl rfl) rfl ?_
  refine run_s (ss_assign rfl) rfl ?_
  refine run_nil ?_
  refine aw_cond rfl (fun q6 => ?_) (fun q6 => ?_)
  ·replace h := h.1 (of_decide_eq_true q6)
   refine aw_seq ?_
   refine aw_gh (gh_to (n := 233) (σ' := [(800, ⟨[.lst (bys o2_0), ci o2_1, cu o2_2], []⟩)]) (env' := [(0, .cell 800 0), (5, .c (ci (1 + r1_0))), (233, .cell 800 0), (234, .c (ci most))]) rfl rfl ⟨rfl, rfl, rfl, rfl, trivial⟩) ?_
   refine aw_region ?_
   refine run_s (ss_move rfl) rfl ?_
   refine run_s (ss_move rfl) rfl ?_
   obtain ⟨q7, h⟩ := h
   refine run_w (ws_callM (xs := [.tmp 34, .tmp 35]) (cs := [.obox [.lst (bys o2_0), ci o2_1, cu o2_2], ci (1 + r1_0)]) (ids := [36]) rfl (.inr ⟨rfl, rfl⟩) rfl rfl rfl (c_spec_l03DrawPerm o2_0 o2_1 o2_2 (1 + r1_0) q7) rfl rfl ?_ )
   rintro _ _ ⟨r3_0, o3_0, o3_1, o3_2, q8, rfl, rfl⟩
   replace h := h r3_0 o3_0 o3_1 o3_2 q8
   refine ⟨rfl, rfl, ?_⟩
   refine run_s (ss_assign rfl) rfl ?_
   refine run_nil ?_
   refine aw_seq ?_
   refine aw_gh (gh_to (n := 233) (σ' := [(36, ⟨ints r3_0, []⟩), (800, ⟨[.lst (bys o3_0), ci o3_1, cu o3_2], []⟩)]) (env' := [(5, .c (ci (1 + r1_0))), (6, .ref 36), (233, .cell 800 0), (234, .c (ci most))]) rfl rfl ⟨rfl, rfl, rfl, rfl, trivial⟩) ?_
   refine aw_region ?_
   refine run_w (ws_buildSlice (id := 37) (ps := []) rfl rfl (Nat.le_of_ble_eq_true rfl) rfl ⟨rfl, ?_⟩)
   refine run_s (ss_assign rfl) rfl ?_
   refine run_nil ?_
   refine aw_seq ?_
   refine aw_seq ?_
   refine aw_region ?_
   refine run_s (ss_assign rfl) rfl ?_
   refine run_nil ?_
   refine aw_block ?_
   obtain ⟨H1, m1, q9, h⟩ := h
   refine aw_loop2 (fun (v8_1 : Int) (o37_1 : List (List Int)) => ⟨[(37, ⟨orows o37_1, []⟩), (36, ⟨ints r3_0, []⟩), (800, ⟨[.lst (bys o3_0), ci o3_1, cu o3_2], []⟩)], [(5, .c (ci (1 + r1_0))), (6, .ref 36), (7, .ref 37), (8, .c (ci v8_1)), (233, .cell 800 0), (234, .c (ci most))], 233⟩) H1 m1 ⟨0, ([] : List (List Int)), ghe_to (n := 233) rfl rfl ⟨rfl, rfl, rfl, rfl, rfl, rfl, trivial⟩, q9⟩ ?_
   rintro v8_1 o37_1 q9
   replace h := h v8_1 o37_1 q9
   refine aw_seq ?_
   refine aw_seq ?_
   refine aw_region ?_
   refine run_s (ss_move rfl) rfl ?_
   refine run_s (ss_move rfl) rfl ?_
   refine run_s (ss_lss rfl rfl) rfl ?_
   refine run_nil ?_
   refine aw_cond rfl (fun q10 => ?_) (fun q10 => ?_)
   ·replace h := h.1 (of_decide_eq_true q10)
    refine aw_skip ?_
    refine aw_seq ?_
    refine aw_block ?_
    refine aw_region ?_
    refine run_s (ss_move rfl) rfl ?_
    refine run_s (ss_move rfl) rfl ?_
    obtain ⟨q11, h⟩ := h
    refine run_w (ws_callR (xs := [.tmp 44]) (cs := [.own (ints r3_0)]) (ids := [45]) rfl (.inr ⟨rfl, rfl⟩) rfl rfl (fz_cons (fz_own (fz_map (fun _ => rfl) _)) fz_nil) (c_spec_l01Own r3_0 q11) rfl ?_ )
    rintro _ rfl
    refine ⟨(slf_own (slfL_map (f := ci) (fun _ => rfl) _)), rfl, ?_⟩
    refine run_w (ws_buildSlice (id := 46) (ps := [(0, .tmp 45)]) rfl rfl (Nat.le_of_ble_eq_true rfl) rfl ⟨rfl, ?_⟩)
    refine run_gh (gh_fill (id := 46) (id2 := 45) (j := 0) rfl rfl (Nat.le_of_ble_eq_true rfl) rfl rfl rfl) ?_
    obtain ⟨q13, h⟩ := h
    refine run_w (ws_app1 (fun r => C.own (ints r)) (l := o37_1) (m := [r3_0]) rfl rfl rfl rfl rfl (Nat.le_of_ble_eq_true rfl) q13 ⟨rfl, ?_⟩)
    refine run_s (ss_assign rfl) rfl ?_
    refine run_nil ?_
    refine aw_gh (gh_to (n := 233) (σ' := [(37, ⟨orows (o37_1 ++ ([r3_0])), []⟩), (36, ⟨ints r3_0, []⟩), (800, ⟨[.lst (bys o3_0), ci o3_1, cu o3_2], []⟩)]) (env' := [(5, .c (ci (1 + r1_0))), (6, .ref 36), (7, .ref 37), (8, .c (ci v8_1)), (233, .cell 800 0), (234, .c (ci most))]) rfl rfl ⟨rfl, rfl, rfl, rfl, rfl, rfl, trivial⟩) ?_
    refine aw_region ?_
    refine run_s (ss_move rfl) rfl ?_
    obtain ⟨q14, h⟩ := h
    refine run_s (ss_add rfl rfl q14) rfl ?_
    refine run_s (ss_assign rfl) rfl ?_
    refine run_nil ?_
    exact ⟨v8_1 + 1, o37_1 ++ ([r3_0]), ghe_to (n := 233) rfl rfl ⟨rfl, rfl, rfl, rfl, rfl, rfl, trivial⟩, h.1, h.2⟩
   ·replace h := h.2 (of_decide_eq_false q10)
    refine aw_exit ?_
    refine aw_seq ?_
    refine aw_gh (gh_to (n := 233) (σ' := [(37, ⟨orows o37_1, []⟩), (36, ⟨ints r3_0, []⟩), (800, ⟨[.lst (bys o3_0), ci o3_1, cu o3_2], []⟩)]) (env' := [(7, .ref 37), (233, .cell 800 0), (234, .c (ci most))]) rfl rfl ⟨rfl, rfl, rfl, trivial⟩) ?_
    refine aw_region ?_
    refine run_s (ss_move rfl) rfl ?_
    refine run_s (ss_assign rfl) rfl ?_
    refine run_nil ?_
    refine aw_ret ?_
    exact retAM_mk (retv1 rfl (rv_tmp rfl)) rfl rfl rfl ⟨_, _, _, _, h, rfl, rfl⟩
  ·replace h := h.2 (of_decide_eq_false q6)
   refine aw_seq ?_
   refine aw_region ?_
   refine run_s (ss_eql rfl rfl) rfl ?_
   refine run_s (ss_assign rfl) rfl ?_
   refine run_nil ?_
   refine aw_cond rfl (fun q15 => ?_) (fun q15 => ?_)
   ·replace h := h.1 (of_decide_eq_true q15)
    refine aw_seq ?_
    refine aw_gh (gh_to (n := 233) (σ' := [(800, ⟨[.lst (bys o2_0), ci o2_1, cu o2_2], []⟩)]) (env' := [(4, .c (cnil)), (5, .c (ci (1 + r1_0))), (233, .cell 800 0), (234, .c (ci most))]) rfl rfl ⟨rfl, rfl, rfl, rfl, trivial⟩) ?_
    refine aw_region ?_
    refine run_s (ss_move rfl) rfl ?_
    refine run_s (ss_move rfl) rfl ?_
    obtain ⟨q16, h⟩ := h
    refine run_s (ss_sub rfl rfl q16) rfl ?_
    refine run_s (ss_move rfl) rfl ?_
    obtain ⟨q17, h⟩ := h
    refine run_s (ss_rem rfl rfl q17) rfl ?_
    obtain ⟨q18, h⟩ := h
    refine run_w (ws_call (xs := [.tmp 51, .tmp 53, .tmp 55]) (ids := [56]) rfl rfl rfl rfl (c_spec_l03Alexander (1 + r1_0) ((1 + r1_0) - 1) (2 % (1 + r1_0)) q18) rfl ?_ )
    rintro _ rfl
    refine ⟨rfl, ?_⟩
    refine run_s (ss_assign rfl) rfl ?_
    refine run_nil ?_
    refine aw_ret ?_
    exact retAM_mk (retv1 rfl (rv_tmp rfl)) rfl rfl rfl ⟨_, _, _, _, h, rfl, rfl⟩
   ·replace h := h.2 (of_decide_eq_false q15)
    refine aw_seq ?_
    refine aw_gh (gh_to (n := 233) (σ' := [(800, ⟨[.lst (bys o2_0), ci o2_1, cu o2_2], []⟩)]) (env' := [(0, .cell 800 0), (1, .c (ci most)), (5, .c (ci (1 + r1_0))), (31, .c (ci r2_0)), (233, .cell 800 0), (234, .c (ci most))]) rfl rfl ⟨rfl, rfl, rfl, rfl, rfl, rfl, trivial⟩) ?_
    refine aw_region ?_
    refine run_s (ss_eql rfl rfl) rfl ?_
    refine run_s (ss_assign rfl) rfl ?_
    refine run_nil ?_
    refine aw_cond rfl (fun q20 => ?_) (fun q20 => ?_)
    ·replace h := h.1 (of_decide_eq_true q20)
     refine aw_seq ?_
     refine aw_region ?_
     refine run_s (ss_assign rfl) rfl ?_
     refine run_nil ?_
     refine aw_block ?_
     obtain ⟨H2, m2, q21, h⟩ := h
     refine aw_loop4 (fun (v9_1 : Int) (f800_0_1 : List Int) (f800_1_1 : Int) (f800_2_1 : Int) => ⟨[(800, ⟨[.lst (bys f800_0_1), ci f800_1_1, cu f800_2_1], []⟩)], [(0, .cell 800 0), (5, .c (ci (1 + r1_0))), (9, .c (ci v9_1)), (233, .cell 800 0), (234, .c (ci most))], 233⟩) H2 m2 ⟨0, o2_0, o2_1, o2_2, ghe_to (n := 233) rfl rfl ⟨rfl, rfl, rfl, rfl, rfl, trivial⟩, q21⟩ ?_
     rintro v9_1 f800_0_1 f800_1_1 f800_2_1 q21
     replace h := h v9_1 f800_0_1 f800_1_1 f800_2_1 q21
     refine aw_seq ?_
     refine aw_seq ?_
     refine aw_region ?_
     refine run_s (ss_move rfl) rfl ?_
     refine run_s (ss_lss rfl rfl) rfl ?_
     refine run_nil ?_
     refine aw_cond rfl (fun q22 => ?_) (fun q22 => ?_)
     ·replace h := h.1 (of_decide_eq_true q22)
      refine aw_skip ?_
      refine aw_seq ?_
      refine aw_block ?_
      refine aw_seq ?_
      refine aw_region ?_
      refine run_s (ss_move rfl) rfl ?_
      refine run_s (ss_move rfl) rfl ?_
      obtain ⟨q23, h⟩ := h
      refine run_w (ws_callM (xs := [.tmp 63, .tmp 64]) (cs := [.obox [.lst (bys f800_0_1), ci f800_1_1, cu f800_2_1], ci (1 + r1_0)]) (ids := []) rfl (.inr ⟨rfl, rfl⟩) rfl rfl rfl (c_spec_l01Next f800_0_1 f800_1_1 f800_2_1 (1 + r1_0) q23) rfl rfl ?_ )
      rintro _ _ ⟨r4_0, o4_0, o4_1, o4_2, q24, rfl, rfl⟩
      replace h := h r4_0 o4_0 o4_1 o4_2 q24
      refine ⟨rfl, rfl, ?_⟩
      refine run_s (ss_assign rfl) rfl ?_
      refine run_nil ?_
      refine aw_seq ?_
      refine aw_region ?_
      refine run_s (ss_move rfl) rfl ?_
      refine run_s (ss_move rfl) rfl ?_
      obtain ⟨q25, h⟩ := h
      refine run_w (ws_call (xs := [.tmp 66, .tmp 67]) (ids := []) rfl rfl rfl rfl (c_spec_l03Coprime r4_0 (1 + r1_0) q25) rfl ?_ )
      rintro _ rfl
      refine ⟨rfl, ?_⟩
      refine run_nil ?_
      refine aw_cond rfl (fun q27 => ?_) (fun q27 => ?_)
      ·replace h := h.1 (q27)
       refine aw_seq ?_
       refine aw_region ?_
       refine run_s (ss_move rfl) rfl ?_
       refine run_s (ss_move rfl) rfl ?_
       refine run_s (ss_move rfl) rfl ?_
       obtain ⟨q28, h⟩ := h
       refine run_s (ss_sub rfl rfl q28) rfl ?_
       refine run_s (ss_move rfl) rfl ?_
       obtain ⟨q29, h⟩ := h
       refine run_s (ss_add rfl rfl q29) rfl ?_
       refine run_s (ss_move rfl) rfl ?_
       obtain ⟨q30, h⟩ := h
       refine run_s (ss_rem rfl rfl q30) rfl ?_
       obtain ⟨q31, h⟩ := h
       refine run_w (ws_call (xs := [.tmp 69, .tmp 70, .tmp 76]) (ids := [77]) rfl rfl rfl rfl (c_spec_l03Alexander (1 + r1_0) r4_0 (((1 - r4_0) + (1 + r1_0)) % (1 + r1_0)) q31) rfl ?_ )
       rintro _ rfl
       refine ⟨rfl, ?_⟩
       refine run_s (ss_assign rfl) rfl ?_
       refine run_nil ?_
       refine aw_ret ?_
       exact retAM_mk (retv1 rfl (rv_tmp rfl)) rfl rfl rfl ⟨_, _, _, _, h, rfl, rfl⟩
      ·replace h := h.2 (q27)
       refine aw_skip ?_
       refine aw_gh (gh_to (n := 233) (σ' := [(800, ⟨[.lst (bys o4_0), ci o4_1, cu o4_2], []⟩)]) (env' := [(0, .cell 800 0), (5, .c (ci (1 + r1_0))), (9, .c (ci v9_1)), (233, .cell 800 0), (234, .c (ci most))]) rfl rfl ⟨rfl, rfl, rfl, rfl, rfl, trivial⟩) ?_
       refine aw_region ?_
       refine run_s (ss_move rfl) rfl ?_
       obtain ⟨q33, h⟩ := h
       refine run_s (ss_add rfl rfl q33) rfl ?_
       refine run_s (ss_assign rfl) rfl ?_
       refine run_nil ?_
       exact ⟨v9_1 + 1, o4_0, o4_1, o4_2, ghe_to (n := 233) rfl rfl ⟨rfl, rfl, rfl, rfl, rfl, trivial⟩, h.1, h.2⟩
     ·replace h := h.2 (of_decide_eq_false q22)
      refine aw_exit ?_
      refine aw_seq ?_
      refine aw_region ?_
      refine run_s (ss_move rfl) rfl ?_
      refine run_s (ss_move rfl) rfl ?_
      obtain ⟨q34, h⟩ := h
      refine run_w (ws_callM (xs := [.tmp 137, .tmp 138]) (cs := [.obox [.lst (bys f800_0_1), ci f800_1_1, cu f800_2_1], ci (1 + r1_0)]) (ids := []) rfl (.inr ⟨rfl, rfl⟩) rfl rfl rfl (c_spec_l01Next f800_0_1 f800_1_1 f800_2_1 (1 + r1_0) q34) rfl rfl ?_ )
      rintro _ _ ⟨r5_0, o5_0, o5_1, o5_2, q35, rfl, rfl⟩
      replace h := h r5_0 o5_0 o5_1 o5_2 q35
      refine ⟨rfl, rfl, ?_⟩
      refine run_s (ss_assign rfl) rfl ?_
      refine run_nil ?_
      refine aw_seq ?_
      refine aw_gh (gh_to (n := 233) (σ' := [(800, ⟨[.lst (bys o5_0), ci o5_1, cu o5_2], []⟩)]) (env' := [(0, .cell 800 0), (5, .c (ci (1 + r1_0))), (18, .c (ci r5_0)), (233, .cell 800 0), (234, .c (ci most))]) rfl rfl ⟨rfl, rfl, rfl, rfl, rfl, trivial⟩) ?_
      refine aw_regionD (kd := kdl [0, 0, 0, 0, 0, 0, 0, 0, 2, 0, 0, 0, 0, 0, 0, 0, 2, 0, 0]) (ord := [0, 1, 2, 3, 4, 5, 6, 7, 9, 10, 11, 12, 13, 14, 15, 8, 16, 17, 18]) [] mixed (by kernel_rfl) ?_
      refine rd_s rfl rfl trivial (ss_move rfl) rfl ?_
      refine rd_s rfl rfl trivial (ss_max rfl rfl) rfl ?_
      refine rd_s rfl rfl trivial (ss_move rfl) rfl ?_
      refine rd_s rfl rfl trivial (ss_max rfl rfl) rfl ?_
      obtain ⟨q36, h⟩ := h
      refine rd_s rfl rfl trivial (ss_sub rfl rfl q36) rfl ?_
      refine rd_s rfl rfl trivial (ss_move rfl) rfl ?_
      refine rd_s rfl rfl trivial (ss_max rfl rfl) rfl ?_
      obtain ⟨q37, h⟩ := h
      refine rd_s rfl rfl trivial (ss_rem rfl rfl q37) rfl ?_
      refine rd_s rfl rfl trivial (ss_move rfl) rfl ?_
      refine rd_s rfl rfl trivial (ss_move rfl) rfl ?_
      obtain ⟨q38, h⟩ := h
      refine rd_s rfl rfl trivial (ss_sub rfl rfl q38) rfl ?_
      refine rd_s rfl rfl trivial (ss_move rfl) rfl ?_
      refine rd_s rfl rfl trivial (ss_move rfl) rfl ?_
      obtain ⟨q39, h⟩ := h
      refine rd_s rfl rfl trivial (ss_sub rfl rfl q39) rfl ?_
      obtain ⟨q40, h⟩ := h
      refine rd_s rfl rfl trivial (ss_rem rfl rfl q40) rfl ?_
      obtain ⟨q41, h⟩ := h
      refine rd_w rfl rfl trivial rfl rfl (ws_call (xs := [.tmp 141, .tmp 144, .tmp 147]) (ids := [148]) rfl rfl rfl rfl (c_spec_l03Alexander (if 1 < r5_0 then r5_0 else 1) ((if 1 < r5_0 then r5_0 else 1) - 1) (2 % (if 1 < r5_0 then r5_0 else 1)) q41) rfl ?_ )
      rintro _ rfl
      refine ⟨rfl, ?_⟩
      obtain ⟨q43, h⟩ := h
      refine rd_w rfl rfl trivial rfl rfl (ws_call (xs := [.tmp 151, .tmp 155, .const (.int .i64 (0))]) (ids := [156]) rfl rfl rfl rfl (c_spec_l03Alexander ((1 + r1_0) - r5_0) (1 % ((1 + r1_0) - r5_0)) 0 q43) rfl ?_ )
      rintro _ rfl
      refine ⟨rfl, ?_⟩
      refine rd_s rfl rfl trivial (ss_assign rfl) rfl ?_
      refine rd_s rfl rfl trivial (ss_assign rfl) rfl ?_
      refine rd_nil ?_
      refine aw_seq ?_
      refine aw_seq ?_
      refine aw_gh (gh_to (n := 233) (σ' := [(156, ⟨orows (tab ((1 + r1_0) - r5_0) (fun x_ y_ => ((0 : Int) * x_ + (1 % ((1 + r1_0) - r5_0)) * y_) % ((1 + r1_0) - r5_0))), []⟩), (148, ⟨orows (tab (if 1 < r5_0 then r5_0 else 1) (fun x_ y_ => ((2 % (if 1 < r5_0 then r5_0 else 1)) * x_ + ((if 1 < r5_0 then r5_0 else 1) - 1) * y_) % (if 1 < r5_0 then r5_0 else 1))), []⟩), (800, ⟨[.lst (bys o5_0), ci o5_1, cu o5_2], []⟩)]) (env' := [(0, .cell 800 0), (5, .c (ci (1 + r1_0))), (18, .c (ci r5_0)), (19, .ref 148), (20, .ref 156), (233, .cell 800 0), (234, .c (ci most))]) rfl rfl ⟨rfl, rfl, rfl, rfl, rfl, rfl, rfl, trivial⟩) ?_
      refine aw_region ?_
      refine run_s (ss_move rfl) rfl ?_
      refine run_s (ss_eql rfl rfl) rfl ?_
      refine run_nil ?_
      refine aw_cond rfl (fun q45 => ?_) (fun q45 => ?_)
      ·replace h := h.1 (of_decide_eq_true q45)
       refine aw_seq ?_
       refine aw_gh (gh_to (n := 233) (σ' := [(156, ⟨orows (tab ((1 + r1_0) - r5_0) (fun x_ y_ => ((0 : Int) * x_ + (1 % ((1 + r1_0) - r5_0)) * y_) % ((1 + r1_0) - r5_0))), []⟩), (148, ⟨orows (tab (if 1 < r5_0 then r5_0 else 1) (fun x_ y_ => ((2 % (if 1 < r5_0 then r5_0 else 1)) * x_ + ((if 1 < r5_0 then r5_0 else 1) - 1) * y_) % (if 1 < r5_0 then r5_0 else 1))), []⟩), (800, ⟨[.lst (bys o5_0), ci o5_1, cu o5_2], []⟩)]) (env' := [(20, .ref 156), (233, .cell 800 0), (234, .c (ci most))]) rfl rfl ⟨rfl, rfl, rfl, trivial⟩) ?_
       refine aw_region ?_
       refine run_s (ss_move rfl) rfl ?_
       refine run_s (ss_assign rfl) rfl ?_
       refine run_nil ?_
       refine aw_ret ?_
       exact retAM_mk (retv1 rfl (rv_tmp rfl)) rfl rfl rfl ⟨_, _, _, _, h, rfl, rfl⟩
      ·replace h := h.2 (of_decide_eq_false q45)
       refine aw_skip ?_
       refine aw_seq ?_
       refine aw_region ?_
       refine run_s (ss_move rfl) rfl ?_
       refine run_s (ss_move rfl) rfl ?_
       refine run_s (ss_move rfl) rfl ?_
       obtain ⟨q46, h⟩ := h
       refine run_s (ss_sub rfl rfl q46) rfl ?_
       obtain ⟨q47, h⟩ := h
       refine run_w (ws_callM (xs := [.tmp 160, .tmp 163]) (cs := [.obox [.lst (bys o5_0), ci o5_1, cu o5_2], ci ((1 + r1_0) - r5_0)]) (ids := [164]) rfl (.inr ⟨rfl, rfl⟩) rfl rfl rfl (c_spec_l03DrawPerm o5_0 o5_1 o5_2 ((1 + r1_0) - r5_0) q47) rfl rfl ?_ )
       rintro _ _ ⟨r6_0, o6_0, o6_1, o6_2, q48, rfl, rfl⟩
       replace h := h r6_0 o6_0 o6_1 o6_2 q48
       refine ⟨rfl, rfl, ?_⟩
       refine run_s (ss_assign rfl) rfl ?_
       refine run_nil ?_
       refine aw_seq ?_
       refine aw_region ?_
       refine run_w (ws_buildSlice (id := 165) (ps := []) rfl rfl (Nat.le_of_ble_eq_true rfl) rfl ⟨rfl, ?_⟩)
       refine run_s (ss_assign rfl) rfl ?_
       refine run_nil ?_
       refine aw_gh (gh_frzE (id := 148) (fun r => C.lst (ints r)) rfl (fun _ => (fz_own (fz_map (fun _ => rfl) _)))) ?_
       refine aw_gh (gh_frzE (id := 156) (fun r => C.lst (ints r)) rfl (fun _ => (fz_own (fz_map (fun _ => rfl) _)))) ?_
       refine aw_seq ?_
       refine aw_seq ?_
       refine aw_gh (gh_to (n := 233) (σ' := [(165, ⟨orows ([] : List (List Int)), []⟩), (164, ⟨ints r6_0, []⟩), (800, ⟨[.lst (bys o6_0), ci o6_1, cu o6_2], []⟩)]) (env' := [(5, .c (ci (1 + r1_0))), (18, .c (ci r5_0)), (19, .c (.lst (rows (tab (if 1 < r5_0 then r5_0 else 1) (fun x_ y_ => ((2 % (if 1 < r5_0 then r5_0 else 1)) * x_ + ((if 1 < r5_0 then r5_0 else 1) - 1) * y_) % (if 1 < r5_0 then r5_0 else 1)))))), (20, .c (.lst (rows (tab ((1 + r1_0) - r5_0) (fun x_ y_ => ((0 : Int) * x_ + (1 % ((1 + r1_0) - r5_0)) * y_) % ((1 + r1_0) - r5_0)))))), (21, .ref 164), (22, .ref 165), (233, .cell 800 0), (234, .c (ci most))]) rfl rfl ⟨rfl, rfl, rfl, rfl, rfl, rfl, rfl, rfl, trivial⟩) ?_
       refine aw_region ?_
       refine run_s (ss_assign rfl) rfl ?_
       refine run_nil ?_
       refine aw_block ?_
       obtain ⟨H3, m3, q49, h⟩ := h
       refine aw_loop2 (fun (v23_2 : Int) (o165_2 : List (List Int)) => ⟨[(165, ⟨orows o165_2, []⟩), (164, ⟨ints r6_0, []⟩), (800, ⟨[.lst (bys o6_0), ci o6_1, cu o6_2], []⟩)], [(5, .c (ci (1 + r1_0))), (18, .c (ci r5_0)), (19, .c (.lst (rows (tab (if 1 < r5_0 then r5_0 else 1) (fun x_ y_ => ((2 % (if 1 < r5_0 then r5_0 else 1)) * x_ + ((if 1 < r5_0 then r5_0 else 1) - 1) * y_) % (if 1 < r5_0 then r5_0 else 1)))))), (20, .c (.lst (rows (tab ((1 + r1_0) - r5_0) (fun x_ y_ => ((0 : Int) * x_ + (1 % ((1 + r1_0) - r5_0)) * y_) % ((1 + r1_0) - r5_0)))))), (21, .ref 164), (22, .ref 165), (23, .c (ci v23_2)), (233, .cell 800 0), (234, .c (ci most))], 233⟩) H3 m3 ⟨0, ([] : List (List Int)), ghe_to (n := 233) rfl rfl ⟨rfl, rfl, rfl, rfl, rfl, rfl, rfl, rfl, rfl, trivial⟩, q49⟩ ?_
       rintro v23_2 o165_2 q49
       replace h := h v23_2 o165_2 q49
       refine aw_seq ?_
       refine aw_seq ?_
       refine aw_region ?_
       refine run_s (ss_move rfl) rfl ?_
       refine run_s (ss_move rfl) rfl ?_
       refine run_s (ss_lss rfl rfl) rfl ?_
       refine run_nil ?_
       refine aw_cond rfl (fun q50 => ?_) (fun q50 => ?_)
       ·replace h := h.1 (of_decide_eq_true q50)
        refine aw_skip ?_
        refine aw_seq ?_
        refine aw_block ?_
        refine aw_seq ?_
        refine aw_region ?_
        refine run_w (ws_buildSlice (id := 171) (ps := []) rfl rfl (Nat.le_of_ble_eq_true rfl) rfl ⟨rfl, ?_⟩)
        refine run_s (ss_assign rfl) rfl ?_
        refine run_nil ?_
        refine aw_seq ?_
        refine aw_seq ?_
        refine aw_region ?_
        refine run_s (ss_assign rfl) rfl ?_
        refine run_nil ?_
        refine aw_block ?_
        obtain ⟨H4, m4, q51, h⟩ := h
        refine aw_loop2 (fun (v25_3 : Int) (o171_3 : List Int) => ⟨[(171, ⟨ints o171_3, []⟩), (165, ⟨orows o165_2, []⟩), (164, ⟨ints r6_0, []⟩), (800, ⟨[.lst (bys o6_0), ci o6_1, cu o6_2], []⟩)], [(5, .c (ci (1 + r1_0))), (18, .c (ci r5_0)), (19, .c (.lst (rows (tab (if 1 < r5_0 then r5_0 else 1) (fun x_ y_ => ((2 % (if 1 < r5_0 then r5_0 else 1)) * x_ + ((if 1 < r5_0 then r5_0 else 1) - 1) * y_) % (if 1 < r5_0 then r5_0 else 1)))))), (20, .c (.lst (rows (tab ((1 + r1_0) - r5_0) (fun x_ y_ => ((0 : Int) * x_ + (1 % ((1 + r1_0) - r5_0)) * y_) % ((1 + r1_0) - r5_0)))))), (21, .ref 164), (22, .ref 165), (23, .c (ci v23_2)), (24, .ref 171), (25, .c (ci v25_3)), (233, .cell 800 0), (234, .c (ci most))], 233⟩) H4 m4 ⟨0, ([] : List Int), ghe_to (n := 233) rfl rfl ⟨rfl, rfl, rfl, rfl, rfl, rfl, rfl, rfl, rfl, rfl, rfl, trivial⟩, q51⟩ ?_
        rintro v25_3 o171_3 q51
        replace h := h v25_3 o171_3 q51
        refine aw_seq ?_
        refine aw_seq ?_
        refine aw_region ?_
        refine run_s (ss_move rfl) rfl ?_
        refine run_s (ss_move rfl) rfl ?_
        refine run_s (ss_lss rfl rfl) rfl ?_
        refine run_nil ?_
        refine aw_cond rfl (fun q52 => ?_) (fun q52 => ?_)
        ·replace h := h.1 (of_decide_eq_true q52)
         refine aw_skip ?_
         refine aw_seq ?_
         refine aw_block ?_
         refine aw_block ?_
         refine aw_seq ?_
         refine aw_region ?_
         refine run_s (ss_move rfl) rfl ?_
         refine run_s (ss_move rfl) rfl ?_
         refine run_s (ss_lss rfl rfl) rfl ?_
         refine run_s (ss_move rfl) rfl ?_
         refine run_split (s := 185) rfl (fun q53 => ?_) (fun q53 => ?_)
         ·replace h := h.1 (of_decide_eq_true q53)
          refine run_gt rfl rfl q53 ?_
          refine run_s (ss_move rfl) rfl ?_
          refine run_gt rfl rfl q53 ?_
          refine run_s (ss_move rfl) rfl ?_
          refine run_gt rfl rfl q53 ?_
          refine run_s (ss_lss rfl rfl) rfl ?_
          refine run_s (ss_pickT rfl q53 rfl) rfl ?_
          refine run_s (ss_assign rfl) rfl ?_
          refine run_nil ?_
          refine aw_cond rfl (fun q54 => ?_) (fun q54 => ?_)
          ·replace h := h.1 (of_decide_eq_true q54)
           refine aw_region ?_
           refine run_s (ss_move rfl) rfl ?_
           refine run_s (ss_move rfl) rfl ?_
           refine run_s (ss_move rfl) rfl ?_
           obtain ⟨q55, h⟩ := h
           refine run_s (ss_idxL rfl rfl q55) rfl ?_
           refine run_s (ss_loadL (f := (fun r => C.lst (ints r))) rfl q55) rfl ?_
           refine run_s (ss_move rfl) rfl ?_
           obtain ⟨q56, h⟩ := h
           refine run_s (ss_idxL rfl rfl q56) rfl ?_
           refine run_s (ss_loadL (f := ci) rfl q56) rfl ?_
           refine run_w (ws_buildSlice (id := 198) (ps := [(0, .tmp 197)]) rfl rfl (Nat.le_of_ble_eq_true rfl) rfl ⟨rfl, ?_⟩)
           obtain ⟨q57, h⟩ := h
           refine run_w (ws_app1 ci (l := o171_3) (m := [el (el (tab (if 1 < r5_0 then r5_0 else 1) (fun x_ y_ => ((2 % (if 1 < r5_0 then r5_0 else 1)) * x_ + ((if 1 < r5_0 then r5_0 else 1) - 1) * y_) % (if 1 < r5_0 then r5_0 else 1))) v23_2) v25_3]) rfl rfl rfl rfl rfl (Nat.le_of_ble_eq_true rfl) q57 ⟨rfl, ?_⟩)
           refine run_s (ss_assign rfl) rfl ?_
           refine run_nil ?_
           refine aw_gh (gh_to (n := 233) (σ' := [(171, ⟨ints (o171_3 ++ ([el (el (tab (if 1 < r5_0 then r5_0 else 1) (fun x_ y_ => ((2 % (if 1 < r5_0 then r5_0 else 1)) * x_ + ((if 1 < r5_0 then r5_0 else 1) - 1) * y_) % (if 1 < r5_0 then r5_0 else 1))) v23_2) v25_3])), []⟩), (165, ⟨orows o165_2, []⟩), (164, ⟨ints r6_0, []⟩), (800, ⟨[.lst (bys o6_0), ci o6_1, cu o6_2], []⟩)]) (env' := [(5, .c (ci (1 + r1_0))), (18, .c (ci r5_0)), (19, .c (.lst (rows (tab (if 1 < r5_0 then r5_0 else 1) (fun x_ y_ => ((2 % (if 1 < r5_0 then r5_0 else 1)) * x_ + ((if 1 < r5_0 then r5_0 else 1) - 1) * y_) % (if 1 < r5_0 then r5_0 else 1)))))), (20, .c (.lst (rows (tab ((1 + r1_0) - r5_0) (fun x_ y_ => ((0 : Int) * x_ + (1 % ((1 + r1_0) - r5_0)) * y_) % ((1 + r1_0) - r5_0)))))), (21, .ref 164), (22, .ref 165), (23, .c (ci v23_2)), (24, .ref 171), (25, .c (ci v25_3)), (186, .c (ci v25_3)), (187, .c (ci r5_0)), (188, .c (cb (decide (v25_3 < r5_0)))), (233, .cell 800 0), (234, .c (ci most))]) rfl rfl ⟨rfl, rfl, rfl, rfl, rfl, rfl, rfl, rfl, rfl, rfl, rfl, rfl, rfl, rfl, trivial⟩) ?_
           refine aw_region ?_
           refine run_s (ss_move rfl) rfl ?_
           obtain ⟨q58, h⟩ := h
           refine run_s (ss_add rfl rfl q58) rfl ?_
           refine run_s (ss_assign rfl) rfl ?_
           refine run_nil ?_
           exact ⟨v25_3 + 1, o171_3 ++ ([el (el (tab (if 1 < r5_0 then r5_0 else 1) (fun x_ y_ => ((2 % (if 1 < r5_0 then r5_0 else 1)) * x_ + ((if 1 < r5_0 then r5_0 else 1) - 1) * y_) % (if 1 < r5_0 then r5_0 else 1))) v23_2) v25_3]), ghe_to (n := 233) rfl rfl ⟨rfl, rfl, rfl, rfl, rfl, rfl, rfl, rfl, rfl, rfl, rfl, trivial⟩, h.1, h.2⟩
          ·replace h := h.2 (of_decide_eq_false q54)
           refine aw_seq ?_
           refine aw_region ?_
           refine run_s (ss_move rfl) rfl ?_
           refine run_s (ss_move rfl) rfl ?_
           refine run_s (ss_geq rfl rfl) rfl ?_
           refine run_s (ss_move rfl) rfl ?_
           refine run_split (s := 204) rfl (fun q59 => ?_) (fun q59 => ?_)
           ·replace h := h.1 (of_decide_eq_true q59)
            refine run_gt rfl rfl q59 ?_
            refine run_s (ss_move rfl) rfl ?_
            refine run_gt rfl rfl q59 ?_
            refine run_s (ss_move rfl) rfl ?_
            refine run_gt rfl rfl q59 ?_
            refine run_s (ss_geq rfl rfl) rfl ?_
            refine run_s (ss_pickT rfl q59 rfl) rfl ?_
            refine run_s (ss_assign rfl) rfl ?_
            refine run_nil ?_
            refine aw_cond rfl (fun q60 => ?_) (fun q60 => ?_)
            ·replace h := h.1 (of_decide_eq_true q60)
             refine aw_region ?_
             refine run_s (ss_move rfl) rfl ?_
             refine run_s (ss_move rfl) rfl ?_
             refine run_s (ss_move rfl) rfl ?_
             refine run_s (ss_move rfl) rfl ?_
             refine run_s (ss_move rfl) rfl ?_
             refine run_s (ss_move rfl) rfl ?_
             obtain ⟨q61, h⟩ := h
             refine run_s (ss_sub rfl rfl q61) rfl ?_
             obtain ⟨q62, h⟩ := h
             refine run_s (ss_idxL rfl rfl q62) rfl ?_
             refine run_s (ss_loadL (f := (fun r => C.lst (ints r))) rfl q62) rfl ?_
             refine run_s (ss_move rfl) rfl ?_
             refine run_s (ss_move rfl) rfl ?_
             obtain ⟨q63, h⟩ := h
             refine run_s (ss_sub rfl rfl q63) rfl ?_
             obtain ⟨q64, h⟩ := h
             refine run_s (ss_idxL rfl rfl q64) rfl ?_
             refine run_s (ss_loadL (f := ci) rfl q64) rfl ?_
             obtain ⟨q65, h⟩ := h
             refine run_s (ss_idxR (f := ci) rfl rfl rfl q65) rfl ?_
             refine run_s (ss_loadR (f := ci) rfl rfl q65 rfl rfl) rfl ?_
             obtain ⟨q66, h⟩ := h
             refine run_s (ss_add rfl rfl q66) rfl ?_
             refine run_w (ws_buildSlice (id := 226) (ps := [(0, .tmp 225)]) rfl rfl (Nat.le_of_ble_eq_true rfl) rfl ⟨rfl, ?_⟩)
             obtain ⟨q67, h⟩ := h
             refine run_w (ws_app1 ci (l := o171_3) (m := [r5_0 + (el r6_0 (el (el (tab ((1 + r1_0) - r5_0) (fun x_ y_ => ((0 : Int) * x_ + (1 % ((1 + r1_0) - r5_0)) * y_) % ((1 + r1_0) - r5_0))) (v23_2 - r5_0)) (v25_3 - r5_0)))]) rfl rfl rfl rfl rfl (Nat.le_of_ble_eq_true rfl) q67 ⟨rfl, ?_⟩)
             refine run_s (ss_assign rfl) rfl ?_
             refine run_nil ?_
             refine aw_gh (gh_to (n := 233) (σ' := [(171, ⟨ints (o171_3 ++ ([r5_0 + (el r6_0 (el (el (tab ((1 + r1_0) - r5_0) (fun x_ y_ => ((0 : Int) * x_ + (1 % ((1 + r1_0) - r5_0)) * y_) % ((1 + r1_0) - r5_0))) (v23_2 - r5_0)) (v25_3 - r5_0)))])), []⟩), (165, ⟨orows o165_2, []⟩), (164, ⟨ints r6_0, []⟩), (800, ⟨[.lst (bys o6_0), ci o6_1, cu o6_2], []⟩)]) (env' := [(5, .c (ci (1 + r1_0))), (18, .c (ci r5_0)), (19, .c (.lst (rows (tab (if 1 < r5_0 then r5_0 else 1) (fun x_ y_ => ((2 % (if 1 < r5_0 then r5_0 else 1)) * x_ + ((if 1 < r5_0 then r5_0 else 1) - 1) * y_) % (if 1 < r5_0 then r5_0 else 1)))))), (20, .c (.lst (rows (tab ((1 + r1_0) - r5_0) (fun x_ y_ => ((0 : Int) * x_ + (1 % ((1 + r1_0) - r5_0)) * y_) % ((1 + r1_0) - r5_0)))))), (21, .ref 164), (22, .ref 165), (23, .c (ci v23_2)), (24, .ref 171), (25, .c (ci v25_3)), (186, .c (ci v25_3)), (187, .c (ci r5_0)), (188, .c (cb (decide (v25_3 < r5_0)))), (205, .c (ci v25_3)), (206, .c (ci r5_0)), (207, .c (cb (decide (r5_0 ≤ v25_3)))), (233, .cell 800 0), (234, .c (ci most))]) rfl rfl ⟨rfl, rfl, rfl, rfl, rfl, rfl, rfl, rfl, rfl, rfl, rfl, rfl, rfl, rfl, rfl, rfl, rfl, trivial⟩) ?_
             refine aw_region ?_
             refine run_s (ss_move rfl) rfl ?_
             obtain ⟨q68, h⟩ := h
             refine run_s (ss_add rfl rfl q68) rfl ?_
             refine run_s (ss_assign rfl) rfl ?_
             refine run_nil ?_
             exact ⟨v25_3 + 1, o171_3 ++ ([r5_0 + (el r6_0 (el (el (tab ((1 + r1_0) - r5_0) (fun x_ y_ => ((0 : Int) * x_ + (1 % ((1 + r1_0) - r5_0)) * y_) % ((1 + r1_0) - r5_0))) (v23_2 - r5_0)) (v25_3 - r5_0)))]), ghe_to (n := 233) rfl rfl ⟨rfl, rfl, rfl, rfl, rfl, rfl, rfl, rfl, rfl, rfl, rfl, trivial⟩, h.1, h.2⟩
            ·replace h := h.2 (of_decide_eq_false q60)
             refine aw_gh (gh_to (n := 233) (σ' := [(171, ⟨ints o171_3, []⟩), (165, ⟨orows o165_2, []⟩), (164, ⟨ints r6_0, []⟩), (800, ⟨[.lst (bys o6_0), ci o6_1, cu o6_2], []⟩)]) (env' := [(5, .c (ci (1 + r1_0))), (18, .c (ci r5_0)), (19, .c (.lst (rows (tab (if 1 < r5_0 then r5_0 else 1) (fun x_ y_ => ((2 % (if 1 < r5_0 then r5_0 else 1)) * x_ + ((if 1 < r5_0 then r5_0 else 1) - 1) * y_) % (if 1 < r5_0 then r5_0 else 1)))))), (20, .c (.lst (rows (tab ((1 + r1_0) - r5_0) (fun x_ y_ => ((0 : Int) * x_ + (1 % ((1 + r1_0) - r5_0)) * y_) % ((1 + r1_0) - r5_0)))))), (21, .ref 164), (22, .ref 165), (23, .c (ci v23_2)), (24, .ref 171), (25, .c (ci v25_3)), (186, .c (ci v25_3)), (187, .c (ci r5_0)), (188, .c (cb (decide (v25_3 < r5_0)))), (205, .c (ci v25_3)), (206, .c (ci r5_0)), (207, .c (cb (decide (r5_0 ≤ v25_3)))), (233, .cell 800 0), (234, .c (ci most))]) rfl rfl ⟨rfl, rfl, rfl, rfl, rfl, rfl, rfl, rfl, rfl, rfl, rfl, rfl, rfl, rfl, rfl, rfl, rfl, trivial⟩) ?_
             refine aw_region ?_
             refine run_s (ss_move rfl) rfl ?_
             refine run_s (ss_move rfl) rfl ?_
             refine run_w (ws_buildSlice (id := 179) (ps := [(0, .tmp 178)]) rfl rfl (Nat.le_of_ble_eq_true rfl) rfl ⟨rfl, ?_⟩)
             obtain ⟨q69, h⟩ := h
             refine run_w (ws_app1 ci (l := o171_3) (m := [v25_3]) rfl rfl rfl rfl rfl (Nat.le_of_ble_eq_true rfl) q69 ⟨rfl, ?_⟩)
             refine run_s (ss_assign rfl) rfl ?_
             refine run_nil ?_
             refine aw_gh (gh_to (n := 233) (σ' := [(171, ⟨ints (o171_3 ++ ([v25_3])), []⟩), (165, ⟨orows o165_2, []⟩), (164, ⟨ints r6_0, []⟩), (800, ⟨[.lst (bys o6_0), ci o6_1, cu o6_2], []⟩)]) (env' := [(5, .c (ci (1 + r1_0))), (18, .c (ci r5_0)), (19, .c (.lst (rows (tab (if 1 < r5_0 then r5_0 else 1) (fun x_ y_ => ((2 % (if 1 < r5_0 then r5_0 else 1)) * x_ + ((if 1 < r5_0 then r5_0 else 1) - 1) * y_) % (if 1 < r5_0 then r5_0 else 1)))))), (20, .c (.lst (rows (tab ((1 + r1_0) - r5_0) (fun x_ y_ => ((0 : Int) * x_ + (1 % ((1 + r1_0) - r5_0)) * y_) % ((1 + r1_0) - r5_0)))))), (21, .ref 164), (22, .ref 165), (23, .c (ci v23_2)), (24, .ref 171), (25, .c (ci v25_3)), (186, .c (ci v25_3)), (187, .c (ci r5_0)), (188, .c (cb (decide (v25_3 < r5_0)))), (205, .c (ci v25_3)), (206, .c (ci r5_0)), (207, .c (cb (decide (r5_0 ≤ v25_3)))), (233, .cell 800 0), (234, .c (ci most))]) rfl rfl ⟨rfl, rfl, rfl, rfl, rfl, rfl, rfl, rfl, rfl, rfl, rfl, rfl, rfl, rfl, rfl, rfl, rfl, trivial⟩) ?_
             refine aw_region ?_
             refine run_s (ss_move rfl) rfl ?_
             obtain ⟨q70, h⟩ := h
             refine run_s (ss_add rfl rfl q70) rfl ?_
             refine run_s (ss_assign rfl) rfl ?_
             refine run_nil ?_
             exact ⟨v25_3 + 1, o171_3 ++ ([v25_3]), ghe_to (n := 233) rfl rfl ⟨rfl, rfl, rfl, rfl, rfl, rfl, rfl, rfl, rfl, rfl, rfl, trivial⟩, h.1, h.2⟩
           ·replace h := h.2 (of_decide_eq_false q59)
            refine run_gf rfl rfl q59 rfl ?_
            refine run_gf rfl rfl q59 rfl ?_
            refine run_gf rfl rfl q59 rfl ?_
            refine run_s (ss_pickF rfl q59 rfl) rfl ?_
            refine run_s (ss_assign rfl) rfl ?_
            refine run_nil ?_
            refine aw_cond rfl (fun q71 => ?_) (fun q71 => ?_)
            ·cases q71
            ·skip
             refine aw_gh (gh_to (n := 233) (σ' := [(171, ⟨ints o171_3, []⟩), (165, ⟨orows o165_2, []⟩), (164, ⟨ints r6_0, []⟩), (800, ⟨[.lst (bys o6_0), ci o6_1, cu o6_2], []⟩)]) (env' := [(5, .c (ci (1 + r1_0))), (18, .c (ci r5_0)), (19, .c (.lst (rows (tab (if 1 < r5_0 then r5_0 else 1) (fun x_ y_ => ((2 % (if 1 < r5_0 then r5_0 else 1)) * x_ + ((if 1 < r5_0 then r5_0 else 1) - 1) * y_) % (if 1 < r5_0 then r5_0 else 1)))))), (20, .c (.lst (rows (tab ((1 + r1_0) - r5_0) (fun x_ y_ => ((0 : Int) * x_ + (1 % ((1 + r1_0) - r5_0)) * y_) % ((1 + r1_0) - r5_0)))))), (21, .ref 164), (22, .ref 165), (23, .c (ci v23_2)), (24, .ref 171), (25, .c (ci v25_3)), (186, .c (ci v25_3)), (187, .c (ci r5_0)), (188, .c (cb (decide (v25_3 < r5_0)))), (233, .cell 800 0), (234, .c (ci most))]) rfl rfl ⟨rfl, rfl, rfl, rfl, rfl, rfl, rfl, rfl, rfl, rfl, rfl, rfl, rfl, rfl, trivial⟩) ?_
             refine aw_region ?_
             refine run_s (ss_move rfl) rfl ?_
             refine run_s (ss_move rfl) rfl ?_
             refine run_w (ws_buildSlice (id := 179) (ps := [(0, .tmp 178)]) rfl rfl (Nat.le_of_ble_eq_true rfl) rfl ⟨rfl, ?_⟩)
             obtain ⟨q72, h⟩ := h
             refine run_w (ws_app1 ci (l := o171_3) (m := [v25_3]) rfl rfl rfl rfl rfl (Nat.le_of_ble_eq_true rfl) q72 ⟨rfl, ?_⟩)
             refine run_s (ss_assign rfl) rfl ?_
             refine run_nil ?_
             refine aw_region ?_
             refine run_s (ss_move rfl) rfl ?_
             obtain ⟨q73, h⟩ := h
             refine run_s (ss_add rfl rfl q73) rfl ?_
             refine run_s (ss_assign rfl) rfl ?_
             refine run_nil ?_
             exact ⟨v25_3 + 1, o171_3 ++ ([v25_3]), ghe_to (n := 233) rfl rfl ⟨rfl, rfl, rfl, rfl, rfl, rfl, rfl, rfl, rfl, rfl, rfl, trivial⟩, h.1, h.2⟩
         ·replace h := h.2 (of_decide_eq_false q53)
          refine run_gf rfl rfl q53 rfl ?_
          refine run_gf rfl rfl q53 rfl ?_
          refine run_gf rfl rfl q53 rfl ?_
          refine run_s (ss_pickF rfl q53 rfl) rfl ?_
          refine run_s (ss_assign rfl) rfl ?_
          refine run_nil ?_
          refine aw_cond rfl (fun q74 => ?_) (fun q74 => ?_)
          ·cases q74
          ·skip
           refine aw_seq ?_
           refine aw_region ?_
           refine run_s (ss_move rfl) rfl ?_
           refine run_s (ss_move rfl) rfl ?_
           refine run_s (ss_geq rfl rfl) rfl ?_
           refine run_s (ss_move rfl) rfl ?_
           refine run_split (s := 204) rfl (fun q75 => ?_) (fun q75 => ?_)
           ·replace h := h.1 (of_decide_eq_true q75)
            refine run_gt rfl rfl q75 ?_
            refine run_s (ss_move rfl) rfl ?_
            refine run_gt rfl rfl q75 ?_
            refine run_s (ss_move rfl) rfl ?_
            refine run_gt rfl rfl q75 ?_
            refine run_s (ss_geq rfl rfl) rfl ?_
            refine run_s (ss_pickT rfl q75 rfl) rfl ?_
            refine run_s (ss_assign rfl) rfl ?_
            refine run_nil ?_
            refine aw_cond rfl (fun q76 => ?_) (fun q76 => ?_)
            ·replace h := h.1 (of_decide_eq_true q76)
             refine aw_region ?_
             refine run_s (ss_move rfl) rfl ?_
             refine run_s (ss_move rfl) rfl ?_
             refine run_s (ss_move rfl) rfl ?_
             refine run_s (ss_move rfl) rfl ?_
             refine run_s (ss_move rfl) rfl ?_
             refine run_s (ss_move rfl) rfl ?_
             obtain ⟨q77, h⟩ := h
             refine run_s (ss_sub rfl rfl q77) rfl ?_
             obtain ⟨q78, h⟩ := h
             refine run_s (ss_idxL rfl rfl q78) rfl ?_
             refine run_s (ss_loadL (f := (fun r => C.lst (ints r))) rfl q78) rfl ?_
             refine run_s (ss_move rfl) rfl ?_
             refine run_s (ss_move rfl) rfl ?_
             obtain ⟨q79, h⟩ := h
             refine run_s (ss_sub rfl rfl q79) rfl ?_
             obtain ⟨q80, h⟩ := h
             refine run_s (ss_idxL rfl rfl q80) rfl ?_
             refine run_s (ss_loadL (f := ci) rfl q80) rfl ?_
             obtain ⟨q81, h⟩ := h
             refine run_s (ss_idxR (f := ci) rfl rfl rfl q81) rfl ?_
             refine run_s (ss_loadR (f := ci) rfl rfl q81 rfl rfl) rfl ?_
             obtain ⟨q82, h⟩ := h
             refine run_s (ss_add rfl rfl q82) rfl ?_
             refine run_w (ws_buildSlice (id := 226) (ps := [(0, .tmp 225)]) rfl rfl (Nat.le_of_ble_eq_true rfl) rfl ⟨rfl, ?_⟩)
             obtain ⟨q83, h⟩ := h
             refine run_w (ws_app1 ci (l := o171_3) (m := [r5_0 + (el r6_0 (el (el (tab ((1 + r1_0) - r5_0) (fun x_ y_ => ((0 : Int) * x_ + (1 % ((1 + r1_0) - r5_0)) * y_) % ((1 + r1_0) - r5_0))) (v23_2 - r5_0)) (v25_3 - r5_0)))]) rfl rfl rfl rfl rfl (Nat.le_of_ble_eq_true rfl) q83 ⟨rfl, ?_⟩)
             refine run_s (ss_assign rfl) rfl ?_
             refine run_nil ?_
             refine aw_gh (gh_to (n := 233) (σ' := [(171, ⟨ints (o171_3 ++ ([r5_0 + (el r6_0 (el (el (tab ((1 + r1_0) - r5_0) (fun x_ y_ => ((0 : Int) * x_ + (1 % ((1 + r1_0) - r5_0)) * y_) % ((1 + r1_0) - r5_0))) (v23_2 - r5_0)) (v25_3 - r5_0)))])), []⟩), (165, ⟨orows o165_2, []⟩), (164, ⟨ints r6_0, []⟩), (800, ⟨[.lst (bys o6_0), ci o6_1, cu o6_2], []⟩)]) (env' := [(5, .c (ci (1 + r1_0))), (18, .c (ci r5_0)), (19, .c (.lst (rows (tab (if 1 < r5_0 then r5_0 else 1) (fun x_ y_ => ((2 % (if 1 < r5_0 then r5_0 else 1)) * x_ + ((if 1 < r5_0 then r5_0 else 1) - 1) * y_) % (if 1 < r5_0 then r5_0 else 1)))))), (20, .c (.lst (rows (tab ((1 + r1_0) - r5_0) (fun x_ y_ => ((0 : Int) * x_ + (1 % ((1 + r1_0) - r5_0)) * y_) % ((1 + r1_0) - r5_0)))))), (21, .ref 164), (22, .ref 165), (23, .c (ci v23_2)), (24, .ref 171), (25, .c (ci v25_3)), (205, .c (ci v25_3)), (206, .c (ci r5_0)), (207, .c (cb (decide (r5_0 ≤ v25_3)))), (233, .cell 800 0), (234, .c (ci most))]) rfl rfl ⟨rfl, rfl, rfl, rfl, rfl, rfl, rfl, rfl, rfl, rfl, rfl, rfl, rfl, rfl, trivial⟩) ?_
             refine aw_region ?_
             refine run_s (ss_move rfl) rfl ?_
             obtain ⟨q84, h⟩ := h
             refine run_s (ss_add rfl rfl q84) rfl ?_
             refine run_s (ss_assign rfl) rfl ?_
             refine run_nil ?_
             exact ⟨v25_3 + 1, o171_3 ++ ([r5_0 + (el r6_0 (el (el (tab ((1 + r1_0) - r5_0) (fun x_ y_ => ((0 : Int) * x_ + (1 % ((1 + r1_0) - r5_0)) * y_) % ((1 + r1_0) - r5_0))) (v23_2 - r5_0)) (v25_3 - r5_0)))]), ghe_to (n := 233) rfl rfl ⟨rfl, rfl, rfl, rfl, rfl, rfl, rfl, rfl, rfl, rfl, rfl, trivial⟩, h.1, h.2⟩
            ·replace h := h.2 (of_decide_eq_false q76)
             refine aw_gh (gh_to (n := 233) (σ' := [(171, ⟨ints o171_3, []⟩), (165, ⟨orows o165_2, []⟩), (164, ⟨ints r6_0, []⟩), (800, ⟨[.lst (bys o6_0), ci o6_1, cu o6_2], []⟩)]) (env' := [(5, .c (ci (1 + r1_0))), (18, .c (ci r5_0)), (19, .c (.lst (rows (tab (if 1 < r5_0 then r5_0 else 1) (fun x_ y_ => ((2 % (if 1 < r5_0 then r5_0 else 1)) * x_ + ((if 1 < r5_0 then r5_0 else 1) - 1) * y_) % (if 1 < r5_0 then r5_0 else 1)))))), (20, .c (.lst (rows (tab ((1 + r1_0) - r5_0) (fun x_ y_ => ((0 : Int) * x_ + (1 % ((1 + r1_0) - r5_0)) * y_) % ((1 + r1_0) - r5_0)))))), (21, .ref 164), (22, .ref 165), (23, .c (ci v23_2)), (24, .ref 171), (25, .c (ci v25_3)), (205, .c (ci v25_3)), (206, .c (ci r5_0)), (207, .c (cb (decide (r5_0 ≤ v25_3)))), (233, .cell 800 0), (234, .c (ci most))]) rfl rfl ⟨rfl, rfl, rfl, rfl, rfl, rfl, rfl, rfl, rfl, rfl, rfl, rfl, rfl, rfl, trivial⟩) ?_
             refine aw_region ?_
             refine run_s (ss_move rfl) rfl ?_
             refine run_s (ss_move rfl) rfl ?_
             refine run_w (ws_buildSlice (id := 179) (ps := [(0, .tmp 178)]) rfl rfl (Nat.le_of_ble_eq_true rfl) rfl ⟨rfl, ?_⟩)
             obtain ⟨q85, h⟩ := h
             refine run_w (ws_app1 ci (l := o171_3) (m := [v25_3]) rfl rfl rfl rfl rfl (Nat.le_of_ble_eq_true rfl) q85 ⟨rfl, ?_⟩)
             refine run_s (ss_assign rfl) rfl ?_
             refine run_nil ?_
             refine aw_region ?_
             refine run_s (ss_move rfl) rfl ?_
             obtain ⟨q86, h⟩ := h
             refine run_s (ss_add rfl rfl q86) rfl ?_
             refine run_s (ss_assign rfl) rfl ?_
             refine run_nil ?_
             exact ⟨v25_3 + 1, o171_3 ++ ([v25_3]), ghe_to (n := 233) rfl rfl ⟨rfl, rfl, rfl, rfl, rfl, rfl, rfl, rfl, rfl, rfl, rfl, trivial⟩, h.1, h.2⟩
           ·replace h := h.2 (of_decide_eq_false q75)
            refine run_gf rfl rfl q75 rfl ?_
            refine run_gf rfl rfl q75 rfl ?_
            refine run_gf rfl rfl q75 rfl ?_
            refine run_s (ss_pickF rfl q75 rfl) rfl ?_
            refine run_s (ss_assign rfl) rfl ?_
            refine run_nil ?_
            refine aw_cond rfl (fun q87 => ?_) (fun q87 => ?_)
            ·cases q87
            ·skip
             refine aw_gh (gh_to (n := 233) (σ' := [(171, ⟨ints o171_3, []⟩), (165, ⟨orows o165_2, []⟩), (164, ⟨ints r6_0, []⟩), (800, ⟨[.lst (bys o6_0), ci o6_1, cu o6_2], []⟩)]) (env' := [(5, .c (ci (1 + r1_0))), (18, .c (ci r5_0)), (19, .c (.lst (rows (tab (if 1 < r5_0 then r5_0 else 1) (fun x_ y_ => ((2 % (if 1 < r5_0 then r5_0 else 1)) * x_ + ((if 1 < r5_0 then r5_0 else 1) - 1) * y_) % (if 1 < r5_0 then r5_0 else 1)))))), (20, .c (.lst (rows (tab ((1 + r1_0) - r5_0) (fun x_ y_ => ((0 : Int) * x_ + (1 % ((1 + r1_0) - r5_0)) * y_) % ((1 + r1_0) - r5_0)))))), (21, .ref 164), (22, .ref 165), (23, .c (ci v23_2)), (24, .ref 171), (25, .c (ci v25_3)), (233, .cell 800 0), (234, .c (ci most))]) rfl rfl ⟨rfl, rfl, rfl, rfl, rfl, rfl, rfl, rfl, rfl, rfl, rfl, trivial⟩) ?_
             refine aw_region ?_
             refine run_s (ss_move rfl) rfl ?_
             refine run_s (ss_move rfl) rfl ?_
             refine run_w (ws_buildSlice (id := 179) (ps := [(0, .tmp 178)]) rfl rfl (Nat.le_of_ble_eq_true rfl) rfl ⟨rfl, ?_⟩)
             obtain ⟨q88, h⟩ := h
             refine run_w (ws_app1 ci (l := o171_3) (m := [v25_3]) rfl rfl rfl rfl rfl (Nat.le_of_ble_eq_true rfl) q88 ⟨rfl, ?_⟩)
             refine run_s (ss_assign rfl) rfl ?_
             refine run_nil ?_
             refine aw_region ?_
             refine run_s (ss_move rfl) rfl ?_
             obtain ⟨q89, h⟩ := h
             refine run_s (ss_add rfl rfl q89) rfl ?_
             refine run_s (ss_assign rfl) rfl ?_
             refine run_nil ?_
             exact ⟨v25_3 + 1, o171_3 ++ ([v25_3]), ghe_to (n := 233) rfl rfl ⟨rfl, rfl, rfl, rfl, rfl, rfl, rfl, rfl, rfl, rfl, rfl, trivial⟩, h.1, h.2⟩
        ·replace h := h.2 (of_decide_eq_false q52)
         refine aw_exit ?_
         refine aw_region ?_
         refine run_s (ss_move rfl) rfl ?_
         refine run_s (ss_move rfl) rfl ?_
         refine run_w (ws_buildSlice (id := 230) (ps := [(0, .tmp 229)]) rfl rfl (Nat.le_of_ble_eq_true rfl) rfl ⟨rfl, ?_⟩)
         refine run_gh (gh_fill (id := 230) (id2 := 171) (j := 0) rfl rfl (Nat.le_of_ble_eq_true rfl) rfl rfl rfl) ?_
         obtain ⟨q90, h⟩ := h
         refine run_w (ws_app1 (fun r => C.own (ints r)) (l := o165_2) (m := [o171_3]) rfl rfl rfl rfl rfl (Nat.le_of_ble_eq_true rfl) q90 ⟨rfl, ?_⟩)
         refine run_s (ss_assign rfl) rfl ?_
         refine run_nil ?_
         refine aw_gh (gh_to (n := 233) (σ' := [(165, ⟨orows (o165_2 ++ ([o171_3])), []⟩), (164, ⟨ints r6_0, []⟩), (800, ⟨[.lst (bys o6_0), ci o6_1, cu o6_2], []⟩)]) (env' := [(5, .c (ci (1 + r1_0))), (18, .c (ci r5_0)), (19, .c (.lst (rows (tab (if 1 < r5_0 then r5_0 else 1) (fun x_ y_ => ((2 % (if 1 < r5_0 then r5_0 else 1)) * x_ + ((if 1 < r5_0 then r5_0 else 1) - 1) * y_) % (if 1 < r5_0 then r5_0 else 1)))))), (20, .c (.lst (rows (tab ((1 + r1_0) - r5_0) (fun x_ y_ => ((0 : Int) * x_ + (1 % ((1 + r1_0) - r5_0)) * y_) % ((1 + r1_0) - r5_0)))))), (21, .ref 164), (22, .ref 165), (23, .c (ci v23_2)), (233, .cell 800 0), (234, .c (ci most))]) rfl rfl ⟨rfl, rfl, rfl, rfl, rfl, rfl, rfl, rfl, rfl, trivial⟩) ?_
         refine aw_region ?_
         refine run_s (ss_move rfl) rfl ?_
         obtain ⟨q91, h⟩ := h
         refine run_s (ss_add rfl rfl q91) rfl ?_
         refine run_s (ss_assign rfl) rfl ?_
         refine run_nil ?_
         exact ⟨v23_2 + 1, o165_2 ++ ([o171_3]), ghe_to (n := 233) rfl rfl ⟨rfl, rfl, rfl, rfl, rfl, rfl, rfl, rfl, rfl, trivial⟩, h.1, h.2⟩
       ·replace h := h.2 (of_decide_eq_false q50)
        refine aw_exit ?_
        refine aw_seq ?_
        refine aw_gh (gh_to (n := 233) (σ' := [(165, ⟨orows o165_2, []⟩), (164, ⟨ints r6_0, []⟩), (800, ⟨[.lst (bys o6_0), ci o6_1, cu o6_2], []⟩)]) (env' := [(22, .ref 165), (233, .cell 800 0), (234, .c (ci most))]) rfl rfl ⟨rfl, rfl, rfl, trivial⟩) ?_
        refine aw_region ?_
        refine run_s (ss_move rfl) rfl ?_
        refine run_s (ss_assign rfl) rfl ?_
        refine run_nil ?_
        refine aw_ret ?_
        exact retAM_mk (retv1 rfl (rv_tmp rfl)) rfl rfl rfl ⟨_, _, _, _, h, rfl, rfl⟩
    ·replace h := h.2 (of_decide_eq_false q20)
     refine aw_seq ?_
     refine aw_region ?_
     refine run_s (ss_eql rfl rfl) rfl ?_
     refine run_s (ss_assign rfl) rfl ?_
     refine run_nil ?_
     refine aw_cond rfl (fun q92 => ?_) (fun q92 => ?_)
     ·replace h := h.1 (of_decide_eq_true q92)
      refine aw_seq ?_
      refine aw_region ?_
      refine run_s (ss_move rfl) rfl ?_
      refine run_s (ss_geq rfl rfl) rfl ?_
      refine run_nil ?_
      refine aw_cond rfl (fun q93 => ?_) (fun q93 => ?_)
      ·replace h := h.1 (of_decide_eq_true q93)
       refine aw_seq ?_
       refine aw_gh (gh_to (n := 233) (σ' := [(800, ⟨[.lst (bys o2_0), ci o2_1, cu o2_2], []⟩)]) (env' := [(0, .cell 800 0), (233, .cell 800 0), (234, .c (ci most))]) rfl rfl ⟨rfl, rfl, rfl, trivial⟩) ?_
       refine aw_region ?_
       obtain ⟨q94, h⟩ := h
       refine run_w (ws_call (xs := [.const (.int .i64 (3))]) (ids := [82]) rfl rfl rfl rfl (c_spec_l01Perms 3 q94) rfl ?_ )
       rintro _ rfl
       refine ⟨rfl, ?_⟩
       refine run_w (ws_buildSlice (id := 83) (ps := []) rfl rfl (Nat.le_of_ble_eq_true rfl) rfl ⟨rfl, ?_⟩)
       refine run_s (ss_assign rfl) rfl ?_
       refine run_s (ss_assign rfl) rfl ?_
       refine run_nil ?_
       refine aw_gh (gh_frzE (id := 82) (fun r => C.lst (ints r)) rfl (fun _ => (fz_own (fz_map (fun _ => rfl) _)))) ?_
       refine aw_seq ?_
       refine aw_seq ?_
       refine aw_region ?_
       refine run_s (ss_move rfl) rfl ?_
       obtain ⟨q96, h⟩ := h
       refine run_w (ws_callM (xs := [.tmp 84, .const (.int .i64 (2))]) (cs := [.obox [.lst (bys o2_0), ci o2_1, cu o2_2], ci 2]) (ids := []) rfl (.inr ⟨rfl, rfl⟩) rfl rfl rfl (c_spec_l01Next o2_0 o2_1 o2_2 2 q96) rfl rfl ?_ )
       rintro _ _ ⟨r7_0, o7_0, o7_1, o7_2, q97, rfl, rfl⟩
       replace h := h r7_0 o7_0 o7_1 o7_2 q97
       refine ⟨rfl, rfl, ?_⟩
       refine run_s (ss_eql rfl rfl) rfl ?_
       refine run_nil ?_
       refine aw_cond rfl (fun q98 => ?_) (fun q98 => ?_)
       ·replace h := h.1 (of_decide_eq_true q98)
        refine aw_gh (gh_to (n := 233) (σ' := [(83, ⟨orows ([] : List (List Int)), []⟩), (800, ⟨[.lst (bys o7_0), ci o7_1, cu o7_2], []⟩)]) (env' := [(11, .c (.lst (rows (growL (3 : Int) [])))), (12, .ref 83), (233, .cell 800 0), (234, .c (ci most))]) rfl rfl ⟨rfl, rfl, rfl, rfl, trivial⟩) ?_
        refine aw_region ?_
        refine run_w (ws_buildSlice (id := 87) (ps := [(0, .const (.int .i64 (0))), (1, .const (.int .i64 (2))), (2, .const (.int .i64 (1)))]) rfl rfl (Nat.le_of_ble_eq_true rfl) rfl ⟨rfl, ?_⟩)
        refine run_w (ws_buildSlice (id := 88) (ps := [(0, .const (.int .i64 (1))), (1, .const (.int .i64 (0))), (2, .const (.int .i64 (2)))]) rfl rfl (Nat.le_of_ble_eq_true rfl) rfl ⟨rfl, ?_⟩)
        refine run_w (ws_buildSlice (id := 89) (ps := [(0, .const (.int .i64 (2))), (1, .const (.int .i64 (1))), (2, .const (.int .i64 (0)))]) rfl rfl (Nat.le_of_ble_eq_true rfl) rfl ⟨rfl, ?_⟩)
        refine run_w (ws_buildSlice (id := 90) (ps := [(0, .tmp 87), (1, .tmp 88), (2, .tmp 89)]) rfl rfl (Nat.le_of_ble_eq_true rfl) rfl ⟨rfl, ?_⟩)
        refine run_s (ss_assign rfl) rfl ?_
        refine run_nil ?_
        refine aw_gh (gh_fill (id := 90) (id2 := 87) (j := 0) rfl rfl (Nat.le_of_ble_eq_true rfl) rfl rfl rfl) ?_
        refine aw_gh (gh_fill (id := 90) (id2 := 88) (j := 1) rfl rfl (Nat.le_of_ble_eq_true rfl) rfl rfl rfl) ?_
        refine aw_gh (gh_fill (id := 90) (id2 := 89) (j := 2) rfl rfl (Nat.le_of_ble_eq_true rfl) rfl rfl rfl) ?_
        refine aw_gh (gh_to (n := 233) (σ' := [(90, ⟨orows ([[0, 2, 1], [1, 0, 2], [2, 1, 0]] : List (List Int)), []⟩), (83, ⟨orows ([] : List (List Int)), []⟩), (800, ⟨[.lst (bys o7_0), ci o7_1, cu o7_2], []⟩)]) (env' := [(11, .ref 90), (12, .ref 83), (90, .ref 90), (233, .cell 800 0), (234, .c (ci most))]) rfl rfl ⟨rfl, rfl, rfl, rfl, rfl, trivial⟩) ?_
        refine aw_gh (gh_frzE (id := 90) (f := (fun r => C.own (ints r))) (l := ([[0, 2, 1], [1, 0, 2], [2, 1, 0]] : List (List Int))) (fun r => C.lst (ints r)) rfl (fun _ => (fz_own (fz_map (fun _ => rfl) _)))) ?_
        refine aw_seq ?_
        refine aw_seq ?_
        refine aw_region ?_
        refine run_s (ss_assign rfl) rfl ?_
        refine run_nil ?_
        refine aw_block ?_
        obtain ⟨H5, m5, q99, h⟩ := h
        refine aw_loop2 (fun (v13_1 : Int) (o83_1 : List (List Int)) => ⟨[(83, ⟨orows o83_1, []⟩), (800, ⟨[.lst (bys o7_0), ci o7_1, cu o7_2], []⟩)], [(11, .c (.lst (rows ([[0, 2, 1], [1, 0, 2], [2, 1, 0]] : List (List Int))))), (12, .ref 83), (13, .c (ci v13_1)), (233, .cell 800 0), (234, .c (ci most))], 233⟩) H5 m5 ⟨0, ([] : List (List Int)), ghe_to (n := 233) rfl rfl ⟨rfl, rfl, rfl, rfl, rfl, trivial⟩, q99⟩ ?_
        rintro v13_1 o83_1 q99
        replace h := h v13_1 o83_1 q99
        refine aw_seq ?_
        refine aw_seq ?_
        refine aw_region ?_
        refine run_s (ss_move rfl) rfl ?_
        refine run_s (ss_move rfl) rfl ?_
        refine run_s (ss_lenL (f := (fun r => C.lst (ints r))) rfl) rfl ?_
        refine run_s (ss_lss rfl rfl) rfl ?_
        refine run_nil ?_
        refine aw_cond rfl (fun q100 => ?_) (fun q100 => ?_)
        ·replace h := h.1 (of_decide_eq_true q100)
         refine aw_skip ?_
         refine aw_seq ?_
         refine aw_block ?_
         refine aw_seq ?_
         refine aw_gh (gh_to (n := 233) (σ' := [(83, ⟨orows o83_1, []⟩), (800, ⟨[.lst (bys o7_0), ci o7_1, cu o7_2], []⟩)]) (env' := [(11, .c (.lst (rows ([[0, 2, 1], [1, 0, 2], [2, 1, 0]] : List (List Int))))), (12, .ref 83), (13, .c (ci v13_1)), (233, .cell 800 0), (234, .c (ci most))]) rfl rfl ⟨rfl, rfl, rfl, rfl, rfl, trivial⟩) ?_
         refine aw_region ?_
         refine run_w (ws_buildSlice (id := 97) (ps := []) rfl rfl (Nat.le_of_ble_eq_true rfl) rfl ⟨rfl, ?_⟩)
         refine run_s (ss_assign rfl) rfl ?_
         refine run_nil ?_
         refine aw_seq ?_
         refine aw_seq ?_
         refine aw_region ?_
         refine run_s (ss_assign rfl) rfl ?_
         refine run_nil ?_
         refine aw_block ?_
         obtain ⟨H6, m6, q101, h⟩ := h
         refine aw_loop2 (fun (v15_2 : Int) (o97_2 : List Int) => ⟨[(97, ⟨ints o97_2, []⟩), (83, ⟨orows o83_1, []⟩), (800, ⟨[.lst (bys o7_0), ci o7_1, cu o7_2], []⟩)], [(11, .c (.lst (rows ([[0, 2, 1], [1, 0, 2], [2, 1, 0]] : List (List Int))))), (12, .ref 83), (13, .c (ci v13_1)), (14, .ref 97), (15, .c (ci v15_2)), (233, .cell 800 0), (234, .c (ci most))], 233⟩) H6 m6 ⟨0, ([] : List Int), ghe_to (n := 233) rfl rfl ⟨rfl, rfl, rfl, rfl, rfl, rfl, rfl, trivial⟩, q101⟩ ?_
         rintro v15_2 o97_2 q101
         replace h := h v15_2 o97_2 q101
         refine aw_seq ?_
         refine aw_seq ?_
         refine aw_region ?_
         refine run_s (ss_move rfl) rfl ?_
         refine run_s (ss_move rfl) rfl ?_
         refine run_s (ss_lenL (f := (fun r => C.lst (ints r))) rfl) rfl ?_
         refine run_s (ss_lss rfl rfl) rfl ?_
         refine run_nil ?_
         refine aw_cond rfl (fun q102 => ?_) (fun q102 => ?_)
         ·replace h := h.1 (of_decide_eq_true q102)
          refine aw_skip ?_
          refine aw_seq ?_
          refine aw_block ?_
          refine aw_seq ?_
          refine aw_gh (gh_to (n := 233) (σ' := [(97, ⟨ints o97_2, []⟩), (83, ⟨orows o83_1, []⟩), (800, ⟨[.lst (bys o7_0), ci o7_1, cu o7_2], []⟩)]) (env' := [(11, .c (.lst (rows ([[0, 2, 1], [1, 0, 2], [2, 1, 0]] : List (List Int))))), (12, .ref 83), (13, .c (ci v13_1)), (14, .ref 97), (15, .c (ci v15_2)), (233, .cell 800 0), (234, .c (ci most))]) rfl rfl ⟨rfl, rfl, rfl, rfl, rfl, rfl, rfl, trivial⟩) ?_
          refine aw_regionD (kd := kdl [0, 0, 0, 1, 2, 0, 0, 0, 1, 2, 0, 0, 0, 1, 2, 0]) (ord := [0, 1, 2, 5, 6, 7, 10, 11, 12, 3, 8, 13, 4, 9, 14, 15]) [] mixed (by kernel_rfl) ?_
          refine rd_s rfl rfl trivial (ss_move rfl) rfl ?_
          refine rd_s rfl rfl trivial (ss_move rfl) rfl ?_
          obtain ⟨q103, h⟩ := h
          refine rd_s rfl rfl trivial (ss_idxL rfl rfl q103) rfl ?_
          refine rd_s rfl rfl trivial (ss_move rfl) rfl ?_
          refine rd_s rfl rfl trivial (ss_move rfl) rfl ?_
          obtain ⟨q104, h⟩ := h
          refine rd_s rfl rfl trivial (ss_idxL rfl rfl q104) rfl ?_
          refine rd_s rfl rfl trivial (ss_move rfl) rfl ?_
          refine rd_s rfl rfl trivial (ss_move rfl) rfl ?_
          obtain ⟨q105, h⟩ := h
          refine rd_s rfl rfl trivial (ss_idxL rfl rfl q105) rfl ?_
          refine rd_l rfl rfl trivial (ss_loadL (f := (fun r => C.lst (ints r))) rfl q103) rfl ?_
          refine rd_l rfl rfl trivial (ss_loadL (f := (fun r => C.lst (ints r))) rfl q104) rfl ?_
          refine rd_l rfl rfl trivial (ss_loadL (f := (fun r => C.lst (ints r))) rfl q105) rfl ?_
          obtain ⟨q106, h⟩ := h
          refine rd_w rfl rfl trivial rfl rfl (ws_call (xs := [.tmp 107]) (ids := [108]) rfl rfl rfl rfl (c_spec_l01Back (el ([[0, 2, 1], [1, 0, 2], [2, 1, 0]] : List (List Int)) v13_1) q106) rfl ?_ )
          rintro _ rfl
          refine ⟨rfl, ?_⟩
          obtain ⟨q108, h⟩ := h
          refine rd_w rfl rfl trivial rfl rfl (ws_callR (xs := [.tmp 108, .tmp 112]) (cs := [.own (ints (backI (el ([[0, 2, 1], [1, 0, 2], [2, 1, 0]] : List (List Int)) v13_1))), .lst (ints (el ([[0, 2, 1], [1, 0, 2], [2, 1, 0]] : List (List Int)) v15_2))]) (ids := [113]) rfl (.inr ⟨rfl, rfl⟩) rfl rfl (fz_cons (fz_own (fz_map (fun _ => rfl) _)) (fz_cons rfl fz_nil)) (c_spec_l01Then (backI (el ([[0, 2, 1], [1, 0, 2], [2, 1, 0]] : List (List Int)) v13_1)) (el ([[0, 2, 1], [1, 0, 2], [2, 1, 0]] : List (List Int)) v15_2) q108) rfl ?_ )
          rintro _ rfl
          refine ⟨(slf_own (slfL_map (f := ci) (fun _ => rfl) _)), rfl, ?_⟩
          obtain ⟨q110, h⟩ := h
          refine rd_w rfl rfl trivial rfl rfl (ws_callR (xs := [.tmp 113, .tmp 117]) (cs := [.own (ints ((backI (el ([[0, 2, 1], [1, 0, 2], [2, 1, 0]] : List (List Int)) v13_1)).map (el (el ([[0, 2, 1], [1, 0, 2], [2, 1, 0]] : List (List Int)) v15_2)))), .lst (ints (el ([[0, 2, 1], [1, 0, 2], [2, 1, 0]] : List (List Int)) v13_1))]) (ids := [118]) rfl (.inr ⟨rfl, rfl⟩) rfl rfl (fz_cons (fz_own (fz_map (fun _ => rfl) _)) (fz_cons rfl fz_nil)) (c_spec_l01Then ((backI (el ([[0, 2, 1], [1, 0, 2], [2, 1, 0]] : List (List Int)) v13_1)).map (el (el ([[0, 2, 1], [1, 0, 2], [2, 1, 0]] : List (List Int)) v15_2))) (el ([[0, 2, 1], [1, 0, 2], [2, 1, 0]] : List (List Int)) v13_1) q110) rfl ?_ )
          rintro _ rfl
          refine ⟨(slf_own (slfL_map (f := ci) (fun _ => rfl) _)), rfl, ?_⟩
          refine rd_s rfl rfl trivial (ss_assign rfl) rfl ?_
          refine rd_nil ?_
          refine aw_seq ?_
          refine aw_gh (gh_to (n := 233) (σ' := [(118, ⟨ints (((backI (el ([[0, 2, 1], [1, 0, 2], [2, 1, 0]] : List (List Int)) v13_1)).map (el (el ([[0, 2, 1], [1, 0, 2], [2, 1, 0]] : List (List Int)) v15_2))).map (el (el ([[0, 2, 1], [1, 0, 2], [2, 1, 0]] : List (List Int)) v13_1))), []⟩), (113, ⟨ints ((backI (el ([[0, 2, 1], [1, 0, 2], [2, 1, 0]] : List (List Int)) v13_1)).map (el (el ([[0, 2, 1], [1, 0, 2], [2, 1, 0]] : List (List Int)) v15_2))), []⟩), (108, ⟨ints (backI (el ([[0, 2, 1], [1, 0, 2], [2, 1, 0]] : List (List Int)) v13_1)), []⟩), (97, ⟨ints o97_2, []⟩), (83, ⟨orows o83_1, []⟩), (800, ⟨[.lst (bys o7_0), ci o7_1, cu o7_2], []⟩)]) (env' := [(11, .c (.lst (rows ([[0, 2, 1], [1, 0, 2], [2, 1, 0]] : List (List Int))))), (12, .ref 83), (13, .c (ci v13_1)), (14, .ref 97), (15, .c (ci v15_2)), (16, .ref 118), (233, .cell 800 0), (234, .c (ci most))]) rfl rfl ⟨rfl, rfl, rfl, rfl, rfl, rfl, rfl, rfl, trivial⟩) ?_
          refine aw_region ?_
          refine run_s (ss_assign rfl) rfl ?_
          refine run_nil ?_
          refine aw_seq ?_
          refine aw_block ?_
          refine aw_gh (gh_frzE (id := 113) ci rfl (fun _ => rfl)) ?_
          refine aw_gh (gh_frzE (id := 108) ci rfl (fun _ => rfl)) ?_
          obtain ⟨H7, m7, q112, h⟩ := h
          refine aw_loop1 (fun (v17_3 : Int) => ⟨[(118, ⟨ints (((backI (el ([[0, 2, 1], [1, 0, 2], [2, 1, 0]] : List (List Int)) v13_1)).map (el (el ([[0, 2, 1], [1, 0, 2], [2, 1, 0]] : List (List Int)) v15_2))).map (el (el ([[0, 2, 1], [1, 0, 2], [2, 1, 0]] : List (List Int)) v13_1))), []⟩), (97, ⟨ints o97_2, []⟩), (83, ⟨orows o83_1, []⟩), (800, ⟨[.lst (bys o7_0), ci o7_1, cu o7_2], []⟩)], [(11, .c (.lst (rows ([[0, 2, 1], [1, 0, 2], [2, 1, 0]] : List (List Int))))), (12, .ref 83), (13, .c (ci v13_1)), (14, .ref 97), (15, .c (ci v15_2)), (16, .ref 118), (17, .c (ci v17_3)), (233, .cell 800 0), (234, .c (ci most))], 233⟩) H7 m7 ⟨0, ghe_to (n := 233) rfl rfl ⟨rfl, rfl, rfl, rfl, rfl, rfl, rfl, rfl, rfl, trivial⟩, q112⟩ ?_
          rintro v17_3 q112
          replace h := h v17_3 q112
          refine aw_seq ?_
          refine aw_seq ?_
          refine aw_region ?_
          refine run_s (ss_move rfl) rfl ?_
          refine run_s (ss_move rfl) rfl ?_
          obtain ⟨q113, h⟩ := h
          refine run_s (ss_idxL rfl rfl q113) rfl ?_
          refine run_s (ss_loadL (f := (fun r => C.lst (ints r))) rfl q113) rfl ?_
          refine run_s (ss_move rfl) rfl ?_
          obtain ⟨q114, h⟩ := h
          refine run_w (ws_callR (xs := [.tmp 122, .tmp 123]) (cs := [.lst (ints (el ([[0, 2, 1], [1, 0, 2], [2, 1, 0]] : List (List Int)) v17_3)), .own (ints (((backI (el ([[0, 2, 1], [1, 0, 2], [2, 1, 0]] : List (List Int)) v13_1)).map (el (el ([[0, 2, 1], [1, 0, 2], [2, 1, 0]] : List (List Int)) v15_2))).map (el (el ([[0, 2, 1], [1, 0, 2], [2, 1, 0]] : List (List Int)) v13_1))))]) (ids := []) rfl (.inr ⟨rfl, rfl⟩) rfl rfl (fz_cons rfl (fz_cons (fz_own (fz_map (fun _ => rfl) _)) fz_nil)) (c_spec_l01Same (el ([[0, 2, 1], [1, 0, 2], [2, 1, 0]] : List (List Int)) v17_3) (((backI (el ([[0, 2, 1], [1, 0, 2], [2, 1, 0]] : List (List Int)) v13_1)).map (el (el ([[0, 2, 1], [1, 0, 2], [2, 1, 0]] : List (List Int)) v15_2))).map (el (el ([[0, 2, 1], [1, 0, 2], [2, 1, 0]] : List (List Int)) v13_1))) q114) rfl ?_ )
          rintro _ rfl
          refine ⟨rfl, rfl, ?_⟩
          refine run_s (ss_not rfl) rfl ?_
          refine run_nil ?_
          refine aw_cond rfl (fun q116 => ?_) (fun q116 => ?_)
          ·replace h := h.1 (of_decide_eq_false (bnot_t q116))
           refine aw_skip ?_
           refine aw_block ?_
           refine aw_gh (gh_to (n := 233) (σ' := [(118, ⟨ints (((backI (el ([[0, 2, 1], [1, 0, 2], [2, 1, 0]] : List (List Int)) v13_1)).map (el (el ([[0, 2, 1], [1, 0, 2], [2, 1, 0]] : List (List Int)) v15_2))).map (el (el ([[0, 2, 1], [1, 0, 2], [2, 1, 0]] : List (List Int)) v13_1))), []⟩), (97, ⟨ints o97_2, []⟩), (83, ⟨orows o83_1, []⟩), (800, ⟨[.lst (bys o7_0), ci o7_1, cu o7_2], []⟩)]) (env' := [(11, .c (.lst (rows ([[0, 2, 1], [1, 0, 2], [2, 1, 0]] : List (List Int))))), (12, .ref 83), (13, .c (ci v13_1)), (14, .ref 97), (15, .c (ci v15_2)), (16, .ref 118), (17, .c (ci v17_3)), (233, .cell 800 0), (234, .c (ci most))]) rfl rfl ⟨rfl, rfl, rfl, rfl, rfl, rfl, rfl, rfl, rfl, trivial⟩) ?_
           refine aw_region ?_
           refine run_s (ss_move rfl) rfl ?_
           obtain ⟨q117, h⟩ := h
           refine run_s (ss_add rfl rfl q117) rfl ?_
           refine run_s (ss_assign rfl) rfl ?_
           refine run_nil ?_
           exact ⟨v17_3 + 1, ghe_to (n := 233) rfl rfl ⟨rfl, rfl, rfl, rfl, rfl, rfl, rfl, rfl, rfl, trivial⟩, h.1, h.2⟩
          ·replace h := h.2 (of_decide_eq_true (bnot_f q116))
           refine aw_exit ?_
           refine aw_gh (gh_to (n := 233) (σ' := [(118, ⟨ints (((backI (el ([[0, 2, 1], [1, 0, 2], [2, 1, 0]] : List (List Int)) v13_1)).map (el (el ([[0, 2, 1], [1, 0, 2], [2, 1, 0]] : List (List Int)) v15_2))).map (el (el ([[0, 2, 1], [1, 0, 2], [2, 1, 0]] : List (List Int)) v13_1))), []⟩), (97, ⟨ints o97_2, []⟩), (83, ⟨orows o83_1, []⟩), (800, ⟨[.lst (bys o7_0), ci o7_1, cu o7_2], []⟩)]) (env' := [(11, .c (.lst (rows ([[0, 2, 1], [1, 0, 2], [2, 1, 0]] : List (List Int))))), (12, .ref 83), (13, .c (ci v13_1)), (14, .ref 97), (15, .c (ci v15_2)), (17, .c (ci v17_3)), (233, .cell 800 0), (234, .c (ci most))]) rfl rfl ⟨rfl, rfl, rfl, rfl, rfl, rfl, rfl, rfl, trivial⟩) ?_
           refine aw_region ?_
           refine run_s (ss_move rfl) rfl ?_
           refine run_s (ss_move rfl) rfl ?_
           refine run_w (ws_buildSlice (id := 130) (ps := [(0, .tmp 129)]) rfl rfl (Nat.le_of_ble_eq_true rfl) rfl ⟨rfl, ?_⟩)
           obtain ⟨q118, h⟩ := h
           refine run_w (ws_app1 ci (l := o97_2) (m := [v17_3]) rfl rfl rfl rfl rfl (Nat.le_of_ble_eq_true rfl) q118 ⟨rfl, ?_⟩)
           refine run_s (ss_assign rfl) rfl ?_
           refine run_nil ?_
           refine aw_gh (gh_to (n := 233) (σ' := [(118, ⟨ints (((backI (el ([[0, 2, 1], [1, 0, 2], [2, 1, 0]] : List (List Int)) v13_1)).map (el (el ([[0, 2, 1], [1, 0, 2], [2, 1, 0]] : List (List Int)) v15_2))).map (el (el ([[0, 2, 1], [1, 0, 2], [2, 1, 0]] : List (List Int)) v13_1))), []⟩), (97, ⟨ints (o97_2 ++ ([v17_3])), []⟩), (83, ⟨orows o83_1, []⟩), (800, ⟨[.lst (bys o7_0), ci o7_1, cu o7_2], []⟩)]) (env' := [(11, .c (.lst (rows ([[0, 2, 1], [1, 0, 2], [2, 1, 0]] : List (List Int))))), (12, .ref 83), (13, .c (ci v13_1)), (14, .ref 97), (15, .c (ci v15_2)), (233, .cell 800 0), (234, .c (ci most))]) rfl rfl ⟨rfl, rfl, rfl, rfl, rfl, rfl, rfl, trivial⟩) ?_
           refine aw_region ?_
           refine run_s (ss_move rfl) rfl ?_
           obtain ⟨q119, h⟩ := h
           refine run_s (ss_add rfl rfl q119) rfl ?_
           refine run_s (ss_assign rfl) rfl ?_
           refine run_nil ?_
           exact ⟨v15_2 + 1, o97_2 ++ ([v17_3]), ghe_step (gh_frzE (id := 118) ci rfl (fun _ => rfl)) (ghe_to (n := 233) rfl rfl ⟨rfl, rfl, rfl, rfl, rfl, rfl, rfl, trivial⟩), h.1, h.2⟩
         ·replace h := h.2 (of_decide_eq_false q102)
          refine aw_exit ?_
          refine aw_gh (gh_to (n := 233) (σ' := [(97, ⟨ints o97_2, []⟩), (83, ⟨orows o83_1, []⟩), (800, ⟨[.lst (bys o7_0), ci o7_1, cu o7_2], []⟩)]) (env' := [(11, .c (.lst (rows ([[0, 2, 1], [1, 0, 2], [2, 1, 0]] : List (List Int))))), (12, .ref 83), (13, .c (ci v13_1)), (14, .ref 97), (233, .cell 800 0), (234, .c (ci most))]) rfl rfl ⟨rfl, rfl, rfl, rfl, rfl, rfl, trivial⟩) ?_
          refine aw_region ?_
          refine run_s (ss_move rfl) rfl ?_
          refine run_s (ss_move rfl) rfl ?_
          refine run_w (ws_buildSlice (id := 134) (ps := [(0, .tmp 133)]) rfl rfl (Nat.le_of_ble_eq_true rfl) rfl ⟨rfl, ?_⟩)
          refine run_gh (gh_fill (id := 134) (id2 := 97) (j := 0) rfl rfl (Nat.le_of_ble_eq_true rfl) rfl rfl rfl) ?_
          obtain ⟨q120, h⟩ := h
          refine run_w (ws_app1 (fun r => C.own (ints r)) (l := o83_1) (m := [o97_2]) rfl rfl rfl rfl rfl (Nat.le_of_ble_eq_true rfl) q120 ⟨rfl, ?_⟩)
          refine run_s (ss_assign rfl) rfl ?_
          refine run_nil ?_
          refine aw_gh (gh_to (n := 233) (σ' := [(83, ⟨orows (o83_1 ++ ([o97_2])), []⟩), (800, ⟨[.lst (bys o7_0), ci o7_1, cu o7_2], []⟩)]) (env' := [(11, .c (.lst (rows ([[0, 2, 1], [1, 0, 2], [2, 1, 0]] : List (List Int))))), (12, .ref 83), (13, .c (ci v13_1)), (233, .cell 800 0), (234, .c (ci most))]) rfl rfl ⟨rfl, rfl, rfl, rfl, rfl, trivial⟩) ?_
          refine aw_region ?_
          refine run_s (ss_move rfl) rfl ?_
          obtain ⟨q121, h⟩ := h
          refine run_s (ss_add rfl rfl q121) rfl ?_
          refine run_s (ss_assign rfl) rfl ?_
          refine run_nil ?_
          exact ⟨v13_1 + 1, o83_1 ++ ([o97_2]), ghe_to (n := 233) rfl rfl ⟨rfl, rfl, rfl, rfl, rfl, trivial⟩, h.1, h.2⟩
        ·replace h := h.2 (of_decide_eq_false q100)
         refine aw_exit ?_
         refine aw_seq ?_
         refine aw_gh (gh_to (n := 233) (σ' := [(83, ⟨orows o83_1, []⟩), (800, ⟨[.lst (bys o7_0), ci o7_1, cu o7_2], []⟩)]) (env' := [(12, .ref 83), (233, .cell 800 0), (234, .c (ci most))]) rfl rfl ⟨rfl, rfl, rfl, trivial⟩) ?_
         refine aw_region ?_
         refine run_s (ss_move rfl) rfl ?_
         refine run_s (ss_assign rfl) rfl ?_
         refine run_nil ?_
         refine aw_ret ?_
         exact retAM_mk (retv1 rfl (rv_tmp rfl)) rfl rfl rfl ⟨_, _, _, _, h, rfl, rfl⟩
       ·replace h := h.2 (of_decide_eq_false q98)
        refine aw_skip ?_
        refine aw_seq ?_
        refine aw_seq ?_
        refine aw_gh (gh_to (n := 233) (σ' := [(83, ⟨orows ([] : List (List Int)), []⟩), (800, ⟨[.lst (bys o7_0), ci o7_1, cu o7_2], []⟩)]) (env' := [(11, .c (.lst (rows (growL (3 : Int) [])))), (12, .ref 83), (233, .cell 800 0), (234, .c (ci most))]) rfl rfl ⟨rfl, rfl, rfl, rfl, trivial⟩) ?_
        refine aw_region ?_
        refine run_s (ss_assign rfl) rfl ?_
        refine run_nil ?_
        refine aw_block ?_
        obtain ⟨H8, m8, q122, h⟩ := h
        refine aw_loop2 (fun (v13_1 : Int) (o83_1 : List (List Int)) => ⟨[(83, ⟨orows o83_1, []⟩), (800, ⟨[.lst (bys o7_0), ci o7_1, cu o7_2], []⟩)], [(11, .c (.lst (rows (growL (3 : Int) [])))), (12, .ref 83), (13, .c (ci v13_1)), (233, .cell 800 0), (234, .c (ci most))], 233⟩) H8 m8 ⟨0, ([] : List (List Int)), ghe_to (n := 233) rfl rfl ⟨rfl, rfl, rfl, rfl, rfl, trivial⟩, q122⟩ ?_
        rintro v13_1 o83_1 q122
        replace h := h v13_1 o83_1 q122
        refine aw_seq ?_
        refine aw_seq ?_
        refine aw_region ?_
        refine run_s (ss_move rfl) rfl ?_
        refine run_s (ss_move rfl) rfl ?_
        refine run_s (ss_lenL (f := (fun r => C.lst (ints r))) rfl) rfl ?_
        refine run_s (ss_lss rfl rfl) rfl ?_
        refine run_nil ?_
        refine aw_cond rfl (fun q123 => ?_) (fun q123 => ?_)
        ·replace h := h.1 (of_decide_eq_true q123)
         refine aw_skip ?_
         refine aw_seq ?_
         refine aw_block ?_
         refine aw_seq ?_
         refine aw_gh (gh_to (n := 233) (σ' := [(83, ⟨orows o83_1, []⟩), (800, ⟨[.lst (bys o7_0), ci o7_1, cu o7_2], []⟩)]) (env' := [(11, .c (.lst (rows (growL (3 : Int) [])))), (12, .ref 83), (13, .c (ci v13_1)), (233, .cell 800 0), (234, .c (ci most))]) rfl rfl ⟨rfl, rfl, rfl, rfl, rfl, trivial⟩) ?_
         refine aw_region ?_
         refine run_w (ws_buildSlice (id := 97) (ps := []) rfl rfl (Nat.le_of_ble_eq_true rfl) rfl ⟨rfl, ?_⟩)
         refine run_s (ss_assign rfl) rfl ?_
         refine run_nil ?_
         refine aw_seq ?_
         refine aw_seq ?_
         refine aw_region ?_
         refine run_s (ss_assign rfl) rfl ?_
         refine run_nil ?_
         refine aw_block ?_
         obtain ⟨H9, m9, q124, h⟩ := h
         refine aw_loop2 (fun (v15_2 : Int) (o97_2 : List Int) => ⟨[(97, ⟨ints o97_2, []⟩), (83, ⟨orows o83_1, []⟩), (800, ⟨[.lst (bys o7_0), ci o7_1, cu o7_2], []⟩)], [(11, .c (.lst (rows (growL (3 : Int) [])))), (12, .ref 83), (13, .c (ci v13_1)), (14, .ref 97), (15, .c (ci v15_2)), (233, .cell 800 0), (234, .c (ci most))], 233⟩) H9 m9 ⟨0, ([] : List Int), ghe_to (n := 233) rfl rfl ⟨rfl, rfl, rfl, rfl, rfl, rfl, rfl, trivial⟩, q124⟩ ?_
         rintro v15_2 o97_2 q124
         replace h := h v15_2 o97_2 q124
         refine aw_seq ?_
         refine aw_seq ?_
         refine aw_region ?_
         refine run_s (ss_move rfl) rfl ?_
         refine run_s (ss_move rfl) rfl ?_
         refine run_s (ss_lenL (f := (fun r => C.lst (ints r))) rfl) rfl ?_
         refine run_s (ss_lss rfl rfl) rfl ?_
         refine run_nil ?_
         refine aw_cond rfl (fun q125 => ?_) (fun q125 => ?_)
         ·replace h := h.1 (of_decide_eq_true q125)
          refine aw_skip ?_
          refine aw_seq ?_
          refine aw_block ?_
          refine aw_seq ?_
          refine aw_gh (gh_to (n := 233) (σ' := [(97, ⟨ints o97_2, []⟩), (83, ⟨orows o83_1, []⟩), (800, ⟨[.lst (bys o7_0), ci o7_1, cu o7_2], []⟩)]) (env' := [(11, .c (.lst (rows (growL (3 : Int) [])))), (12, .ref 83), (13, .c (ci v13_1)), (14, .ref 97), (15, .c (ci v15_2)), (233, .cell 800 0), (234, .c (ci most))]) rfl rfl ⟨rfl, rfl, rfl, rfl, rfl, rfl, rfl, trivial⟩) ?_
          refine aw_regionD (kd := kdl [0, 0, 0, 1, 2, 0, 0, 0, 1, 2, 0, 0, 0, 1, 2, 0]) (ord := [0, 1, 2, 5, 6, 7, 10, 11, 12, 3, 8, 13, 4, 9, 14, 15]) [] mixed (by kernel_rfl) ?_
          refine rd_s rfl rfl trivial (ss_move rfl) rfl ?_
          refine rd_s rfl rfl trivial (ss_move rfl) rfl ?_
          obtain ⟨q126, h⟩ := h
          refine rd_s rfl rfl trivial (ss_idxL rfl rfl q126) rfl ?_
          refine rd_s rfl rfl trivial (ss_move rfl) rfl ?_
          refine rd_s rfl rfl trivial (ss_move rfl) rfl ?_
          obtain ⟨q127, h⟩ := h
          refine rd_s rfl rfl trivial (ss_idxL rfl rfl q127) rfl ?_
          refine rd_s rfl rfl trivial (ss_move rfl) rfl ?_
          refine rd_s rfl rfl trivial (ss_move rfl) rfl ?_
          obtain ⟨q128, h⟩ := h
          refine rd_s rfl rfl trivial (ss_idxL rfl rfl q128) rfl ?_
          refine rd_l rfl rfl trivial (ss_loadL (f := (fun r => C.lst (ints r))) rfl q126) rfl ?_
          refine rd_l rfl rfl trivial (ss_loadL (f := (fun r => C.lst (ints r))) rfl q127) rfl ?_
          refine rd_l rfl rfl trivial (ss_loadL (f := (fun r => C.lst (ints r))) rfl q128) rfl ?_
          obtain ⟨q129, h⟩ := h
          refine rd_w rfl rfl trivial rfl rfl (ws_call (xs := [.tmp 107]) (ids := [108]) rfl rfl rfl rfl (c_spec_l01Back (el (growL (3 : Int) []) v13_1) q129) rfl ?_ )
          rintro _ rfl
          refine ⟨rfl, ?_⟩
          obtain ⟨q131, h⟩ := h
          refine rd_w rfl rfl trivial rfl rfl (ws_callR (xs := [.tmp 108, .tmp 112]) (cs := [.own (ints (backI (el (growL (3 : Int) []) v13_1))), .lst (ints (el (growL (3 : Int) []) v15_2))]) (ids := [113]) rfl (.inr ⟨rfl, rfl⟩) rfl rfl (fz_cons (fz_own (fz_map (fun _ => rfl) _)) (fz_cons rfl fz_nil)) (c_spec_l01Then (backI (el (growL (3 : Int) []) v13_1)) (el (growL (3 : Int) []) v15_2) q131) rfl ?_ )
          rintro _ rfl
          refine ⟨(slf_own (slfL_map (f := ci) (fun _ => rfl) _)), rfl, ?_⟩
          obtain ⟨q133, h⟩ := h
          refine rd_w rfl rfl trivial rfl rfl (ws_callR (xs := [.tmp 113, .tmp 117]) (cs := [.own (ints ((backI (el (growL (3 : Int) []) v13_1)).map (el (el (growL (3 : Int) []) v15_2)))), .lst (ints (el (growL (3 : Int) []) v13_1))]) (ids := [118]) rfl (.inr ⟨rfl, rfl⟩) rfl rfl (fz_cons (fz_own (fz_map (fun _ => rfl) _)) (fz_cons rfl fz_nil)) (c_spec_l01Then ((backI (el (growL (3 : Int) []) v13_1)).map (el (el (growL (3 : Int) []) v15_2))) (el (growL (3 : Int) []) v13_1) q133) rfl ?_ )
          rintro _ rfl
          refine ⟨(slf_own (slfL_map (f := ci) (fun _ => rfl) _)), rfl, ?_⟩
          refine rd_s rfl rfl trivial (ss_assign rfl) rfl ?_
          refine rd_nil ?_
          refine aw_seq ?_
          refine aw_gh (gh_to (n := 233) (σ' := [(118, ⟨ints (((backI (el (growL (3 : Int) []) v13_1)).map (el (el (growL (3 : Int) []) v15_2))).map (el (el (growL (3 : Int) []) v13_1))), []⟩), (113, ⟨ints ((backI (el (growL (3 : Int) []) v13_1)).map (el (el (growL (3 : Int) []) v15_2))), []⟩), (108, ⟨ints (backI (el (growL (3 : Int) []) v13_1)), []⟩), (97, ⟨ints o97_2, []⟩), (83, ⟨orows o83_1, []⟩), (800, ⟨[.lst (bys o7_0), ci o7_1, cu o7_2], []⟩)]) (env' := [(11, .c (.lst (rows (growL (3 : Int) [])))), (12, .ref 83), (13, .c (ci v13_1)), (14, .ref 97), (15, .c (ci v15_2)), (16, .ref 118), (233, .cell 800 0), (234, .c (ci most))]) rfl rfl ⟨rfl, rfl, rfl, rfl, rfl, rfl, rfl, rfl, trivial⟩) ?_
          refine aw_region ?_
          refine run_s (ss_assign rfl) rfl ?_
          refine run_nil ?_
          refine aw_seq ?_
          refine aw_block ?_
          refine aw_gh (gh_frzE (id := 113) ci rfl (fun _ => rfl)) ?_
          refine aw_gh (gh_frzE (id := 108) ci rfl (fun _ => rfl)) ?_
          obtain ⟨H10, m10, q135, h⟩ := h
          refine aw_loop1 (fun (v17_3 : Int) => ⟨[(118, ⟨ints (((backI (el (growL (3 : Int) []) v13_1)).map (el (el (growL (3 : Int) []) v15_2))).map (el (el (growL (3 : Int) []) v13_1))), []⟩), (97, ⟨ints o97_2, []⟩), (83, ⟨orows o83_1, []⟩), (800, ⟨[.lst (bys o7_0), ci o7_1, cu o7_2], []⟩)], [(11, .c (.lst (rows (growL (3 : Int) [])))), (12, .ref 83), (13, .c (ci v13_1)), (14, .ref 97), (15, .c (ci v15_2)), (16, .ref 118), (17, .c (ci v17_3)), (233, .cell 800 0), (234, .c (ci most))], 233⟩) H10 m10 ⟨0, ghe_to (n := 233) rfl rfl ⟨rfl, rfl, rfl, rfl, rfl, rfl, rfl, rfl, rfl, trivial⟩, q135⟩ ?_
          rintro v17_3 q135
          replace h := h v17_3 q135
          refine aw_seq ?_
          refine aw_seq ?_
          refine aw_region ?_
          refine run_s (ss_move rfl) rfl ?_
          refine run_s (ss_move rfl) rfl ?_
          obtain ⟨q136, h⟩ := h
          refine run_s (ss_idxL rfl rfl q136) rfl ?_
          refine run_s (ss_loadL (f := (fun r => C.lst (ints r))) rfl q136) rfl ?_
          refine run_s (ss_move rfl) rfl ?_
          obtain ⟨q137, h⟩ := h
          refine run_w (ws_callR (xs := [.tmp 122, .tmp 123]) (cs := [.lst (ints (el (growL (3 : Int) []) v17_3)), .own (ints (((backI (el (growL (3 : Int) []) v13_1)).map (el (el (growL (3 : Int) []) v15_2))).map (el (el (growL (3 : Int) []) v13_1))))]) (ids := []) rfl (.inr ⟨rfl, rfl⟩) rfl rfl (fz_cons rfl (fz_cons (fz_own (fz_map (fun _ => rfl) _)) fz_nil)) (c_spec_l01Same (el (growL (3 : Int) []) v17_3) (((backI (el (growL (3 : Int) []) v13_1)).map (el (el (growL (3 : Int) []) v15_2))).map (el (el (growL (3 : Int) []) v13_1))) q137) rfl ?_ )
          rintro _ rfl
          refine ⟨rfl, rfl, ?_⟩
          refine run_s (ss_not rfl) rfl ?_
          refine run_nil ?_
          refine aw_cond rfl (fun q139 => ?_) (fun q139 => ?_)
          ·replace h := h.1 (of_decide_eq_false (bnot_t q139))
           refine aw_skip ?_
           refine aw_block ?_
           refine aw_gh (gh_to (n := 233) (σ' := [(118, ⟨ints (((backI (el (growL (3 : Int) []) v13_1)).map (el (el (growL (3 : Int) []) v15_2))).map (el (el (growL (3 : Int) []) v13_1))), []⟩), (97, ⟨ints o97_2, []⟩), (83, ⟨orows o83_1, []⟩), (800, ⟨[.lst (bys o7_0), ci o7_1, cu o7_2], []⟩)]) (env' := [(11, .c (.lst (rows (growL (3 : Int) [])))), (12, .ref 83), (13, .c (ci v13_1)), (14, .ref 97), (15, .c (ci v15_2)), (16, .ref 118), (17, .c (ci v17_3)), (233, .cell 800 0), (234, .c (ci most))]) rfl rfl ⟨rfl, rfl, rfl, rfl, rfl, rfl, rfl, rfl, rfl, trivial⟩) ?_
           refine aw_region ?_
           refine run_s (ss_move rfl) rfl ?_
           obtain ⟨q140, h⟩ := h
           refine run_s (ss_add rfl rfl q140) rfl ?_
           refine run_s (ss_assign rfl) rfl ?_
           refine run_nil ?_
           exact ⟨v17_3 + 1, ghe_to (n := 233) rfl rfl ⟨rfl, rfl, rfl, rfl, rfl, rfl, rfl, rfl, rfl, trivial⟩, h.1, h.2⟩
          ·replace h := h.2 (of_decide_eq_true (bnot_f q139))
           refine aw_exit ?_
           refine aw_gh (gh_to (n := 233) (σ' := [(118, ⟨ints (((backI (el (growL (3 : Int) []) v13_1)).map (el (el (growL (3 : Int) []) v15_2))).map (el (el (growL (3 : Int) []) v13_1))), []⟩), (97, ⟨ints o97_2, []⟩), (83, ⟨orows o83_1, []⟩), (800, ⟨[.lst (bys o7_0), ci o7_1, cu o7_2], []⟩)]) (env' := [(11, .c (.lst (rows (growL (3 : Int) [])))), (12, .ref 83), (13, .c (ci v13_1)), (14, .ref 97), (15, .c (ci v15_2)), (17, .c (ci v17_3)), (233, .cell 800 0), (234, .c (ci most))]) rfl rfl ⟨rfl, rfl, rfl, rfl, rfl, rfl, rfl, rfl, trivial⟩) ?_
           refine aw_region ?_
           refine run_s (ss_move rfl) rfl ?_
           refine run_s (ss_move rfl) rfl ?_
           refine run_w (ws_buildSlice (id := 130) (ps := [(0, .tmp 129)]) rfl rfl (Nat.le_of_ble_eq_true rfl) rfl ⟨rfl, ?_⟩)
           obtain ⟨q141, h⟩ := h
           refine run_w (ws_app1 ci (l := o97_2) (m := [v17_3]) rfl rfl rfl rfl rfl (Nat.le_of_ble_eq_true rfl) q141 ⟨rfl, ?_⟩)
           refine run_s (ss_assign rfl) rfl ?_
           refine run_nil ?_
           refine aw_gh (gh_to (n := 233) (σ' := [(118, ⟨ints (((backI (el (growL (3 : Int) []) v13_1)).map (el (el (growL (3 : Int) []) v15_2))).map (el (el (growL (3 : Int) []) v13_1))), []⟩), (97, ⟨ints (o97_2 ++ ([v17_3])), []⟩), (83, ⟨orows o83_1, []⟩), (800, ⟨[.lst (bys o7_0), ci o7_1, cu o7_2], []⟩)]) (env' := [(11, .c (.lst (rows (growL (3 : Int) [])))), (12, .ref 83), (13, .c (ci v13_1)), (14, .ref 97), (15, .c (ci v15_2)), (233, .cell 800 0), (234, .c (ci most))]) rfl rfl ⟨rfl, rfl, rfl, rfl, rfl, rfl, rfl, trivial⟩) ?_
           refine aw_region ?_
           refine run_s (ss_move rfl) rfl ?_
           obtain ⟨q142, h⟩ := h
           refine run_s (ss_add rfl rfl q142) rfl ?_
           refine run_s (ss_assign rfl) rfl ?_
           refine run_nil ?_
           exact ⟨v15_2 + 1, o97_2 ++ ([v17_3]), ghe_step (gh_frzE (id := 118) ci rfl (fun _ => rfl)) (ghe_to (n := 233) rfl rfl ⟨rfl, rfl, rfl, rfl, rfl, rfl, rfl, trivial⟩), h.1, h.2⟩
         ·replace h := h.2 (of_decide_eq_false q125)
          refine aw_exit ?_
          refine aw_gh (gh_to (n := 233) (σ' := [(97, ⟨ints o97_2, []⟩), (83, ⟨orows o83_1, []⟩), (800, ⟨[.lst (bys o7_0), ci o7_1, cu o7_2], []⟩)]) (env' := [(11, .c (.lst (rows (growL (3 : Int) [])))), (12, .ref 83), (13, .c (ci v13_1)), (14, .ref 97), (233, .cell 800 0), (234, .c (ci most))]) rfl rfl ⟨rfl, rfl, rfl, rfl, rfl, rfl, trivial⟩) ?_
          refine aw_region ?_
          refine run_s (ss_move rfl) rfl ?_
          refine run_s (ss_move rfl) rfl ?_
          refine run_w (ws_buildSlice (id := 134) (ps := [(0, .tmp 133)]) rfl rfl (Nat.le_of_ble_eq_true rfl) rfl ⟨rfl, ?_⟩)
          refine run_gh (gh_fill (id := 134) (id2 := 97) (j := 0) rfl rfl (Nat.le_of_ble_eq_true rfl) rfl rfl rfl) ?_
          obtain ⟨q143, h⟩ := h
          refine run_w (ws_app1 (fun r => C.own (ints r)) (l := o83_1) (m := [o97_2]) rfl rfl rfl rfl rfl (Nat.le_of_ble_eq_true rfl) q143 ⟨rfl, ?_⟩)
          refine run_s (ss_assign rfl) rfl ?_
          refine run_nil ?_
          refine aw_gh (gh_to (n := 233) (σ' := [(83, ⟨orows (o83_1 ++ ([o97_2])), []⟩), (800, ⟨[.lst (bys o7_0), ci o7_1, cu o7_2], []⟩)]) (env' := [(11, .c (.lst (rows (growL (3 : Int) [])))), (12, .ref 83), (13, .c (ci v13_1)), (233, .cell 800 0), (234, .c (ci most))]) rfl rfl ⟨rfl, rfl, rfl, rfl, rfl, trivial⟩) ?_
          refine aw_region ?_
          refine run_s (ss_move rfl) rfl ?_
          obtain ⟨q144, h⟩ := h
          refine run_s (ss_add rfl rfl q144) rfl ?_
          refine run_s (ss_assign rfl) rfl ?_
          refine run_nil ?_
          exact ⟨v13_1 + 1, o83_1 ++ ([o97_2]), ghe_to (n := 233) rfl rfl ⟨rfl, rfl, rfl, rfl, rfl, trivial⟩, h.1, h.2⟩
        ·replace h := h.2 (of_decide_eq_false q123)
         refine aw_exit ?_
         refine aw_seq ?_
         refine aw_gh (gh_to (n := 233) (σ' := [(83, ⟨orows o83_1, []⟩), (800, ⟨[.lst (bys o7_0), ci o7_1, cu o7_2], []⟩)]) (env' := [(12, .ref 83), (233, .cell 800 0), (234, .c (ci most))]) rfl rfl ⟨rfl, rfl, rfl, trivial⟩) ?_
         refine aw_region ?_
         refine run_s (ss_move rfl) rfl ?_
         refine run_s (ss_assign rfl) rfl ?_
         refine run_nil ?_
         refine aw_ret ?_
         exact retAM_mk (retv1 rfl (rv_tmp rfl)) rfl rfl rfl ⟨_, _, _, _, h, rfl, rfl⟩
      ·replace h := h.2 (of_decide_eq_false q93)
       refine aw_skip ?_
       refine aw_seq ?_
       refine aw_region ?_
       refine run_s (ss_move rfl) rfl ?_
       refine run_s (ss_move rfl) rfl ?_
       obtain ⟨q145, h⟩ := h
       refine run_w (ws_callM (xs := [.tmp 137, .tmp 138]) (cs := [.obox [.lst (bys o2_0), ci o2_1, cu o2_2], ci (1 + r1_0)]) (ids := []) rfl (.inr ⟨rfl, rfl⟩) rfl rfl rfl (c_spec_l01Next o2_0 o2_1 o2_2 (1 + r1_0) q145) rfl rfl ?_ )
       rintro _ _ ⟨r8_0, o8_0, o8_1, o8_2, q146, rfl, rfl⟩
       replace h := h r8_0 o8_0 o8_1 o8_2 q146
       refine ⟨rfl, rfl, ?_⟩
       refine run_s (ss_assign rfl) rfl ?_
       refine run_nil ?_
       refine aw_seq ?_
       refine aw_gh (gh_to (n := 233) (σ' := [(800, ⟨[.lst (bys o8_0), ci o8_1, cu o8_2], []⟩)]) (env' := [(0, .cell 800 0), (5, .c (ci (1 + r1_0))), (18, .c (ci r8_0)), (233, .cell 800 0), (234, .c (ci most))]) rfl rfl ⟨rfl, rfl, rfl, rfl, rfl, trivial⟩) ?_
       refine aw_regionD (kd := kdl [0, 0, 0, 0, 0, 0, 0, 0, 2, 0, 0, 0, 0, 0, 0, 0, 2, 0, 0]) (ord := [0, 1, 2, 3, 4, 5, 6, 7, 9, 10, 11, 12, 13, 14, 15, 8, 16, 17, 18]) [] mixed (by kernel_rfl) ?_
       refine rd_s rfl rfl trivial (ss_move rfl) rfl ?_
       refine rd_s rfl rfl trivial (ss_max rfl rfl) rfl ?_
       refine rd_s rfl rfl trivial (ss_move rfl) rfl ?_
       refine rd_s rfl rfl trivial (ss_max rfl rfl) rfl ?_
       obtain ⟨q147, h⟩ := h
       refine rd_s rfl rfl trivial (ss_sub rfl rfl q147) rfl ?_
       refine rd_s rfl rfl trivial (ss_move rfl) rfl ?_
       refine rd_s rfl rfl trivial (ss_max rfl rfl) rfl ?_
       obtain ⟨q148, h⟩ := h
       refine rd_s rfl rfl trivial (ss_rem rfl rfl q148) rfl ?_
       refine rd_s rfl rfl trivial (ss_move rfl) rfl ?_
       refine rd_s rfl rfl trivial (ss_move rfl) rfl ?_
       obtain ⟨q149, h⟩ := h
       refine rd_s rfl rfl trivial (ss_sub rfl rfl q149) rfl ?_
       refine rd_s rfl rfl trivial (ss_move rfl) rfl ?_
       refine rd_s rfl rfl trivial (ss_move rfl) rfl ?_
       obtain ⟨q150, h⟩ := h
       refine rd_s rfl rfl trivial (ss_sub rfl rfl q150) rfl ?_
       obtain ⟨q151, h⟩ := h
       refine rd_s rfl rfl trivial (ss_rem rfl rfl q151) rfl ?_
       obtain ⟨q152, h⟩ := h
       refine rd_w rfl rfl trivial rfl rfl (ws_call (xs := [.tmp 141, .tmp 144, .tmp 147]) (ids := [148]) rfl rfl rfl rfl (c_spec_l03Alexander (if 1 < r8_0 then r8_0 else 1) ((if 1 < r8_0 then r8_0 else 1) - 1) (2 % (if 1 < r8_0 then r8_0 else 1)) q152) rfl ?_ )
       rintro _ rfl
       refine ⟨rfl, ?_⟩
       obtain ⟨q154, h⟩ := h
       refine rd_w rfl rfl trivial rfl rfl (ws_call (xs := [.tmp 151, .tmp 155, .const (.int .i64 (0))]) (ids := [156]) rfl rfl rfl rfl (c_spec_l03Alexander ((1 + r1_0) - r8_0) (1 % ((1 + r1_0) - r8_0)) 0 q154) rfl ?_ )
       rintro _ rfl
       refine ⟨rfl, ?_⟩
       refine rd_s rfl rfl trivial (ss_assign rfl) rfl ?_
       refine rd_s rfl rfl trivial (ss_assign rfl) rfl ?_
       refine rd_nil ?_
       refine aw_seq ?_
       refine aw_seq ?_
       refine aw_gh (gh_to (n := 233) (σ' := [(156, ⟨orows (tab ((1 + r1_0) - r8_0) (fun x_ y_ => ((0 : Int) * x_ + (1 % ((1 + r1_0) - r8_0)) * y_) % ((1 + r1_0) - r8_0))), []⟩), (148, ⟨orows (tab (if 1 < r8_0 then r8_0 else 1) (fun x_ y_ => ((2 % (if 1 < r8_0 then r8_0 else 1)) * x_ + ((if 1 < r8_0 then r8_0 else 1) - 1) * y_) % (if 1 < r8_0 then r8_0 else 1))), []⟩), (800, ⟨[.lst (bys o8_0), ci o8_1, cu o8_2], []⟩)]) (env' := [(0, .cell 800 0), (5, .c (ci (1 + r1_0))), (18, .c (ci r8_0)), (19, .ref 148), (20, .ref 156), (233, .cell 800 0), (234, .c (ci most))]) rfl rfl ⟨rfl, rfl, rfl, rfl, rfl, rfl, rfl, trivial⟩) ?_
       refine aw_region ?_
       refine run_s (ss_move rfl) rfl ?_
       refine run_s (ss_eql rfl rfl) rfl ?_
       refine run_nil ?_
       refine aw_cond rfl (fun q156 => ?_) (fun q156 => ?_)
       ·replace h := h.1 (of_decide_eq_true q156)
        refine aw_seq ?_
        refine aw_gh (gh_to (n := 233) (σ' := [(156, ⟨orows (tab ((1 + r1_0) - r8_0) (fun x_ y_ => ((0 : Int) * x_ + (1 % ((1 + r1_0) - r8_0)) * y_) % ((1 + r1_0) - r8_0))), []⟩), (148, ⟨orows (tab (if 1 < r8_0 then r8_0 else 1) (fun x_ y_ => ((2 % (if 1 < r8_0 then r8_0 else 1)) * x_ + ((if 1 < r8_0 then r8_0 else 1) - 1) * y_) % (if 1 < r8_0 then r8_0 else 1))), []⟩), (800, ⟨[.lst (bys o8_0), ci o8_1, cu o8_2], []⟩)]) (env' := [(20, .ref 156), (233, .cell 800 0), (234, .c (ci most))]) rfl rfl ⟨rfl, rfl, rfl, trivial⟩) ?_
        refine aw_region ?_
        refine run_s (ss_move rfl) rfl ?_
        refine run_s (ss_assign rfl) rfl ?_
        refine run_nil ?_
        refine aw_ret ?_
        exact retAM_mk (retv1 rfl (rv_tmp rfl)) rfl rfl rfl ⟨_, _, _, _, h, rfl, rfl⟩
       ·replace h := h.2 (of_decide_eq_false q156)
        refine aw_skip ?_
        refine aw_seq ?_
        refine aw_region ?_
        refine run_s (ss_move rfl) rfl ?_
        refine run_s (ss_move rfl) rfl ?_
        refine run_s (ss_move rfl) rfl ?_
        obtain ⟨q157, h⟩ := h
        refine run_s (ss_sub rfl rfl q157) rfl ?_
        obtain ⟨q158, h⟩ := h
        refine run_w (ws_callM (xs := [.tmp 160, .tmp 163]) (cs := [.obox [.lst (bys o8_0), ci o8_1, cu o8_2], ci ((1 + r1_0) - r8_0)]) (ids := [164]) rfl (.inr ⟨rfl, rfl⟩) rfl rfl rfl (c_spec_l03DrawPerm o8_0 o8_1 o8_2 ((1 + r1_0) - r8_0) q158) rfl rfl ?_ )
        rintro _ _ ⟨r9_0, o9_0, o9_1, o9_2, q159, rfl, rfl⟩
        replace h := h r9_0 o9_0 o9_1 o9_2 q159
        refine ⟨rfl, rfl, ?_⟩
        refine run_s (ss_assign rfl) rfl ?_
        refine run_nil ?_
        refine aw_seq ?_
        refine aw_region ?_
        refine run_w (ws_buildSlice (id := 165) (ps := []) rfl rfl (Nat.le_of_ble_eq_true rfl) rfl ⟨rfl, ?_⟩)
        refine run_s (ss_assign rfl) rfl ?_
        refine run_nil ?_
        refine aw_gh (gh_frzE (id := 148) (fun r => C.lst (ints r)) rfl (fun _ => (fz_own (fz_map (fun _ => rfl) _)))) ?_
        refine aw_gh (gh_frzE (id := 156) (fun r => C.lst (ints r)) rfl (fun _ => (fz_own (fz_map (fun _ => rfl) _)))) ?_
        refine aw_seq ?_
        refine aw_seq ?_
        refine aw_gh (gh_to (n := 233) (σ' := [(165, ⟨orows ([] : List (List Int)), []⟩), (164, ⟨ints r9_0, []⟩), (800, ⟨[.lst (bys o9_0), ci o9_1, cu o9_2], []⟩)]) (env' := [(5, .c (ci (1 + r1_0))), (18, .c (ci r8_0)), (19, .c (.lst (rows (tab (if 1 < r8_0 then r8_0 else 1) (fun x_ y_ => ((2 % (if 1 < r8_0 then r8_0 else 1)) * x_ + ((if 1 < r8_0 then r8_0 else 1) - 1) * y_) % (if 1 < r8_0 then r8_0 else 1)))))), (20, .c (.lst (rows (tab ((1 + r1_0) - r8_0) (fun x_ y_ => ((0 : Int) * x_ + (1 % ((1 + r1_0) - r8_0)) * y_) % ((1 + r1_0) - r8_0)))))), (21, .ref 164), (22, .ref 165), (233, .cell 800 0), (234, .c (ci most))]) rfl rfl ⟨rfl, rfl, rfl, rfl, rfl, rfl, rfl, rfl, trivial⟩) ?_
        refine aw_region ?_
        refine run_s (ss_assign rfl) rfl ?_
        refine run_nil ?_
        refine aw_block ?_
        obtain ⟨H11, m11, q160, h⟩ := h
        refine aw_loop2 (fun (v23_1 : Int) (o165_1 : List (List Int)) => ⟨[(165, ⟨orows o165_1, []⟩), (164, ⟨ints r9_0, []⟩), (800, ⟨[.lst (bys o9_0), ci o9_1, cu o9_2], []⟩)], [(5, .c (ci (1 + r1_0))), (18, .c (ci r8_0)), (19, .c (.lst (rows (tab (if 1 < r8_0 then r8_0 else 1) (fun x_ y_ => ((2 % (if 1 < r8_0 then r8_0 else 1)) * x_ + ((if 1 < r8_0 then r8_0 else 1) - 1) * y_) % (if 1 < r8_0 then r8_0 else 1)))))), (20, .c (.lst (rows (tab ((1 + r1_0) - r8_0) (fun x_ y_ => ((0 : Int) * x_ + (1 % ((1 + r1_0) - r8_0)) * y_) % ((1 + r1_0) - r8_0)))))), (21, .ref 164), (22, .ref 165), (23, .c (ci v23_1)), (233, .cell 800 0), (234, .c (ci most))], 233⟩) H11 m11 ⟨0, ([] : List (List Int)), ghe_to (n := 233) rfl rfl ⟨rfl, rfl, rfl, rfl, rfl, rfl, rfl, rfl, rfl, trivial⟩, q160⟩ ?_
        rintro v23_1 o165_1 q160
        replace h := h v23_1 o165_1 q160
        refine aw_seq ?_
        refine aw_seq ?_
        refine aw_region ?_
        refine run_s (ss_move rfl) rfl ?_
        refine run_s (ss_move rfl) rfl ?_
        refine run_s (ss_lss rfl rfl) rfl ?_
        refine run_nil ?_
        refine aw_cond rfl (fun q161 => ?_) (fun q161 => ?_)
        ·replace h := h.1 (of_decide_eq_true q161)
         refine aw_skip ?_
         refine aw_seq ?_
         refine aw_block ?_
         refine aw_seq ?_
         refine aw_region ?_
         refine run_w (ws_buildSlice (id := 171) (ps := []) rfl rfl (Nat.le_of_ble_eq_true rfl) rfl ⟨rfl, ?_⟩)
         refine run_s (ss_assign rfl) rfl ?_
         refine run_nil ?_
         refine aw_seq ?_
         refine aw_seq ?_
         refine aw_region ?_
         refine run_s (ss_assign rfl) rfl ?_
         refine run_nil ?_
         refine aw_block ?_
         obtain ⟨H12, m12, q162, h⟩ := h
         refine aw_loop2 (fun (v25_2 : Int) (o171_2 : List Int) => ⟨[(171, ⟨ints o171_2, []⟩), (165, ⟨orows o165_1, []⟩), (164, ⟨ints r9_0, []⟩), (800, ⟨[.lst (bys o9_0), ci o9_1, cu o9_2], []⟩)], [(5, .c (ci (1 + r1_0))), (18, .c (ci r8_0)), (19, .c (.lst (rows (tab (if 1 < r8_0 then r8_0 else 1) (fun x_ y_ => ((2 % (if 1 < r8_0 then r8_0 else 1)) * x_ + ((if 1 < r8_0 then r8_0 else 1) - 1) * y_) % (if 1 < r8_0 then r8_0 else 1)))))), (20, .c (.lst (rows (tab ((1 + r1_0) - r8_0) (fun x_ y_ => ((0 : Int) * x_ + (1 % ((1 + r1_0) - r8_0)) * y_) % ((1 + r1_0) - r8_0)))))), (21, .ref 164), (22, .ref 165), (23, .c (ci v23_1)), (24, .ref 171), (25, .c (ci v25_2)), (233, .cell 800 0), (234, .c (ci most))], 233⟩) H12 m12 ⟨0, ([] : List Int), ghe_to (n := 233) rfl rfl ⟨rfl, rfl, rfl, rfl, rfl, rfl, rfl, rfl, rfl, rfl, rfl, trivial⟩, q162⟩ ?_
         rintro v25_2 o171_2 q162
         replace h := h v25_2 o171_2 q162
         refine aw_seq ?_
         refine aw_seq ?_
         refine aw_region ?_
         refine run_s (ss_move rfl) rfl ?_
         refine run_s (ss_move rfl) rfl ?_
         refine run_s (ss_lss rfl rfl) rfl ?_
         refine run_nil ?_
         refine aw_cond rfl (fun q163 => ?_) (fun q163 => ?_)
         ·replace h := h.1 (of_decide_eq_true q163)
          refine aw_skip ?_
          refine aw_seq ?_
          refine aw_block ?_
          refine aw_block ?_
          refine aw_seq ?_
          refine aw_region ?_
          refine run_s (ss_move rfl) rfl ?_
          refine run_s (ss_move rfl) rfl ?_
          refine run_s (ss_lss rfl rfl) rfl ?_
          refine run_s (ss_move rfl) rfl ?_
          refine run_split (s := 185) rfl (fun q164 => ?_) (fun q164 => ?_)
          ·replace h := h.1 (of_decide_eq_true q164)
           refine run_gt rfl rfl q164 ?_
           refine run_s (ss_move rfl) rfl ?_
           refine run_gt rfl rfl q164 ?_
           refine run_s (ss_move rfl) rfl ?_
           refine run_gt rfl rfl q164 ?_
           refine run_s (ss_lss rfl rfl) rfl ?_
           refine run_s (ss_pickT rfl q164 rfl) rfl ?_
           refine run_s (ss_assign rfl) rfl ?_
           refine run_nil ?_
           refine aw_cond rfl (fun q165 => ?_) (fun q165 => ?_)
           ·replace h := h.1 (of_decide_eq_true q165)
            refine aw_region ?_
            refine run_s (ss_move rfl) rfl ?_
            refine run_s (ss_move rfl) rfl ?_
            refine run_s (ss_move rfl) rfl ?_
            obtain ⟨q166, h⟩ := h
            refine run_s (ss_idxL rfl rfl q166) rfl ?_
            refine run_s (ss_loadL (f := (fun r => C.lst (ints r))) rfl q166) rfl ?_
            refine run_s (ss_move rfl) rfl ?_
            obtain ⟨q167, h⟩ := h
            refine run_s (ss_idxL rfl rfl q167) rfl ?_
            refine run_s (ss_loadL (f := ci) rfl q167) rfl ?_
            refine run_w (ws_buildSlice (id := 198) (ps := [(0, .tmp 197)]) rfl rfl (Nat.le_of_ble_eq_true rfl) rfl ⟨rfl, ?_⟩)
            obtain ⟨q168, h⟩ := h
            refine run_w (ws_app1 ci (l := o171_2) (m := [el (el (tab (if 1 < r8_0 then r8_0 else 1) (fun x_ y_ => ((2 % (if 1 < r8_0 then r8_0 else 1)) * x_ + ((if 1 < r8_0 then r8_0 else 1) - 1) * y_) % (if 1 < r8_0 then r8_0 else 1))) v23_1) v25_2]) rfl rfl rfl rfl rfl (Nat.le_of_ble_eq_true rfl) q168 ⟨rfl, ?_⟩)
            refine run_s (ss_assign rfl) rfl ?_
            refine run_nil ?_
            refine aw_gh (gh_to (n := 233) (σ' := [(171, ⟨ints (o171_2 ++ ([el (el (tab (if 1 < r8_0 then r8_0 else 1) (fun x_ y_ => ((2 % (if 1 < r8_0 then r8_0 else 1)) * x_ + ((if 1 < r8_0 then r8_0 else 1) - 1) * y_) % (if 1 < r8_0 then r8_0 else 1))) v23_1) v25_2])), []⟩), (165, ⟨orows o165_1, []⟩), (164, ⟨ints r9_0, []⟩), (800, ⟨[.lst (bys o9_0), ci o9_1, cu o9_2], []⟩)]) (env' := [(5, .c (ci (1 + r1_0))), (18, .c (ci r8_0)), (19, .c (.lst (rows (tab (if 1 < r8_0 then r8_0 else 1) (fun x_ y_ => ((2 % (if 1 < r8_0 then r8_0 else 1)) * x_ + ((if 1 < r8_0 then r8_0 else 1) - 1) * y_) % (if 1 < r8_0 then r8_0 else 1)))))), (20, .c (.lst (rows (tab ((1 + r1_0) - r8_0) (fun x_ y_ => ((0 : Int) * x_ + (1 % ((1 + r1_0) - r8_0)) * y_) % ((1 + r1_0) - r8_0)))))), (21, .ref 164), (22, .ref 165), (23, .c (ci v23_1)), (24, .ref 171), (25, .c (ci v25_2)), (186, .c (ci v25_2)), (187, .c (ci r8_0)), (188, .c (cb (decide (v25_2 < r8_0)))), (233, .cell 800 0), (234, .c (ci most))]) rfl rfl ⟨rfl, rfl, rfl, rfl, rfl, rfl, rfl, rfl, rfl, rfl, rfl, rfl, rfl, rfl, trivial⟩) ?_
            refine aw_region ?_
            refine run_s (ss_move rfl) rfl ?_
            obtain ⟨q169, h⟩ := h
            refine run_s (ss_add rfl rfl q169) rfl ?_
            refine run_s (ss_assign rfl) rfl ?_
            refine run_nil ?_
            exact ⟨v25_2 + 1, o171_2 ++ ([el (el (tab (if 1 < r8_0 then r8_0 else 1) (fun x_ y_ => ((2 % (if 1 < r8_0 then r8_0 else 1)) * x_ + ((if 1 < r8_0 then r8_0 else 1) - 1) * y_) % (if 1 < r8_0 then r8_0 else 1))) v23_1) v25_2]), ghe_to (n := 233) rfl rfl ⟨rfl, rfl, rfl, rfl, rfl, rfl, rfl, rfl, rfl, rfl, rfl, trivial⟩, h.1, h.2⟩
           ·replace h := h.2 (of_decide_eq_false q165)
            refine aw_seq ?_
            refine aw_region ?_
            refine run_s (ss_move rfl) rfl ?_
            refine run_s (ss_move rfl) rfl ?_
            refine run_s (ss_geq rfl rfl) rfl ?_
            refine run_s (ss_move rfl) rfl ?_
            refine run_split (s := 204) rfl (fun q170 => ?_) (fun q170 => ?_)
            ·replace h := h.1 (of_decide_eq_true q170)
             refine run_gt rfl rfl q170 ?_
             refine run_s (ss_move rfl) rfl ?_
             refine run_gt rfl rfl q170 ?_
             refine run_s (ss_move rfl) rfl ?_
             refine run_gt rfl rfl q170 ?_
             refine run_s (ss_geq rfl rfl) rfl ?_
             refine run_s (ss_pickT rfl q170 rfl) rfl ?_
             refine run_s (ss_assign rfl) rfl ?_
             refine run_nil ?_
             refine aw_cond rfl (fun q171 => ?_) (fun q171 => ?_)
             ·replace h := h.1 (of_decide_eq_true q171)
              refine aw_region ?_
              refine run_s (ss_move rfl) rfl ?_
              refine run_s (ss_move rfl) rfl ?_
              refine run_s (ss_move rfl) rfl ?_
              refine run_s (ss_move rfl) rfl ?_
              refine run_s (ss_move rfl) rfl ?_
              refine run_s (ss_move rfl) rfl ?_
              obtain ⟨q172, h⟩ := h
              refine run_s (ss_sub rfl rfl q172) rfl ?_
              obtain ⟨q173, h⟩ := h
              refine run_s (ss_idxL rfl rfl q173) rfl ?_
              refine run_s (ss_loadL (f := (fun r => C.lst (ints r))) rfl q173) rfl ?_
              refine run_s (ss_move rfl) rfl ?_
              refine run_s (ss_move rfl) rfl ?_
              obtain ⟨q174, h⟩ := h
              refine run_s (ss_sub rfl rfl q174) rfl ?_
              obtain ⟨q175, h⟩ := h
              refine run_s (ss_idxL rfl rfl q175) rfl ?_
              refine run_s (ss_loadL (f := ci) rfl q175) rfl ?_
              obtain ⟨q176, h⟩ := h
              refine run_s (ss_idxR (f := ci) rfl rfl rfl q176) rfl ?_
              refine run_s (ss_loadR (f := ci) rfl rfl q176 rfl rfl) rfl ?_
              obtain ⟨q177, h⟩ := h
              refine run_s (ss_add rfl rfl q177) rfl ?_
              refine run_w (ws_buildSlice (id := 226) (ps := [(0, .tmp 225)]) rfl rfl (Nat.le_of_ble_eq_true rfl) rfl ⟨rfl, ?_⟩)
              obtain ⟨q178, h⟩ := h
              refine run_w (ws_app1 ci (l := o171_2) (m := [r8_0 + (el r9_0 (el (el (tab ((1 + r1_0) - r8_0) (fun x_ y_ => ((0 : Int) * x_ + (1 % ((1 + r1_0) - r8_0)) * y_) % ((1 + r1_0) - r8_0))) (v23_1 - r8_0)) (v25_2 - r8_0)))]) rfl rfl rfl rfl rfl (Nat.le_of_ble_eq_true rfl) q178 ⟨rfl, ?_⟩)
              refine run_s (ss_assign rfl) rfl ?_
              refine run_nil ?_
              refine aw_gh (gh_to (n := 233) (σ' := [(171, ⟨ints (o171_2 ++ ([r8_0 + (el r9_0 (el (el (tab ((1 + r1_0) - r8_0) (fun x_ y_ => ((0 : Int) * x_ + (1 % ((1 + r1_0) - r8_0)) * y_) % ((1 + r1_0) - r8_0))) (v23_1 - r8_0)) (v25_2 - r8_0)))])), []⟩), (165, ⟨orows o165_1, []⟩), (164, ⟨ints r9_0, []⟩), (800, ⟨[.lst (bys o9_0), ci o9_1, cu o9_2], []⟩)]) (env' := [(5, .c (ci (1 + r1_0))), (18, .c (ci r8_0)), (19, .c (.lst (rows (tab (if 1 < r8_0 then r8_0 else 1) (fun x_ y_ => ((2 % (if 1 < r8_0 then r8_0 else 1)) * x_ + ((if 1 < r8_0 then r8_0 else 1) - 1) * y_) % (if 1 < r8_0 then r8_0 else 1)))))), (20, .c (.lst (rows (tab ((1 + r1_0) - r8_0) (fun x_ y_ => ((0 : Int) * x_ + (1 % ((1 + r1_0) - r8_0)) * y_) % ((1 + r1_0) - r8_0)))))), (21, .ref 164), (22, .ref 165), (23, .c (ci v23_1)), (24, .ref 171), (25, .c (ci v25_2)), (186, .c (ci v25_2)), (187, .c (ci r8_0)), (188, .c (cb (decide (v25_2 < r8_0)))), (205, .c (ci v25_2)), (206, .c (ci r8_0)), (207, .c (cb (decide (r8_0 ≤ v25_2)))), (233, .cell 800 0), (234, .c (ci most))]) rfl rfl ⟨rfl, rfl, rfl, rfl, rfl, rfl, rfl, rfl, rfl, rfl, rfl, rfl, rfl, rfl, rfl, rfl, rfl, trivial⟩) ?_
              refine aw_region ?_
              refine run_s (ss_move rfl) rfl ?_
              obtain ⟨q179, h⟩ := h
              refine run_s (ss_add rfl rfl q179) rfl ?_
              refine run_s (ss_assign rfl) rfl ?_
              refine run_nil ?_
              exact ⟨v25_2 + 1, o171_2 ++ ([r8_0 + (el r9_0 (el (el (tab ((1 + r1_0) - r8_0) (fun x_ y_ => ((0 : Int) * x_ + (1 % ((1 + r1_0) - r8_0)) * y_) % ((1 + r1_0) - r8_0))) (v23_1 - r8_0)) (v25_2 - r8_0)))]), ghe_to (n := 233) rfl rfl ⟨rfl, rfl, rfl, rfl, rfl, rfl, rfl, rfl, rfl, rfl, rfl, trivial⟩, h.1, h.2⟩
             ·replace h := h.2 (of_decide_eq_false q171)
              refine aw_gh (gh_to (n := 233) (σ' := [(171, ⟨ints o171_2, []⟩), (165, ⟨orows o165_1, []⟩), (164, ⟨ints r9_0, []⟩), (800, ⟨[.lst (bys o9_0), ci o9_1, cu o9_2], []⟩)]) (env' := [(5, .c (ci (1 + r1_0))), (18, .c (ci r8_0)), (19, .c (.lst (rows (tab (if 1 < r8_0 then r8_0 else 1) (fun x_ y_ => ((2 % (if 1 < r8_0 then r8_0 else 1)) * x_ + ((if 1 < r8_0 then r8_0 else 1) - 1) * y_) % (if 1 < r8_0 then r8_0 else 1)))))), (20, .c (.lst (rows (tab ((1 + r1_0) - r8_0) (fun x_ y_ => ((0 : Int) * x_ + (1 % ((1 + r1_0) - r8_0)) * y_) % ((1 + r1_0) - r8_0)))))), (21, .ref 164), (22, .ref 165), (23, .c (ci v23_1)), (24, .ref 171), (25, .c (ci v25_2)), (186, .c (ci v25_2)), (187, .c (ci r8_0)), (188, .c (cb (decide (v25_2 < r8_0)))), (205, .c (ci v25_2)), (206, .c (ci r8_0)), (207, .c (cb (decide (r8_0 ≤ v25_2)))), (233, .cell 800 0), (234, .c (ci most))]) rfl rfl ⟨rfl, rfl, rfl, rfl, rfl, rfl, rfl, rfl, rfl, rfl, rfl, rfl, rfl, rfl, rfl, rfl, rfl, trivial⟩) ?_
              refine aw_region ?_
              refine run_s (ss_move rfl) rfl ?_
              refine run_s (ss_move rfl) rfl ?_
              refine run_w (ws_buildSlice (id := 179) (ps := [(0, .tmp 178)]) rfl rfl (Nat.le_of_ble_eq_true rfl) rfl ⟨rfl, ?_⟩)
              obtain ⟨q180, h⟩ := h
              refine run_w (ws_app1 ci (l := o171_2) (m := [v25_2]) rfl rfl rfl rfl rfl (Nat.le_of_ble_eq_true rfl) q180 ⟨rfl, ?_⟩)
              refine run_s (ss_assign rfl) rfl ?_
              refine run_nil ?_
              refine aw_gh (gh_to (n := 233) (σ' := [(171, ⟨ints (o171_2 ++ ([v25_2])), []⟩), (165, ⟨orows o165_1, []⟩), (164, ⟨ints r9_0, []⟩), (800, ⟨[.lst (bys o9_0), ci o9_1, cu o9_2], []⟩)]) (env' := [(5, .c (ci (1 + r1_0))), (18, .c (ci r8_0)), (19, .c (.lst (rows (tab (if 1 < r8_0 then r8_0 else 1) (fun x_ y_ => ((2 % (if 1 < r8_0 then r8_0 else 1)) * x_ + ((if 1 < r8_0 then r8_0 else 1) - 1) * y_) % (if 1 < r8_0 then r8_0 else 1)))))), (20, .c (.lst (rows (tab ((1 + r1_0) - r8_0) (fun x_ y_ => ((0 : Int) * x_ + (1 % ((1 + r1_0) - r8_0)) * y_) % ((1 + r1_0) - r8_0)))))), (21, .ref 164), (22, .ref 165), (23, .c (ci v23_1)), (24, .ref 171), (25, .c (ci v25_2)), (186, .c (ci v25_2)), (187, .c (ci r8_0)), (188, .c (cb (decide (v25_2 < r8_0)))), (205, .c (ci v25_2)), (206, .c (ci r8_0)), (207, .c (cb (decide (r8_0 ≤ v25_2)))), (233, .cell 800 0), (234, .c (ci most))]) rfl rfl ⟨rfl, rfl, rfl, rfl, rfl, rfl, rfl, rfl, rfl, rfl, rfl, rfl, rfl, rfl, rfl, rfl, rfl, trivial⟩) ?_
              refine aw_region ?_
              refine run_s (ss_move rfl) rfl ?_
              obtain ⟨q181, h⟩ := h
              refine run_s (ss_add rfl rfl q181) rfl ?_
              refine run_s (ss_assign rfl) rfl ?_
              refine run_nil ?_
              exact ⟨v25_2 + 1, o171_2 ++ ([v25_2]), ghe_to (n := 233) rfl rfl ⟨rfl, rfl, rfl, rfl, rfl, rfl, rfl, rfl, rfl, rfl, rfl, trivial⟩, h.1, h.2⟩
            ·replace h := h.2 (of_decide_eq_false q170)
             refine run_gf rfl rfl q170 rfl ?_
             refine run_gf rfl rfl q170 rfl ?_
             refine run_gf rfl rfl q170 rfl ?_
             refine run_s (ss_pickF rfl q170 rfl) rfl ?_
             refine run_s (ss_assign rfl) rfl ?_
             refine run_nil ?_
             refine aw_cond rfl (fun q182 => ?_) (fun q182 => ?_)
             ·cases q182
             ·skip
              refine aw_gh (gh_to (n := 233) (σ' := [(171, ⟨ints o171_2, []⟩), (165, ⟨orows o165_1, []⟩), (164, ⟨ints r9_0, []⟩), (800, ⟨[.lst (bys o9_0), ci o9_1, cu o9_2], []⟩)]) (env' := [(5, .c (ci (1 + r1_0))), (18, .c (ci r8_0)), (19, .c (.lst (rows (tab (if 1 < r8_0 then r8_0 else 1) (fun x_ y_ => ((2 % (if 1 < r8_0 then r8_0 else 1)) * x_ + ((if 1 < r8_0 then r8_0 else 1) - 1) * y_) % (if 1 < r8_0 then r8_0 else 1)))))), (20, .c (.lst (rows (tab ((1 + r1_0) - r8_0) (fun x_ y_ => ((0 : Int) * x_ + (1 % ((1 + r1_0) - r8_0)) * y_) % ((1 + r1_0) - r8_0)))))), (21, .ref 164), (22, .ref 165), (23, .c (ci v23_1)), (24, .ref 171), (25, .c (ci v25_2)), (186, .c (ci v25_2)), (187, .c (ci r8_0)), (188, .c (cb (decide (v25_2 < r8_0)))), (233, .cell 800 0), (234, .c (ci most))]) rfl rfl ⟨rfl, rfl, rfl, rfl, rfl, rfl, rfl, rfl, rfl, rfl, rfl, rfl, rfl, rfl, trivial⟩) ?_
              refine aw_region ?_
              refine run_s (ss_move rfl) rfl ?_
              refine run_s (ss_move rfl) rfl ?_
              refine run_w (ws_buildSlice (id := 179) (ps := [(0, .tmp 178)]) rfl rfl (Nat.le_of_ble_eq_true rfl) rfl ⟨rfl, ?_⟩)
              obtain ⟨q183, h⟩ := h
              refine run_w (ws_app1 ci (l := o171_2) (m := [v25_2]) rfl rfl rfl rfl rfl (Nat.le_of_ble_eq_true rfl) q183 ⟨rfl, ?_⟩)
              refine run_s (ss_assign rfl) rfl ?_
              refine run_nil ?_
              refine aw_region ?_
              refine run_s (ss_move rfl) rfl ?_
              obtain ⟨q184, h⟩ := h
              refine run_s (ss_add rfl rfl q184) rfl ?_
              refine run_s (ss_assign rfl) rfl ?_
              refine run_nil ?_
              exact ⟨v25_2 + 1, o171_2 ++ ([v25_2]), ghe_to (n := 233) rfl rfl ⟨rfl, rfl, rfl, rfl, rfl, rfl, rfl, rfl, rfl, rfl, rfl, trivial⟩, h.1, h.2⟩
          ·replace h := h.2 (of_decide_eq_false q164)
           refine run_gf rfl rfl q164 rfl ?_
           refine run_gf rfl rfl q164 rfl ?_
           refine run_gf rfl rfl q164 rfl ?_
           refine run_s (ss_pickF rfl q164 rfl) rfl ?_
           refine run_s (ss_assign rfl) rfl ?_
           refine run_nil ?_
           refine aw_cond rfl (fun q185 => ?_) (fun q185 => ?_)
           ·cases q185
           ·skip
            refine aw_seq ?_
            refine aw_region ?_
            refine run_s (ss_move rfl) rfl ?_
            refine run_s (ss_move rfl) rfl ?_
            refine run_s (ss_geq rfl rfl) rfl ?_
            refine run_s (ss_move rfl) rfl ?_
            refine run_split (s := 204) rfl (fun q186 => ?_) (fun q186 => ?_)
            ·replace h := h.1 (of_decide_eq_true q186)
             refine run_gt rfl rfl q186 ?_
             refine run_s (ss_move rfl) rfl ?_
             refine run_gt rfl rfl q186 ?_
             refine run_s (ss_move rfl) rfl ?_
             refine run_gt rfl rfl q186 ?_
             refine run_s (ss_geq rfl rfl) rfl ?_
             refine run_s (ss_pickT rfl q186 rfl) rfl ?_
             refine run_s (ss_assign rfl) rfl ?_
             refine run_nil ?_
             refine aw_cond rfl (fun q187 => ?_) (fun q187 => ?_)
             ·replace h := h.1 (of_decide_eq_true q187)
              refine aw_region ?_
              refine run_s (ss_move rfl) rfl ?_
              refine run_s (ss_move rfl) rfl ?_
              refine run_s (ss_move rfl) rfl ?_
              refine run_s (ss_move rfl) rfl ?_
              refine run_s (ss_move rfl) rfl ?_
              refine run_s (ss_move rfl) rfl ?_
              obtain ⟨q188, h⟩ := h
              refine run_s (ss_sub rfl rfl q188) rfl ?_
              obtain ⟨q189, h⟩ := h
              refine run_s (ss_idxL rfl rfl q189) rfl ?_
              refine run_s (ss_loadL (f := (fun r => C.lst (ints r))) rfl q189) rfl ?_
              refine run_s (ss_move rfl) rfl ?_
              refine run_s (ss_move rfl) rfl ?_
              obtain ⟨q190, h⟩ := h
              refine run_s (ss_sub rfl rfl q190) rfl ?_
              obtain ⟨q191, h⟩ := h
              refine run_s (ss_idxL rfl rfl q191) rfl ?_
              refine run_s (ss_loadL (f := ci) rfl q191) rfl ?_
              obtain ⟨q192, h⟩ := h
              refine run_s (ss_idxR (f := ci) rfl rfl rfl q192) rfl ?_
              refine run_s (ss_loadR (f := ci) rfl rfl q192 rfl rfl) rfl ?_
              obtain ⟨q193, h⟩ := h
              refine run_s (ss_add rfl rfl q193) rfl ?_
              refine run_w (ws_buildSlice (id := 226) (ps := [(0, .tmp 225)]) rfl rfl (Nat.le_of_ble_eq_true rfl) rfl ⟨rfl, ?_⟩)
              obtain ⟨q194, h⟩ := h
              refine run_w (ws_app1 ci (l := o171_2) (m := [r8_0 + (el r9_0 (el (el (tab ((1 + r1_0) - r8_0) (fun x_ y_ => ((0 : Int) * x_ + (1 % ((1 + r1_0) - r8_0)) * y_) % ((1 + r1_0) - r8_0))) (v23_1 - r8_0)) (v25_2 - r8_0)))]) rfl rfl rfl rfl rfl (Nat.le_of_ble_eq_true rfl) q194 ⟨rfl, ?_⟩)
              refine run_s (ss_assign rfl) rfl ?_
              refine run_nil ?_
              refine aw_gh (gh_to (n := 233) (σ' := [(171, ⟨ints (o171_2 ++ ([r8_0 + (el r9_0 (el (el (tab ((1 + r1_0) - r8_0) (fun x_ y_ => ((0 : Int) * x_ + (1 % ((1 + r1_0) - r8_0)) * y_) % ((1 + r1_0) - r8_0))) (v23_1 - r8_0)) (v25_2 - r8_0)))])), []⟩), (165, ⟨orows o165_1, []⟩), (164, ⟨ints r9_0, []⟩), (800, ⟨[.lst (bys o9_0), ci o9_1, cu o9_2], []⟩)]) (env' := [(5, .c (ci (1 + r1_0))), (18, .c (ci r8_0)), (19, .c (.lst (rows (tab (if 1 < r8_0 then r8_0 else 1) (fun x_ y_ => ((2 % (if 1 < r8_0 then r8_0 else 1)) * x_ + ((if 1 < r8_0 then r8_0 else 1) - 1) * y_) % (if 1 < r8_0 then r8_0 else 1)))))), (20, .c (.lst (rows (tab ((1 + r1_0) - r8_0) (fun x_ y_ => ((0 : Int) * x_ + (1 % ((1 + r1_0) - r8_0)) * y_) % ((1 + r1_0) - r8_0)))))), (21, .ref 164), (22, .ref 165), (23, .c (ci v23_1)), (24, .ref 171), (25, .c (ci v25_2)), (205, .c (ci v25_2)), (206, .c (ci r8_0)), (207, .c (cb (decide (r8_0 ≤ v25_2)))), (233, .cell 800 0), (234, .c (ci most))]) rfl rfl ⟨rfl, rfl, rfl, rfl, rfl, rfl, rfl, rfl, rfl, rfl, rfl, rfl, rfl, rfl, trivial⟩) ?_
              refine aw_region ?_
              refine run_s (ss_move rfl) rfl ?_
              obtain ⟨q195, h⟩ := h
              refine run_s (ss_add rfl rfl q195) rfl ?_
              refine run_s (ss_assign rfl) rfl ?_
              refine run_nil ?_
              exact ⟨v25_2 + 1, o171_2 ++ ([r8_0 + (el r9_0 (el (el (tab ((1 + r1_0) - r8_0) (fun x_ y_ => ((0 : Int) * x_ + (1 % ((1 + r1_0) - r8_0)) * y_) % ((1 + r1_0) - r8_0))) (v23_1 - r8_0)) (v25_2 - r8_0)))]), ghe_to (n := 233) rfl rfl ⟨rfl, rfl, rfl, rfl, rfl, rfl, rfl, rfl, rfl, rfl, rfl, trivial⟩, h.1, h.2⟩
             ·replace h := h.2 (of_decide_eq_false q187)
              refine aw_gh (gh_to (n := 233) (σ' := [(171, ⟨ints o171_2, []⟩), (165, ⟨orows o165_1, []⟩), (164, ⟨ints r9_0, []⟩), (800, ⟨[.lst (bys o9_0), ci o9_1, cu o9_2], []⟩)]) (env' := [(5, .c (ci (1 + r1_0))), (18, .c (ci r8_0)), (19, .c (.lst (rows (tab (if 1 < r8_0 then r8_0 else 1) (fun x_ y_ => ((2 % (if 1 < r8_0 then r8_0 else 1)) * x_ + ((if 1 < r8_0 then r8_0 else 1) - 1) * y_) % (if 1 < r8_0 then r8_0 else 1)))))), (20, .c (.lst (rows (tab ((1 + r1_0) - r8_0) (fun x_ y_ => ((0 : Int) * x_ + (1 % ((1 + r1_0) - r8_0)) * y_) % ((1 + r1_0) - r8_0)))))), (21, .ref 164), (22, .ref 165), (23, .c (ci v23_1)), (24, .ref 171), (25, .c (ci v25_2)), (205, .c (ci v25_2)), (206, .c (ci r8_0)), (207, .c (cb (decide (r8_0 ≤ v25_2)))), (233, .cell 800 0), (234, .c (ci most))]) rfl rfl ⟨rfl, rfl, rfl, rfl, rfl, rfl, rfl, rfl, rfl, rfl, rfl, rfl, rfl, rfl, trivial⟩) ?_
              refine aw_region ?_
              refine run_s (ss_move rfl) rfl ?_
              refine run_s (ss_move rfl) rfl ?_
              refine run_w (ws_buildSlice (id := 179) (ps := [(0, .tmp 178)]) rfl rfl (Nat.le_of_ble_eq_true rfl) rfl ⟨rfl, ?_⟩)
              obtain ⟨q196, h⟩ := h
              refine run_w (ws_app1 ci (l := o171_2) (m := [v25_2]) rfl rfl rfl rfl rfl (Nat.le_of_ble_eq_true rfl) q196 ⟨rfl, ?_⟩)
              refine run_s (ss_assign rfl) rfl ?_
              refine run_nil ?_
              refine aw_region ?_
              refine run_s (ss_move rfl) rfl ?_
              obtain ⟨q197, h⟩ := h
              refine run_s (ss_add rfl rfl q197) rfl ?_
              refine run_s (ss_assign rfl) rfl ?_
              refine run_nil ?_
              exact ⟨v25_2 + 1, o171_2 ++ ([v25_2]), ghe_to (n := 233) rfl rfl ⟨rfl, rfl, rfl, rfl, rfl, rfl, rfl, rfl, rfl, rfl, rfl, trivial⟩, h.1, h.2⟩
            ·replace h := h.2 (of_decide_eq_false q186)
             refine run_gf rfl rfl q186 rfl ?_
             refine run_gf rfl rfl q186 rfl ?_
             refine run_gf rfl rfl q186 rfl ?_
             refine run_s (ss_pickF rfl q186 rfl) rfl ?_
             refine run_s (ss_assign rfl) rfl ?_
             refine run_nil ?_
             refine aw_cond rfl (fun q198 => ?_) (fun q198 => ?_)
             ·cases q198
             ·skip
              refine aw_gh (gh_to (n := 233) (σ' := [(171, ⟨ints o171_2, []⟩), (165, ⟨orows o165_1, []⟩), (164, ⟨ints r9_0, []⟩), (800, ⟨[.lst (bys o9_0), ci o9_1, cu o9_2], []⟩)]) (env' := [(5, .c (ci (1 + r1_0))), (18, .c (ci r8_0)), (19, .c (.lst (rows (tab (if 1 < r8_0 then r8_0 else 1) (fun x_ y_ => ((2 % (if 1 < r8_0 then r8_0 else 1)) * x_ + ((if 1 < r8_0 then r8_0 else 1) - 1) * y_) % (if 1 < r8_0 then r8_0 else 1)))))), (20, .c (.lst (rows (tab ((1 + r1_0) - r8_0) (fun x_ y_ => ((0 : Int) * x_ + (1 % ((1 + r1_0) - r8_0)) * y_) % ((1 + r1_0) - r8_0)))))), (21, .ref 164), (22, .ref 165), (23, .c (ci v23_1)), (24, .ref 171), (25, .c (ci v25_2)), (233, .cell 800 0), (234, .c (ci most))]) rfl rfl ⟨rfl, rfl, rfl, rfl, rfl, rfl, rfl, rfl, rfl, rfl, rfl, trivial⟩) ?_
              refine aw_region ?_
              refine run_s (ss_move rfl) rfl ?_
              refine run_s (ss_move rfl) rfl ?_
              refine run_w (ws_buildSlice (id := 179) (ps := [(0, .tmp 178)]) rfl rfl (Nat.le_of_ble_eq_true rfl) rfl ⟨rfl, ?_⟩)
              obtain ⟨q199, h⟩ := h
              refine run_w (ws_app1 ci (l := o171_2) (m := [v25_2]) rfl rfl rfl rfl rfl (Nat.le_of_ble_eq_true rfl) q199 ⟨rfl, ?_⟩)
              refine run_s (ss_assign rfl) rfl ?_
              refine run_nil ?_
              refine aw_region ?_
              refine run_s (ss_move rfl) rfl ?_
              obtain ⟨q200, h⟩ := h
              refine run_s (ss_add rfl rfl q200) rfl ?_
              refine run_s (ss_assign rfl) rfl ?_
              refine run_nil ?_
              exact ⟨v25_2 + 1, o171_2 ++ ([v25_2]), ghe_to (n := 233) rfl rfl ⟨rfl, rfl, rfl, rfl, rfl, rfl, rfl, rfl, rfl, rfl, rfl, trivial⟩, h.1, h.2⟩
         ·replace h := h.2 (of_decide_eq_false q163)
          refine aw_exit ?_
          refine aw_region ?_
          refine run_s (ss_move rfl) rfl ?_
          refine run_s (ss_move rfl) rfl ?_
          refine run_w (ws_buildSlice (id := 230) (ps := [(0, .tmp 229)]) rfl rfl (Nat.le_of_ble_eq_true rfl) rfl ⟨rfl, ?_⟩)
          refine run_gh (gh_fill (id := 230) (id2 := 171) (j := 0) rfl rfl (Nat.le_of_ble_eq_true rfl) rfl rfl rfl) ?_
          obtain ⟨q201, h⟩ := h
          refine run_w (ws_app1 (fun r => C.own (ints r)) (l := o165_1) (m := [o171_2]) rfl rfl rfl rfl rfl (Nat.le_of_ble_eq_true rfl) q201 ⟨rfl, ?_⟩)
          refine run_s (ss_assign rfl) rfl ?_
          refine run_nil ?_
          refine aw_gh (gh_to (n := 233) (σ' := [(165, ⟨orows (o165_1 ++ ([o171_2])), []⟩), (164, ⟨ints r9_0, []⟩), (800, ⟨[.lst (bys o9_0), ci o9_1, cu o9_2], []⟩)]) (env' := [(5, .c (ci (1 + r1_0))), (18, .c (ci r8_0)), (19, .c (.lst (rows (tab (if 1 < r8_0 then r8_0 else 1) (fun x_ y_ => ((2 % (if 1 < r8_0 then r8_0 else 1)) * x_ + ((if 1 < r8_0 then r8_0 else 1) - 1) * y_) % (if 1 < r8_0 then r8_0 else 1)))))), (20, .c (.lst (rows (tab ((1 + r1_0) - r8_0) (fun x_ y_ => ((0 : Int) * x_ + (1 % ((1 + r1_0) - r8_0)) * y_) % ((1 + r1_0) - r8_0)))))), (21, .ref 164), (22, .ref 165), (23, .c (ci v23_1)), (233, .cell 800 0), (234, .c (ci most))]) rfl rfl ⟨rfl, rfl, rfl, rfl, rfl, rfl, rfl, rfl, rfl, trivial⟩) ?_
          refine aw_region ?_
          refine run_s (ss_move rfl) rfl ?_
          obtain ⟨q202, h⟩ := h
          refine run_s (ss_add rfl rfl q202) rfl ?_
          refine run_s (ss_assign rfl) rfl ?_
          refine run_nil ?_
          exact ⟨v23_1 + 1, o165_1 ++ ([o171_2]), ghe_to (n := 233) rfl rfl ⟨rfl, rfl, rfl, rfl, rfl, rfl, rfl, rfl, rfl, trivial⟩, h.1, h.2⟩
        ·replace h := h.2 (of_decide_eq_false q161)
         refine aw_exit ?_
         refine aw_seq ?_
         refine aw_gh (gh_to (n := 233) (σ' := [(165, ⟨orows o165_1, []⟩), (164, ⟨ints r9_0, []⟩), (800, ⟨[.lst (bys o9_0), ci o9_1, cu o9_2], []⟩)]) (env' := [(22, .ref 165), (233, .cell 800 0), (234, .c (ci most))]) rfl rfl ⟨rfl, rfl, rfl, trivial⟩) ?_
         refine aw_region ?_
         refine run_s (ss_move rfl) rfl ?_
         refine run_s (ss_assign rfl) rfl ?_
         refine run_nil ?_
         refine aw_ret ?_
         exact retAM_mk (retv1 rfl (rv_tmp rfl)) rfl rfl rfl ⟨_, _, _, _, h, rfl, rfl⟩
     ·replace h := h.2 (of_decide_eq_false q92)
      refine aw_skip ?_
      refine aw_seq ?_
      refine aw_region ?_
      refine run_s (ss_move rfl) rfl ?_
      refine run_s (ss_move rfl) rfl ?_
      obtain ⟨q203, h⟩ := h
      refine run_w (ws_callM (xs := [.tmp 137, .tmp 138]) (cs := [.obox [.lst (bys o2_0), ci o2_1, cu o2_2], ci (1 + r1_0)]) (ids := []) rfl (.inr ⟨rfl, rfl⟩) rfl rfl rfl (c_spec_l01Next o2_0 o2_1 o2_2 (1 + r1_0) q203) rfl rfl ?_ )
      rintro _ _ ⟨r10_0, o10_0, o10_1, o10_2, q204, rfl, rfl⟩
      replace h := h r10_0 o10_0 o10_1 o10_2 q204
      refine ⟨rfl, rfl, ?_⟩
      refine run_s (ss_assign rfl) rfl ?_
      refine run_nil ?_
      refine aw_seq ?_
      refine aw_gh (gh_to (n := 233) (σ' := [(800, ⟨[.lst (bys o10_0), ci o10_1, cu o10_2], []⟩)]) (env' := [(0, .cell 800 0), (5, .c (ci (1 + r1_0))), (18, .c (ci r10_0)), (233, .cell 800 0), (234, .c (ci most))]) rfl rfl ⟨rfl, rfl, rfl, rfl, rfl, trivial⟩) ?_
      refine aw_regionD (kd := kdl [0, 0, 0, 0, 0, 0, 0, 0, 2, 0, 0, 0, 0, 0, 0, 0, 2, 0, 0]) (ord := [0, 1, 2, 3, 4, 5, 6, 7, 9, 10, 11, 12, 13, 14, 15, 8, 16, 17, 18]) [] mixed (by kernel_rfl) ?_
      refine rd_s rfl rfl trivial (ss_move rfl) rfl ?_
      refine rd_s rfl rfl trivial (ss_max rfl rfl) rfl ?_
      refine rd_s rfl rfl trivial (ss_move rfl) rfl ?_
      refine rd_s rfl rfl trivial (ss_max rfl rfl) rfl ?_
      obtain ⟨q205, h⟩ := h
      refine rd_s rfl rfl trivial (ss_sub rfl rfl q205) rfl ?_
      refine rd_s rfl rfl trivial (ss_move rfl) rfl ?_
      refine rd_s rfl rfl trivial (ss_max rfl rfl) rfl ?_
      obtain ⟨q206, h⟩ := h
      refine rd_s rfl rfl trivial (ss_rem rfl rfl q206) rfl ?_
      refine rd_s rfl rfl trivial (ss_move rfl) rfl ?_
      refine rd_s rfl rfl trivial (ss_move rfl) rfl ?_
      obtain ⟨q207, h⟩ := h
      refine rd_s rfl rfl trivial (ss_sub rfl rfl q207) rfl ?_
      refine rd_s rfl rfl trivial (ss_move rfl) rfl ?_
      refine rd_s rfl rfl trivial (ss_move rfl) rfl ?_
      obtain ⟨q208, h⟩ := h
      refine rd_s rfl rfl trivial (ss_sub rfl rfl q208) rfl ?_
      obtain ⟨q209, h⟩ := h
      refine rd_s rfl rfl trivial (ss_rem rfl rfl q209) rfl ?_
      obtain ⟨q210, h⟩ := h
      refine rd_w rfl rfl trivial rfl rfl (ws_call (xs := [.tmp 141, .tmp 144, .tmp 147]) (ids := [148]) rfl rfl rfl rfl (c_spec_l03Alexander (if 1 < r10_0 then r10_0 else 1) ((if 1 < r10_0 then r10_0 else 1) - 1) (2 % (if 1 < r10_0 then r10_0 else 1)) q210) rfl ?_ )
      rintro _ rfl
      refine ⟨rfl, ?_⟩
      obtain ⟨q212, h⟩ := h
      refine rd_w rfl rfl trivial rfl rfl (ws_call (xs := [.tmp 151, .tmp 155, .const (.int .i64 (0))]) (ids := [156]) rfl rfl rfl rfl (c_spec_l03Alexander ((1 + r1_0) - r10_0) (1 % ((1 + r1_0) - r10_0)) 0 q212) rfl ?_ )
      rintro _ rfl
      refine ⟨rfl, ?_⟩
      refine rd_s rfl rfl trivial (ss_assign rfl) rfl ?_
      refine rd_s rfl rfl trivial (ss_assign rfl) rfl ?_
      refine rd_nil ?_
      refine aw_seq ?_
      refine aw_seq ?_
      refine aw_gh (gh_to (n := 233) (σ' := [(156, ⟨orows (tab ((1 + r1_0) - r10_0) (fun x_ y_ => ((0 : Int) * x_ + (1 % ((1 + r1_0) - r10_0)) * y_) % ((1 + r1_0) - r10_0))), []⟩), (148, ⟨orows (tab (if 1 < r10_0 then r10_0 else 1) (fun x_ y_ => ((2 % (if 1 < r10_0 then r10_0 else 1)) * x_ + ((if 1 < r10_0 then r10_0 else 1) - 1) * y_) % (if 1 < r10_0 then r10_0 else 1))), []⟩), (800, ⟨[.lst (bys o10_0), ci o10_1, cu o10_2], []⟩)]) (env' := [(0, .cell 800 0), (5, .c (ci (1 + r1_0))), (18, .c (ci r10_0)), (19, .ref 148), (20, .ref 156), (233, .cell 800 0), (234, .c (ci most))]) rfl rfl ⟨rfl, rfl, rfl, rfl, rfl, rfl, rfl, trivial⟩) ?_
      refine aw_region ?_
      refine run_s (ss_move rfl) rfl ?_
      refine run_s (ss_eql rfl rfl) rfl ?_
      refine run_nil ?_
      refine aw_cond rfl (fun q214 => ?_) (fun q214 => ?_)
      ·replace h := h.1 (of_decide_eq_true q214)
       refine aw_seq ?_
       refine aw_gh (gh_to (n := 233) (σ' := [(156, ⟨orows (tab ((1 + r1_0) - r10_0) (fun x_ y_ => ((0 : Int) * x_ + (1 % ((1 + r1_0) - r10_0)) * y_) % ((1 + r1_0) - r10_0))), []⟩), (148, ⟨orows (tab (if 1 < r10_0 then r10_0 else 1) (fun x_ y_ => ((2 % (if 1 < r10_0 then r10_0 else 1)) * x_ + ((if 1 < r10_0 then r10_0 else 1) - 1) * y_) % (if 1 < r10_0 then r10_0 else 1))), []⟩), (800, ⟨[.lst (bys o10_0), ci o10_1, cu o10_2], []⟩)]) (env' := [(20, .ref 156), (233, .cell 800 0), (234, .c (ci most))]) rfl rfl ⟨rfl, rfl, rfl, trivial⟩) ?_
       refine aw_region ?_
       refine run_s (ss_move rfl) rfl ?_
       refine run_s (ss_assign rfl) rfl ?_
       refine run_nil ?_
       refine aw_ret ?_
       exact retAM_mk (retv1 rfl (rv_tmp rfl)) rfl rfl rfl ⟨_, _, _, _, h, rfl, rfl⟩
      ·replace h := h.2 (of_decide_eq_false q214)
       refine aw_skip ?_
       refine aw_seq ?_
       refine aw_region ?_
       refine run_s (ss_move rfl) rfl ?_
       refine run_s (ss_move rfl) rfl ?_
       refine run_s (ss_move rfl) rfl ?_
       obtain ⟨q215, h⟩ := h
       refine run_s (ss_sub rfl rfl q215) rfl ?_
       obtain ⟨q216, h⟩ := h
       refine run_w (ws_callM (xs := [.tmp 160, .tmp 163]) (cs := [.obox [.lst (bys o10_0), ci o10_1, cu o10_2], ci ((1 + r1_0) - r10_0)]) (ids := [164]) rfl (.inr ⟨rfl, rfl⟩) rfl rfl rfl (c_spec_l03DrawPerm o10_0 o10_1 o10_2 ((1 + r1_0) - r10_0) q216) rfl rfl ?_ )
       rintro _ _ ⟨r11_0, o11_0, o11_1, o11_2, q217, rfl, rfl⟩
       replace h := h r11_0 o11_0 o11_1 o11_2 q217
       refine ⟨rfl, rfl, ?_⟩
       refine run_s (ss_assign rfl) rfl ?_
       refine run_nil ?_
       refine aw_seq ?_
       refine aw_region ?_
       refine run_w (ws_buildSlice (id := 165) (ps := []) rfl rfl (Nat.le_of_ble_eq_true rfl) rfl ⟨rfl, ?_⟩)
       refine run_s (ss_assign rfl) rfl ?_
       refine run_nil ?_
       refine aw_gh (gh_frzE (id := 148) (fun r => C.lst (ints r)) rfl (fun _ => (fz_own (fz_map (fun _ => rfl) _)))) ?_
       refine aw_gh (gh_frzE (id := 156) (fun r => C.lst (ints r)) rfl (fun _ => (fz_own (fz_map (fun _ => rfl) _)))) ?_
       refine aw_seq ?_
       refine aw_seq ?_
       refine aw_gh (gh_to (n := 233) (σ' := [(165, ⟨orows ([] : List (List Int)), []⟩), (164, ⟨ints r11_0, []⟩), (800, ⟨[.lst (bys o11_0), ci o11_1, cu o11_2], []⟩)]) (env' := [(5, .c (ci (1 + r1_0))), (18, .c (ci r10_0)), (19, .c (.lst (rows (tab (if 1 < r10_0 then r10_0 else 1) (fun x_ y_ => ((2 % (if 1 < r10_0 then r10_0 else 1)) * x_ + ((if 1 < r10_0 then r10_0 else 1) - 1) * y_) % (if 1 < r10_0 then r10_0 else 1)))))), (20, .c (.lst (rows (tab ((1 + r1_0) - r10_0) (fun x_ y_ => ((0 : Int) * x_ + (1 % ((1 + r1_0) - r10_0)) * y_) % ((1 + r1_0) - r10_0)))))), (21, .ref 164), (22, .ref 165), (233, .cell 800 0), (234, .c (ci most))]) rfl rfl ⟨rfl, rfl, rfl, rfl, rfl, rfl, rfl, rfl, trivial⟩) ?_
       refine aw_region ?_
       refine run_s (ss_assign rfl) rfl ?_
       refine run_nil ?_
       refine aw_block ?_
       obtain ⟨H13, m13, q218, h⟩ := h
       refine aw_loop2 (fun (v23_1 : Int) (o165_1 : List (List Int)) => ⟨[(165, ⟨orows o165_1, []⟩), (164, ⟨ints r11_0, []⟩), (800, ⟨[.lst (bys o11_0), ci o11_1, cu o11_2], []⟩)], [(5, .c (ci (1 + r1_0))), (18, .c (ci r10_0)), (19, .c (.lst (rows (tab (if 1 < r10_0 then r10_0 else 1) (fun x_ y_ => ((2 % (if 1 < r10_0 then r10_0 else 1)) * x_ + ((if 1 < r10_0 then r10_0 else 1) - 1) * y_) % (if 1 < r10_0 then r10_0 else 1)))))), (20, .c (.lst (rows (tab ((1 + r1_0) - r10_0) (fun x_ y_ => ((0 : Int) * x_ + (1 % ((1 + r1_0) - r10_0)) * y_) % ((1 + r1_0) - r10_0)))))), (21, .ref 164), (22, .ref 165), (23, .c (ci v23_1)), (233, .cell 800 0), (234, .c (ci most))], 233⟩) H13 m13 ⟨0, ([] : List (List Int)), ghe_to (n := 233) rfl rfl ⟨rfl, rfl, rfl, rfl, rfl, rfl, rfl, rfl, rfl, trivial⟩, q218⟩ ?_
       rintro v23_1 o165_1 q218
       replace h := h v23_1 o165_1 q218
       refine aw_seq ?_
       refine aw_seq ?_
       refine aw_region ?_
       refine run_s (ss_move rfl) rfl ?_
       refine run_s (ss_move rfl) rfl ?_
       refine run_s (ss_lss rfl rfl) rfl ?_
       refine run_nil ?_
       refine aw_cond rfl (fun q219 => ?_) (fun q219 => ?_)
       ·replace h := h.1 (of_decide_eq_true q219)
        refine aw_skip ?_
        refine aw_seq ?_
        refine aw_block ?_
        refine aw_seq ?_
        refine aw_region ?_
        refine run_w (ws_buildSlice (id := 171) (ps := []) rfl rfl (Nat.le_of_ble_eq_true rfl) rfl ⟨rfl, ?_⟩)
        refine run_s (ss_assign rfl) rfl ?_
        refine run_nil ?_
        refine aw_seq ?_
        refine aw_seq ?_
        refine aw_region ?_
        refine run_s (ss_assign rfl) rfl ?_
        refine run_nil ?_
        refine aw_block ?_
        obtain ⟨H14, m14, q220, h⟩ := h
        refine aw_loop2 (fun (v25_2 : Int) (o171_2 : List Int) => ⟨[(171, ⟨ints o171_2, []⟩), (165, ⟨orows o165_1, []⟩), (164, ⟨ints r11_0, []⟩), (800, ⟨[.lst (bys o11_0), ci o11_1, cu o11_2], []⟩)], [(5, .c (ci (1 + r1_0))), (18, .c (ci r10_0)), (19, .c (.lst (rows (tab (if 1 < r10_0 then r10_0 else 1) (fun x_ y_ => ((2 % (if 1 < r10_0 then r10_0 else 1)) * x_ + ((if 1 < r10_0 then r10_0 else 1) - 1) * y_) % (if 1 < r10_0 then r10_0 else 1)))))), (20, .c (.lst (rows (tab ((1 + r1_0) - r10_0) (fun x_ y_ => ((0 : Int) * x_ + (1 % ((1 + r1_0) - r10_0)) * y_) % ((1 + r1_0) - r10_0)))))), (21, .ref 164), (22, .ref 165), (23, .c (ci v23_1)), (24, .ref 171), (25, .c (ci v25_2)), (233, .cell 800 0), (234, .c (ci most))], 233⟩) H14 m14 ⟨0, ([] : List Int), ghe_to (n := 233) rfl rfl ⟨rfl, rfl, rfl, rfl, rfl, rfl, rfl, rfl, rfl, rfl, rfl, trivial⟩, q220⟩ ?_
        rintro v25_2 o171_2 q220
        replace h := h v25_2 o171_2 q220
        refine aw_seq ?_
        refine aw_seq ?_
        refine aw_region ?_
        refine run_s (ss_move rfl) rfl ?_
        refine run_s (ss_move rfl) rfl ?_
        refine run_s (ss_lss rfl rfl) rfl ?_
        refine run_nil ?_
        refine aw_cond rfl (fun q221 => ?_) (fun q221 => ?_)
        ·replace h := h.1 (of_decide_eq_true q221)
         refine aw_skip ?_
         refine aw_seq ?_
         refine aw_block ?_
         refine aw_block ?_
         refine aw_seq ?_
         refine aw_region ?_
         refine run_s (ss_move rfl) rfl ?_
         refine run_s (ss_move rfl) rfl ?_
         refine run_s (ss_lss rfl rfl) rfl ?_
         refine run_s (ss_move rfl) rfl ?_
         refine run_split (s := 185) rfl (fun q222 => ?_) (fun q222 => ?_)
         ·replace h := h.1 (of_decide_eq_true q222)
          refine run_gt rfl rfl q222 ?_
          refine run_s (ss_move rfl) rfl ?_
          refine run_gt rfl rfl q222 ?_
          refine run_s (ss_move rfl) rfl ?_
          refine run_gt rfl rfl q222 ?_
          refine run_s (ss_lss rfl rfl) rfl ?_
          refine run_s (ss_pickT rfl q222 rfl) rfl ?_
          refine run_s (ss_assign rfl) rfl ?_
          refine run_nil ?_
          refine aw_cond rfl (fun q223 => ?_) (fun q223 => ?_)
          ·replace h := h.1 (of_decide_eq_true q223)
           refine aw_region ?_
           refine run_s (ss_move rfl) rfl ?_
           refine run_s (ss_move rfl) rfl ?_
           refine run_s (ss_move rfl) rfl ?_
           obtain ⟨q224, h⟩ := h
           refine run_s (ss_idxL rfl rfl q224) rfl ?_
           refine run_s (ss_loadL (f := (fun r => C.lst (ints r))) rfl q224) rfl ?_
           refine run_s (ss_move rfl) rfl ?_
           obtain ⟨q225, h⟩ := h
           refine run_s (ss_idxL rfl rfl q225) rfl ?_
           refine run_s (ss_loadL (f := ci) rfl q225) rfl ?_
           refine run_w (ws_buildSlice (id := 198) (ps := [(0, .tmp 197)]) rfl rfl (Nat.le_of_ble_eq_true rfl) rfl ⟨rfl, ?_⟩)
           obtain ⟨q226, h⟩ := h
           refine run_w (ws_app1 ci (l := o171_2) (m := [el (el (tab (if 1 < r10_0 then r10_0 else 1) (fun x_ y_ => ((2 % (if 1 < r10_0 then r10_0 else 1)) * x_ + ((if 1 < r10_0 then r10_0 else 1) - 1) * y_) % (if 1 < r10_0 then r10_0 else 1))) v23_1) v25_2]) rfl rfl rfl rfl rfl (Nat.le_of_ble_eq_true rfl) q226 ⟨rfl, ?_⟩)
           refine run_s (ss_assign rfl) rfl ?_
           refine run_nil ?_
           refine aw_gh (gh_to (n := 233) (σ' := [(171, ⟨ints (o171_2 ++ ([el (el (tab (if 1 < r10_0 then r10_0 else 1) (fun x_ y_ => ((2 % (if 1 < r10_0 then r10_0 else 1)) * x_ + ((if 1 < r10_0 then r10_0 else 1) - 1) * y_) % (if 1 < r10_0 then r10_0 else 1))) v23_1) v25_2])), []⟩), (165, ⟨orows o165_1, []⟩), (164, ⟨ints r11_0, []⟩), (800, ⟨[.lst (bys o11_0), ci o11_1, cu o11_2], []⟩)]) (env' := [(5, .c (ci (1 + r1_0))), (18, .c (ci r10_0)), (19, .c (.lst (rows (tab (if 1 < r10_0 then r10_0 else 1) (fun x_ y_ => ((2 % (if 1 < r10_0 then r10_0 else 1)) * x_ + ((if 1 < r10_0 then r10_0 else 1) - 1) * y_) % (if 1 < r10_0 then r10_0 else 1)))))), (20, .c (.lst (rows (tab ((1 + r1_0) - r10_0) (fun x_ y_ => ((0 : Int) * x_ + (1 % ((1 + r1_0) - r10_0)) * y_) % ((1 + r1_0) - r10_0)))))), (21, .ref 164), (22, .ref 165), (23, .c (ci v23_1)), (24, .ref 171), (25, .c (ci v25_2)), (186, .c (ci v25_2)), (187, .c (ci r10_0)), (188, .c (cb (decide (v25_2 < r10_0)))), (233, .cell 800 0), (234, .c (ci most))]) rfl rfl ⟨rfl, rfl, rfl, rfl, rfl, rfl, rfl, rfl, rfl, rfl, rfl, rfl, rfl, rfl, trivial⟩) ?_
           refine aw_region ?_
           refine run_s (ss_move rfl) rfl ?_
           obtain ⟨q227, h⟩ := h
           refine run_s (ss_add rfl rfl q227) rfl ?_
           refine run_s (ss_assign rfl) rfl ?_
           refine run_nil ?_
           exact ⟨v25_2 + 1, o171_2 ++ ([el (el (tab (if 1 < r10_0 then r10_0 else 1) (fun x_ y_ => ((2 % (if 1 < r10_0 then r10_0 else 1)) * x_ + ((if 1 < r10_0 then r10_0 else 1) - 1) * y_) % (if 1 < r10_0 then r10_0 else 1))) v23_1) v25_2]), ghe_to (n := 233) rfl rfl ⟨rfl, rfl, rfl, rfl, rfl, rfl, rfl, rfl, rfl, rfl, rfl, trivial⟩, h.1, h.2⟩
          ·replace h := h.2 (of_decide_eq_false q223)
           refine aw_seq ?_
           refine aw_region ?_
           refine run_s (ss_move rfl) rfl ?_
           refine run_s (ss_move rfl) rfl ?_
           refine run_s (ss_geq rfl rfl) rfl ?_
           refine run_s (ss_move rfl) rfl ?_
           refine run_split (s := 204) rfl (fun q228 => ?_) (fun q228 => ?_)
           ·replace h := h.1 (of_decide_eq_true q228)
            refine run_gt rfl rfl q228 ?_
            refine run_s (ss_move rfl) rfl ?_
            refine run_gt rfl rfl q228 ?_
            refine run_s (ss_move rfl) rfl ?_
            refine run_gt rfl rfl q228 ?_
            refine run_s (ss_geq rfl rfl) rfl ?_
            refine run_s (ss_pickT rfl q228 rfl) rfl ?_
            refine run_s (ss_assign rfl) rfl ?_
            refine run_nil ?_
            refine aw_cond rfl (fun q229 => ?_) (fun q229 => ?_)
            ·replace h := h.1 (of_decide_eq_true q229)
             refine aw_region ?_
             refine run_s (ss_move rfl) rfl ?_
             refine run_s (ss_move rfl) rfl ?_
             refine run_s (ss_move rfl) rfl ?_
             refine run_s (ss_move rfl) rfl ?_
             refine run_s (ss_move rfl) rfl ?_
             refine run_s (ss_move rfl) rfl ?_
             obtain ⟨q230, h⟩ := h
             refine run_s (ss_sub rfl rfl q230) rfl ?_
             obtain ⟨q231, h⟩ := h
             refine run_s (ss_idxL rfl rfl q231) rfl ?_
             refine run_s (ss_loadL (f := (fun r => C.lst (ints r))) rfl q231) rfl ?_
             refine run_s (ss_move rfl) rfl ?_
             refine run_s (ss_move rfl) rfl ?_
             obtain ⟨q232, h⟩ := h
             refine run_s (ss_sub rfl rfl q232) rfl ?_
             obtain ⟨q233, h⟩ := h
             refine run_s (ss_idxL rfl rfl q233) rfl ?_
             refine run_s (ss_loadL (f := ci) rfl q233) rfl ?_
             obtain ⟨q234, h⟩ := h
             refine run_s (ss_idxR (f := ci) rfl rfl rfl q234) rfl ?_
             refine run_s (ss_loadR (f := ci) rfl rfl q234 rfl rfl) rfl ?_
             obtain ⟨q235, h⟩ := h
             refine run_s (ss_add rfl rfl q235) rfl ?_
             refine run_w (ws_buildSlice (id := 226) (ps := [(0, .tmp 225)]) rfl rfl (Nat.le_of_ble_eq_true rfl) rfl ⟨rfl, ?_⟩)
             obtain ⟨q236, h⟩ := h
             refine run_w (ws_app1 ci (l := o171_2) (m := [r10_0 + (el r11_0 (el (el (tab ((1 + r1_0) - r10_0) (fun x_ y_ => ((0 : Int) * x_ + (1 % ((1 + r1_0) - r10_0)) * y_) % ((1 + r1_0) - r10_0))) (v23_1 - r10_0)) (v25_2 - r10_0)))]) rfl rfl rfl rfl rfl (Nat.le_of_ble_eq_true rfl) q236 ⟨rfl, ?_⟩)
             refine run_s (ss_assign rfl) rfl ?_
             refine run_nil ?_
             refine aw_gh (gh_to (n := 233) (σ' := [(171, ⟨ints (o171_2 ++ ([r10_0 + (el r11_0 (el (el (tab ((1 + r1_0) - r10_0) (fun x_ y_ => ((0 : Int) * x_ + (1 % ((1 + r1_0) - r10_0)) * y_) % ((1 + r1_0) - r10_0))) (v23_1 - r10_0)) (v25_2 - r10_0)))])), []⟩), (165, ⟨orows o165_1, []⟩), (164, ⟨ints r11_0, []⟩), (800, ⟨[.lst (bys o11_0), ci o11_1, cu o11_2], []⟩)]) (env' := [(5, .c (ci (1 + r1_0))), (18, .c (ci r10_0)), (19, .c (.lst (rows (tab (if 1 < r10_0 then r10_0 else 1) (fun x_ y_ => ((2 % (if 1 < r10_0 then r10_0 else 1)) * x_ + ((if 1 < r10_0 then r10_0 else 1) - 1) * y_) % (if 1 < r10_0 then r10_0 else 1)))))), (20, .c (.lst (rows (tab ((1 + r1_0) - r10_0) (fun x_ y_ => ((0 : Int) * x_ + (1 % ((1 + r1_0) - r10_0)) * y_) % ((1 + r1_0) - r10_0)))))), (21, .ref 164), (22, .ref 165), (23, .c (ci v23_1)), (24, .ref 171), (25, .c (ci v25_2)), (186, .c (ci v25_2)), (187, .c (ci r10_0)), (188, .c (cb (decide (v25_2 < r10_0)))), (205, .c (ci v25_2)), (206, .c (ci r10_0)), (207, .c (cb (decide (r10_0 ≤ v25_2)))), (233, .cell 800 0), (234, .c (ci most))]) rfl rfl ⟨rfl, rfl, rfl, rfl, rfl, rfl, rfl, rfl, rfl, rfl, rfl, rfl, rfl, rfl, rfl, rfl, rfl, trivial⟩) ?_
             refine aw_region ?_
             refine run_s (ss_move rfl) rfl ?_
             obtain ⟨q237, h⟩ := h
             refine run_s (ss_add rfl rfl q237) rfl ?_
             refine run_s (ss_assign rfl) rfl ?_
             refine run_nil ?_
             exact ⟨v25_2 + 1, o171_2 ++ ([r10_0 + (el r11_0 (el (el (tab ((1 + r1_0) - r10_0) (fun x_ y_ => ((0 : Int) * x_ + (1 % ((1 + r1_0) - r10_0)) * y_) % ((1 + r1_0) - r10_0))) (v23_1 - r10_0)) (v25_2 - r10_0)))]), ghe_to (n := 233) rfl rfl ⟨rfl, rfl, rfl, rfl, rfl, rfl, rfl, rfl, rfl, rfl, rfl, trivial⟩, h.1, h.2⟩
            ·replace h := h.2 (of_decide_eq_false q229)
             refine aw_gh (gh_to (n := 233) (σ' := [(171, ⟨ints o171_2, []⟩), (165, ⟨orows o165_1, []⟩), (164, ⟨ints r11_0, []⟩), (800, ⟨[.lst (bys o11_0), ci o11_1, cu o11_2], []⟩)]) (env' := [(5, .c (ci (1 + r1_0))), (18, .c (ci r10_0)), (19, .c (.lst (rows (tab (if 1 < r10_0 then r10_0 else 1) (fun x_ y_ => ((2 % (if 1 < r10_0 then r10_0 else 1)) * x_ + ((if 1 < r10_0 then r10_0 else 1) - 1) * y_) % (if 1 < r10_0 then r10_0 else 1)))))), (20, .c (.lst (rows (tab ((1 + r1_0) - r10_0) (fun x_ y_ => ((0 : Int) * x_ + (1 % ((1 + r1_0) - r10_0)) * y_) % ((1 + r1_0) - r10_0)))))), (21, .ref 164), (22, .ref 165), (23, .c (ci v23_1)), (24, .ref 171), (25, .c (ci v25_2)), (186, .c (ci v25_2)), (187, .c (ci r10_0)), (188, .c (cb (decide (v25_2 < r10_0)))), (205, .c (ci v25_2)), (206, .c (ci r10_0)), (207, .c (cb (decide (r10_0 ≤ v25_2)))), (233, .cell 800 0), (234, .c (ci most))]) rfl rfl ⟨rfl, rfl, rfl, rfl, rfl, rfl, rfl, rfl, rfl, rfl, rfl, rfl, rfl, rfl, rfl, rfl, rfl, trivial⟩) ?_
             refine aw_region ?_
             refine run_s (ss_move rfl) rfl ?_
             refine run_s (ss_move rfl) rfl ?_
             refine run_w (ws_buildSlice (id := 179) (ps := [(0, .tmp 178)]) rfl rfl (Nat.le_of_ble_eq_true rfl) rfl ⟨rfl, ?_⟩)
             obtain ⟨q238, h⟩ := h
             refine run_w (ws_app1 ci (l := o171_2) (m := [v25_2]) rfl rfl rfl rfl rfl (Nat.le_of_ble_eq_true rfl) q238 ⟨rfl, ?_⟩)
             refine run_s (ss_assign rfl) rfl ?_
             refine run_nil ?_
             refine aw_gh (gh_to (n := 233) (σ' := [(171, ⟨ints (o171_2 ++ ([v25_2])), []⟩), (165, ⟨orows o165_1, []⟩), (164, ⟨ints r11_0, []⟩), (800, ⟨[.lst (bys o11_0), ci o11_1, cu o11_2], []⟩)]) (env' := [(5, .c (ci (1 + r1_0))), (18, .c (ci r10_0)), (19, .c (.lst (rows (tab (if 1 < r10_0 then r10_0 else 1) (fun x_ y_ => ((2 % (if 1 < r10_0 then r10_0 else 1)) * x_ + ((if 1 < r10_0 then r10_0 else 1) - 1) * y_) % (if 1 < r10_0 then r10_0 else 1)))))), (20, .c (.lst (rows (tab ((1 + r1_0) - r10_0) (fun x_ y_ => ((0 : Int) * x_ + (1 % ((1 + r1_0) - r10_0)) * y_) % ((1 + r1_0) - r10_0)))))), (21, .ref 164), (22, .ref 165), (23, .c (ci v23_1)), (24, .ref 171), (25, .c (ci v25_2)), (186, .c (ci v25_2)), (187, .c (ci r10_0)), (188, .c (cb (decide (v25_2 < r10_0)))), (205, .c (ci v25_2)), (206, .c (ci r10_0)), (207, .c (cb (decide (r10_0 ≤ v25_2)))), (233, .cell 800 0), (234, .c (ci most))]) rfl rfl ⟨rfl, rfl, rfl, rfl, rfl, rfl, rfl, rfl, rfl, rfl, rfl, rfl, rfl, rfl, rfl, rfl, rfl, trivial⟩) ?_
             refine aw_region ?_
             refine run_s (ss_move rfl) rfl ?_
             obtain ⟨q239, h⟩ := h
             refine run_s (ss_add rfl rfl q239) rfl ?_
             refine run_s (ss_assign rfl) rfl ?_
             refine run_nil ?_
             exact ⟨v25_2 + 1, o171_2 ++ ([v25_2]), ghe_to (n := 233) rfl rfl ⟨rfl, rfl, rfl, rfl, rfl, rfl, rfl, rfl, rfl, rfl, rfl, trivial⟩, h.1, h.2⟩
           ·replace h := h.2 (of_decide_eq_false q228)
            refine run_gf rfl rfl q228 rfl ?_
            refine run_gf rfl rfl q228 rfl ?_
            refine run_gf rfl rfl q228 rfl ?_
            refine run_s (ss_pickF rfl q228 rfl) rfl ?_
            refine run_s (ss_assign rfl) rfl ?_
            refine run_nil ?_
            refine aw_cond rfl (fun q240 => ?_) (fun q240 => ?_)
            ·cases q240
            ·skip
             refine aw_gh (gh_to (n := 233) (σ' := [(171, ⟨ints o171_2, []⟩), (165, ⟨orows o165_1, []⟩), (164, ⟨ints r11_0, []⟩), (800, ⟨[.lst (bys o11_0), ci o11_1, cu o11_2], []⟩)]) (env' := [(5, .c (ci (1 + r1_0))), (18, .c (ci r10_0)), (19, .c (.lst (rows (tab (if 1 < r10_0 then r10_0 else 1) (fun x_ y_ => ((2 % (if 1 < r10_0 then r10_0 else 1)) * x_ + ((if 1 < r10_0 then r10_0 else 1) - 1) * y_) % (if 1 < r10_0 then r10_0 else 1)))))), (20, .c (.lst (rows (tab ((1 + r1_0) - r10_0) (fun x_ y_ => ((0 : Int) * x_ + (1 % ((1 + r1_0) - r10_0)) * y_) % ((1 + r1_0) - r10_0)))))), (21, .ref 164), (22, .ref 165), (23, .c (ci v23_1)), (24, .ref 171), (25, .c (ci v25_2)), (186, .c (ci v25_2)), (187, .c (ci r10_0)), (188, .c (cb (decide (v25_2 < r10_0)))), (233, .cell 800 0), (234, .c (ci most))]) rfl rfl ⟨rfl, rfl, rfl, rfl, rfl, rfl, rfl, rfl, rfl, rfl, rfl, rfl, rfl, rfl, trivial⟩) ?_
             refine aw_region ?_
             refine run_s (ss_move rfl) rfl ?_
             refine run_s (ss_move rfl) rfl ?_
             refine run_w (ws_buildSlice (id := 179) (ps := [(0, .tmp 178)]) rfl rfl (Nat.le_of_ble_eq_true rfl) rfl ⟨rfl, ?_⟩)
             obtain ⟨q241, h⟩ := h
             refine run_w (ws_app1 ci (l := o171_2) (m := [v25_2]) rfl rfl rfl rfl rfl (Nat.le_of_ble_eq_true rfl) q241 ⟨rfl, ?_⟩)
             refine run_s (ss_assign rfl) rfl ?_
             refine run_nil ?_
             refine aw_region ?_
             refine run_s (ss_move rfl) rfl ?_
             obtain ⟨q242, h⟩ := h
             refine run_s (ss_add rfl rfl q242) rfl ?_
             refine run_s (ss_assign rfl) rfl ?_
             refine run_nil ?_
             exact ⟨v25_2 + 1, o171_2 ++ ([v25_2]), ghe_to (n := 233) rfl rfl ⟨rfl, rfl, rfl, rfl, rfl, rfl, rfl, rfl, rfl, rfl, rfl, trivial⟩, h.1, h.2⟩
         ·replace h := h.2 (of_decide_eq_false q222)
          refine run_gf rfl rfl q222 rfl ?_
          refine run_gf rfl rfl q222 rfl ?_
          refine run_gf rfl rfl q222 rfl ?_
          refine run_s (ss_pickF rfl q222 rfl) rfl ?_
          refine run_s (ss_assign rfl) rfl ?_
          refine run_nil ?_
          refine aw_cond rfl (fun q243 => ?_) (fun q243 => ?_)
          ·cases q243
          ·skip
           refine aw_seq ?_
           refine aw_region ?_
           refine run_s (ss_move rfl) rfl ?_
           refine run_s (ss_move rfl) rfl ?_
           refine run_s (ss_geq rfl rfl) rfl ?_
           refine run_s (ss_move rfl) rfl ?_
           refine run_split (s := 204) rfl (fun q244 => ?_) (fun q244 => ?_)
           ·replace h := h.1 (of_decide_eq_true q244)
            refine run_gt rfl rfl q244 ?_
            refine run_s (ss_move rfl) rfl ?_
            refine run_gt rfl rfl q244 ?_
            refine run_s (ss_move rfl) rfl ?_
            refine run_gt rfl rfl q244 ?_
            refine run_s (ss_geq rfl rfl) rfl ?_
            refine run_s (ss_pickT rfl q244 rfl) rfl ?_
            refine run_s (ss_assign rfl) rfl ?_
            refine run_nil ?_
            refine aw_cond rfl (fun q245 => ?_) (fun q245 => ?_)
            ·replace h := h.1 (of_decide_eq_true q245)
             refine aw_region ?_
             refine run_s (ss_move rfl) rfl ?_
             refine run_s (ss_move rfl) rfl ?_
             refine run_s (ss_move rfl) rfl ?_
             refine run_s (ss_move rfl) rfl ?_
             refine run_s (ss_move rfl) rfl ?_
             refine run_s (ss_move rfl) rfl ?_
             obtain ⟨q246, h⟩ := h
             refine run_s (ss_sub rfl rfl q246) rfl ?_
             obtain ⟨q247, h⟩ := h
             refine run_s (ss_idxL rfl rfl q247) rfl ?_
             refine run_s (ss_loadL (f := (fun r => C.lst (ints r))) rfl q247) rfl ?_
             refine run_s (ss_move rfl) rfl ?_
             refine run_s (ss_move rfl) rfl ?_
             obtain ⟨q248, h⟩ := h
             refine run_s (ss_sub rfl rfl q248) rfl ?_
             obtain ⟨q249, h⟩ := h
             refine run_s (ss_idxL rfl rfl q249) rfl ?_
             refine run_s (ss_loadL (f := ci) rfl q249) rfl ?_
             obtain ⟨q250, h⟩ := h
             refine run_s (ss_idxR (f := ci) rfl rfl rfl q250) rfl ?_
             refine run_s (ss_loadR (f := ci) rfl rfl q250 rfl rfl) rfl ?_
             obtain ⟨q251, h⟩ := h
             refine run_s (ss_add rfl rfl q251) rfl ?_
             refine run_w (ws_buildSlice (id := 226) (ps := [(0, .tmp 225)]) rfl rfl (Nat.le_of_ble_eq_true rfl) rfl ⟨rfl, ?_⟩)
             obtain ⟨q252, h⟩ := h
             refine run_w (ws_app1 ci (l := o171_2) (m := [r10_0 + (el r11_0 (el (el (tab ((1 + r1_0) - r10_0) (fun x_ y_ => ((0 : Int) * x_ + (1 % ((1 + r1_0) - r10_0)) * y_) % ((1 + r1_0) - r10_0))) (v23_1 - r10_0)) (v25_2 - r10_0)))]) rfl rfl rfl rfl rfl (Nat.le_of_ble_eq_true rfl) q252 ⟨rfl, ?_⟩)
             refine run_s (ss_assign rfl) rfl ?_
             refine run_nil ?_
             refine aw_gh (gh_to (n := 233) (σ' := [(171, ⟨ints (o171_2 ++ ([r10_0 + (el r11_0 (el (el (tab ((1 + r1_0) - r10_0) (fun x_ y_ => ((0 : Int) * x_ + (1 % ((1 + r1_0) - r10_0)) * y_) % ((1 + r1_0) - r10_0))) (v23_1 - r10_0)) (v25_2 - r10_0)))])), []⟩), (165, ⟨orows o165_1, []⟩), (164, ⟨ints r11_0, []⟩), (800, ⟨[.lst (bys o11_0), ci o11_1, cu o11_2], []⟩)]) (env' := [(5, .c (ci (1 + r1_0))), (18, .c (ci r10_0)), (19, .c (.lst (rows (tab (if 1 < r10_0 then r10_0 else 1) (fun x_ y_ => ((2 % (if 1 < r10_0 then r10_0 else 1)) * x_ + ((if 1 < r10_0 then r10_0 else 1) - 1) * y_) % (if 1 < r10_0 then r10_0 else 1)))))), (20, .c (.lst (rows (tab ((1 + r1_0) - r10_0) (fun x_ y_ => ((0 : Int) * x_ + (1 % ((1 + r1_0) - r10_0)) * y_) % ((1 + r1_0) - r10_0)))))), (21, .ref 164), (22, .ref 165), (23, .c (ci v23_1)), (24, .ref 171), (25, .c (ci v25_2)), (205, .c (ci v25_2)), (206, .c (ci r10_0)), (207, .c (cb (decide (r10_0 ≤ v25_2)))), (233, .cell 800 0), (234, .c (ci most))]) rfl rfl ⟨rfl, rfl, rfl, rfl, rfl, rfl, rfl, rfl, rfl, rfl, rfl, rfl, rfl, rfl, trivial⟩) ?_
             refine aw_region ?_
             refine run_s (ss_move rfl) rfl ?_
             obtain ⟨q253, h⟩ := h
             refine run_s (ss_add rfl rfl q253) rfl ?_
             refine run_s (ss_assign rfl) rfl ?_
             refine run_nil ?_
             exact ⟨v25_2 + 1, o171_2 ++ ([r10_0 + (el r11_0 (el (el (tab ((1 + r1_0) - r10_0) (fun x_ y_ => ((0 : Int) * x_ + (1 % ((1 + r1_0) - r10_0)) * y_) % ((1 + r1_0) - r10_0))) (v23_1 - r10_0)) (v25_2 - r10_0)))]), ghe_to (n := 233) rfl rfl ⟨rfl, rfl, rfl, rfl, rfl, rfl, rfl, rfl, rfl, rfl, rfl, trivial⟩, h.1, h.2⟩
            ·replace h := h.2 (of_decide_eq_false q245)
             refine aw_gh (gh_to (n := 233) (σ' := [(171, ⟨ints o171_2, []⟩), (165, ⟨orows o165_1, []⟩), (164, ⟨ints r11_0, []⟩), (800, ⟨[.lst (bys o11_0), ci o11_1, cu o11_2], []⟩)]) (env' := [(5, .c (ci (1 + r1_0))), (18, .c (ci r10_0)), (19, .c (.lst (rows (tab (if 1 < r10_0 then r10_0 else 1) (fun x_ y_ => ((2 % (if 1 < r10_0 then r10_0 else 1)) * x_ + ((if 1 < r10_0 then r10_0 else 1) - 1) * y_) % (if 1 < r10_0 then r10_0 else 1)))))), (20, .c (.lst (rows (tab ((1 + r1_0) - r10_0) (fun x_ y_ => ((0 : Int) * x_ + (1 % ((1 + r1_0) - r10_0)) * y_) % ((1 + r1_0) - r10_0)))))), (21, .ref 164), (22, .ref 165), (23, .c (ci v23_1)), (24, .ref 171), (25, .c (ci v25_2)), (205, .c (ci v25_2)), (206, .c (ci r10_0)), (207, .c (cb (decide (r10_0 ≤ v25_2)))), (233, .cell 800 0), (234, .c (ci most))]) rfl rfl ⟨rfl, rfl, rfl, rfl, rfl, rfl, rfl, rfl, rfl, rfl, rfl, rfl, rfl, rfl, trivial⟩) ?_
             refine aw_region ?_
             refine run_s (ss_move rfl) rfl ?_
             refine run_s (ss_move rfl) rfl ?_
             refine run_w (ws_buildSlice (id := 179) (ps := [(0, .tmp 178)]) rfl rfl (Nat.le_of_ble_eq_true rfl) rfl ⟨rfl, ?_⟩)
             obtain ⟨q254, h⟩ := h
             refine run_w (ws_app1 ci (l := o171_2) (m := [v25_2]) rfl rfl rfl rfl rfl (Nat.le_of_ble_eq_true rfl) q254 ⟨rfl, ?_⟩)
             refine run_s (ss_assign rfl) rfl ?_
             refine run_nil ?_
             refine aw_region ?_
             refine run_s (ss_move rfl) rfl ?_
             obtain ⟨q255, h⟩ := h
             refine run_s (ss_add rfl rfl q255) rfl ?_
             refine run_s (ss_assign rfl) rfl ?_
             refine run_nil ?_
             exact ⟨v25_2 + 1, o171_2 ++ ([v25_2]), ghe_to (n := 233) rfl rfl ⟨rfl, rfl, rfl, rfl, rfl, rfl, rfl, rfl, rfl, rfl, rfl, trivial⟩, h.1, h.2⟩
           ·replace h := h.2 (of_decide_eq_false q244)
            refine run_gf rfl rfl q244 rfl ?_
            refine run_gf rfl rfl q244 rfl ?_
            refine run_gf rfl rfl q244 rfl ?_
            refine run_s (ss_pickF rfl q244 rfl) rfl ?_
            refine run_s (ss_assign rfl) rfl ?_
            refine run_nil ?_
            refine aw_cond rfl (fun q256 => ?_) (fun q256 => ?_)
            ·cases q256
            ·skip
             refine aw_gh (gh_to (n := 233) (σ' := [(171, ⟨ints o171_2, []⟩), (165, ⟨orows o165_1, []⟩), (164, ⟨ints r11_0, []⟩), (800, ⟨[.lst (bys o11_0), ci o11_1, cu o11_2], []⟩)]) (env' := [(5, .c (ci (1 + r1_0))), (18, .c (ci r10_0)), (19, .c (.lst (rows (tab (if 1 < r10_0 then r10_0 else 1) (fun x_ y_ => ((2 % (if 1 < r10_0 then r10_0 else 1)) * x_ + ((if 1 < r10_0 then r10_0 else 1) - 1) * y_) % (if 1 < r10_0 then r10_0 else 1)))))), (20, .c (.lst (rows (tab ((1 + r1_0) - r10_0) (fun x_ y_ => ((0 : Int) * x_ + (1 % ((1 + r1_0) - r10_0)) * y_) % ((1 + r1_0) - r10_0)))))), (21, .ref 164), (22, .ref 165), (23, .c (ci v23_1)), (24, .ref 171), (25, .c (ci v25_2)), (233, .cell 800 0), (234, .c (ci most))]) rfl rfl ⟨rfl, rfl, rfl, rfl, rfl, rfl, rfl, rfl, rfl, rfl, rfl, trivial⟩) ?_
             refine aw_region ?_
             refine run_s (ss_move rfl) rfl ?_
             refine run_s (ss_move rfl) rfl ?_
             refine run_w (ws_buildSlice (id := 179) (ps := [(0, .tmp 178)]) rfl rfl (Nat.le_of_ble_eq_true rfl) rfl ⟨rfl, ?_⟩)
             obtain ⟨q257, h⟩ := h
             refine run_w (ws_app1 ci (l := o171_2) (m := [v25_2]) rfl rfl rfl rfl rfl (Nat.le_of_ble_eq_true rfl) q257 ⟨rfl, ?_⟩)
             refine run_s (ss_assign rfl) rfl ?_
             refine run_nil ?_
             refine aw_region ?_
             refine run_s (ss_move rfl) rfl ?_
             obtain ⟨q258, h⟩ := h
             refine run_s (ss_add rfl rfl q258) rfl ?_
             refine run_s (ss_assign rfl) rfl ?_
             refine run_nil ?_
             exact ⟨v25_2 + 1, o171_2 ++ ([v25_2]), ghe_to (n := 233) rfl rfl ⟨rfl, rfl, rfl, rfl, rfl, rfl, rfl, rfl, rfl, rfl, rfl, trivial⟩, h.1, h.2⟩
        ·replace h := h.2 (of_decide_eq_false q221)
         refine aw_exit ?_
         refine aw_region ?_
         refine run_s (ss_move rfl) rfl ?_
         refine run_s (ss_move rfl) rfl ?_
         refine run_w (ws_buildSlice (id := 230) (ps := [(0, .tmp 229)]) rfl rfl (Nat.le_of_ble_eq_true rfl) rfl ⟨rfl, ?_⟩)
         refine run_gh (gh_fill (id := 230) (id2 := 171) (j := 0) rfl rfl (Nat.le_of_ble_eq_true rfl) rfl rfl rfl) ?_
         obtain ⟨q259, h⟩ := h
         refine run_w (ws_app1 (fun r => C.own (ints r)) (l := o165_1) (m := [o171_2]) rfl rfl rfl rfl rfl (Nat.le_of_ble_eq_true rfl) q259 ⟨rfl, ?_⟩)
         refine run_s (ss_assign rfl) rfl ?_
         refine run_nil ?_
         refine aw_gh (gh_to (n := 233) (σ' := [(165, ⟨orows (o165_1 ++ ([o171_2])), []⟩), (164, ⟨ints r11_0, []⟩), (800, ⟨[.lst (bys o11_0), ci o11_1, cu o11_2], []⟩)]) (env' := [(5, .c (ci (1 + r1_0))), (18, .c (ci r10_0)), (19, .c (.lst (rows (tab (if 1 < r10_0 then r10_0 else 1) (fun x_ y_ => ((2 % (if 1 < r10_0 then r10_0 else 1)) * x_ + ((if 1 < r10_0 then r10_0 else 1) - 1) * y_) % (if 1 < r10_0 then r10_0 else 1)))))), (20, .c (.lst (rows (tab ((1 + r1_0) - r10_0) (fun x_ y_ => ((0 : Int) * x_ + (1 % ((1 + r1_0) - r10_0)) * y_) % ((1 + r1_0) - r10_0)))))), (21, .ref 164), (22, .ref 165), (23, .c (ci v23_1)), (233, .cell 800 0), (234, .c (ci most))]) rfl rfl ⟨rfl, rfl, rfl, rfl, rfl, rfl, rfl, rfl, rfl, trivial⟩) ?_
         refine aw_region ?_
         refine run_s (ss_move rfl) rfl ?_
         obtain ⟨q260, h⟩ := h
         refine run_s (ss_add rfl rfl q260) rfl ?_
         refine run_s (ss_assign rfl) rfl ?_
         refine run_nil ?_
         exact ⟨v23_1 + 1, o165_1 ++ ([o171_2]), ghe_to (n := 233) rfl rfl ⟨rfl, rfl, rfl, rfl, rfl, rfl, rfl, rfl, rfl, trivial⟩, h.1, h.2⟩
       ·replace h := h.2 (of_decide_eq_false q219)
        refine aw_exit ?_
        refine aw_seq ?_
        refine aw_gh (gh_to (n := 233) (σ' := [(165, ⟨orows o165_1, []⟩), (164, ⟨ints r11_0, []⟩), (800, ⟨[.lst (bys o11_0), ci o11_1, cu o11_2], []⟩)]) (env' := [(22, .ref 165), (233, .cell 800 0), (234, .c (ci most))]) rfl rfl ⟨rfl, rfl, rfl, trivial⟩) ?_
        refine aw_region ?_
        refine run_s (ss_move rfl) rfl ?_
        refine run_s (ss_assign rfl) rfl ?_
        refine run_nil ?_
        refine aw_ret ?_
        exact retAM_mk (retv1 rfl (rv_tmp rfl)) rfl rfl rfl ⟨_, _, _, _, h, rfl, rfl⟩

theorem c_spec_l03DrawTable (s1 : List Int) (s2 : Int) (s3 : Int) (most : Int) (hp : okS s1 s2 s3 ∧ 1 ≤ most ∧ most ≤ 12) : AM Try.prog 39 [.obox [.lst (bys s1), ci s2, cu s3], ci most] (fun R_ O_ => ∃ y0 w0 w1 w2, ((isTab y0 = true ∧ (y0.length : Int) ≤ most) ∧ w0 = s1 ∧ okS s1 w1 w2) ∧ R_ = .own (orows y0) ∧ O_ = [.obox [.lst (bys w0), ci w1, cu w2], ci most]) :=
  w_spec_l03DrawTable s1 s2 s3 most (fun y0 w0 w1 w2 => (isTab y0 = true ∧ (y0.length : Int) ≤ most) ∧ w0 = s1 ∧ okS s1 w1 w2) (p_spec_l03DrawTable s1 s2 s3 most hp)

end Go.Proofs.Ytjolbldlhjfciaa

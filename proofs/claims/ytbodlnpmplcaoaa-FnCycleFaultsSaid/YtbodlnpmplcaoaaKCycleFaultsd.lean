/- Contracts of functions that the law FnCycleFaults reaches: conditions, plain proofs, walks; no condition. -/
import Derived.Test.YtbodlnpmplcaoaaKCycleFaultsc
import Derived.Test.YtbodlnpmplcaoaaPq
namespace Go.Proofs.Ytbodlnpmplcaoaa

def wp_spec_l01Pick (s1 : List Int) (s2 : Int) (s3 : Int) (list : List Int) (Q : Int → List Int → Int → Int → List Int → Prop) : Prop :=
 (okS s1 s2 s3 ∧ InI (list.length : Int)) ∧
 ∀ (r1_0 : Int) (o1_0 : List Int) (o1_1 : Int) (o1_2 : Int), (nxP (list.length : Int) r1_0 ∧ o1_0 = s1 ∧ okS s1 o1_1 o1_2) →
 (0 ≤ r1_0 ∧ r1_0 < (list.length : Int)) ∧
 Q (el list r1_0) o1_0 o1_1 o1_2 list

def wp_spec_l01Draw (s1 : List Int) (s2 : Int) (s3 : Int) (n : Int) (Q : List Int → List Int → Int → Int → Prop) : Prop :=
 (0 ≤ n ∧ n ≤ 1000000) ∧
 (InI (n - 1)) ∧
 ∃ (H1 : Int → List Int → List Int → Int → Int → Prop) (m1 : Int → List Int → List Int → Int → Int → Nat),
 H1 (n - 1) (unitI n) s1 s2 s3 ∧
 ∀ (v6_1 : Int) (o10_1 : List Int) (f800_0_1 : List Int) (f800_1_1 : Int) (f800_2_1 : Int), H1 v6_1 o10_1 f800_0_1 f800_1_1 f800_2_1 →
 ( ((0 < v6_1 →
 (InI (v6_1 + 1)) ∧
 (okS f800_0_1 f800_1_1 f800_2_1 ∧ InI (v6_1 + 1)) ∧
 ∀ (r1_0 : Int) (o1_0 : List Int) (o1_1 : Int) (o1_2 : Int), (nxP (v6_1 + 1) r1_0 ∧ o1_0 = f800_0_1 ∧ okS f800_0_1 o1_1 o1_2) →
 (0 ≤ v6_1 ∧ v6_1 < (o10_1.length : Int)) ∧
 (0 ≤ r1_0 ∧ r1_0 < (o10_1.length : Int)) ∧
 (0 ≤ v6_1 ∧ v6_1 < (o10_1.length : Int)) ∧
 (0 ≤ r1_0 ∧ r1_0 < ((se o10_1 v6_1 (el o10_1 r1_0)).length : Int)) ∧
 (InI (v6_1 - 1)) ∧
 (H1 (v6_1 - 1) (se (se o10_1 v6_1 (el o10_1 r1_0)) r1_0 (el o10_1 v6_1)) o1_0 o1_1 o1_2 ∧ m1 (v6_1 - 1) (se (se o10_1 v6_1 (el o10_1 r1_0)) r1_0 (el o10_1 v6_1)) o1_0 o1_1 o1_2 < m1 v6_1 o10_1 f800_0_1 f800_1_1 f800_2_1)) ∧
 (¬ (0 < v6_1) →
 Q o10_1 f800_0_1 f800_1_1 f800_2_1)))

def wp_spec_l01Tables (s1 : List Int) (s2 : Int) (s3 : Int) (n : Int) (Q : List (List Int) → List Int → Int → Int → Prop) : Prop :=
 (okS s1 s2 s3 ∧ InI (3 : Int)) ∧
 ∀ (r1_0 : Int) (o1_0 : List Int) (o1_1 : Int) (o1_2 : Int), (nxP (3 : Int) r1_0 ∧ o1_0 = s1 ∧ okS s1 o1_1 o1_2) →
 (okS o1_0 o1_1 o1_2 ∧ 0 ≤ n ∧ n ≤ 1000) ∧
 ∀ (r2_0 : List Int) (o2_0 : List Int) (o2_1 : Int) (o2_2 : Int), (((r2_0.length : Int) = n ∧ isPerm r2_0 = true) ∧ o2_0 = o1_0 ∧ okS o1_0 o2_1 o2_2) →
 ∃ (H1 : Int → List (List Int) → List Int → Int → Int → Prop) (m1 : Int → List (List Int) → List Int → Int → Int → Nat),
 H1 0 ([] : List (List Int)) o2_0 o2_1 o2_2 ∧
 ∀ (v8_1 : Int) (o12_1 : List (List Int)) (f800_0_1 : List Int) (f800_1_1 : Int) (f800_2_1 : Int), H1 v8_1 o12_1 f800_0_1 f800_1_1 f800_2_1 →
 ( ((v8_1 < n →
 (okS f800_0_1 f800_1_1 f800_2_1 ∧ 0 ≤ n ∧ n ≤ 1000) ∧
 ∀ (r3_0 : List Int) (o3_0 : List Int) (o3_1 : Int) (o3_2 : Int), (((r3_0.length : Int) = n ∧ isPerm r3_0 = true) ∧ o3_0 = f800_0_1 ∧ okS f800_0_1 o3_1 o3_2) →
 ((r1_0 = 0 →
 ∃ (H2 : Int → List Int → List Int → Int → Int → Prop) (m2 : Int → List Int → List Int → Int → Int → Nat),
 H2 0 r3_0 o3_0 o3_1 o3_2 ∧
 ∀ (v10_2 : Int) (o25_2 : List Int) (f800_0_2 : List Int) (f800_1_2 : Int) (f800_2_2 : Int), H2 v10_2 o25_2 f800_0_2 f800_1_2 f800_2_2 →
 ( ((v10_2 < n →
 (okS f800_0_2 f800_1_2 f800_2_2 ∧ InI n) ∧
 ∀ (r4_0 : Int) (o4_0 : List Int) (o4_1 : Int) (o4_2 : Int), (nxP n r4_0 ∧ o4_0 = f800_0_2 ∧ okS f800_0_2 o4_1 o4_2) →
 (0 ≤ v10_2 ∧ v10_2 < (o25_2.length : Int)) ∧
 (InI (v10_2 + 1)) ∧
 (H2 (v10_2 + 1) (se o25_2 v10_2 r4_0) o4_0 o4_1 o4_2 ∧ m2 (v10_2 + 1) (se o25_2 v10_2 r4_0) o4_0 o4_1 o4_2 < m2 v10_2 o25_2 f800_0_2 f800_1_2 f800_2_2)) ∧
 (¬ (v10_2 < n) →
 ((o12_1.length : Int) + (([o25_2]).length : Int) ≤ 1000000000) ∧
 (InI (v8_1 + 1)) ∧
 (H1 (v8_1 + 1) (o12_1 ++ ([o25_2])) f800_0_2 f800_1_2 f800_2_2 ∧ m1 (v8_1 + 1) (o12_1 ++ ([o25_2])) f800_0_2 f800_1_2 f800_2_2 < m1 v8_1 o12_1 f800_0_1 f800_1_1 f800_2_1))))) ∧
 (¬ (r1_0 = 0) →
 ((r1_0 = 1 →
 ∃ (H3 : Int → List Int → Prop) (m3 : Int → List Int → Nat),
 H3 0 r3_0 ∧
 ∀ (v11_2 : Int) (o25_2 : List Int), H3 v11_2 o25_2 →
 ( ((v11_2 < n →
 (InI (v8_1 + v11_2)) ∧
 ((0 : Int) ≤ v8_1 + v11_2 ∧ (0 : Int) < n) ∧
 (0 ≤ (v8_1 + v11_2) % n ∧ (v8_1 + v11_2) % n < (r2_0.length : Int)) ∧
 (0 ≤ v11_2 ∧ v11_2 < (o25_2.length : Int)) ∧
 (InI (v11_2 + 1)) ∧
 (H3 (v11_2 + 1) (se o25_2 v11_2 (el r2_0 ((v8_1 + v11_2) % n))) ∧ m3 (v11_2 + 1) (se o25_2 v11_2 (el r2_0 ((v8_1 + v11_2) % n))) < m3 v11_2 o25_2)) ∧
 (¬ (v11_2 < n) →
 ((o12_1.length : Int) + (([o25_2]).length : Int) ≤ 1000000000) ∧
 (InI (v8_1 + 1)) ∧
 (H1 (v8_1 + 1) (o12_1 ++ ([o25_2])) o3_0 o3_1 o3_2 ∧ m1 (v8_1 + 1) (o12_1 ++ ([o25_2])) o3_0 o3_1 o3_2 < m1 v8_1 o12_1 f800_0_1 f800_1_1 f800_2_1))))) ∧
 (¬ (r1_0 = 1) →
 ((o12_1.length : Int) + (([r3_0]).length : Int) ≤ 1000000000) ∧
 (InI (v8_1 + 1)) ∧
 (H1 (v8_1 + 1) (o12_1 ++ ([r3_0])) o3_0 o3_1 o3_2 ∧ m1 (v8_1 + 1) (o12_1 ++ ([r3_0])) o3_0 o3_1 o3_2 < m1 v8_1 o12_1 f800_0_1 f800_1_1 f800_2_1)))))) ∧
 (¬ (v8_1 < n) →
 Q o12_1 f800_0_1 f800_1_1 f800_2_1)))

def wp_spec_l01Bad (s1 : List Int) (s2 : Int) (s3 : Int) (n : Int) (Q : List (List Int) → List Int → Int → Int → Prop) : Prop :=
 (okS s1 s2 s3 ∧ 1 ≤ n ∧ n ≤ 13) ∧
 ∀ (r1_0 : List (List Int)) (o1_0 : List Int) (o1_1 : Int) (o1_2 : Int), ((rowsN n r1_0) ∧ o1_0 = s1 ∧ okS s1 o1_1 o1_2) →
 (okS o1_0 o1_1 o1_2 ∧ InI (30 : Int)) ∧
 ∀ (r2_0 : Int) (o2_0 : List Int) (o2_1 : Int) (o2_2 : Int), (nxP (30 : Int) r2_0 ∧ o2_0 = o1_0 ∧ okS o1_0 o2_1 o2_2) →
 ((r2_0 = 0 →
 (0 ≤ n ∧ n ≤ 1000000) ∧
 ((r1_0.length : Int) + (([unitI n]).length : Int) ≤ 1000000000) ∧
 Q (r1_0 ++ ([unitI n])) o2_0 o2_1 o2_2) ∧
 (¬ (r2_0 = 0) →
 ((r2_0 = 1 →
 ((0 : Int) ≤ 0 ∧ 0 < (r1_0.length : Int)) ∧
 (((el r1_0 0).length : Int) + (([0]).length : Int) ≤ 1000000000) ∧
 ((0 : Int) ≤ 0 ∧ 0 < (r1_0.length : Int)) ∧
 Q (se r1_0 0 ((el r1_0 0) ++ ([0]))) o2_0 o2_1 o2_2) ∧
 (¬ (r2_0 = 1) →
 ((r2_0 = 2 →
 ((0 : Int) ≤ 0 ∧ 0 < (r1_0.length : Int)) ∧
 (okS o2_0 o2_1 o2_2 ∧ 1 ≤ (([(-1), n, 1099511627776]).length : Int) ∧ small ([(-1), n, 1099511627776])) ∧
 ∀ (r3_0 : Int) (o3_0 : List Int) (o3_1 : Int) (o3_2 : Int) (o3_3 : List Int), ((r3_0 ∈ ([(-1), n, 1099511627776])) ∧ o3_0 = o2_0 ∧ okS o2_0 o3_1 o3_2 ∧ o3_3 = ([(-1), n, 1099511627776])) →
 ((0 : Int) ≤ 0 ∧ 0 < ((el r1_0 0).length : Int)) ∧
 Q (se r1_0 0 (se (el r1_0 0) 0 r3_0)) o3_0 o3_1 o3_2) ∧
 (¬ (r2_0 = 2) →
 ((r2_0 = 3 →
 Q ([] : List (List Int)) o2_0 o2_1 o2_2) ∧
 (¬ (r2_0 = 3) →
 ((r2_0 = 4 →
 (okS o2_0 o2_1 o2_2 ∧ 1 ≤ (13 : Int) ∧ (13 : Int) ≤ 13) ∧
 ∀ (r4_0 : List (List Int)) (o4_0 : List Int) (o4_1 : Int) (o4_2 : Int), ((rowsN (13 : Int) r4_0) ∧ o4_0 = o2_0 ∧ okS o2_0 o4_1 o4_2) →
 Q r4_0 o4_0 o4_1 o4_2) ∧
 (¬ (r2_0 = 4) →
 Q r1_0 o2_0 o2_1 o2_2))))))))))

def wp_spec_l01Rename (t : List (List Int)) (p : List Int) (Q : List (List Int) → Prop) : Prop :=
 ∃ (H1 : Int → List (List Int) → Prop) (m1 : Int → List (List Int) → Nat),
 H1 0 ([] : List (List Int)) ∧
 ∀ (v6_1 : Int) (o10_1 : List (List Int)), H1 v6_1 o10_1 →
 ( ((v6_1 < (t.length : Int) →
 (0 ≤ (t.length : Int) ∧ (t.length : Int) ≤ 1000000000) ∧
 ((o10_1.length : Int) + (([List.replicate (t.length : Int).toNat (0 : Int)]).length : Int) ≤ 1000000000) ∧
 (InI (v6_1 + 1)) ∧
 (H1 (v6_1 + 1) (o10_1 ++ ([List.replicate (t.length : Int).toNat (0 : Int)])) ∧ m1 (v6_1 + 1) (o10_1 ++ ([List.replicate (t.length : Int).toNat (0 : Int)])) < m1 v6_1 o10_1)) ∧
 (¬ (v6_1 < (t.length : Int)) →
 ∃ (H2 : Int → List (List Int) → Prop) (m2 : Int → List (List Int) → Nat),
 H2 0 o10_1 ∧
 ∀ (v7_2 : Int) (o10_2 : List (List Int)), H2 v7_2 o10_2 →
 ( ((v7_2 < (t.length : Int) →
 (0 ≤ v7_2 ∧ v7_2 < (p.length : Int)) ∧
 (0 ≤ el p v7_2 ∧ el p v7_2 < (o10_2.length : Int)) ∧
 ∃ (H3 : Int → List Int → Prop) (m3 : Int → List Int → Nat),
 H3 0 (el o10_2 (el p v7_2)) ∧
 ∀ (v9_3 : Int) (o1001_3 : List Int), H3 v9_3 o1001_3 →
 ( ((v9_3 < (t.length : Int) →
 (0 ≤ v9_3 ∧ v9_3 < (p.length : Int)) ∧
 (0 ≤ v7_2 ∧ v7_2 < (t.length : Int)) ∧
 (0 ≤ v9_3 ∧ v9_3 < ((el t v7_2).length : Int)) ∧
 (0 ≤ el (el t v7_2) v9_3 ∧ el (el t v7_2) v9_3 < (p.length : Int)) ∧
 (0 ≤ el p v9_3 ∧ el p v9_3 < (o1001_3.length : Int)) ∧
 (InI (v9_3 + 1)) ∧
 (H3 (v9_3 + 1) (se o1001_3 (el p v9_3) (el p (el (el t v7_2) v9_3))) ∧ m3 (v9_3 + 1) (se o1001_3 (el p v9_3) (el p (el (el t v7_2) v9_3))) < m3 v9_3 o1001_3)) ∧
 (¬ (v9_3 < (t.length : Int)) →
 (InI (v7_2 + 1)) ∧
 (0 ≤ el p v7_2 ∧ el p v7_2 < (o10_2.length : Int)) ∧
 (H2 (v7_2 + 1) (se o10_2 (el p v7_2) o1001_3) ∧ m2 (v7_2 + 1) (se o10_2 (el p v7_2) o1001_3) < m2 v7_2 o10_2))))) ∧
 (¬ (v7_2 < (t.length : Int)) →
 Q o10_2))))))

def wp_spec_l02Twist (p : List Int) (q : List Int) (Q : List (List Int) → List (List Int) → Prop) : Prop :=
 ∃ (H1 : Int → List (List Int) → List (List Int) → Prop) (m1 : Int → List (List Int) → List (List Int) → Nat),
 H1 0 ([] : List (List Int)) ([] : List (List Int)) ∧
 ∀ (v6_1 : Int) (o200080_1 : List (List Int)) (o200081_1 : List (List Int)), H1 v6_1 o200080_1 o200081_1 →
 ( ((v6_1 < (p.length : Int) →
 ∃ (H2 : Int → List Int → Prop) (m2 : Int → List Int → Nat),
 H2 0 ([] : List Int) ∧
 ∀ (v8_2 : Int) (o16_2 : List Int), H2 v8_2 o16_2 →
 ( ((v8_2 < (p.length : Int) →
 (0 ≤ v6_1 ∧ v6_1 < (q.length : Int)) ∧
 ((o16_2.length : Int) + (([el q v6_1]).length : Int) ≤ 1000000000) ∧
 (InI (v8_2 + 1)) ∧
 (H2 (v8_2 + 1) (o16_2 ++ ([el q v6_1])) ∧ m2 (v8_2 + 1) (o16_2 ++ ([el q v6_1])) < m2 v8_2 o16_2)) ∧
 (¬ (v8_2 < (p.length : Int)) →
 (small p) ∧
 ((o200080_1.length : Int) + (([p]).length : Int) ≤ 1000000000) ∧
 ((o200081_1.length : Int) + (([o16_2]).length : Int) ≤ 1000000000) ∧
 (InI (v6_1 + 1)) ∧
 (H1 (v6_1 + 1) (o200080_1 ++ ([p])) (o200081_1 ++ ([o16_2])) ∧ m1 (v6_1 + 1) (o200080_1 ++ ([p])) (o200081_1 ++ ([o16_2])) < m1 v6_1 o200080_1 o200081_1))))) ∧
 (¬ (v6_1 < (p.length : Int)) →
 Q o200080_1 o200081_1)))

def wp_spec_l02Flip (n : Int) (Q : List (List Int) → List (List Int) → Prop) : Prop :=
 (0 ≤ n ∧ n ≤ 1000000) ∧
 (((unitI n).length : Int) ≤ 1000000 ∧ (unitI n).length = (unitI n).length) ∧
 Q (tab ((unitI n).length : Int) (fun _ y_ => el (unitI n) y_)) (tab ((unitI n).length : Int) (fun x_ _ => el (unitI n) x_))

def wp_spec_l02Twisted (s1 : List Int) (s2 : Int) (s3 : Int) (n : Int) (Q : List (List Int) → List (List Int) → List Int → Int → Int → Prop) : Prop :=
 (okS s1 s2 s3 ∧ 0 ≤ n ∧ n ≤ 1000) ∧
 ∀ (r1_0 : List Int) (o1_0 : List Int) (o1_1 : Int) (o1_2 : Int), (((r1_0.length : Int) = n ∧ isPerm r1_0 = true) ∧ o1_0 = s1 ∧ okS s1 o1_1 o1_2) →
 (0 ≤ n ∧ n ≤ 1000000) ∧
 (okS o1_0 o1_1 o1_2 ∧ InI (4 : Int)) ∧
 ∀ (r2_0 : Int) (o2_0 : List Int) (o2_1 : Int) (o2_2 : Int), (nxP (4 : Int) r2_0 ∧ o2_0 = o1_0 ∧ okS o1_0 o2_1 o2_2) →
 ∃ (H1 : List Int → Int → Prop) (m1 : List Int → Int → Nat),
 H1 (unitI n) r2_0 ∧
 ∀ (v6_1 : List Int) (v7_1 : Int), H1 v6_1 v7_1 →
 ( ((0 < v7_1 →
 (small v6_1 ∧ ∀ x_ ∈ v6_1, 0 ≤ x_ ∧ x_ < (r1_0.length : Int)) ∧
 (InI (v7_1 - 1)) ∧
 (H1 (v6_1.map (el r1_0)) (v7_1 - 1) ∧ m1 (v6_1.map (el r1_0)) (v7_1 - 1) < m1 v6_1 v7_1)) ∧
 (¬ (0 < v7_1) →
 (okS o2_0 o2_1 o2_2 ∧ InI (2 : Int)) ∧
 ∀ (r3_0 : Int) (o3_0 : List Int) (o3_1 : Int) (o3_2 : Int), (nxP (2 : Int) r3_0 ∧ o3_0 = o2_0 ∧ okS o2_0 o3_1 o3_2) →
 ((r3_0 = 0 →
 ((r1_0.length : Int) ≤ 1000000 ∧ v6_1.length = r1_0.length) ∧
 Q (tab (r1_0.length : Int) (fun _ y_ => el r1_0 y_)) (tab (r1_0.length : Int) (fun x_ _ => el v6_1 x_)) o3_0 o3_1 o3_2) ∧
 (¬ (r3_0 = 0) →
 ((v6_1.length : Int) ≤ 1000000 ∧ r1_0.length = v6_1.length) ∧
 Q (tab (v6_1.length : Int) (fun _ y_ => el v6_1 y_)) (tab (v6_1.length : Int) (fun x_ _ => el r1_0 x_)) o3_0 o3_1 o3_2)))))

def wp_spec_l02Polygon (n : Int) (Q : List (List Int) → List (List Int) → Prop) : Prop :=
 ∃ (H1 : Int → List (List Int) → List (List Int) → Prop) (m1 : Int → List (List Int) → List (List Int) → Nat),
 H1 0 ([] : List (List Int)) ([] : List (List Int)) ∧
 ∀ (v4_1 : Int) (o200048_1 : List (List Int)) (o200049_1 : List (List Int)), H1 v4_1 o200048_1 o200049_1 →
 ( ((v4_1 < n →
 ∃ (H2 : Int → List Int → List Int → Prop) (m2 : Int → List Int → List Int → Nat),
 H2 0 ([] : List Int) ([] : List Int) ∧
 ∀ (v7_2 : Int) (o14_2 : List Int) (o15_2 : List Int), H2 v7_2 o14_2 o15_2 →
 ( ((v7_2 < n →
 (InI (2 * v4_1)) ∧
 (InI ((2 * v4_1) - v7_2)) ∧
 (InI (((2 * v4_1) - v7_2) + n)) ∧
 ((0 : Int) ≤ ((2 * v4_1) - v7_2) + n ∧ (0 : Int) < n) ∧
 ((o14_2.length : Int) + (([(((2 * v4_1) - v7_2) + n) % n]).length : Int) ≤ 1000000000) ∧
 ((o15_2.length : Int) + (([v4_1]).length : Int) ≤ 1000000000) ∧
 (InI (v7_2 + 1)) ∧
 (H2 (v7_2 + 1) (o14_2 ++ ([(((2 * v4_1) - v7_2) + n) % n])) (o15_2 ++ ([v4_1])) ∧ m2 (v7_2 + 1) (o14_2 ++ ([(((2 * v4_1) - v7_2) + n) % n])) (o15_2 ++ ([v4_1])) < m2 v7_2 o14_2 o15_2)) ∧
 (¬ (v7_2 < n) →
 ((o200048_1.length : Int) + (([o14_2]).length : Int) ≤ 1000000000) ∧
 ((o200049_1.length : Int) + (([o15_2]).length : Int) ≤ 1000000000) ∧
 (InI (v4_1 + 1)) ∧
 (H1 (v4_1 + 1) (o200048_1 ++ ([o14_2])) (o200049_1 ++ ([o15_2])) ∧ m1 (v4_1 + 1) (o200048_1 ++ ([o14_2])) (o200049_1 ++ ([o15_2])) < m1 v4_1 o200048_1 o200049_1))))) ∧
 (¬ (v4_1 < n) →
 Q o200048_1 o200049_1)))

def wp_spec_l02Product (s1 : List (List Int)) (s2 : List (List Int)) (t1 : List (List Int)) (t2 : List (List Int)) (Q : List (List Int) → List (List Int) → Prop) : Prop :=
 ∃ (H1 : Int → List (List Int) → List (List Int) → Prop) (m1 : Int → List (List Int) → List (List Int) → Nat),
 H1 0 ([] : List (List Int)) ([] : List (List Int)) ∧
 ∀ (v8_1 : Int) (o200112_1 : List (List Int)) (o200113_1 : List (List Int)), H1 v8_1 o200112_1 o200113_1 →
 ( (InI ((s1.length : Int) * (t1.length : Int))) ∧
 ((v8_1 < (s1.length : Int) * (t1.length : Int) →
 ∃ (H2 : Int → List Int → List Int → Prop) (m2 : Int → List Int → List Int → Nat),
 H2 0 ([] : List Int) ([] : List Int) ∧
 ∀ (v11_2 : Int) (o26_2 : List Int) (o27_2 : List Int), H2 v11_2 o26_2 o27_2 →
 ( (InI ((s1.length : Int) * (t1.length : Int))) ∧
 ((v11_2 < (s1.length : Int) * (t1.length : Int) →
 ((0 : Int) ≤ v8_1 ∧ (0 : Int) < (t1.length : Int) ∧ v8_1 ≤ 9223372036854775807) ∧
 ((0 : Int) ≤ v11_2 ∧ (0 : Int) < (t1.length : Int) ∧ v11_2 ≤ 9223372036854775807) ∧
 ((0 : Int) ≤ v8_1 ∧ (0 : Int) < (t1.length : Int)) ∧
 ((0 : Int) ≤ v11_2 ∧ (0 : Int) < (t1.length : Int)) ∧
 (0 ≤ v8_1 / (t1.length : Int) ∧ v8_1 / (t1.length : Int) < (s1.length : Int)) ∧
 (0 ≤ v11_2 / (t1.length : Int) ∧ v11_2 / (t1.length : Int) < ((el s1 (v8_1 / (t1.length : Int))).length : Int)) ∧
 (InI ((el (el s1 (v8_1 / (t1.length : Int))) (v11_2 / (t1.length : Int))) * (t1.length : Int))) ∧
 (0 ≤ v8_1 % (t1.length : Int) ∧ v8_1 % (t1.length : Int) < (t1.length : Int)) ∧
 (0 ≤ v11_2 % (t1.length : Int) ∧ v11_2 % (t1.length : Int) < ((el t1 (v8_1 % (t1.length : Int))).length : Int)) ∧
 (InI (((el (el s1 (v8_1 / (t1.length : Int))) (v11_2 / (t1.length : Int))) * (t1.length : Int)) + (el (el t1 (v8_1 % (t1.length : Int))) (v11_2 % (t1.length : Int))))) ∧
 ((o26_2.length : Int) + (([((el (el s1 (v8_1 / (t1.length : Int))) (v11_2 / (t1.length : Int))) * (t1.length : Int)) + (el (el t1 (v8_1 % (t1.length : Int))) (v11_2 % (t1.length : Int)))]).length : Int) ≤ 1000000000) ∧
 ((0 : Int) ≤ v8_1 ∧ (0 : Int) < (t1.length : Int) ∧ v8_1 ≤ 9223372036854775807) ∧
 ((0 : Int) ≤ v11_2 ∧ (0 : Int) < (t1.length : Int) ∧ v11_2 ≤ 9223372036854775807) ∧
 ((0 : Int) ≤ v8_1 ∧ (0 : Int) < (t1.length : Int)) ∧
 ((0 : Int) ≤ v11_2 ∧ (0 : Int) < (t1.length : Int)) ∧
 (0 ≤ v8_1 / (t1.length : Int) ∧ v8_1 / (t1.length : Int) < (s2.length : Int)) ∧
 (0 ≤ v11_2 / (t1.length : Int) ∧ v11_2 / (t1.length : Int) < ((el s2 (v8_1 / (t1.length : Int))).length : Int)) ∧
 (InI ((el (el s2 (v8_1 / (t1.length : Int))) (v11_2 / (t1.length : Int))) * (t1.length : Int))) ∧
 (0 ≤ v8_1 % (t1.length : Int) ∧ v8_1 % (t1.length : Int) < (t2.length : Int)) ∧
 (0 ≤ v11_2 % (t1.length : Int) ∧ v11_2 % (t1.length : Int) < ((el t2 (v8_1 % (t1.length : Int))).length : Int)) ∧
 (InI (((el (el s2 (v8_1 / (t1.length : Int))) (v11_2 / (t1.length : Int))) * (t1.length : Int)) + (el (el t2 (v8_1 % (t1.length : Int))) (v11_2 % (t1.length : Int))))) ∧
 ((o27_2.length : Int) + (([((el (el s2 (v8_1 / (t1.length : Int))) (v11_2 / (t1.length : Int))) * (t1.length : Int)) + (el (el t2 (v8_1 % (t1.length : Int))) (v11_2 % (t1.length : Int)))]).length : Int) ≤ 1000000000) ∧
 (InI (v11_2 + 1)) ∧
 (H2 (v11_2 + 1) (o26_2 ++ ([((el (el s1 (v8_1 / (t1.length : Int))) (v11_2 / (t1.length : Int))) * (t1.length : Int)) + (el (el t1 (v8_1 % (t1.length : Int))) (v11_2 % (t1.length : Int)))])) (o27_2 ++ ([((el (el s2 (v8_1 / (t1.length : Int))) (v11_2 / (t1.length : Int))) * (t1.length : Int)) + (el (el t2 (v8_1 % (t1.length : Int))) (v11_2 % (t1.length : Int)))])) ∧ m2 (v11_2 + 1) (o26_2 ++ ([((el (el s1 (v8_1 / (t1.length : Int))) (v11_2 / (t1.length : Int))) * (t1.length : Int)) + (el (el t1 (v8_1 % (t1.length : Int))) (v11_2 % (t1.length : Int)))])) (o27_2 ++ ([((el (el s2 (v8_1 / (t1.length : Int))) (v11_2 / (t1.length : Int))) * (t1.length : Int)) + (el (el t2 (v8_1 % (t1.length : Int))) (v11_2 % (t1.length : Int)))])) < m2 v11_2 o26_2 o27_2)) ∧
 (¬ (v11_2 < (s1.length : Int) * (t1.length : Int)) →
 ((o200112_1.length : Int) + (([o26_2]).length : Int) ≤ 1000000000) ∧
 ((o200113_1.length : Int) + (([o27_2]).length : Int) ≤ 1000000000) ∧
 (InI (v8_1 + 1)) ∧
 (H1 (v8_1 + 1) (o200112_1 ++ ([o26_2])) (o200113_1 ++ ([o27_2])) ∧ m1 (v8_1 + 1) (o200112_1 ++ ([o26_2])) (o200113_1 ++ ([o27_2])) < m1 v8_1 o200112_1 o200113_1))))) ∧
 (¬ (v8_1 < (s1.length : Int) * (t1.length : Int)) →
 Q o200112_1 o200113_1)))

def wp_spec_l02Union (s1 : List (List Int)) (s2 : List (List Int)) (t1 : List (List Int)) (t2 : List (List Int)) (Q : List (List Int) → List (List Int) → Prop) : Prop :=
 ∃ (H1 : Int → List (List Int) → List (List Int) → Prop) (m1 : Int → List (List Int) → List (List Int) → Nat),
 H1 0 ([] : List (List Int)) ([] : List (List Int)) ∧
 ∀ (v8_1 : Int) (o200112_1 : List (List Int)) (o200113_1 : List (List Int)), H1 v8_1 o200112_1 o200113_1 →
 ( (InI ((s1.length : Int) + (t1.length : Int))) ∧
 ((v8_1 < (s1.length : Int) + (t1.length : Int) →
 ∃ (H2 : Int → List Int → List Int → Prop) (m2 : Int → List Int → List Int → Nat),
 H2 0 ([] : List Int) ([] : List Int) ∧
 ∀ (v11_2 : Int) (o26_2 : List Int) (o27_2 : List Int), H2 v11_2 o26_2 o27_2 →
 ( (InI ((s1.length : Int) + (t1.length : Int))) ∧
 ((v11_2 < (s1.length : Int) + (t1.length : Int) →
 ((v8_1 < (s1.length : Int) →
 ((v11_2 < (s1.length : Int) →
 (0 ≤ v8_1 ∧ v8_1 < (s1.length : Int)) ∧
 (0 ≤ v11_2 ∧ v11_2 < ((el s1 v8_1).length : Int)) ∧
 ((o26_2.length : Int) + (([el (el s1 v8_1) v11_2]).length : Int) ≤ 1000000000) ∧
 (0 ≤ v8_1 ∧ v8_1 < (s2.length : Int)) ∧
 (0 ≤ v11_2 ∧ v11_2 < ((el s2 v8_1).length : Int)) ∧
 ((o27_2.length : Int) + (([el (el s2 v8_1) v11_2]).length : Int) ≤ 1000000000) ∧
 (InI (v11_2 + 1)) ∧
 (H2 (v11_2 + 1) (o26_2 ++ ([el (el s1 v8_1) v11_2])) (o27_2 ++ ([el (el s2 v8_1) v11_2])) ∧ m2 (v11_2 + 1) (o26_2 ++ ([el (el s1 v8_1) v11_2])) (o27_2 ++ ([el (el s2 v8_1) v11_2])) < m2 v11_2 o26_2 o27_2)) ∧
 (¬ (v11_2 < (s1.length : Int)) →
 (((s1.length : Int) ≤ v8_1 →
 (((s1.length : Int) ≤ v11_2 →
 (InI (v8_1 - (s1.length : Int))) ∧
 (0 ≤ v8_1 - (s1.length : Int) ∧ v8_1 - (s1.length : Int) < (t1.length : Int)) ∧
 (InI (v11_2 - (s1.length : Int))) ∧
 (0 ≤ v11_2 - (s1.length : Int) ∧ v11_2 - (s1.length : Int) < ((el t1 (v8_1 - (s1.length : Int))).length : Int)) ∧
 (InI ((el (el t1 (v8_1 - (s1.length : Int))) (v11_2 - (s1.length : Int))) + (s1.length : Int))) ∧
 ((o26_2.length : Int) + (([(el (el t1 (v8_1 - (s1.length : Int))) (v11_2 - (s1.length : Int))) + (s1.length : Int)]).length : Int) ≤ 1000000000) ∧
 (InI (v8_1 - (s1.length : Int))) ∧
 (0 ≤ v8_1 - (s1.length : Int) ∧ v8_1 - (s1.length : Int) < (t2.length : Int)) ∧
 (InI (v11_2 - (s1.length : Int))) ∧
 (0 ≤ v11_2 - (s1.length : Int) ∧ v11_2 - (s1.length : Int) < ((el t2 (v8_1 - (s1.length : Int))).length : Int)) ∧
 (InI ((el (el t2 (v8_1 - (s1.length : Int))) (v11_2 - (s1.length : Int))) + (s1.length : Int))) ∧
 ((o27_2.length : Int) + (([(el (el t2 (v8_1 - (s1.length : Int))) (v11_2 - (s1.length : Int))) + (s1.length : Int)]).length : Int) ≤ 1000000000) ∧
 (InI (v11_2 + 1)) ∧
 (H2 (v11_2 + 1) (o26_2 ++ ([(el (el t1 (v8_1 - (s1.length : Int))) (v11_2 - (s1.length : Int))) + (s1.length : Int)])) (o27_2 ++ ([(el (el t2 (v8_1 - (s1.length : Int))) (v11_2 - (s1.length : Int))) + (s1.length : Int)])) ∧ m2 (v11_2 + 1) (o26_2 ++ ([(el (el t1 (v8_1 - (s1.length : Int))) (v11_2 - (s1.length : Int))) + (s1.length : Int)])) (o27_2 ++ ([(el (el t2 (v8_1 - (s1.length : Int))) (v11_2 - (s1.length : Int))) + (s1.length : Int)])) < m2 v11_2 o26_2 o27_2)) ∧
 (¬ ((s1.length : Int) ≤ v11_2) →
 ((o26_2.length : Int) + (([v11_2]).length : Int) ≤ 1000000000) ∧
 ((o27_2.length : Int) + (([v8_1]).length : Int) ≤ 1000000000) ∧
 (InI (v11_2 + 1)) ∧
 (H2 (v11_2 + 1) (o26_2 ++ ([v11_2])) (o27_2 ++ ([v8_1])) ∧ m2 (v11_2 + 1) (o26_2 ++ ([v11_2])) (o27_2 ++ ([v8_1])) < m2 v11_2 o26_2 o27_2)))) ∧
 (¬ ((s1.length : Int) ≤ v8_1) →
 ((o26_2.length : Int) + (([v11_2]).length : Int) ≤ 1000000000) ∧
 ((o27_2.length : Int) + (([v8_1]).length : Int) ≤ 1000000000) ∧
 (InI (v11_2 + 1)) ∧
 (H2 (v11_2 + 1) (o26_2 ++ ([v11_2])) (o27_2 ++ ([v8_1])) ∧ m2 (v11_2 + 1) (o26_2 ++ ([v11_2])) (o27_2 ++ ([v8_1])) < m2 v11_2 o26_2 o27_2)))))) ∧
 (¬ (v8_1 < (s1.length : Int)) →
 (((s1.length : Int) ≤ v8_1 →
 (((s1.length : Int) ≤ v11_2 →
 (InI (v8_1 - (s1.length : Int))) ∧
 (0 ≤ v8_1 - (s1.length : Int) ∧ v8_1 - (s1.length : Int) < (t1.length : Int)) ∧
 (InI (v11_2 - (s1.length : Int))) ∧
 (0 ≤ v11_2 - (s1.length : Int) ∧ v11_2 - (s1.length : Int) < ((el t1 (v8_1 - (s1.length : Int))).length : Int)) ∧
 (InI ((el (el t1 (v8_1 - (s1.length : Int))) (v11_2 - (s1.length : Int))) + (s1.length : Int))) ∧
 ((o26_2.length : Int) + (([(el (el t1 (v8_1 - (s1.length : Int))) (v11_2 - (s1.length : Int))) + (s1.length : Int)]).length : Int) ≤ 1000000000) ∧
 (InI (v8_1 - (s1.length : Int))) ∧
 (0 ≤ v8_1 - (s1.length : Int) ∧ v8_1 - (s1.length : Int) < (t2.length : Int)) ∧
 (InI (v11_2 - (s1.length : Int))) ∧
 (0 ≤ v11_2 - (s1.length : Int) ∧ v11_2 - (s1.length : Int) < ((el t2 (v8_1 - (s1.length : Int))).length : Int)) ∧
 (InI ((el (el t2 (v8_1 - (s1.length : Int))) (v11_2 - (s1.length : Int))) + (s1.length : Int))) ∧
 ((o27_2.length : Int) + (([(el (el t2 (v8_1 - (s1.length : Int))) (v11_2 - (s1.length : Int))) + (s1.length : Int)]).length : Int) ≤ 1000000000) ∧
 (InI (v11_2 + 1)) ∧
 (H2 (v11_2 + 1) (o26_2 ++ ([(el (el t1 (v8_1 - (s1.length : Int))) (v11_2 - (s1.length : Int))) + (s1.length : Int)])) (o27_2 ++ ([(el (el t2 (v8_1 - (s1.length : Int))) (v11_2 - (s1.length : Int))) + (s1.length : Int)])) ∧ m2 (v11_2 + 1) (o26_2 ++ ([(el (el t1 (v8_1 - (s1.length : Int))) (v11_2 - (s1.length : Int))) + (s1.length : Int)])) (o27_2 ++ ([(el (el t2 (v8_1 - (s1.length : Int))) (v11_2 - (s1.length : Int))) + (s1.length : Int)])) < m2 v11_2 o26_2 o27_2)) ∧
 (¬ ((s1.length : Int) ≤ v11_2) →
 ((o26_2.length : Int) + (([v11_2]).length : Int) ≤ 1000000000) ∧
 ((o27_2.length : Int) + (([v8_1]).length : Int) ≤ 1000000000) ∧
 (InI (v11_2 + 1)) ∧
 (H2 (v11_2 + 1) (o26_2 ++ ([v11_2])) (o27_2 ++ ([v8_1])) ∧ m2 (v11_2 + 1) (o26_2 ++ ([v11_2])) (o27_2 ++ ([v8_1])) < m2 v11_2 o26_2 o27_2)))) ∧
 (¬ ((s1.length : Int) ≤ v8_1) →
 ((o26_2.length : Int) + (([v11_2]).length : Int) ≤ 1000000000) ∧
 ((o27_2.length : Int) + (([v8_1]).length : Int) ≤ 1000000000) ∧
 (InI (v11_2 + 1)) ∧
 (H2 (v11_2 + 1) (o26_2 ++ ([v11_2])) (o27_2 ++ ([v8_1])) ∧ m2 (v11_2 + 1) (o26_2 ++ ([v11_2])) (o27_2 ++ ([v8_1])) < m2 v11_2 o26_2 o27_2)))))) ∧
 (¬ (v11_2 < (s1.length : Int) + (t1.length : Int)) →
 ((o200112_1.length : Int) + (([o26_2]).length : Int) ≤ 1000000000) ∧
 ((o200113_1.length : Int) + (([o27_2]).length : Int) ≤ 1000000000) ∧
 (InI (v8_1 + 1)) ∧
 (H1 (v8_1 + 1) (o200112_1 ++ ([o26_2])) (o200113_1 ++ ([o27_2])) ∧ m1 (v8_1 + 1) (o200112_1 ++ ([o26_2])) (o200113_1 ++ ([o27_2])) < m1 v8_1 o200112_1 o200113_1))))) ∧
 (¬ (v8_1 < (s1.length : Int) + (t1.length : Int)) →
 Q o200112_1 o200113_1)))

def wp_spec_l02Inverse (s1 : List (List Int)) (s2 : List (List Int)) (Q : List (List Int) → List (List Int) → Prop) : Prop :=
 (0 ≤ (s1.length : Int) ∧ (s1.length : Int) ≤ 1000000) ∧
 ∃ (H1 : Int → List (List Int) → List (List Int) → Prop) (m1 : Int → List (List Int) → List (List Int) → Nat),
 H1 0 (tab (s1.length : Int) (fun _ _ => 0)) (tab (s1.length : Int) (fun _ _ => 0)) ∧
 ∀ (v5_1 : Int) (o13_1 : List (List Int)) (o1001_1 : List (List Int)), H1 v5_1 o13_1 o1001_1 →
 ( ((v5_1 < (s1.length : Int) →
 ∃ (H2 : Int → List (List Int) → List (List Int) → Prop) (m2 : Int → List (List Int) → List (List Int) → Nat),
 H2 0 o13_1 o1001_1 ∧
 ∀ (v6_2 : Int) (o13_2 : List (List Int)) (o1001_2 : List (List Int)), H2 v6_2 o13_2 o1001_2 →
 ( ((v6_2 < (s1.length : Int) →
 (0 ≤ v5_1 ∧ v5_1 < (s1.length : Int)) ∧
 (0 ≤ v6_2 ∧ v6_2 < ((el s1 v5_1).length : Int)) ∧
 (0 ≤ el (el s1 v5_1) v6_2 ∧ el (el s1 v5_1) v6_2 < (o13_2.length : Int)) ∧
 (0 ≤ v5_1 ∧ v5_1 < (s1.length : Int)) ∧
 (0 ≤ v6_2 ∧ v6_2 < ((el s1 v5_1).length : Int)) ∧
 (0 ≤ el (el s1 v5_1) v6_2 ∧ el (el s1 v5_1) v6_2 < (o1001_2.length : Int)) ∧
 (0 ≤ v5_1 ∧ v5_1 < (s2.length : Int)) ∧
 (0 ≤ v6_2 ∧ v6_2 < ((el s2 v5_1).length : Int)) ∧
 (0 ≤ el (el s2 v5_1) v6_2 ∧ el (el s2 v5_1) v6_2 < ((el o13_2 (el (el s1 v5_1) v6_2)).length : Int)) ∧
 (0 ≤ v5_1 ∧ v5_1 < (s2.length : Int)) ∧
 (0 ≤ v6_2 ∧ v6_2 < ((el s2 v5_1).length : Int)) ∧
 (0 ≤ el (el s2 v5_1) v6_2 ∧ el (el s2 v5_1) v6_2 < ((el o1001_2 (el (el s1 v5_1) v6_2)).length : Int)) ∧
 (InI (v6_2 + 1)) ∧
 (H2 (v6_2 + 1) (se o13_2 (el (el s1 v5_1) v6_2) (se (el o13_2 (el (el s1 v5_1) v6_2)) (el (el s2 v5_1) v6_2) v5_1)) (se o1001_2 (el (el s1 v5_1) v6_2) (se (el o1001_2 (el (el s1 v5_1) v6_2)) (el (el s2 v5_1) v6_2) v6_2)) ∧ m2 (v6_2 + 1) (se o13_2 (el (el s1 v5_1) v6_2) (se (el o13_2 (el (el s1 v5_1) v6_2)) (el (el s2 v5_1) v6_2) v5_1)) (se o1001_2 (el (el s1 v5_1) v6_2) (se (el o1001_2 (el (el s1 v5_1) v6_2)) (el (el s2 v5_1) v6_2) v6_2)) < m2 v6_2 o13_2 o1001_2)) ∧
 (¬ (v6_2 < (s1.length : Int)) →
 (InI (v5_1 + 1)) ∧
 (H1 (v5_1 + 1) o13_2 o1001_2 ∧ m1 (v5_1 + 1) o13_2 o1001_2 < m1 v5_1 o13_1 o1001_1))))) ∧
 (¬ (v5_1 < (s1.length : Int)) →
 Q o13_1 o1001_1)))

def wp_spec_l02Involutive (rw0 : List (List Int)) (Q : List (List Int) → List (List Int) → Prop) : Prop :=
 (small2 rw0) ∧
 ∃ (H1 : Int → List (List Int) → Prop) (m1 : Int → List (List Int) → Nat),
 H1 0 ([] : List (List Int)) ∧
 ∀ (v4_1 : Int) (o200049_1 : List (List Int)), H1 v4_1 o200049_1 →
 ( ((v4_1 < (rw0.length : Int) →
 ∃ (H2 : Int → List Int → Prop) (m2 : Int → List Int → Nat),
 H2 0 ([] : List Int) ∧
 ∀ (v6_2 : Int) (o16_2 : List Int), H2 v6_2 o16_2 →
 ( ((v6_2 < (rw0.length : Int) →
 (0 ≤ v4_1 ∧ v4_1 < (rw0.length : Int)) ∧
 (0 ≤ v6_2 ∧ v6_2 < ((el rw0 v4_1).length : Int)) ∧
 (0 ≤ el (el rw0 v4_1) v6_2 ∧ el (el rw0 v4_1) v6_2 < (rw0.length : Int)) ∧
 (small (el rw0 (el (el rw0 v4_1) v6_2))) ∧
 ((o16_2.length : Int) + (([idxI (el rw0 (el (el rw0 v4_1) v6_2)) v4_1]).length : Int) ≤ 1000000000) ∧
 (InI (v6_2 + 1)) ∧
 (H2 (v6_2 + 1) (o16_2 ++ ([idxI (el rw0 (el (el rw0 v4_1) v6_2)) v4_1])) ∧ m2 (v6_2 + 1) (o16_2 ++ ([idxI (el rw0 (el (el rw0 v4_1) v6_2)) v4_1])) < m2 v6_2 o16_2)) ∧
 (¬ (v6_2 < (rw0.length : Int)) →
 ((o200049_1.length : Int) + (([o16_2]).length : Int) ≤ 1000000000) ∧
 (InI (v4_1 + 1)) ∧
 (H1 (v4_1 + 1) (o200049_1 ++ ([o16_2])) ∧ m1 (v4_1 + 1) (o200049_1 ++ ([o16_2])) < m1 v4_1 o200049_1))))) ∧
 (¬ (v4_1 < (rw0.length : Int)) →
 Q rw0 o200049_1)))

def wp_spec_l02Rename (s1 : List (List Int)) (s2 : List (List Int)) (p : List Int) (Q : List (List Int) → List (List Int) → Prop) : Prop :=
 (isTab s1 = true ∧ (p.length : Int) = (s1.length : Int) ∧ isPerm p = true) ∧
 (isTab s2 = true ∧ (p.length : Int) = (s2.length : Int) ∧ isPerm p = true) ∧
 Q (renT s1 p) (renT s2 p)

def wp_spec_l02Any (s1 : List Int) (s2 : Int) (s3 : Int) (most : Int) (Q : List (List Int) → List (List Int) → List Int → Int → Int → Prop) : Prop :=
 (okS s1 s2 s3 ∧ InI most) ∧
 ∀ (r1_0 : Int) (o1_0 : List Int) (o1_1 : Int) (o1_2 : Int), (nxP most r1_0 ∧ o1_0 = s1 ∧ okS s1 o1_1 o1_2) →
 (InI (1 + r1_0)) ∧
 (okS o1_0 o1_1 o1_2 ∧ InI (8 : Int)) ∧
 ∀ (r2_0 : Int) (o2_0 : List Int) (o2_1 : Int) (o2_2 : Int), (nxP (8 : Int) r2_0 ∧ o2_0 = o1_0 ∧ okS o1_0 o2_1 o2_2) →
 ((r2_0 = 0 →
 (0 ≤ (1 + r1_0) ∧ (1 + r1_0) ≤ 1000) ∧
 Q (tab (1 + r1_0) (fun _ y_ => y_)) (tab (1 + r1_0) (fun x_ _ => x_)) o2_0 o2_1 o2_2) ∧
 (¬ (r2_0 = 0) →
 ((r2_0 = 1 →
 (1 ≤ (1 + r1_0) ∧ (1 + r1_0) ≤ 12) ∧
 Q (tab (1 + r1_0) (fun x_ y_ => (2 * x_ - y_ + (1 + r1_0)) % (1 + r1_0))) (tab (1 + r1_0) (fun x_ _ => x_)) o2_0 o2_1 o2_2) ∧
 (¬ (r2_0 = 1) →
 ((r2_0 = 2 →
 ((4 ≤ 1 + r1_0 →
 ((0 : Int) ≤ 1 + r1_0 ∧ (0 : Int) < 2) ∧
 (((1 + r1_0) % 2 = 0 →
 ((0 : Int) ≤ 1 + r1_0 ∧ (0 : Int) < 2 ∧ 1 + r1_0 ≤ 9223372036854775807) ∧
 (okS o2_0 o2_1 o2_2 ∧ 1 ≤ ((1 + r1_0) / 2) ∧ ((1 + r1_0) / 2) ≤ 12) ∧
 ∀ (r3_0 : List (List Int)) (r3_1 : List (List Int)) (o3_0 : List Int) (o3_1 : Int) (o3_2 : Int), ((pairN ((1 + r1_0) / 2) r3_0 r3_1) ∧ o3_0 = o2_0 ∧ okS o2_0 o3_1 o3_2) →
 (okS o3_0 o3_1 o3_2 ∧ 1 ≤ (2 : Int) ∧ (2 : Int) ≤ 12) ∧
 ∀ (r4_0 : List (List Int)) (r4_1 : List (List Int)) (o4_0 : List Int) (o4_1 : Int) (o4_2 : Int), ((pairN (2 : Int) r4_0 r4_1) ∧ o4_0 = o3_0 ∧ okS o3_0 o4_1 o4_2) →
 (∃ n_ m_ : Int, pairN n_ r3_0 r3_1 ∧ pairN m_ r4_0 r4_1 ∧ n_ * m_ ≤ 12) ∧
 ∀ (r5_0 : List (List Int)) (r5_1 : List (List Int)), (pairN ((r3_0.length : Int) * (r4_0.length : Int)) r5_0 r5_1) →
 Q r5_0 r5_1 o4_0 o4_1 o4_2) ∧
 (¬ ((1 + r1_0) % 2 = 0) →
 (okS o2_0 o2_1 o2_2 ∧ 1 ≤ (1 + r1_0) ∧ (1 + r1_0) ≤ 12) ∧
 ∀ (r6_0 : List (List Int)) (r6_1 : List (List Int)) (o6_0 : List Int) (o6_1 : Int) (o6_2 : Int), ((pairN (1 + r1_0) r6_0 r6_1) ∧ o6_0 = o2_0 ∧ okS o2_0 o6_1 o6_2) →
 Q r6_0 r6_1 o6_0 o6_1 o6_2))) ∧
 (¬ (4 ≤ 1 + r1_0) →
 (okS o2_0 o2_1 o2_2 ∧ 1 ≤ (1 + r1_0) ∧ (1 + r1_0) ≤ 12) ∧
 ∀ (r7_0 : List (List Int)) (r7_1 : List (List Int)) (o7_0 : List Int) (o7_1 : Int) (o7_2 : Int), ((pairN (1 + r1_0) r7_0 r7_1) ∧ o7_0 = o2_0 ∧ okS o2_0 o7_1 o7_2) →
 Q r7_0 r7_1 o7_0 o7_1 o7_2))) ∧
 (¬ (r2_0 = 2) →
 ((r2_0 = 3 →
 ((2 ≤ 1 + r1_0 →
 (InI ((1 + r1_0) - 1)) ∧
 (okS o2_0 o2_1 o2_2 ∧ InI ((1 + r1_0) - 1)) ∧
 ∀ (r8_0 : Int) (o8_0 : List Int) (o8_1 : Int) (o8_2 : Int), (nxP ((1 + r1_0) - 1) r8_0 ∧ o8_0 = o2_0 ∧ okS o2_0 o8_1 o8_2) →
 (InI (1 + r8_0)) ∧
 ((1 + r8_0).toNat < most.toNat) ∧
 (okS o8_0 o8_1 o8_2 ∧ 1 ≤ (1 + r8_0) ∧ (1 + r8_0) ≤ 12) ∧
 ∀ (r9_0 : List (List Int)) (r9_1 : List (List Int)) (o9_0 : List Int) (o9_1 : Int) (o9_2 : Int), ((pairM (1 + r8_0) r9_0 r9_1) ∧ o9_0 = o8_0 ∧ okS o8_0 o9_1 o9_2) →
 (InI ((1 + r1_0) - (1 + r8_0))) ∧
 (okS o9_0 o9_1 o9_2 ∧ 1 ≤ ((1 + r1_0) - (1 + r8_0)) ∧ ((1 + r1_0) - (1 + r8_0)) ≤ 12) ∧
 ∀ (r10_0 : List (List Int)) (r10_1 : List (List Int)) (o10_0 : List Int) (o10_1 : Int) (o10_2 : Int), ((pairN ((1 + r1_0) - (1 + r8_0)) r10_0 r10_1) ∧ o10_0 = o9_0 ∧ okS o9_0 o10_1 o10_2) →
 (∃ n_ m_ : Int, pairN n_ r9_0 r9_1 ∧ pairN m_ r10_0 r10_1 ∧ n_ + m_ ≤ 12) ∧
 ∀ (r11_0 : List (List Int)) (r11_1 : List (List Int)), (pairN ((r9_0.length : Int) + (r10_0.length : Int)) r11_0 r11_1) →
 Q r11_0 r11_1 o10_0 o10_1 o10_2) ∧
 (¬ (2 ≤ 1 + r1_0) →
 (okS o2_0 o2_1 o2_2 ∧ 1 ≤ (1 + r1_0) ∧ (1 + r1_0) ≤ 12) ∧
 ∀ (r12_0 : List (List Int)) (r12_1 : List (List Int)) (o12_0 : List Int) (o12_1 : Int) (o12_2 : Int), ((pairN (1 + r1_0) r12_0 r12_1) ∧ o12_0 = o2_0 ∧ okS o2_0 o12_1 o12_2) →
 Q r12_0 r12_1 o12_0 o12_1 o12_2))) ∧
 (¬ (r2_0 = 3) →
 ((r2_0 = 4 →
 ((4 ≤ most →
 (isTab ([[0, 1, 3, 2], [0, 1, 3, 2], [1, 0, 2, 3], [1, 0, 2, 3]] : List (List Int)) = true ∧ ([[0, 1, 3, 2], [0, 1, 3, 2], [1, 0, 2, 3], [1, 0, 2, 3]] : List (List Int)).all isPerm = true) ∧
 ∀ (r13_0 : List (List Int)) (r13_1 : List (List Int)), (pairN (([[0, 1, 3, 2], [0, 1, 3, 2], [1, 0, 2, 3], [1, 0, 2, 3]] : List (List Int)).length : Int) r13_0 r13_1) →
 Q r13_0 r13_1 o2_0 o2_1 o2_2) ∧
 (¬ (4 ≤ most) →
 (okS o2_0 o2_1 o2_2 ∧ 1 ≤ (1 + r1_0) ∧ (1 + r1_0) ≤ 12) ∧
 ∀ (r14_0 : List (List Int)) (r14_1 : List (List Int)) (o14_0 : List Int) (o14_1 : Int) (o14_2 : Int), ((pairN (1 + r1_0) r14_0 r14_1) ∧ o14_0 = o2_0 ∧ okS o2_0 o14_1 o14_2) →
 Q r14_0 r14_1 o14_0 o14_1 o14_2))) ∧
 (¬ (r2_0 = 4) →
 ((r2_0 = 5 →
 ((2 ≤ 1 + r1_0 →
 (1 ≤ (1 + r1_0) ∧ (1 + r1_0) ≤ 12) ∧
 (pairN ((tab (1 + r1_0) (fun x_ y_ => (2 * x_ - y_ + (1 + r1_0)) % (1 + r1_0))).length : Int) (tab (1 + r1_0) (fun x_ y_ => (2 * x_ - y_ + (1 + r1_0)) % (1 + r1_0))) (tab (1 + r1_0) (fun x_ _ => x_))) ∧
 ∀ (r15_0 : List (List Int)) (r15_1 : List (List Int)), (pairN ((tab (1 + r1_0) (fun x_ y_ => (2 * x_ - y_ + (1 + r1_0)) % (1 + r1_0))).length : Int) r15_0 r15_1) →
 Q r15_0 r15_1 o2_0 o2_1 o2_2) ∧
 (¬ (2 ≤ 1 + r1_0) →
 (okS o2_0 o2_1 o2_2 ∧ 1 ≤ (1 + r1_0) ∧ (1 + r1_0) ≤ 12) ∧
 ∀ (r16_0 : List (List Int)) (r16_1 : List (List Int)) (o16_0 : List Int) (o16_1 : Int) (o16_2 : Int), ((pairN (1 + r1_0) r16_0 r16_1) ∧ o16_0 = o2_0 ∧ okS o2_0 o16_1 o16_2) →
 Q r16_0 r16_1 o16_0 o16_1 o16_2))) ∧
 (¬ (r2_0 = 5) →
 ((r2_0 = 6 →
 ((3 ≤ most →
 (isTab ([[0, 1, 2], [0, 1, 2], [1, 0, 2]] : List (List Int)) = true ∧ ([[0, 1, 2], [0, 1, 2], [1, 0, 2]] : List (List Int)).all isPerm = true) ∧
 ∀ (r17_0 : List (List Int)) (r17_1 : List (List Int)), (pairN (([[0, 1, 2], [0, 1, 2], [1, 0, 2]] : List (List Int)).length : Int) r17_0 r17_1) →
 Q r17_0 r17_1 o2_0 o2_1 o2_2) ∧
 (¬ (3 ≤ most) →
 (okS o2_0 o2_1 o2_2 ∧ 1 ≤ (1 + r1_0) ∧ (1 + r1_0) ≤ 12) ∧
 ∀ (r18_0 : List (List Int)) (r18_1 : List (List Int)) (o18_0 : List Int) (o18_1 : Int) (o18_2 : Int), ((pairN (1 + r1_0) r18_0 r18_1) ∧ o18_0 = o2_0 ∧ okS o2_0 o18_1 o18_2) →
 Q r18_0 r18_1 o18_0 o18_1 o18_2))) ∧
 (¬ (r2_0 = 6) →
 (okS o2_0 o2_1 o2_2 ∧ 1 ≤ (1 + r1_0) ∧ (1 + r1_0) ≤ 12) ∧
 ∀ (r19_0 : List (List Int)) (r19_1 : List (List Int)) (o19_0 : List Int) (o19_1 : Int) (o19_2 : Int), ((pairN (1 + r1_0) r19_0 r19_1) ∧ o19_0 = o2_0 ∧ okS o2_0 o19_1 o19_2) →
 Q r19_0 r19_1 o19_0 o19_1 o19_2))))))))))))))

def wp_spec_l02Draw (s1 : List Int) (s2 : Int) (s3 : Int) (most : Int) (Q : List (List Int) → List (List Int) → List Int → Int → Int → Prop) : Prop :=
 (okS s1 s2 s3 ∧ 1 ≤ most ∧ most ≤ 12) ∧
 ∀ (r1_0 : List (List Int)) (r1_1 : List (List Int)) (o1_0 : List Int) (o1_1 : Int) (o1_2 : Int), ((pairM most r1_0 r1_1) ∧ o1_0 = s1 ∧ okS s1 o1_1 o1_2) →
 (okS o1_0 o1_1 o1_2 ∧ InI (4 : Int)) ∧
 ∀ (r2_0 : Int) (o2_0 : List Int) (o2_1 : Int) (o2_2 : Int), (nxP (4 : Int) r2_0 ∧ o2_0 = o1_0 ∧ okS o1_0 o2_1 o2_2) →
 ((0 < r2_0 →
 (okS o2_0 o2_1 o2_2 ∧ 0 ≤ (r1_0.length : Int) ∧ (r1_0.length : Int) ≤ 1000) ∧
 ∀ (r3_0 : List Int) (o3_0 : List Int) (o3_1 : Int) (o3_2 : Int), (((r3_0.length : Int) = (r1_0.length : Int) ∧ isPerm r3_0 = true) ∧ o3_0 = o2_0 ∧ okS o2_0 o3_1 o3_2) →
 (isTab r1_0 = true ∧ isTab r1_1 = true ∧ r1_1.length = r1_0.length ∧ (r3_0.length : Int) = (r1_0.length : Int) ∧ isPerm r3_0 = true) ∧
 Q (renT r1_0 r3_0) (renT r1_1 r3_0) o3_0 o3_1 o3_2) ∧
 (¬ (0 < r2_0) →
 Q r1_0 r1_1 o2_0 o2_1 o2_2))

def wp_spec_l05Any (s1 : List Int) (s2 : Int) (s3 : Int) (most : Int) (Q : List (List Int) → List Int → Int → Int → Prop) : Prop :=
 (okS s1 s2 s3 ∧ InI most) ∧
 ∀ (r1_0 : Int) (o1_0 : List Int) (o1_1 : Int) (o1_2 : Int), (nxP most r1_0 ∧ o1_0 = s1 ∧ okS s1 o1_1 o1_2) →
 (InI (1 + r1_0)) ∧
 (okS o1_0 o1_1 o1_2 ∧ InI (3 : Int)) ∧
 ∀ (r2_0 : Int) (o2_0 : List Int) (o2_1 : Int) (o2_2 : Int), (nxP (3 : Int) r2_0 ∧ o2_0 = o1_0 ∧ okS o1_0 o2_1 o2_2) →
 ((r2_0 = 0 →
 ∃ (H1 : Int → List Int → Int → Int → Prop) (m1 : Int → List Int → Int → Int → Nat),
 H1 0 o2_0 o2_1 o2_2 ∧
 ∀ (v6_1 : Int) (f800_0_1 : List Int) (f800_1_1 : Int) (f800_2_1 : Int), H1 v6_1 f800_0_1 f800_1_1 f800_2_1 →
 ( ((v6_1 < 30 →
 (okS f800_0_1 f800_1_1 f800_2_1 ∧ InI (1 + r1_0)) ∧
 ∀ (r3_0 : Int) (o3_0 : List Int) (o3_1 : Int) (o3_2 : Int), (nxP (1 + r1_0) r3_0 ∧ o3_0 = f800_0_1 ∧ okS f800_0_1 o3_1 o3_2) →
 (okS o3_0 o3_1 o3_2 ∧ InI (1 + r1_0)) ∧
 ∀ (r4_0 : Int) (o4_0 : List Int) (o4_1 : Int) (o4_2 : Int), (nxP (1 + r1_0) r4_0 ∧ o4_0 = o3_0 ∧ okS o3_0 o4_1 o4_2) →
 (okS o4_0 o4_1 o4_2 ∧ InI (1 + r1_0)) ∧
 ∀ (r5_0 : Int) (o5_0 : List Int) (o5_1 : Int) (o5_2 : Int), (nxP (1 + r1_0) r5_0 ∧ o5_0 = o4_0 ∧ okS o4_0 o5_1 o5_2) →
 (1 ≤ (1 + r1_0) ∧ (1 + r1_0) ≤ 12 ∧ 0 ≤ r3_0 ∧ r3_0 < (1 + r1_0) ∧ 0 ≤ r4_0 ∧ r4_0 < (1 + r1_0) ∧ 0 ≤ r5_0 ∧ r5_0 < (1 + r1_0)) ∧
 (small2 (tab (1 + r1_0) (fun x_ y_ => (r3_0 * x_ + r4_0 * y_ + r5_0) % (1 + r1_0)))) ∧
 (((isCyc (tab (1 + r1_0) (fun x_ y_ => (r3_0 * x_ + r4_0 * y_ + r5_0) % (1 + r1_0)))) = true →
 Q (tab (1 + r1_0) (fun x_ y_ => (r3_0 * x_ + r4_0 * y_ + r5_0) % (1 + r1_0))) o5_0 o5_1 o5_2) ∧
 ((isCyc (tab (1 + r1_0) (fun x_ y_ => (r3_0 * x_ + r4_0 * y_ + r5_0) % (1 + r1_0)))) = false →
 (InI (v6_1 + 1)) ∧
 (H1 (v6_1 + 1) o5_0 o5_1 o5_2 ∧ m1 (v6_1 + 1) o5_0 o5_1 o5_2 < m1 v6_1 f800_0_1 f800_1_1 f800_2_1)))) ∧
 (¬ (v6_1 < 30) →
 ∃ (H2 : Int → List Int → Int → Int → Prop) (m2 : Int → List Int → Int → Int → Nat),
 H2 0 f800_0_1 f800_1_1 f800_2_1 ∧
 ∀ (v8_2 : Int) (f800_0_2 : List Int) (f800_1_2 : Int) (f800_2_2 : Int), H2 v8_2 f800_0_2 f800_1_2 f800_2_2 →
 ( ((v8_2 < 8 →
 (okS f800_0_2 f800_1_2 f800_2_2 ∧ 1 ≤ (1 + r1_0) ∧ (1 + r1_0) ≤ 12) ∧
 ∀ (r6_0 : List (List Int)) (r6_1 : List (List Int)) (o6_0 : List Int) (o6_1 : Int) (o6_2 : Int), ((pairM (1 + r1_0) r6_0 r6_1) ∧ o6_0 = f800_0_2 ∧ okS f800_0_2 o6_1 o6_2) →
 (pmB r6_0 r6_1 = true) ∧
 (((ndB r6_0 r6_1) = true →
 (pmB r6_0 r6_1 = true) ∧
 (((ivB r6_0 r6_1) = true →
 (isTab r6_0 = true ∧ r6_0.all isPerm = true) ∧
 Q (r6_0.map backI) o6_0 o6_1 o6_2) ∧
 ((ivB r6_0 r6_1) = false →
 (InI (v8_2 + 1)) ∧
 (H2 (v8_2 + 1) o6_0 o6_1 o6_2 ∧ m2 (v8_2 + 1) o6_0 o6_1 o6_2 < m2 v8_2 f800_0_2 f800_1_2 f800_2_2)))) ∧
 ((ndB r6_0 r6_1) = false →
 (InI (v8_2 + 1)) ∧
 (H2 (v8_2 + 1) o6_0 o6_1 o6_2 ∧ m2 (v8_2 + 1) o6_0 o6_1 o6_2 < m2 v8_2 f800_0_2 f800_1_2 f800_2_2)))) ∧
 (¬ (v8_2 < 8) →
 (0 ≤ (1 + r1_0) ∧ (1 + r1_0) ≤ 1000) ∧
 (isTab (tab (1 + r1_0) (fun _ y_ => y_)) = true ∧ (tab (1 + r1_0) (fun _ y_ => y_)).all isPerm = true) ∧
 Q ((tab (1 + r1_0) (fun _ y_ => y_)).map backI) f800_0_2 f800_1_2 f800_2_2))))))) ∧
 (¬ (r2_0 = 0) →
 ∃ (H3 : Int → List Int → Int → Int → Prop) (m3 : Int → List Int → Int → Int → Nat),
 H3 0 o2_0 o2_1 o2_2 ∧
 ∀ (v8_1 : Int) (f800_0_1 : List Int) (f800_1_1 : Int) (f800_2_1 : Int), H3 v8_1 f800_0_1 f800_1_1 f800_2_1 →
 ( ((v8_1 < 8 →
 (okS f800_0_1 f800_1_1 f800_2_1 ∧ 1 ≤ (1 + r1_0) ∧ (1 + r1_0) ≤ 12) ∧
 ∀ (r7_0 : List (List Int)) (r7_1 : List (List Int)) (o7_0 : List Int) (o7_1 : Int) (o7_2 : Int), ((pairM (1 + r1_0) r7_0 r7_1) ∧ o7_0 = f800_0_1 ∧ okS f800_0_1 o7_1 o7_2) →
 (pmB r7_0 r7_1 = true) ∧
 (((ndB r7_0 r7_1) = true →
 (pmB r7_0 r7_1 = true) ∧
 (((ivB r7_0 r7_1) = true →
 (isTab r7_0 = true ∧ r7_0.all isPerm = true) ∧
 Q (r7_0.map backI) o7_0 o7_1 o7_2) ∧
 ((ivB r7_0 r7_1) = false →
 (InI (v8_1 + 1)) ∧
 (H3 (v8_1 + 1) o7_0 o7_1 o7_2 ∧ m3 (v8_1 + 1) o7_0 o7_1 o7_2 < m3 v8_1 f800_0_1 f800_1_1 f800_2_1)))) ∧
 ((ndB r7_0 r7_1) = false →
 (InI (v8_1 + 1)) ∧
 (H3 (v8_1 + 1) o7_0 o7_1 o7_2 ∧ m3 (v8_1 + 1) o7_0 o7_1 o7_2 < m3 v8_1 f800_0_1 f800_1_1 f800_2_1)))) ∧
 (¬ (v8_1 < 8) →
 (0 ≤ (1 + r1_0) ∧ (1 + r1_0) ≤ 1000) ∧
 (isTab (tab (1 + r1_0) (fun _ y_ => y_)) = true ∧ (tab (1 + r1_0) (fun _ y_ => y_)).all isPerm = true) ∧
 Q ((tab (1 + r1_0) (fun _ y_ => y_)).map backI) f800_0_1 f800_1_1 f800_2_1)))))

def wp_spec_l05Draw (s1 : List Int) (s2 : Int) (s3 : Int) (most : Int) (Q : List (List Int) → List Int → Int → Int → Prop) : Prop :=
 (okS s1 s2 s3 ∧ 1 ≤ most ∧ most ≤ 12) ∧
 ∀ (r1_0 : List (List Int)) (o1_0 : List Int) (o1_1 : Int) (o1_2 : Int), ((isTab r1_0 = true ∧ (r1_0.length : Int) ≤ most ∧ r1_0.all isPerm = true) ∧ o1_0 = s1 ∧ okS s1 o1_1 o1_2) →
 (okS o1_0 o1_1 o1_2 ∧ InI (3 : Int)) ∧
 ∀ (r2_0 : Int) (o2_0 : List Int) (o2_1 : Int) (o2_2 : Int), (nxP (3 : Int) r2_0 ∧ o2_0 = o1_0 ∧ okS o1_0 o2_1 o2_2) →
 ((0 < r2_0 →
 (okS o2_0 o2_1 o2_2 ∧ 0 ≤ (r1_0.length : Int) ∧ (r1_0.length : Int) ≤ 1000) ∧
 ∀ (r3_0 : List Int) (o3_0 : List Int) (o3_1 : Int) (o3_2 : Int), (((r3_0.length : Int) = (r1_0.length : Int) ∧ isPerm r3_0 = true) ∧ o3_0 = o2_0 ∧ okS o2_0 o3_1 o3_2) →
 (isTab r1_0 = true ∧ (r3_0.length : Int) = (r1_0.length : Int) ∧ isPerm r3_0 = true) ∧
 Q (renT r1_0 r3_0) o3_0 o3_1 o3_2) ∧
 (¬ (0 < r2_0) →
 Q r1_0 o2_0 o2_1 o2_2))

def wp_spec_l05Spoil (s1 : List Int) (s2 : Int) (s3 : Int) (most : Int) (Q : List (List Int) → List Int → Int → Int → Prop) : Prop :=
 (okS s1 s2 s3 ∧ 1 ≤ most ∧ most ≤ 12) ∧
 ∀ (r1_0 : List (List Int)) (o1_0 : List Int) (o1_1 : Int) (o1_2 : Int), ((isTab r1_0 = true ∧ (r1_0.length : Int) ≤ most ∧ r1_0.all isPerm = true) ∧ o1_0 = s1 ∧ okS s1 o1_1 o1_2) →
 (okS o1_0 o1_1 o1_2 ∧ InI (20 : Int)) ∧
 ∀ (r2_0 : Int) (o2_0 : List Int) (o2_1 : Int) (o2_2 : Int), (nxP (20 : Int) r2_0 ∧ o2_0 = o1_0 ∧ okS o1_0 o2_1 o2_2) →
 ((r2_0 = 0 →
 (okS o2_0 o2_1 o2_2 ∧ InI (r1_0.length : Int)) ∧
 ∀ (r3_0 : Int) (o3_0 : List Int) (o3_1 : Int) (o3_2 : Int), (nxP (r1_0.length : Int) r3_0 ∧ o3_0 = o2_0 ∧ okS o2_0 o3_1 o3_2) →
 (okS o3_0 o3_1 o3_2 ∧ 0 ≤ (r1_0.length : Int) ∧ (r1_0.length : Int) ≤ 1000) ∧
 ∀ (r4_0 : List Int) (o4_0 : List Int) (o4_1 : Int) (o4_2 : Int), (((r4_0.length : Int) = (r1_0.length : Int) ∧ isPerm r4_0 = true) ∧ o4_0 = o3_0 ∧ okS o3_0 o4_1 o4_2) →
 (0 ≤ r3_0 ∧ r3_0 < (r1_0.length : Int)) ∧
 Q (se r1_0 r3_0 r4_0) o4_0 o4_1 o4_2) ∧
 (¬ (r2_0 = 0) →
 ((r2_0 = 1 →
 (okS o2_0 o2_1 o2_2 ∧ 1 ≤ (r1_0.length : Int) ∧ (r1_0.length : Int) ≤ 12) ∧
 ∀ (r5_0 : List (List Int)) (o5_0 : List Int) (o5_1 : Int) (o5_2 : Int), ((szT r5_0) ∧ o5_0 = o2_0 ∧ okS o2_0 o5_1 o5_2) →
 Q r5_0 o5_0 o5_1 o5_2) ∧
 (¬ (r2_0 = 1) →
 ((r2_0 = 2 →
 (okS o2_0 o2_1 o2_2 ∧ InI (r1_0.length : Int)) ∧
 ∀ (r6_0 : Int) (o6_0 : List Int) (o6_1 : Int) (o6_2 : Int), (nxP (r1_0.length : Int) r6_0 ∧ o6_0 = o2_0 ∧ okS o2_0 o6_1 o6_2) →
 (0 ≤ r6_0 ∧ r6_0 < (r1_0.length : Int)) ∧
 (okS o6_0 o6_1 o6_2 ∧ InI (r1_0.length : Int)) ∧
 ∀ (r7_0 : Int) (o7_0 : List Int) (o7_1 : Int) (o7_2 : Int), (nxP (r1_0.length : Int) r7_0 ∧ o7_0 = o6_0 ∧ okS o6_0 o7_1 o7_2) →
 (okS o7_0 o7_1 o7_2 ∧ InI (r1_0.length : Int)) ∧
 ∀ (r8_0 : Int) (o8_0 : List Int) (o8_1 : Int) (o8_2 : Int), (nxP (r1_0.length : Int) r8_0 ∧ o8_0 = o7_0 ∧ okS o7_0 o8_1 o8_2) →
 (0 ≤ r7_0 ∧ r7_0 < ((el r1_0 r6_0).length : Int)) ∧
 Q (se r1_0 r6_0 (se (el r1_0 r6_0) r7_0 r8_0)) o8_0 o8_1 o8_2) ∧
 (¬ (r2_0 = 2) →
 Q r1_0 o2_0 o2_1 o2_2))))))

def wp_spec_DrawCycleFault (code : List Int) (Q : List (List Int) → Prop) : Prop :=
 (small code ∧ bytes code) ∧
 ∀ (r1_0 : List Int) (r1_1 : Int) (r1_2 : Int), (r1_0 = code ∧ okS code r1_1 r1_2) →
 (okS r1_0 r1_1 r1_2 ∧ 1 ≤ (7 : Int) ∧ (7 : Int) ≤ 12) ∧
 ∀ (r2_0 : List (List Int)) (o2_0 : List Int) (o2_1 : Int) (o2_2 : Int), ((szT r2_0) ∧ o2_0 = r1_0 ∧ okS r1_0 o2_1 o2_2) →
 (small2 r2_0) ∧
 (((isTab r2_0) = true →
 (okS o2_0 o2_1 o2_2 ∧ InI (2 : Int)) ∧
 ∀ (r3_0 : Int) (o3_0 : List Int) (o3_1 : Int) (o3_2 : Int), (nxP (2 : Int) r3_0 ∧ o3_0 = o2_0 ∧ okS o2_0 o3_1 o3_2) →
 ((r3_0 = 0 →
 (okS o3_0 o3_1 o3_2 ∧ InI (r2_0.length : Int)) ∧
 ∀ (r4_0 : Int) (o4_0 : List Int) (o4_1 : Int) (o4_2 : Int), (nxP (r2_0.length : Int) r4_0 ∧ o4_0 = o3_0 ∧ okS o3_0 o4_1 o4_2) →
 (okS o4_0 o4_1 o4_2 ∧ 0 ≤ (r2_0.length : Int) ∧ (r2_0.length : Int) ≤ 1000) ∧
 ∀ (r5_0 : List Int) (o5_0 : List Int) (o5_1 : Int) (o5_2 : Int), (((r5_0.length : Int) = (r2_0.length : Int) ∧ isPerm r5_0 = true) ∧ o5_0 = o4_0 ∧ okS o4_0 o5_1 o5_2) →
 (0 ≤ r4_0 ∧ r4_0 < (r2_0.length : Int)) ∧
 Q (se r2_0 r4_0 r5_0)) ∧
 (¬ (r3_0 = 0) →
 Q r2_0))) ∧
 ((isTab r2_0) = false →
 Q r2_0))

def wp_impl_HasPermutationRows (t : List (List Int)) (Q : Bool → Int → Prop) : Prop :=
 (small2 t) ∧
 (((isTab t) = false →
 Q false 1) ∧
 ((isTab t) = true →
 (small2 t) ∧
 Q (t.all isPerm) 0))

theorem p_spec_l01Pick (s1 : List Int) (s2 s3 : Int) (list : List Int) (hp : okS s1 s2 s3 ∧ 1 ≤ (list.length : Int) ∧ small list) : wp_spec_l01Pick s1 s2 s3 list (fun y0 w0 w1 w2 w3 => (y0 ∈ list) ∧ w0 = s1 ∧ okS s1 w1 w2 ∧ w3 = list) := by
  obtain ⟨hS, h1, hs⟩ := hp
  have hs' : (list.length : Int) ≤ 1000000000 := hs
  refine ⟨⟨hS, by omega, by omega⟩, ?_⟩
  rintro r o0 o1 o2 ⟨hr, rfl, h2⟩
  have := hr.2 (by omega)
  exact ⟨this, el_mem this, rfl, h2, rfl⟩
theorem p_spec_l01Draw (s1 : List Int) (s2 s3 n : Int) (hp : okS s1 s2 s3 ∧ 0 ≤ n ∧ n ≤ 1000) : wp_spec_l01Draw s1 s2 s3 n (fun y0 w0 w1 w2 => ((y0.length : Int) = n ∧ isPerm y0 = true) ∧ w0 = s1 ∧ okS s1 w1 w2) := by
  obtain ⟨hS, h0, h1⟩ := hp
  refine ⟨⟨h0, by omega⟩, ⟨by omega, by omega⟩, fun i l c a h => (-1 ≤ i ∧ i < n) ∧ ((l.length : Int) = n ∧ isPerm l = true) ∧ c = s1 ∧ okS s1 a h, fun i _ _ _ _ => i.toNat, ⟨⟨by omega, by omega⟩, ⟨by simp; omega, isPerm_unitI n⟩, rfl, hS⟩, ?_⟩
  rintro i l c a h ⟨⟨i0, i1⟩, ⟨hl, hP⟩, rfl, hS2⟩
  dsimp only
  refine ⟨fun g => ⟨⟨by omega, by omega⟩, ⟨hS2, by omega, by omega⟩, ?_⟩, fun _ => ⟨⟨hl, hP⟩, rfl, hS2⟩⟩
  rintro r o0 o1 o2 ⟨hr, rfl, h2⟩
  have hr2 := hr.2 (by omega)
  exact ⟨⟨by omega, by omega⟩, ⟨hr2.1, by omega⟩, ⟨by omega, by omega⟩, ⟨hr2.1, by simp; omega⟩, ⟨by omega, by omega⟩, ⟨⟨by omega, by omega⟩, ⟨by simp; omega, swap_perm hP ⟨by omega, by omega⟩ ⟨hr2.1, by omega⟩⟩, rfl, h2⟩, by omega⟩
theorem p_spec_l01Tables (s1 : List Int) (s2 s3 n : Int) (hp : okS s1 s2 s3 ∧ 1 ≤ n ∧ n ≤ 13) : wp_spec_l01Tables s1 s2 s3 n (fun y0 w0 w1 w2 => (rowsN n y0) ∧ w0 = s1 ∧ okS s1 w1 w2) := by
  obtain ⟨hS, n1, n2⟩ := hp
  refine ⟨⟨hS, by omega, by omega⟩, ?_⟩
  rintro k o0 o1 o2 ⟨hk, rfl, h1⟩
  refine ⟨⟨h1, by omega, by omega⟩, ?_⟩
  rintro p p0 p1 p2 ⟨⟨pl, pP⟩, rfl, h2⟩
  have pz := (isPerm_iff.1 pP).2
  refine ⟨fun x o c a h => (0 ≤ x ∧ x ≤ n) ∧ ((o.length : Int) = x ∧ ∀ r ∈ o, (r.length : Int) = n ∧ ∀ z ∈ r, 0 ≤ z ∧ z < n) ∧ c = p0 ∧ okS p0 a h, fun x _ _ _ _ => (n - x).toNat, ⟨⟨by omega, by omega⟩, ⟨rfl, by simp⟩, rfl, h2⟩, ?_⟩
  rintro x o c a h ⟨⟨x0, x1⟩, ⟨ol, ho⟩, rfl, h3⟩
  dsimp only
  refine ⟨fun xn => ⟨⟨h3, by omega, by omega⟩, ?_⟩, fun xn => ⟨⟨by omega, ho⟩, rfl, h3⟩⟩
  rintro q q0 q1 q2 ⟨⟨ql, qP⟩, rfl, h4⟩
  have qz := (isPerm_iff.1 qP).2
  have nx : ∀ (w : List Int) (c' : List Int) (a' h' : Int), (w.length : Int) = n → (∀ z ∈ w, 0 ≤ z ∧ z < n) → c' = q0 → okS q0 a' h' → ((o.length : Int) + (([w]).length : Int) ≤ 1000000000) ∧ InI (x + 1) ∧ ((0 ≤ x + 1 ∧ x + 1 ≤ n) ∧ (((o ++ [w]).length : Int) = x + 1 ∧ ∀ r ∈ o ++ [w], (r.length : Int) = n ∧ ∀ z ∈ r, 0 ≤ z ∧ z < n) ∧ c' = q0 ∧ okS q0 a' h') ∧ (n - (x + 1)).toNat < (n - x).toNat := fun w c' a' h' hw hz hc hs =>
    ⟨by rw [List.length_singleton]; omega, ⟨by omega, by omega⟩, ⟨⟨by omega, by omega⟩, ⟨by simp; omega, mem_app ho ⟨hw, hz⟩⟩, hc, hs⟩, by omega⟩
  refine ⟨fun _ => ?_, fun _ => ⟨fun _ => ?_, fun _ => ?_⟩⟩
  · refine ⟨fun y w c' a' h' => (0 ≤ y ∧ y ≤ n) ∧ ((w.length : Int) = n ∧ ∀ z ∈ w, 0 ≤ z ∧ z < n) ∧ c' = q0 ∧ okS q0 a' h', fun y _ _ _ _ => (n - y).toNat, ⟨⟨by omega, by omega⟩, ⟨ql, fun z hz => by have := qz z hz; omega⟩, rfl, h4⟩, ?_⟩
    rintro y w c' a' h' ⟨⟨y0, y1⟩, ⟨wl, hw⟩, rfl, h5⟩
    dsimp only
    refine ⟨fun yn => ⟨⟨h5, by omega, by omega⟩, ?_⟩, fun yn => nx w _ _ _ wl hw rfl h5⟩
    rintro v b0 b1 b2 ⟨hv, rfl, h6⟩
    have hv2 := hv.2 (by omega)
    refine ⟨⟨y0, by omega⟩, ⟨by omega, by omega⟩, ⟨⟨by omega, by omega⟩, ⟨by simp; omega, fun z hz => ?_⟩, rfl, h6⟩, by omega⟩
    rcases List.mem_or_eq_of_mem_set hz with g | g
    · exact hw z g
    · rw [g]; exact hv2
  · refine ⟨fun y w => (0 ≤ y ∧ y ≤ n) ∧ ((w.length : Int) = n ∧ ∀ z ∈ w, 0 ≤ z ∧ z < n), fun y _ => (n - y).toNat, ⟨⟨by omega, by omega⟩, ⟨ql, fun z hz => by have := qz z hz; omega⟩⟩, ?_⟩
    rintro y w ⟨⟨y0, y1⟩, ⟨wl, hw⟩⟩
    dsimp only
    refine ⟨fun yn => ?_, fun yn => nx w _ _ _ wl hw rfl h4⟩
    have m := gcd_lt (a := x + y) (b := n) (by omega) (by omega)
    have hv2 := pz _ (el_mem (i := (x + y) % n) ⟨m.1, by omega⟩)
    refine ⟨⟨by omega, by omega⟩, ⟨by omega, by omega⟩, ⟨m.1, by omega⟩, ⟨y0, by omega⟩, ⟨by omega, by omega⟩, ⟨⟨by omega, by omega⟩, ⟨by simp; omega, fun z hz => ?_⟩⟩, by omega⟩
    rcases List.mem_or_eq_of_mem_set hz with g | g
    · exact hw z g
    · rw [g]; omega
  · exact nx q _ _ _ ql (fun z hz => by have := qz z hz; omega) rfl h4
theorem p_spec_l01Bad (s1 : List Int) (s2 s3 n : Int) (hp : okS s1 s2 s3 ∧ 1 ≤ n ∧ n ≤ 12) : wp_spec_l01Bad s1 s2 s3 n (fun y0 w0 w1 w2 => (szT y0) ∧ w0 = s1 ∧ okS s1 w1 w2) := by
  obtain ⟨hS, n1, n2⟩ := hp
  refine ⟨⟨hS, n1, by omega⟩, ?_⟩
  rintro t o0 o1 o2 ⟨ht, rfl, h1⟩
  have hl := ht.1
  have hz := szT_rows (by omega) ht
  have hr0 := ht.2 _ (el_mem (l := t) (i := 0) ⟨by omega, by omega⟩)
  refine ⟨⟨h1, by omega, by omega⟩, ?_⟩
  rintro k p0 p1 p2 ⟨hk, rfl, h2⟩
  refine ⟨fun _ => ⟨⟨by omega, by omega⟩, by rw [List.length_singleton]; omega, ⟨by simp; omega, mem_app hz.2 (by simp; omega)⟩, rfl, h2⟩, fun _ => ⟨fun _ => ⟨⟨by omega, by omega⟩, by rw [List.length_singleton]; omega, ⟨by omega, by omega⟩, szT_se hz (by simp; omega), rfl, h2⟩, fun _ => ⟨fun _ => ⟨⟨by omega, by omega⟩, ⟨h2, by simp, by show (_ : Int) ≤ _; simp⟩, ?_⟩, fun _ => ⟨fun _ => ⟨⟨by simp, by simp⟩, rfl, h2⟩, fun _ => ⟨fun _ => ⟨⟨h2, by omega, by omega⟩, ?_⟩, fun _ => ⟨hz, rfl, h2⟩⟩⟩⟩⟩⟩
  · rintro v q0 q1 q2 q3 ⟨_, rfl, h3, _⟩
    exact ⟨⟨by omega, by omega⟩, szT_se hz (by simp; omega), rfl, h3⟩
  · rintro u q0 q1 q2 ⟨hu, rfl, h3⟩
    exact ⟨szT_rows (by omega) hu, rfl, h3⟩
theorem se_el {α : Type} [Inhabited α] {l : List α} {i : Int} (h : 0 ≤ i ∧ i < (l.length : Int)) : se l i (el l i) = l := ext_el (by simp) fun j j0 j1 => by
  by_cases e : j = i
  · subst e; exact el_se_same h
  · exact el_se_ne h.1 j0 (Ne.symm e)
theorem se_se {α : Type} {l : List α} {i : Int} {v w : α} : se (se l i v) i w = se l i w := by simp [se, List.set_set]
theorem p_spec_l01Rename (t : List (List Int)) (p : List Int) (hp : isTab t = true ∧ (p.length : Int) = (t.length : Int) ∧ isPerm p = true) : wp_spec_l01Rename t p (fun y0 => y0 = renT t p) := by
  obtain ⟨ht, hl, hP⟩ := hp
  have hn := isTab_len ht
  refine ⟨fun x o => (0 ≤ x ∧ x ≤ (t.length : Int)) ∧ (o.length : Int) = x ∧ ∀ q ∈ o, (q.length : Int) = (t.length : Int), fun x _ => ((t.length : Int) - x).toNat, ⟨⟨by omega, by omega⟩, rfl, by simp⟩, ?_⟩
  rintro x o ⟨⟨x0, x1⟩, ol, ho⟩
  dsimp only
  refine ⟨fun xn => ⟨⟨by omega, by omega⟩, by rw [List.length_singleton]; omega, ⟨by omega, by omega⟩, ⟨⟨by omega, by omega⟩, by simp; omega, mem_app ho (by simp)⟩, by omega⟩, fun xn => ?_⟩
  refine ⟨fun x o => (0 ≤ x ∧ x ≤ (t.length : Int)) ∧ RnI t p x 0 o, fun x _ => ((t.length : Int) - x).toNat, ⟨⟨by omega, by omega⟩, by omega, fun u u0 u1 => ho _ (el_mem ⟨u0, by omega⟩), fun u v u0 u1 v0 v1 hc => absurd hc (by omega)⟩, ?_⟩
  rintro x o ⟨⟨x0, x1⟩, hR⟩
  dsimp only
  refine ⟨fun xn => ?_, fun xn => by rw [show x = (t.length : Int) by omega] at hR; exact rnI_end hP hl hR⟩
  have lx := rk_len ht ⟨x0, xn⟩
  have px := isPerm_el hP (i := x) ⟨x0, by omega⟩
  have hol := hR.len
  refine ⟨⟨x0, by omega⟩, ⟨px.1, by omega⟩, fun y q => (0 ≤ y ∧ y ≤ (t.length : Int)) ∧ RnI t p x y (se o (el p x) q) ∧ (q.length : Int) = (t.length : Int), fun y _ => ((t.length : Int) - y).toNat, ⟨⟨by omega, by omega⟩, ?_, hR.row _ px.1 (by omega)⟩, ?_⟩
  · rw [se_el ⟨px.1, by omega⟩]; exact hR
  rintro y q ⟨⟨y0, y1⟩, hR2, ql⟩
  dsimp only
  refine ⟨fun yn => ?_, fun yn => ?_⟩
  · have v := rk_el ht ⟨x0, xn⟩ ⟨y0, yn⟩
    have py := isPerm_el hP (i := y) ⟨y0, by omega⟩
    have st := rnI_step hP hl hR2 ⟨x0, xn⟩ ⟨y0, yn⟩
    rw [el_se_same ⟨px.1, by omega⟩, se_se] at st
    exact ⟨⟨y0, by omega⟩, ⟨x0, xn⟩, ⟨y0, by omega⟩, ⟨v.1, by omega⟩, ⟨py.1, by omega⟩, ⟨by omega, by omega⟩, ⟨⟨by omega, by omega⟩, st, by simpa using ql⟩, by omega⟩
  · rw [show y = (t.length : Int) by omega] at hR2
    exact ⟨⟨by omega, by omega⟩, ⟨px.1, by omega⟩, ⟨⟨by omega, by omega⟩, rnI_row hR2⟩, by omega⟩
def tbI (N x : Int) (o : List (List Int)) : Prop := (0 ≤ x ∧ x ≤ N) ∧ (o.length : Int) = x ∧ ∀ r ∈ o, (r.length : Int) = N ∧ ∀ z ∈ r, 0 ≤ z ∧ z < N
def rwI (N y : Int) (r : List Int) : Prop := (0 ≤ y ∧ y ≤ N) ∧ (r.length : Int) = y ∧ ∀ z ∈ r, 0 ≤ z ∧ z < N
theorem tbI0 {N : Int} (h : 0 ≤ N) : tbI N 0 [] := ⟨⟨by omega, h⟩, rfl, by simp⟩
theorem rwI0 {N : Int} (h : 0 ≤ N) : rwI N 0 [] := ⟨⟨by omega, h⟩, rfl, by simp⟩
theorem tbI1 {N x : Int} {o : List (List Int)} {r : List Int} (h : tbI N x o) (hx : x < N) (hr : rwI N N r) : tbI N (x + 1) (o ++ [r]) :=
  ⟨by have := h.1; omega, by have := h.2.1; simp; omega, mem_app h.2.2 ⟨hr.2.1, hr.2.2⟩⟩
theorem rwI1 {N y z : Int} {r : List Int} (h : rwI N y r) (hy : y < N) (hz : 0 ≤ z ∧ z < N) : rwI N (y + 1) (r ++ [z]) :=
  ⟨by have := h.1; omega, by have := h.2.1; simp; omega, mem_app h.2.2 hz⟩
theorem tbI_len {N x : Int} {o : List (List Int)} {r : List Int} (h : tbI N x o) (hN : N ≤ 1000000) : (o.length : Int) + (([r]).length : Int) ≤ 1000000000 := by
  have := h.1; have := h.2.1; rw [List.length_singleton]; omega
theorem rwI_len {N y z : Int} {r : List Int} (h : rwI N y r) (hN : N ≤ 1000000) : (r.length : Int) + (([z]).length : Int) ≤ 1000000000 := by
  have := h.1; have := h.2.1; rw [List.length_singleton]; omega
theorem tbI_pair {N x : Int} {o q : List (List Int)} (h1 : 1 ≤ N ∧ N ≤ 12) (hx : ¬ x < N) (h : tbI N x o ∧ tbI N x q) : pairN N o q := by
  obtain ⟨⟨a1, a2, a3⟩, b1, b2, b3⟩ := h
  exact ⟨isTab_rows h1 (by omega) a3, isTab_rows h1 (by omega) b3, by omega, by omega⟩
theorem p_spec_l02Twist (p q : List Int) (hp : (p.length : Int) ≤ 1000000 ∧ q.length = p.length) : wp_spec_l02Twist p q (fun y0 y1 => y0 = (tab (p.length : Int) (fun _ y_ => el p y_)) ∧ y1 = (tab (p.length : Int) (fun x_ _ => el q x_))) := by
  obtain ⟨h1, h2⟩ := hp
  refine ⟨fun x a b => (0 ≤ x ∧ x ≤ (p.length : Int)) ∧ a = ran x (fun _ => p) ∧ b = ran x (fun x => ran (p.length : Int) fun _ => el q x), fun x _ _ => ((p.length : Int) - x).toNat, ⟨⟨by omega, by omega⟩, rfl, rfl⟩, ?_⟩
  rintro x a b ⟨⟨x0, x1⟩, rfl, rfl⟩
  dsimp only
  refine ⟨fun xn => ?_, fun xn => ?_⟩
  · refine ⟨fun y r => (0 ≤ y ∧ y ≤ (p.length : Int)) ∧ r = ran y fun _ => el q x, fun y _ => ((p.length : Int) - y).toNat, ⟨⟨by omega, by omega⟩, rfl⟩, ?_⟩
    rintro y r ⟨⟨y0, y1⟩, rfl⟩
    dsimp only
    refine ⟨fun yn => ⟨⟨x0, by omega⟩, by simp; omega, ⟨by omega, by omega⟩, ⟨⟨by omega, by omega⟩, (ran_snoc y0).symm⟩, by omega⟩, fun yn => ?_⟩
    rw [show y = (p.length : Int) by omega]
    exact ⟨by show (_ : Int) ≤ _; omega, by simp; omega, by simp; omega, ⟨by omega, by omega⟩, ⟨⟨by omega, by omega⟩, (ran_snoc x0).symm, (ran_snoc (f := fun x => ran (p.length : Int) fun _ => el q x) x0).symm⟩, by omega⟩
  · rw [show x = (p.length : Int) by omega]
    refine ⟨?_, rfl⟩
    show ran (p.length : Int) (fun _ => p) = ran (p.length : Int) (fun _ => ran (p.length : Int) (el p))
    rw [ran_el]
theorem p_spec_l02Flip (n : Int) (hp : 0 ≤ n ∧ n ≤ 1000) : wp_spec_l02Flip n (fun y0 y1 => y0 = (tab n (fun _ y_ => y_)) ∧ y1 = (tab n (fun x_ _ => x_))) := by
  have hl : ((unitI n).length : Int) = n := by simp; omega
  refine ⟨⟨hp.1, by omega⟩, ⟨by omega, rfl⟩, ?_⟩
  rw [hl]
  exact ⟨tab_congr fun i j i0 i1 j0 j1 => el_unitI ⟨j0, j1⟩, tab_congr fun i j i0 i1 j0 j1 => el_unitI ⟨i0, i1⟩⟩
theorem pairN_twist {n : Int} {p q : List Int} (hn : 1 ≤ n ∧ n ≤ 12) (pl : (p.length : Int) = n) (ql : (q.length : Int) = n) (hp : ∀ z ∈ p, 0 ≤ z ∧ z < n) (hq : ∀ z ∈ q, 0 ≤ z ∧ z < n) : pairN n (tab (p.length : Int) fun _ y_ => el p y_) (tab (p.length : Int) fun x_ _ => el q x_) := by
  rw [pl]
  exact ⟨isTab_tab hn fun x y x0 x1 y0 y1 => hp _ (el_mem ⟨y0, by omega⟩), isTab_tab hn fun x y x0 x1 y0 y1 => hq _ (el_mem ⟨x0, by omega⟩), len_tab (by omega), len_tab (by omega)⟩
theorem p_spec_l02Twisted (s1 : List Int) (s2 s3 n : Int) (hp : okS s1 s2 s3 ∧ 1 ≤ n ∧ n ≤ 12) : wp_spec_l02Twisted s1 s2 s3 n (fun y0 y1 w0 w1 w2 => (pairN n y0 y1) ∧ w0 = s1 ∧ okS s1 w1 w2) := by
  obtain ⟨hS, hn⟩ := hp
  refine ⟨⟨hS, by omega, by omega⟩, ?_⟩
  rintro p o0 o1 o2 ⟨⟨pl, pP⟩, rfl, h1⟩
  have pz := (isPerm_iff.1 pP).2
  rw [pl] at pz
  refine ⟨⟨by omega, by omega⟩, ⟨h1, by omega, by omega⟩, ?_⟩
  rintro k p0 p1 p2 ⟨hk, rfl, h2⟩
  have hk2 := hk.2 (by omega)
  refine ⟨fun q i => (q.length : Int) = n ∧ (∀ z ∈ q, 0 ≤ z ∧ z < n) ∧ i ≤ 4, fun _ i => i.toNat, ⟨by simp; omega, fun z hz => by have := (isPerm_iff.1 (isPerm_unitI n)).2 z hz; simp at this; omega, by omega⟩, ?_⟩
  rintro q i ⟨ql, qz, i1⟩
  dsimp only
  refine ⟨fun g => ⟨⟨by show (_ : Int) ≤ _; omega, fun z hz => by have := qz z hz; omega⟩, ⟨by omega, by omega⟩, ⟨by simp; omega, fun z hz => ?_, by omega⟩, by omega⟩, fun _ => ⟨⟨h2, by omega, by omega⟩, ?_⟩⟩
  · obtain ⟨w, hw, rfl⟩ := List.mem_map.1 hz
    have := qz w hw
    exact pz _ (el_mem ⟨this.1, by omega⟩)
  · rintro v q0 q1 q2 ⟨_, rfl, h3⟩
    exact ⟨fun _ => ⟨⟨by omega, by omega⟩, pairN_twist hn pl ql pz qz, rfl, h3⟩, fun _ => ⟨⟨by omega, by omega⟩, pairN_twist hn ql pl qz pz, rfl, h3⟩⟩
theorem p_spec_l02Polygon (n : Int) (hp : 1 ≤ n ∧ n ≤ 12) : wp_spec_l02Polygon n (fun y0 y1 => y0 = (tab n (fun x_ y_ => (2 * x_ - y_ + n) % n)) ∧ y1 = (tab n (fun x_ _ => x_))) := by
  refine ⟨fun x a b => (0 ≤ x ∧ x ≤ n) ∧ a = ran x (fun x_ => ran n fun y_ => (2 * x_ - y_ + n) % n) ∧ b = ran x (fun x_ => ran n fun _ => x_), fun x _ _ => (n - x).toNat, ⟨⟨by omega, by omega⟩, rfl, rfl⟩, ?_⟩
  rintro x a b ⟨⟨x0, x1⟩, rfl, rfl⟩
  dsimp only
  refine ⟨fun xn => ?_, fun xn => by rw [show x = n by omega]; exact ⟨rfl, rfl⟩⟩
  refine ⟨fun y r s => (0 ≤ y ∧ y ≤ n) ∧ r = (ran y fun y_ => (2 * x - y_ + n) % n) ∧ s = ran y fun _ => x, fun y _ _ => (n - y).toNat, ⟨⟨by omega, by omega⟩, rfl, rfl⟩, ?_⟩
  rintro y r s ⟨⟨y0, y1⟩, rfl, rfl⟩
  dsimp only
  refine ⟨fun yn => ⟨⟨by omega, by omega⟩, ⟨by omega, by omega⟩, ⟨by omega, by omega⟩, ⟨by omega, by omega⟩, by simp; omega, by simp; omega, ⟨by omega, by omega⟩, ⟨⟨by omega, by omega⟩, (ran_snoc (f := fun y_ => (2 * x - y_ + n) % n) y0).symm, (ran_snoc (f := fun _ => x) y0).symm⟩, by omega⟩, fun yn => ?_⟩
  rw [show y = n by omega]
  exact ⟨by simp; omega, by simp; omega, ⟨by omega, by omega⟩, ⟨⟨by omega, by omega⟩, (ran_snoc (f := fun x_ => ran n fun y_ => (2 * x_ - y_ + n) % n) x0).symm, (ran_snoc (f := fun x_ => ran n fun _ => x_) x0).symm⟩, by omega⟩
theorem p_spec_l02Product (s1 s2 t1 t2 : List (List Int)) (hp : ∃ n_ m_ : Int, pairN n_ s1 s2 ∧ pairN m_ t1 t2 ∧ n_ * m_ ≤ 12) : wp_spec_l02Product s1 s2 t1 t2 (fun y0 y1 => pairN ((s1.length : Int) * (t1.length : Int)) y0 y1) := by
  obtain ⟨n, m, ⟨a1, a2, rfl, la⟩, ⟨b1, b2, rfl, lb⟩, hm⟩ := hp
  have hN1 := pro_one a1 b1
  have ha := isTab_len a1
  have hb := isTab_len b1
  have hND : ∀ x y : Int, (0 ≤ x ∧ x < (s1.length : Int)) → (0 ≤ y ∧ y < (t1.length : Int)) → 0 ≤ x * (t1.length : Int) + y ∧ x * (t1.length : Int) + y < (s1.length : Int) * (t1.length : Int) ∧ 0 ≤ x * (t1.length : Int) ∧ x * (t1.length : Int) ≤ 1000000 := fun x y hx hy => by
    have h1 : 0 ≤ x * (t1.length : Int) := Int.mul_nonneg hx.1 (by omega)
    have h2 : (x + 1) * (t1.length : Int) ≤ (s1.length : Int) * (t1.length : Int) := Int.mul_le_mul_of_nonneg_right (by omega) (by omega)
    rw [Int.add_mul] at h2
    omega
  generalize hNN : (s1.length : Int) * (t1.length : Int) = N at *
  unfold wp_spec_l02Product
  rw [hNN]
  refine ⟨fun x o q => tbI N x o ∧ tbI N x q, fun x _ _ => (N - x).toNat, ⟨tbI0 (by omega), tbI0 (by omega)⟩, ?_⟩
  rintro x o q ⟨ho, hq⟩
  have hx0 := ho.1
  dsimp only
  refine ⟨⟨by omega, by omega⟩, fun xn => ?_, fun xn => tbI_pair ⟨hN1, hm⟩ xn ⟨ho, hq⟩⟩
  refine ⟨fun y r u => rwI N y r ∧ rwI N y u, fun y _ _ => (N - y).toNat, ⟨rwI0 (by omega), rwI0 (by omega)⟩, ?_⟩
  rintro y r u ⟨hr, hu⟩
  have hy0 := hr.1
  dsimp only
  refine ⟨⟨by omega, by omega⟩, fun yn => ?_, fun yn => ?_⟩
  · obtain ⟨dx, mx⟩ := dm_in (x := x) (n := (s1.length : Int)) (m := (t1.length : Int)) (by omega) (by omega) ⟨by omega, by rw [hNN]; omega⟩
    obtain ⟨dy, my⟩ := dm_in (x := y) (n := (s1.length : Int)) (m := (t1.length : Int)) (by omega) (by omega) ⟨by omega, by rw [hNN]; omega⟩
    have v1 := rk_el a1 dx dy
    have w1 := rk_el b1 mx my
    have v2 := rk_el a2 (x := x / (t1.length : Int)) (y := y / (t1.length : Int)) (by omega) (by omega)
    have w2 := rk_el b2 (x := x % (t1.length : Int)) (y := y % (t1.length : Int)) (by omega) (by omega)
    have c1 := hND _ _ v1 w1
    have c2 := hND (el (el s2 (x / (t1.length : Int))) (y / (t1.length : Int))) (el (el t2 (x % (t1.length : Int))) (y % (t1.length : Int))) (by omega) (by omega)
    have l1 := rk_len a1 dx
    have l2 := rk_len b1 mx
    have l3 := rk_len a2 (x := x / (t1.length : Int)) (by omega)
    have l4 := rk_len b2 (x := x % (t1.length : Int)) (by omega)
    have q1 := rwI1 hr yn ⟨c1.1, c1.2.1⟩
    have q2 := rwI1 hu yn ⟨c2.1, c2.2.1⟩
    have n1 := rwI_len (z := el (el s1 (x / (t1.length : Int))) (y / (t1.length : Int)) * (t1.length : Int) + el (el t1 (x % (t1.length : Int))) (y % (t1.length : Int))) hr (by omega)
    have n2 := rwI_len (z := el (el s2 (x / (t1.length : Int))) (y / (t1.length : Int)) * (t1.length : Int) + el (el t2 (x % (t1.length : Int))) (y % (t1.length : Int))) hu (by omega)
    exact ⟨⟨by omega, by omega, by omega⟩, ⟨by omega, by omega, by omega⟩, ⟨by omega, by omega⟩, ⟨by omega, by omega⟩, dx, ⟨dy.1, by omega⟩, ⟨by omega, by omega⟩, mx, ⟨my.1, by omega⟩, ⟨by omega, by omega⟩, n1,
      ⟨by omega, by omega, by omega⟩, ⟨by omega, by omega, by omega⟩, ⟨by omega, by omega⟩, ⟨by omega, by omega⟩, ⟨dx.1, by omega⟩, ⟨dy.1, by omega⟩, ⟨by omega, by omega⟩, ⟨mx.1, by omega⟩, ⟨my.1, by omega⟩, ⟨by omega, by omega⟩, n2, ⟨by omega, by omega⟩, ⟨q1, q2⟩, by omega⟩
  · rw [show y = N by omega] at hr hu
    exact ⟨tbI_len ho (by omega), tbI_len hq (by omega), ⟨by omega, by omega⟩, ⟨tbI1 ho xn hr, tbI1 hq xn hu⟩, by omega⟩
theorem p_spec_l02Union (s1 s2 t1 t2 : List (List Int)) (hp : ∃ n_ m_ : Int, pairN n_ s1 s2 ∧ pairN m_ t1 t2 ∧ n_ + m_ ≤ 12) : wp_spec_l02Union s1 s2 t1 t2 (fun y0 y1 => pairN ((s1.length : Int) + (t1.length : Int)) y0 y1) := by
  obtain ⟨n, m, ⟨a1, a2, rfl, la⟩, ⟨b1, b2, rfl, lb⟩, hm⟩ := hp
  have ha := isTab_len a1
  have hb := isTab_len b1
  unfold wp_spec_l02Union
  refine ⟨fun x o q => tbI ((s1.length : Int) + (t1.length : Int)) x o ∧ tbI ((s1.length : Int) + (t1.length : Int)) x q, fun x _ _ => ((s1.length : Int) + (t1.length : Int) - x).toNat, ⟨tbI0 (by omega), tbI0 (by omega)⟩, ?_⟩
  rintro x o q ⟨ho, hq⟩
  have hx0 := ho.1
  dsimp only
  refine ⟨⟨by omega, by omega⟩, fun xn => ?_, fun xn => tbI_pair ⟨by omega, hm⟩ xn ⟨ho, hq⟩⟩
  refine ⟨fun y r u => rwI ((s1.length : Int) + (t1.length : Int)) y r ∧ rwI ((s1.length : Int) + (t1.length : Int)) y u, fun y _ _ => ((s1.length : Int) + (t1.length : Int) - y).toNat, ⟨rwI0 (by omega), rwI0 (by omega)⟩, ?_⟩
  rintro y r u ⟨hr, hu⟩
  have hy0 := hr.1
  dsimp only
  refine ⟨⟨by omega, by omega⟩, fun yn => ?_, fun yn => ?_⟩
  · have nx : ∀ v w : Int, (0 ≤ v ∧ v < (s1.length : Int) + (t1.length : Int)) → (0 ≤ w ∧ w < (s1.length : Int) + (t1.length : Int)) → InI (y + 1) ∧ (rwI ((s1.length : Int) + (t1.length : Int)) (y + 1) (r ++ [v]) ∧ rwI ((s1.length : Int) + (t1.length : Int)) (y + 1) (u ++ [w])) ∧ ((s1.length : Int) + (t1.length : Int) - (y + 1)).toNat < ((s1.length : Int) + (t1.length : Int) - y).toNat := fun v w hv hw =>
      ⟨⟨by omega, by omega⟩, ⟨rwI1 hr yn hv, rwI1 hu yn hw⟩, by omega⟩
    have lr : ∀ z : Int, (r.length : Int) + (([z]).length : Int) ≤ 1000000000 := fun z => rwI_len hr (by omega)
    have lu : ∀ z : Int, (u.length : Int) + (([z]).length : Int) ≤ 1000000000 := fun z => rwI_len hu (by omega)
    have sw : (((y : Int) * 0 = 0) → True) := fun _ => trivial
    refine ⟨fun xk => ⟨fun yk => ?_, fun yk => ⟨fun g => absurd g (by omega), fun _ => ⟨lr y, lu x, nx y x (by omega) (by omega)⟩⟩⟩, fun xk => ⟨fun _ => ⟨fun yk => ?_, fun _ => ⟨lr y, lu x, nx y x (by omega) (by omega)⟩⟩, fun g => absurd g (by omega)⟩⟩
    · have v1 := rk_el a1 (x := x) (y := y) (by omega) (by omega)
      have v2 := rk_el a2 (x := x) (y := y) (by omega) (by omega)
      have l1 := rk_len a1 (x := x) (by omega)
      have l2 := rk_len a2 (x := x) (by omega)
      exact ⟨⟨by omega, by omega⟩, ⟨by omega, by omega⟩, lr _, ⟨by omega, by omega⟩, ⟨by omega, by omega⟩, lu _, nx _ _ (by omega) (by omega)⟩
    · have v1 := rk_el b1 (x := x - (s1.length : Int)) (y := y - (s1.length : Int)) (by omega) (by omega)
      have v2 := rk_el b2 (x := x - (s1.length : Int)) (y := y - (s1.length : Int)) (by omega) (by omega)
      have l1 := rk_len b1 (x := x - (s1.length : Int)) (by omega)
      have l2 := rk_len b2 (x := x - (s1.length : Int)) (by omega)
      exact ⟨⟨by omega, by omega⟩, ⟨by omega, by omega⟩, ⟨by omega, by omega⟩, ⟨by omega, by omega⟩, ⟨by omega, by omega⟩, lr _, ⟨by omega, by omega⟩, ⟨by omega, by omega⟩, ⟨by omega, by omega⟩, ⟨by omega, by omega⟩, ⟨by omega, by omega⟩, lu _, nx _ _ (by omega) (by omega)⟩
  · rw [show y = (s1.length : Int) + (t1.length : Int) by omega] at hr hu
    exact ⟨tbI_len ho (by omega), tbI_len hq (by omega), ⟨by omega, by omega⟩, ⟨tbI1 ho xn hr, tbI1 hq xn hu⟩, by omega⟩
theorem p_spec_l02Inverse (s1 s2 : List (List Int)) (hp : pairN (s1.length : Int) s1 s2) : wp_spec_l02Inverse s1 s2 (fun y0 y1 => pairN (s1.length : Int) y0 y1) := by
  obtain ⟨a1, a2, _, la⟩ := hp
  have hn := isTab_len a1
  have h0 : isTab (tab (s1.length : Int) fun _ _ => 0) = true := isTab_tab hn fun _ _ _ _ _ _ => by omega
  have l0 : ((tab (s1.length : Int) fun _ _ => 0).length : Int) = (s1.length : Int) := len_tab (by omega)
  refine ⟨⟨by omega, by omega⟩, fun x o q => (0 ≤ x ∧ x ≤ (s1.length : Int)) ∧ pairN (s1.length : Int) o q, fun x _ _ => ((s1.length : Int) - x).toNat, ⟨⟨by omega, by omega⟩, h0, h0, l0, l0⟩, ?_⟩
  rintro x o q ⟨hx, hP⟩
  dsimp only
  refine ⟨fun xn => ?_, fun _ => hP⟩
  refine ⟨fun y o q => (0 ≤ y ∧ y ≤ (s1.length : Int)) ∧ pairN (s1.length : Int) o q, fun y _ _ => ((s1.length : Int) - y).toNat, ⟨⟨by omega, by omega⟩, hP⟩, ?_⟩
  rintro y o q ⟨hy, to, tq, lo, lq⟩
  dsimp only
  refine ⟨fun yn => ?_, fun yn => ⟨⟨by omega, by omega⟩, ⟨⟨by omega, by omega⟩, to, tq, lo, lq⟩, by omega⟩⟩
  have v := rk_el a1 (x := x) (y := y) (by omega) (by omega)
  have w := rk_el a2 (x := x) (y := y) (by omega) (by omega)
  have l1 := rk_len a1 (x := x) (by omega)
  have l2 := rk_len a2 (x := x) (by omega)
  have l3 := rk_len to (x := el (el s1 x) y) (by omega)
  have l4 := rk_len tq (x := el (el s1 x) y) (by omega)
  exact ⟨⟨by omega, by omega⟩, ⟨by omega, by omega⟩, ⟨by omega, by omega⟩, ⟨by omega, by omega⟩, ⟨by omega, by omega⟩, ⟨by omega, by omega⟩, ⟨by omega, by omega⟩, ⟨by omega, by omega⟩, ⟨by omega, by omega⟩, ⟨by omega, by omega⟩, ⟨by omega, by omega⟩, ⟨by omega, by omega⟩, ⟨by omega, by omega⟩,
    ⟨⟨by omega, by omega⟩, isTab_se to (by omega) (by omega) (by omega), isTab_se tq (by omega) (by omega) (by omega), by simpa using lo, by simpa using lq⟩, by omega⟩
theorem p_spec_l02Involutive (rows : List (List Int)) (hp : isTab rows = true ∧ rows.all isPerm = true) : wp_spec_l02Involutive rows (fun y0 y1 => pairN (rows.length : Int) y0 y1) := by
  obtain ⟨ht, hP⟩ := hp
  have hn := isTab_len ht
  refine ⟨szT_small (szT_tab ht), fun x o => tbI (rows.length : Int) x o, fun x _ => ((rows.length : Int) - x).toNat, tbI0 (by omega), ?_⟩
  rintro x o ho
  have hx := ho.1
  dsimp only
  refine ⟨fun xn => ?_, fun xn => ⟨ht, isTab_rows hn (by have := ho.2.1; omega) ho.2.2, rfl, by have := ho.2.1; omega⟩⟩
  refine ⟨fun y r => rwI (rows.length : Int) y r, fun y _ => ((rows.length : Int) - y).toNat, rwI0 (by omega), ?_⟩
  rintro y r hr
  have hy := hr.1
  dsimp only
  refine ⟨fun yn => ?_, fun yn => ?_⟩
  · have v := rk_el ht (x := x) (y := y) (by omega) (by omega)
    have l1 := rk_len ht (x := x) (by omega)
    have l2 := rk_len ht v
    have i := (idxI_spec (isPerm_all (all_perm_el hP v) (x := x) ⟨by omega, by omega⟩)).1
    exact ⟨⟨by omega, by omega⟩, ⟨by omega, by omega⟩, v, by show (_ : Int) ≤ _; omega, rwI_len hr (by omega), ⟨by omega, by omega⟩, rwI1 hr yn ⟨i.1, by omega⟩, by omega⟩
  · rw [show y = (rows.length : Int) by omega] at hr
    exact ⟨tbI_len ho (by omega), ⟨by omega, by omega⟩, tbI1 ho xn hr, by omega⟩
theorem p_spec_l02Rename (s1 s2 : List (List Int)) (p : List Int) (hp : isTab s1 = true ∧ isTab s2 = true ∧ s2.length = s1.length ∧ (p.length : Int) = (s1.length : Int) ∧ isPerm p = true) : wp_spec_l02Rename s1 s2 p (fun y0 y1 => y0 = (renT s1 p) ∧ y1 = (renT s2 p)) :=
  ⟨⟨hp.1, hp.2.2.2.1, hp.2.2.2.2⟩, ⟨hp.2.1, by have := hp.2.2.1; have := hp.2.2.2.1; omega, hp.2.2.2.2⟩, rfl, rfl⟩
theorem pairN_flip {n : Int} (hn : 1 ≤ n ∧ n ≤ 12) : pairN n (tab n fun _ y_ => y_) (tab n fun x_ _ => x_) := ⟨isTab_tab hn fun _ _ _ _ y0 y1 => ⟨y0, y1⟩, isTab_tab hn fun _ _ x0 x1 _ _ => ⟨x0, x1⟩, len_tab (by omega), len_tab (by omega)⟩
theorem pairN_poly {n : Int} (hn : 1 ≤ n ∧ n ≤ 12) : pairN n (tab n fun x_ y_ => (2 * x_ - y_ + n) % n) (tab n fun x_ _ => x_) := ⟨isTab_tab hn fun x y _ _ _ _ => ⟨Int.emod_nonneg _ (by omega), Int.emod_lt_of_pos _ (by omega)⟩, isTab_tab hn fun _ _ x0 x1 _ _ => ⟨x0, x1⟩, len_tab (by omega), len_tab (by omega)⟩
theorem pairN_self {n : Int} {a b : List (List Int)} (h : pairN n a b) {most : Int} (hm : n ≤ most) : pairM most a b := ⟨⟨h.1, h.2.1, rfl, by have := h.2.2; omega⟩, by have := h.2.2; omega⟩
theorem p_spec_l02Any (s1 : List Int) (s2 s3 most : Int) (hp : okS s1 s2 s3 ∧ 1 ≤ most ∧ most ≤ 12) : wp_spec_l02Any s1 s2 s3 most (fun y0 y1 w0 w1 w2 => (pairM most y0 y1) ∧ w0 = s1 ∧ okS s1 w1 w2) := by
  obtain ⟨hS, m1, m2⟩ := hp
  refine ⟨⟨hS, by omega, by omega⟩, ?_⟩
  rintro r o0 o1 o2 ⟨hr, rfl, h1⟩
  have hr2 := hr.2 (by omega)
  refine ⟨⟨by omega, by omega⟩, ⟨h1, by omega, by omega⟩, ?_⟩
  rintro k p0 p1 p2 ⟨hk, rfl, h2⟩
  have tw : (okS p0 p1 p2 ∧ 1 ≤ (1 + r) ∧ (1 + r) ≤ 12) ∧ ∀ (u v : List (List Int)) (a0 : List Int) (a1 a2 : Int), ((pairN (1 + r) u v) ∧ a0 = p0 ∧ okS p0 a1 a2) → (pairM most u v) ∧ a0 = p0 ∧ okS p0 a1 a2 := ⟨⟨h2, by omega, by omega⟩, fun u v a0 a1 a2 h => ⟨pairN_self h.1 (by omega), h.2⟩⟩
  refine ⟨fun _ => ⟨⟨by omega, by omega⟩, pairN_self (pairN_flip (by omega)) (by omega), rfl, h2⟩, fun _ => ⟨fun _ => ⟨⟨by omega, by omega⟩, pairN_self (pairN_poly (by omega)) (by omega), rfl, h2⟩, fun _ => ⟨fun _ => ⟨fun g4 => ⟨⟨by omega, by omega⟩, fun ev => ?_, fun _ => tw⟩, fun _ => tw⟩, fun _ => ⟨fun _ => ⟨fun g2 => ?_, fun _ => tw⟩, fun _ => ⟨fun _ => ⟨fun g4 => ⟨by decide +kernel, fun u v h => ⟨pairN_self h (by simpa using g4), rfl, h2⟩⟩, fun _ => tw⟩,
    fun _ => ⟨fun _ => ⟨fun _ => ⟨⟨by omega, by omega⟩, ?_, fun u v h => ⟨pairN_self h (by rw [len_tab (by omega)]; omega), rfl, h2⟩⟩, fun _ => tw⟩, fun _ => ⟨fun _ => ⟨fun g3 => ⟨by decide +kernel, fun u v h => ⟨pairN_self h (by simpa using g3), rfl, h2⟩⟩, fun _ => tw⟩, fun _ => tw⟩⟩⟩⟩⟩⟩⟩
  · refine ⟨⟨by omega, by omega, by omega⟩, ⟨h2, by omega, by omega⟩, ?_⟩
    rintro u v a0 a1 a2 ⟨hu, rfl, h3⟩
    refine ⟨⟨h3, by omega, by omega⟩, ?_⟩
    rintro u2 v2 b0 b1 b2 ⟨hu2, rfl, h4⟩
    refine ⟨⟨_, _, hu, hu2, by omega⟩, fun w x h => ⟨pairN_self h ?_, rfl, h4⟩⟩
    rw [hu.2.2.1, hu2.2.2.1]; omega
  · refine ⟨⟨by omega, by omega⟩, ⟨h2, by omega, by omega⟩, ?_⟩
    rintro j a0 a1 a2 ⟨hj, rfl, h3⟩
    have hj2 := hj.2 (by omega)
    refine ⟨⟨by omega, by omega⟩, by omega, ⟨h3, by omega, by omega⟩, ?_⟩
    rintro u v b0 b1 b2 ⟨hu, rfl, h4⟩
    refine ⟨⟨by omega, by omega⟩, ⟨h4, by omega, by omega⟩, ?_⟩
    rintro u2 v2 c0 c1 c2 ⟨hu2, rfl, h5⟩
    have := hu.2
    refine ⟨⟨_, _, hu.1, hu2, by omega⟩, fun w x h => ⟨pairN_self h ?_, rfl, h5⟩⟩
    rw [hu2.2.2.1]; omega
  · rw [len_tab (by omega)]; exact pairN_poly (by omega)
theorem p_spec_l02Draw (s1 : List Int) (s2 s3 most : Int) (hp : okS s1 s2 s3 ∧ 1 ≤ most ∧ most ≤ 12) : wp_spec_l02Draw s1 s2 s3 most (fun y0 y1 w0 w1 w2 => (pairM most y0 y1) ∧ w0 = s1 ∧ okS s1 w1 w2) := by
  refine ⟨hp, ?_⟩
  rintro t u o0 o1 o2 ⟨ht, rfl, h1⟩
  obtain ⟨⟨ta, tb, _, tl⟩, tm⟩ := ht
  have hn := isTab_len ta
  refine ⟨⟨h1, by omega, by omega⟩, ?_⟩
  rintro k p0 p1 p2 ⟨_, rfl, h2⟩
  refine ⟨fun _ => ⟨⟨h2, by omega, by omega⟩, ?_⟩, fun _ => ⟨⟨⟨ta, tb, rfl, tl⟩, tm⟩, rfl, h2⟩⟩
  rintro p q0 q1 q2 ⟨⟨pl, pP⟩, rfl, h3⟩
  have l1 : ((renT t p).length : Int) = (t.length : Int) := len_tab (by omega)
  have l2 : ((renT u p).length : Int) = (u.length : Int) := len_tab (by omega)
  exact ⟨⟨ta, tb, by omega, pl, pP⟩, ⟨⟨isTab_ren ta pP pl, isTab_ren tb pP (by omega), rfl, by omega⟩, by omega⟩, rfl, h3⟩
theorem p_spec_l05Any (s1 : List Int) (s2 s3 most : Int) (hp : okS s1 s2 s3 ∧ 1 ≤ most ∧ most ≤ 12) : wp_spec_l05Any s1 s2 s3 most (fun y0 w0 w1 w2 => (isTab y0 = true ∧ (y0.length : Int) ≤ most ∧ y0.all isPerm = true) ∧ w0 = s1 ∧ okS s1 w1 w2) := by
  obtain ⟨hS, m1, m2⟩ := hp
  refine ⟨⟨hS, by omega, by omega⟩, ?_⟩
  rintro r o0 o1 o2 ⟨hr, rfl, h1⟩
  have hr2 := hr.2 (by omega)
  refine ⟨⟨by omega, by omega⟩, ⟨h1, by omega, by omega⟩, ?_⟩
  rintro k p0 p1 p2 ⟨_, rfl, h2⟩
  have pf : isTab (tab (1 + r) fun _ y_ => y_) = true := (pairN_flip (by omega)).1
  have fin : (0 ≤ (1 + r) ∧ (1 + r) ≤ 1000) ∧ (isTab (tab (1 + r) (fun _ y_ => y_)) = true ∧ (tab (1 + r) (fun _ y_ => y_)).all isPerm = true) ∧ ∀ (a h : Int), okS p0 a h → (isTab ((tab (1 + r) (fun _ y_ => y_)).map backI) = true ∧ (((tab (1 + r) (fun _ y_ => y_)).map backI).length : Int) ≤ most ∧ ((tab (1 + r) (fun _ y_ => y_)).map backI).all isPerm = true) ∧ p0 = p0 ∧ okS p0 a h :=
    ⟨⟨by omega, by omega⟩, ⟨pf, unit_rows⟩, fun a h hh => ⟨⟨isTab_back pf unit_rows, by rw [List.length_map, len_tab (by omega)]; omega, back_rows unit_rows⟩, rfl, hh⟩⟩
  have sol : ∀ {x y : List (List Int)}, pairM (1 + r) x y → ndB x y = true → (isTab x = true ∧ x.all isPerm = true) ∧ isTab (x.map backI) = true ∧ ((x.map backI).length : Int) ≤ most ∧ (x.map backI).all isPerm = true := fun {x y} hxy hnd => by
    simp only [ndB, Bool.and_eq_true] at hnd
    have := hxy.2
    exact ⟨⟨hxy.1.1, hnd.1⟩, isTab_back hxy.1.1 hnd.1, by rw [List.length_map]; omega, back_rows hnd.1⟩
  refine ⟨fun _ => ?_, fun _ => ?_⟩
  · refine ⟨fun i c a h => (0 ≤ i ∧ i ≤ 30) ∧ c = p0 ∧ okS p0 a h, fun i _ _ _ => (30 - i).toNat, ⟨⟨by omega, by omega⟩, rfl, h2⟩, ?_⟩
    rintro i c a h ⟨hi, rfl, h3⟩
    dsimp only
    refine ⟨fun ilt => ⟨⟨h3, by omega, by omega⟩, ?_⟩, fun _ => ?_⟩
    · rintro x a0 a1 a2 ⟨hx, rfl, h4⟩
      have hx2 := hx.2 (by omega)
      refine ⟨⟨h4, by omega, by omega⟩, ?_⟩
      rintro y b0 b1 b2 ⟨hy, rfl, h5⟩
      have hy2 := hy.2 (by omega)
      refine ⟨⟨h5, by omega, by omega⟩, ?_⟩
      rintro z c0 c1 c2 ⟨hz, rfl, h6⟩
      have hz2 := hz.2 (by omega)
      have ta : isTab (tab (1 + r) (fun x_ y_ => (x * x_ + y * y_ + z) % (1 + r))) = true := isTab_tab (by omega) fun u v _ _ _ _ => ⟨Int.emod_nonneg _ (by omega), Int.emod_lt_of_pos _ (by omega)⟩
      exact ⟨⟨by omega, by omega, hx2.1, hx2.2, hy2.1, hy2.2, hz2.1, hz2.2⟩, szT_small (szT_tab ta), fun g => ⟨⟨ta, by rw [len_tab (by omega)]; omega, isCyc_perm g⟩, rfl, h6⟩, fun _ => ⟨⟨by omega, by omega⟩, ⟨⟨by omega, by omega⟩, rfl, h6⟩, by omega⟩⟩
    · refine ⟨fun i d a h => (0 ≤ i ∧ i ≤ 8) ∧ d = c ∧ okS c a h, fun i _ _ _ => (8 - i).toNat, ⟨⟨by omega, by omega⟩, rfl, h3⟩, ?_⟩
      rintro j d a' h' ⟨hj, rfl, h4⟩
      dsimp only
      refine ⟨fun jlt => ⟨⟨h4, by omega, by omega⟩, ?_⟩, fun _ => ⟨fin.1, fin.2.1, fin.2.2 _ _ h4⟩⟩
      rintro x y a0 a1 a2 ⟨hxy, rfl, h5⟩
      have pm := pairN_pm hxy.1
      exact ⟨pm, fun nd => ⟨pm, fun _ => ⟨(sol hxy nd).1, (sol hxy nd).2, rfl, h5⟩, fun _ => ⟨⟨by omega, by omega⟩, ⟨⟨by omega, by omega⟩, rfl, h5⟩, by omega⟩⟩, fun _ => ⟨⟨by omega, by omega⟩, ⟨⟨by omega, by omega⟩, rfl, h5⟩, by omega⟩⟩
  · refine ⟨fun i d a h => (0 ≤ i ∧ i ≤ 8) ∧ d = p0 ∧ okS p0 a h, fun i _ _ _ => (8 - i).toNat, ⟨⟨by omega, by omega⟩, rfl, h2⟩, ?_⟩
    rintro j d a' h' ⟨hj, rfl, h4⟩
    dsimp only
    refine ⟨fun jlt => ⟨⟨h4, by omega, by omega⟩, ?_⟩, fun _ => ⟨fin.1, fin.2.1, fin.2.2 _ _ h4⟩⟩
    rintro x y a0 a1 a2 ⟨hxy, rfl, h5⟩
    have pm := pairN_pm hxy.1
    exact ⟨pm, fun nd => ⟨pm, fun _ => ⟨(sol hxy nd).1, (sol hxy nd).2, rfl, h5⟩, fun _ => ⟨⟨by omega, by omega⟩, ⟨⟨by omega, by omega⟩, rfl, h5⟩, by omega⟩⟩, fun _ => ⟨⟨by omega, by omega⟩, ⟨⟨by omega, by omega⟩, rfl, h5⟩, by omega⟩⟩
theorem p_spec_l05Draw (s1 : List Int) (s2 s3 most : Int) (hp : okS s1 s2 s3 ∧ 1 ≤ most ∧ most ≤ 12) : wp_spec_l05Draw s1 s2 s3 most (fun y0 w0 w1 w2 => (isTab y0 = true ∧ (y0.length : Int) ≤ most ∧ y0.all isPerm = true) ∧ w0 = s1 ∧ okS s1 w1 w2) := by
  refine ⟨hp, ?_⟩
  rintro t o0 o1 o2 ⟨⟨ta, tm, tp⟩, rfl, h1⟩
  have hn := isTab_len ta
  refine ⟨⟨h1, by omega, by omega⟩, ?_⟩
  rintro k p0 p1 p2 ⟨_, rfl, h2⟩
  refine ⟨fun _ => ⟨⟨h2, by omega, by omega⟩, ?_⟩, fun _ => ⟨⟨ta, tm, tp⟩, rfl, h2⟩⟩
  rintro p q0 q1 q2 ⟨⟨pl, pP⟩, rfl, h3⟩
  have l1 : ((renT t p).length : Int) = (t.length : Int) := len_tab (by omega)
  exact ⟨⟨ta, pl, pP⟩, ⟨isTab_ren ta pP pl, by omega, ren_rows ta pP pl tp⟩, rfl, h3⟩
theorem p_spec_l05Spoil (s1 : List Int) (s2 s3 most : Int) (hp : okS s1 s2 s3 ∧ 1 ≤ most ∧ most ≤ 12) : wp_spec_l05Spoil s1 s2 s3 most (fun y0 w0 w1 w2 => (szT y0) ∧ w0 = s1 ∧ okS s1 w1 w2) := by
  refine ⟨hp, ?_⟩
  rintro t o0 o1 o2 ⟨⟨ta, tm, tp⟩, rfl, h1⟩
  have hn := isTab_len ta
  have za := szT_tab ta
  refine ⟨⟨h1, by omega, by omega⟩, ?_⟩
  rintro k p0 p1 p2 ⟨_, rfl, h2⟩
  refine ⟨fun _ => ⟨⟨h2, by omega, by omega⟩, ?_⟩, fun _ => ⟨fun _ => ⟨⟨h2, by omega, by omega⟩, ?_⟩, fun _ => ⟨fun _ => ⟨⟨h2, by omega, by omega⟩, ?_⟩, fun _ => ⟨za, rfl, h2⟩⟩⟩⟩
  · rintro i a0 a1 a2 ⟨hi, rfl, h3⟩
    have hi2 := hi.2 (by omega)
    refine ⟨⟨h3, by omega, by omega⟩, ?_⟩
    rintro p b0 b1 b2 ⟨⟨pl, pP⟩, rfl, h4⟩
    exact ⟨hi2, szT_se za (by omega), rfl, h4⟩
  · rintro a a0 a1 a2 ⟨ha, rfl, h3⟩
    exact ⟨ha, rfl, h3⟩
  · rintro i a0 a1 a2 ⟨hi, rfl, h3⟩
    have hi2 := hi.2 (by omega)
    refine ⟨hi2, ⟨h3, by omega, by omega⟩, ?_⟩
    rintro j b0 b1 b2 ⟨hj, rfl, h4⟩
    have hj2 := hj.2 (by omega)
    refine ⟨⟨h4, by omega, by omega⟩, ?_⟩
    rintro v c0 c1 c2 ⟨_, rfl, h5⟩
    have l := rk_len ta hi2
    exact ⟨⟨by omega, by omega⟩, szT_se za (by simp; omega), rfl, h5⟩
theorem p_spec_DrawCycleFault (code : List Int) (hp : small code ∧ bytes code) : wp_spec_DrawCycleFault code (fun y0 => szT y0) := by
  refine ⟨hp, ?_⟩
  rintro c a h ⟨rfl, h1⟩
  refine ⟨⟨h1, by omega, by omega⟩, ?_⟩
  rintro t o0 o1 o2 ⟨ht, rfl, h2⟩
  refine ⟨szT_small ht, fun tt => ⟨⟨h2, by omega, by omega⟩, ?_⟩, fun _ => ht⟩
  have hn := isTab_len tt
  rintro k p0 p1 p2 ⟨_, rfl, h3⟩
  refine ⟨fun _ => ⟨⟨h3, by omega, by omega⟩, ?_⟩, fun _ => ht⟩
  rintro i q0 q1 q2 ⟨hi, rfl, h4⟩
  refine ⟨⟨h4, by omega, by omega⟩, ?_⟩
  rintro p w0 w1 w2 ⟨⟨pl, _⟩, rfl, _⟩
  exact ⟨hi.2 (by omega), szT_se ht (by omega)⟩
theorem p_impl_HasPermutationRows (t : List (List Int)) (hp : small2 t) : wp_impl_HasPermutationRows t (fun y0 y1 => y0 = (isTab t && t.all isPerm) ∧ y1 = (if isTab t then (0 : Int) else 1)) := ⟨hp, fun h => by simp [h], fun h => ⟨hp, by simp [h]⟩⟩
set_option maxRecDepth 100000 in
set_option maxHeartbeats 4000000 in
theorem w_spec_l01Pick (s1 : List Int) (s2 : Int) (s3 : Int) (list : List Int) (Q : Int → List Int → Int → Int → List Int → Prop) (h : wp_spec_l01Pick s1 s2 s3 list Q) : AM Try.prog 192 [.obox [.lst (bys s1), ci s2, cu s3], .own (ints list)] (fun R_ O_ => ∃ y0 w0 w1 w2 w3, Q y0 w0 w1 w2 w3 ∧ R_ = ci y0 ∧ O_ = [.obox [.lst (bys w0), ci w1, cu w2], .own (ints w3)]) := by
  refine am_enter (n := 12) (m := 2) Try.func192 rfl (by rfl) rfl rfl (Nat.le_of_ble_eq_true rfl) [800, 801] rfl ?_
  unfold wp_spec_l01Pick at h
  refine aw_seq ?_
  refine aw_gh (gh_to (n := 12) (σ' := [(800, ⟨[.lst (bys s1), ci s2, cu s3], []⟩), (801, ⟨ints list, []⟩)]) (env' := [(0, .cell 800 0), (1, .ref 801), (12, .cell 800 0), (13, .ref 801)]) rfl rfl ⟨rfl, rfl, rfl, rfl, trivial⟩) ?_
  refine aw_region ?_
  refine run_s (ss_assign rfl) rfl ?_
  refine run_nil ?_
  refine aw_seq ?_
  refine aw_region ?_
  refine run_s (ss_move rfl) rfl ?_
  refine run_s (ss_move rfl) rfl ?_
  refine run_s (ss_move rfl) rfl ?_
  refine run_s (ss_lenR (f := ci) rfl rfl) rfl ?_
  obtain ⟨q1, h⟩ := h
  refine run_w (ws_callM (xs := [.tmp 6, .tmp 8]) (cs := [.obox [.lst (bys s1), ci s2, cu s3], ci (list.length : Int)]) (ids := []) rfl (.inr ⟨rfl, rfl⟩) rfl rfl rfl (c_spec_l01Next s1 s2 s3 (list.length : Int) q1) rfl rfl ?_ )
  rintro _ _ ⟨r1_0, o1_0, o1_1, o1_2, q2, rfl, rfl⟩
  replace h := h r1_0 o1_0 o1_1 o1_2 q2
  refine ⟨rfl, rfl, ?_⟩
  obtain ⟨q3, h⟩ := h
  refine run_s (ss_idxR (f := ci) rfl rfl rfl q3) rfl ?_
  refine run_s (ss_loadR (f := ci) rfl rfl q3 rfl rfl) rfl ?_
  refine run_s (ss_assign rfl) rfl ?_
  refine run_nil ?_
  refine aw_ret ?_
  exact retAM_mk (retv1 rfl (rv_tmp rfl)) rfl rfl rfl ⟨_, _, _, _, _, h, rfl, rfl⟩

theorem c_spec_l01Pick (s1 : List Int) (s2 : Int) (s3 : Int) (list : List Int) (hp : okS s1 s2 s3 ∧ 1 ≤ (list.length : Int) ∧ small list) : AM Try.prog 192 [.obox [.lst (bys s1), ci s2, cu s3], .own (ints list)] (fun R_ O_ => ∃ y0 w0 w1 w2 w3, ((y0 ∈ list) ∧ w0 = s1 ∧ okS s1 w1 w2 ∧ w3 = list) ∧ R_ = ci y0 ∧ O_ = [.obox [.lst (bys w0), ci w1, cu w2], .own (ints w3)]) :=
  w_spec_l01Pick s1 s2 s3 list (fun y0 w0 w1 w2 w3 => (y0 ∈ list) ∧ w0 = s1 ∧ okS s1 w1 w2 ∧ w3 = list) (p_spec_l01Pick s1 s2 s3 list hp)

set_option maxRecDepth 100000 in
set_option maxHeartbeats 4000000 in
theorem w_spec_l01Draw (s1 : List Int) (s2 : Int) (s3 : Int) (n : Int) (Q : List Int → List Int → Int → Int → Prop) (h : wp_spec_l01Draw s1 s2 s3 n Q) : AM Try.prog 113 [.obox [.lst (bys s1), ci s2, cu s3], ci n] (fun R_ O_ => ∃ y0 w0 w1 w2, Q y0 w0 w1 w2 ∧ R_ = .own (ints y0) ∧ O_ = [.obox [.lst (bys w0), ci w1, cu w2], ci n]) := by
  refine am_enter (n := 37) (m := 2) Try.func113 rfl (by rfl) rfl rfl (Nat.le_of_ble_eq_true rfl) [800] rfl ?_
  unfold wp_spec_l01Draw at h
  refine aw_seq ?_
  refine aw_gh (gh_to (n := 37) (σ' := [(800, ⟨[.lst (bys s1), ci s2, cu s3], []⟩)]) (env' := [(0, .cell 800 0), (1, .c (ci n)), (37, .cell 800 0), (38, .c (ci n))]) rfl rfl ⟨rfl, rfl, rfl, rfl, trivial⟩) ?_
  refine aw_region ?_
  refine run_s (ss_assign rfl) rfl ?_
  refine run_nil ?_
  refine aw_seq ?_
  refine aw_region ?_
  refine run_s (ss_move rfl) rfl ?_
  obtain ⟨q1, h⟩ := h
  refine run_w (ws_call (xs := [.tmp 9]) (ids := [10]) rfl rfl rfl rfl (c_spec_l01Unit n q1) rfl ?_ )
  rintro _ rfl
  refine ⟨rfl, ?_⟩
  refine run_s (ss_assign rfl) rfl ?_
  refine run_nil ?_
  refine aw_seq ?_
  refine aw_seq ?_
  refine aw_region ?_
  refine run_s (ss_move rfl) rfl ?_
  obtain ⟨q3, h⟩ := h
  refine run_s (ss_sub rfl rfl q3) rfl ?_
  refine run_s (ss_assign rfl) rfl ?_
  refine run_nil ?_
  refine aw_block ?_
  obtain ⟨H1, m1, q4, h⟩ := h
  refine aw_loop5 (fun (v6_1 : Int) (o10_1 : List Int) (f800_0_1 : List Int) (f800_1_1 : Int) (f800_2_1 : Int) => ⟨[(10, ⟨ints o10_1, []⟩), (800, ⟨[.lst (bys f800_0_1), ci f800_1_1, cu f800_2_1], []⟩)], [(0, .cell 800 0), (5, .ref 10), (6, .c (ci v6_1)), (37, .cell 800 0), (38, .c (ci n))], 37⟩) H1 m1 ⟨n - 1, unitI n, s1, s2, s3, ghe_to (n := 37) rfl rfl ⟨rfl, rfl, rfl, rfl, rfl, trivial⟩, q4⟩ ?_
  rintro v6_1 o10_1 f800_0_1 f800_1_1 f800_2_1 q4
  replace h := h v6_1 o10_1 f800_0_1 f800_1_1 f800_2_1 q4
  refine aw_seq ?_
  refine aw_seq ?_
  refine aw_region ?_
  refine run_s (ss_move rfl) rfl ?_
  refine run_s (ss_gtr rfl rfl) rfl ?_
  refine run_nil ?_
  refine aw_cond rfl (fun q5 => ?_) (fun q5 => ?_)
  ·replace h := h.1 (of_decide_eq_true q5)
   refine aw_skip ?_
   refine aw_seq ?_
   refine aw_block ?_
   refine aw_seq ?_
   refine aw_region ?_
   refine run_s (ss_move rfl) rfl ?_
   refine run_s (ss_move rfl) rfl ?_
   obtain ⟨q6, h⟩ := h
   refine run_s (ss_add rfl rfl q6) rfl ?_
   obtain ⟨q7, h⟩ := h
   refine run_w (ws_callM (xs := [.tmp 17, .tmp 19]) (cs := [.obox [.lst (bys f800_0_1), ci f800_1_1, cu f800_2_1], ci (v6_1 + 1)]) (ids := []) rfl (.inr ⟨rfl, rfl⟩) rfl rfl rfl (c_spec_l01Next f800_0_1 f800_1_1 f800_2_1 (v6_1 + 1) q7) rfl rfl ?_ )
   rintro _ _ ⟨r1_0, o1_0, o1_1, o1_2, q8, rfl, rfl⟩
   replace h := h r1_0 o1_0 o1_1 o1_2 q8
   refine ⟨rfl, rfl, ?_⟩
   refine run_s (ss_assign rfl) rfl ?_
   refine run_nil ?_
   refine aw_seq ?_
   refine aw_gh (gh_to (n := 37) (σ' := [(10, ⟨ints o10_1, []⟩), (800, ⟨[.lst (bys o1_0), ci o1_1, cu o1_2], []⟩)]) (env' := [(0, .cell 800 0), (5, .ref 10), (6, .c (ci v6_1)), (7, .c (ci r1_0)), (37, .cell 800 0), (38, .c (ci n))]) rfl rfl ⟨rfl, rfl, rfl, rfl, rfl, rfl, trivial⟩) ?_
   refine aw_region ?_
   refine run_s (ss_move rfl) rfl ?_
   refine run_s (ss_move rfl) rfl ?_
   obtain ⟨q9, h⟩ := h
   refine run_s (ss_idxR (f := ci) rfl rfl rfl q9) rfl ?_
   refine run_s (ss_loadR (f := ci) rfl rfl q9 rfl rfl) rfl ?_
   refine run_s (ss_assign rfl) rfl ?_
   refine run_nil ?_
   refine aw_seq ?_
   refine aw_region ?_
   refine run_s (ss_move rfl) rfl ?_
   refine run_s (ss_move rfl) rfl ?_
   refine run_s (ss_move rfl) rfl ?_
   refine run_s (ss_move rfl) rfl ?_
   obtain ⟨q10, h⟩ := h
   refine run_s (ss_idxR (f := ci) rfl rfl rfl q10) rfl ?_
   refine run_s (ss_loadR (f := ci) rfl rfl q10 rfl rfl) rfl ?_
   obtain ⟨q11, h⟩ := h
   refine run_s (ss_idxR (f := ci) rfl rfl rfl q11) rfl ?_
   refine run_w (ws_storeE rfl rfl (map_lt q11) rfl rfl (map_se (f := ci)) rfl ⟨rfl, ?_⟩)
   refine run_nil ?_
   refine aw_gh (gh_to (n := 37) (σ' := [(10, ⟨ints (se o10_1 v6_1 (el o10_1 r1_0)), []⟩), (800, ⟨[.lst (bys o1_0), ci o1_1, cu o1_2], []⟩)]) (env' := [(0, .cell 800 0), (5, .ref 10), (6, .c (ci v6_1)), (7, .c (ci r1_0)), (8, .c (ci (el o10_1 v6_1))), (37, .cell 800 0), (38, .c (ci n))]) rfl rfl ⟨rfl, rfl, rfl, rfl, rfl, rfl, rfl, trivial⟩) ?_
   refine aw_region ?_
   refine run_s (ss_move rfl) rfl ?_
   refine run_s (ss_move rfl) rfl ?_
   refine run_s (ss_move rfl) rfl ?_
   obtain ⟨q12, h⟩ := h
   refine run_s (ss_idxR (f := ci) rfl rfl rfl q12) rfl ?_
   refine run_w (ws_storeE rfl rfl (map_lt q12) rfl rfl (map_se (f := ci)) rfl ⟨rfl, ?_⟩)
   refine run_nil ?_
   refine aw_gh (gh_to (n := 37) (σ' := [(10, ⟨ints (se (se o10_1 v6_1 (el o10_1 r1_0)) r1_0 (el o10_1 v6_1)), []⟩), (800, ⟨[.lst (bys o1_0), ci o1_1, cu o1_2], []⟩)]) (env' := [(0, .cell 800 0), (5, .ref 10), (6, .c (ci v6_1)), (37, .cell 800 0), (38, .c (ci n))]) rfl rfl ⟨rfl, rfl, rfl, rfl, rfl, trivial⟩) ?_
   refine aw_region ?_
   refine run_s (ss_move rfl) rfl ?_
   obtain ⟨q13, h⟩ := h
   refine run_s (ss_sub rfl rfl q13) rfl ?_
   refine run_s (ss_assign rfl) rfl ?_
   refine run_nil ?_
   exact ⟨v6_1 - 1, se (se o10_1 v6_1 (el o10_1 r1_0)) r1_0 (el o10_1 v6_1), o1_0, o1_1, o1_2, ghe_to (n := 37) rfl rfl ⟨rfl, rfl, rfl, rfl, rfl, trivial⟩, h.1, h.2⟩
  ·replace h := h.2 (of_decide_eq_false q5)
   refine aw_exit ?_
   refine aw_seq ?_
   refine aw_gh (gh_to (n := 37) (σ' := [(10, ⟨ints o10_1, []⟩), (800, ⟨[.lst (bys f800_0_1), ci f800_1_1, cu f800_2_1], []⟩)]) (env' := [(5, .ref 10), (37, .cell 800 0), (38, .c (ci n))]) rfl rfl ⟨rfl, rfl, rfl, trivial⟩) ?_
   refine aw_region ?_
   refine run_s (ss_move rfl) rfl ?_
   refine run_s (ss_assign rfl) rfl ?_
   refine run_nil ?_
   refine aw_ret ?_
   exact retAM_mk (retv1 rfl (rv_tmp rfl)) rfl rfl rfl ⟨_, _, _, _, h, rfl, rfl⟩

theorem c_spec_l01Draw (s1 : List Int) (s2 : Int) (s3 : Int) (n : Int) (hp : okS s1 s2 s3 ∧ 0 ≤ n ∧ n ≤ 1000) : AM Try.prog 113 [.obox [.lst (bys s1), ci s2, cu s3], ci n] (fun R_ O_ => ∃ y0 w0 w1 w2, (((y0.length : Int) = n ∧ isPerm y0 = true) ∧ w0 = s1 ∧ okS s1 w1 w2) ∧ R_ = .own (ints y0) ∧ O_ = [.obox [.lst (bys w0), ci w1, cu w2], ci n]) :=
  w_spec_l01Draw s1 s2 s3 n (fun y0 w0 w1 w2 => ((y0.length : Int) = n ∧ isPerm y0 = true) ∧ w0 = s1 ∧ okS s1 w1 w2) (p_spec_l01Draw s1 s2 s3 n hp)

set_option maxRecDepth 100000 in
set_option maxHeartbeats 4000000 in
theorem w_spec_l01Tables (s1 : List Int) (s2 : Int) (s3 : Int) (n : Int) (Q : List (List Int) → List Int → Int → Int → Prop) (h : wp_spec_l01Tables s1 s2 s3 n Q) : AM Try.prog 173 [.obox [.lst (bys s1), ci s2, cu s3], ci n] (fun R_ O_ => ∃ y0 w0 w1 w2, Q y0 w0 w1 w2 ∧ R_ = .own (orows y0) ∧ O_ = [.obox [.lst (bys w0), ci w1, cu w2], ci n]) := by
  refine am_enter (n := 63) (m := 2) Try.func173 rfl (by rfl) rfl rfl (Nat.le_of_ble_eq_true rfl) [800] rfl ?_
  unfold wp_spec_l01Tables at h
  refine aw_seq ?_
  refine aw_gh (gh_to (n := 63) (σ' := [(800, ⟨[.lst (bys s1), ci s2, cu s3], []⟩)]) (env' := [(0, .cell 800 0), (1, .c (ci n)), (63, .cell 800 0), (64, .c (ci n))]) rfl rfl ⟨rfl, rfl, rfl, rfl, trivial⟩) ?_
  refine aw_region ?_
  refine run_s (ss_assign rfl) rfl ?_
  refine run_nil ?_
  refine aw_seq ?_
  refine aw_region ?_
  refine run_w (ws_buildSlice (id := 12) (ps := []) rfl rfl (Nat.le_of_ble_eq_true rfl) rfl ⟨rfl, ?_⟩)
  refine run_s (ss_move rfl) rfl ?_
  obtain ⟨q1, h⟩ := h
  refine run_w (ws_callM (xs := [.tmp 13, .const (.int .i64 (3))]) (cs := [.obox [.lst (bys s1), ci s2, cu s3], ci 3]) (ids := []) rfl (.inr ⟨rfl, rfl⟩) rfl rfl rfl (c_spec_l01Next s1 s2 s3 3 q1) rfl rfl ?_ )
  rintro _ _ ⟨r1_0, o1_0, o1_1, o1_2, q2, rfl, rfl⟩
  replace h := h r1_0 o1_0 o1_1 o1_2 q2
  refine ⟨rfl, rfl, ?_⟩
  refine run_s (ss_assign rfl) rfl ?_
  refine run_s (ss_assign rfl) rfl ?_
  refine run_nil ?_
  refine aw_seq ?_
  refine aw_region ?_
  refine run_s (ss_move rfl) rfl ?_
  refine run_s (ss_move rfl) rfl ?_
  obtain ⟨q3, h⟩ := h
  refine run_w (ws_callM (xs := [.tmp 15, .tmp 16]) (cs := [.obox [.lst (bys o1_0), ci o1_1, cu o1_2], ci n]) (ids := [17]) rfl (.inr ⟨rfl, rfl⟩) rfl rfl rfl (c_spec_l01Draw o1_0 o1_1 o1_2 n q3) rfl rfl ?_ )
  rintro _ _ ⟨r2_0, o2_0, o2_1, o2_2, q4, rfl, rfl⟩
  replace h := h r2_0 o2_0 o2_1 o2_2 q4
  refine ⟨rfl, rfl, ?_⟩
  refine run_s (ss_assign rfl) rfl ?_
  refine run_nil ?_
  refine aw_seq ?_
  refine aw_seq ?_
  refine aw_gh (gh_to (n := 63) (σ' := [(17, ⟨ints r2_0, []⟩), (12, ⟨orows ([] : List (List Int)), []⟩), (800, ⟨[.lst (bys o2_0), ci o2_1, cu o2_2], []⟩)]) (env' := [(0, .cell 800 0), (1, .c (ci n)), (5, .ref 12), (6, .c (ci r1_0)), (7, .ref 17), (63, .cell 800 0), (64, .c (ci n))]) rfl rfl ⟨rfl, rfl, rfl, rfl, rfl, rfl, rfl, trivial⟩) ?_
  refine aw_region ?_
  refine run_s (ss_assign rfl) rfl ?_
  refine run_nil ?_
  refine aw_block ?_
  obtain ⟨H1, m1, q5, h⟩ := h
  refine aw_loop5 (fun (v8_1 : Int) (o12_1 : List (List Int)) (f800_0_1 : List Int) (f800_1_1 : Int) (f800_2_1 : Int) => ⟨[(17, ⟨ints r2_0, []⟩), (12, ⟨orows o12_1, []⟩), (800, ⟨[.lst (bys f800_0_1), ci f800_1_1, cu f800_2_1], []⟩)], [(0, .cell 800 0), (1, .c (ci n)), (5, .ref 12), (6, .c (ci r1_0)), (7, .ref 17), (8, .c (ci v8_1)), (63, .cell 800 0), (64, .c (ci n))], 63⟩) H1 m1 ⟨0, ([] : List (List Int)), o2_0, o2_1, o2_2, ghe_to (n := 63) rfl rfl ⟨rfl, rfl, rfl, rfl, rfl, rfl, rfl, rfl, trivial⟩, q5⟩ ?_
  rintro v8_1 o12_1 f800_0_1 f800_1_1 f800_2_1 q5
  replace h := h v8_1 o12_1 f800_0_1 f800_1_1 f800_2_1 q5
  refine aw_seq ?_
  refine aw_seq ?_
  refine aw_region ?_
  refine run_s (ss_move rfl) rfl ?_
  refine run_s (ss_move rfl) rfl ?_
  refine run_s (ss_lss rfl rfl) rfl ?_
  refine run_nil ?_
  refine aw_cond rfl (fun q6 => ?_) (fun q6 => ?_)
  ·replace h := h.1 (of_decide_eq_true q6)
   refine aw_skip ?_
   refine aw_seq ?_
   refine aw_block ?_
   refine aw_seq ?_
   refine aw_region ?_
   refine run_s (ss_move rfl) rfl ?_
   refine run_s (ss_move rfl) rfl ?_
   obtain ⟨q7, h⟩ := h
   refine run_w (ws_callM (xs := [.tmp 23, .tmp 24]) (cs := [.obox [.lst (bys f800_0_1), ci f800_1_1, cu f800_2_1], ci n]) (ids := [25]) rfl (.inr ⟨rfl, rfl⟩) rfl rfl rfl (c_spec_l01Draw f800_0_1 f800_1_1 f800_2_1 n q7) rfl rfl ?_ )
   rintro _ _ ⟨r3_0, o3_0, o3_1, o3_2, q8, rfl, rfl⟩
   replace h := h r3_0 o3_0 o3_1 o3_2 q8
   refine ⟨rfl, rfl, ?_⟩
   refine run_s (ss_assign rfl) rfl ?_
   refine run_nil ?_
   refine aw_seq ?_
   refine aw_seq ?_
   refine aw_gh (gh_to (n := 63) (σ' := [(25, ⟨ints r3_0, []⟩), (17, ⟨ints r2_0, []⟩), (12, ⟨orows o12_1, []⟩), (800, ⟨[.lst (bys o3_0), ci o3_1, cu o3_2], []⟩)]) (env' := [(0, .cell 800 0), (1, .c (ci n)), (5, .ref 12), (6, .c (ci r1_0)), (7, .ref 17), (8, .c (ci v8_1)), (9, .ref 25), (63, .cell 800 0), (64, .c (ci n))]) rfl rfl ⟨rfl, rfl, rfl, rfl, rfl, rfl, rfl, rfl, rfl, trivial⟩) ?_
   refine aw_region ?_
   refine run_s (ss_move rfl) rfl ?_
   refine run_nil ?_
   refine aw_block ?_
   refine aw_seq ?_
   refine aw_region ?_
   refine run_s (ss_eql rfl rfl) rfl ?_
   refine run_s (ss_assign rfl) rfl ?_
   refine run_nil ?_
   refine aw_cond rfl (fun q9 => ?_) (fun q9 => ?_)
   ·replace h := h.1 (of_decide_eq_true q9)
    refine aw_seq ?_
    refine aw_gh (gh_to (n := 63) (σ' := [(25, ⟨ints r3_0, []⟩), (17, ⟨ints r2_0, []⟩), (12, ⟨orows o12_1, []⟩), (800, ⟨[.lst (bys o3_0), ci o3_1, cu o3_2], []⟩)]) (env' := [(0, .cell 800 0), (1, .c (ci n)), (5, .ref 12), (6, .c (ci r1_0)), (7, .ref 17), (8, .c (ci v8_1)), (9, .ref 25), (63, .cell 800 0), (64, .c (ci n))]) rfl rfl ⟨rfl, rfl, rfl, rfl, rfl, rfl, rfl, rfl, rfl, trivial⟩) ?_
    refine aw_region ?_
    refine run_s (ss_assign rfl) rfl ?_
    refine run_nil ?_
    refine aw_block ?_
    obtain ⟨H2, m2, q10, h⟩ := h
    refine aw_loop5 (fun (v10_2 : Int) (o25_2 : List Int) (f800_0_2 : List Int) (f800_1_2 : Int) (f800_2_2 : Int) => ⟨[(25, ⟨ints o25_2, []⟩), (17, ⟨ints r2_0, []⟩), (12, ⟨orows o12_1, []⟩), (800, ⟨[.lst (bys f800_0_2), ci f800_1_2, cu f800_2_2], []⟩)], [(0, .cell 800 0), (1, .c (ci n)), (5, .ref 12), (6, .c (ci r1_0)), (7, .ref 17), (8, .c (ci v8_1)), (9, .ref 25), (10, .c (ci v10_2)), (63, .cell 800 0), (64, .c (ci n))], 63⟩) H2 m2 ⟨0, r3_0, o3_0, o3_1, o3_2, ghe_to (n := 63) rfl rfl ⟨rfl, rfl, rfl, rfl, rfl, rfl, rfl, rfl, rfl, rfl, trivial⟩, q10⟩ ?_
    rintro v10_2 o25_2 f800_0_2 f800_1_2 f800_2_2 q10
    replace h := h v10_2 o25_2 f800_0_2 f800_1_2 f800_2_2 q10
    refine aw_seq ?_
    refine aw_seq ?_
    refine aw_region ?_
    refine run_s (ss_move rfl) rfl ?_
    refine run_s (ss_move rfl) rfl ?_
    refine run_s (ss_lss rfl rfl) rfl ?_
    refine run_nil ?_
    refine aw_cond rfl (fun q11 => ?_) (fun q11 => ?_)
    ·replace h := h.1 (of_decide_eq_true q11)
     refine aw_skip ?_
     refine aw_seq ?_
     refine aw_block ?_
     refine aw_region ?_
     refine run_s (ss_move rfl) rfl ?_
     refine run_s (ss_move rfl) rfl ?_
     refine run_s (ss_move rfl) rfl ?_
     refine run_s (ss_move rfl) rfl ?_
     obtain ⟨q12, h⟩ := h
     refine run_w (ws_callM (xs := [.tmp 36, .tmp 37]) (cs := [.obox [.lst (bys f800_0_2), ci f800_1_2, cu f800_2_2], ci n]) (ids := []) rfl (.inr ⟨rfl, rfl⟩) rfl rfl rfl (c_spec_l01Next f800_0_2 f800_1_2 f800_2_2 n q12) rfl rfl ?_ )
     rintro _ _ ⟨r4_0, o4_0, o4_1, o4_2, q13, rfl, rfl⟩
     replace h := h r4_0 o4_0 o4_1 o4_2 q13
     refine ⟨rfl, rfl, ?_⟩
     obtain ⟨q14, h⟩ := h
     refine run_s (ss_idxR (f := ci) rfl rfl rfl q14) rfl ?_
     refine run_w (ws_storeE rfl rfl (map_lt q14) rfl rfl (map_se (f := ci)) rfl ⟨rfl, ?_⟩)
     refine run_nil ?_
     refine aw_gh (gh_to (n := 63) (σ' := [(25, ⟨ints (se o25_2 v10_2 r4_0), []⟩), (17, ⟨ints r2_0, []⟩), (12, ⟨orows o12_1, []⟩), (800, ⟨[.lst (bys o4_0), ci o4_1, cu o4_2], []⟩)]) (env' := [(0, .cell 800 0), (1, .c (ci n)), (5, .ref 12), (6, .c (ci r1_0)), (7, .ref 17), (8, .c (ci v8_1)), (9, .ref 25), (10, .c (ci v10_2)), (63, .cell 800 0), (64, .c (ci n))]) rfl rfl ⟨rfl, rfl, rfl, rfl, rfl, rfl, rfl, rfl, rfl, rfl, trivial⟩) ?_
     refine aw_region ?_
     refine run_s (ss_move rfl) rfl ?_
     obtain ⟨q15, h⟩ := h
     refine run_s (ss_add rfl rfl q15) rfl ?_
     refine run_s (ss_assign rfl) rfl ?_
     refine run_nil ?_
     exact ⟨v10_2 + 1, se o25_2 v10_2 r4_0, o4_0, o4_1, o4_2, ghe_to (n := 63) rfl rfl ⟨rfl, rfl, rfl, rfl, rfl, rfl, rfl, rfl, rfl, rfl, trivial⟩, h.1, h.2⟩
    ·replace h := h.2 (of_decide_eq_false q11)
     refine aw_exit ?_
     refine aw_region ?_
     refine run_s (ss_move rfl) rfl ?_
     refine run_s (ss_move rfl) rfl ?_
     refine run_w (ws_buildSlice (id := 60) (ps := [(0, .tmp 59)]) rfl rfl (Nat.le_of_ble_eq_true rfl) rfl ⟨rfl, ?_⟩)
     refine run_gh (gh_fill (id := 60) (id2 := 25) (j := 0) rfl rfl (Nat.le_of_ble_eq_true rfl) rfl rfl rfl) ?_
     obtain ⟨q16, h⟩ := h
     refine run_w (ws_app1 (fun r => C.own (ints r)) (l := o12_1) (m := [o25_2]) rfl rfl rfl rfl rfl (Nat.le_of_ble_eq_true rfl) q16 ⟨rfl, ?_⟩)
     refine run_s (ss_assign rfl) rfl ?_
     refine run_nil ?_
     refine aw_gh (gh_to (n := 63) (σ' := [(17, ⟨ints r2_0, []⟩), (12, ⟨orows (o12_1 ++ ([o25_2])), []⟩), (800, ⟨[.lst (bys f800_0_2), ci f800_1_2, cu f800_2_2], []⟩)]) (env' := [(0, .cell 800 0), (1, .c (ci n)), (5, .ref 12), (6, .c (ci r1_0)), (7, .ref 17), (8, .c (ci v8_1)), (63, .cell 800 0), (64, .c (ci n))]) rfl rfl ⟨rfl, rfl, rfl, rfl, rfl, rfl, rfl, rfl, trivial⟩) ?_
     refine aw_region ?_
     refine run_s (ss_move rfl) rfl ?_
     obtain ⟨q17, h⟩ := h
     refine run_s (ss_add rfl rfl q17) rfl ?_
     refine run_s (ss_assign rfl) rfl ?_
     refine run_nil ?_
     exact ⟨v8_1 + 1, o12_1 ++ ([o25_2]), f800_0_2, f800_1_2, f800_2_2, ghe_to (n := 63) rfl rfl ⟨rfl, rfl, rfl, rfl, rfl, rfl, rfl, rfl, trivial⟩, h.1, h.2⟩
   ·replace h := h.2 (of_decide_eq_false q9)
    refine aw_seq ?_
    refine aw_region ?_
    refine run_s (ss_eql rfl rfl) rfl ?_
    refine run_s (ss_assign rfl) rfl ?_
    refine run_nil ?_
    refine aw_cond rfl (fun q18 => ?_) (fun q18 => ?_)
    ·replace h := h.1 (of_decide_eq_true q18)
     refine aw_seq ?_
     refine aw_gh (gh_to (n := 63) (σ' := [(25, ⟨ints r3_0, []⟩), (17, ⟨ints r2_0, []⟩), (12, ⟨orows o12_1, []⟩), (800, ⟨[.lst (bys o3_0), ci o3_1, cu o3_2], []⟩)]) (env' := [(0, .cell 800 0), (1, .c (ci n)), (5, .ref 12), (6, .c (ci r1_0)), (7, .ref 17), (8, .c (ci v8_1)), (9, .ref 25), (63, .cell 800 0), (64, .c (ci n))]) rfl rfl ⟨rfl, rfl, rfl, rfl, rfl, rfl, rfl, rfl, rfl, trivial⟩) ?_
     refine aw_region ?_
     refine run_s (ss_assign rfl) rfl ?_
     refine run_nil ?_
     refine aw_block ?_
     obtain ⟨H3, m3, q19, h⟩ := h
     refine aw_loop2 (fun (v11_2 : Int) (o25_2 : List Int) => ⟨[(25, ⟨ints o25_2, []⟩), (17, ⟨ints r2_0, []⟩), (12, ⟨orows o12_1, []⟩), (800, ⟨[.lst (bys o3_0), ci o3_1, cu o3_2], []⟩)], [(0, .cell 800 0), (1, .c (ci n)), (5, .ref 12), (6, .c (ci r1_0)), (7, .ref 17), (8, .c (ci v8_1)), (9, .ref 25), (11, .c (ci v11_2)), (63, .cell 800 0), (64, .c (ci n))], 63⟩) H3 m3 ⟨0, r3_0, ghe_to (n := 63) rfl rfl ⟨rfl, rfl, rfl, rfl, rfl, rfl, rfl, rfl, rfl, rfl, trivial⟩, q19⟩ ?_
     rintro v11_2 o25_2 q19
     replace h := h v11_2 o25_2 q19
     refine aw_seq ?_
     refine aw_seq ?_
     refine aw_region ?_
     refine run_s (ss_move rfl) rfl ?_
     refine run_s (ss_move rfl) rfl ?_
     refine run_s (ss_lss rfl rfl) rfl ?_
     refine run_nil ?_
     refine aw_cond rfl (fun q20 => ?_) (fun q20 => ?_)
     ·replace h := h.1 (of_decide_eq_true q20)
      refine aw_skip ?_
      refine aw_seq ?_
      refine aw_block ?_
      refine aw_region ?_
      refine run_s (ss_move rfl) rfl ?_
      refine run_s (ss_move rfl) rfl ?_
      refine run_s (ss_move rfl) rfl ?_
      refine run_s (ss_move rfl) rfl ?_
      refine run_s (ss_move rfl) rfl ?_
      obtain ⟨q21, h⟩ := h
      refine run_s (ss_add rfl rfl q21) rfl ?_
      refine run_s (ss_move rfl) rfl ?_
      obtain ⟨q22, h⟩ := h
      refine run_s (ss_rem rfl rfl q22) rfl ?_
      obtain ⟨q23, h⟩ := h
      refine run_s (ss_idxR (f := ci) rfl rfl rfl q23) rfl ?_
      refine run_s (ss_loadR (f := ci) rfl rfl q23 rfl rfl) rfl ?_
      obtain ⟨q24, h⟩ := h
      refine run_s (ss_idxR (f := ci) rfl rfl rfl q24) rfl ?_
      refine run_w (ws_storeE rfl rfl (map_lt q24) rfl rfl (map_se (f := ci)) rfl ⟨rfl, ?_⟩)
      refine run_nil ?_
      refine aw_gh (gh_to (n := 63) (σ' := [(25, ⟨ints (se o25_2 v11_2 (el r2_0 ((v8_1 + v11_2) % n))), []⟩), (17, ⟨ints r2_0, []⟩), (12, ⟨orows o12_1, []⟩), (800, ⟨[.lst (bys o3_0), ci o3_1, cu o3_2], []⟩)]) (env' := [(0, .cell 800 0), (1, .c (ci n)), (5, .ref 12), (6, .c (ci r1_0)), (7, .ref 17), (8, .c (ci v8_1)), (9, .ref 25), (11, .c (ci v11_2)), (63, .cell 800 0), (64, .c (ci n))]) rfl rfl ⟨rfl, rfl, rfl, rfl, rfl, rfl, rfl, rfl, rfl, rfl, trivial⟩) ?_
      refine aw_region ?_
      refine run_s (ss_move rfl) rfl ?_
      obtain ⟨q25, h⟩ := h
      refine run_s (ss_add rfl rfl q25) rfl ?_
      refine run_s (ss_assign rfl) rfl ?_
      refine run_nil ?_
      exact ⟨v11_2 + 1, se o25_2 v11_2 (el r2_0 ((v8_1 + v11_2) % n)), ghe_to (n := 63) rfl rfl ⟨rfl, rfl, rfl, rfl, rfl, rfl, rfl, rfl, rfl, rfl, trivial⟩, h.1, h.2⟩
     ·replace h := h.2 (of_decide_eq_false q20)
      refine aw_exit ?_
      refine aw_region ?_
      refine run_s (ss_move rfl) rfl ?_
      refine run_s (ss_move rfl) rfl ?_
      refine run_w (ws_buildSlice (id := 60) (ps := [(0, .tmp 59)]) rfl rfl (Nat.le_of_ble_eq_true rfl) rfl ⟨rfl, ?_⟩)
      refine run_gh (gh_fill (id := 60) (id2 := 25) (j := 0) rfl rfl (Nat.le_of_ble_eq_true rfl) rfl rfl rfl) ?_
      obtain ⟨q26, h⟩ := h
      refine run_w (ws_app1 (fun r => C.own (ints r)) (l := o12_1) (m := [o25_2]) rfl rfl rfl rfl rfl (Nat.le_of_ble_eq_true rfl) q26 ⟨rfl, ?_⟩)
      refine run_s (ss_assign rfl) rfl ?_
      refine run_nil ?_
      refine aw_gh (gh_to (n := 63) (σ' := [(17, ⟨ints r2_0, []⟩), (12, ⟨orows (o12_1 ++ ([o25_2])), []⟩), (800, ⟨[.lst (bys o3_0), ci o3_1, cu o3_2], []⟩)]) (env' := [(0, .cell 800 0), (1, .c (ci n)), (5, .ref 12), (6, .c (ci r1_0)), (7, .ref 17), (8, .c (ci v8_1)), (63, .cell 800 0), (64, .c (ci n))]) rfl rfl ⟨rfl, rfl, rfl, rfl, rfl, rfl, rfl, rfl, trivial⟩) ?_
      refine aw_region ?_
      refine run_s (ss_move rfl) rfl ?_
      obtain ⟨q27, h⟩ := h
      refine run_s (ss_add rfl rfl q27) rfl ?_
      refine run_s (ss_assign rfl) rfl ?_
      refine run_nil ?_
      exact ⟨v8_1 + 1, o12_1 ++ ([o25_2]), o3_0, o3_1, o3_2, ghe_to (n := 63) rfl rfl ⟨rfl, rfl, rfl, rfl, rfl, rfl, rfl, rfl, trivial⟩, h.1, h.2⟩
    ·replace h := h.2 (of_decide_eq_false q18)
     refine aw_skip ?_
     refine aw_gh (gh_to (n := 63) (σ' := [(25, ⟨ints r3_0, []⟩), (17, ⟨ints r2_0, []⟩), (12, ⟨orows o12_1, []⟩), (800, ⟨[.lst (bys o3_0), ci o3_1, cu o3_2], []⟩)]) (env' := [(0, .cell 800 0), (1, .c (ci n)), (5, .ref 12), (6, .c (ci r1_0)), (7, .ref 17), (8, .c (ci v8_1)), (9, .ref 25), (63, .cell 800 0), (64, .c (ci n))]) rfl rfl ⟨rfl, rfl, rfl, rfl, rfl, rfl, rfl, rfl, rfl, trivial⟩) ?_
     refine aw_region ?_
     refine run_s (ss_move rfl) rfl ?_
     refine run_s (ss_move rfl) rfl ?_
     refine run_w (ws_buildSlice (id := 60) (ps := [(0, .tmp 59)]) rfl rfl (Nat.le_of_ble_eq_true rfl) rfl ⟨rfl, ?_⟩)
     refine run_gh (gh_fill (id := 60) (id2 := 25) (j := 0) rfl rfl (Nat.le_of_ble_eq_true rfl) rfl rfl rfl) ?_
     obtain ⟨q28, h⟩ := h
     refine run_w (ws_app1 (fun r => C.own (ints r)) (l := o12_1) (m := [r3_0]) rfl rfl rfl rfl rfl (Nat.le_of_ble_eq_true rfl) q28 ⟨rfl, ?_⟩)
     refine run_s (ss_assign rfl) rfl ?_
     refine run_nil ?_
     refine aw_gh (gh_to (n := 63) (σ' := [(17, ⟨ints r2_0, []⟩), (12, ⟨orows (o12_1 ++ ([r3_0])), []⟩), (800, ⟨[.lst (bys o3_0), ci o3_1, cu o3_2], []⟩)]) (env' := [(0, .cell 800 0), (1, .c (ci n)), (5, .ref 12), (6, .c (ci r1_0)), (7, .ref 17), (8, .c (ci v8_1)), (63, .cell 800 0), (64, .c (ci n))]) rfl rfl ⟨rfl, rfl, rfl, rfl, rfl, rfl, rfl, rfl, trivial⟩) ?_
     refine aw_region ?_
     refine run_s (ss_move rfl) rfl ?_
     obtain ⟨q29, h⟩ := h
     refine run_s (ss_add rfl rfl q29) rfl ?_
     refine run_s (ss_assign rfl) rfl ?_
     refine run_nil ?_
     exact ⟨v8_1 + 1, o12_1 ++ ([r3_0]), o3_0, o3_1, o3_2, ghe_to (n := 63) rfl rfl ⟨rfl, rfl, rfl, rfl, rfl, rfl, rfl, rfl, trivial⟩, h.1, h.2⟩
  ·replace h := h.2 (of_decide_eq_false q6)
   refine aw_exit ?_
   refine aw_seq ?_
   refine aw_gh (gh_to (n := 63) (σ' := [(17, ⟨ints r2_0, []⟩), (12, ⟨orows o12_1, []⟩), (800, ⟨[.lst (bys f800_0_1), ci f800_1_1, cu f800_2_1], []⟩)]) (env' := [(5, .ref 12), (63, .cell 800 0), (64, .c (ci n))]) rfl rfl ⟨rfl, rfl, rfl, trivial⟩) ?_
   refine aw_region ?_
   refine run_s (ss_move rfl) rfl ?_
   refine run_s (ss_assign rfl) rfl ?_
   refine run_nil ?_
   refine aw_ret ?_
   exact retAM_mk (retv1 rfl (rv_tmp rfl)) rfl rfl rfl ⟨_, _, _, _, h, rfl, rfl⟩

theorem c_spec_l01Tables (s1 : List Int) (s2 : Int) (s3 : Int) (n : Int) (hp : okS s1 s2 s3 ∧ 1 ≤ n ∧ n ≤ 13) : AM Try.prog 173 [.obox [.lst (bys s1), ci s2, cu s3], ci n] (fun R_ O_ => ∃ y0 w0 w1 w2, ((rowsN n y0) ∧ w0 = s1 ∧ okS s1 w1 w2) ∧ R_ = .own (orows y0) ∧ O_ = [.obox [.lst (bys w0), ci w1, cu w2], ci n]) :=
  w_spec_l01Tables s1 s2 s3 n (fun y0 w0 w1 w2 => (rowsN n y0) ∧ w0 = s1 ∧ okS s1 w1 w2) (p_spec_l01Tables s1 s2 s3 n hp)

set_option maxRecDepth 100000 in
set_option maxHeartbeats 4000000 in
theorem w_spec_l01Bad (s1 : List Int) (s2 : Int) (s3 : Int) (n : Int) (Q : List (List Int) → List Int → Int → Int → Prop) (h : wp_spec_l01Bad s1 s2 s3 n Q) : AM Try.prog 156 [.obox [.lst (bys s1), ci s2, cu s3], ci n] (fun R_ O_ => ∃ y0 w0 w1 w2, Q y0 w0 w1 w2 ∧ R_ = .own (orows y0) ∧ O_ = [.obox [.lst (bys w0), ci w1, cu w2], ci n]) := by
  refine am_enter (n := 45) (m := 2) Try.func156 rfl (by rfl) rfl rfl (Nat.le_of_ble_eq_true rfl) [800] rfl ?_
  unfold wp_spec_l01Bad at h
  refine aw_seq ?_
  refine aw_gh (gh_to (n := 45) (σ' := [(800, ⟨[.lst (bys s1), ci s2, cu s3], []⟩)]) (env' := [(0, .cell 800 0), (1, .c (ci n)), (45, .cell 800 0), (46, .c (ci n))]) rfl rfl ⟨rfl, rfl, rfl, rfl, trivial⟩) ?_
  refine aw_region ?_
  refine run_s (ss_assign rfl) rfl ?_
  refine run_nil ?_
  refine aw_seq ?_
  refine aw_region ?_
  refine run_s (ss_move rfl) rfl ?_
  refine run_s (ss_move rfl) rfl ?_
  obtain ⟨q1, h⟩ := h
  refine run_w (ws_callM (xs := [.tmp 6, .tmp 7]) (cs := [.obox [.lst (bys s1), ci s2, cu s3], ci n]) (ids := [8]) rfl (.inr ⟨rfl, rfl⟩) rfl rfl rfl (c_spec_l01Tables s1 s2 s3 n q1) rfl rfl ?_ )
  rintro _ _ ⟨r1_0, o1_0, o1_1, o1_2, q2, rfl, rfl⟩
  replace h := h r1_0 o1_0 o1_1 o1_2 q2
  refine ⟨rfl, rfl, ?_⟩
  refine run_s (ss_assign rfl) rfl ?_
  refine run_nil ?_
  refine aw_seq ?_
  refine aw_seq ?_
  refine aw_gh (gh_to (n := 45) (σ' := [(8, ⟨orows r1_0, []⟩), (800, ⟨[.lst (bys o1_0), ci o1_1, cu o1_2], []⟩)]) (env' := [(0, .cell 800 0), (1, .c (ci n)), (5, .ref 8), (45, .cell 800 0), (46, .c (ci n))]) rfl rfl ⟨rfl, rfl, rfl, rfl, rfl, trivial⟩) ?_
  refine aw_region ?_
  refine run_s (ss_move rfl) rfl ?_
  obtain ⟨q3, h⟩ := h
  refine run_w (ws_callM (xs := [.tmp 9, .const (.int .i64 (30))]) (cs := [.obox [.lst (bys o1_0), ci o1_1, cu o1_2], ci 30]) (ids := []) rfl (.inr ⟨rfl, rfl⟩) rfl rfl rfl (c_spec_l01Next o1_0 o1_1 o1_2 30 q3) rfl rfl ?_ )
  rintro _ _ ⟨r2_0, o2_0, o2_1, o2_2, q4, rfl, rfl⟩
  replace h := h r2_0 o2_0 o2_1 o2_2 q4
  refine ⟨rfl, rfl, ?_⟩
  refine run_nil ?_
  refine aw_block ?_
  refine aw_seq ?_
  refine aw_region ?_
  refine run_s (ss_eql rfl rfl) rfl ?_
  refine run_s (ss_assign rfl) rfl ?_
  refine run_nil ?_
  refine aw_cond rfl (fun q5 => ?_) (fun q5 => ?_)
  ·replace h := h.1 (of_decide_eq_true q5)
   refine aw_region ?_
   refine run_s (ss_move rfl) rfl ?_
   refine run_s (ss_move rfl) rfl ?_
   obtain ⟨q6, h⟩ := h
   refine run_w (ws_call (xs := [.tmp 14]) (ids := [15]) rfl rfl rfl rfl (c_spec_l01Unit n q6) rfl ?_ )
   rintro _ rfl
   refine ⟨rfl, ?_⟩
   refine run_w (ws_buildSlice (id := 16) (ps := [(0, .tmp 15)]) rfl rfl (Nat.le_of_ble_eq_true rfl) rfl ⟨rfl, ?_⟩)
   refine run_gh (gh_fill (id := 16) (id2 := 15) (j := 0) rfl rfl (Nat.le_of_ble_eq_true rfl) rfl rfl rfl) ?_
   obtain ⟨q8, h⟩ := h
   refine run_w (ws_app1 (fun r => C.own (ints r)) (l := r1_0) (m := [unitI n]) rfl rfl rfl rfl rfl (Nat.le_of_ble_eq_true rfl) q8 ⟨rfl, ?_⟩)
   refine run_s (ss_assign rfl) rfl ?_
   refine run_nil ?_
   refine aw_seq ?_
   refine aw_gh (gh_to (n := 45) (σ' := [(8, ⟨orows (r1_0 ++ ([unitI n])), []⟩), (800, ⟨[.lst (bys o2_0), ci o2_1, cu o2_2], []⟩)]) (env' := [(5, .ref 8), (45, .cell 800 0), (46, .c (ci n))]) rfl rfl ⟨rfl, rfl, rfl, trivial⟩) ?_
   refine aw_region ?_
   refine run_s (ss_move rfl) rfl ?_
   refine run_s (ss_assign rfl) rfl ?_
   refine run_nil ?_
   refine aw_ret ?_
   exact retAM_mk (retv1 rfl (rv_tmp rfl)) rfl rfl rfl ⟨_, _, _, _, h, rfl, rfl⟩
  ·replace h := h.2 (of_decide_eq_false q5)
   refine aw_seq ?_
   refine aw_gh (gh_to (n := 45) (σ' := [(8, ⟨orows r1_0, []⟩), (800, ⟨[.lst (bys o2_0), ci o2_1, cu o2_2], []⟩)]) (env' := [(0, .cell 800 0), (1, .c (ci n)), (5, .ref 8), (10, .c (ci r2_0)), (45, .cell 800 0), (46, .c (ci n))]) rfl rfl ⟨rfl, rfl, rfl, rfl, rfl, rfl, trivial⟩) ?_
   refine aw_region ?_
   refine run_s (ss_eql rfl rfl) rfl ?_
   refine run_s (ss_assign rfl) rfl ?_
   refine run_nil ?_
   refine aw_cond rfl (fun q9 => ?_) (fun q9 => ?_)
   ·replace h := h.1 (of_decide_eq_true q9)
    refine aw_region ?_
    refine run_s (ss_move rfl) rfl ?_
    refine run_s (ss_move rfl) rfl ?_
    obtain ⟨q10, h⟩ := h
    refine run_s (ss_idxR (f := (fun r => C.own (ints r))) rfl rfl rfl q10) rfl ?_
    refine run_gh (gh_open 1001 (id := 8) (j := (0 : Int).toNat) rfl (map_get (f := (fun r => C.own (ints r))) q10) rfl) ?_
    refine run_s (ss_loadH rfl rfl lk_self rfl) rfl ?_
    refine run_w (ws_buildSlice (id := 24) (ps := [(0, .const (.int .i64 (0)))]) rfl rfl (Nat.le_of_ble_eq_true rfl) rfl ⟨rfl, ?_⟩)
    obtain ⟨q11, h⟩ := h
    refine run_w (ws_app1 ci (l := el r1_0 0) (m := [0]) rfl rfl rfl rfl rfl (Nat.le_of_ble_eq_true rfl) q11 ⟨rfl, ?_⟩)
    obtain ⟨q12, h⟩ := h
    refine run_s (ss_indexAddr_ref rfl rfl rfl (set_bd (f := (fun r => C.own (ints r))) q12)) rfl ?_
    refine run_w (ws_storeV rfl rfl (set_ltH (f := (fun r => C.own (ints r))) q12) rfl rfl set_setH rfl ⟨rfl, ?_⟩)
    refine run_nil ?_
    refine aw_seq ?_
    refine aw_gh (gh_to (n := 45) (σ' := [(1001, ⟨ints ((el r1_0 0) ++ ([0])), []⟩), (8, ⟨(orows r1_0).set (0 : Int).toNat .hole, [((0 : Int).toNat, .ref 1001)]⟩), (800, ⟨[.lst (bys o2_0), ci o2_1, cu o2_2], []⟩)]) (env' := [(5, .ref 8), (45, .cell 800 0), (46, .c (ci n))]) rfl rfl ⟨rfl, rfl, rfl, trivial⟩) ?_
    refine aw_region ?_
    refine run_s (ss_move rfl) rfl ?_
    refine run_s (ss_assign rfl) rfl ?_
    refine run_nil ?_
    refine aw_gh (gh_fillA (id := 8) (id2 := 1001) (f := (fun r => C.own (ints r))) (v := (el r1_0 0) ++ ([0])) rfl lk_self rfl q12 rfl rfl kr_self) ?_
    refine aw_ret ?_
    exact retAM_mk (retv1 rfl (rv_tmp rfl)) rfl rfl rfl ⟨_, _, _, _, h, rfl, rfl⟩
   ·replace h := h.2 (of_decide_eq_false q9)
    refine aw_seq ?_
    refine aw_region ?_
    refine run_s (ss_eql rfl rfl) rfl ?_
    refine run_s (ss_assign rfl) rfl ?_
    refine run_nil ?_
    refine aw_cond rfl (fun q13 => ?_) (fun q13 => ?_)
    ·replace h := h.1 (of_decide_eq_true q13)
     refine aw_gh (gh_to (n := 45) (σ' := [(8, ⟨orows r1_0, []⟩), (800, ⟨[.lst (bys o2_0), ci o2_1, cu o2_2], []⟩)]) (env' := [(0, .cell 800 0), (1, .c (ci n)), (5, .ref 8), (45, .cell 800 0), (46, .c (ci n))]) rfl rfl ⟨rfl, rfl, rfl, rfl, rfl, trivial⟩) ?_
     refine aw_regionD (kd := kdl [0, 0, 1, 0, 0, 2, 2, 0, 3]) (ord := [0, 1, 3, 4, 2, 5, 6, 7, 8]) [34, 800] mixed (by kernel_rfl) ?_
     refine rd_s rfl rfl trivial (ss_move rfl) rfl ?_
     obtain ⟨q14, h⟩ := h
     refine rd_s rfl rfl trivial (ss_idxR (f := (fun r => C.own (ints r))) rfl rfl rfl q14) rfl ?_
     refine rd_s rfl rfl trivial (ss_move rfl) rfl ?_
     refine rd_s rfl rfl trivial (ss_move rfl) rfl ?_
     refine rd_open 1002 (id := 8) (j := (0 : Int).toNat) rfl (map_get (f := (fun r => C.own (ints r))) q14) rfl rfl rfl ?_
     refine rd_l rfl rfl trivial (ss_loadH rfl rfl lk_self rfl) rfl ?_
     refine rd_w rfl rfl trivial rfl rfl (ws_buildSlice (id := 34) (ps := [(0, .const (.int .i64 (-1))), (1, .tmp 33), (2, .const (.int .i64 (1099511627776)))]) rfl rfl (Nat.le_of_ble_eq_true rfl) rfl ⟨rfl, ?_⟩)
     obtain ⟨q15, h⟩ := h
     refine rd_w rfl rfl trivial rfl rfl (ws_callM (xs := [.tmp 32, .tmp 34]) (cs := [.obox [.lst (bys o2_0), ci o2_1, cu o2_2], .own (ints ([(-1), n, 1099511627776]))]) (ids := []) rfl (.inr ⟨rfl, rfl⟩) rfl rfl rfl (c_spec_l01Pick o2_0 o2_1 o2_2 ([(-1), n, 1099511627776]) q15) rfl rfl ?_ )
     rintro _ _ ⟨r3_0, o3_0, o3_1, o3_2, o3_3, q16, rfl, rfl⟩
     replace h := h r3_0 o3_0 o3_1 o3_2 o3_3 q16
     refine ⟨rfl, rfl, ?_⟩
     obtain ⟨q17, h⟩ := h
     refine rd_s rfl rfl trivial (ss_idxR (f := ci) rfl rfl rfl q17) rfl ?_
     refine rd_f rfl rfl trivial (ws_storeE rfl rfl (map_lt q17) rfl rfl (map_se (f := ci)) rfl ⟨rfl, ?_⟩)
     refine rd_nil ?_
     refine aw_seq ?_
     refine aw_gh (gh_to (n := 45) (σ' := [(34, ⟨ints o3_3, []⟩), (1002, ⟨ints (se (el r1_0 0) 0 r3_0), []⟩), (8, ⟨(orows r1_0).set (0 : Int).toNat .hole, [((0 : Int).toNat, .ref 1002)]⟩), (800, ⟨[.lst (bys o3_0), ci o3_1, cu o3_2], []⟩)]) (env' := [(5, .ref 8), (45, .cell 800 0), (46, .c (ci n))]) rfl rfl ⟨rfl, rfl, rfl, trivial⟩) ?_
     refine aw_region ?_
     refine run_s (ss_move rfl) rfl ?_
     refine run_s (ss_assign rfl) rfl ?_
     refine run_nil ?_
     refine aw_gh (gh_fillA (id := 8) (id2 := 1002) (f := (fun r => C.own (ints r))) (v := se (el r1_0 0) 0 r3_0) rfl lk_self rfl q14 rfl rfl kr_self) ?_
     refine aw_ret ?_
     exact retAM_mk (retv1 rfl (rv_tmp rfl)) rfl rfl rfl ⟨_, _, _, _, h, rfl, rfl⟩
    ·replace h := h.2 (of_decide_eq_false q13)
     refine aw_seq ?_
     refine aw_gh (gh_to (n := 45) (σ' := [(8, ⟨orows r1_0, []⟩), (800, ⟨[.lst (bys o2_0), ci o2_1, cu o2_2], []⟩)]) (env' := [(0, .cell 800 0), (5, .ref 8), (10, .c (ci r2_0)), (45, .cell 800 0), (46, .c (ci n))]) rfl rfl ⟨rfl, rfl, rfl, rfl, rfl, trivial⟩) ?_
     refine aw_region ?_
     refine run_s (ss_eql rfl rfl) rfl ?_
     refine run_s (ss_assign rfl) rfl ?_
     refine run_nil ?_
     refine aw_cond rfl (fun q18 => ?_) (fun q18 => ?_)
     ·replace h := h.1 (of_decide_eq_true q18)
      refine aw_gh (gh_to (n := 45) (σ' := [(8, ⟨orows r1_0, []⟩), (800, ⟨[.lst (bys o2_0), ci o2_1, cu o2_2], []⟩)]) (env' := [(5, .ref 8), (45, .cell 800 0), (46, .c (ci n))]) rfl rfl ⟨rfl, rfl, rfl, trivial⟩) ?_
      refine aw_region ?_
      refine run_w (ws_buildSlice (id := 39) (ps := []) rfl rfl (Nat.le_of_ble_eq_true rfl) rfl ⟨rfl, ?_⟩)
      refine run_s (ss_assign rfl) rfl ?_
      refine run_nil ?_
      refine aw_seq ?_
      refine aw_region ?_
      refine run_s (ss_move rfl) rfl ?_
      refine run_s (ss_assign rfl) rfl ?_
      refine run_nil ?_
      refine aw_ret ?_
      exact retAM_mk (retv1 rfl (rv_tmp rfl)) rfl rfl rfl ⟨_, _, _, _, h, rfl, rfl⟩
     ·replace h := h.2 (of_decide_eq_false q18)
      refine aw_seq ?_
      refine aw_region ?_
      refine run_s (ss_eql rfl rfl) rfl ?_
      refine run_s (ss_assign rfl) rfl ?_
      refine run_nil ?_
      refine aw_cond rfl (fun q19 => ?_) (fun q19 => ?_)
      ·replace h := h.1 (of_decide_eq_true q19)
       refine aw_gh (gh_to (n := 45) (σ' := [(8, ⟨orows r1_0, []⟩), (800, ⟨[.lst (bys o2_0), ci o2_1, cu o2_2], []⟩)]) (env' := [(0, .cell 800 0), (5, .ref 8), (45, .cell 800 0), (46, .c (ci n))]) rfl rfl ⟨rfl, rfl, rfl, rfl, trivial⟩) ?_
       refine aw_region ?_
       refine run_s (ss_move rfl) rfl ?_
       obtain ⟨q20, h⟩ := h
       refine run_w (ws_callM (xs := [.tmp 42, .const (.int .i64 (13))]) (cs := [.obox [.lst (bys o2_0), ci o2_1, cu o2_2], ci 13]) (ids := [43]) rfl (.inr ⟨rfl, rfl⟩) rfl rfl rfl (c_spec_l01Tables o2_0 o2_1 o2_2 13 q20) rfl rfl ?_ )
       rintro _ _ ⟨r4_0, o4_0, o4_1, o4_2, q21, rfl, rfl⟩
       replace h := h r4_0 o4_0 o4_1 o4_2 q21
       refine ⟨rfl, rfl, ?_⟩
       refine run_s (ss_assign rfl) rfl ?_
       refine run_nil ?_
       refine aw_seq ?_
       refine aw_gh (gh_to (n := 45) (σ' := [(43, ⟨orows r4_0, []⟩), (8, ⟨orows r1_0, []⟩), (800, ⟨[.lst (bys o4_0), ci o4_1, cu o4_2], []⟩)]) (env' := [(5, .ref 43), (45, .cell 800 0), (46, .c (ci n))]) rfl rfl ⟨rfl, rfl, rfl, trivial⟩) ?_
       refine aw_region ?_
       refine run_s (ss_move rfl) rfl ?_
       refine run_s (ss_assign rfl) rfl ?_
       refine run_nil ?_
       refine aw_ret ?_
       exact retAM_mk (retv1 rfl (rv_tmp rfl)) rfl rfl rfl ⟨_, _, _, _, h, rfl, rfl⟩
      ·replace h := h.2 (of_decide_eq_false q19)
       refine aw_skip ?_
       refine aw_seq ?_
       refine aw_gh (gh_to (n := 45) (σ' := [(8, ⟨orows r1_0, []⟩), (800, ⟨[.lst (bys o2_0), ci o2_1, cu o2_2], []⟩)]) (env' := [(5, .ref 8), (45, .cell 800 0), (46, .c (ci n))]) rfl rfl ⟨rfl, rfl, rfl, trivial⟩) ?_
       refine aw_region ?_
       refine run_s (ss_move rfl) rfl ?_
       refine run_s (ss_assign rfl) rfl ?_
       refine run_nil ?_
       refine aw_ret ?_
       exact retAM_mk (retv1 rfl (rv_tmp rfl)) rfl rfl rfl ⟨_, _, _, _, h, rfl, rfl⟩

theorem c_spec_l01Bad (s1 : List Int) (s2 : Int) (s3 : Int) (n : Int) (hp : okS s1 s2 s3 ∧ 1 ≤ n ∧ n ≤ 12) : AM Try.prog 156 [.obox [.lst (bys s1), ci s2, cu s3], ci n] (fun R_ O_ => ∃ y0 w0 w1 w2, ((szT y0) ∧ w0 = s1 ∧ okS s1 w1 w2) ∧ R_ = .own (orows y0) ∧ O_ = [.obox [.lst (bys w0), ci w1, cu w2], ci n]) :=
  w_spec_l01Bad s1 s2 s3 n (fun y0 w0 w1 w2 => (szT y0) ∧ w0 = s1 ∧ okS s1 w1 w2) (p_spec_l01Bad s1 s2 s3 n hp)

set_option maxRecDepth 100000 in
set_option maxHeartbeats 4000000 in
theorem w_spec_l01Rename (t : List (List Int)) (p : List Int) (Q : List (List Int) → Prop) (h : wp_spec_l01Rename t p Q) : AF Try.prog 171 [.lst (rows t), .lst (ints p)] (fun R_ => ∃ y0, Q y0 ∧ R_ = .own (orows y0)) := by
  refine AF.ofWQ (af_enter (n := 59) Try.func171 rfl (by rfl) rfl (Nat.le_of_ble_eq_true rfl) ?_)
  unfold wp_spec_l01Rename at h
  refine aw_seq ?_
  refine aw_gh (gh_to (n := 59) (σ' := []) (env' := [(0, .c (.lst (rows t))), (1, .c (.lst (ints p)))]) rfl rfl ⟨rfl, rfl, trivial⟩) ?_
  refine aw_region ?_
  refine run_s (ss_assign rfl) rfl ?_
  refine run_nil ?_
  refine aw_seq ?_
  refine aw_region ?_
  refine run_w (ws_buildSlice (id := 10) (ps := []) rfl rfl (Nat.le_of_ble_eq_true rfl) rfl ⟨rfl, ?_⟩)
  refine run_s (ss_assign rfl) rfl ?_
  refine run_nil ?_
  refine aw_seq ?_
  refine aw_seq ?_
  refine aw_region ?_
  refine run_s (ss_assign rfl) rfl ?_
  refine run_nil ?_
  refine aw_block ?_
  obtain ⟨H1, m1, q1, h⟩ := h
  refine aw_loop2 (fun (v6_1 : Int) (o10_1 : List (List Int)) => ⟨[(10, ⟨orows o10_1, []⟩)], [(0, .c (.lst (rows t))), (1, .c (.lst (ints p))), (5, .ref 10), (6, .c (ci v6_1))], 59⟩) H1 m1 ⟨0, ([] : List (List Int)), ghe_to (n := 59) rfl rfl ⟨rfl, rfl, rfl, rfl, trivial⟩, q1⟩ ?_
  rintro v6_1 o10_1 q1
  replace h := h v6_1 o10_1 q1
  refine aw_seq ?_
  refine aw_seq ?_
  refine aw_region ?_
  refine run_s (ss_move rfl) rfl ?_
  refine run_s (ss_move rfl) rfl ?_
  refine run_s (ss_lenL (f := (fun r => C.lst (ints r))) rfl) rfl ?_
  refine run_s (ss_lss rfl rfl) rfl ?_
  refine run_nil ?_
  refine aw_cond rfl (fun q2 => ?_) (fun q2 => ?_)
  ·replace h := h.1 (of_decide_eq_true q2)
   refine aw_skip ?_
   refine aw_seq ?_
   refine aw_block ?_
   refine aw_region ?_
   refine run_s (ss_move rfl) rfl ?_
   refine run_s (ss_move rfl) rfl ?_
   refine run_s (ss_lenL (f := (fun r => C.lst (ints r))) rfl) rfl ?_
   obtain ⟨q3, h⟩ := h
   refine run_w (ws_mk (id := 20) ci (0 : Int) rfl rfl rfl q3 (Nat.le_of_ble_eq_true rfl) rfl ⟨rfl, ?_⟩)
   refine run_w (ws_buildSlice (id := 21) (ps := [(0, .tmp 20)]) rfl rfl (Nat.le_of_ble_eq_true rfl) rfl ⟨rfl, ?_⟩)
   refine run_gh (gh_fill (id := 21) (id2 := 20) (j := 0) rfl rfl (Nat.le_of_ble_eq_true rfl) rfl rfl rfl) ?_
   obtain ⟨q4, h⟩ := h
   refine run_w (ws_app1 (fun r => C.own (ints r)) (l := o10_1) (m := [List.replicate (t.length : Int).toNat (0 : Int)]) rfl rfl rfl rfl rfl (Nat.le_of_ble_eq_true rfl) q4 ⟨rfl, ?_⟩)
   refine run_s (ss_assign rfl) rfl ?_
   refine run_nil ?_
   refine aw_gh (gh_to (n := 59) (σ' := [(10, ⟨orows (o10_1 ++ ([List.replicate (t.length : Int).toNat (0 : Int)])), []⟩)]) (env' := [(0, .c (.lst (rows t))), (1, .c (.lst (ints p))), (5, .ref 10), (6, .c (ci v6_1))]) rfl rfl ⟨rfl, rfl, rfl, rfl, trivial⟩) ?_
   refine aw_region ?_
   refine run_s (ss_move rfl) rfl ?_
   obtain ⟨q5, h⟩ := h
   refine run_s (ss_add rfl rfl q5) rfl ?_
   refine run_s (ss_assign rfl) rfl ?_
   refine run_nil ?_
   exact ⟨v6_1 + 1, o10_1 ++ ([List.replicate (t.length : Int).toNat (0 : Int)]), ghe_to (n := 59) rfl rfl ⟨rfl, rfl, rfl, rfl, trivial⟩, h.1, h.2⟩
  ·replace h := h.2 (of_decide_eq_false q2)
   refine aw_exit ?_
   refine aw_seq ?_
   refine aw_seq ?_
   refine aw_gh (gh_to (n := 59) (σ' := [(10, ⟨orows o10_1, []⟩)]) (env' := [(0, .c (.lst (rows t))), (1, .c (.lst (ints p))), (5, .ref 10)]) rfl rfl ⟨rfl, rfl, rfl, trivial⟩) ?_
   refine aw_region ?_
   refine run_s (ss_assign rfl) rfl ?_
   refine run_nil ?_
   refine aw_block ?_
   obtain ⟨H2, m2, q6, h⟩ := h
   refine aw_loop2 (fun (v7_2 : Int) (o10_2 : List (List Int)) => ⟨[(10, ⟨orows o10_2, []⟩)], [(0, .c (.lst (rows t))), (1, .c (.lst (ints p))), (5, .ref 10), (7, .c (ci v7_2))], 59⟩) H2 m2 ⟨0, o10_1, ghe_to (n := 59) rfl rfl ⟨rfl, rfl, rfl, rfl, trivial⟩, q6⟩ ?_
   rintro v7_2 o10_2 q6
   replace h := h v7_2 o10_2 q6
   refine aw_seq ?_
   refine aw_seq ?_
   refine aw_region ?_
   refine run_s (ss_move rfl) rfl ?_
   refine run_s (ss_move rfl) rfl ?_
   refine run_s (ss_lenL (f := (fun r => C.lst (ints r))) rfl) rfl ?_
   refine run_s (ss_lss rfl rfl) rfl ?_
   refine run_nil ?_
   refine aw_cond rfl (fun q7 => ?_) (fun q7 => ?_)
   ·replace h := h.1 (of_decide_eq_true q7)
    refine aw_skip ?_
    refine aw_seq ?_
    refine aw_block ?_
    refine aw_seq ?_
    refine aw_region ?_
    refine run_s (ss_move rfl) rfl ?_
    refine run_s (ss_move rfl) rfl ?_
    refine run_s (ss_move rfl) rfl ?_
    obtain ⟨q8, h⟩ := h
    refine run_s (ss_idxL rfl rfl q8) rfl ?_
    refine run_s (ss_loadL (f := ci) rfl q8) rfl ?_
    obtain ⟨q9, h⟩ := h
    refine run_s (ss_idxR (f := (fun r => C.own (ints r))) rfl rfl rfl q9) rfl ?_
    refine run_gh (gh_open 1001 (id := 10) (j := (el p v7_2).toNat) rfl (map_get (f := (fun r => C.own (ints r))) q9) rfl) ?_
    refine run_s (ss_loadH rfl rfl lk_self rfl) rfl ?_
    refine run_s (ss_assign rfl) rfl ?_
    refine run_nil ?_
    refine aw_seq ?_
    refine aw_gh (gh_to (n := 59) (σ' := [(1001, ⟨ints (el o10_2 (el p v7_2)), []⟩), (10, ⟨(orows o10_2).set (el p v7_2).toNat .hole, [((el p v7_2).toNat, .ref 1001)]⟩)]) (env' := [(0, .c (.lst (rows t))), (1, .c (.lst (ints p))), (5, .ref 10), (7, .c (ci v7_2)), (8, .ref 1001)]) rfl rfl ⟨rfl, rfl, rfl, rfl, rfl, trivial⟩) ?_
    refine aw_region ?_
    refine run_s (ss_assign rfl) rfl ?_
    refine run_nil ?_
    refine aw_block ?_
    obtain ⟨H3, m3, q10, h⟩ := h
    refine aw_loop2 (fun (v9_3 : Int) (o1001_3 : List Int) => ⟨[(1001, ⟨ints o1001_3, []⟩), (10, ⟨(orows o10_2).set (el p v7_2).toNat .hole, [((el p v7_2).toNat, .ref 1001)]⟩)], [(0, .c (.lst (rows t))), (1, .c (.lst (ints p))), (5, .ref 10), (7, .c (ci v7_2)), (8, .ref 1001), (9, .c (ci v9_3))], 59⟩) H3 m3 ⟨0, el o10_2 (el p v7_2), ghe_to (n := 59) rfl rfl ⟨rfl, rfl, rfl, rfl, rfl, rfl, trivial⟩, q10⟩ ?_
    rintro v9_3 o1001_3 q10
    replace h := h v9_3 o1001_3 q10
    refine aw_seq ?_
    refine aw_seq ?_
    refine aw_region ?_
    refine run_s (ss_move rfl) rfl ?_
    refine run_s (ss_move rfl) rfl ?_
    refine run_s (ss_lenL (f := (fun r => C.lst (ints r))) rfl) rfl ?_
    refine run_s (ss_lss rfl rfl) rfl ?_
    refine run_nil ?_
    refine aw_cond rfl (fun q11 => ?_) (fun q11 => ?_)
    ·replace h := h.1 (of_decide_eq_true q11)
     refine aw_skip ?_
     refine aw_seq ?_
     refine aw_block ?_
     refine aw_gh (gh_to (n := 59) (σ' := [(1001, ⟨ints o1001_3, []⟩), (10, ⟨(orows o10_2).set (el p v7_2).toNat .hole, [((el p v7_2).toNat, .ref 1001)]⟩)]) (env' := [(0, .c (.lst (rows t))), (1, .c (.lst (ints p))), (5, .ref 10), (7, .c (ci v7_2)), (8, .ref 1001), (9, .c (ci v9_3))]) rfl rfl ⟨rfl, rfl, rfl, rfl, rfl, rfl, trivial⟩) ?_
     refine aw_regionD (kd := kdl [0, 0, 0, 0, 1, 0, 0, 0, 0, 1, 0, 0, 1, 0, 1, 0, 3]) (ord := [0, 1, 2, 3, 5, 6, 7, 8, 10, 4, 9, 11, 12, 13, 14, 15, 16]) [] mixed (by kernel_rfl) ?_
     refine rd_s rfl rfl trivial (ss_move rfl) rfl ?_
     refine rd_s rfl rfl trivial (ss_move rfl) rfl ?_
     refine rd_s rfl rfl trivial (ss_move rfl) rfl ?_
     obtain ⟨q12, h⟩ := h
     refine rd_s rfl rfl trivial (ss_idxL rfl rfl q12) rfl ?_
     refine rd_s rfl rfl trivial (ss_move rfl) rfl ?_
     refine rd_s rfl rfl trivial (ss_move rfl) rfl ?_
     refine rd_s rfl rfl trivial (ss_move rfl) rfl ?_
     obtain ⟨q13, h⟩ := h
     refine rd_s rfl rfl trivial (ss_idxL rfl rfl q13) rfl ?_
     refine rd_s rfl rfl trivial (ss_move rfl) rfl ?_
     refine rd_l rfl rfl trivial (ss_loadL (f := ci) rfl q12) rfl ?_
     refine rd_l rfl rfl trivial (ss_loadL (f := (fun r => C.lst (ints r))) rfl q13) rfl ?_
     obtain ⟨q14, h⟩ := h
     refine rd_s rfl rfl trivial (ss_idxL rfl rfl q14) rfl ?_
     refine rd_l rfl rfl trivial (ss_loadL (f := ci) rfl q14) rfl ?_
     obtain ⟨q15, h⟩ := h
     refine rd_s rfl rfl trivial (ss_idxL rfl rfl q15) rfl ?_
     refine rd_l rfl rfl trivial (ss_loadL (f := ci) rfl q15) rfl ?_
     obtain ⟨q16, h⟩ := h
     refine rd_s rfl rfl trivial (ss_idxR (f := ci) rfl rfl rfl q16) rfl ?_
     refine rd_f rfl rfl trivial (ws_storeE rfl rfl (map_lt q16) rfl rfl (map_se (f := ci)) rfl ⟨rfl, ?_⟩)
     refine rd_nil ?_
     refine aw_gh (gh_to (n := 59) (σ' := [(1001, ⟨ints (se o1001_3 (el p v9_3) (el p (el (el t v7_2) v9_3))), []⟩), (10, ⟨(orows o10_2).set (el p v7_2).toNat .hole, [((el p v7_2).toNat, .ref 1001)]⟩)]) (env' := [(0, .c (.lst (rows t))), (1, .c (.lst (ints p))), (5, .ref 10), (7, .c (ci v7_2)), (8, .ref 1001), (9, .c (ci v9_3))]) rfl rfl ⟨rfl, rfl, rfl, rfl, rfl, rfl, trivial⟩) ?_
     refine aw_region ?_
     refine run_s (ss_move rfl) rfl ?_
     obtain ⟨q17, h⟩ := h
     refine run_s (ss_add rfl rfl q17) rfl ?_
     refine run_s (ss_assign rfl) rfl ?_
     refine run_nil ?_
     exact ⟨v9_3 + 1, se o1001_3 (el p v9_3) (el p (el (el t v7_2) v9_3)), ghe_to (n := 59) rfl rfl ⟨rfl, rfl, rfl, rfl, rfl, rfl, trivial⟩, h.1, h.2⟩
    ·replace h := h.2 (of_decide_eq_false q11)
     refine aw_exit ?_
     refine aw_gh (gh_to (n := 59) (σ' := [(1001, ⟨ints o1001_3, []⟩), (10, ⟨(orows o10_2).set (el p v7_2).toNat .hole, [((el p v7_2).toNat, .ref 1001)]⟩)]) (env' := [(0, .c (.lst (rows t))), (1, .c (.lst (ints p))), (5, .ref 10), (7, .c (ci v7_2))]) rfl rfl ⟨rfl, rfl, rfl, rfl, trivial⟩) ?_
     refine aw_region ?_
     refine run_s (ss_move rfl) rfl ?_
     obtain ⟨q18, h⟩ := h
     refine run_s (ss_add rfl rfl q18) rfl ?_
     refine run_s (ss_assign rfl) rfl ?_
     refine run_nil ?_
     obtain ⟨q19, h⟩ := h
     exact ⟨v7_2 + 1, se o10_2 (el p v7_2) o1001_3, ghe_step (gh_fillA (id := 10) (id2 := 1001) (f := (fun r => C.own (ints r))) (v := o1001_3) rfl lk_self rfl q19 rfl rfl kr_self) (ghe_to (n := 59) rfl rfl ⟨rfl, rfl, rfl, rfl, trivial⟩), h.1, h.2⟩
   ·replace h := h.2 (of_decide_eq_false q7)
    refine aw_exit ?_
    refine aw_seq ?_
    refine aw_gh (gh_to (n := 59) (σ' := [(10, ⟨orows o10_2, []⟩)]) (env' := [(5, .ref 10)]) rfl rfl ⟨rfl, trivial⟩) ?_
    refine aw_region ?_
    refine run_s (ss_move rfl) rfl ?_
    refine run_s (ss_assign rfl) rfl ?_
    refine run_nil ?_
    refine aw_ret ?_
    exact retAF_mk (retv1 rfl (rv_tmp rfl)) rfl rfl ⟨_, (cle_refl _), _, h, rfl⟩

theorem c_spec_l01Rename (t : List (List Int)) (p : List Int) (hp : isTab t = true ∧ (p.length : Int) = (t.length : Int) ∧ isPerm p = true) : AF Try.prog 171 [.lst (rows t), .lst (ints p)] (fun R_ => R_ = .own (orows (renT t p))) :=
  (w_spec_l01Rename t p (fun y0 => y0 = renT t p) (p_spec_l01Rename t p hp)).mono (by rintro r ⟨_, rfl, rfl⟩; rfl)

set_option maxRecDepth 100000 in
set_option maxHeartbeats 4000000 in
theorem w_spec_l02Twist (p : List Int) (q : List Int) (Q : List (List Int) → List (List Int) → Prop) (h : wp_spec_l02Twist p q Q) : AF Try.prog 215 [.lst (ints p), .lst (ints q)] (fun R_ => ∃ y0 y1, Q y0 y1 ∧ R_ = .agg [.own (orows y0), .own (orows y1)]) := by
  refine AF.ofWQ (af_enter (n := 44) Try.func215 rfl (by rfl) rfl (Nat.le_of_ble_eq_true rfl) ?_)
  unfold wp_spec_l02Twist at h
  refine aw_seq ?_
  refine aw_gh (gh_to (n := 44) (σ' := []) (env' := [(0, .c (.lst (ints p))), (1, .c (.lst (ints q)))]) rfl rfl ⟨rfl, rfl, trivial⟩) ?_
  refine aw_region ?_
  refine run_w (ws_alloc (id := 4) rfl (Nat.le_of_ble_eq_true rfl) ⟨rfl, ?_⟩)
  refine run_nil ?_
  refine aw_seq ?_
  refine aw_region ?_
  refine run_s (ss_build0) rfl ?_
  refine run_w (ws_alloc (id := 5) rfl (Nat.le_of_ble_eq_true rfl) ⟨rfl, ?_⟩)
  refine run_w (ws_storeN rfl rfl (Nat.le_of_ble_eq_true rfl) rfl rfl rfl rfl ⟨rfl, ?_⟩)
  refine run_nil ?_
  refine aw_seq ?_
  refine aw_seq ?_
  refine aw_region ?_
  refine run_s (ss_assign rfl) rfl ?_
  refine run_nil ?_
  refine aw_block ?_
  obtain ⟨H1, m1, q1, h⟩ := h
  refine aw_loop3 (fun (v6_1 : Int) (o200080_1 : List (List Int)) (o200081_1 : List (List Int)) => ⟨[(200081, ⟨orows o200081_1, []⟩), (200080, ⟨orows o200080_1, []⟩), (5, ⟨[.hole, .hole], [(1, .ref 200081), (0, .ref 200080)]⟩), (4, ⟨[cnil, cnil], []⟩)], [(0, .c (.lst (ints p))), (1, .c (.lst (ints q))), (4, .cell 4 0), (5, .cell 5 0), (6, .c (ci v6_1))], 44⟩) H1 m1 ⟨0, ([] : List (List Int)), ([] : List (List Int)), ghe_step (gh_nilH (id0 := 5) (j := 0) (id := 200080) rfl rfl rfl rfl) (ghe_step (gh_nilH (id0 := 5) (j := 1) (id := 200081) rfl rfl rfl rfl) (ghe_to (n := 44) rfl rfl ⟨rfl, rfl, rfl, rfl, rfl, trivial⟩)), q1⟩ ?_
  rintro v6_1 o200080_1 o200081_1 q1
  replace h := h v6_1 o200080_1 o200081_1 q1
  refine aw_seq ?_
  refine aw_seq ?_
  refine aw_region ?_
  refine run_s (ss_move rfl) rfl ?_
  refine run_s (ss_move rfl) rfl ?_
  refine run_s (ss_lenL (f := ci) rfl) rfl ?_
  refine run_s (ss_lss rfl rfl) rfl ?_
  refine run_nil ?_
  refine aw_cond rfl (fun q2 => ?_) (fun q2 => ?_)
  ·replace h := h.1 (of_decide_eq_true q2)
   refine aw_skip ?_
   refine aw_seq ?_
   refine aw_block ?_
   refine aw_seq ?_
   refine aw_region ?_
   refine run_w (ws_buildSlice (id := 16) (ps := []) rfl rfl (Nat.le_of_ble_eq_true rfl) rfl ⟨rfl, ?_⟩)
   refine run_s (ss_assign rfl) rfl ?_
   refine run_nil ?_
   refine aw_seq ?_
   refine aw_seq ?_
   refine aw_gh (gh_to (n := 44) (σ' := [(16, ⟨ints ([] : List Int), []⟩), (200081, ⟨orows o200081_1, []⟩), (200080, ⟨orows o200080_1, []⟩), (5, ⟨[.hole, .hole], [(1, .ref 200081), (0, .ref 200080)]⟩), (4, ⟨[cnil, cnil], []⟩)]) (env' := [(0, .c (.lst (ints p))), (1, .c (.lst (ints q))), (4, .cell 4 0), (5, .cell 5 0), (6, .c (ci v6_1)), (7, .ref 16)]) rfl rfl ⟨rfl, rfl, rfl, rfl, rfl, rfl, trivial⟩) ?_
   refine aw_region ?_
   refine run_s (ss_assign rfl) rfl ?_
   refine run_nil ?_
   refine aw_block ?_
   obtain ⟨H2, m2, q3, h⟩ := h
   refine aw_loop2 (fun (v8_2 : Int) (o16_2 : List Int) => ⟨[(16, ⟨ints o16_2, []⟩), (200081, ⟨orows o200081_1, []⟩), (200080, ⟨orows o200080_1, []⟩), (5, ⟨[.hole, .hole], [(1, .ref 200081), (0, .ref 200080)]⟩), (4, ⟨[cnil, cnil], []⟩)], [(0, .c (.lst (ints p))), (1, .c (.lst (ints q))), (4, .cell 4 0), (5, .cell 5 0), (6, .c (ci v6_1)), (7, .ref 16), (8, .c (ci v8_2))], 44⟩) H2 m2 ⟨0, ([] : List Int), ghe_to (n := 44) rfl rfl ⟨rfl, rfl, rfl, rfl, rfl, rfl, rfl, trivial⟩, q3⟩ ?_
   rintro v8_2 o16_2 q3
   replace h := h v8_2 o16_2 q3
   refine aw_seq ?_
   refine aw_seq ?_
   refine aw_region ?_
   refine run_s (ss_move rfl) rfl ?_
   refine run_s (ss_move rfl) rfl ?_
   refine run_s (ss_lenL (f := ci) rfl) rfl ?_
   refine run_s (ss_lss rfl rfl) rfl ?_
   refine run_nil ?_
   refine aw_cond rfl (fun q4 => ?_) (fun q4 => ?_)
   ·replace h := h.1 (of_decide_eq_true q4)
    refine aw_skip ?_
    refine aw_seq ?_
    refine aw_block ?_
    refine aw_region ?_
    refine run_s (ss_move rfl) rfl ?_
    refine run_s (ss_move rfl) rfl ?_
    refine run_s (ss_move rfl) rfl ?_
    obtain ⟨q5, h⟩ := h
    refine run_s (ss_idxL rfl rfl q5) rfl ?_
    refine run_s (ss_loadL (f := ci) rfl q5) rfl ?_
    refine run_w (ws_buildSlice (id := 28) (ps := [(0, .tmp 27)]) rfl rfl (Nat.le_of_ble_eq_true rfl) rfl ⟨rfl, ?_⟩)
    obtain ⟨q6, h⟩ := h
    refine run_w (ws_app1 ci (l := o16_2) (m := [el q v6_1]) rfl rfl rfl rfl rfl (Nat.le_of_ble_eq_true rfl) q6 ⟨rfl, ?_⟩)
    refine run_s (ss_assign rfl) rfl ?_
    refine run_nil ?_
    refine aw_gh (gh_to (n := 44) (σ' := [(16, ⟨ints (o16_2 ++ ([el q v6_1])), []⟩), (200081, ⟨orows o200081_1, []⟩), (200080, ⟨orows o200080_1, []⟩), (5, ⟨[.hole, .hole], [(1, .ref 200081), (0, .ref 200080)]⟩), (4, ⟨[cnil, cnil], []⟩)]) (env' := [(0, .c (.lst (ints p))), (1, .c (.lst (ints q))), (4, .cell 4 0), (5, .cell 5 0), (6, .c (ci v6_1)), (7, .ref 16), (8, .c (ci v8_2))]) rfl rfl ⟨rfl, rfl, rfl, rfl, rfl, rfl, rfl, trivial⟩) ?_
    refine aw_region ?_
    refine run_s (ss_move rfl) rfl ?_
    obtain ⟨q7, h⟩ := h
    refine run_s (ss_add rfl rfl q7) rfl ?_
    refine run_s (ss_assign rfl) rfl ?_
    refine run_nil ?_
    exact ⟨v8_2 + 1, o16_2 ++ ([el q v6_1]), ghe_to (n := 44) rfl rfl ⟨rfl, rfl, rfl, rfl, rfl, rfl, rfl, trivial⟩, h.1, h.2⟩
   ·replace h := h.2 (of_decide_eq_false q4)
    refine aw_exit ?_
    refine aw_seq ?_
    refine aw_gh (gh_to (n := 44) (σ' := [(16, ⟨ints o16_2, []⟩), (200081, ⟨orows o200081_1, []⟩), (200080, ⟨orows o200080_1, []⟩), (5, ⟨[.hole, .hole], [(1, .ref 200081), (0, .ref 200080)]⟩), (4, ⟨[cnil, cnil], []⟩)]) (env' := [(0, .c (.lst (ints p))), (1, .c (.lst (ints q))), (4, .cell 4 0), (5, .cell 5 0), (6, .c (ci v6_1)), (7, .ref 16)]) rfl rfl ⟨rfl, rfl, rfl, rfl, rfl, rfl, trivial⟩) ?_
    refine aw_regionD (kd := kdl [0, 1, 0, 2, 2, 2, 0, 3]) (ord := [0, 2, 1, 3, 4, 5, 6, 7]) [33, 34, 200080] mixed (by kernel_rfl) ?_
    refine rd_s rfl rfl trivial (ss_field_cell rfl) rfl ?_
    refine rd_s rfl rfl trivial (ss_move rfl) rfl ?_
    refine rd_l rfl rfl trivial (ss_loadH rfl rfl rfl rfl) rfl ?_
    obtain ⟨q8, h⟩ := h
    refine rd_w rfl rfl trivial rfl rfl (ws_call (xs := [.tmp 32]) (ids := [33]) rfl rfl rfl rfl (c_spec_l01Own p q8) rfl ?_ )
    rintro _ rfl
    refine ⟨rfl, ?_⟩
    refine rd_w rfl rfl trivial rfl rfl (ws_buildSlice (id := 34) (ps := [(0, .tmp 33)]) rfl rfl (Nat.le_of_ble_eq_true rfl) rfl ⟨rfl, ?_⟩)
    obtain ⟨q10, h⟩ := h
    refine rd_w rfl rfl trivial rfl rfl (ws_gh (gh_fill (id := 34) (id2 := 33) (j := 0) rfl rfl (Nat.le_of_ble_eq_true rfl) rfl rfl rfl) (ws_app1 (fun r => C.own (ints r)) (l := o200080_1) (m := [p]) rfl rfl rfl rfl rfl (Nat.le_of_ble_eq_true rfl) q10 ⟨rfl, ?_⟩))
    refine rd_s rfl rfl trivial (ss_field_cell rfl) rfl ?_
    refine rd_f rfl rfl trivial (ws_store rfl rfl (Nat.le_of_ble_eq_true rfl) rfl rfl ⟨rfl, ?_⟩)
    refine rd_nil ?_
    refine aw_region ?_
    refine run_s (ss_field_cell rfl) rfl ?_
    refine run_s (ss_loadH rfl rfl rfl rfl) rfl ?_
    refine run_s (ss_move rfl) rfl ?_
    refine run_w (ws_buildSlice (id := 40) (ps := [(0, .tmp 39)]) rfl rfl (Nat.le_of_ble_eq_true rfl) rfl ⟨rfl, ?_⟩)
    refine run_gh (gh_fill (id := 40) (id2 := 16) (j := 0) rfl rfl (Nat.le_of_ble_eq_true rfl) rfl rfl rfl) ?_
    obtain ⟨q11, h⟩ := h
    refine run_w (ws_app1 (fun r => C.own (ints r)) (l := o200081_1) (m := [o16_2]) rfl rfl rfl rfl rfl (Nat.le_of_ble_eq_true rfl) q11 ⟨rfl, ?_⟩)
    refine run_s (ss_field_cell rfl) rfl ?_
    refine run_w (ws_store rfl rfl (Nat.le_of_ble_eq_true rfl) rfl rfl ⟨rfl, ?_⟩)
    refine run_nil ?_
    refine aw_gh (gh_to (n := 44) (σ' := [(200081, ⟨orows (o200081_1 ++ ([o16_2])), []⟩), (200080, ⟨orows (o200080_1 ++ ([p])), []⟩), (5, ⟨[.hole, .hole], [(1, .ref 200081), (0, .ref 200080)]⟩), (4, ⟨[cnil, cnil], []⟩)]) (env' := [(0, .c (.lst (ints p))), (1, .c (.lst (ints q))), (4, .cell 4 0), (5, .cell 5 0), (6, .c (ci v6_1))]) rfl rfl ⟨rfl, rfl, rfl, rfl, rfl, trivial⟩) ?_
    refine aw_region ?_
    refine run_s (ss_move rfl) rfl ?_
    obtain ⟨q12, h⟩ := h
    refine run_s (ss_add rfl rfl q12) rfl ?_
    refine run_s (ss_assign rfl) rfl ?_
    refine run_nil ?_
    exact ⟨v6_1 + 1, o200080_1 ++ ([p]), o200081_1 ++ ([o16_2]), ghe_to (n := 44) rfl rfl ⟨rfl, rfl, rfl, rfl, rfl, trivial⟩, h.1, h.2⟩
  ·replace h := h.2 (of_decide_eq_false q2)
   refine aw_exit ?_
   refine aw_seq ?_
   refine aw_gh (gh_to (n := 44) (σ' := [(200081, ⟨orows o200081_1, []⟩), (200080, ⟨orows o200080_1, []⟩), (5, ⟨[.hole, .hole], [(1, .ref 200081), (0, .ref 200080)]⟩), (4, ⟨[cnil, cnil], []⟩)]) (env' := [(4, .cell 4 0), (5, .cell 5 0)]) rfl rfl ⟨rfl, rfl, trivial⟩) ?_
   refine aw_region ?_
   refine run_s (ss_loadS rfl rfl rfl rfl) rfl ?_
   refine run_w (ws_storeN rfl rfl (Nat.le_of_ble_eq_true rfl) rfl rfl rfl rfl ⟨rfl, ?_⟩)
   refine run_nil ?_
   refine aw_ret ?_
   exact retAF_mk (retv1 rfl (rv_struct rfl rfl rfl)) rfl rfl ⟨_, (cle_refl _), _, _, h, rfl⟩

theorem c_spec_l02Twist (p : List Int) (q : List Int) (hp : (p.length : Int) ≤ 1000000 ∧ q.length = p.length) : AF Try.prog 215 [.lst (ints p), .lst (ints q)] (fun R_ => R_ = .agg [.own (orows (tab (p.length : Int) (fun _ y_ => el p y_))), .own (orows (tab (p.length : Int) (fun x_ _ => el q x_)))]) :=
  (w_spec_l02Twist p q (fun y0 y1 => y0 = tab (p.length : Int) (fun _ y_ => el p y_) ∧ y1 = tab (p.length : Int) (fun x_ _ => el q x_)) (p_spec_l02Twist p q hp)).mono (by rintro r ⟨_, _, ⟨rfl, rfl⟩, rfl⟩; rfl)

set_option maxRecDepth 100000 in
set_option maxHeartbeats 4000000 in
theorem w_spec_l02Flip (n : Int) (Q : List (List Int) → List (List Int) → Prop) (h : wp_spec_l02Flip n Q) : AF Try.prog 197 [ci n] (fun R_ => ∃ y0 y1, Q y0 y1 ∧ R_ = .agg [.own (orows y0), .own (orows y1)]) := by
  refine AF.ofWQ (af_enter (n := 9) Try.func197 rfl (by rfl) rfl (Nat.le_of_ble_eq_true rfl) ?_)
  unfold wp_spec_l02Flip at h
  refine aw_seq ?_
  refine aw_gh (gh_to (n := 9) (σ' := []) (env' := [(0, .c (ci n))]) rfl rfl ⟨rfl, trivial⟩) ?_
  refine aw_region ?_
  refine run_w (ws_alloc (id := 2) rfl (Nat.le_of_ble_eq_true rfl) ⟨rfl, ?_⟩)
  refine run_nil ?_
  refine aw_seq ?_
  refine aw_region ?_
  refine run_s (ss_move rfl) rfl ?_
  obtain ⟨q1, h⟩ := h
  refine run_w (ws_call (xs := [.tmp 4]) (ids := [5]) rfl rfl rfl rfl (c_spec_l01Unit n q1) rfl ?_ )
  rintro _ rfl
  refine ⟨rfl, ?_⟩
  refine run_s (ss_assign rfl) rfl ?_
  refine run_nil ?_
  refine aw_seq ?_
  refine aw_region ?_
  refine run_s (ss_move rfl) rfl ?_
  refine run_s (ss_move rfl) rfl ?_
  obtain ⟨q3, h⟩ := h
  refine run_w (ws_callR (xs := [.tmp 6, .tmp 7]) (cs := [.own (ints (unitI n)), .own (ints (unitI n))]) (ids := [8, 1001]) rfl (.inr ⟨rfl, rfl⟩) rfl rfl (fz_cons (fz_own (fz_map (fun _ => rfl) _)) (fz_cons (fz_own (fz_map (fun _ => rfl) _)) fz_nil)) (c_spec_l02Twist (unitI n) (unitI n) q3) rfl ?_ )
  rintro _ rfl
  refine ⟨(slf_agg (slf_cons (slf_own (slfL_map (f := (fun r => C.own (ints r))) (fun _ => (slf_own (slfL_map (f := ci) (fun _ => rfl) _))) _)) (slf_cons (slf_own (slfL_map (f := (fun r => C.own (ints r))) (fun _ => (slf_own (slfL_map (f := ci) (fun _ => rfl) _))) _)) slf_nil))), rfl, ?_⟩
  refine run_w (ws_storeN rfl rfl (Nat.le_of_ble_eq_true rfl) rfl rfl rfl rfl ⟨rfl, ?_⟩)
  refine run_nil ?_
  refine aw_ret ?_
  exact retAF_mk (retv1 rfl (rv_struct rfl rfl rfl)) rfl rfl ⟨_, (cle_refl _), _, _, h, rfl⟩

theorem c_spec_l02Flip (n : Int) (hp : 0 ≤ n ∧ n ≤ 1000) : AF Try.prog 197 [ci n] (fun R_ => R_ = .agg [.own (orows (tab n (fun _ y_ => y_))), .own (orows (tab n (fun x_ _ => x_)))]) :=
  (w_spec_l02Flip n (fun y0 y1 => y0 = tab n (fun _ y_ => y_) ∧ y1 = tab n (fun x_ _ => x_)) (p_spec_l02Flip n hp)).mono (by rintro r ⟨_, _, ⟨rfl, rfl⟩, rfl⟩; rfl)

set_option maxRecDepth 100000 in
set_option maxHeartbeats 4000000 in
theorem w_spec_l02Twisted (s1 : List Int) (s2 : Int) (s3 : Int) (n : Int) (Q : List (List Int) → List (List Int) → List Int → Int → Int → Prop) (h : wp_spec_l02Twisted s1 s2 s3 n Q) : AM Try.prog 218 [.obox [.lst (bys s1), ci s2, cu s3], ci n] (fun R_ O_ => ∃ y0 y1 w0 w1 w2, Q y0 y1 w0 w1 w2 ∧ R_ = .agg [.own (orows y0), .own (orows y1)] ∧ O_ = [.obox [.lst (bys w0), ci w1, cu w2], ci n]) := by
  refine am_enter (n := 31) (m := 2) Try.func218 rfl (by rfl) rfl rfl (Nat.le_of_ble_eq_true rfl) [800] rfl ?_
  unfold wp_spec_l02Twisted at h
  refine aw_seq ?_
  refine aw_gh (gh_to (n := 31) (σ' := [(800, ⟨[.lst (bys s1), ci s2, cu s3], []⟩)]) (env' := [(0, .cell 800 0), (1, .c (ci n)), (31, .cell 800 0), (32, .c (ci n))]) rfl rfl ⟨rfl, rfl, rfl, rfl, trivial⟩) ?_
  refine aw_region ?_
  refine run_w (ws_alloc (id := 4) rfl (Nat.le_of_ble_eq_true rfl) ⟨rfl, ?_⟩)
  refine run_nil ?_
  refine aw_seq ?_
  refine aw_region ?_
  refine run_s (ss_move rfl) rfl ?_
  refine run_s (ss_move rfl) rfl ?_
  obtain ⟨q1, h⟩ := h
  refine run_w (ws_callM (xs := [.tmp 8, .tmp 9]) (cs := [.obox [.lst (bys s1), ci s2, cu s3], ci n]) (ids := [10]) rfl (.inr ⟨rfl, rfl⟩) rfl rfl rfl (c_spec_l01Draw s1 s2 s3 n q1) rfl rfl ?_ )
  rintro _ _ ⟨r1_0, o1_0, o1_1, o1_2, q2, rfl, rfl⟩
  replace h := h r1_0 o1_0 o1_1 o1_2 q2
  refine ⟨rfl, rfl, ?_⟩
  refine run_s (ss_assign rfl) rfl ?_
  refine run_nil ?_
  refine aw_seq ?_
  refine aw_region ?_
  refine run_s (ss_move rfl) rfl ?_
  obtain ⟨q3, h⟩ := h
  refine run_w (ws_call (xs := [.tmp 11]) (ids := [12]) rfl rfl rfl rfl (c_spec_l01Unit n q3) rfl ?_ )
  rintro _ rfl
  refine ⟨rfl, ?_⟩
  refine run_s (ss_assign rfl) rfl ?_
  refine run_nil ?_
  refine aw_seq ?_
  refine aw_seq ?_
  refine aw_gh (gh_to (n := 31) (σ' := [(12, ⟨ints (unitI n), []⟩), (10, ⟨ints r1_0, []⟩), (4, ⟨[cnil, cnil], []⟩), (800, ⟨[.lst (bys o1_0), ci o1_1, cu o1_2], []⟩)]) (env' := [(0, .cell 800 0), (4, .cell 4 0), (5, .ref 10), (6, .ref 12), (31, .cell 800 0), (32, .c (ci n))]) rfl rfl ⟨rfl, rfl, rfl, rfl, rfl, rfl, trivial⟩) ?_
  refine aw_region ?_
  refine run_s (ss_move rfl) rfl ?_
  obtain ⟨q5, h⟩ := h
  refine run_w (ws_callM (xs := [.tmp 13, .const (.int .i64 (4))]) (cs := [.obox [.lst (bys o1_0), ci o1_1, cu o1_2], ci 4]) (ids := []) rfl (.inr ⟨rfl, rfl⟩) rfl rfl rfl (c_spec_l01Next o1_0 o1_1 o1_2 4 q5) rfl rfl ?_ )
  rintro _ _ ⟨r2_0, o2_0, o2_1, o2_2, q6, rfl, rfl⟩
  replace h := h r2_0 o2_0 o2_1 o2_2 q6
  refine ⟨rfl, rfl, ?_⟩
  refine run_s (ss_assign rfl) rfl ?_
  refine run_nil ?_
  refine aw_block ?_
  obtain ⟨H1, m1, q7, h⟩ := h
  refine aw_loop2 (fun (v6_1 : List Int) (v7_1 : Int) => ⟨[(10, ⟨ints r1_0, []⟩), (4, ⟨[cnil, cnil], []⟩), (800, ⟨[.lst (bys o2_0), ci o2_1, cu o2_2], []⟩)], [(0, .cell 800 0), (4, .cell 4 0), (5, .ref 10), (6, .c (.lst (ints v6_1))), (7, .c (ci v7_1)), (31, .cell 800 0), (32, .c (ci n))], 31⟩) H1 m1 ⟨unitI n, r2_0, ghe_step (gh_frzE (id := 12) ci rfl (fun _ => rfl)) (ghe_to (n := 31) rfl rfl ⟨rfl, rfl, rfl, rfl, rfl, rfl, rfl, trivial⟩), q7⟩ ?_
  rintro v6_1 v7_1 q7
  replace h := h v6_1 v7_1 q7
  refine aw_seq ?_
  refine aw_seq ?_
  refine aw_region ?_
  refine run_s (ss_move rfl) rfl ?_
  refine run_s (ss_gtr rfl rfl) rfl ?_
  refine run_nil ?_
  refine aw_cond rfl (fun q8 => ?_) (fun q8 => ?_)
  ·replace h := h.1 (of_decide_eq_true q8)
   refine aw_skip ?_
   refine aw_seq ?_
   refine aw_block ?_
   refine aw_region ?_
   refine run_s (ss_move rfl) rfl ?_
   refine run_s (ss_move rfl) rfl ?_
   obtain ⟨q9, h⟩ := h
   refine run_w (ws_callR (xs := [.tmp 19, .tmp 20]) (cs := [.lst (ints v6_1), .own (ints r1_0)]) (ids := [21]) rfl (.inr ⟨rfl, rfl⟩) rfl rfl (fz_cons rfl (fz_cons (fz_own (fz_map (fun _ => rfl) _)) fz_nil)) (c_spec_l01Then v6_1 r1_0 q9) rfl ?_ )
   rintro _ rfl
   refine ⟨(slf_own (slfL_map (f := ci) (fun _ => rfl) _)), rfl, ?_⟩
   refine run_s (ss_assign rfl) rfl ?_
   refine run_nil ?_
   refine aw_gh (gh_to (n := 31) (σ' := [(21, ⟨ints (v6_1.map (el r1_0)), []⟩), (10, ⟨ints r1_0, []⟩), (4, ⟨[cnil, cnil], []⟩), (800, ⟨[.lst (bys o2_0), ci o2_1, cu o2_2], []⟩)]) (env' := [(0, .cell 800 0), (4, .cell 4 0), (5, .ref 10), (6, .ref 21), (7, .c (ci v7_1)), (31, .cell 800 0), (32, .c (ci n))]) rfl rfl ⟨rfl, rfl, rfl, rfl, rfl, rfl, rfl, trivial⟩) ?_
   refine aw_region ?_
   refine run_s (ss_move rfl) rfl ?_
   obtain ⟨q11, h⟩ := h
   refine run_s (ss_sub rfl rfl q11) rfl ?_
   refine run_s (ss_assign rfl) rfl ?_
   refine run_nil ?_
   exact ⟨v6_1.map (el r1_0), v7_1 - 1, ghe_step (gh_frzE (id := 21) ci rfl (fun _ => rfl)) (ghe_to (n := 31) rfl rfl ⟨rfl, rfl, rfl, rfl, rfl, rfl, rfl, trivial⟩), h.1, h.2⟩
  ·replace h := h.2 (of_decide_eq_false q8)
   refine aw_exit ?_
   refine aw_seq ?_
   refine aw_seq ?_
   refine aw_region ?_
   refine run_s (ss_move rfl) rfl ?_
   obtain ⟨q12, h⟩ := h
   refine run_w (ws_callM (xs := [.tmp 22, .const (.int .i64 (2))]) (cs := [.obox [.lst (bys o2_0), ci o2_1, cu o2_2], ci 2]) (ids := []) rfl (.inr ⟨rfl, rfl⟩) rfl rfl rfl (c_spec_l01Next o2_0 o2_1 o2_2 2 q12) rfl rfl ?_ )
   rintro _ _ ⟨r3_0, o3_0, o3_1, o3_2, q13, rfl, rfl⟩
   replace h := h r3_0 o3_0 o3_1 o3_2 q13
   refine ⟨rfl, rfl, ?_⟩
   refine run_s (ss_eql rfl rfl) rfl ?_
   refine run_nil ?_
   refine aw_cond rfl (fun q14 => ?_) (fun q14 => ?_)
   ·replace h := h.1 (of_decide_eq_true q14)
    refine aw_seq ?_
    refine aw_gh (gh_to (n := 31) (σ' := [(10, ⟨ints r1_0, []⟩), (4, ⟨[cnil, cnil], []⟩), (800, ⟨[.lst (bys o3_0), ci o3_1, cu o3_2], []⟩)]) (env' := [(4, .cell 4 0), (5, .ref 10), (6, .c (.lst (ints v6_1))), (31, .cell 800 0), (32, .c (ci n))]) rfl rfl ⟨rfl, rfl, rfl, rfl, rfl, trivial⟩) ?_
    refine aw_region ?_
    refine run_s (ss_move rfl) rfl ?_
    refine run_s (ss_move rfl) rfl ?_
    obtain ⟨q15, h⟩ := h
    refine run_w (ws_callR (xs := [.tmp 25, .tmp 26]) (cs := [.own (ints r1_0), .lst (ints v6_1)]) (ids := [27, 1001]) rfl (.inr ⟨rfl, rfl⟩) rfl rfl (fz_cons (fz_own (fz_map (fun _ => rfl) _)) (fz_cons rfl fz_nil)) (c_spec_l02Twist r1_0 v6_1 q15) rfl ?_ )
    rintro _ rfl
    refine ⟨(slf_agg (slf_cons (slf_own (slfL_map (f := (fun r => C.own (ints r))) (fun _ => (slf_own (slfL_map (f := ci) (fun _ => rfl) _))) _)) (slf_cons (slf_own (slfL_map (f := (fun r => C.own (ints r))) (fun _ => (slf_own (slfL_map (f := ci) (fun _ => rfl) _))) _)) slf_nil))), rfl, ?_⟩
    refine run_w (ws_storeN rfl rfl (Nat.le_of_ble_eq_true rfl) rfl rfl rfl rfl ⟨rfl, ?_⟩)
    refine run_nil ?_
    refine aw_ret ?_
    exact retAM_mk (retv1 rfl (rv_struct rfl rfl rfl)) rfl rfl rfl ⟨_, _, _, _, _, h, rfl, rfl⟩
   ·replace h := h.2 (of_decide_eq_false q14)
    refine aw_skip ?_
    refine aw_seq ?_
    refine aw_gh (gh_to (n := 31) (σ' := [(10, ⟨ints r1_0, []⟩), (4, ⟨[cnil, cnil], []⟩), (800, ⟨[.lst (bys o3_0), ci o3_1, cu o3_2], []⟩)]) (env' := [(4, .cell 4 0), (5, .ref 10), (6, .c (.lst (ints v6_1))), (31, .cell 800 0), (32, .c (ci n))]) rfl rfl ⟨rfl, rfl, rfl, rfl, rfl, trivial⟩) ?_
    refine aw_region ?_
    refine run_s (ss_move rfl) rfl ?_
    refine run_s (ss_move rfl) rfl ?_
    obtain ⟨q17, h⟩ := h
    refine run_w (ws_callR (xs := [.tmp 28, .tmp 29]) (cs := [.lst (ints v6_1), .own (ints r1_0)]) (ids := [30, 1002]) rfl (.inr ⟨rfl, rfl⟩) rfl rfl (fz_cons rfl (fz_cons (fz_own (fz_map (fun _ => rfl) _)) fz_nil)) (c_spec_l02Twist v6_1 r1_0 q17) rfl ?_ )
    rintro _ rfl
    refine ⟨(slf_agg (slf_cons (slf_own (slfL_map (f := (fun r => C.own (ints r))) (fun _ => (slf_own (slfL_map (f := ci) (fun _ => rfl) _))) _)) (slf_cons (slf_own (slfL_map (f := (fun r => C.own (ints r))) (fun _ => (slf_own (slfL_map (f := ci) (fun _ => rfl) _))) _)) slf_nil))), rfl, ?_⟩
    refine run_w (ws_storeN rfl rfl (Nat.le_of_ble_eq_true rfl) rfl rfl rfl rfl ⟨rfl, ?_⟩)
    refine run_nil ?_
    refine aw_ret ?_
    exact retAM_mk (retv1 rfl (rv_struct rfl rfl rfl)) rfl rfl rfl ⟨_, _, _, _, _, h, rfl, rfl⟩

theorem c_spec_l02Twisted (s1 : List Int) (s2 : Int) (s3 : Int) (n : Int) (hp : okS s1 s2 s3 ∧ 1 ≤ n ∧ n ≤ 12) : AM Try.prog 218 [.obox [.lst (bys s1), ci s2, cu s3], ci n] (fun R_ O_ => ∃ y0 y1 w0 w1 w2, ((pairN n y0 y1) ∧ w0 = s1 ∧ okS s1 w1 w2) ∧ R_ = .agg [.own (orows y0), .own (orows y1)] ∧ O_ = [.obox [.lst (bys w0), ci w1, cu w2], ci n]) :=
  w_spec_l02Twisted s1 s2 s3 n (fun y0 y1 w0 w1 w2 => (pairN n y0 y1) ∧ w0 = s1 ∧ okS s1 w1 w2) (p_spec_l02Twisted s1 s2 s3 n hp)

set_option maxRecDepth 100000 in
set_option maxHeartbeats 4000000 in
theorem w_spec_l02Polygon (n : Int) (Q : List (List Int) → List (List Int) → Prop) (h : wp_spec_l02Polygon n Q) : AF Try.prog 216 [ci n] (fun R_ => ∃ y0 y1, Q y0 y1 ∧ R_ = .agg [.own (orows y0), .own (orows y1)]) := by
  refine AF.ofWQ (af_enter (n := 49) Try.func216 rfl (by rfl) rfl (Nat.le_of_ble_eq_true rfl) ?_)
  unfold wp_spec_l02Polygon at h
  refine aw_seq ?_
  refine aw_gh (gh_to (n := 49) (σ' := []) (env' := [(0, .c (ci n))]) rfl rfl ⟨rfl, trivial⟩) ?_
  refine aw_region ?_
  refine run_w (ws_alloc (id := 2) rfl (Nat.le_of_ble_eq_true rfl) ⟨rfl, ?_⟩)
  refine run_nil ?_
  refine aw_seq ?_
  refine aw_region ?_
  refine run_s (ss_build0) rfl ?_
  refine run_w (ws_alloc (id := 3) rfl (Nat.le_of_ble_eq_true rfl) ⟨rfl, ?_⟩)
  refine run_w (ws_storeN rfl rfl (Nat.le_of_ble_eq_true rfl) rfl rfl rfl rfl ⟨rfl, ?_⟩)
  refine run_nil ?_
  refine aw_seq ?_
  refine aw_seq ?_
  refine aw_region ?_
  refine run_s (ss_assign rfl) rfl ?_
  refine run_nil ?_
  refine aw_block ?_
  obtain ⟨H1, m1, q1, h⟩ := h
  refine aw_loop3 (fun (v4_1 : Int) (o200048_1 : List (List Int)) (o200049_1 : List (List Int)) => ⟨[(200049, ⟨orows o200049_1, []⟩), (200048, ⟨orows o200048_1, []⟩), (3, ⟨[.hole, .hole], [(1, .ref 200049), (0, .ref 200048)]⟩), (2, ⟨[cnil, cnil], []⟩)], [(0, .c (ci n)), (2, .cell 2 0), (3, .cell 3 0), (4, .c (ci v4_1))], 49⟩) H1 m1 ⟨0, ([] : List (List Int)), ([] : List (List Int)), ghe_step (gh_nilH (id0 := 3) (j := 0) (id := 200048) rfl rfl rfl rfl) (ghe_step (gh_nilH (id0 := 3) (j := 1) (id := 200049) rfl rfl rfl rfl) (ghe_to (n := 49) rfl rfl ⟨rfl, rfl, rfl, rfl, trivial⟩)), q1⟩ ?_
  rintro v4_1 o200048_1 o200049_1 q1
  replace h := h v4_1 o200048_1 o200049_1 q1
  refine aw_seq ?_
  refine aw_seq ?_
  refine aw_region ?_
  refine run_s (ss_move rfl) rfl ?_
  refine run_s (ss_move rfl) rfl ?_
  refine run_s (ss_lss rfl rfl) rfl ?_
  refine run_nil ?_
  refine aw_cond rfl (fun q2 => ?_) (fun q2 => ?_)
  ·replace h := h.1 (of_decide_eq_true q2)
   refine aw_skip ?_
   refine aw_seq ?_
   refine aw_block ?_
   refine aw_seq ?_
   refine aw_region ?_
   refine run_w (ws_buildSlice (id := 14) (ps := []) rfl rfl (Nat.le_of_ble_eq_true rfl) rfl ⟨rfl, ?_⟩)
   refine run_w (ws_buildSlice (id := 15) (ps := []) rfl rfl (Nat.le_of_ble_eq_true rfl) rfl ⟨rfl, ?_⟩)
   refine run_s (ss_assign rfl) rfl ?_
   refine run_s (ss_assign rfl) rfl ?_
   refine run_nil ?_
   refine aw_seq ?_
   refine aw_seq ?_
   refine aw_gh (gh_to (n := 49) (σ' := [(15, ⟨ints ([] : List Int), []⟩), (14, ⟨ints ([] : List Int), []⟩), (200049, ⟨orows o200049_1, []⟩), (200048, ⟨orows o200048_1, []⟩), (3, ⟨[.hole, .hole], [(1, .ref 200049), (0, .ref 200048)]⟩), (2, ⟨[cnil, cnil], []⟩)]) (env' := [(0, .c (ci n)), (2, .cell 2 0), (3, .cell 3 0), (4, .c (ci v4_1)), (5, .ref 14), (6, .ref 15)]) rfl rfl ⟨rfl, rfl, rfl, rfl, rfl, rfl, trivial⟩) ?_
   refine aw_region ?_
   refine run_s (ss_assign rfl) rfl ?_
   refine run_nil ?_
   refine aw_block ?_
   obtain ⟨H2, m2, q3, h⟩ := h
   refine aw_loop3 (fun (v7_2 : Int) (o14_2 : List Int) (o15_2 : List Int) => ⟨[(15, ⟨ints o15_2, []⟩), (14, ⟨ints o14_2, []⟩), (200049, ⟨orows o200049_1, []⟩), (200048, ⟨orows o200048_1, []⟩), (3, ⟨[.hole, .hole], [(1, .ref 200049), (0, .ref 200048)]⟩), (2, ⟨[cnil, cnil], []⟩)], [(0, .c (ci n)), (2, .cell 2 0), (3, .cell 3 0), (4, .c (ci v4_1)), (5, .ref 14), (6, .ref 15), (7, .c (ci v7_2))], 49⟩) H2 m2 ⟨0, ([] : List Int), ([] : List Int), ghe_to (n := 49) rfl rfl ⟨rfl, rfl, rfl, rfl, rfl, rfl, rfl, trivial⟩, q3⟩ ?_
   rintro v7_2 o14_2 o15_2 q3
   replace h := h v7_2 o14_2 o15_2 q3
   refine aw_seq ?_
   refine aw_seq ?_
   refine aw_region ?_
   refine run_s (ss_move rfl) rfl ?_
   refine run_s (ss_move rfl) rfl ?_
   refine run_s (ss_lss rfl rfl) rfl ?_
   refine run_nil ?_
   refine aw_cond rfl (fun q4 => ?_) (fun q4 => ?_)
   ·replace h := h.1 (of_decide_eq_true q4)
    refine aw_skip ?_
    refine aw_seq ?_
    refine aw_block ?_
    refine aw_seq ?_
    refine aw_region ?_
    refine run_s (ss_move rfl) rfl ?_
    refine run_s (ss_move rfl) rfl ?_
    obtain ⟨q5, h⟩ := h
    refine run_s (ss_mul rfl rfl q5) rfl ?_
    refine run_s (ss_move rfl) rfl ?_
    obtain ⟨q6, h⟩ := h
    refine run_s (ss_sub rfl rfl q6) rfl ?_
    refine run_s (ss_move rfl) rfl ?_
    obtain ⟨q7, h⟩ := h
    refine run_s (ss_add rfl rfl q7) rfl ?_
    refine run_s (ss_move rfl) rfl ?_
    obtain ⟨q8, h⟩ := h
    refine run_s (ss_rem rfl rfl q8) rfl ?_
    refine run_w (ws_buildSlice (id := 30) (ps := [(0, .tmp 29)]) rfl rfl (Nat.le_of_ble_eq_true rfl) rfl ⟨rfl, ?_⟩)
    obtain ⟨q9, h⟩ := h
    refine run_w (ws_app1 ci (l := o14_2) (m := [(((2 * v4_1) - v7_2) + n) % n]) rfl rfl rfl rfl rfl (Nat.le_of_ble_eq_true rfl) q9 ⟨rfl, ?_⟩)
    refine run_s (ss_assign rfl) rfl ?_
    refine run_nil ?_
    refine aw_gh (gh_to (n := 49) (σ' := [(15, ⟨ints o15_2, []⟩), (14, ⟨ints (o14_2 ++ ([(((2 * v4_1) - v7_2) + n) % n])), []⟩), (200049, ⟨orows o200049_1, []⟩), (200048, ⟨orows o200048_1, []⟩), (3, ⟨[.hole, .hole], [(1, .ref 200049), (0, .ref 200048)]⟩), (2, ⟨[cnil, cnil], []⟩)]) (env' := [(0, .c (ci n)), (2, .cell 2 0), (3, .cell 3 0), (4, .c (ci v4_1)), (5, .ref 14), (6, .ref 15), (7, .c (ci v7_2))]) rfl rfl ⟨rfl, rfl, rfl, rfl, rfl, rfl, rfl, trivial⟩) ?_
    refine aw_region ?_
    refine run_s (ss_move rfl) rfl ?_
    refine run_s (ss_move rfl) rfl ?_
    refine run_w (ws_buildSlice (id := 34) (ps := [(0, .tmp 33)]) rfl rfl (Nat.le_of_ble_eq_true rfl) rfl ⟨rfl, ?_⟩)
    obtain ⟨q10, h⟩ := h
    refine run_w (ws_app1 ci (l := o15_2) (m := [v4_1]) rfl rfl rfl rfl rfl (Nat.le_of_ble_eq_true rfl) q10 ⟨rfl, ?_⟩)
    refine run_s (ss_assign rfl) rfl ?_
    refine run_nil ?_
    refine aw_region ?_
    refine run_s (ss_move rfl) rfl ?_
    obtain ⟨q11, h⟩ := h
    refine run_s (ss_add rfl rfl q11) rfl ?_
    refine run_s (ss_assign rfl) rfl ?_
    refine run_nil ?_
    exact ⟨v7_2 + 1, o14_2 ++ ([(((2 * v4_1) - v7_2) + n) % n]), o15_2 ++ ([v4_1]), ghe_to (n := 49) rfl rfl ⟨rfl, rfl, rfl, rfl, rfl, rfl, rfl, trivial⟩, h.1, h.2⟩
   ·replace h := h.2 (of_decide_eq_false q4)
    refine aw_exit ?_
    refine aw_seq ?_
    refine aw_region ?_
    refine run_s (ss_field_cell rfl) rfl ?_
    refine run_s (ss_loadH rfl rfl rfl rfl) rfl ?_
    refine run_s (ss_move rfl) rfl ?_
    refine run_w (ws_buildSlice (id := 39) (ps := [(0, .tmp 38)]) rfl rfl (Nat.le_of_ble_eq_true rfl) rfl ⟨rfl, ?_⟩)
    refine run_gh (gh_fill (id := 39) (id2 := 14) (j := 0) rfl rfl (Nat.le_of_ble_eq_true rfl) rfl rfl rfl) ?_
    obtain ⟨q12, h⟩ := h
    refine run_w (ws_app1 (fun r => C.own (ints r)) (l := o200048_1) (m := [o14_2]) rfl rfl rfl rfl rfl (Nat.le_of_ble_eq_true rfl) q12 ⟨rfl, ?_⟩)
    refine run_s (ss_field_cell rfl) rfl ?_
    refine run_w (ws_store rfl rfl (Nat.le_of_ble_eq_true rfl) rfl rfl ⟨rfl, ?_⟩)
    refine run_nil ?_
    refine aw_gh (gh_to (n := 49) (σ' := [(15, ⟨ints o15_2, []⟩), (200049, ⟨orows o200049_1, []⟩), (200048, ⟨orows (o200048_1 ++ ([o14_2])), []⟩), (3, ⟨[.hole, .hole], [(0, .ref 200048), (1, .ref 200049)]⟩), (2, ⟨[cnil, cnil], []⟩)]) (env' := [(0, .c (ci n)), (2, .cell 2 0), (3, .cell 3 0), (4, .c (ci v4_1)), (6, .ref 15)]) rfl rfl ⟨rfl, rfl, rfl, rfl, rfl, trivial⟩) ?_
    refine aw_region ?_
    refine run_s (ss_field_cell rfl) rfl ?_
    refine run_s (ss_loadH rfl rfl rfl rfl) rfl ?_
    refine run_s (ss_move rfl) rfl ?_
    refine run_w (ws_buildSlice (id := 45) (ps := [(0, .tmp 44)]) rfl rfl (Nat.le_of_ble_eq_true rfl) rfl ⟨rfl, ?_⟩)
    refine run_gh (gh_fill (id := 45) (id2 := 15) (j := 0) rfl rfl (Nat.le_of_ble_eq_true rfl) rfl rfl rfl) ?_
    obtain ⟨q13, h⟩ := h
    refine run_w (ws_app1 (fun r => C.own (ints r)) (l := o200049_1) (m := [o15_2]) rfl rfl rfl rfl rfl (Nat.le_of_ble_eq_true rfl) q13 ⟨rfl, ?_⟩)
    refine run_s (ss_field_cell rfl) rfl ?_
    refine run_w (ws_store rfl rfl (Nat.le_of_ble_eq_true rfl) rfl rfl ⟨rfl, ?_⟩)
    refine run_nil ?_
    refine aw_gh (gh_to (n := 49) (σ' := [(200049, ⟨orows (o200049_1 ++ ([o15_2])), []⟩), (200048, ⟨orows (o200048_1 ++ ([o14_2])), []⟩), (3, ⟨[.hole, .hole], [(1, .ref 200049), (0, .ref 200048)]⟩), (2, ⟨[cnil, cnil], []⟩)]) (env' := [(0, .c (ci n)), (2, .cell 2 0), (3, .cell 3 0), (4, .c (ci v4_1))]) rfl rfl ⟨rfl, rfl, rfl, rfl, trivial⟩) ?_
    refine aw_region ?_
    refine run_s (ss_move rfl) rfl ?_
    obtain ⟨q14, h⟩ := h
    refine run_s (ss_add rfl rfl q14) rfl ?_
    refine run_s (ss_assign rfl) rfl ?_
    refine run_nil ?_
    exact ⟨v4_1 + 1, o200048_1 ++ ([o14_2]), o200049_1 ++ ([o15_2]), ghe_to (n := 49) rfl rfl ⟨rfl, rfl, rfl, rfl, trivial⟩, h.1, h.2⟩
  ·replace h := h.2 (of_decide_eq_false q2)
   refine aw_exit ?_
   refine aw_seq ?_
   refine aw_gh (gh_to (n := 49) (σ' := [(200049, ⟨orows o200049_1, []⟩), (200048, ⟨orows o200048_1, []⟩), (3, ⟨[.hole, .hole], [(1, .ref 200049), (0, .ref 200048)]⟩), (2, ⟨[cnil, cnil], []⟩)]) (env' := [(2, .cell 2 0), (3, .cell 3 0)]) rfl rfl ⟨rfl, rfl, trivial⟩) ?_
   refine aw_region ?_
   refine run_s (ss_loadS rfl rfl rfl rfl) rfl ?_
   refine run_w (ws_storeN rfl rfl (Nat.le_of_ble_eq_true rfl) rfl rfl rfl rfl ⟨rfl, ?_⟩)
   refine run_nil ?_
   refine aw_ret ?_
   exact retAF_mk (retv1 rfl (rv_struct rfl rfl rfl)) rfl rfl ⟨_, (cle_refl _), _, _, h, rfl⟩

theorem c_spec_l02Polygon (n : Int) (hp : 1 ≤ n ∧ n ≤ 12) : AF Try.prog 216 [ci n] (fun R_ => R_ = .agg [.own (orows (tab n (fun x_ y_ => (2 * x_ - y_ + n) % n))), .own (orows (tab n (fun x_ _ => x_)))]) :=
  (w_spec_l02Polygon n (fun y0 y1 => y0 = tab n (fun x_ y_ => (2 * x_ - y_ + n) % n) ∧ y1 = tab n (fun x_ _ => x_)) (p_spec_l02Polygon n hp)).mono (by rintro r ⟨_, _, ⟨rfl, rfl⟩, rfl⟩; rfl)

set_option maxRecDepth 100000 in
set_option maxHeartbeats 4000000 in
theorem w_spec_l02Product (s1 : List (List Int)) (s2 : List (List Int)) (t1 : List (List Int)) (t2 : List (List Int)) (Q : List (List Int) → List (List Int) → Prop) (h : wp_spec_l02Product s1 s2 t1 t2 Q) : AF Try.prog 217 [.agg [.lst (rows s1), .lst (rows s2)], .agg [.lst (rows t1), .lst (rows t2)]] (fun R_ => ∃ y0 y1, Q y0 y1 ∧ R_ = .agg [.own (orows y0), .own (orows y1)]) := by
  refine AF.ofWQ (af_enter (n := 108) Try.func217 rfl (by rfl) rfl (Nat.le_of_ble_eq_true rfl) ?_)
  unfold wp_spec_l02Product at h
  refine aw_seq ?_
  refine aw_gh (gh_to (n := 108) (σ' := []) (env' := [(0, .c (.agg [.lst (rows s1), .lst (rows s2)])), (1, .c (.agg [.lst (rows t1), .lst (rows t2)]))]) rfl rfl ⟨rfl, rfl, trivial⟩) ?_
  refine aw_region ?_
  refine run_w (ws_boxR rfl (.inl rfl) rfl ⟨rfl, ?_⟩)
  refine run_w (ws_boxR rfl (.inl rfl) rfl ⟨rfl, ?_⟩)
  refine run_w (ws_alloc (id := 4) rfl (Nat.le_of_ble_eq_true rfl) ⟨rfl, ?_⟩)
  refine run_nil ?_
  refine aw_seq ?_
  refine aw_gh (gh_to (n := 108) (σ' := [(4, ⟨[cnil, cnil], []⟩)]) (env' := [(2, .c (.ptr [.lst (rows s1), .lst (rows s2)])), (3, .c (.ptr [.lst (rows t1), .lst (rows t2)])), (4, .cell 4 0)]) rfl rfl ⟨rfl, rfl, rfl, trivial⟩) ?_
  refine aw_regionD (kd := kdl [0, 1, 0, 0, 1, 0, 0, 0]) (ord := [0, 3, 1, 2, 6, 4, 5, 7]) [] mixed (by kernel_rfl) ?_
  refine rd_s rfl rfl trivial (ss_field_ptr rfl) rfl ?_
  refine rd_s rfl rfl trivial (ss_field_ptr rfl) rfl ?_
  refine rd_l rfl rfl trivial (ss_load_ptr rfl rfl) rfl ?_
  refine rd_s rfl rfl trivial (ss_lenL (f := (fun r => C.lst (ints r))) rfl) rfl ?_
  refine rd_s rfl rfl trivial (ss_assign rfl) rfl ?_
  refine rd_l rfl rfl trivial (ss_load_ptr rfl rfl) rfl ?_
  refine rd_s rfl rfl trivial (ss_lenL (f := (fun r => C.lst (ints r))) rfl) rfl ?_
  refine rd_s rfl rfl trivial (ss_assign rfl) rfl ?_
  refine rd_nil ?_
  refine aw_seq ?_
  refine aw_gh (gh_to (n := 108) (σ' := [(4, ⟨[cnil, cnil], []⟩)]) (env' := [(2, .c (.ptr [.lst (rows s1), .lst (rows s2)])), (3, .c (.ptr [.lst (rows t1), .lst (rows t2)])), (4, .cell 4 0), (5, .c (ci (s1.length : Int))), (6, .c (ci (t1.length : Int)))]) rfl rfl ⟨rfl, rfl, rfl, rfl, rfl, trivial⟩) ?_
  refine aw_region ?_
  refine run_s (ss_build0) rfl ?_
  refine run_w (ws_alloc (id := 7) rfl (Nat.le_of_ble_eq_true rfl) ⟨rfl, ?_⟩)
  refine run_w (ws_storeN rfl rfl (Nat.le_of_ble_eq_true rfl) rfl rfl rfl rfl ⟨rfl, ?_⟩)
  refine run_nil ?_
  refine aw_seq ?_
  refine aw_seq ?_
  refine aw_region ?_
  refine run_s (ss_assign rfl) rfl ?_
  refine run_nil ?_
  refine aw_block ?_
  obtain ⟨H1, m1, q1, h⟩ := h
  refine aw_loop3 (fun (v8_1 : Int) (o200112_1 : List (List Int)) (o200113_1 : List (List Int)) => ⟨[(200113, ⟨orows o200113_1, []⟩), (200112, ⟨orows o200112_1, []⟩), (7, ⟨[.hole, .hole], [(1, .ref 200113), (0, .ref 200112)]⟩), (4, ⟨[cnil, cnil], []⟩)], [(2, .c (.ptr [.lst (rows s1), .lst (rows s2)])), (3, .c (.ptr [.lst (rows t1), .lst (rows t2)])), (4, .cell 4 0), (5, .c (ci (s1.length : Int))), (6, .c (ci (t1.length : Int))), (7, .cell 7 0), (8, .c (ci v8_1))], 108⟩) H1 m1 ⟨0, ([] : List (List Int)), ([] : List (List Int)), ghe_step (gh_nilH (id0 := 7) (j := 0) (id := 200112) rfl rfl rfl rfl) (ghe_step (gh_nilH (id0 := 7) (j := 1) (id := 200113) rfl rfl rfl rfl) (ghe_to (n := 108) rfl rfl ⟨rfl, rfl, rfl, rfl, rfl, rfl, rfl, trivial⟩)), q1⟩ ?_
  rintro v8_1 o200112_1 o200113_1 q1
  replace h := h v8_1 o200112_1 o200113_1 q1
  refine aw_seq ?_
  refine aw_seq ?_
  refine aw_region ?_
  refine run_s (ss_move rfl) rfl ?_
  refine run_s (ss_move rfl) rfl ?_
  refine run_s (ss_move rfl) rfl ?_
  obtain ⟨q2, h⟩ := h
  refine run_s (ss_mul rfl rfl q2) rfl ?_
  refine run_s (ss_lss rfl rfl) rfl ?_
  refine run_nil ?_
  refine aw_cond rfl (fun q3 => ?_) (fun q3 => ?_)
  ·replace h := h.1 (of_decide_eq_true q3)
   refine aw_skip ?_
   refine aw_seq ?_
   refine aw_block ?_
   refine aw_seq ?_
   refine aw_region ?_
   refine run_w (ws_buildSlice (id := 26) (ps := []) rfl rfl (Nat.le_of_ble_eq_true rfl) rfl ⟨rfl, ?_⟩)
   refine run_w (ws_buildSlice (id := 27) (ps := []) rfl rfl (Nat.le_of_ble_eq_true rfl) rfl ⟨rfl, ?_⟩)
   refine run_s (ss_assign rfl) rfl ?_
   refine run_s (ss_assign rfl) rfl ?_
   refine run_nil ?_
   refine aw_seq ?_
   refine aw_seq ?_
   refine aw_gh (gh_to (n := 108) (σ' := [(27, ⟨ints ([] : List Int), []⟩), (26, ⟨ints ([] : List Int), []⟩), (200113, ⟨orows o200113_1, []⟩), (200112, ⟨orows o200112_1, []⟩), (7, ⟨[.hole, .hole], [(1, .ref 200113), (0, .ref 200112)]⟩), (4, ⟨[cnil, cnil], []⟩)]) (env' := [(2, .c (.ptr [.lst (rows s1), .lst (rows s2)])), (3, .c (.ptr [.lst (rows t1), .lst (rows t2)])), (4, .cell 4 0), (5, .c (ci (s1.length : Int))), (6, .c (ci (t1.length : Int))), (7, .cell 7 0), (8, .c (ci v8_1)), (9, .ref 26), (10, .ref 27)]) rfl rfl ⟨rfl, rfl, rfl, rfl, rfl, rfl, rfl, rfl, rfl, trivial⟩) ?_
   refine aw_region ?_
   refine run_s (ss_assign rfl) rfl ?_
   refine run_nil ?_
   refine aw_block ?_
   obtain ⟨H2, m2, q4, h⟩ := h
   refine aw_loop3 (fun (v11_2 : Int) (o26_2 : List Int) (o27_2 : List Int) => ⟨[(27, ⟨ints o27_2, []⟩), (26, ⟨ints o26_2, []⟩), (200113, ⟨orows o200113_1, []⟩), (200112, ⟨orows o200112_1, []⟩), (7, ⟨[.hole, .hole], [(1, .ref 200113), (0, .ref 200112)]⟩), (4, ⟨[cnil, cnil], []⟩)], [(2, .c (.ptr [.lst (rows s1), .lst (rows s2)])), (3, .c (.ptr [.lst (rows t1), .lst (rows t2)])), (4, .cell 4 0), (5, .c (ci (s1.length : Int))), (6, .c (ci (t1.length : Int))), (7, .cell 7 0), (8, .c (ci v8_1)), (9, .ref 26), (10, .ref 27), (11, .c (ci v11_2))], 108⟩) H2 m2 ⟨0, ([] : List Int), ([] : List Int), ghe_to (n := 108) rfl rfl ⟨rfl, rfl, rfl, rfl, rfl, rfl, rfl, rfl, rfl, rfl, trivial⟩, q4⟩ ?_
   rintro v11_2 o26_2 o27_2 q4
   replace h := h v11_2 o26_2 o27_2 q4
   refine aw_seq ?_
   refine aw_seq ?_
   refine aw_region ?_
   refine run_s (ss_move rfl) rfl ?_
   refine run_s (ss_move rfl) rfl ?_
   refine run_s (ss_move rfl) rfl ?_
   obtain ⟨q5, h⟩ := h
   refine run_s (ss_mul rfl rfl q5) rfl ?_
   refine run_s (ss_lss rfl rfl) rfl ?_
   refine run_nil ?_
   refine aw_cond rfl (fun q6 => ?_) (fun q6 => ?_)
   ·replace h := h.1 (of_decide_eq_true q6)
    refine aw_skip ?_
    refine aw_seq ?_
    refine aw_block ?_
    refine aw_seq ?_
    refine aw_gh (gh_to (n := 108) (σ' := [(27, ⟨ints o27_2, []⟩), (26, ⟨ints o26_2, []⟩), (200113, ⟨orows o200113_1, []⟩), (200112, ⟨orows o200112_1, []⟩), (7, ⟨[.hole, .hole], [(1, .ref 200113), (0, .ref 200112)]⟩), (4, ⟨[cnil, cnil], []⟩)]) (env' := [(2, .c (.ptr [.lst (rows s1), .lst (rows s2)])), (3, .c (.ptr [.lst (rows t1), .lst (rows t2)])), (4, .cell 4 0), (5, .c (ci (s1.length : Int))), (6, .c (ci (t1.length : Int))), (7, .cell 7 0), (8, .c (ci v8_1)), (9, .ref 26), (10, .ref 27), (11, .c (ci v11_2))]) rfl rfl ⟨rfl, rfl, rfl, rfl, rfl, rfl, rfl, rfl, rfl, rfl, trivial⟩) ?_
    refine aw_regionD (kd := kdl [0, 0, 1, 0, 0, 0, 0, 1, 0, 0, 0, 0, 1, 0, 0, 0, 1, 0, 0, 0, 0, 1, 0, 0, 0, 0, 1, 0, 2, 2, 0]) (ord := [0, 1, 3, 4, 5, 8, 9, 10, 13, 15, 17, 18, 19, 22, 23, 24, 2, 6, 7, 11, 12, 14, 16, 20, 21, 25, 26, 27, 28, 29, 30]) [26, 63] mixed (by kernel_rfl) ?_
    refine rd_s rfl rfl trivial (ss_move rfl) rfl ?_
    refine rd_s rfl rfl trivial (ss_field_ptr rfl) rfl ?_
    refine rd_s rfl rfl trivial (ss_move rfl) rfl ?_
    refine rd_s rfl rfl trivial (ss_move rfl) rfl ?_
    obtain ⟨q7, h⟩ := h
    refine rd_s rfl rfl trivial (ss_quo rfl rfl q7) rfl ?_
    refine rd_s rfl rfl trivial (ss_move rfl) rfl ?_
    refine rd_s rfl rfl trivial (ss_move rfl) rfl ?_
    obtain ⟨q8, h⟩ := h
    refine rd_s rfl rfl trivial (ss_quo rfl rfl q8) rfl ?_
    refine rd_s rfl rfl trivial (ss_move rfl) rfl ?_
    refine rd_s rfl rfl trivial (ss_field_ptr rfl) rfl ?_
    refine rd_s rfl rfl trivial (ss_move rfl) rfl ?_
    refine rd_s rfl rfl trivial (ss_move rfl) rfl ?_
    obtain ⟨q9, h⟩ := h
    refine rd_s rfl rfl trivial (ss_rem rfl rfl q9) rfl ?_
    refine rd_s rfl rfl trivial (ss_move rfl) rfl ?_
    refine rd_s rfl rfl trivial (ss_move rfl) rfl ?_
    obtain ⟨q10, h⟩ := h
    refine rd_s rfl rfl trivial (ss_rem rfl rfl q10) rfl ?_
    refine rd_l rfl rfl trivial (ss_load_ptr rfl rfl) rfl ?_
    obtain ⟨q11, h⟩ := h
    refine rd_s rfl rfl trivial (ss_idxL rfl rfl q11) rfl ?_
    refine rd_l rfl rfl trivial (ss_loadL (f := (fun r => C.lst (ints r))) rfl q11) rfl ?_
    obtain ⟨q12, h⟩ := h
    refine rd_s rfl rfl trivial (ss_idxL rfl rfl q12) rfl ?_
    refine rd_l rfl rfl trivial (ss_loadL (f := ci) rfl q12) rfl ?_
    obtain ⟨q13, h⟩ := h
    refine rd_s rfl rfl trivial (ss_mul rfl rfl q13) rfl ?_
    refine rd_l rfl rfl trivial (ss_load_ptr rfl rfl) rfl ?_
    obtain ⟨q14, h⟩ := h
    refine rd_s rfl rfl trivial (ss_idxL rfl rfl q14) rfl ?_
    refine rd_l rfl rfl trivial (ss_loadL (f := (fun r => C.lst (ints r))) rfl q14) rfl ?_
    obtain ⟨q15, h⟩ := h
    refine rd_s rfl rfl trivial (ss_idxL rfl rfl q15) rfl ?_
    refine rd_l rfl rfl trivial (ss_loadL (f := ci) rfl q15) rfl ?_
    obtain ⟨q16, h⟩ := h
    refine rd_s rfl rfl trivial (ss_add rfl rfl q16) rfl ?_
    refine rd_w rfl rfl trivial rfl rfl (ws_buildSlice (id := 63) (ps := [(0, .tmp 62)]) rfl rfl (Nat.le_of_ble_eq_true rfl) rfl ⟨rfl, ?_⟩)
    obtain ⟨q17, h⟩ := h
    refine rd_w rfl rfl trivial rfl rfl (ws_app1 ci (l := o26_2) (m := [((el (el s1 (v8_1 / (t1.length : Int))) (v11_2 / (t1.length : Int))) * (t1.length : Int)) + (el (el t1 (v8_1 % (t1.length : Int))) (v11_2 % (t1.length : Int)))]) rfl rfl rfl rfl rfl (Nat.le_of_ble_eq_true rfl) q17 ⟨rfl, ?_⟩)
    refine rd_s rfl rfl trivial (ss_assign rfl) rfl ?_
    refine rd_nil ?_
    refine aw_gh (gh_to (n := 108) (σ' := [(27, ⟨ints o27_2, []⟩), (26, ⟨ints (o26_2 ++ ([((el (el s1 (v8_1 / (t1.length : Int))) (v11_2 / (t1.length : Int))) * (t1.length : Int)) + (el (el t1 (v8_1 % (t1.length : Int))) (v11_2 % (t1.length : Int)))])), []⟩), (200113, ⟨orows o200113_1, []⟩), (200112, ⟨orows o200112_1, []⟩), (7, ⟨[.hole, .hole], [(1, .ref 200113), (0, .ref 200112)]⟩), (4, ⟨[cnil, cnil], []⟩)]) (env' := [(2, .c (.ptr [.lst (rows s1), .lst (rows s2)])), (3, .c (.ptr [.lst (rows t1), .lst (rows t2)])), (4, .cell 4 0), (5, .c (ci (s1.length : Int))), (6, .c (ci (t1.length : Int))), (7, .cell 7 0), (8, .c (ci v8_1)), (9, .ref 26), (10, .ref 27), (11, .c (ci v11_2))]) rfl rfl ⟨rfl, rfl, rfl, rfl, rfl, rfl, rfl, rfl, rfl, rfl, trivial⟩) ?_
    refine aw_regionD (kd := kdl [0, 0, 1, 0, 0, 0, 0, 1, 0, 0, 0, 0, 1, 0, 0, 0, 1, 0, 0, 0, 0, 1, 0, 0, 0, 0, 1, 0, 2, 2, 0]) (ord := [0, 1, 3, 4, 5, 8, 9, 10, 13, 15, 17, 18, 19, 22, 23, 24, 2, 6, 7, 11, 12, 14, 16, 20, 21, 25, 26, 27, 28, 29, 30]) [27, 93] mixed (by kernel_rfl) ?_
    refine rd_s rfl rfl trivial (ss_move rfl) rfl ?_
    refine rd_s rfl rfl trivial (ss_field_ptr rfl) rfl ?_
    refine rd_s rfl rfl trivial (ss_move rfl) rfl ?_
    refine rd_s rfl rfl trivial (ss_move rfl) rfl ?_
    obtain ⟨q18, h⟩ := h
    refine rd_s rfl rfl trivial (ss_quo rfl rfl q18) rfl ?_
    refine rd_s rfl rfl trivial (ss_move rfl) rfl ?_
    refine rd_s rfl rfl trivial (ss_move rfl) rfl ?_
    obtain ⟨q19, h⟩ := h
    refine rd_s rfl rfl trivial (ss_quo rfl rfl q19) rfl ?_
    refine rd_s rfl rfl trivial (ss_move rfl) rfl ?_
    refine rd_s rfl rfl trivial (ss_field_ptr rfl) rfl ?_
    refine rd_s rfl rfl trivial (ss_move rfl) rfl ?_
    refine rd_s rfl rfl trivial (ss_move rfl) rfl ?_
    obtain ⟨q20, h⟩ := h
    refine rd_s rfl rfl trivial (ss_rem rfl rfl q20) rfl ?_
    refine rd_s rfl rfl trivial (ss_move rfl) rfl ?_
    refine rd_s rfl rfl trivial (ss_move rfl) rfl ?_
    obtain ⟨q21, h⟩ := h
    refine rd_s rfl rfl trivial (ss_rem rfl rfl q21) rfl ?_
    refine rd_l rfl rfl trivial (ss_load_ptr rfl rfl) rfl ?_
    obtain ⟨q22, h⟩ := h
    refine rd_s rfl rfl trivial (ss_idxL rfl rfl q22) rfl ?_
    refine rd_l rfl rfl trivial (ss_loadL (f := (fun r => C.lst (ints r))) rfl q22) rfl ?_
    obtain ⟨q23, h⟩ := h
    refine rd_s rfl rfl trivial (ss_idxL rfl rfl q23) rfl ?_
    refine rd_l rfl rfl trivial (ss_loadL (f := ci) rfl q23) rfl ?_
    obtain ⟨q24, h⟩ := h
    refine rd_s rfl rfl trivial (ss_mul rfl rfl q24) rfl ?_
    refine rd_l rfl rfl trivial (ss_load_ptr rfl rfl) rfl ?_
    obtain ⟨q25, h⟩ := h
    refine rd_s rfl rfl trivial (ss_idxL rfl rfl q25) rfl ?_
    refine rd_l rfl rfl trivial (ss_loadL (f := (fun r => C.lst (ints r))) rfl q25) rfl ?_
    obtain ⟨q26, h⟩ := h
    refine rd_s rfl rfl trivial (ss_idxL rfl rfl q26) rfl ?_
    refine rd_l rfl rfl trivial (ss_loadL (f := ci) rfl q26) rfl ?_
    obtain ⟨q27, h⟩ := h
    refine rd_s rfl rfl trivial (ss_add rfl rfl q27) rfl ?_
    refine rd_w rfl rfl trivial rfl rfl (ws_buildSlice (id := 93) (ps := [(0, .tmp 92)]) rfl rfl (Nat.le_of_ble_eq_true rfl) rfl ⟨rfl, ?_⟩)
    obtain ⟨q28, h⟩ := h
    refine rd_w rfl rfl trivial rfl rfl (ws_app1 ci (l := o27_2) (m := [((el (el s2 (v8_1 / (t1.length : Int))) (v11_2 / (t1.length : Int))) * (t1.length : Int)) + (el (el t2 (v8_1 % (t1.length : Int))) (v11_2 % (t1.length : Int)))]) rfl rfl rfl rfl rfl (Nat.le_of_ble_eq_true rfl) q28 ⟨rfl, ?_⟩)
    refine rd_s rfl rfl trivial (ss_assign rfl) rfl ?_
    refine rd_nil ?_
    refine aw_gh (gh_to (n := 108) (σ' := [(27, ⟨ints (o27_2 ++ ([((el (el s2 (v8_1 / (t1.length : Int))) (v11_2 / (t1.length : Int))) * (t1.length : Int)) + (el (el t2 (v8_1 % (t1.length : Int))) (v11_2 % (t1.length : Int)))])), []⟩), (26, ⟨ints (o26_2 ++ ([((el (el s1 (v8_1 / (t1.length : Int))) (v11_2 / (t1.length : Int))) * (t1.length : Int)) + (el (el t1 (v8_1 % (t1.length : Int))) (v11_2 % (t1.length : Int)))])), []⟩), (200113, ⟨orows o200113_1, []⟩), (200112, ⟨orows o200112_1, []⟩), (7, ⟨[.hole, .hole], [(1, .ref 200113), (0, .ref 200112)]⟩), (4, ⟨[cnil, cnil], []⟩)]) (env' := [(2, .c (.ptr [.lst (rows s1), .lst (rows s2)])), (3, .c (.ptr [.lst (rows t1), .lst (rows t2)])), (4, .cell 4 0), (5, .c (ci (s1.length : Int))), (6, .c (ci (t1.length : Int))), (7, .cell 7 0), (8, .c (ci v8_1)), (9, .ref 26), (10, .ref 27), (11, .c (ci v11_2))]) rfl rfl ⟨rfl, rfl, rfl, rfl, rfl, rfl, rfl, rfl, rfl, rfl, trivial⟩) ?_
    refine aw_region ?_
    refine run_s (ss_move rfl) rfl ?_
    obtain ⟨q29, h⟩ := h
    refine run_s (ss_add rfl rfl q29) rfl ?_
    refine run_s (ss_assign rfl) rfl ?_
    refine run_nil ?_
    exact ⟨v11_2 + 1, o26_2 ++ ([((el (el s1 (v8_1 / (t1.length : Int))) (v11_2 / (t1.length : Int))) * (t1.length : Int)) + (el (el t1 (v8_1 % (t1.length : Int))) (v11_2 % (t1.length : Int)))]), o27_2 ++ ([((el (el s2 (v8_1 / (t1.length : Int))) (v11_2 / (t1.length : Int))) * (t1.length : Int)) + (el (el t2 (v8_1 % (t1.length : Int))) (v11_2 % (t1.length : Int)))]), ghe_to (n := 108) rfl rfl ⟨rfl, rfl, rfl, rfl, rfl, rfl, rfl, rfl, rfl, rfl, trivial⟩, h.1, h.2⟩
   ·replace h := h.2 (of_decide_eq_false q6)
    refine aw_exit ?_
    refine aw_seq ?_
    refine aw_region ?_
    refine run_s (ss_field_cell rfl) rfl ?_
    refine run_s (ss_loadH rfl rfl rfl rfl) rfl ?_
    refine run_s (ss_move rfl) rfl ?_
    refine run_w (ws_buildSlice (id := 98) (ps := [(0, .tmp 97)]) rfl rfl (Nat.le_of_ble_eq_true rfl) rfl ⟨rfl, ?_⟩)
    refine run_gh (gh_fill (id := 98) (id2 := 26) (j := 0) rfl rfl (Nat.le_of_ble_eq_true rfl) rfl rfl rfl) ?_
    obtain ⟨q30, h⟩ := h
    refine run_w (ws_app1 (fun r => C.own (ints r)) (l := o200112_1) (m := [o26_2]) rfl rfl rfl rfl rfl (Nat.le_of_ble_eq_true rfl) q30 ⟨rfl, ?_⟩)
    refine run_s (ss_field_cell rfl) rfl ?_
    refine run_w (ws_store rfl rfl (Nat.le_of_ble_eq_true rfl) rfl rfl ⟨rfl, ?_⟩)
    refine run_nil ?_
    refine aw_gh (gh_to (n := 108) (σ' := [(27, ⟨ints o27_2, []⟩), (200113, ⟨orows o200113_1, []⟩), (200112, ⟨orows (o200112_1 ++ ([o26_2])), []⟩), (7, ⟨[.hole, .hole], [(0, .ref 200112), (1, .ref 200113)]⟩), (4, ⟨[cnil, cnil], []⟩)]) (env' := [(2, .c (.ptr [.lst (rows s1), .lst (rows s2)])), (3, .c (.ptr [.lst (rows t1), .lst (rows t2)])), (4, .cell 4 0), (5, .c (ci (s1.length : Int))), (6, .c (ci (t1.length : Int))), (7, .cell 7 0), (8, .c (ci v8_1)), (10, .ref 27)]) rfl rfl ⟨rfl, rfl, rfl, rfl, rfl, rfl, rfl, rfl, trivial⟩) ?_
    refine aw_region ?_
    refine run_s (ss_field_cell rfl) rfl ?_
    refine run_s (ss_loadH rfl rfl rfl rfl) rfl ?_
    refine run_s (ss_move rfl) rfl ?_
    refine run_w (ws_buildSlice (id := 104) (ps := [(0, .tmp 103)]) rfl rfl (Nat.le_of_ble_eq_true rfl) rfl ⟨rfl, ?_⟩)
    refine run_gh (gh_fill (id := 104) (id2 := 27) (j := 0) rfl rfl (Nat.le_of_ble_eq_true rfl) rfl rfl rfl) ?_
    obtain ⟨q31, h⟩ := h
    refine run_w (ws_app1 (fun r => C.own (ints r)) (l := o200113_1) (m := [o27_2]) rfl rfl rfl rfl rfl (Nat.le_of_ble_eq_true rfl) q31 ⟨rfl, ?_⟩)
    refine run_s (ss_field_cell rfl) rfl ?_
    refine run_w (ws_store rfl rfl (Nat.le_of_ble_eq_true rfl) rfl rfl ⟨rfl, ?_⟩)
    refine run_nil ?_
    refine aw_gh (gh_to (n := 108) (σ' := [(200113, ⟨orows (o200113_1 ++ ([o27_2])), []⟩), (200112, ⟨orows (o200112_1 ++ ([o26_2])), []⟩), (7, ⟨[.hole, .hole], [(1, .ref 200113), (0, .ref 200112)]⟩), (4, ⟨[cnil, cnil], []⟩)]) (env' := [(2, .c (.ptr [.lst (rows s1), .lst (rows s2)])), (3, .c (.ptr [.lst (rows t1), .lst (rows t2)])), (4, .cell 4 0), (5, .c (ci (s1.length : Int))), (6, .c (ci (t1.length : Int))), (7, .cell 7 0), (8, .c (ci v8_1))]) rfl rfl ⟨rfl, rfl, rfl, rfl, rfl, rfl, rfl, trivial⟩) ?_
    refine aw_region ?_
    refine run_s (ss_move rfl) rfl ?_
    obtain ⟨q32, h⟩ := h
    refine run_s (ss_add rfl rfl q32) rfl ?_
    refine run_s (ss_assign rfl) rfl ?_
    refine run_nil ?_
    exact ⟨v8_1 + 1, o200112_1 ++ ([o26_2]), o200113_1 ++ ([o27_2]), ghe_to (n := 108) rfl rfl ⟨rfl, rfl, rfl, rfl, rfl, rfl, rfl, trivial⟩, h.1, h.2⟩
  ·replace h := h.2 (of_decide_eq_false q3)
   refine aw_exit ?_
   refine aw_seq ?_
   refine aw_gh (gh_to (n := 108) (σ' := [(200113, ⟨orows o200113_1, []⟩), (200112, ⟨orows o200112_1, []⟩), (7, ⟨[.hole, .hole], [(1, .ref 200113), (0, .ref 200112)]⟩), (4, ⟨[cnil, cnil], []⟩)]) (env' := [(4, .cell 4 0), (7, .cell 7 0)]) rfl rfl ⟨rfl, rfl, trivial⟩) ?_
   refine aw_region ?_
   refine run_s (ss_loadS rfl rfl rfl rfl) rfl ?_
   refine run_w (ws_storeN rfl rfl (Nat.le_of_ble_eq_true rfl) rfl rfl rfl rfl ⟨rfl, ?_⟩)
   refine run_nil ?_
   refine aw_ret ?_
   exact retAF_mk (retv1 rfl (rv_struct rfl rfl rfl)) rfl rfl ⟨_, (cle_refl _), _, _, h, rfl⟩

theorem c_spec_l02Product (s1 : List (List Int)) (s2 : List (List Int)) (t1 : List (List Int)) (t2 : List (List Int)) (hp : ∃ n_ m_ : Int, pairN n_ s1 s2 ∧ pairN m_ t1 t2 ∧ n_ * m_ ≤ 12) : AF Try.prog 217 [.agg [.lst (rows s1), .lst (rows s2)], .agg [.lst (rows t1), .lst (rows t2)]] (fun R_ => ∃ y0 y1, (pairN ((s1.length : Int) * (t1.length : Int)) y0 y1) ∧ R_ = .agg [.own (orows y0), .own (orows y1)]) :=
  w_spec_l02Product s1 s2 t1 t2 (fun y0 y1 => pairN ((s1.length : Int) * (t1.length : Int)) y0 y1) (p_spec_l02Product s1 s2 t1 t2 hp)

set_option maxRecDepth 100000 in
set_option maxHeartbeats 4000000 in
theorem w_spec_l02Union (s1 : List (List Int)) (s2 : List (List Int)) (t1 : List (List Int)) (t2 : List (List Int)) (Q : List (List Int) → List (List Int) → Prop) (h : wp_spec_l02Union s1 s2 t1 t2 Q) : AF Try.prog 219 [.agg [.lst (rows s1), .lst (rows s2)], .agg [.lst (rows t1), .lst (rows t2)]] (fun R_ => ∃ y0 y1, Q y0 y1 ∧ R_ = .agg [.own (orows y0), .own (orows y1)]) := by
  refine AF.ofWQ (af_enter (n := 130) Try.func219 rfl (by rfl) rfl (Nat.le_of_ble_eq_true rfl) ?_)
  unfold wp_spec_l02Union at h
  refine aw_seq ?_
  refine aw_gh (gh_to (n := 130) (σ' := []) (env' := [(0, .c (.agg [.lst (rows s1), .lst (rows s2)])), (1, .c (.agg [.lst (rows t1), .lst (rows t2)]))]) rfl rfl ⟨rfl, rfl, trivial⟩) ?_
  refine aw_region ?_
  refine run_w (ws_boxR rfl (.inl rfl) rfl ⟨rfl, ?_⟩)
  refine run_w (ws_boxR rfl (.inl rfl) rfl ⟨rfl, ?_⟩)
  refine run_w (ws_alloc (id := 4) rfl (Nat.le_of_ble_eq_true rfl) ⟨rfl, ?_⟩)
  refine run_nil ?_
  refine aw_seq ?_
  refine aw_gh (gh_to (n := 130) (σ' := [(4, ⟨[cnil, cnil], []⟩)]) (env' := [(2, .c (.ptr [.lst (rows s1), .lst (rows s2)])), (3, .c (.ptr [.lst (rows t1), .lst (rows t2)])), (4, .cell 4 0)]) rfl rfl ⟨rfl, rfl, rfl, trivial⟩) ?_
  refine aw_regionD (kd := kdl [0, 1, 0, 0, 1, 0, 0, 0]) (ord := [0, 3, 1, 2, 6, 4, 5, 7]) [] mixed (by kernel_rfl) ?_
  refine rd_s rfl rfl trivial (ss_field_ptr rfl) rfl ?_
  refine rd_s rfl rfl trivial (ss_field_ptr rfl) rfl ?_
  refine rd_l rfl rfl trivial (ss_load_ptr rfl rfl) rfl ?_
  refine rd_s rfl rfl trivial (ss_lenL (f := (fun r => C.lst (ints r))) rfl) rfl ?_
  refine rd_s rfl rfl trivial (ss_assign rfl) rfl ?_
  refine rd_l rfl rfl trivial (ss_load_ptr rfl rfl) rfl ?_
  refine rd_s rfl rfl trivial (ss_lenL (f := (fun r => C.lst (ints r))) rfl) rfl ?_
  refine rd_s rfl rfl trivial (ss_assign rfl) rfl ?_
  refine rd_nil ?_
  refine aw_seq ?_
  refine aw_region ?_
  refine run_s (ss_build0) rfl ?_
  refine run_w (ws_alloc (id := 7) rfl (Nat.le_of_ble_eq_true rfl) ⟨rfl, ?_⟩)
  refine run_w (ws_storeN rfl rfl (Nat.le_of_ble_eq_true rfl) rfl rfl rfl rfl ⟨rfl, ?_⟩)
  refine run_nil ?_
  refine aw_seq ?_
  refine aw_seq ?_
  refine aw_region ?_
  refine run_s (ss_assign rfl) rfl ?_
  refine run_nil ?_
  refine aw_block ?_
  obtain ⟨H1, m1, q1, h⟩ := h
  refine aw_loop3 (fun (v8_1 : Int) (o200112_1 : List (List Int)) (o200113_1 : List (List Int)) => ⟨[(200113, ⟨orows o200113_1, []⟩), (200112, ⟨orows o200112_1, []⟩), (7, ⟨[.hole, .hole], [(1, .ref 200113), (0, .ref 200112)]⟩), (4, ⟨[cnil, cnil], []⟩)], [(2, .c (.ptr [.lst (rows s1), .lst (rows s2)])), (3, .c (.ptr [.lst (rows t1), .lst (rows t2)])), (4, .cell 4 0), (5, .c (ci (s1.length : Int))), (6, .c (ci (t1.length : Int))), (7, .cell 7 0), (8, .c (ci v8_1))], 130⟩) H1 m1 ⟨0, ([] : List (List Int)), ([] : List (List Int)), ghe_step (gh_nilH (id0 := 7) (j := 0) (id := 200112) rfl rfl rfl rfl) (ghe_step (gh_nilH (id0 := 7) (j := 1) (id := 200113) rfl rfl rfl rfl) (ghe_to (n := 130) rfl rfl ⟨rfl, rfl, rfl, rfl, rfl, rfl, rfl, trivial⟩)), q1⟩ ?_
  rintro v8_1 o200112_1 o200113_1 q1
  replace h := h v8_1 o200112_1 o200113_1 q1
  refine aw_seq ?_
  refine aw_seq ?_
  refine aw_region ?_
  refine run_s (ss_move rfl) rfl ?_
  refine run_s (ss_move rfl) rfl ?_
  refine run_s (ss_move rfl) rfl ?_
  obtain ⟨q2, h⟩ := h
  refine run_s (ss_add rfl rfl q2) rfl ?_
  refine run_s (ss_lss rfl rfl) rfl ?_
  refine run_nil ?_
  refine aw_cond rfl (fun q3 => ?_) (fun q3 => ?_)
  ·replace h := h.1 (of_decide_eq_true q3)
   refine aw_skip ?_
   refine aw_seq ?_
   refine aw_block ?_
   refine aw_seq ?_
   refine aw_region ?_
   refine run_w (ws_buildSlice (id := 26) (ps := []) rfl rfl (Nat.le_of_ble_eq_true rfl) rfl ⟨rfl, ?_⟩)
   refine run_w (ws_buildSlice (id := 27) (ps := []) rfl rfl (Nat.le_of_ble_eq_true rfl) rfl ⟨rfl, ?_⟩)
   refine run_s (ss_assign rfl) rfl ?_
   refine run_s (ss_assign rfl) rfl ?_
   refine run_nil ?_
   refine aw_seq ?_
   refine aw_seq ?_
   refine aw_region ?_
   refine run_s (ss_assign rfl) rfl ?_
   refine run_nil ?_
   refine aw_block ?_
   obtain ⟨H2, m2, q4, h⟩ := h
   refine aw_loop3 (fun (v11_2 : Int) (o26_2 : List Int) (o27_2 : List Int) => ⟨[(27, ⟨ints o27_2, []⟩), (26, ⟨ints o26_2, []⟩), (200113, ⟨orows o200113_1, []⟩), (200112, ⟨orows o200112_1, []⟩), (7, ⟨[.hole, .hole], [(1, .ref 200113), (0, .ref 200112)]⟩), (4, ⟨[cnil, cnil], []⟩)], [(2, .c (.ptr [.lst (rows s1), .lst (rows s2)])), (3, .c (.ptr [.lst (rows t1), .lst (rows t2)])), (4, .cell 4 0), (5, .c (ci (s1.length : Int))), (6, .c (ci (t1.length : Int))), (7, .cell 7 0), (8, .c (ci v8_1)), (9, .ref 26), (10, .ref 27), (11, .c (ci v11_2))], 130⟩) H2 m2 ⟨0, ([] : List Int), ([] : List Int), ghe_to (n := 130) rfl rfl ⟨rfl, rfl, rfl, rfl, rfl, rfl, rfl, rfl, rfl, rfl, trivial⟩, q4⟩ ?_
   rintro v11_2 o26_2 o27_2 q4
   replace h := h v11_2 o26_2 o27_2 q4
   refine aw_seq ?_
   refine aw_seq ?_
   refine aw_region ?_
   refine run_s (ss_move rfl) rfl ?_
   refine run_s (ss_move rfl) rfl ?_
   refine run_s (ss_move rfl) rfl ?_
   obtain ⟨q5, h⟩ := h
   refine run_s (ss_add rfl rfl q5) rfl ?_
   refine run_s (ss_lss rfl rfl) rfl ?_
   refine run_nil ?_
   refine aw_cond rfl (fun q6 => ?_) (fun q6 => ?_)
   ·replace h := h.1 (of_decide_eq_true q6)
    refine aw_skip ?_
    refine aw_seq ?_
    refine aw_block ?_
    refine aw_block ?_
    refine aw_seq ?_
    refine aw_region ?_
    refine run_s (ss_move rfl) rfl ?_
    refine run_s (ss_move rfl) rfl ?_
    refine run_s (ss_lss rfl rfl) rfl ?_
    refine run_s (ss_move rfl) rfl ?_
    refine run_split (s := 47) rfl (fun q7 => ?_) (fun q7 => ?_)
    ·replace h := h.1 (of_decide_eq_true q7)
     refine run_gt rfl rfl q7 ?_
     refine run_s (ss_move rfl) rfl ?_
     refine run_gt rfl rfl q7 ?_
     refine run_s (ss_move rfl) rfl ?_
     refine run_gt rfl rfl q7 ?_
     refine run_s (ss_lss rfl rfl) rfl ?_
     refine run_s (ss_pickT rfl q7 rfl) rfl ?_
     refine run_s (ss_assign rfl) rfl ?_
     refine run_nil ?_
     refine aw_cond rfl (fun q8 => ?_) (fun q8 => ?_)
     ·replace h := h.1 (of_decide_eq_true q8)
      refine aw_seq ?_
      refine aw_region ?_
      refine run_s (ss_move rfl) rfl ?_
      refine run_s (ss_field_ptr rfl) rfl ?_
      refine run_s (ss_load_ptr rfl rfl) rfl ?_
      refine run_s (ss_move rfl) rfl ?_
      obtain ⟨q9, h⟩ := h
      refine run_s (ss_idxL rfl rfl q9) rfl ?_
      refine run_s (ss_loadL (f := (fun r => C.lst (ints r))) rfl q9) rfl ?_
      refine run_s (ss_move rfl) rfl ?_
      obtain ⟨q10, h⟩ := h
      refine run_s (ss_idxL rfl rfl q10) rfl ?_
      refine run_s (ss_loadL (f := ci) rfl q10) rfl ?_
      refine run_w (ws_buildSlice (id := 61) (ps := [(0, .tmp 60)]) rfl rfl (Nat.le_of_ble_eq_true rfl) rfl ⟨rfl, ?_⟩)
      obtain ⟨q11, h⟩ := h
      refine run_w (ws_app1 ci (l := o26_2) (m := [el (el s1 v8_1) v11_2]) rfl rfl rfl rfl rfl (Nat.le_of_ble_eq_true rfl) q11 ⟨rfl, ?_⟩)
      refine run_s (ss_assign rfl) rfl ?_
      refine run_nil ?_
      refine aw_gh (gh_to (n := 130) (σ' := [(27, ⟨ints o27_2, []⟩), (26, ⟨ints (o26_2 ++ ([el (el s1 v8_1) v11_2])), []⟩), (200113, ⟨orows o200113_1, []⟩), (200112, ⟨orows o200112_1, []⟩), (7, ⟨[.hole, .hole], [(1, .ref 200113), (0, .ref 200112)]⟩), (4, ⟨[cnil, cnil], []⟩)]) (env' := [(2, .c (.ptr [.lst (rows s1), .lst (rows s2)])), (3, .c (.ptr [.lst (rows t1), .lst (rows t2)])), (4, .cell 4 0), (5, .c (ci (s1.length : Int))), (6, .c (ci (t1.length : Int))), (7, .cell 7 0), (8, .c (ci v8_1)), (9, .ref 26), (10, .ref 27), (11, .c (ci v11_2)), (48, .c (ci v11_2)), (49, .c (ci (s1.length : Int))), (50, .c (cb (decide (v11_2 < (s1.length : Int)))))]) rfl rfl ⟨rfl, rfl, rfl, rfl, rfl, rfl, rfl, rfl, rfl, rfl, rfl, rfl, rfl, trivial⟩) ?_
      refine aw_region ?_
      refine run_s (ss_move rfl) rfl ?_
      refine run_s (ss_field_ptr rfl) rfl ?_
      refine run_s (ss_load_ptr rfl rfl) rfl ?_
      refine run_s (ss_move rfl) rfl ?_
      obtain ⟨q12, h⟩ := h
      refine run_s (ss_idxL rfl rfl q12) rfl ?_
      refine run_s (ss_loadL (f := (fun r => C.lst (ints r))) rfl q12) rfl ?_
      refine run_s (ss_move rfl) rfl ?_
      obtain ⟨q13, h⟩ := h
      refine run_s (ss_idxL rfl rfl q13) rfl ?_
      refine run_s (ss_loadL (f := ci) rfl q13) rfl ?_
      refine run_w (ws_buildSlice (id := 72) (ps := [(0, .tmp 71)]) rfl rfl (Nat.le_of_ble_eq_true rfl) rfl ⟨rfl, ?_⟩)
      obtain ⟨q14, h⟩ := h
      refine run_w (ws_app1 ci (l := o27_2) (m := [el (el s2 v8_1) v11_2]) rfl rfl rfl rfl rfl (Nat.le_of_ble_eq_true rfl) q14 ⟨rfl, ?_⟩)
      refine run_s (ss_assign rfl) rfl ?_
      refine run_nil ?_
      refine aw_gh (gh_to (n := 130) (σ' := [(27, ⟨ints (o27_2 ++ ([el (el s2 v8_1) v11_2])), []⟩), (26, ⟨ints (o26_2 ++ ([el (el s1 v8_1) v11_2])), []⟩), (200113, ⟨orows o200113_1, []⟩), (200112, ⟨orows o200112_1, []⟩), (7, ⟨[.hole, .hole], [(1, .ref 200113), (0, .ref 200112)]⟩), (4, ⟨[cnil, cnil], []⟩)]) (env' := [(2, .c (.ptr [.lst (rows s1), .lst (rows s2)])), (3, .c (.ptr [.lst (rows t1), .lst (rows t2)])), (4, .cell 4 0), (5, .c (ci (s1.length : Int))), (6, .c (ci (t1.length : Int))), (7, .cell 7 0), (8, .c (ci v8_1)), (9, .ref 26), (10, .ref 27), (11, .c (ci v11_2)), (48, .c (ci v11_2)), (49, .c (ci (s1.length : Int))), (50, .c (cb (decide (v11_2 < (s1.length : Int)))))]) rfl rfl ⟨rfl, rfl, rfl, rfl, rfl, rfl, rfl, rfl, rfl, rfl, rfl, rfl, rfl, trivial⟩) ?_
      refine aw_region ?_
      refine run_s (ss_move rfl) rfl ?_
      obtain ⟨q15, h⟩ := h
      refine run_s (ss_add rfl rfl q15) rfl ?_
      refine run_s (ss_assign rfl) rfl ?_
      refine run_nil ?_
      exact ⟨v11_2 + 1, o26_2 ++ ([el (el s1 v8_1) v11_2]), o27_2 ++ ([el (el s2 v8_1) v11_2]), ghe_to (n := 130) rfl rfl ⟨rfl, rfl, rfl, rfl, rfl, rfl, rfl, rfl, rfl, rfl, trivial⟩, h.1, h.2⟩
     ·replace h := h.2 (of_decide_eq_false q8)
      refine aw_seq ?_
      refine aw_region ?_
      refine run_s (ss_move rfl) rfl ?_
      refine run_s (ss_move rfl) rfl ?_
      refine run_s (ss_geq rfl rfl) rfl ?_
      refine run_s (ss_move rfl) rfl ?_
      refine run_split (s := 78) rfl (fun q16 => ?_) (fun q16 => ?_)
      ·replace h := h.1 (of_decide_eq_true q16)
       refine run_gt rfl rfl q16 ?_
       refine run_s (ss_move rfl) rfl ?_
       refine run_gt rfl rfl q16 ?_
       refine run_s (ss_move rfl) rfl ?_
       refine run_gt rfl rfl q16 ?_
       refine run_s (ss_geq rfl rfl) rfl ?_
       refine run_s (ss_pickT rfl q16 rfl) rfl ?_
       refine run_s (ss_assign rfl) rfl ?_
       refine run_nil ?_
       refine aw_cond rfl (fun q17 => ?_) (fun q17 => ?_)
       ·replace h := h.1 (of_decide_eq_true q17)
        refine aw_seq ?_
        refine aw_region ?_
        refine run_s (ss_move rfl) rfl ?_
        refine run_s (ss_field_ptr rfl) rfl ?_
        refine run_s (ss_load_ptr rfl rfl) rfl ?_
        refine run_s (ss_move rfl) rfl ?_
        refine run_s (ss_move rfl) rfl ?_
        obtain ⟨q18, h⟩ := h
        refine run_s (ss_sub rfl rfl q18) rfl ?_
        obtain ⟨q19, h⟩ := h
        refine run_s (ss_idxL rfl rfl q19) rfl ?_
        refine run_s (ss_loadL (f := (fun r => C.lst (ints r))) rfl q19) rfl ?_
        refine run_s (ss_move rfl) rfl ?_
        refine run_s (ss_move rfl) rfl ?_
        obtain ⟨q20, h⟩ := h
        refine run_s (ss_sub rfl rfl q20) rfl ?_
        obtain ⟨q21, h⟩ := h
        refine run_s (ss_idxL rfl rfl q21) rfl ?_
        refine run_s (ss_loadL (f := ci) rfl q21) rfl ?_
        refine run_s (ss_move rfl) rfl ?_
        obtain ⟨q22, h⟩ := h
        refine run_s (ss_add rfl rfl q22) rfl ?_
        refine run_w (ws_buildSlice (id := 98) (ps := [(0, .tmp 97)]) rfl rfl (Nat.le_of_ble_eq_true rfl) rfl ⟨rfl, ?_⟩)
        obtain ⟨q23, h⟩ := h
        refine run_w (ws_app1 ci (l := o26_2) (m := [(el (el t1 (v8_1 - (s1.length : Int))) (v11_2 - (s1.length : Int))) + (s1.length : Int)]) rfl rfl rfl rfl rfl (Nat.le_of_ble_eq_true rfl) q23 ⟨rfl, ?_⟩)
        refine run_s (ss_assign rfl) rfl ?_
        refine run_nil ?_
        refine aw_gh (gh_to (n := 130) (σ' := [(27, ⟨ints o27_2, []⟩), (26, ⟨ints (o26_2 ++ ([(el (el t1 (v8_1 - (s1.length : Int))) (v11_2 - (s1.length : Int))) + (s1.length : Int)])), []⟩), (200113, ⟨orows o200113_1, []⟩), (200112, ⟨orows o200112_1, []⟩), (7, ⟨[.hole, .hole], [(1, .ref 200113), (0, .ref 200112)]⟩), (4, ⟨[cnil, cnil], []⟩)]) (env' := [(2, .c (.ptr [.lst (rows s1), .lst (rows s2)])), (3, .c (.ptr [.lst (rows t1), .lst (rows t2)])), (4, .cell 4 0), (5, .c (ci (s1.length : Int))), (6, .c (ci (t1.length : Int))), (7, .cell 7 0), (8, .c (ci v8_1)), (9, .ref 26), (10, .ref 27), (11, .c (ci v11_2)), (48, .c (ci v11_2)), (49, .c (ci (s1.length : Int))), (50, .c (cb (decide (v11_2 < (s1.length : Int))))), (79, .c (ci v11_2)), (80, .c (ci (s1.length : Int))), (81, .c (cb (decide ((s1.length : Int) ≤ v11_2))))]) rfl rfl ⟨rfl, rfl, rfl, rfl, rfl, rfl, rfl, rfl, rfl, rfl, rfl, rfl, rfl, rfl, rfl, rfl, trivial⟩) ?_
        refine aw_region ?_
        refine run_s (ss_move rfl) rfl ?_
        refine run_s (ss_field_ptr rfl) rfl ?_
        refine run_s (ss_load_ptr rfl rfl) rfl ?_
        refine run_s (ss_move rfl) rfl ?_
        refine run_s (ss_move rfl) rfl ?_
        obtain ⟨q24, h⟩ := h
        refine run_s (ss_sub rfl rfl q24) rfl ?_
        obtain ⟨q25, h⟩ := h
        refine run_s (ss_idxL rfl rfl q25) rfl ?_
        refine run_s (ss_loadL (f := (fun r => C.lst (ints r))) rfl q25) rfl ?_
        refine run_s (ss_move rfl) rfl ?_
        refine run_s (ss_move rfl) rfl ?_
        obtain ⟨q26, h⟩ := h
        refine run_s (ss_sub rfl rfl q26) rfl ?_
        obtain ⟨q27, h⟩ := h
        refine run_s (ss_idxL rfl rfl q27) rfl ?_
        refine run_s (ss_loadL (f := ci) rfl q27) rfl ?_
        refine run_s (ss_move rfl) rfl ?_
        obtain ⟨q28, h⟩ := h
        refine run_s (ss_add rfl rfl q28) rfl ?_
        refine run_w (ws_buildSlice (id := 115) (ps := [(0, .tmp 114)]) rfl rfl (Nat.le_of_ble_eq_true rfl) rfl ⟨rfl, ?_⟩)
        obtain ⟨q29, h⟩ := h
        refine run_w (ws_app1 ci (l := o27_2) (m := [(el (el t2 (v8_1 - (s1.length : Int))) (v11_2 - (s1.length : Int))) + (s1.length : Int)]) rfl rfl rfl rfl rfl (Nat.le_of_ble_eq_true rfl) q29 ⟨rfl, ?_⟩)
        refine run_s (ss_assign rfl) rfl ?_
        refine run_nil ?_
        refine aw_gh (gh_to (n := 130) (σ' := [(27, ⟨ints (o27_2 ++ ([(el (el t2 (v8_1 - (s1.length : Int))) (v11_2 - (s1.length : Int))) + (s1.length : Int)])), []⟩), (26, ⟨ints (o26_2 ++ ([(el (el t1 (v8_1 - (s1.length : Int))) (v11_2 - (s1.length : Int))) + (s1.length : Int)])), []⟩), (200113, ⟨orows o200113_1, []⟩), (200112, ⟨orows o200112_1, []⟩), (7, ⟨[.hole, .hole], [(1, .ref 200113), (0, .ref 200112)]⟩), (4, ⟨[cnil, cnil], []⟩)]) (env' := [(2, .c (.ptr [.lst (rows s1), .lst (rows s2)])), (3, .c (.ptr [.lst (rows t1), .lst (rows t2)])), (4, .cell 4 0), (5, .c (ci (s1.length : Int))), (6, .c (ci (t1.length : Int))), (7, .cell 7 0), (8, .c (ci v8_1)), (9, .ref 26), (10, .ref 27), (11, .c (ci v11_2)), (48, .c (ci v11_2)), (49, .c (ci (s1.length : Int))), (50, .c (cb (decide (v11_2 < (s1.length : Int))))), (79, .c (ci v11_2)), (80, .c (ci (s1.length : Int))), (81, .c (cb (decide ((s1.length : Int) ≤ v11_2))))]) rfl rfl ⟨rfl, rfl, rfl, rfl, rfl, rfl, rfl, rfl, rfl, rfl, rfl, rfl, rfl, rfl, rfl, rfl, trivial⟩) ?_
        refine aw_region ?_
        refine run_s (ss_move rfl) rfl ?_
        obtain ⟨q30, h⟩ := h
        refine run_s (ss_add rfl rfl q30) rfl ?_
        refine run_s (ss_assign rfl) rfl ?_
        refine run_nil ?_
        exact ⟨v11_2 + 1, o26_2 ++ ([(el (el t1 (v8_1 - (s1.length : Int))) (v11_2 - (s1.length : Int))) + (s1.length : Int)]), o27_2 ++ ([(el (el t2 (v8_1 - (s1.length : Int))) (v11_2 - (s1.length : Int))) + (s1.length : Int)]), ghe_to (n := 130) rfl rfl ⟨rfl, rfl, rfl, rfl, rfl, rfl, rfl, rfl, rfl, rfl, trivial⟩, h.1, h.2⟩
       ·replace h := h.2 (of_decide_eq_false q17)
        refine aw_seq ?_
        refine aw_gh (gh_to (n := 130) (σ' := [(27, ⟨ints o27_2, []⟩), (26, ⟨ints o26_2, []⟩), (200113, ⟨orows o200113_1, []⟩), (200112, ⟨orows o200112_1, []⟩), (7, ⟨[.hole, .hole], [(1, .ref 200113), (0, .ref 200112)]⟩), (4, ⟨[cnil, cnil], []⟩)]) (env' := [(2, .c (.ptr [.lst (rows s1), .lst (rows s2)])), (3, .c (.ptr [.lst (rows t1), .lst (rows t2)])), (4, .cell 4 0), (5, .c (ci (s1.length : Int))), (6, .c (ci (t1.length : Int))), (7, .cell 7 0), (8, .c (ci v8_1)), (9, .ref 26), (10, .ref 27), (11, .c (ci v11_2)), (48, .c (ci v11_2)), (49, .c (ci (s1.length : Int))), (50, .c (cb (decide (v11_2 < (s1.length : Int))))), (79, .c (ci v11_2)), (80, .c (ci (s1.length : Int))), (81, .c (cb (decide ((s1.length : Int) ≤ v11_2))))]) rfl rfl ⟨rfl, rfl, rfl, rfl, rfl, rfl, rfl, rfl, rfl, rfl, rfl, rfl, rfl, rfl, rfl, rfl, trivial⟩) ?_
        refine aw_region ?_
        refine run_s (ss_move rfl) rfl ?_
        refine run_s (ss_move rfl) rfl ?_
        refine run_w (ws_buildSlice (id := 37) (ps := [(0, .tmp 36)]) rfl rfl (Nat.le_of_ble_eq_true rfl) rfl ⟨rfl, ?_⟩)
        obtain ⟨q31, h⟩ := h
        refine run_w (ws_app1 ci (l := o26_2) (m := [v11_2]) rfl rfl rfl rfl rfl (Nat.le_of_ble_eq_true rfl) q31 ⟨rfl, ?_⟩)
        refine run_s (ss_assign rfl) rfl ?_
        refine run_nil ?_
        refine aw_region ?_
        refine run_s (ss_move rfl) rfl ?_
        refine run_s (ss_move rfl) rfl ?_
        refine run_w (ws_buildSlice (id := 41) (ps := [(0, .tmp 40)]) rfl rfl (Nat.le_of_ble_eq_true rfl) rfl ⟨rfl, ?_⟩)
        obtain ⟨q32, h⟩ := h
        refine run_w (ws_app1 ci (l := o27_2) (m := [v8_1]) rfl rfl rfl rfl rfl (Nat.le_of_ble_eq_true rfl) q32 ⟨rfl, ?_⟩)
        refine run_s (ss_assign rfl) rfl ?_
        refine run_nil ?_
        refine aw_gh (gh_to (n := 130) (σ' := [(27, ⟨ints (o27_2 ++ ([v8_1])), []⟩), (26, ⟨ints (o26_2 ++ ([v11_2])), []⟩), (200113, ⟨orows o200113_1, []⟩), (200112, ⟨orows o200112_1, []⟩), (7, ⟨[.hole, .hole], [(1, .ref 200113), (0, .ref 200112)]⟩), (4, ⟨[cnil, cnil], []⟩)]) (env' := [(2, .c (.ptr [.lst (rows s1), .lst (rows s2)])), (3, .c (.ptr [.lst (rows t1), .lst (rows t2)])), (4, .cell 4 0), (5, .c (ci (s1.length : Int))), (6, .c (ci (t1.length : Int))), (7, .cell 7 0), (8, .c (ci v8_1)), (9, .ref 26), (10, .ref 27), (11, .c (ci v11_2)), (48, .c (ci v11_2)), (49, .c (ci (s1.length : Int))), (50, .c (cb (decide (v11_2 < (s1.length : Int))))), (79, .c (ci v11_2)), (80, .c (ci (s1.length : Int))), (81, .c (cb (decide ((s1.length : Int) ≤ v11_2))))]) rfl rfl ⟨rfl, rfl, rfl, rfl, rfl, rfl, rfl, rfl, rfl, rfl, rfl, rfl, rfl, rfl, rfl, rfl, trivial⟩) ?_
        refine aw_region ?_
        refine run_s (ss_move rfl) rfl ?_
        obtain ⟨q33, h⟩ := h
        refine run_s (ss_add rfl rfl q33) rfl ?_
        refine run_s (ss_assign rfl) rfl ?_
        refine run_nil ?_
        exact ⟨v11_2 + 1, o26_2 ++ ([v11_2]), o27_2 ++ ([v8_1]), ghe_to (n := 130) rfl rfl ⟨rfl, rfl, rfl, rfl, rfl, rfl, rfl, rfl, rfl, rfl, trivial⟩, h.1, h.2⟩
      ·replace h := h.2 (of_decide_eq_false q16)
       refine run_gf rfl rfl q16 rfl ?_
       refine run_gf rfl rfl q16 rfl ?_
       refine run_gf rfl rfl q16 rfl ?_
       refine run_s (ss_pickF rfl q16 rfl) rfl ?_
       refine run_s (ss_assign rfl) rfl ?_
       refine run_nil ?_
       refine aw_cond rfl (fun q34 => ?_) (fun q34 => ?_)
       ·cases q34
       ·skip
        refine aw_seq ?_
        refine aw_gh (gh_to (n := 130) (σ' := [(27, ⟨ints o27_2, []⟩), (26, ⟨ints o26_2, []⟩), (200113, ⟨orows o200113_1, []⟩), (200112, ⟨orows o200112_1, []⟩), (7, ⟨[.hole, .hole], [(1, .ref 200113), (0, .ref 200112)]⟩), (4, ⟨[cnil, cnil], []⟩)]) (env' := [(2, .c (.ptr [.lst (rows s1), .lst (rows s2)])), (3, .c (.ptr [.lst (rows t1), .lst (rows t2)])), (4, .cell 4 0), (5, .c (ci (s1.length : Int))), (6, .c (ci (t1.length : Int))), (7, .cell 7 0), (8, .c (ci v8_1)), (9, .ref 26), (10, .ref 27), (11, .c (ci v11_2)), (48, .c (ci v11_2)), (49, .c (ci (s1.length : Int))), (50, .c (cb (decide (v11_2 < (s1.length : Int)))))]) rfl rfl ⟨rfl, rfl, rfl, rfl, rfl, rfl, rfl, rfl, rfl, rfl, rfl, rfl, rfl, trivial⟩) ?_
        refine aw_region ?_
        refine run_s (ss_move rfl) rfl ?_
        refine run_s (ss_move rfl) rfl ?_
        refine run_w (ws_buildSlice (id := 37) (ps := [(0, .tmp 36)]) rfl rfl (Nat.le_of_ble_eq_true rfl) rfl ⟨rfl, ?_⟩)
        obtain ⟨q35, h⟩ := h
        refine run_w (ws_app1 ci (l := o26_2) (m := [v11_2]) rfl rfl rfl rfl rfl (Nat.le_of_ble_eq_true rfl) q35 ⟨rfl, ?_⟩)
        refine run_s (ss_assign rfl) rfl ?_
        refine run_nil ?_
        refine aw_region ?_
        refine run_s (ss_move rfl) rfl ?_
        refine run_s (ss_move rfl) rfl ?_
        refine run_w (ws_buildSlice (id := 41) (ps := [(0, .tmp 40)]) rfl rfl (Nat.le_of_ble_eq_true rfl) rfl ⟨rfl, ?_⟩)
        obtain ⟨q36, h⟩ := h
        refine run_w (ws_app1 ci (l := o27_2) (m := [v8_1]) rfl rfl rfl rfl rfl (Nat.le_of_ble_eq_true rfl) q36 ⟨rfl, ?_⟩)
        refine run_s (ss_assign rfl) rfl ?_
        refine run_nil ?_
        refine aw_gh (gh_to (n := 130) (σ' := [(27, ⟨ints (o27_2 ++ ([v8_1])), []⟩), (26, ⟨ints (o26_2 ++ ([v11_2])), []⟩), (200113, ⟨orows o200113_1, []⟩), (200112, ⟨orows o200112_1, []⟩), (7, ⟨[.hole, .hole], [(1, .ref 200113), (0, .ref 200112)]⟩), (4, ⟨[cnil, cnil], []⟩)]) (env' := [(2, .c (.ptr [.lst (rows s1), .lst (rows s2)])), (3, .c (.ptr [.lst (rows t1), .lst (rows t2)])), (4, .cell 4 0), (5, .c (ci (s1.length : Int))), (6, .c (ci (t1.length : Int))), (7, .cell 7 0), (8, .c (ci v8_1)), (9, .ref 26), (10, .ref 27), (11, .c (ci v11_2)), (48, .c (ci v11_2)), (49, .c (ci (s1.length : Int))), (50, .c (cb (decide (v11_2 < (s1.length : Int)))))]) rfl rfl ⟨rfl, rfl, rfl, rfl, rfl, rfl, rfl, rfl, rfl, rfl, rfl, rfl, rfl, trivial⟩) ?_
        refine aw_region ?_
        refine run_s (ss_move rfl) rfl ?_
        obtain ⟨q37, h⟩ := h
        refine run_s (ss_add rfl rfl q37) rfl ?_
        refine run_s (ss_assign rfl) rfl ?_
        refine run_nil ?_
        exact ⟨v11_2 + 1, o26_2 ++ ([v11_2]), o27_2 ++ ([v8_1]), ghe_to (n := 130) rfl rfl ⟨rfl, rfl, rfl, rfl, rfl, rfl, rfl, rfl, rfl, rfl, trivial⟩, h.1, h.2⟩
    ·replace h := h.2 (of_decide_eq_false q7)
     refine run_gf rfl rfl q7 rfl ?_
     refine run_gf rfl rfl q7 rfl ?_
     refine run_gf rfl rfl q7 rfl ?_
     refine run_s (ss_pickF rfl q7 rfl) rfl ?_
     refine run_s (ss_assign rfl) rfl ?_
     refine run_nil ?_
     refine aw_cond rfl (fun q38 => ?_) (fun q38 => ?_)
     ·cases q38
     ·skip
      refine aw_seq ?_
      refine aw_region ?_
      refine run_s (ss_move rfl) rfl ?_
      refine run_s (ss_move rfl) rfl ?_
      refine run_s (ss_geq rfl rfl) rfl ?_
      refine run_s (ss_move rfl) rfl ?_
      refine run_split (s := 78) rfl (fun q39 => ?_) (fun q39 => ?_)
      ·replace h := h.1 (of_decide_eq_true q39)
       refine run_gt rfl rfl q39 ?_
       refine run_s (ss_move rfl) rfl ?_
       refine run_gt rfl rfl q39 ?_
       refine run_s (ss_move rfl) rfl ?_
       refine run_gt rfl rfl q39 ?_
       refine run_s (ss_geq rfl rfl) rfl ?_
       refine run_s (ss_pickT rfl q39 rfl) rfl ?_
       refine run_s (ss_assign rfl) rfl ?_
       refine run_nil ?_
       refine aw_cond rfl (fun q40 => ?_) (fun q40 => ?_)
       ·replace h := h.1 (of_decide_eq_true q40)
        refine aw_seq ?_
        refine aw_region ?_
        refine run_s (ss_move rfl) rfl ?_
        refine run_s (ss_field_ptr rfl) rfl ?_
        refine run_s (ss_load_ptr rfl rfl) rfl ?_
        refine run_s (ss_move rfl) rfl ?_
        refine run_s (ss_move rfl) rfl ?_
        obtain ⟨q41, h⟩ := h
        refine run_s (ss_sub rfl rfl q41) rfl ?_
        obtain ⟨q42, h⟩ := h
        refine run_s (ss_idxL rfl rfl q42) rfl ?_
        refine run_s (ss_loadL (f := (fun r => C.lst (ints r))) rfl q42) rfl ?_
        refine run_s (ss_move rfl) rfl ?_
        refine run_s (ss_move rfl) rfl ?_
        obtain ⟨q43, h⟩ := h
        refine run_s (ss_sub rfl rfl q43) rfl ?_
        obtain ⟨q44, h⟩ := h
        refine run_s (ss_idxL rfl rfl q44) rfl ?_
        refine run_s (ss_loadL (f := ci) rfl q44) rfl ?_
        refine run_s (ss_move rfl) rfl ?_
        obtain ⟨q45, h⟩ := h
        refine run_s (ss_add rfl rfl q45) rfl ?_
        refine run_w (ws_buildSlice (id := 98) (ps := [(0, .tmp 97)]) rfl rfl (Nat.le_of_ble_eq_true rfl) rfl ⟨rfl, ?_⟩)
        obtain ⟨q46, h⟩ := h
        refine run_w (ws_app1 ci (l := o26_2) (m := [(el (el t1 (v8_1 - (s1.length : Int))) (v11_2 - (s1.length : Int))) + (s1.length : Int)]) rfl rfl rfl rfl rfl (Nat.le_of_ble_eq_true rfl) q46 ⟨rfl, ?_⟩)
        refine run_s (ss_assign rfl) rfl ?_
        refine run_nil ?_
        refine aw_gh (gh_to (n := 130) (σ' := [(27, ⟨ints o27_2, []⟩), (26, ⟨ints (o26_2 ++ ([(el (el t1 (v8_1 - (s1.length : Int))) (v11_2 - (s1.length : Int))) + (s1.length : Int)])), []⟩), (200113, ⟨orows o200113_1, []⟩), (200112, ⟨orows o200112_1, []⟩), (7, ⟨[.hole, .hole], [(1, .ref 200113), (0, .ref 200112)]⟩), (4, ⟨[cnil, cnil], []⟩)]) (env' := [(2, .c (.ptr [.lst (rows s1), .lst (rows s2)])), (3, .c (.ptr [.lst (rows t1), .lst (rows t2)])), (4, .cell 4 0), (5, .c (ci (s1.length : Int))), (6, .c (ci (t1.length : Int))), (7, .cell 7 0), (8, .c (ci v8_1)), (9, .ref 26), (10, .ref 27), (11, .c (ci v11_2)), (79, .c (ci v11_2)), (80, .c (ci (s1.length : Int))), (81, .c (cb (decide ((s1.length : Int) ≤ v11_2))))]) rfl rfl ⟨rfl, rfl, rfl, rfl, rfl, rfl, rfl, rfl, rfl, rfl, rfl, rfl, rfl, trivial⟩) ?_
        refine aw_region ?_
        refine run_s (ss_move rfl) rfl ?_
        refine run_s (ss_field_ptr rfl) rfl ?_
        refine run_s (ss_load_ptr rfl rfl) rfl ?_
        refine run_s (ss_move rfl) rfl ?_
        refine run_s (ss_move rfl) rfl ?_
        obtain ⟨q47, h⟩ := h
        refine run_s (ss_sub rfl rfl q47) rfl ?_
        obtain ⟨q48, h⟩ := h
        refine run_s (ss_idxL rfl rfl q48) rfl ?_
        refine run_s (ss_loadL (f := (fun r => C.lst (ints r))) rfl q48) rfl ?_
        refine run_s (ss_move rfl) rfl ?_
        refine run_s (ss_move rfl) rfl ?_
        obtain ⟨q49, h⟩ := h
        refine run_s (ss_sub rfl rfl q49) rfl ?_
        obtain ⟨q50, h⟩ := h
        refine run_s (ss_idxL rfl rfl q50) rfl ?_
        refine run_s (ss_loadL (f := ci) rfl q50) rfl ?_
        refine run_s (ss_move rfl) rfl ?_
        obtain ⟨q51, h⟩ := h
        refine run_s (ss_add rfl rfl q51) rfl ?_
        refine run_w (ws_buildSlice (id := 115) (ps := [(0, .tmp 114)]) rfl rfl (Nat.le_of_ble_eq_true rfl) rfl ⟨rfl, ?_⟩)
        obtain ⟨q52, h⟩ := h
        refine run_w (ws_app1 ci (l := o27_2) (m := [(el (el t2 (v8_1 - (s1.length : Int))) (v11_2 - (s1.length : Int))) + (s1.length : Int)]) rfl rfl rfl rfl rfl (Nat.le_of_ble_eq_true rfl) q52 ⟨rfl, ?_⟩)
        refine run_s (ss_assign rfl) rfl ?_
        refine run_nil ?_
        refine aw_gh (gh_to (n := 130) (σ' := [(27, ⟨ints (o27_2 ++ ([(el (el t2 (v8_1 - (s1.length : Int))) (v11_2 - (s1.length : Int))) + (s1.length : Int)])), []⟩), (26, ⟨ints (o26_2 ++ ([(el (el t1 (v8_1 - (s1.length : Int))) (v11_2 - (s1.length : Int))) + (s1.length : Int)])), []⟩), (200113, ⟨orows o200113_1, []⟩), (200112, ⟨orows o200112_1, []⟩), (7, ⟨[.hole, .hole], [(1, .ref 200113), (0, .ref 200112)]⟩), (4, ⟨[cnil, cnil], []⟩)]) (env' := [(2, .c (.ptr [.lst (rows s1), .lst (rows s2)])), (3, .c (.ptr [.lst (rows t1), .lst (rows t2)])), (4, .cell 4 0), (5, .c (ci (s1.length : Int))), (6, .c (ci (t1.length : Int))), (7, .cell 7 0), (8, .c (ci v8_1)), (9, .ref 26), (10, .ref 27), (11, .c (ci v11_2)), (79, .c (ci v11_2)), (80, .c (ci (s1.length : Int))), (81, .c (cb (decide ((s1.length : Int) ≤ v11_2))))]) rfl rfl ⟨rfl, rfl, rfl, rfl, rfl, rfl, rfl, rfl, rfl, rfl, rfl, rfl, rfl, trivial⟩) ?_
        refine aw_region ?_
        refine run_s (ss_move rfl) rfl ?_
        obtain ⟨q53, h⟩ := h
        refine run_s (ss_add rfl rfl q53) rfl ?_
        refine run_s (ss_assign rfl) rfl ?_
        refine run_nil ?_
        exact ⟨v11_2 + 1, o26_2 ++ ([(el (el t1 (v8_1 - (s1.length : Int))) (v11_2 - (s1.length : Int))) + (s1.length : Int)]), o27_2 ++ ([(el (el t2 (v8_1 - (s1.length : Int))) (v11_2 - (s1.length : Int))) + (s1.length : Int)]), ghe_to (n := 130) rfl rfl ⟨rfl, rfl, rfl, rfl, rfl, rfl, rfl, rfl, rfl, rfl, trivial⟩, h.1, h.2⟩
       ·replace h := h.2 (of_decide_eq_false q40)
        refine aw_seq ?_
        refine aw_gh (gh_to (n := 130) (σ' := [(27, ⟨ints o27_2, []⟩), (26, ⟨ints o26_2, []⟩), (200113, ⟨orows o200113_1, []⟩), (200112, ⟨orows o200112_1, []⟩), (7, ⟨[.hole, .hole], [(1, .ref 200113), (0, .ref 200112)]⟩), (4, ⟨[cnil, cnil], []⟩)]) (env' := [(2, .c (.ptr [.lst (rows s1), .lst (rows s2)])), (3, .c (.ptr [.lst (rows t1), .lst (rows t2)])), (4, .cell 4 0), (5, .c (ci (s1.length : Int))), (6, .c (ci (t1.length : Int))), (7, .cell 7 0), (8, .c (ci v8_1)), (9, .ref 26), (10, .ref 27), (11, .c (ci v11_2)), (79, .c (ci v11_2)), (80, .c (ci (s1.length : Int))), (81, .c (cb (decide ((s1.length : Int) ≤ v11_2))))]) rfl rfl ⟨rfl, rfl, rfl, rfl, rfl, rfl, rfl, rfl, rfl, rfl, rfl, rfl, rfl, trivial⟩) ?_
        refine aw_region ?_
        refine run_s (ss_move rfl) rfl ?_
        refine run_s (ss_move rfl) rfl ?_
        refine run_w (ws_buildSlice (id := 37) (ps := [(0, .tmp 36)]) rfl rfl (Nat.le_of_ble_eq_true rfl) rfl ⟨rfl, ?_⟩)
        obtain ⟨q54, h⟩ := h
        refine run_w (ws_app1 ci (l := o26_2) (m := [v11_2]) rfl rfl rfl rfl rfl (Nat.le_of_ble_eq_true rfl) q54 ⟨rfl, ?_⟩)
        refine run_s (ss_assign rfl) rfl ?_
        refine run_nil ?_
        refine aw_region ?_
        refine run_s (ss_move rfl) rfl ?_
        refine run_s (ss_move rfl) rfl ?_
        refine run_w (ws_buildSlice (id := 41) (ps := [(0, .tmp 40)]) rfl rfl (Nat.le_of_ble_eq_true rfl) rfl ⟨rfl, ?_⟩)
        obtain ⟨q55, h⟩ := h
        refine run_w (ws_app1 ci (l := o27_2) (m := [v8_1]) rfl rfl rfl rfl rfl (Nat.le_of_ble_eq_true rfl) q55 ⟨rfl, ?_⟩)
        refine run_s (ss_assign rfl) rfl ?_
        refine run_nil ?_
        refine aw_gh (gh_to (n := 130) (σ' := [(27, ⟨ints (o27_2 ++ ([v8_1])), []⟩), (26, ⟨ints (o26_2 ++ ([v11_2])), []⟩), (200113, ⟨orows o200113_1, []⟩), (200112, ⟨orows o200112_1, []⟩), (7, ⟨[.hole, .hole], [(1, .ref 200113), (0, .ref 200112)]⟩), (4, ⟨[cnil, cnil], []⟩)]) (env' := [(2, .c (.ptr [.lst (rows s1), .lst (rows s2)])), (3, .c (.ptr [.lst (rows t1), .lst (rows t2)])), (4, .cell 4 0), (5, .c (ci (s1.length : Int))), (6, .c (ci (t1.length : Int))), (7, .cell 7 0), (8, .c (ci v8_1)), (9, .ref 26), (10, .ref 27), (11, .c (ci v11_2)), (79, .c (ci v11_2)), (80, .c (ci (s1.length : Int))), (81, .c (cb (decide ((s1.length : Int) ≤ v11_2))))]) rfl rfl ⟨rfl, rfl, rfl, rfl, rfl, rfl, rfl, rfl, rfl, rfl, rfl, rfl, rfl, trivial⟩) ?_
        refine aw_region ?_
        refine run_s (ss_move rfl) rfl ?_
        obtain ⟨q56, h⟩ := h
        refine run_s (ss_add rfl rfl q56) rfl ?_
        refine run_s (ss_assign rfl) rfl ?_
        refine run_nil ?_
        exact ⟨v11_2 + 1, o26_2 ++ ([v11_2]), o27_2 ++ ([v8_1]), ghe_to (n := 130) rfl rfl ⟨rfl, rfl, rfl, rfl, rfl, rfl, rfl, rfl, rfl, rfl, trivial⟩, h.1, h.2⟩
      ·replace h := h.2 (of_decide_eq_false q39)
       refine run_gf rfl rfl q39 rfl ?_
       refine run_gf rfl rfl q39 rfl ?_
       refine run_gf rfl rfl q39 rfl ?_
       refine run_s (ss_pickF rfl q39 rfl) rfl ?_
       refine run_s (ss_assign rfl) rfl ?_
       refine run_nil ?_
       refine aw_cond rfl (fun q57 => ?_) (fun q57 => ?_)
       ·cases q57
       ·skip
        refine aw_seq ?_
        refine aw_gh (gh_to (n := 130) (σ' := [(27, ⟨ints o27_2, []⟩), (26, ⟨ints o26_2, []⟩), (200113, ⟨orows o200113_1, []⟩), (200112, ⟨orows o200112_1, []⟩), (7, ⟨[.hole, .hole], [(1, .ref 200113), (0, .ref 200112)]⟩), (4, ⟨[cnil, cnil], []⟩)]) (env' := [(2, .c (.ptr [.lst (rows s1), .lst (rows s2)])), (3, .c (.ptr [.lst (rows t1), .lst (rows t2)])), (4, .cell 4 0), (5, .c (ci (s1.length : Int))), (6, .c (ci (t1.length : Int))), (7, .cell 7 0), (8, .c (ci v8_1)), (9, .ref 26), (10, .ref 27), (11, .c (ci v11_2))]) rfl rfl ⟨rfl, rfl, rfl, rfl, rfl, rfl, rfl, rfl, rfl, rfl, trivial⟩) ?_
        refine aw_region ?_
        refine run_s (ss_move rfl) rfl ?_
        refine run_s (ss_move rfl) rfl ?_
        refine run_w (ws_buildSlice (id := 37) (ps := [(0, .tmp 36)]) rfl rfl (Nat.le_of_ble_eq_true rfl) rfl ⟨rfl, ?_⟩)
        obtain ⟨q58, h⟩ := h
        refine run_w (ws_app1 ci (l := o26_2) (m := [v11_2]) rfl rfl rfl rfl rfl (Nat.le_of_ble_eq_true rfl) q58 ⟨rfl, ?_⟩)
        refine run_s (ss_assign rfl) rfl ?_
        refine run_nil ?_
        refine aw_region ?_
        refine run_s (ss_move rfl) rfl ?_
        refine run_s (ss_move rfl) rfl ?_
        refine run_w (ws_buildSlice (id := 41) (ps := [(0, .tmp 40)]) rfl rfl (Nat.le_of_ble_eq_true rfl) rfl ⟨rfl, ?_⟩)
        obtain ⟨q59, h⟩ := h
        refine run_w (ws_app1 ci (l := o27_2) (m := [v8_1]) rfl rfl rfl rfl rfl (Nat.le_of_ble_eq_true rfl) q59 ⟨rfl, ?_⟩)
        refine run_s (ss_assign rfl) rfl ?_
        refine run_nil ?_
        refine aw_region ?_
        refine run_s (ss_move rfl) rfl ?_
        obtain ⟨q60, h⟩ := h
        refine run_s (ss_add rfl rfl q60) rfl ?_
        refine run_s (ss_assign rfl) rfl ?_
        refine run_nil ?_
        exact ⟨v11_2 + 1, o26_2 ++ ([v11_2]), o27_2 ++ ([v8_1]), ghe_to (n := 130) rfl rfl ⟨rfl, rfl, rfl, rfl, rfl, rfl, rfl, rfl, rfl, rfl, trivial⟩, h.1, h.2⟩
   ·replace h := h.2 (of_decide_eq_false q6)
    refine aw_exit ?_
    refine aw_seq ?_
    refine aw_region ?_
    refine run_s (ss_field_cell rfl) rfl ?_
    refine run_s (ss_loadH rfl rfl rfl rfl) rfl ?_
    refine run_s (ss_move rfl) rfl ?_
    refine run_w (ws_buildSlice (id := 120) (ps := [(0, .tmp 119)]) rfl rfl (Nat.le_of_ble_eq_true rfl) rfl ⟨rfl, ?_⟩)
    refine run_gh (gh_fill (id := 120) (id2 := 26) (j := 0) rfl rfl (Nat.le_of_ble_eq_true rfl) rfl rfl rfl) ?_
    obtain ⟨q61, h⟩ := h
    refine run_w (ws_app1 (fun r => C.own (ints r)) (l := o200112_1) (m := [o26_2]) rfl rfl rfl rfl rfl (Nat.le_of_ble_eq_true rfl) q61 ⟨rfl, ?_⟩)
    refine run_s (ss_field_cell rfl) rfl ?_
    refine run_w (ws_store rfl rfl (Nat.le_of_ble_eq_true rfl) rfl rfl ⟨rfl, ?_⟩)
    refine run_nil ?_
    refine aw_region ?_
    refine run_s (ss_field_cell rfl) rfl ?_
    refine run_s (ss_loadH rfl rfl rfl rfl) rfl ?_
    refine run_s (ss_move rfl) rfl ?_
    refine run_w (ws_buildSlice (id := 126) (ps := [(0, .tmp 125)]) rfl rfl (Nat.le_of_ble_eq_true rfl) rfl ⟨rfl, ?_⟩)
    refine run_gh (gh_fill (id := 126) (id2 := 27) (j := 0) rfl rfl (Nat.le_of_ble_eq_true rfl) rfl rfl rfl) ?_
    obtain ⟨q62, h⟩ := h
    refine run_w (ws_app1 (fun r => C.own (ints r)) (l := o200113_1) (m := [o27_2]) rfl rfl rfl rfl rfl (Nat.le_of_ble_eq_true rfl) q62 ⟨rfl, ?_⟩)
    refine run_s (ss_field_cell rfl) rfl ?_
    refine run_w (ws_store rfl rfl (Nat.le_of_ble_eq_true rfl) rfl rfl ⟨rfl, ?_⟩)
    refine run_nil ?_
    refine aw_gh (gh_to (n := 130) (σ' := [(200113, ⟨orows (o200113_1 ++ ([o27_2])), []⟩), (200112, ⟨orows (o200112_1 ++ ([o26_2])), []⟩), (7, ⟨[.hole, .hole], [(1, .ref 200113), (0, .ref 200112)]⟩), (4, ⟨[cnil, cnil], []⟩)]) (env' := [(2, .c (.ptr [.lst (rows s1), .lst (rows s2)])), (3, .c (.ptr [.lst (rows t1), .lst (rows t2)])), (4, .cell 4 0), (5, .c (ci (s1.length : Int))), (6, .c (ci (t1.length : Int))), (7, .cell 7 0), (8, .c (ci v8_1))]) rfl rfl ⟨rfl, rfl, rfl, rfl, rfl, rfl, rfl, trivial⟩) ?_
    refine aw_region ?_
    refine run_s (ss_move rfl) rfl ?_
    obtain ⟨q63, h⟩ := h
    refine run_s (ss_add rfl rfl q63) rfl ?_
    refine run_s (ss_assign rfl) rfl ?_
    refine run_nil ?_
    exact ⟨v8_1 + 1, o200112_1 ++ ([o26_2]), o200113_1 ++ ([o27_2]), ghe_to (n := 130) rfl rfl ⟨rfl, rfl, rfl, rfl, rfl, rfl, rfl, trivial⟩, h.1, h.2⟩
  ·replace h := h.2 (of_decide_eq_false q3)
   refine aw_exit ?_
   refine aw_seq ?_
   refine aw_gh (gh_to (n := 130) (σ' := [(200113, ⟨orows o200113_1, []⟩), (200112, ⟨orows o200112_1, []⟩), (7, ⟨[.hole, .hole], [(1, .ref 200113), (0, .ref 200112)]⟩), (4, ⟨[cnil, cnil], []⟩)]) (env' := [(4, .cell 4 0), (7, .cell 7 0)]) rfl rfl ⟨rfl, rfl, trivial⟩) ?_
   refine aw_region ?_
   refine run_s (ss_loadS rfl rfl rfl rfl) rfl ?_
   refine run_w (ws_storeN rfl rfl (Nat.le_of_ble_eq_true rfl) rfl rfl rfl rfl ⟨rfl, ?_⟩)
   refine run_nil ?_
   refine aw_ret ?_
   exact retAF_mk (retv1 rfl (rv_struct rfl rfl rfl)) rfl rfl ⟨_, (cle_refl _), _, _, h, rfl⟩

theorem c_spec_l02Union (s1 : List (List Int)) (s2 : List (List Int)) (t1 : List (List Int)) (t2 : List (List Int)) (hp : ∃ n_ m_ : Int, pairN n_ s1 s2 ∧ pairN m_ t1 t2 ∧ n_ + m_ ≤ 12) : AF Try.prog 219 [.agg [.lst (rows s1), .lst (rows s2)], .agg [.lst (rows t1), .lst (rows t2)]] (fun R_ => ∃ y0 y1, (pairN ((s1.length : Int) + (t1.length : Int)) y0 y1) ∧ R_ = .agg [.own (orows y0), .own (orows y1)]) :=
  w_spec_l02Union s1 s2 t1 t2 (fun y0 y1 => pairN ((s1.length : Int) + (t1.length : Int)) y0 y1) (p_spec_l02Union s1 s2 t1 t2 hp)

set_option maxRecDepth 100000 in
set_option maxHeartbeats 4000000 in
theorem w_spec_l02Inverse (s1 : List (List Int)) (s2 : List (List Int)) (Q : List (List Int) → List (List Int) → Prop) (h : wp_spec_l02Inverse s1 s2 Q) : AF Try.prog 221 [.agg [.lst (rows s1), .lst (rows s2)]] (fun R_ => ∃ y0 y1, Q y0 y1 ∧ R_ = .agg [.own (orows y0), .own (orows y1)]) := by
  refine AF.ofWQ (af_enter (n := 71) Try.func221 rfl (by rfl) rfl (Nat.le_of_ble_eq_true rfl) ?_)
  unfold wp_spec_l02Inverse at h
  refine aw_seq ?_
  refine aw_gh (gh_to (n := 71) (σ' := []) (env' := [(0, .c (.agg [.lst (rows s1), .lst (rows s2)]))]) rfl rfl ⟨rfl, trivial⟩) ?_
  refine aw_region ?_
  refine run_w (ws_boxR rfl (.inl rfl) rfl ⟨rfl, ?_⟩)
  refine run_w (ws_alloc (id := 2) rfl (Nat.le_of_ble_eq_true rfl) ⟨rfl, ?_⟩)
  refine run_nil ?_
  refine aw_seq ?_
  refine aw_region ?_
  refine run_s (ss_field_ptr rfl) rfl ?_
  refine run_s (ss_load_ptr rfl rfl) rfl ?_
  refine run_s (ss_lenL (f := (fun r => C.lst (ints r))) rfl) rfl ?_
  refine run_s (ss_assign rfl) rfl ?_
  refine run_nil ?_
  refine aw_seq ?_
  refine aw_region ?_
  refine run_s (ss_move rfl) rfl ?_
  obtain ⟨q1, h⟩ := h
  refine run_w (ws_call (xs := [.tmp 12]) (ids := [13, 1001]) rfl rfl rfl rfl (c_spec_l02Empty (s1.length : Int) q1) rfl ?_ )
  rintro _ rfl
  refine ⟨rfl, ?_⟩
  refine run_w (ws_alloc (id := 4) rfl (Nat.le_of_ble_eq_true rfl) ⟨rfl, ?_⟩)
  refine run_w (ws_storeN rfl rfl (Nat.le_of_ble_eq_true rfl) rfl rfl rfl rfl ⟨rfl, ?_⟩)
  refine run_nil ?_
  refine aw_seq ?_
  refine aw_seq ?_
  refine aw_gh (gh_to (n := 71) (σ' := [(4, ⟨[.hole, .hole], [(1, .ref 1001), (0, .ref 13)]⟩), (13, ⟨orows (tab (s1.length : Int) (fun _ _ => 0)), []⟩), (1001, ⟨orows (tab (s1.length : Int) (fun _ _ => 0)), []⟩), (2, ⟨[cnil, cnil], []⟩)]) (env' := [(1, .c (.ptr [.lst (rows s1), .lst (rows s2)])), (2, .cell 2 0), (3, .c (ci (s1.length : Int))), (4, .cell 4 0)]) rfl rfl ⟨rfl, rfl, rfl, rfl, trivial⟩) ?_
  refine aw_region ?_
  refine run_s (ss_assign rfl) rfl ?_
  refine run_nil ?_
  refine aw_block ?_
  obtain ⟨H1, m1, q3, h⟩ := h
  refine aw_loop3 (fun (v5_1 : Int) (o13_1 : List (List Int)) (o1001_1 : List (List Int)) => ⟨[(4, ⟨[.hole, .hole], [(1, .ref 1001), (0, .ref 13)]⟩), (13, ⟨orows o13_1, []⟩), (1001, ⟨orows o1001_1, []⟩), (2, ⟨[cnil, cnil], []⟩)], [(1, .c (.ptr [.lst (rows s1), .lst (rows s2)])), (2, .cell 2 0), (3, .c (ci (s1.length : Int))), (4, .cell 4 0), (5, .c (ci v5_1))], 71⟩) H1 m1 ⟨0, tab (s1.length : Int) (fun _ _ => 0), tab (s1.length : Int) (fun _ _ => 0), ghe_to (n := 71) rfl rfl ⟨rfl, rfl, rfl, rfl, rfl, trivial⟩, q3⟩ ?_
  rintro v5_1 o13_1 o1001_1 q3
  replace h := h v5_1 o13_1 o1001_1 q3
  refine aw_seq ?_
  refine aw_seq ?_
  refine aw_region ?_
  refine run_s (ss_move rfl) rfl ?_
  refine run_s (ss_move rfl) rfl ?_
  refine run_s (ss_lss rfl rfl) rfl ?_
  refine run_nil ?_
  refine aw_cond rfl (fun q4 => ?_) (fun q4 => ?_)
  ·replace h := h.1 (of_decide_eq_true q4)
   refine aw_skip ?_
   refine aw_seq ?_
   refine aw_block ?_
   refine aw_seq ?_
   refine aw_region ?_
   refine run_s (ss_assign rfl) rfl ?_
   refine run_nil ?_
   refine aw_block ?_
   obtain ⟨H2, m2, q5, h⟩ := h
   refine aw_loop3 (fun (v6_2 : Int) (o13_2 : List (List Int)) (o1001_2 : List (List Int)) => ⟨[(4, ⟨[.hole, .hole], [(1, .ref 1001), (0, .ref 13)]⟩), (13, ⟨orows o13_2, []⟩), (1001, ⟨orows o1001_2, []⟩), (2, ⟨[cnil, cnil], []⟩)], [(1, .c (.ptr [.lst (rows s1), .lst (rows s2)])), (2, .cell 2 0), (3, .c (ci (s1.length : Int))), (4, .cell 4 0), (5, .c (ci v5_1)), (6, .c (ci v6_2))], 71⟩) H2 m2 ⟨0, o13_1, o1001_1, ghe_to (n := 71) rfl rfl ⟨rfl, rfl, rfl, rfl, rfl, rfl, trivial⟩, q5⟩ ?_
   rintro v6_2 o13_2 o1001_2 q5
   replace h := h v6_2 o13_2 o1001_2 q5
   refine aw_seq ?_
   refine aw_seq ?_
   refine aw_region ?_
   refine run_s (ss_move rfl) rfl ?_
   refine run_s (ss_move rfl) rfl ?_
   refine run_s (ss_lss rfl rfl) rfl ?_
   refine run_nil ?_
   refine aw_cond rfl (fun q6 => ?_) (fun q6 => ?_)
   ·replace h := h.1 (of_decide_eq_true q6)
    refine aw_skip ?_
    refine aw_seq ?_
    refine aw_block ?_
    refine aw_seq ?_
    refine aw_gh (gh_to (n := 71) (σ' := [(4, ⟨[.hole, .hole], [(1, .ref 1001), (0, .ref 13)]⟩), (13, ⟨orows o13_2, []⟩), (1001, ⟨orows o1001_2, []⟩), (2, ⟨[cnil, cnil], []⟩)]) (env' := [(1, .c (.ptr [.lst (rows s1), .lst (rows s2)])), (2, .cell 2 0), (3, .c (ci (s1.length : Int))), (4, .cell 4 0), (5, .c (ci v5_1)), (6, .c (ci v6_2))]) rfl rfl ⟨rfl, rfl, rfl, rfl, rfl, rfl, trivial⟩) ?_
    refine aw_regionD (kd := kdl [0, 1, 0, 1, 0, 0, 1, 0, 0, 1, 0, 1, 0, 1, 0, 1, 0, 0, 1, 0, 0, 1, 0, 1, 0, 0]) (ord := [0, 2, 4, 7, 12, 14, 16, 19, 1, 3, 5, 6, 8, 9, 10, 11, 24, 13, 15, 17, 18, 20, 21, 22, 23, 25]) [] mixed (by kernel_rfl) ?_
    refine rd_s rfl rfl trivial (ss_field_cell rfl) rfl ?_
    refine rd_s rfl rfl trivial (ss_field_ptr rfl) rfl ?_
    refine rd_s rfl rfl trivial (ss_move rfl) rfl ?_
    refine rd_s rfl rfl trivial (ss_move rfl) rfl ?_
    refine rd_s rfl rfl trivial (ss_field_cell rfl) rfl ?_
    refine rd_s rfl rfl trivial (ss_field_ptr rfl) rfl ?_
    refine rd_s rfl rfl trivial (ss_move rfl) rfl ?_
    refine rd_s rfl rfl trivial (ss_move rfl) rfl ?_
    refine rd_l rfl rfl trivial (ss_loadH rfl rfl rfl rfl) rfl ?_
    refine rd_l rfl rfl trivial (ss_load_ptr rfl rfl) rfl ?_
    obtain ⟨q7, h⟩ := h
    refine rd_s rfl rfl trivial (ss_idxL rfl rfl q7) rfl ?_
    refine rd_l rfl rfl trivial (ss_loadL (f := (fun r => C.lst (ints r))) rfl q7) rfl ?_
    obtain ⟨q8, h⟩ := h
    refine rd_s rfl rfl trivial (ss_idxL rfl rfl q8) rfl ?_
    refine rd_l rfl rfl trivial (ss_loadL (f := ci) rfl q8) rfl ?_
    obtain ⟨q9, h⟩ := h
    refine rd_s rfl rfl trivial (ss_idxR (f := (fun r => C.own (ints r))) rfl rfl rfl q9) rfl ?_
    refine rd_open 1002 (id := 13) (j := (el (el s1 v5_1) v6_2).toNat) rfl (map_get (f := (fun r => C.own (ints r))) q9) rfl rfl rfl ?_
    refine rd_l rfl rfl trivial (ss_loadH rfl rfl lk_self rfl) rfl ?_
    refine rd_s rfl rfl trivial (ss_assign rfl) rfl ?_
    refine rd_l rfl rfl trivial (ss_loadH rfl rfl rfl rfl) rfl ?_
    refine rd_l rfl rfl trivial (ss_load_ptr rfl rfl) rfl ?_
    obtain ⟨q10, h⟩ := h
    refine rd_s rfl rfl trivial (ss_idxL rfl rfl q10) rfl ?_
    refine rd_l rfl rfl trivial (ss_loadL (f := (fun r => C.lst (ints r))) rfl q10) rfl ?_
    obtain ⟨q11, h⟩ := h
    refine rd_s rfl rfl trivial (ss_idxL rfl rfl q11) rfl ?_
    refine rd_l rfl rfl trivial (ss_loadL (f := ci) rfl q11) rfl ?_
    obtain ⟨q12, h⟩ := h
    refine rd_s rfl rfl trivial (ss_idxR (f := (fun r => C.own (ints r))) rfl rfl rfl q12) rfl ?_
    refine rd_open 1003 (id := 1001) (j := (el (el s1 v5_1) v6_2).toNat) rfl (map_get (f := (fun r => C.own (ints r))) q12) rfl rfl rfl ?_
    refine rd_l rfl rfl trivial (ss_loadH rfl rfl lk_self rfl) rfl ?_
    refine rd_s rfl rfl trivial (ss_assign rfl) rfl ?_
    refine rd_nil ?_
    refine aw_seq ?_
    refine aw_gh (gh_to (n := 71) (σ' := [(1003, ⟨ints (el o1001_2 (el (el s1 v5_1) v6_2)), []⟩), (1002, ⟨ints (el o13_2 (el (el s1 v5_1) v6_2)), []⟩), (4, ⟨[.hole, .hole], [(1, .ref 1001), (0, .ref 13)]⟩), (13, ⟨(orows o13_2).set (el (el s1 v5_1) v6_2).toNat .hole, [((el (el s1 v5_1) v6_2).toNat, .ref 1002)]⟩), (1001, ⟨(orows o1001_2).set (el (el s1 v5_1) v6_2).toNat .hole, [((el (el s1 v5_1) v6_2).toNat, .ref 1003)]⟩), (2, ⟨[cnil, cnil], []⟩)]) (env' := [(1, .c (.ptr [.lst (rows s1), .lst (rows s2)])), (2, .cell 2 0), (3, .c (ci (s1.length : Int))), (4, .cell 4 0), (5, .c (ci v5_1)), (6, .c (ci v6_2)), (7, .ref 1002), (8, .ref 1003)]) rfl rfl ⟨rfl, rfl, rfl, rfl, rfl, rfl, rfl, rfl, trivial⟩) ?_
    refine aw_region ?_
    refine run_s (ss_move rfl) rfl ?_
    refine run_s (ss_field_ptr rfl) rfl ?_
    refine run_s (ss_load_ptr rfl rfl) rfl ?_
    refine run_s (ss_move rfl) rfl ?_
    obtain ⟨q13, h⟩ := h
    refine run_s (ss_idxL rfl rfl q13) rfl ?_
    refine run_s (ss_loadL (f := (fun r => C.lst (ints r))) rfl q13) rfl ?_
    refine run_s (ss_move rfl) rfl ?_
    obtain ⟨q14, h⟩ := h
    refine run_s (ss_idxL rfl rfl q14) rfl ?_
    refine run_s (ss_loadL (f := ci) rfl q14) rfl ?_
    refine run_s (ss_move rfl) rfl ?_
    obtain ⟨q15, h⟩ := h
    refine run_s (ss_idxR (f := ci) rfl rfl rfl q15) rfl ?_
    refine run_w (ws_storeE rfl rfl (map_lt q15) rfl rfl (map_se (f := ci)) rfl ⟨rfl, ?_⟩)
    refine run_nil ?_
    refine aw_region ?_
    refine run_s (ss_move rfl) rfl ?_
    refine run_s (ss_field_ptr rfl) rfl ?_
    refine run_s (ss_load_ptr rfl rfl) rfl ?_
    refine run_s (ss_move rfl) rfl ?_
    obtain ⟨q16, h⟩ := h
    refine run_s (ss_idxL rfl rfl q16) rfl ?_
    refine run_s (ss_loadL (f := (fun r => C.lst (ints r))) rfl q16) rfl ?_
    refine run_s (ss_move rfl) rfl ?_
    obtain ⟨q17, h⟩ := h
    refine run_s (ss_idxL rfl rfl q17) rfl ?_
    refine run_s (ss_loadL (f := ci) rfl q17) rfl ?_
    refine run_s (ss_move rfl) rfl ?_
    obtain ⟨q18, h⟩ := h
    refine run_s (ss_idxR (f := ci) rfl rfl rfl q18) rfl ?_
    refine run_w (ws_storeE rfl rfl (map_lt q18) rfl rfl (map_se (f := ci)) rfl ⟨rfl, ?_⟩)
    refine run_nil ?_
    refine aw_gh (gh_to (n := 71) (σ' := [(1003, ⟨ints (se (el o1001_2 (el (el s1 v5_1) v6_2)) (el (el s2 v5_1) v6_2) v6_2), []⟩), (1002, ⟨ints (se (el o13_2 (el (el s1 v5_1) v6_2)) (el (el s2 v5_1) v6_2) v5_1), []⟩), (4, ⟨[.hole, .hole], [(1, .ref 1001), (0, .ref 13)]⟩), (13, ⟨(orows o13_2).set (el (el s1 v5_1) v6_2).toNat .hole, [((el (el s1 v5_1) v6_2).toNat, .ref 1002)]⟩), (1001, ⟨(orows o1001_2).set (el (el s1 v5_1) v6_2).toNat .hole, [((el (el s1 v5_1) v6_2).toNat, .ref 1003)]⟩), (2, ⟨[cnil, cnil], []⟩)]) (env' := [(1, .c (.ptr [.lst (rows s1), .lst (rows s2)])), (2, .cell 2 0), (3, .c (ci (s1.length : Int))), (4, .cell 4 0), (5, .c (ci v5_1)), (6, .c (ci v6_2))]) rfl rfl ⟨rfl, rfl, rfl, rfl, rfl, rfl, trivial⟩) ?_
    refine aw_region ?_
    refine run_s (ss_move rfl) rfl ?_
    obtain ⟨q19, h⟩ := h
    refine run_s (ss_add rfl rfl q19) rfl ?_
    refine run_s (ss_assign rfl) rfl ?_
    refine run_nil ?_
    exact ⟨v6_2 + 1, se o13_2 (el (el s1 v5_1) v6_2) (se (el o13_2 (el (el s1 v5_1) v6_2)) (el (el s2 v5_1) v6_2) v5_1), se o1001_2 (el (el s1 v5_1) v6_2) (se (el o1001_2 (el (el s1 v5_1) v6_2)) (el (el s2 v5_1) v6_2) v6_2), ghe_step (gh_fillA (id := 13) (id2 := 1002) (f := (fun r => C.own (ints r))) (v := se (el o13_2 (el (el s1 v5_1) v6_2)) (el (el s2 v5_1) v6_2) v5_1) rfl lk_self rfl q9 rfl rfl kr_self) (ghe_step (gh_fillA (id := 1001) (id2 := 1003) (f := (fun r => C.own (ints r))) (v := se (el o1001_2 (el (el s1 v5_1) v6_2)) (el (el s2 v5_1) v6_2) v6_2) rfl lk_self rfl q12 rfl rfl kr_self) (ghe_to (n := 71) rfl rfl ⟨rfl, rfl, rfl, rfl, rfl, rfl, trivial⟩)), h.1, h.2⟩
   ·replace h := h.2 (of_decide_eq_false q6)
    refine aw_exit ?_
    refine aw_region ?_
    refine run_s (ss_move rfl) rfl ?_
    obtain ⟨q20, h⟩ := h
    refine run_s (ss_add rfl rfl q20) rfl ?_
    refine run_s (ss_assign rfl) rfl ?_
    refine run_nil ?_
    exact ⟨v5_1 + 1, o13_2, o1001_2, ghe_to (n := 71) rfl rfl ⟨rfl, rfl, rfl, rfl, rfl, trivial⟩, h.1, h.2⟩
  ·replace h := h.2 (of_decide_eq_false q4)
   refine aw_exit ?_
   refine aw_seq ?_
   refine aw_gh (gh_to (n := 71) (σ' := [(4, ⟨[.hole, .hole], [(1, .ref 1001), (0, .ref 13)]⟩), (13, ⟨orows o13_1, []⟩), (1001, ⟨orows o1001_1, []⟩), (2, ⟨[cnil, cnil], []⟩)]) (env' := [(2, .cell 2 0), (4, .cell 4 0)]) rfl rfl ⟨rfl, rfl, trivial⟩) ?_
   refine aw_region ?_
   refine run_s (ss_loadS rfl rfl rfl rfl) rfl ?_
   refine run_w (ws_storeN rfl rfl (Nat.le_of_ble_eq_true rfl) rfl rfl rfl rfl ⟨rfl, ?_⟩)
   refine run_nil ?_
   refine aw_ret ?_
   exact retAF_mk (retv1 rfl (rv_struct rfl rfl rfl)) rfl rfl ⟨_, (cle_refl _), _, _, h, rfl⟩

theorem c_spec_l02Inverse (s1 : List (List Int)) (s2 : List (List Int)) (hp : pairN (s1.length : Int) s1 s2) : AF Try.prog 221 [.agg [.lst (rows s1), .lst (rows s2)]] (fun R_ => ∃ y0 y1, (pairN (s1.length : Int) y0 y1) ∧ R_ = .agg [.own (orows y0), .own (orows y1)]) :=
  w_spec_l02Inverse s1 s2 (fun y0 y1 => pairN (s1.length : Int) y0 y1) (p_spec_l02Inverse s1 s2 hp)

set_option maxRecDepth 100000 in
set_option maxHeartbeats 4000000 in
theorem w_spec_l02Involutive (rw0 : List (List Int)) (Q : List (List Int) → List (List Int) → Prop) (h : wp_spec_l02Involutive rw0 Q) : AF Try.prog 220 [.lst (rows rw0)] (fun R_ => ∃ y0 y1, Q y0 y1 ∧ R_ = .agg [.own (orows y0), .own (orows y1)]) := by
  refine AF.ofWQ (af_enter (n := 45) Try.func220 rfl (by rfl) rfl (Nat.le_of_ble_eq_true rfl) ?_)
  unfold wp_spec_l02Involutive at h
  refine aw_seq ?_
  refine aw_gh (gh_to (n := 45) (σ' := []) (env' := [(0, .c (.lst (rows rw0)))]) rfl rfl ⟨rfl, trivial⟩) ?_
  refine aw_region ?_
  refine run_w (ws_alloc (id := 2) rfl (Nat.le_of_ble_eq_true rfl) ⟨rfl, ?_⟩)
  refine run_nil ?_
  refine aw_seq ?_
  refine aw_region ?_
  refine run_s (ss_move rfl) rfl ?_
  obtain ⟨q1, h⟩ := h
  refine run_w (ws_call (xs := [.tmp 7]) (ids := [8]) rfl rfl rfl rfl (c_spec_l01Own2 rw0 q1) rfl ?_ )
  rintro _ rfl
  refine ⟨rfl, ?_⟩
  refine run_s (ss_buildP (ps := [(0, .tmp 8)]) rfl rfl) rfl ?_
  refine run_w (ws_alloc (id := 3) rfl (Nat.le_of_ble_eq_true rfl) ⟨rfl, ?_⟩)
  refine run_w (ws_storeN rfl rfl (Nat.le_of_ble_eq_true rfl) rfl rfl rfl rfl ⟨rfl, ?_⟩)
  refine run_nil ?_
  refine aw_seq ?_
  refine aw_seq ?_
  refine aw_region ?_
  refine run_s (ss_assign rfl) rfl ?_
  refine run_nil ?_
  refine aw_block ?_
  obtain ⟨H1, m1, q3, h⟩ := h
  refine aw_loop2 (fun (v4_1 : Int) (o200049_1 : List (List Int)) => ⟨[(200049, ⟨orows o200049_1, []⟩), (3, ⟨[.hole, .hole], [(1, .ref 200049), (0, .ref 8)]⟩), (8, ⟨orows rw0, []⟩), (2, ⟨[cnil, cnil], []⟩)], [(0, .c (.lst (rows rw0))), (2, .cell 2 0), (3, .cell 3 0), (4, .c (ci v4_1))], 45⟩) H1 m1 ⟨0, ([] : List (List Int)), ghe_step (gh_nilH (id0 := 3) (j := 1) (id := 200049) rfl rfl rfl rfl) (ghe_to (n := 45) rfl rfl ⟨rfl, rfl, rfl, rfl, trivial⟩), q3⟩ ?_
  rintro v4_1 o200049_1 q3
  replace h := h v4_1 o200049_1 q3
  refine aw_seq ?_
  refine aw_seq ?_
  refine aw_region ?_
  refine run_s (ss_move rfl) rfl ?_
  refine run_s (ss_move rfl) rfl ?_
  refine run_s (ss_lenL (f := (fun r => C.lst (ints r))) rfl) rfl ?_
  refine run_s (ss_lss rfl rfl) rfl ?_
  refine run_nil ?_
  refine aw_cond rfl (fun q4 => ?_) (fun q4 => ?_)
  ·replace h := h.1 (of_decide_eq_true q4)
   refine aw_skip ?_
   refine aw_seq ?_
   refine aw_block ?_
   refine aw_seq ?_
   refine aw_region ?_
   refine run_w (ws_buildSlice (id := 16) (ps := []) rfl rfl (Nat.le_of_ble_eq_true rfl) rfl ⟨rfl, ?_⟩)
   refine run_s (ss_assign rfl) rfl ?_
   refine run_nil ?_
   refine aw_seq ?_
   refine aw_seq ?_
   refine aw_gh (gh_to (n := 45) (σ' := [(16, ⟨ints ([] : List Int), []⟩), (200049, ⟨orows o200049_1, []⟩), (3, ⟨[.hole, .hole], [(1, .ref 200049), (0, .ref 8)]⟩), (8, ⟨orows rw0, []⟩), (2, ⟨[cnil, cnil], []⟩)]) (env' := [(0, .c (.lst (rows rw0))), (2, .cell 2 0), (3, .cell 3 0), (4, .c (ci v4_1)), (5, .ref 16)]) rfl rfl ⟨rfl, rfl, rfl, rfl, rfl, trivial⟩) ?_
   refine aw_region ?_
   refine run_s (ss_assign rfl) rfl ?_
   refine run_nil ?_
   refine aw_block ?_
   obtain ⟨H2, m2, q5, h⟩ := h
   refine aw_loop2 (fun (v6_2 : Int) (o16_2 : List Int) => ⟨[(16, ⟨ints o16_2, []⟩), (200049, ⟨orows o200049_1, []⟩), (3, ⟨[.hole, .hole], [(1, .ref 200049), (0, .ref 8)]⟩), (8, ⟨orows rw0, []⟩), (2, ⟨[cnil, cnil], []⟩)], [(0, .c (.lst (rows rw0))), (2, .cell 2 0), (3, .cell 3 0), (4, .c (ci v4_1)), (5, .ref 16), (6, .c (ci v6_2))], 45⟩) H2 m2 ⟨0, ([] : List Int), ghe_to (n := 45) rfl rfl ⟨rfl, rfl, rfl, rfl, rfl, rfl, trivial⟩, q5⟩ ?_
   rintro v6_2 o16_2 q5
   replace h := h v6_2 o16_2 q5
   refine aw_seq ?_
   refine aw_seq ?_
   refine aw_region ?_
   refine run_s (ss_move rfl) rfl ?_
   refine run_s (ss_move rfl) rfl ?_
   refine run_s (ss_lenL (f := (fun r => C.lst (ints r))) rfl) rfl ?_
   refine run_s (ss_lss rfl rfl) rfl ?_
   refine run_nil ?_
   refine aw_cond rfl (fun q6 => ?_) (fun q6 => ?_)
   ·replace h := h.1 (of_decide_eq_true q6)
    refine aw_skip ?_
    refine aw_seq ?_
    refine aw_block ?_
    refine aw_region ?_
    refine run_s (ss_move rfl) rfl ?_
    refine run_s (ss_move rfl) rfl ?_
    refine run_s (ss_move rfl) rfl ?_
    refine run_s (ss_move rfl) rfl ?_
    obtain ⟨q7, h⟩ := h
    refine run_s (ss_idxL rfl rfl q7) rfl ?_
    refine run_s (ss_loadL (f := (fun r => C.lst (ints r))) rfl q7) rfl ?_
    refine run_s (ss_move rfl) rfl ?_
    obtain ⟨q8, h⟩ := h
    refine run_s (ss_idxL rfl rfl q8) rfl ?_
    refine run_s (ss_loadL (f := ci) rfl q8) rfl ?_
    obtain ⟨q9, h⟩ := h
    refine run_s (ss_idxL rfl rfl q9) rfl ?_
    refine run_s (ss_loadL (f := (fun r => C.lst (ints r))) rfl q9) rfl ?_
    refine run_s (ss_move rfl) rfl ?_
    obtain ⟨q10, h⟩ := h
    refine run_w (ws_call (xs := [.tmp 33, .tmp 34]) (ids := []) rfl rfl rfl rfl (c_spec_l01Index (el rw0 (el (el rw0 v4_1) v6_2)) v4_1 q10) rfl ?_ )
    rintro _ rfl
    refine ⟨rfl, ?_⟩
    refine run_w (ws_buildSlice (id := 36) (ps := [(0, .tmp 35)]) rfl rfl (Nat.le_of_ble_eq_true rfl) rfl ⟨rfl, ?_⟩)
    obtain ⟨q12, h⟩ := h
    refine run_w (ws_app1 ci (l := o16_2) (m := [idxI (el rw0 (el (el rw0 v4_1) v6_2)) v4_1]) rfl rfl rfl rfl rfl (Nat.le_of_ble_eq_true rfl) q12 ⟨rfl, ?_⟩)
    refine run_s (ss_assign rfl) rfl ?_
    refine run_nil ?_
    refine aw_gh (gh_to (n := 45) (σ' := [(16, ⟨ints (o16_2 ++ ([idxI (el rw0 (el (el rw0 v4_1) v6_2)) v4_1])), []⟩), (200049, ⟨orows o200049_1, []⟩), (3, ⟨[.hole, .hole], [(1, .ref 200049), (0, .ref 8)]⟩), (8, ⟨orows rw0, []⟩), (2, ⟨[cnil, cnil], []⟩)]) (env' := [(0, .c (.lst (rows rw0))), (2, .cell 2 0), (3, .cell 3 0), (4, .c (ci v4_1)), (5, .ref 16), (6, .c (ci v6_2))]) rfl rfl ⟨rfl, rfl, rfl, rfl, rfl, rfl, trivial⟩) ?_
    refine aw_region ?_
    refine run_s (ss_move rfl) rfl ?_
    obtain ⟨q13, h⟩ := h
    refine run_s (ss_add rfl rfl q13) rfl ?_
    refine run_s (ss_assign rfl) rfl ?_
    refine run_nil ?_
    exact ⟨v6_2 + 1, o16_2 ++ ([idxI (el rw0 (el (el rw0 v4_1) v6_2)) v4_1]), ghe_to (n := 45) rfl rfl ⟨rfl, rfl, rfl, rfl, rfl, rfl, trivial⟩, h.1, h.2⟩
   ·replace h := h.2 (of_decide_eq_false q6)
    refine aw_exit ?_
    refine aw_region ?_
    refine run_s (ss_field_cell rfl) rfl ?_
    refine run_s (ss_loadH rfl rfl rfl rfl) rfl ?_
    refine run_s (ss_move rfl) rfl ?_
    refine run_w (ws_buildSlice (id := 41) (ps := [(0, .tmp 40)]) rfl rfl (Nat.le_of_ble_eq_true rfl) rfl ⟨rfl, ?_⟩)
    refine run_gh (gh_fill (id := 41) (id2 := 16) (j := 0) rfl rfl (Nat.le_of_ble_eq_true rfl) rfl rfl rfl) ?_
    obtain ⟨q14, h⟩ := h
    refine run_w (ws_app1 (fun r => C.own (ints r)) (l := o200049_1) (m := [o16_2]) rfl rfl rfl rfl rfl (Nat.le_of_ble_eq_true rfl) q14 ⟨rfl, ?_⟩)
    refine run_s (ss_field_cell rfl) rfl ?_
    refine run_w (ws_store rfl rfl (Nat.le_of_ble_eq_true rfl) rfl rfl ⟨rfl, ?_⟩)
    refine run_nil ?_
    refine aw_gh (gh_to (n := 45) (σ' := [(200049, ⟨orows (o200049_1 ++ ([o16_2])), []⟩), (3, ⟨[.hole, .hole], [(1, .ref 200049), (0, .ref 8)]⟩), (8, ⟨orows rw0, []⟩), (2, ⟨[cnil, cnil], []⟩)]) (env' := [(0, .c (.lst (rows rw0))), (2, .cell 2 0), (3, .cell 3 0), (4, .c (ci v4_1))]) rfl rfl ⟨rfl, rfl, rfl, rfl, trivial⟩) ?_
    refine aw_region ?_
    refine run_s (ss_move rfl) rfl ?_
    obtain ⟨q15, h⟩ := h
    refine run_s (ss_add rfl rfl q15) rfl ?_
    refine run_s (ss_assign rfl) rfl ?_
    refine run_nil ?_
    exact ⟨v4_1 + 1, o200049_1 ++ ([o16_2]), ghe_to (n := 45) rfl rfl ⟨rfl, rfl, rfl, rfl, trivial⟩, h.1, h.2⟩
  ·replace h := h.2 (of_decide_eq_false q4)
   refine aw_exit ?_
   refine aw_seq ?_
   refine aw_gh (gh_to (n := 45) (σ' := [(200049, ⟨orows o200049_1, []⟩), (3, ⟨[.hole, .hole], [(1, .ref 200049), (0, .ref 8)]⟩), (8, ⟨orows rw0, []⟩), (2, ⟨[cnil, cnil], []⟩)]) (env' := [(2, .cell 2 0), (3, .cell 3 0)]) rfl rfl ⟨rfl, rfl, trivial⟩) ?_
   refine aw_region ?_
   refine run_s (ss_loadS rfl rfl rfl rfl) rfl ?_
   refine run_w (ws_storeN rfl rfl (Nat.le_of_ble_eq_true rfl) rfl rfl rfl rfl ⟨rfl, ?_⟩)
   refine run_nil ?_
   refine aw_ret ?_
   exact retAF_mk (retv1 rfl (rv_struct rfl rfl rfl)) rfl rfl ⟨_, (cle_refl _), _, _, h, rfl⟩

theorem c_spec_l02Involutive (rw0 : List (List Int)) (hp : isTab rw0 = true ∧ rw0.all isPerm = true) : AF Try.prog 220 [.lst (rows rw0)] (fun R_ => ∃ y0 y1, (pairN (rw0.length : Int) y0 y1) ∧ R_ = .agg [.own (orows y0), .own (orows y1)]) :=
  w_spec_l02Involutive rw0 (fun y0 y1 => pairN (rw0.length : Int) y0 y1) (p_spec_l02Involutive rw0 hp)

set_option maxRecDepth 100000 in
set_option maxHeartbeats 4000000 in
theorem w_spec_l02Rename (s1 : List (List Int)) (s2 : List (List Int)) (p : List Int) (Q : List (List Int) → List (List Int) → Prop) (h : wp_spec_l02Rename s1 s2 p Q) : AF Try.prog 199 [.agg [.lst (rows s1), .lst (rows s2)], .lst (ints p)] (fun R_ => ∃ y0 y1, Q y0 y1 ∧ R_ = .agg [.own (orows y0), .own (orows y1)]) := by
  refine AF.ofWQ (af_enter (n := 14) Try.func199 rfl (by rfl) rfl (Nat.le_of_ble_eq_true rfl) ?_)
  unfold wp_spec_l02Rename at h
  refine aw_seq ?_
  refine aw_gh (gh_to (n := 14) (σ' := []) (env' := [(0, .c (.agg [.lst (rows s1), .lst (rows s2)])), (1, .c (.lst (ints p)))]) rfl rfl ⟨rfl, rfl, trivial⟩) ?_
  refine aw_region ?_
  refine run_w (ws_boxR rfl (.inl rfl) rfl ⟨rfl, ?_⟩)
  refine run_w (ws_alloc (id := 4) rfl (Nat.le_of_ble_eq_true rfl) ⟨rfl, ?_⟩)
  refine run_nil ?_
  refine aw_seq ?_
  refine aw_gh (gh_to (n := 14) (σ' := [(4, ⟨[cnil, cnil], []⟩)]) (env' := [(1, .c (.lst (ints p))), (2, .c (.ptr [.lst (rows s1), .lst (rows s2)])), (4, .cell 4 0)]) rfl rfl ⟨rfl, rfl, rfl, trivial⟩) ?_
  refine aw_regionD (kd := kdl [0, 1, 0, 2, 0, 1, 0, 2, 0, 3]) (ord := [0, 2, 4, 6, 1, 5, 3, 7, 8, 9]) [] mixed (by kernel_rfl) ?_
  refine rd_s rfl rfl trivial (ss_field_ptr rfl) rfl ?_
  refine rd_s rfl rfl trivial (ss_move rfl) rfl ?_
  refine rd_s rfl rfl trivial (ss_field_ptr rfl) rfl ?_
  refine rd_s rfl rfl trivial (ss_move rfl) rfl ?_
  refine rd_l rfl rfl trivial (ss_load_ptr rfl rfl) rfl ?_
  refine rd_l rfl rfl trivial (ss_load_ptr rfl rfl) rfl ?_
  obtain ⟨q1, h⟩ := h
  refine rd_w rfl rfl trivial rfl rfl (ws_call (xs := [.tmp 6, .tmp 7]) (ids := [8]) rfl rfl rfl rfl (c_spec_l01Rename s1 p q1) rfl ?_ )
  rintro _ rfl
  refine ⟨rfl, ?_⟩
  obtain ⟨q3, h⟩ := h
  refine rd_w rfl rfl trivial rfl rfl (ws_call (xs := [.tmp 10, .tmp 11]) (ids := [12]) rfl rfl rfl rfl (c_spec_l01Rename s2 p q3) rfl ?_ )
  rintro _ rfl
  refine ⟨rfl, ?_⟩
  refine rd_s rfl rfl trivial (ss_build (ps := [(0, .tmp 8), (1, .tmp 12)]) rfl rfl) rfl ?_
  refine rd_f rfl rfl trivial (ws_storeN rfl rfl (Nat.le_of_ble_eq_true rfl) rfl rfl rfl rfl ⟨rfl, ?_⟩)
  refine rd_nil ?_
  refine aw_ret ?_
  exact retAF_mk (retv1 rfl (rv_struct rfl rfl rfl)) rfl rfl ⟨_, (cle_refl _), _, _, h, rfl⟩

theorem c_spec_l02Rename (s1 : List (List Int)) (s2 : List (List Int)) (p : List Int) (hp : isTab s1 = true ∧ isTab s2 = true ∧ s2.length = s1.length ∧ (p.length : Int) = (s1.length : Int) ∧ isPerm p = true) : AF Try.prog 199 [.agg [.lst (rows s1), .lst (rows s2)], .lst (ints p)] (fun R_ => R_ = .agg [.own (orows (renT s1 p)), .own (orows (renT s2 p))]) :=
  (w_spec_l02Rename s1 s2 p (fun y0 y1 => y0 = renT s1 p ∧ y1 = renT s2 p) (p_spec_l02Rename s1 s2 p hp)).mono (by rintro r ⟨_, _, ⟨rfl, rfl⟩, rfl⟩; rfl)

end Go.Proofs.Ytbodlnpmplcaoaa

/- Contracts of functions that the law FnConjugations reaches: conditions, plain proofs, walks; no condition. -/
import Derived.Test.YtggeeemecgmhiaaKConjugationsc
import Derived.Test.YtggeeemecgmhiaaPP
namespace Go.Proofs.Ytggeeemecgmhiaa

def wp_math_bits_Len64 (x : Int) (Q : Int → Prop) : Prop :=
 (((4294967296 : Int) ≤ x →
 False) ∧
 (¬ ((4294967296 : Int) ≤ x) →
 (((65536 : Int) ≤ x →
 False) ∧
 (¬ ((65536 : Int) ≤ x) →
 (((256 : Int) ≤ x →
 False) ∧
 (¬ ((256 : Int) ≤ x) →
 ((0 : Int) ≤ x ∧ x ≤ 255) ∧
 (0 ≤ x ∧ x < (([0, 1, 2, 2, 3, 3, 3, 3, 4, 4, 4, 4, 4, 4, 4, 4, 5, 5, 5, 5, 5, 5, 5, 5, 5, 5, 5, 5, 5, 5, 5, 5, 6, 6, 6, 6, 6, 6, 6, 6, 6, 6, 6, 6, 6, 6, 6, 6, 6, 6, 6, 6, 6, 6, 6, 6, 6, 6, 6, 6, 6, 6, 6, 6, 7, 7, 7, 7, 7, 7, 7, 7, 7, 7, 7, 7, 7, 7, 7, 7, 7, 7, 7, 7, 7, 7, 7, 7, 7, 7, 7, 7, 7, 7, 7, 7, 7, 7, 7, 7, 7, 7, 7, 7, 7, 7, 7, 7, 7, 7, 7, 7, 7, 7, 7, 7, 7, 7, 7, 7, 7, 7, 7, 7, 7, 7, 7, 7, 8, 8, 8, 8, 8, 8, 8, 8, 8, 8, 8, 8, 8, 8, 8, 8, 8, 8, 8, 8, 8, 8, 8, 8, 8, 8, 8, 8, 8, 8, 8, 8, 8, 8, 8, 8, 8, 8, 8, 8, 8, 8, 8, 8, 8, 8, 8, 8, 8, 8, 8, 8, 8, 8, 8, 8, 8, 8, 8, 8, 8, 8, 8, 8, 8, 8, 8, 8, 8, 8, 8, 8, 8, 8, 8, 8, 8, 8, 8, 8, 8, 8, 8, 8, 8, 8, 8, 8, 8, 8, 8, 8, 8, 8, 8, 8, 8, 8, 8, 8, 8, 8, 8, 8, 8, 8, 8, 8, 8, 8, 8, 8, 8, 8, 8, 8, 8, 8, 8, 8, 8, 8, 8, 8, 8, 8, 8, 8] : List UInt8).length : Int)) ∧
 (InI (byt ([0, 1, 2, 2, 3, 3, 3, 3, 4, 4, 4, 4, 4, 4, 4, 4, 5, 5, 5, 5, 5, 5, 5, 5, 5, 5, 5, 5, 5, 5, 5, 5, 6, 6, 6, 6, 6, 6, 6, 6, 6, 6, 6, 6, 6, 6, 6, 6, 6, 6, 6, 6, 6, 6, 6, 6, 6, 6, 6, 6, 6, 6, 6, 6, 7, 7, 7, 7, 7, 7, 7, 7, 7, 7, 7, 7, 7, 7, 7, 7, 7, 7, 7, 7, 7, 7, 7, 7, 7, 7, 7, 7, 7, 7, 7, 7, 7, 7, 7, 7, 7, 7, 7, 7, 7, 7, 7, 7, 7, 7, 7, 7, 7, 7, 7, 7, 7, 7, 7, 7, 7, 7, 7, 7, 7, 7, 7, 7, 8, 8, 8, 8, 8, 8, 8, 8, 8, 8, 8, 8, 8, 8, 8, 8, 8, 8, 8, 8, 8, 8, 8, 8, 8, 8, 8, 8, 8, 8, 8, 8, 8, 8, 8, 8, 8, 8, 8, 8, 8, 8, 8, 8, 8, 8, 8, 8, 8, 8, 8, 8, 8, 8, 8, 8, 8, 8, 8, 8, 8, 8, 8, 8, 8, 8, 8, 8, 8, 8, 8, 8, 8, 8, 8, 8, 8, 8, 8, 8, 8, 8, 8, 8, 8, 8, 8, 8, 8, 8, 8, 8, 8, 8, 8, 8, 8, 8, 8, 8, 8, 8, 8, 8, 8, 8, 8, 8, 8, 8, 8, 8, 8, 8, 8, 8, 8, 8, 8, 8, 8, 8, 8, 8, 8, 8, 8, 8] : List UInt8) x)) ∧
 (InI (0 + (byt ([0, 1, 2, 2, 3, 3, 3, 3, 4, 4, 4, 4, 4, 4, 4, 4, 5, 5, 5, 5, 5, 5, 5, 5, 5, 5, 5, 5, 5, 5, 5, 5, 6, 6, 6, 6, 6, 6, 6, 6, 6, 6, 6, 6, 6, 6, 6, 6, 6, 6, 6, 6, 6, 6, 6, 6, 6, 6, 6, 6, 6, 6, 6, 6, 7, 7, 7, 7, 7, 7, 7, 7, 7, 7, 7, 7, 7, 7, 7, 7, 7, 7, 7, 7, 7, 7, 7, 7, 7, 7, 7, 7, 7, 7, 7, 7, 7, 7, 7, 7, 7, 7, 7, 7, 7, 7, 7, 7, 7, 7, 7, 7, 7, 7, 7, 7, 7, 7, 7, 7, 7, 7, 7, 7, 7, 7, 7, 7, 8, 8, 8, 8, 8, 8, 8, 8, 8, 8, 8, 8, 8, 8, 8, 8, 8, 8, 8, 8, 8, 8, 8, 8, 8, 8, 8, 8, 8, 8, 8, 8, 8, 8, 8, 8, 8, 8, 8, 8, 8, 8, 8, 8, 8, 8, 8, 8, 8, 8, 8, 8, 8, 8, 8, 8, 8, 8, 8, 8, 8, 8, 8, 8, 8, 8, 8, 8, 8, 8, 8, 8, 8, 8, 8, 8, 8, 8, 8, 8, 8, 8, 8, 8, 8, 8, 8, 8, 8, 8, 8, 8, 8, 8, 8, 8, 8, 8, 8, 8, 8, 8, 8, 8, 8, 8, 8, 8, 8, 8, 8, 8, 8, 8, 8, 8, 8, 8, 8, 8, 8, 8, 8, 8, 8, 8, 8, 8] : List UInt8) x))) ∧
 Q (0 + (byt ([0, 1, 2, 2, 3, 3, 3, 3, 4, 4, 4, 4, 4, 4, 4, 4, 5, 5, 5, 5, 5, 5, 5, 5, 5, 5, 5, 5, 5, 5, 5, 5, 6, 6, 6, 6, 6, 6, 6, 6, 6, 6, 6, 6, 6, 6, 6, 6, 6, 6, 6, 6, 6, 6, 6, 6, 6, 6, 6, 6, 6, 6, 6, 6, 7, 7, 7, 7, 7, 7, 7, 7, 7, 7, 7, 7, 7, 7, 7, 7, 7, 7, 7, 7, 7, 7, 7, 7, 7, 7, 7, 7, 7, 7, 7, 7, 7, 7, 7, 7, 7, 7, 7, 7, 7, 7, 7, 7, 7, 7, 7, 7, 7, 7, 7, 7, 7, 7, 7, 7, 7, 7, 7, 7, 7, 7, 7, 7, 8, 8, 8, 8, 8, 8, 8, 8, 8, 8, 8, 8, 8, 8, 8, 8, 8, 8, 8, 8, 8, 8, 8, 8, 8, 8, 8, 8, 8, 8, 8, 8, 8, 8, 8, 8, 8, 8, 8, 8, 8, 8, 8, 8, 8, 8, 8, 8, 8, 8, 8, 8, 8, 8, 8, 8, 8, 8, 8, 8, 8, 8, 8, 8, 8, 8, 8, 8, 8, 8, 8, 8, 8, 8, 8, 8, 8, 8, 8, 8, 8, 8, 8, 8, 8, 8, 8, 8, 8, 8, 8, 8, 8, 8, 8, 8, 8, 8, 8, 8, 8, 8, 8, 8, 8, 8, 8, 8, 8, 8, 8, 8, 8, 8, 8, 8, 8, 8, 8, 8, 8, 8, 8, 8, 8, 8, 8, 8] : List UInt8) x))))))))

def wp_math_bits_Len (x : Int) (Q : Int → Prop) : Prop :=
 (0 ≤ x ∧ x ≤ 12) ∧
 ∀ (r1_0 : Int), (0 ≤ r1_0 ∧ r1_0 ≤ 300) →
 Q r1_0

def wp_slices_insertionSortCmpFunc___int64_ (x : List (List Int)) (a : Int) (b : Int) (cmp : List Int → List Int → Int) (cmp_D : List Int → List Int → Prop) (Q : List (List Int) → Prop) : Prop :=
 (InI (a + 1)) ∧
 ∃ (H1 : Int → List (List Int) → Prop) (m1 : Int → List (List Int) → Nat),
 H1 (a + 1) x ∧
 ∀ (v8_1 : Int) (o800_1 : List (List Int)), H1 v8_1 o800_1 →
 ( ((v8_1 < b →
 ∃ (H2 : Int → List (List Int) → Prop) (m2 : Int → List (List Int) → Nat),
 H2 v8_1 o800_1 ∧
 ∀ (v9_2 : Int) (o800_2 : List (List Int)), H2 v9_2 o800_2 →
 ( ((a < v9_2 →
 (0 ≤ v9_2 ∧ v9_2 < (o800_2.length : Int)) ∧
 (InI (v9_2 - 1)) ∧
 (0 ≤ v9_2 - 1 ∧ v9_2 - 1 < (o800_2.length : Int)) ∧
 (cmp_D (el o800_2 v9_2) (el o800_2 (v9_2 - 1))) ∧
 ((cmp (el o800_2 v9_2) (el o800_2 (v9_2 - 1)) < 0 →
 (InI (v9_2 - 1)) ∧
 (InI (v9_2 - 1)) ∧
 (0 ≤ v9_2 - 1 ∧ v9_2 - 1 < (o800_2.length : Int)) ∧
 (0 ≤ v9_2 ∧ v9_2 < (o800_2.length : Int)) ∧
 (0 ≤ v9_2 ∧ v9_2 < (o800_2.length : Int)) ∧
 (0 ≤ v9_2 - 1 ∧ v9_2 - 1 < ((se o800_2 v9_2 (el o800_2 (v9_2 - 1))).length : Int)) ∧
 (InI (v9_2 - 1)) ∧
 (H2 (v9_2 - 1) (se (se o800_2 v9_2 (el o800_2 (v9_2 - 1))) (v9_2 - 1) (el o800_2 v9_2)) ∧ m2 (v9_2 - 1) (se (se o800_2 v9_2 (el o800_2 (v9_2 - 1))) (v9_2 - 1) (el o800_2 v9_2)) < m2 v9_2 o800_2)) ∧
 (¬ (cmp (el o800_2 v9_2) (el o800_2 (v9_2 - 1)) < 0) →
 (InI (v8_1 + 1)) ∧
 (H1 (v8_1 + 1) o800_2 ∧ m1 (v8_1 + 1) o800_2 < m1 v8_1 o800_1)))) ∧
 (¬ (a < v9_2) →
 (InI (v8_1 + 1)) ∧
 (H1 (v8_1 + 1) o800_2 ∧ m1 (v8_1 + 1) o800_2 < m1 v8_1 o800_1))))) ∧
 (¬ (v8_1 < b) →
 Q o800_1)))

def wp_slices_pdqsortCmpFunc___int64_ (x : List (List Int)) (a : Int) (b : Int) (_limit : Int) (cmp : List Int → List Int → Int) (cmp_D : List Int → List Int → Prop) (Q : List (List Int) → Prop) : Prop :=
 (InI (b - a)) ∧
 ((b - a ≤ 12 →
 (a = 0 ∧ b = (x.length : Int) ∧ cmp = cmpG cmp1 ∧ (x.length : Int) ≤ 12 ∧ small2 x ∧ ∀ a_ b_ : List Int, small a_ → small b_ → cmp_D a_ b_) ∧
 ∀ (o1_0 : List (List Int)), (o1_0.Perm x ∧ ∀ i_ : Int, 0 ≤ i_ → i_ + 1 < (o1_0.length : Int) → ¬ cmpG cmp1 (el o1_0 (i_ + 1)) (el o1_0 i_) < 0) →
 Q o1_0) ∧
 (¬ (b - a ≤ 12) →
 False))

def wp_slices_SortFunc_____int64___int64_ (x : List (List Int)) (cmp : List Int → List Int → Int) (cmp_D : List Int → List Int → Prop) (Q : List (List Int) → Prop) : Prop :=
 ((0 : Int) ≤ (x.length : Int) ∧ (x.length : Int) ≤ 18446744073709551615) ∧
 (0 ≤ (x.length : Int) ∧ (x.length : Int) ≤ 12) ∧
 ∀ (r1_0 : Int), (0 ≤ r1_0 ∧ r1_0 ≤ 300) →
 ((0 : Int) = 0 ∧ (x.length : Int) = (x.length : Int) ∧ cmp = cmpG cmp1 ∧ (x.length : Int) ≤ 12 ∧ small2 x ∧ ∀ a_ b_ : List Int, small a_ → small b_ → cmp_D a_ b_) ∧
 ∀ (o2_0 : List (List Int)), (o2_0.Perm x ∧ ∀ i_ : Int, 0 ≤ i_ → i_ + 1 < (o2_0.length : Int) → ¬ cmpG cmp1 (el o2_0 (i_ + 1)) (el o2_0 i_) < 0) →
 Q o2_0

def wp_spec_l03Search (lists : List (List Int)) (list : List Int) (Q : Int → Prop) : Prop :=
 ∃ (H1 : Int → Int → Prop) (m1 : Int → Int → Nat),
 H1 0 (lists.length : Int) ∧
 ∀ (v5_1 : Int) (v6_1 : Int), H1 v5_1 v6_1 →
 ( ((v5_1 < v6_1 →
 (InI (v5_1 + v6_1)) ∧
 ((0 : Int) ≤ v5_1 + v6_1 ∧ (0 : Int) < 2 ∧ v5_1 + v6_1 ≤ 9223372036854775807) ∧
 (0 ≤ (v5_1 + v6_1) / 2 ∧ (v5_1 + v6_1) / 2 < (lists.length : Int)) ∧
 (small (el lists ((v5_1 + v6_1) / 2)) ∧ small list) ∧
 ((cmpG cmp1 (el lists ((v5_1 + v6_1) / 2)) list < 0 →
 (InI (((v5_1 + v6_1) / 2) + 1)) ∧
 (H1 (((v5_1 + v6_1) / 2) + 1) v6_1 ∧ m1 (((v5_1 + v6_1) / 2) + 1) v6_1 < m1 v5_1 v6_1)) ∧
 (¬ (cmpG cmp1 (el lists ((v5_1 + v6_1) / 2)) list < 0) →
 (H1 v5_1 ((v5_1 + v6_1) / 2) ∧ m1 v5_1 ((v5_1 + v6_1) / 2) < m1 v5_1 v6_1)))) ∧
 (¬ (v5_1 < v6_1) →
 Q v5_1)))

def wp_impl_ClassQuandle (p : List Int) (Q : List (List Int) → Int → Prop) : Prop :=
 (small p) ∧
 (((permB p) = false →
 Q ([]) 1) ∧
 ((permB p) = true →
 ((7 < (p.length : Int) →
 Q ([]) 3) ∧
 (¬ (7 < (p.length : Int)) →
 (0 ≤ (p.length : Int) ∧ (p.length : Int) ≤ 12) ∧
 ∃ (H1 : Nat → (List (List Int)) → Prop), H1 0 ([] : List (List Int)) ∧
 ((∀ (k1 : Nat) (f4_0_1 : List (List Int)) (e1 : List Int), (growL (p.length : Int) [])[k1]? = some e1 → H1 k1 f4_0_1 →
 (cjD e1 p) ∧
 (small2 f4_0_1 ∧ small (conjI e1 p)) ∧
 ((idxL f4_0_1 (conjI e1 p) < 0 →
 ((f4_0_1.length : Int) + (([conjI e1 p]).length : Int) ≤ 1000000000) ∧
 ((12 < ((f4_0_1 ++ ([conjI e1 p])).length : Int) →
 Q ([]) 3) ∧
 (¬ (12 < ((f4_0_1 ++ ([conjI e1 p])).length : Int)) →
 H1 (k1 + 1) (f4_0_1 ++ ([conjI e1 p]))))) ∧
 (¬ (idxL f4_0_1 (conjI e1 p) < 0) →
 ((12 < (f4_0_1.length : Int) →
 Q ([]) 3) ∧
 (¬ (12 < (f4_0_1.length : Int)) →
 H1 (k1 + 1) f4_0_1))))) ∧
 (∀ (f4_0_1 : List (List Int)), H1 (growL (p.length : Int) []).length f4_0_1 →
 ((fun z0 z1 => cmpG cmp1 z0 z1) = cmpG cmp1 ∧ (f4_0_1.length : Int) ≤ 12 ∧ small2 f4_0_1 ∧ ∀ a_ b_ : List Int, small a_ → small b_ → (fun z0 z1 => small z0 ∧ small z1) a_ b_) ∧
 ∀ (o1_0 : List (List Int)), (o1_0.Perm f4_0_1 ∧ ∀ i_ : Int, 0 ≤ i_ → i_ + 1 < (o1_0.length : Int) → ¬ cmpG cmp1 (el o1_0 (i_ + 1)) (el o1_0 i_) < 0) →
 (small2 o1_0) ∧
 Q (CjqT o1_0) (CjqE o1_0)))))))

def wp_spec_ClassQuandle (p : List Int) (Q : List (List Int) → Int → Prop) : Prop :=
 (small p) ∧
 (((permB p) = false →
 Q ([]) 1) ∧
 ((permB p) = true →
 ((7 < (p.length : Int) →
 Q ([]) 3) ∧
 (¬ (7 < (p.length : Int)) →
 (0 ≤ (p.length : Int) ∧ (p.length : Int) ≤ 8) ∧
 ∃ (H1 : Int → List (List Int) → Prop) (m1 : Int → List (List Int) → Nat),
 H1 0 ([] : List (List Int)) ∧
 ∀ (v6_1 : Int) (o23_1 : List (List Int)), H1 v6_1 o23_1 →
 ( ((v6_1 < ((growL (p.length : Int) []).length : Int) →
 (((o23_1.length : Int) ≤ 12 →
 (0 ≤ v6_1 ∧ v6_1 < ((growL (p.length : Int) []).length : Int)) ∧
 (cjD (el (growL (p.length : Int) []) v6_1) p) ∧
 (small2 o23_1 ∧ small (conjI (el (growL (p.length : Int) []) v6_1) p)) ∧
 ∀ (r1_0 : Int), ((0 ≤ r1_0 ∧ r1_0 ≤ (o23_1.length : Int)) ∧ (0 < r1_0 → cmpG cmp1 (el o23_1 (r1_0 - 1)) (conjI (el (growL (p.length : Int) []) v6_1) p) < 0) ∧ (r1_0 < (o23_1.length : Int) → ¬ cmpG cmp1 (el o23_1 r1_0) (conjI (el (growL (p.length : Int) []) v6_1) p) < 0)) →
 ((r1_0 = (o23_1.length : Int) →
 (0 ≤ r1_0 ∧ r1_0 ≤ (o23_1.length : Int) ∧ (o23_1.length : Int) ≤ (o23_1.length : Int)) ∧
 ((([conjI (el (growL (p.length : Int) []) v6_1) p]).length : Int) + ((sl o23_1 r1_0 (o23_1.length : Int)).length : Int) ≤ 1000000000) ∧
 ((0 : Int) ≤ 0 ∧ 0 ≤ r1_0 ∧ r1_0 ≤ (o23_1.length : Int)) ∧
 ((([] : List (List Int)).length : Int) + ((sl o23_1 0 r1_0).length : Int) ≤ 1000000000) ∧
 (((([] : List (List Int)) ++ (sl o23_1 0 r1_0)).length : Int) + ((([conjI (el (growL (p.length : Int) []) v6_1) p]) ++ (sl o23_1 r1_0 (o23_1.length : Int))).length : Int) ≤ 1000000000) ∧
 (InI (v6_1 + 1)) ∧
 (H1 (v6_1 + 1) ((([] : List (List Int)) ++ (sl o23_1 0 r1_0)) ++ (([conjI (el (growL (p.length : Int) []) v6_1) p]) ++ (sl o23_1 r1_0 (o23_1.length : Int)))) ∧ m1 (v6_1 + 1) ((([] : List (List Int)) ++ (sl o23_1 0 r1_0)) ++ (([conjI (el (growL (p.length : Int) []) v6_1) p]) ++ (sl o23_1 r1_0 (o23_1.length : Int)))) < m1 v6_1 o23_1)) ∧
 (¬ (r1_0 = (o23_1.length : Int)) →
 (0 ≤ r1_0 ∧ r1_0 < (o23_1.length : Int)) ∧
 (small (el o23_1 r1_0) ∧ small (conjI (el (growL (p.length : Int) []) v6_1) p)) ∧
 ((¬ ((el o23_1 r1_0) = (conjI (el (growL (p.length : Int) []) v6_1) p)) →
 (0 ≤ r1_0 ∧ r1_0 ≤ (o23_1.length : Int) ∧ (o23_1.length : Int) ≤ (o23_1.length : Int)) ∧
 ((([conjI (el (growL (p.length : Int) []) v6_1) p]).length : Int) + ((sl o23_1 r1_0 (o23_1.length : Int)).length : Int) ≤ 1000000000) ∧
 ((0 : Int) ≤ 0 ∧ 0 ≤ r1_0 ∧ r1_0 ≤ (o23_1.length : Int)) ∧
 ((([] : List (List Int)).length : Int) + ((sl o23_1 0 r1_0).length : Int) ≤ 1000000000) ∧
 (((([] : List (List Int)) ++ (sl o23_1 0 r1_0)).length : Int) + ((([conjI (el (growL (p.length : Int) []) v6_1) p]) ++ (sl o23_1 r1_0 (o23_1.length : Int))).length : Int) ≤ 1000000000) ∧
 (InI (v6_1 + 1)) ∧
 (H1 (v6_1 + 1) ((([] : List (List Int)) ++ (sl o23_1 0 r1_0)) ++ (([conjI (el (growL (p.length : Int) []) v6_1) p]) ++ (sl o23_1 r1_0 (o23_1.length : Int)))) ∧ m1 (v6_1 + 1) ((([] : List (List Int)) ++ (sl o23_1 0 r1_0)) ++ (([conjI (el (growL (p.length : Int) []) v6_1) p]) ++ (sl o23_1 r1_0 (o23_1.length : Int)))) < m1 v6_1 o23_1)) ∧
 ((el o23_1 r1_0) = (conjI (el (growL (p.length : Int) []) v6_1) p) →
 (InI (v6_1 + 1)) ∧
 (H1 (v6_1 + 1) o23_1 ∧ m1 (v6_1 + 1) o23_1 < m1 v6_1 o23_1)))))) ∧
 (¬ ((o23_1.length : Int) ≤ 12) →
 ((12 < (o23_1.length : Int) →
 Q ([]) 3) ∧
 (¬ (12 < (o23_1.length : Int)) →
 (GoodL o23_1 ∧ (o23_1.length : Int) ≤ 12) ∧
 Q (cjT o23_1) 0))))) ∧
 (¬ (v6_1 < ((growL (p.length : Int) []).length : Int)) →
 ((12 < (o23_1.length : Int) →
 Q ([]) 3) ∧
 (¬ (12 < (o23_1.length : Int)) →
 (GoodL o23_1 ∧ (o23_1.length : Int) ≤ 12) ∧
 Q (cjT o23_1) 0)))))))))

theorem byt_bd (s : List UInt8) (z : Int) : 0 ≤ byt s z ∧ byt s z ≤ 255 := by
  unfold byt
  have := (s.getD z.toNat 0).toNat_lt
  omega
theorem len_aux (s : List UInt8) (h : s.length = 256) (x : Int) (hp : 0 ≤ x ∧ x ≤ 12) : (0 ≤ x ∧ x < (s.length : Int)) ∧ InI (byt s x) ∧ InI (0 + byt s x) ∧ 0 ≤ 0 + byt s x ∧ 0 + byt s x ≤ 300 := by
  have h := byt_bd s x
  exact ⟨by omega, ⟨by omega, by omega⟩, ⟨by omega, by omega⟩, by omega, by omega⟩
set_option maxRecDepth 100000 in
theorem p_math_bits_Len64 (x : Int) (hp : 0 ≤ x ∧ x ≤ 12) : wp_math_bits_Len64 x (fun y0 => 0 ≤ y0 ∧ y0 ≤ 300) := by
  unfold wp_math_bits_Len64
  exact ⟨fun h => by omega, fun _ => ⟨fun h => by omega, fun _ => ⟨fun h => by omega, fun _ => ⟨by omega, len_aux _ (by rfl) x hp⟩⟩⟩⟩
theorem p_math_bits_Len (x : Int) (hp : 0 ≤ x ∧ x ≤ 12) : wp_math_bits_Len x (fun y0 => 0 ≤ y0 ∧ y0 ≤ 300) := ⟨hp, fun _ h => h⟩
theorem swap_nb {α : Type} [Inhabited α] {o : List α} {j : Int} (hj : 1 ≤ j ∧ j < (o.length : Int)) : (se (se o j (el o (j - 1))) (j - 1) (el o j)).Perm o := by
  have e : o = o.take (j - 1).toNat ++ el o (j - 1) :: el o j :: o.drop (j.toNat + 1) := by
    have h1 := drop_el (l := o) (i := j - 1) ⟨by omega, by omega⟩
    have h2 := drop_el (l := o) (i := j) ⟨by omega, hj.2⟩
    rw [show (j - 1).toNat + 1 = j.toNat by omega, h2] at h1
    rw [← h1, List.take_append_drop]
  have hl : ((o.take (j - 1).toNat).length : Int) = j - 1 := by simp; omega
  generalize el o (j - 1) = u at *
  generalize el o j = v at *
  generalize o.take (j - 1).toNat = A at *
  generalize o.drop (j.toNat + 1) = B at *
  subst e
  have s1 : se (A ++ u :: v :: B) j u = A ++ u :: u :: B := by
    have := se_app (a := A ++ [u]) (b := B) (x := v) (v := u) (i := j) (by simp; omega)
    simpa using this
  rw [s1, se_app (by omega)]
  exact List.Perm.append_left A (List.Perm.swap u v B)
theorem swap_nb_el {α : Type} [Inhabited α] {o : List α} {j m : Int} (hj : 1 ≤ j ∧ j < (o.length : Int)) (hm : 0 ≤ m) : el (se (se o j (el o (j - 1))) (j - 1) (el o j)) m = if m = j - 1 then el o j else if m = j then el o (j - 1) else el o m := by
  split
  · rename_i h; subst h; rw [el_se_same ⟨by omega, by simp; omega⟩]
  · rename_i h
    rw [el_se_ne (by omega) hm (Ne.symm h)]
    split
    · rename_i h2; subst h2; rw [el_se_same ⟨by omega, by omega⟩]
    · rename_i h2; rw [el_se_ne (by omega) hm (Ne.symm h2)]
theorem p_slices_insertionSortCmpFunc___int64_ (x : List (List Int)) (a b : Int) (cmp : List Int → List Int → Int) (cmp_D : List Int → List Int → Prop) (hp : a = 0 ∧ b = (x.length : Int) ∧ cmp = cmpG cmp1 ∧ (x.length : Int) ≤ 12 ∧ small2 x ∧ ∀ a_ b_ : List Int, small a_ → small b_ → cmp_D a_ b_) :
    wp_slices_insertionSortCmpFunc___int64_ x a b cmp cmp_D (fun w0 => w0.Perm x ∧ ∀ i_ : Int, 0 ≤ i_ → i_ + 1 < (w0.length : Int) → ¬ cmpG cmp1 (el w0 (i_ + 1)) (el w0 i_) < 0) := by
  obtain ⟨rfl, rfl, rfl, hl, hs, hD⟩ := hp
  unfold wp_slices_insertionSortCmpFunc___int64_
  have hsm : ∀ {o : List (List Int)}, o.Perm x → ∀ {i : Int}, 0 ≤ i ∧ i < (o.length : Int) → small (el o i) := fun h i hi => hs.2 _ (h.mem_iff.1 (el_mem hi))
  refine ⟨⟨by omega, by omega⟩, fun i o => 1 ≤ i ∧ o.Perm x ∧ (i ≤ (x.length : Int) ∨ i = 1) ∧ ∀ m, 1 ≤ m → m < i → ¬ cmpG cmp1 (el o m) (el o (m - 1)) < 0, fun i _ => ((x.length : Int) - i).toNat, ⟨by omega, List.Perm.refl _, by omega, fun m _ _ => by omega⟩, ?_⟩
  rintro i o ⟨i1, hP, i2, hS⟩
  dsimp only
  refine ⟨fun ilt => ?_, fun ige => ⟨hP, fun k k0 k1 => ?_⟩⟩
  · refine ⟨fun j q => 0 ≤ j ∧ j ≤ i ∧ q.Perm x ∧ (∀ m, 1 ≤ m → m ≤ i → m ≠ j → ¬ cmpG cmp1 (el q m) (el q (m - 1)) < 0) ∧ (1 ≤ j → j < i → ¬ cmpG cmp1 (el q (j + 1)) (el q (j - 1)) < 0), fun j _ => j.toNat,
      ⟨by omega, by omega, hP, fun m m1 m2 hne => hS m m1 (by omega), fun _ h => by omega⟩, ?_⟩
    rintro j q ⟨j0, j1, hQ, hA, hB⟩
    dsimp only
    have hql : (q.length : Int) = (x.length : Int) := by rw [hQ.length_eq]
    have next : (∀ m, 1 ≤ m → m < i + 1 → ¬ cmpG cmp1 (el q m) (el q (m - 1)) < 0) → InI (i + 1) ∧ ((1 ≤ i + 1 ∧ q.Perm x ∧ (i + 1 ≤ (x.length : Int) ∨ i + 1 = 1) ∧ ∀ m, 1 ≤ m → m < i + 1 → ¬ cmpG cmp1 (el q m) (el q (m - 1)) < 0) ∧ ((x.length : Int) - (i + 1)).toNat < ((x.length : Int) - i).toNat) := fun h =>
      ⟨⟨by omega, by omega⟩, ⟨by omega, hQ, by omega, h⟩, by omega⟩
    refine ⟨fun jlt => ⟨⟨by omega, by omega⟩, ⟨by omega, by omega⟩, ⟨by omega, by omega⟩, hD _ _ (hsm hQ ⟨by omega, by omega⟩) (hsm hQ ⟨by omega, by omega⟩), fun hc => ?_, fun hc => next fun m m1 m2 => ?_⟩, fun jge => next fun m m1 m2 => hA m m1 (by omega) (by omega)⟩
    · refine ⟨⟨by omega, by omega⟩, ⟨by omega, by omega⟩, ⟨by omega, by omega⟩, ⟨by omega, by omega⟩, ⟨by omega, by omega⟩, ⟨by omega, by simp; omega⟩, ⟨by omega, by omega⟩, ⟨by omega, by omega, (swap_nb ⟨by omega, by omega⟩).trans hQ, fun m m1 m2 hne => ?_, fun h1 h2 => ?_⟩, by omega⟩
      · rw [swap_nb_el ⟨by omega, by omega⟩ (by omega), swap_nb_el ⟨by omega, by omega⟩ (by omega), if_neg hne]
        by_cases e : m = j
        · subst e
          rw [if_pos rfl, if_pos rfl, cmp_anti]; omega
        · rw [if_neg e, if_neg (by omega)]
          by_cases e2 : m = j + 1
          · subst e2
            rw [if_pos (by omega)]
            exact hB (by omega) (by omega)
          · rw [if_neg (by omega)]
            exact hA m m1 m2 e
      · rw [swap_nb_el ⟨by omega, by omega⟩ (by omega), swap_nb_el ⟨by omega, by omega⟩ (by omega), if_neg (by omega), if_pos (by omega), if_neg (by omega), if_neg (by omega)]
        have := hA (j - 1) (by omega) (by omega) (by omega)
        exact this
    · by_cases e : m = j
      · subst e; exact hc
      · exact hA m m1 (by omega) e
  · have := hS (k + 1) (by omega) (by have := hP.length_eq; omega)
    rwa [Int.add_sub_cancel] at this
theorem p_slices_pdqsortCmpFunc___int64_ (x : List (List Int)) (a b limit : Int) (cmp : List Int → List Int → Int) (cmp_D : List Int → List Int → Prop) (hp : a = 0 ∧ b = (x.length : Int) ∧ cmp = cmpG cmp1 ∧ (x.length : Int) ≤ 12 ∧ small2 x ∧ ∀ a_ b_ : List Int, small a_ → small b_ → cmp_D a_ b_) :
    wp_slices_pdqsortCmpFunc___int64_ x a b limit cmp cmp_D (fun w0 => w0.Perm x ∧ ∀ i_ : Int, 0 ≤ i_ → i_ + 1 < (w0.length : Int) → ¬ cmpG cmp1 (el w0 (i_ + 1)) (el w0 i_) < 0) := by
  have h := hp
  obtain ⟨rfl, rfl, -, hl, -⟩ := h
  exact ⟨⟨by omega, by omega⟩, fun _ => ⟨hp, fun _ h => h⟩, fun h => by omega⟩
theorem p_slices_SortFunc_____int64___int64_ (x : List (List Int)) (cmp : List Int → List Int → Int) (cmp_D : List Int → List Int → Prop) (hp : cmp = cmpG cmp1 ∧ (x.length : Int) ≤ 12 ∧ small2 x ∧ ∀ a_ b_ : List Int, small a_ → small b_ → cmp_D a_ b_) :
    wp_slices_SortFunc_____int64___int64_ x cmp cmp_D (fun w0 => w0.Perm x ∧ ∀ i_ : Int, 0 ≤ i_ → i_ + 1 < (w0.length : Int) → ¬ cmpG cmp1 (el w0 (i_ + 1)) (el w0 i_) < 0) := by
  have hl := hp.2.1
  exact ⟨⟨by omega, by omega⟩, ⟨by omega, hl⟩, fun _ _ => ⟨⟨rfl, rfl, hp⟩, fun _ h => h⟩⟩
theorem p_spec_l03Search (lists : List (List Int)) (list : List Int) (hp : small2 lists ∧ small list) : wp_spec_l03Search lists list (fun y0 => (0 ≤ y0 ∧ y0 ≤ (lists.length : Int)) ∧ (0 < y0 → cmpG cmp1 (el lists (y0 - 1)) list < 0) ∧ (y0 < (lists.length : Int) → ¬ cmpG cmp1 (el lists y0) list < 0)) := by
  unfold wp_spec_l03Search
  have hs : (lists.length : Int) ≤ 1000000000 := hp.1.1
  refine ⟨fun l h => (0 ≤ l ∧ l ≤ h ∧ h ≤ (lists.length : Int)) ∧ (0 < l → cmpG cmp1 (el lists (l - 1)) list < 0) ∧ (h < (lists.length : Int) → ¬ cmpG cmp1 (el lists h) list < 0), fun l h => (h - l).toNat, ⟨⟨by omega, by omega, by omega⟩, fun h => by omega, fun h => by omega⟩, ?_⟩
  rintro l h ⟨⟨h0, h1, h2⟩, hA, hB⟩
  dsimp only
  refine ⟨fun lt => ?_, fun ge => ⟨⟨h0, by omega⟩, hA, by rw [show l = h by omega]; exact hB⟩⟩
  have g1 : l ≤ (l + h) / 2 := by omega
  have g2 : (l + h) / 2 < h := by omega
  generalize (l + h) / 2 = m at *
  exact ⟨⟨by omega, by omega⟩, ⟨by omega, by omega, by omega⟩, ⟨by omega, by omega⟩, ⟨hp.1.2 _ (el_mem ⟨by omega, by omega⟩), hp.2⟩, fun hc => ⟨⟨by omega, by omega⟩, ⟨⟨by omega, by omega, by omega⟩, fun _ => by rw [Int.add_sub_cancel]; exact hc, hB⟩, by omega⟩, fun hc => ⟨⟨⟨by omega, by omega, by omega⟩, hA, fun _ => hc⟩, by omega⟩⟩
theorem cls_pre {p q : List Int} (hp : permB p = true) {k : Nat} (hq : (growL (p.length : Int) [])[k]? = some q) : cjD q p ∧ q.length = p.length ∧ isPerm q = true ∧ conjI q p ∈ clsL p ∧ (conjI q p).length = p.length := by
  have h1 := (grow_iff (n := (p.length : Int)) (by omega)).1 (List.mem_of_getElem? hq)
  have h2 := permB_len hp
  refine ⟨⟨by show _ ≤ (1000000000 : Int); omega, h1.2, by omega, permB_isPerm hp⟩, by omega, h1.2, cls_mem.2 ⟨q, ⟨by omega, h1.2⟩, rfl⟩, by rw [cj_len]; omega⟩
theorem cls_small {p : List Int} (hp : permB p = true) {o : List (List Int)} (h : ∀ z ∈ o, z ∈ clsL p) (hl : (o.length : Int) ≤ 13) : small2 o := ⟨by show _ ≤ (1000000000 : Int); omega, fun z hz => by
  have := cls_perm hp (h z hz); have := permB_len hp
  show _ ≤ (1000000000 : Int); omega⟩
theorem cls_seen {p q : List Int} {k : Nat} (hq : (growL (p.length : Int) [])[k]? = some q) {o : List (List Int)} (h : ∀ z, z ∈ o ↔ ∃ m, m < k ∧ ∃ r, (growL (p.length : Int) [])[m]? = some r ∧ conjI r p = z) {o' : List (List Int)} (h' : ∀ z, z ∈ o' ↔ z = conjI q p ∨ z ∈ o) :
    ∀ z, z ∈ o' ↔ ∃ m, m < k + 1 ∧ ∃ r, (growL (p.length : Int) [])[m]? = some r ∧ conjI r p = z := fun z => by
  rw [h', h]
  constructor
  · rintro (rfl | ⟨m, hm, e⟩)
    · exact ⟨k, by omega, q, hq, rfl⟩
    · exact ⟨m, by omega, e⟩
  · rintro ⟨m, hm, r, hr, e⟩
    by_cases hmk : m = k
    · subst hmk; rw [hq] at hr; cases hr; exact .inl e.symm
    · exact .inr ⟨m, by omega, r, hr, e⟩
theorem cls_all {p : List Int} {k : Nat} (hk : (growL (p.length : Int) []).length ≤ k) {o : List (List Int)} (h : ∀ z, z ∈ o ↔ ∃ m, m < k ∧ ∃ r, (growL (p.length : Int) [])[m]? = some r ∧ conjI r p = z) : ∀ z, z ∈ o ↔ z ∈ clsL p := fun z => by
  rw [h, (cls_ex p).2]
  constructor
  · rintro ⟨m, _, r, hr, e⟩; exact ⟨r, List.mem_of_getElem? hr, e⟩
  · rintro ⟨q, hq, e⟩
    obtain ⟨m, hm⟩ := List.getElem?_of_mem hq
    exact ⟨m, by have := (List.getElem?_eq_some_iff.1 hm).1; omega, q, hm, e⟩
theorem p_impl_ClassQuandle (p : List Int) (hp : small p) : wp_impl_ClassQuandle p (fun y0 y1 => y0 = ClqT p ∧ y1 = ClqE p) := by
  unfold wp_impl_ClassQuandle
  refine ⟨hp, fun h => clq1 h, fun h => ⟨fun h2 => clq3 h (.inl h2), fun h2 => ⟨⟨by omega, by omega⟩, ?_⟩⟩⟩
  refine ⟨fun k f => (f.Nodup ∧ (f.length : Int) ≤ 12) ∧ (∀ z ∈ f, z ∈ clsL p) ∧ ∀ z, z ∈ f ↔ ∃ m, m < k ∧ ∃ r, (growL (p.length : Int) [])[m]? = some r ∧ conjI r p = z, ⟨⟨List.nodup_nil, by simp⟩, fun z h => by simp at h, fun z => by simp⟩, ?_, ?_⟩
  · rintro k f q hq ⟨⟨h3, h4⟩, h5, h6⟩
    obtain ⟨c1, c2, c3, c4, c5⟩ := cls_pre h hq
    refine ⟨c1, ⟨cls_small h h5 (by omega), small_cj c1.1⟩, fun hn => ?_, fun hn => ?_⟩
    · have hn := idxL_neg.1 hn
      have hnd : (f ++ [conjI q p]).Nodup := List.nodup_append.2 ⟨h3, by simp, fun a ha b hb e => by rw [List.mem_singleton.1 hb] at e; exact hn (e ▸ ha)⟩
      have hsub : ∀ z ∈ f ++ [conjI q p], z ∈ clsL p := mem_app h5 c4
      refine ⟨by simp; omega, fun hb => clq3 h (.inr ?_), fun hb => ⟨⟨hnd, by omega⟩, hsub, cls_seen hq h6 fun z => by simp [or_comm]⟩⟩
      have := cls_more hnd hsub
      omega
    · have hn : conjI q p ∈ f := Decidable.byContradiction fun k => hn (idxL_neg.2 k)
      exact ⟨fun hb => by omega, fun _ => ⟨⟨h3, h4⟩, h5, cls_seen hq h6 fun z => ⟨.inr, fun k => k.elim (fun e => e ▸ hn) id⟩⟩⟩
  · rintro f ⟨⟨h3, h4⟩, h5, h6⟩
    refine ⟨⟨rfl, h4, cls_small h h5 (by omega), fun _ _ a b => ⟨a, b⟩⟩, fun o ⟨o1, o2⟩ => ?_⟩
    have hm : ∀ z, z ∈ o ↔ z ∈ clsL p := fun z => o1.mem_iff.trans (cls_all (Nat.le_refl _) h6 z)
    have hl : ∀ z ∈ o, z.length = p.length := fun z hz => (cls_perm h ((hm z).1 hz)).2
    have hnd : o.Nodup := o1.nodup_iff.2 h3
    have hS : LexS p.length o := ⟨adj_lex hl fun i i0 i1 => by
      have g1 := hl _ (el_mem (l := o) (i := i) ⟨i0, by omega⟩)
      have g2 := hl _ (el_mem (l := o) (i := i + 1) ⟨by omega, i1⟩)
      rcases lexL_total (a := el o i) (b := el o (i + 1)) (by omega) (nodup_el.1 hnd i (i + 1) i0 (by omega) i1) with k | k
      · exact k
      · exact absurd ((cmp_lex (by omega)).2 k) (o2 i i0 i1), hl⟩
    have e : o = clsL p := lexS_uniq hS (cls_ex p).1 hm
    subst e
    have hle : ((clsL p).length : Int) ≤ 12 := by rw [o1.length_eq]; exact h4
    have hq := cls_cjq h hle
    have h0 := clq0 h h2 hle
    refine ⟨cls_small h (fun _ h => h) (by omega), ?_⟩
    rw [hq.1, hq.2]; exact h0
theorem p_spec_ClassQuandle (p : List Int) (hp : small p) : wp_spec_ClassQuandle p (fun y0 y1 => y0 = ClqT p ∧ y1 = ClqE p) := by
  unfold wp_spec_ClassQuandle
  refine ⟨hp, fun h => clq1 h, fun h => ⟨fun h2 => clq3 h (.inl h2), fun h2 => ⟨⟨by omega, by omega⟩, ?_⟩⟩⟩
  have hG : ((growL (p.length : Int) []).length : Int) ≤ 16777216 := growL_len8 ⟨by omega, by omega⟩
  refine ⟨fun i o => (0 ≤ i ∧ i ≤ ((growL (p.length : Int) []).length : Int)) ∧ (LexS p.length o ∧ (o.length : Int) ≤ 13) ∧ (∀ z ∈ o, z ∈ clsL p) ∧ ∀ z, z ∈ o ↔ ∃ m, m < i.toNat ∧ ∃ r, (growL (p.length : Int) [])[m]? = some r ∧ conjI r p = z, fun i _ => (((growL (p.length : Int) []).length : Int) - i).toNat,
    ⟨⟨by omega, by omega⟩, ⟨⟨List.Pairwise.nil, fun x h => by simp at h⟩, by simp⟩, fun z h => by simp at h, fun z => by simp⟩, ?_⟩
  rintro i o ⟨⟨i0, i1⟩, ⟨hS, h4⟩, h5, h6⟩
  dsimp only
  have big : 12 < (o.length : Int) → [] = ClqT p ∧ 3 = ClqE p := fun hb => clq3 h (.inr (by have := cls_more hS.nodup h5; omega))
  refine ⟨fun ilt => ⟨fun ile => ?_, fun hgt => ⟨big, fun hb => absurd (by omega) hgt⟩⟩, fun ige => ⟨big, fun hb => ?_⟩⟩
  · have hq : (growL (p.length : Int) [])[i.toNat]? = some (el (growL (p.length : Int) []) i) := by
      unfold el; rw [List.getD_eq_getElem?_getD, List.getElem?_eq_getElem (by omega)]; rfl
    generalize el (growL (p.length : Int) []) i = q at *
    obtain ⟨c1, c2, c3, c4, c5⟩ := cls_pre h hq
    have hsm := cls_small h h5 (by omega)
    refine ⟨⟨i0, ilt⟩, c1, ⟨hsm, small_cj c1.1⟩, fun r ⟨⟨r0, r1⟩, rA, rB⟩ => ?_⟩
    have hlen : ∀ {j : Int}, 0 ≤ j → j < (o.length : Int) → (el o j).length = (conjI q p).length := fun j0 j1 => by rw [hS.2 _ (el_mem ⟨j0, j1⟩), c5]
    have put : (r < (o.length : Int) → el o r ≠ conjI q p) → (0 ≤ r ∧ r ≤ (o.length : Int) ∧ (o.length : Int) ≤ (o.length : Int)) ∧ ((([conjI q p]).length : Int) + ((sl o r (o.length : Int)).length : Int) ≤ 1000000000) ∧ ((0 : Int) ≤ 0 ∧ 0 ≤ r ∧ r ≤ (o.length : Int)) ∧
        ((([] : List (List Int)).length : Int) + ((sl o 0 r).length : Int) ≤ 1000000000) ∧ (((([] : List (List Int)) ++ (sl o 0 r)).length : Int) + ((([conjI q p]) ++ (sl o r (o.length : Int))).length : Int) ≤ 1000000000) ∧ (InI (i + 1)) ∧
        (((0 ≤ i + 1 ∧ i + 1 ≤ ((growL (p.length : Int) []).length : Int)) ∧ (LexS p.length ((([] : List (List Int)) ++ (sl o 0 r)) ++ (([conjI q p]) ++ (sl o r (o.length : Int)))) ∧ (((([] : List (List Int)) ++ (sl o 0 r)) ++ (([conjI q p]) ++ (sl o r (o.length : Int)))).length : Int) ≤ 13) ∧ (∀ z ∈ (([] : List (List Int)) ++ (sl o 0 r)) ++ (([conjI q p]) ++ (sl o r (o.length : Int))), z ∈ clsL p) ∧
          ∀ z, z ∈ (([] : List (List Int)) ++ (sl o 0 r)) ++ (([conjI q p]) ++ (sl o r (o.length : Int))) ↔ ∃ m, m < (i + 1).toNat ∧ ∃ r, (growL (p.length : Int) [])[m]? = some r ∧ conjI r p = z) ∧ (((growL (p.length : Int) []).length : Int) - (i + 1)).toNat < (((growL (p.length : Int) []).length : Int) - i).toNat) := fun hne => by
      have l1 := length_sl (l := o) (a := 0) (b := r) ⟨by omega, r0, r1⟩
      have l2 := length_sl (l := o) (a := r) (b := (o.length : Int)) ⟨r0, r1, by omega⟩
      obtain ⟨P1, P2⟩ := lexS_put (k := r) hS c5 ⟨r0, r1⟩ (fun h0 => (cmp_lex (hlen (by omega) (by omega))).1 (rA h0)) (fun hlt => (lexL_total (hlen r0 hlt).symm (Ne.symm (hne hlt))).resolve_right fun k => rB hlt ((cmp_lex (hlen r0 hlt)).2 k))
      have e : (([] : List (List Int)) ++ (sl o 0 r)) ++ (([conjI q p]) ++ (sl o r (o.length : Int))) = sl o 0 r ++ conjI q p :: sl o r (o.length : Int) := by simp
      rw [e]
      refine ⟨⟨r0, r1, by omega⟩, by simp; omega, ⟨by omega, r0, r1⟩, by simp; omega, by simp; omega, ⟨by omega, by omega⟩, ⟨⟨by omega, by omega⟩, ⟨P1, by simp; omega⟩, fun z hz => ?_, ?_⟩, by omega⟩
      · rcases (P2 z).1 hz with rfl | hz
        · exact c4
        · exact h5 z hz
      · rw [show (i + 1).toNat = i.toNat + 1 by omega]
        exact cls_seen hq h6 P2
    refine ⟨fun he => put fun hlt => by omega, fun hne => ⟨⟨r0, by omega⟩, ⟨hsm.2 _ (el_mem ⟨r0, by omega⟩), small_cj c1.1⟩, fun hd => put fun _ => hd, fun he => ⟨⟨by omega, by omega⟩, ⟨⟨by omega, by omega⟩, ⟨hS, h4⟩, h5, ?_⟩, by omega⟩⟩⟩
    have hin : conjI q p ∈ o := by rw [← he]; exact el_mem ⟨r0, by omega⟩
    rw [show (i + 1).toNat = i.toNat + 1 by omega]
    exact cls_seen hq h6 fun z => ⟨.inr, fun k => k.elim (fun e => e ▸ hin) id⟩
  · have hm := cls_all (p := p) (k := i.toNat) (by omega) h6
    have e : o = clsL p := lexS_uniq hS (cls_ex p).1 hm
    subst e
    exact ⟨⟨cls_good h, by omega⟩, clq0 h h2 (by omega)⟩

set_option maxRecDepth 100000 in
set_option maxHeartbeats 4000000 in
theorem w_math_bits_Len64 (x : Int) (Q : Int → Prop) (h : wp_math_bits_Len64 x Q) : AF Try.prog 119 [cu x] (fun R_ => ∃ y0, Q y0 ∧ R_ = ci y0) := by
  refine AF.ofWQ (af_enter (n := 25) Try.func119 rfl (by rfl) rfl (Nat.le_of_ble_eq_true rfl) ?_)
  unfold wp_math_bits_Len64 at h
  refine aw_seq ?_
  refine aw_gh (gh_to (n := 25) (σ' := []) (env' := [(0, .c (cu x))]) rfl rfl ⟨rfl, trivial⟩) ?_
  refine aw_region ?_
  refine run_s (ss_assign rfl) rfl ?_
  refine run_nil ?_
  refine aw_seq ?_
  refine aw_seq ?_
  refine aw_region ?_
  refine run_s (ss_move rfl) rfl ?_
  refine run_s (ss_geq rfl rfl) rfl ?_
  refine run_nil ?_
  refine aw_cond rfl (fun q1 => ?_) (fun q1 => ?_)
  ·replace h := h.1 (of_decide_eq_true q1)
   exact h.elim
  ·replace h := h.2 (of_decide_eq_false q1)
   refine aw_skip ?_
   refine aw_seq ?_
   refine aw_seq ?_
   refine aw_region ?_
   refine run_s (ss_move rfl) rfl ?_
   refine run_s (ss_geq rfl rfl) rfl ?_
   refine run_nil ?_
   refine aw_cond rfl (fun q2 => ?_) (fun q2 => ?_)
   ·replace h := h.1 (of_decide_eq_true q2)
    exact h.elim
   ·replace h := h.2 (of_decide_eq_false q2)
    refine aw_skip ?_
    refine aw_seq ?_
    refine aw_seq ?_
    refine aw_region ?_
    refine run_s (ss_move rfl) rfl ?_
    refine run_s (ss_geq rfl rfl) rfl ?_
    refine run_nil ?_
    refine aw_cond rfl (fun q3 => ?_) (fun q3 => ?_)
    ·replace h := h.1 (of_decide_eq_true q3)
     exact h.elim
    ·replace h := h.2 (of_decide_eq_false q3)
     refine aw_skip ?_
     refine aw_seq ?_
     refine aw_region ?_
     refine run_s (ss_move rfl) rfl ?_
     refine run_s (ss_move rfl) rfl ?_
     obtain ⟨q4, h⟩ := h
     refine run_s (ss_convert rfl (u8_in q4)) rfl ?_
     obtain ⟨q5, h⟩ := h
     refine run_s (ss_indexS (s := ([0, 1, 2, 2, 3, 3, 3, 3, 4, 4, 4, 4, 4, 4, 4, 4, 5, 5, 5, 5, 5, 5, 5, 5, 5, 5, 5, 5, 5, 5, 5, 5, 6, 6, 6, 6, 6, 6, 6, 6, 6, 6, 6, 6, 6, 6, 6, 6, 6, 6, 6, 6, 6, 6, 6, 6, 6, 6, 6, 6, 6, 6, 6, 6, 7, 7, 7, 7, 7, 7, 7, 7, 7, 7, 7, 7, 7, 7, 7, 7, 7, 7, 7, 7, 7, 7, 7, 7, 7, 7, 7, 7, 7, 7, 7, 7, 7, 7, 7, 7, 7, 7, 7, 7, 7, 7, 7, 7, 7, 7, 7, 7, 7, 7, 7, 7, 7, 7, 7, 7, 7, 7, 7, 7, 7, 7, 7, 7, 8, 8, 8, 8, 8, 8, 8, 8, 8, 8, 8, 8, 8, 8, 8, 8, 8, 8, 8, 8, 8, 8, 8, 8, 8, 8, 8, 8, 8, 8, 8, 8, 8, 8, 8, 8, 8, 8, 8, 8, 8, 8, 8, 8, 8, 8, 8, 8, 8, 8, 8, 8, 8, 8, 8, 8, 8, 8, 8, 8, 8, 8, 8, 8, 8, 8, 8, 8, 8, 8, 8, 8, 8, 8, 8, 8, 8, 8, 8, 8, 8, 8, 8, 8, 8, 8, 8, 8, 8, 8, 8, 8, 8, 8, 8, 8, 8, 8, 8, 8, 8, 8, 8, 8, 8, 8, 8, 8, 8, 8, 8, 8, 8, 8, 8, 8, 8, 8, 8, 8, 8, 8, 8, 8, 8, 8, 8, 8] : List UInt8)) rfl rfl q5) rfl ?_
     obtain ⟨q6, h⟩ := h
     refine run_s (ss_convert rfl (wrap_in q6.1 q6.2)) rfl ?_
     obtain ⟨q7, h⟩ := h
     refine run_s (ss_add rfl rfl q7) rfl ?_
     refine run_s (ss_assign rfl) rfl ?_
     refine run_nil ?_
     refine aw_ret ?_
     exact retAF_mk (retv1 rfl (rv_tmp rfl)) rfl rfl ⟨_, (cle_refl _), _, h, rfl⟩

theorem c_math_bits_Len64 (x : Int) (hp : 0 ≤ x ∧ x ≤ 12) : AF Try.prog 119 [cu x] (fun R_ => ∃ y0, (0 ≤ y0 ∧ y0 ≤ 300) ∧ R_ = ci y0) :=
  w_math_bits_Len64 x (fun y0 => 0 ≤ y0 ∧ y0 ≤ 300) (p_math_bits_Len64 x hp)

set_option maxRecDepth 100000 in
set_option maxHeartbeats 4000000 in
theorem w_math_bits_Len (x : Int) (Q : Int → Prop) (h : wp_math_bits_Len x Q) : AF Try.prog 94 [cu x] (fun R_ => ∃ y0, Q y0 ∧ R_ = ci y0) := by
  refine AF.ofWQ (af_enter (n := 8) Try.func94 rfl (by rfl) rfl (Nat.le_of_ble_eq_true rfl) ?_)
  unfold wp_math_bits_Len at h
  refine aw_seq ?_
  refine aw_gh (gh_to (n := 8) (σ' := []) (env' := [(0, .c (cu x))]) rfl rfl ⟨rfl, trivial⟩) ?_
  refine aw_region ?_
  refine run_s (ss_assign rfl) rfl ?_
  refine run_nil ?_
  refine aw_seq ?_
  refine aw_cond rfl (fun q1 => ?_) (fun q1 => ?_)
  ·cases q1
  ·skip
   refine aw_skip ?_
   refine aw_seq ?_
   refine aw_region ?_
   refine run_s (ss_move rfl) rfl ?_
   obtain ⟨q2, h⟩ := h
   refine run_w (ws_call (xs := [.tmp 6]) (ids := []) rfl rfl rfl rfl (c_math_bits_Len64 x q2) rfl ?_ )
   rintro _ ⟨r1_0, q3, rfl⟩
   replace h := h r1_0 q3
   refine ⟨rfl, ?_⟩
   refine run_s (ss_assign rfl) rfl ?_
   refine run_nil ?_
   refine aw_ret ?_
   exact retAF_mk (retv1 rfl (rv_tmp rfl)) rfl rfl ⟨_, (cle_refl _), _, h, rfl⟩

theorem c_math_bits_Len (x : Int) (hp : 0 ≤ x ∧ x ≤ 12) : AF Try.prog 94 [cu x] (fun R_ => ∃ y0, (0 ≤ y0 ∧ y0 ≤ 300) ∧ R_ = ci y0) :=
  w_math_bits_Len x (fun y0 => 0 ≤ y0 ∧ y0 ≤ 300) (p_math_bits_Len x hp)

set_option maxRecDepth 100000 in
set_option maxHeartbeats 4000000 in
theorem w_slices_insertionSortCmpFunc___int64_ (x : List (List Int)) (a : Int) (b : Int) (cmp_g : Nat) (cmp : List Int → List Int → Int) (cmp_D : List Int → List Int → Prop) (cmp_h : ∀ x0 x1, cmp_D x0 x1 → AF Try.prog cmp_g ([.lst (ints x0), .lst (ints x1)] ++ []) (fun R_ => R_ = ci (cmp x0 x1))) (Q : List (List Int) → Prop) (h : wp_slices_insertionSortCmpFunc___int64_ x a b cmp cmp_D Q) : AM Try.prog 110 [.own (rows x), ci a, ci b, .clo cmp_g []] (fun R_ O_ => ∃ w0, Q w0 ∧ R_ = .tup [] ∧ O_ = [.own (rows w0), ci a, ci b, .clo cmp_g []]) := by
  refine am_enter (n := 53) (m := 4) Try.func110 rfl (by rfl) rfl rfl (Nat.le_of_ble_eq_true rfl) [800] rfl ?_
  unfold wp_slices_insertionSortCmpFunc___int64_ at h
  refine aw_seq ?_
  refine aw_gh (gh_to (n := 53) (σ' := [(800, ⟨rows x, []⟩)]) (env' := [(0, .ref 800), (1, .c (ci a)), (2, .c (ci b)), (3, .c (.clo cmp_g [])), (53, .ref 800), (54, .c (ci a)), (55, .c (ci b)), (56, .c (.clo cmp_g []))]) rfl rfl ⟨rfl, rfl, rfl, rfl, rfl, rfl, rfl, rfl, trivial⟩) ?_
  refine aw_region ?_
  refine run_s (ss_move rfl) rfl ?_
  obtain ⟨q1, h⟩ := h
  refine run_s (ss_add rfl rfl q1) rfl ?_
  refine run_s (ss_assign rfl) rfl ?_
  refine run_nil ?_
  refine aw_block ?_
  obtain ⟨H1, m1, q2, h⟩ := h
  refine aw_loop2 (fun (v8_1 : Int) (o800_1 : List (List Int)) => ⟨[(800, ⟨rows o800_1, []⟩)], [(0, .ref 800), (1, .c (ci a)), (2, .c (ci b)), (3, .c (.clo cmp_g [])), (8, .c (ci v8_1)), (53, .ref 800), (54, .c (ci a)), (55, .c (ci b)), (56, .c (.clo cmp_g []))], 53⟩) H1 m1 ⟨a + 1, x, ghe_to (n := 53) rfl rfl ⟨rfl, rfl, rfl, rfl, rfl, rfl, rfl, rfl, rfl, trivial⟩, q2⟩ ?_
  rintro v8_1 o800_1 q2
  replace h := h v8_1 o800_1 q2
  refine aw_seq ?_
  refine aw_seq ?_
  refine aw_region ?_
  refine run_s (ss_move rfl) rfl ?_
  refine run_s (ss_move rfl) rfl ?_
  refine run_s (ss_lss rfl rfl) rfl ?_
  refine run_nil ?_
  refine aw_cond rfl (fun q3 => ?_) (fun q3 => ?_)
  ·replace h := h.1 (of_decide_eq_true q3)
   refine aw_skip ?_
   refine aw_seq ?_
   refine aw_block ?_
   refine aw_seq ?_
   refine aw_region ?_
   refine run_s (ss_move rfl) rfl ?_
   refine run_s (ss_assign rfl) rfl ?_
   refine run_nil ?_
   refine aw_block ?_
   obtain ⟨H2, m2, q4, h⟩ := h
   refine aw_loop2 (fun (v9_2 : Int) (o800_2 : List (List Int)) => ⟨[(800, ⟨rows o800_2, []⟩)], [(0, .ref 800), (1, .c (ci a)), (2, .c (ci b)), (3, .c (.clo cmp_g [])), (8, .c (ci v8_1)), (9, .c (ci v9_2)), (53, .ref 800), (54, .c (ci a)), (55, .c (ci b)), (56, .c (.clo cmp_g []))], 53⟩) H2 m2 ⟨v8_1, o800_1, ghe_to (n := 53) rfl rfl ⟨rfl, rfl, rfl, rfl, rfl, rfl, rfl, rfl, rfl, rfl, trivial⟩, q4⟩ ?_
   rintro v9_2 o800_2 q4
   replace h := h v9_2 o800_2 q4
   refine aw_seq ?_
   refine aw_seq ?_
   refine aw_gh (gh_to (n := 53) (σ' := [(800, ⟨rows o800_2, []⟩)]) (env' := [(0, .ref 800), (1, .c (ci a)), (2, .c (ci b)), (3, .c (.clo cmp_g [])), (8, .c (ci v8_1)), (9, .c (ci v9_2)), (53, .ref 800), (54, .c (ci a)), (55, .c (ci b)), (56, .c (.clo cmp_g []))]) rfl rfl ⟨rfl, rfl, rfl, rfl, rfl, rfl, rfl, rfl, rfl, rfl, trivial⟩) ?_
   refine aw_regionD (kd := kdl [0, 0, 0, 0, 0, 0, 0, 0, 1, 0, 0, 0, 0, 1, 2, 0, 0]) (ord := [0, 1, 2, 3, 4, 5, 6, 7, 9, 10, 11, 12, 8, 13, 14, 15, 16]) [] mixed (by kernel_rfl) ?_
   refine rd_s rfl rfl trivial (ss_move rfl) rfl ?_
   refine rd_s rfl rfl trivial (ss_move rfl) rfl ?_
   refine rd_s rfl rfl trivial (ss_gtr rfl rfl) rfl ?_
   refine rd_s rfl rfl trivial (ss_move rfl) rfl ?_
   refine rd_split (s := 21) rfl (fun q5 => ?_) (fun q5 => ?_)
   ·replace h := h.1 (of_decide_eq_true q5)
    refine rd_s rfl rfl ⟨_, _, rfl, rfl, q5⟩ (ss_move rfl) rfl ?_
    refine rd_s rfl rfl ⟨_, _, rfl, rfl, q5⟩ (ss_move rfl) rfl ?_
    refine rd_s rfl rfl ⟨_, _, rfl, rfl, q5⟩ (ss_move rfl) rfl ?_
    obtain ⟨q6, h⟩ := h
    refine rd_s rfl rfl ⟨_, _, rfl, rfl, q5⟩ (ss_idxR (f := (fun r => C.lst (ints r))) rfl rfl rfl q6) rfl ?_
    refine rd_s rfl rfl ⟨_, _, rfl, rfl, q5⟩ (ss_move rfl) rfl ?_
    refine rd_s rfl rfl ⟨_, _, rfl, rfl, q5⟩ (ss_move rfl) rfl ?_
    obtain ⟨q7, h⟩ := h
    refine rd_s rfl rfl ⟨_, _, rfl, rfl, q5⟩ (ss_sub rfl rfl q7) rfl ?_
    obtain ⟨q8, h⟩ := h
    refine rd_s rfl rfl ⟨_, _, rfl, rfl, q5⟩ (ss_idxR (f := (fun r => C.lst (ints r))) rfl rfl rfl q8) rfl ?_
    refine rd_l rfl rfl ⟨_, _, rfl, rfl, q5⟩ (ss_loadR (f := (fun r => C.lst (ints r))) rfl rfl q6 rfl rfl) rfl ?_
    refine rd_l rfl rfl ⟨_, _, rfl, rfl, q5⟩ (ss_loadR (f := (fun r => C.lst (ints r))) rfl rfl q8 rfl rfl) rfl ?_
    obtain ⟨q9, h⟩ := h
    refine rd_w rfl rfl ⟨_, _, rfl, rfl, q5⟩ rfl rfl (ws_call (xs := [.tmp 26, .tmp 31]) (ids := []) rfl rfl rfl rfl (cmp_h (el o800_2 v9_2) (el o800_2 (v9_2 - 1)) q9) rfl ?_ )
    rintro _ rfl
    refine ⟨rfl, ?_⟩
    refine rd_s rfl rfl ⟨_, _, rfl, rfl, q5⟩ (ss_lss rfl rfl) rfl ?_
    refine rd_s rfl rfl trivial (ss_pickT rfl q5 rfl) rfl ?_
    refine rd_nil ?_
    refine aw_cond rfl (fun q10 => ?_) (fun q10 => ?_)
    ·replace h := h.1 (of_decide_eq_true q10)
     refine aw_skip ?_
     refine aw_seq ?_
     refine aw_block ?_
     refine aw_gh (gh_to (n := 53) (σ' := [(800, ⟨rows o800_2, []⟩)]) (env' := [(0, .ref 800), (1, .c (ci a)), (2, .c (ci b)), (3, .c (.clo cmp_g [])), (8, .c (ci v8_1)), (9, .c (ci v9_2)), (22, .c (.clo cmp_g [])), (23, .ref 800), (24, .c (ci v9_2)), (25, .cell 800 v9_2.toNat), (26, .c (.lst (ints (el o800_2 v9_2)))), (27, .ref 800), (28, .c (ci v9_2)), (29, .c (ci (v9_2 - 1))), (30, .cell 800 (v9_2 - 1).toNat), (31, .c (.lst (ints (el o800_2 (v9_2 - 1))))), (32, .c (ci (cmp (el o800_2 v9_2) (el o800_2 (v9_2 - 1))))), (33, .c (cb (decide (cmp (el o800_2 v9_2) (el o800_2 (v9_2 - 1)) < 0)))), (53, .ref 800), (54, .c (ci a)), (55, .c (ci b)), (56, .c (.clo cmp_g []))]) rfl rfl ⟨rfl, rfl, rfl, rfl, rfl, rfl, rfl, rfl, rfl, rfl, rfl, rfl, rfl, rfl, rfl, rfl, rfl, rfl, rfl, rfl, rfl, rfl, trivial⟩) ?_
     refine aw_regionD (kd := kdl [0, 0, 0, 0, 0, 0, 0, 0, 0, 1, 0, 0, 0, 1, 0, 3, 0, 3]) (ord := [0, 1, 2, 3, 4, 5, 6, 7, 8, 10, 11, 12, 9, 13, 14, 15, 16, 17]) [] mixed (by kernel_rfl) ?_
     refine rd_s rfl rfl trivial (ss_move rfl) rfl ?_
     refine rd_s rfl rfl trivial (ss_move rfl) rfl ?_
     refine rd_s rfl rfl trivial (ss_move rfl) rfl ?_
     refine rd_s rfl rfl trivial (ss_move rfl) rfl ?_
     obtain ⟨q11, h⟩ := h
     refine rd_s rfl rfl trivial (ss_sub rfl rfl q11) rfl ?_
     refine rd_s rfl rfl trivial (ss_move rfl) rfl ?_
     refine rd_s rfl rfl trivial (ss_move rfl) rfl ?_
     obtain ⟨q12, h⟩ := h
     refine rd_s rfl rfl trivial (ss_sub rfl rfl q12) rfl ?_
     obtain ⟨q13, h⟩ := h
     refine rd_s rfl rfl trivial (ss_idxR (f := (fun r => C.lst (ints r))) rfl rfl rfl q13) rfl ?_
     refine rd_s rfl rfl trivial (ss_move rfl) rfl ?_
     refine rd_s rfl rfl trivial (ss_move rfl) rfl ?_
     obtain ⟨q14, h⟩ := h
     refine rd_s rfl rfl trivial (ss_idxR (f := (fun r => C.lst (ints r))) rfl rfl rfl q14) rfl ?_
     refine rd_l rfl rfl trivial (ss_loadR (f := (fun r => C.lst (ints r))) rfl rfl q13 rfl rfl) rfl ?_
     refine rd_l rfl rfl trivial (ss_loadR (f := (fun r => C.lst (ints r))) rfl rfl q14 rfl rfl) rfl ?_
     obtain ⟨q15, h⟩ := h
     refine rd_s rfl rfl trivial (ss_idxR (f := (fun r => C.lst (ints r))) rfl rfl rfl q15) rfl ?_
     refine rd_f rfl rfl trivial (ws_storeE rfl rfl (map_lt q15) rfl rfl (map_se (f := (fun r => C.lst (ints r)))) rfl ⟨rfl, ?_⟩)
     obtain ⟨q16, h⟩ := h
     refine rd_s rfl rfl trivial (ss_idxR (f := (fun r => C.lst (ints r))) rfl rfl rfl q16) rfl ?_
     refine rd_f rfl rfl trivial (ws_storeE rfl rfl (map_lt q16) rfl rfl (map_se (f := (fun r => C.lst (ints r)))) rfl ⟨rfl, ?_⟩)
     refine rd_nil ?_
     refine aw_gh (gh_to (n := 53) (σ' := [(800, ⟨rows (se (se o800_2 v9_2 (el o800_2 (v9_2 - 1))) (v9_2 - 1) (el o800_2 v9_2)), []⟩)]) (env' := [(0, .ref 800), (1, .c (ci a)), (2, .c (ci b)), (3, .c (.clo cmp_g [])), (8, .c (ci v8_1)), (9, .c (ci v9_2)), (22, .c (.clo cmp_g [])), (23, .ref 800), (24, .c (ci v9_2)), (25, .cell 800 v9_2.toNat), (26, .c (.lst (ints (el o800_2 v9_2)))), (27, .ref 800), (28, .c (ci v9_2)), (29, .c (ci (v9_2 - 1))), (30, .cell 800 (v9_2 - 1).toNat), (31, .c (.lst (ints (el o800_2 (v9_2 - 1))))), (32, .c (ci (cmp (el o800_2 v9_2) (el o800_2 (v9_2 - 1))))), (33, .c (cb (decide (cmp (el o800_2 v9_2) (el o800_2 (v9_2 - 1)) < 0)))), (53, .ref 800), (54, .c (ci a)), (55, .c (ci b)), (56, .c (.clo cmp_g []))]) rfl rfl ⟨rfl, rfl, rfl, rfl, rfl, rfl, rfl, rfl, rfl, rfl, rfl, rfl, rfl, rfl, rfl, rfl, rfl, rfl, rfl, rfl, rfl, rfl, trivial⟩) ?_
     refine aw_region ?_
     refine run_s (ss_move rfl) rfl ?_
     obtain ⟨q17, h⟩ := h
     refine run_s (ss_sub rfl rfl q17) rfl ?_
     refine run_s (ss_assign rfl) rfl ?_
     refine run_nil ?_
     exact ⟨v9_2 - 1, se (se o800_2 v9_2 (el o800_2 (v9_2 - 1))) (v9_2 - 1) (el o800_2 v9_2), ghe_to (n := 53) rfl rfl ⟨rfl, rfl, rfl, rfl, rfl, rfl, rfl, rfl, rfl, rfl, trivial⟩, h.1, h.2⟩
    ·replace h := h.2 (of_decide_eq_false q10)
     refine aw_exit ?_
     refine aw_gh (gh_to (n := 53) (σ' := [(800, ⟨rows o800_2, []⟩)]) (env' := [(0, .ref 800), (1, .c (ci a)), (2, .c (ci b)), (3, .c (.clo cmp_g [])), (8, .c (ci v8_1)), (22, .c (.clo cmp_g [])), (23, .ref 800), (24, .c (ci v9_2)), (25, .cell 800 v9_2.toNat), (26, .c (.lst (ints (el o800_2 v9_2)))), (27, .ref 800), (28, .c (ci v9_2)), (29, .c (ci (v9_2 - 1))), (30, .cell 800 (v9_2 - 1).toNat), (31, .c (.lst (ints (el o800_2 (v9_2 - 1))))), (32, .c (ci (cmp (el o800_2 v9_2) (el o800_2 (v9_2 - 1))))), (33, .c (cb (decide (cmp (el o800_2 v9_2) (el o800_2 (v9_2 - 1)) < 0)))), (53, .ref 800), (54, .c (ci a)), (55, .c (ci b)), (56, .c (.clo cmp_g []))]) rfl rfl ⟨rfl, rfl, rfl, rfl, rfl, rfl, rfl, rfl, rfl, rfl, rfl, rfl, rfl, rfl, rfl, rfl, rfl, rfl, rfl, rfl, rfl, trivial⟩) ?_
     refine aw_region ?_
     refine run_s (ss_move rfl) rfl ?_
     obtain ⟨q18, h⟩ := h
     refine run_s (ss_add rfl rfl q18) rfl ?_
     refine run_s (ss_assign rfl) rfl ?_
     refine run_nil ?_
     exact ⟨v8_1 + 1, o800_2, ghe_to (n := 53) rfl rfl ⟨rfl, rfl, rfl, rfl, rfl, rfl, rfl, rfl, rfl, trivial⟩, h.1, h.2⟩
   ·replace h := h.2 (of_decide_eq_false q5)
    refine rd_no rfl rfl rfl q5 rfl ?_
    refine rd_no rfl rfl rfl q5 rfl ?_
    refine rd_no rfl rfl rfl q5 rfl ?_
    refine rd_no rfl rfl rfl q5 rfl ?_
    refine rd_no rfl rfl rfl q5 rfl ?_
    refine rd_no rfl rfl rfl q5 rfl ?_
    refine rd_no rfl rfl rfl q5 rfl ?_
    refine rd_no rfl rfl rfl q5 rfl ?_
    refine rd_no rfl rfl rfl q5 rfl ?_
    refine rd_no rfl rfl rfl q5 rfl ?_
    refine rd_no rfl rfl rfl q5 rfl ?_
    refine rd_no rfl rfl rfl q5 rfl ?_
    refine rd_s rfl rfl trivial (ss_pickF rfl q5 rfl) rfl ?_
    refine rd_nil ?_
    refine aw_cond rfl (fun q19 => ?_) (fun q19 => ?_)
    ·cases q19
    ·skip
     refine aw_exit ?_
     refine aw_gh (gh_to (n := 53) (σ' := [(800, ⟨rows o800_2, []⟩)]) (env' := [(0, .ref 800), (1, .c (ci a)), (2, .c (ci b)), (3, .c (.clo cmp_g [])), (8, .c (ci v8_1)), (53, .ref 800), (54, .c (ci a)), (55, .c (ci b)), (56, .c (.clo cmp_g []))]) rfl rfl ⟨rfl, rfl, rfl, rfl, rfl, rfl, rfl, rfl, rfl, trivial⟩) ?_
     refine aw_region ?_
     refine run_s (ss_move rfl) rfl ?_
     obtain ⟨q20, h⟩ := h
     refine run_s (ss_add rfl rfl q20) rfl ?_
     refine run_s (ss_assign rfl) rfl ?_
     refine run_nil ?_
     exact ⟨v8_1 + 1, o800_2, ghe_to (n := 53) rfl rfl ⟨rfl, rfl, rfl, rfl, rfl, rfl, rfl, rfl, rfl, trivial⟩, h.1, h.2⟩
  ·replace h := h.2 (of_decide_eq_false q3)
   refine aw_exit ?_
   exact retAM_mkN (retv0 rfl ) rfl rfl rfl ⟨_, h, rfl, rfl⟩

theorem c_slices_insertionSortCmpFunc___int64_ (x : List (List Int)) (a : Int) (b : Int) (cmp_g : Nat) (cmp : List Int → List Int → Int) (cmp_D : List Int → List Int → Prop) (cmp_h : ∀ x0 x1, cmp_D x0 x1 → AF Try.prog cmp_g ([.lst (ints x0), .lst (ints x1)] ++ []) (fun R_ => R_ = ci (cmp x0 x1))) (hp : a = 0 ∧ b = (x.length : Int) ∧ cmp = cmpG cmp1 ∧ (x.length : Int) ≤ 12 ∧ small2 x ∧ ∀ a_ b_ : List Int, small a_ → small b_ → cmp_D a_ b_) : AM Try.prog 110 [.own (rows x), ci a, ci b, .clo cmp_g []] (fun R_ O_ => ∃ w0, (w0.Perm x ∧ ∀ i_ : Int, 0 ≤ i_ → i_ + 1 < (w0.length : Int) → ¬ cmpG cmp1 (el w0 (i_ + 1)) (el w0 i_) < 0) ∧ R_ = .tup [] ∧ O_ = [.own (rows w0), ci a, ci b, .clo cmp_g []]) :=
  w_slices_insertionSortCmpFunc___int64_ x a b cmp_g cmp cmp_D cmp_h (fun w0 => w0.Perm x ∧ ∀ i_ : Int, 0 ≤ i_ → i_ + 1 < (w0.length : Int) → ¬ cmpG cmp1 (el w0 (i_ + 1)) (el w0 i_) < 0) (p_slices_insertionSortCmpFunc___int64_ x a b cmp cmp_D hp)

set_option maxRecDepth 100000 in
set_option maxHeartbeats 4000000 in
theorem w_slices_pdqsortCmpFunc___int64_ (x : List (List Int)) (a : Int) (b : Int) (limit : Int) (cmp_g : Nat) (cmp : List Int → List Int → Int) (cmp_D : List Int → List Int → Prop) (cmp_h : ∀ x0 x1, cmp_D x0 x1 → AF Try.prog cmp_g ([.lst (ints x0), .lst (ints x1)] ++ []) (fun R_ => R_ = ci (cmp x0 x1))) (Q : List (List Int) → Prop) (h : wp_slices_pdqsortCmpFunc___int64_ x a b limit cmp cmp_D Q) : AM Try.prog 93 [.own (rows x), ci a, ci b, ci limit, .clo cmp_g []] (fun R_ O_ => ∃ w0, Q w0 ∧ R_ = .tup [] ∧ O_ = [.own (rows w0), ci a, ci b, ci limit, .clo cmp_g []]) := by
  refine am_enter (n := 148) (m := 5) Try.func93 rfl (by rfl) rfl rfl (Nat.le_of_ble_eq_true rfl) [800] rfl ?_
  unfold wp_slices_pdqsortCmpFunc___int64_ at h
  refine aw_seq ?_
  refine aw_gh (gh_to (n := 148) (σ' := [(800, ⟨rows x, []⟩)]) (env' := [(0, .ref 800), (1, .c (ci a)), (2, .c (ci b)), (3, .c (ci limit)), (4, .c (.clo cmp_g [])), (148, .ref 800), (149, .c (ci a)), (150, .c (ci b)), (151, .c (ci limit)), (152, .c (.clo cmp_g []))]) rfl rfl ⟨rfl, rfl, rfl, rfl, rfl, rfl, rfl, rfl, rfl, rfl, trivial⟩) ?_
  refine aw_region ?_
  refine run_s (ss_assign rfl) rfl ?_
  refine run_nil ?_
  refine aw_seq ?_
  refine aw_region ?_
  refine run_s (ss_assign rfl) rfl ?_
  refine run_nil ?_
  refine aw_block ?_
  refine aw_loop0 ?_
  refine aw_block ?_
  refine aw_seq ?_
  refine aw_gh (gh_to (n := 148) (σ' := [(800, ⟨rows x, []⟩)]) (env' := [(0, .ref 800), (1, .c (ci a)), (2, .c (ci b)), (3, .c (ci limit)), (4, .c (.clo cmp_g [])), (10, .c (cb true)), (11, .c (cb true)), (148, .ref 800), (149, .c (ci a)), (150, .c (ci b)), (151, .c (ci limit)), (152, .c (.clo cmp_g []))]) rfl rfl ⟨rfl, rfl, rfl, rfl, rfl, rfl, rfl, rfl, rfl, rfl, rfl, rfl, trivial⟩) ?_
  refine aw_region ?_
  refine run_s (ss_move rfl) rfl ?_
  refine run_s (ss_move rfl) rfl ?_
  obtain ⟨q1, h⟩ := h
  refine run_s (ss_sub rfl rfl q1) rfl ?_
  refine run_s (ss_assign rfl) rfl ?_
  refine run_nil ?_
  refine aw_seq ?_
  refine aw_seq ?_
  refine aw_region ?_
  refine run_s (ss_move rfl) rfl ?_
  refine run_s (ss_leq rfl rfl) rfl ?_
  refine run_nil ?_
  refine aw_cond rfl (fun q2 => ?_) (fun q2 => ?_)
  ·replace h := h.1 (of_decide_eq_true q2)
   refine aw_seq ?_
   refine aw_gh (gh_to (n := 148) (σ' := [(800, ⟨rows x, []⟩)]) (env' := [(0, .ref 800), (1, .c (ci a)), (2, .c (ci b)), (4, .c (.clo cmp_g [])), (148, .ref 800), (149, .c (ci a)), (150, .c (ci b)), (151, .c (ci limit)), (152, .c (.clo cmp_g []))]) rfl rfl ⟨rfl, rfl, rfl, rfl, rfl, rfl, rfl, rfl, rfl, trivial⟩) ?_
   refine aw_region ?_
   refine run_s (ss_move rfl) rfl ?_
   refine run_s (ss_move rfl) rfl ?_
   refine run_s (ss_move rfl) rfl ?_
   refine run_s (ss_move rfl) rfl ?_
   obtain ⟨q3, h⟩ := h
   refine run_w (ws_callM (xs := [.tmp 26, .tmp 27, .tmp 28, .tmp 29]) (cs := [.own (rows x), ci a, ci b, .clo cmp_g []]) (ids := []) rfl (.inr ⟨rfl, rfl⟩) rfl rfl rfl (c_slices_insertionSortCmpFunc___int64_ x a b cmp_g cmp cmp_D cmp_h q3) rfl rfl ?_ )
   rintro _ _ ⟨o1_0, q4, rfl, rfl⟩
   replace h := h o1_0 q4
   refine ⟨rfl, rfl, ?_⟩
   refine run_nil ?_
   refine aw_ret ?_
   exact retAM_mk (retv0 rfl ) rfl rfl rfl ⟨_, h, rfl, rfl⟩
  ·replace h := h.2 (of_decide_eq_false q2)
   exact h.elim

theorem c_slices_pdqsortCmpFunc___int64_ (x : List (List Int)) (a : Int) (b : Int) (limit : Int) (cmp_g : Nat) (cmp : List Int → List Int → Int) (cmp_D : List Int → List Int → Prop) (cmp_h : ∀ x0 x1, cmp_D x0 x1 → AF Try.prog cmp_g ([.lst (ints x0), .lst (ints x1)] ++ []) (fun R_ => R_ = ci (cmp x0 x1))) (hp : a = 0 ∧ b = (x.length : Int) ∧ cmp = cmpG cmp1 ∧ (x.length : Int) ≤ 12 ∧ small2 x ∧ ∀ a_ b_ : List Int, small a_ → small b_ → cmp_D a_ b_) : AM Try.prog 93 [.own (rows x), ci a, ci b, ci limit, .clo cmp_g []] (fun R_ O_ => ∃ w0, (w0.Perm x ∧ ∀ i_ : Int, 0 ≤ i_ → i_ + 1 < (w0.length : Int) → ¬ cmpG cmp1 (el w0 (i_ + 1)) (el w0 i_) < 0) ∧ R_ = .tup [] ∧ O_ = [.own (rows w0), ci a, ci b, ci limit, .clo cmp_g []]) :=
  w_slices_pdqsortCmpFunc___int64_ x a b limit cmp_g cmp cmp_D cmp_h (fun w0 => w0.Perm x ∧ ∀ i_ : Int, 0 ≤ i_ → i_ + 1 < (w0.length : Int) → ¬ cmpG cmp1 (el w0 (i_ + 1)) (el w0 i_) < 0) (p_slices_pdqsortCmpFunc___int64_ x a b limit cmp cmp_D hp)

set_option maxRecDepth 100000 in
set_option maxHeartbeats 4000000 in
theorem w_slices_SortFunc_____int64___int64_ (x : List (List Int)) (cmp_g : Nat) (cmp : List Int → List Int → Int) (cmp_D : List Int → List Int → Prop) (cmp_h : ∀ x0 x1, cmp_D x0 x1 → AF Try.prog cmp_g ([.lst (ints x0), .lst (ints x1)] ++ []) (fun R_ => R_ = ci (cmp x0 x1))) (Q : List (List Int) → Prop) (h : wp_slices_SortFunc_____int64___int64_ x cmp cmp_D Q) : AM Try.prog 52 [.own (rows x), .clo cmp_g []] (fun R_ O_ => ∃ w0, Q w0 ∧ R_ = .tup [] ∧ O_ = [.own (rows w0), .clo cmp_g []]) := by
  refine am_enter (n := 14) (m := 2) Try.func52 rfl (by rfl) rfl rfl (Nat.le_of_ble_eq_true rfl) [800] rfl ?_
  unfold wp_slices_SortFunc_____int64___int64_ at h
  refine aw_seq ?_
  refine aw_gh (gh_to (n := 14) (σ' := [(800, ⟨rows x, []⟩)]) (env' := [(0, .ref 800), (1, .c (.clo cmp_g [])), (14, .ref 800), (15, .c (.clo cmp_g []))]) rfl rfl ⟨rfl, rfl, rfl, rfl, trivial⟩) ?_
  refine aw_region ?_
  refine run_s (ss_move rfl) rfl ?_
  refine run_s (ss_lenR (f := (fun r => C.lst (ints r))) rfl rfl) rfl ?_
  refine run_s (ss_assign rfl) rfl ?_
  refine run_nil ?_
  refine aw_region ?_
  refine run_s (ss_move rfl) rfl ?_
  refine run_s (ss_move rfl) rfl ?_
  refine run_s (ss_move rfl) rfl ?_
  obtain ⟨q1, h⟩ := h
  refine run_s (ss_convert rfl (IntWalk.u64_in _ q1)) rfl ?_
  obtain ⟨q2, h⟩ := h
  refine run_w (ws_call (xs := [.tmp 10]) (ids := []) rfl rfl rfl rfl (c_math_bits_Len (x.length : Int) q2) rfl ?_ )
  rintro _ ⟨r1_0, q3, rfl⟩
  replace h := h r1_0 q3
  refine ⟨rfl, ?_⟩
  refine run_s (ss_move rfl) rfl ?_
  obtain ⟨q4, h⟩ := h
  refine run_w (ws_callM (xs := [.tmp 7, .const (.int .i64 (0)), .tmp 8, .tmp 11, .tmp 12]) (cs := [.own (rows x), ci 0, ci (x.length : Int), ci r1_0, .clo cmp_g []]) (ids := []) rfl (.inr ⟨rfl, rfl⟩) rfl rfl rfl (c_slices_pdqsortCmpFunc___int64_ x 0 (x.length : Int) r1_0 cmp_g cmp cmp_D cmp_h q4) rfl rfl ?_ )
  rintro _ _ ⟨o2_0, q5, rfl, rfl⟩
  replace h := h o2_0 q5
  refine ⟨rfl, rfl, ?_⟩
  refine run_nil ?_
  exact retAM_mkN (retv0 rfl ) rfl rfl rfl ⟨_, h, rfl, rfl⟩

theorem c_slices_SortFunc_____int64___int64_ (x : List (List Int)) (cmp_g : Nat) (cmp : List Int → List Int → Int) (cmp_D : List Int → List Int → Prop) (cmp_h : ∀ x0 x1, cmp_D x0 x1 → AF Try.prog cmp_g ([.lst (ints x0), .lst (ints x1)] ++ []) (fun R_ => R_ = ci (cmp x0 x1))) (hp : cmp = cmpG cmp1 ∧ (x.length : Int) ≤ 12 ∧ small2 x ∧ ∀ a_ b_ : List Int, small a_ → small b_ → cmp_D a_ b_) : AM Try.prog 52 [.own (rows x), .clo cmp_g []] (fun R_ O_ => ∃ w0, (w0.Perm x ∧ ∀ i_ : Int, 0 ≤ i_ → i_ + 1 < (w0.length : Int) → ¬ cmpG cmp1 (el w0 (i_ + 1)) (el w0 i_) < 0) ∧ R_ = .tup [] ∧ O_ = [.own (rows w0), .clo cmp_g []]) :=
  w_slices_SortFunc_____int64___int64_ x cmp_g cmp cmp_D cmp_h (fun w0 => w0.Perm x ∧ ∀ i_ : Int, 0 ≤ i_ → i_ + 1 < (w0.length : Int) → ¬ cmpG cmp1 (el w0 (i_ + 1)) (el w0 i_) < 0) (p_slices_SortFunc_____int64___int64_ x cmp cmp_D hp)

set_option maxRecDepth 100000 in
set_option maxHeartbeats 4000000 in
theorem w_spec_l03Search (lists : List (List Int)) (list : List Int) (Q : Int → Prop) (h : wp_spec_l03Search lists list Q) : AF Try.prog 56 [.lst (rows lists), .lst (ints list)] (fun R_ => ∃ y0, Q y0 ∧ R_ = ci y0) := by
  refine AF.ofWQ (af_enter (n := 27) Try.func56 rfl (by rfl) rfl (Nat.le_of_ble_eq_true rfl) ?_)
  unfold wp_spec_l03Search at h
  refine aw_seq ?_
  refine aw_gh (gh_to (n := 27) (σ' := []) (env' := [(0, .c (.lst (rows lists))), (1, .c (.lst (ints list)))]) rfl rfl ⟨rfl, rfl, trivial⟩) ?_
  refine aw_region ?_
  refine run_s (ss_assign rfl) rfl ?_
  refine run_nil ?_
  refine aw_seq ?_
  refine aw_region ?_
  refine run_s (ss_move rfl) rfl ?_
  refine run_s (ss_lenL (f := (fun r => C.lst (ints r))) rfl) rfl ?_
  refine run_s (ss_assign rfl) rfl ?_
  refine run_s (ss_assign rfl) rfl ?_
  refine run_nil ?_
  refine aw_seq ?_
  refine aw_block ?_
  obtain ⟨H1, m1, q1, h⟩ := h
  refine aw_loop2 (fun (v5_1 : Int) (v6_1 : Int) => ⟨[], [(0, .c (.lst (rows lists))), (1, .c (.lst (ints list))), (5, .c (ci v5_1)), (6, .c (ci v6_1))], 27⟩) H1 m1 ⟨0, (lists.length : Int), ghe_to (n := 27) rfl rfl ⟨rfl, rfl, rfl, rfl, trivial⟩, q1⟩ ?_
  rintro v5_1 v6_1 q1
  replace h := h v5_1 v6_1 q1
  refine aw_seq ?_
  refine aw_seq ?_
  refine aw_region ?_
  refine run_s (ss_move rfl) rfl ?_
  refine run_s (ss_move rfl) rfl ?_
  refine run_s (ss_lss rfl rfl) rfl ?_
  refine run_nil ?_
  refine aw_cond rfl (fun q2 => ?_) (fun q2 => ?_)
  ·replace h := h.1 (of_decide_eq_true q2)
   refine aw_skip ?_
   refine aw_block ?_
   refine aw_seq ?_
   refine aw_region ?_
   refine run_s (ss_move rfl) rfl ?_
   refine run_s (ss_move rfl) rfl ?_
   obtain ⟨q3, h⟩ := h
   refine run_s (ss_add rfl rfl q3) rfl ?_
   obtain ⟨q4, h⟩ := h
   refine run_s (ss_quo rfl rfl q4) rfl ?_
   refine run_s (ss_assign rfl) rfl ?_
   refine run_nil ?_
   refine aw_seq ?_
   refine aw_region ?_
   refine run_s (ss_move rfl) rfl ?_
   refine run_s (ss_move rfl) rfl ?_
   obtain ⟨q5, h⟩ := h
   refine run_s (ss_idxL rfl rfl q5) rfl ?_
   refine run_s (ss_loadL (f := (fun r => C.lst (ints r))) rfl q5) rfl ?_
   refine run_s (ss_move rfl) rfl ?_
   obtain ⟨q6, h⟩ := h
   refine run_w (ws_call (xs := [.tmp 20, .tmp 21]) (ids := []) rfl rfl rfl rfl (c_spec_l01Less (el lists ((v5_1 + v6_1) / 2)) list q6) rfl ?_ )
   rintro _ rfl
   refine ⟨rfl, ?_⟩
   refine run_nil ?_
   refine aw_cond rfl (fun q8 => ?_) (fun q8 => ?_)
   ·replace h := h.1 (of_decide_eq_true q8)
    refine aw_gh (gh_to (n := 27) (σ' := []) (env' := [(0, .c (.lst (rows lists))), (1, .c (.lst (ints list))), (5, .c (ci v5_1)), (6, .c (ci v6_1)), (7, .c (ci ((v5_1 + v6_1) / 2)))]) rfl rfl ⟨rfl, rfl, rfl, rfl, rfl, trivial⟩) ?_
    refine aw_region ?_
    refine run_s (ss_move rfl) rfl ?_
    obtain ⟨q9, h⟩ := h
    refine run_s (ss_add rfl rfl q9) rfl ?_
    refine run_s (ss_assign rfl) rfl ?_
    refine run_nil ?_
    exact ⟨((v5_1 + v6_1) / 2) + 1, v6_1, ghe_to (n := 27) rfl rfl ⟨rfl, rfl, rfl, rfl, trivial⟩, h.1, h.2⟩
   ·replace h := h.2 (of_decide_eq_false q8)
    refine aw_gh (gh_to (n := 27) (σ' := []) (env' := [(0, .c (.lst (rows lists))), (1, .c (.lst (ints list))), (5, .c (ci v5_1)), (6, .c (ci v6_1)), (7, .c (ci ((v5_1 + v6_1) / 2)))]) rfl rfl ⟨rfl, rfl, rfl, rfl, rfl, trivial⟩) ?_
    refine aw_region ?_
    refine run_s (ss_move rfl) rfl ?_
    refine run_s (ss_assign rfl) rfl ?_
    refine run_nil ?_
    exact ⟨v5_1, (v5_1 + v6_1) / 2, ghe_to (n := 27) rfl rfl ⟨rfl, rfl, rfl, rfl, trivial⟩, h.1, h.2⟩
  ·replace h := h.2 (of_decide_eq_false q2)
   refine aw_exit ?_
   refine aw_seq ?_
   refine aw_gh (gh_to (n := 27) (σ' := []) (env' := [(5, .c (ci v5_1))]) rfl rfl ⟨rfl, trivial⟩) ?_
   refine aw_region ?_
   refine run_s (ss_move rfl) rfl ?_
   refine run_s (ss_assign rfl) rfl ?_
   refine run_nil ?_
   refine aw_ret ?_
   exact retAF_mk (retv1 rfl (rv_tmp rfl)) rfl rfl ⟨_, (cle_refl _), _, h, rfl⟩

theorem c_spec_l03Search (lists : List (List Int)) (list : List Int) (hp : small2 lists ∧ small list) : AF Try.prog 56 [.lst (rows lists), .lst (ints list)] (fun R_ => ∃ y0, ((0 ≤ y0 ∧ y0 ≤ (lists.length : Int)) ∧ (0 < y0 → cmpG cmp1 (el lists (y0 - 1)) list < 0) ∧ (y0 < (lists.length : Int) → ¬ cmpG cmp1 (el lists y0) list < 0)) ∧ R_ = ci y0) :=
  w_spec_l03Search lists list (fun y0 => (0 ≤ y0 ∧ y0 ≤ (lists.length : Int)) ∧ (0 < y0 → cmpG cmp1 (el lists (y0 - 1)) list < 0) ∧ (y0 < (lists.length : Int) → ¬ cmpG cmp1 (el lists y0) list < 0)) (p_spec_l03Search lists list hp)

set_option maxRecDepth 100000 in
set_option maxHeartbeats 4000000 in
theorem w_impl_ClassQuandle (p : List Int) (Q : List (List Int) → Int → Prop) (h : wp_impl_ClassQuandle p Q) : AF Try.prog 13 [.lst (ints p)] (fun R_ => ∃ y0 y1, Q y0 y1 ∧ R_ = .tup [.agg [.own (orows y0)], ci y1]) := by
  refine AF.ofWQ (af_enterK (n := 40) Try.func13 rfl (by rfl) rfl (Nat.le_of_ble_eq_true rfl) ?_)
  unfold wp_impl_ClassQuandle at h
  refine ar_seq ?_
  refine aw_gh (gh_to (n := 40) (σ' := []) (env' := [(0, .c (.lst (ints p)))]) rfl rfl ⟨rfl, trivial⟩) ?_
  refine aw_region ?_
  refine run_w (ws_boxR rfl (.inr rfl) rfl ⟨rfl, ?_⟩)
  refine run_w (ws_alloc (id := 2) rfl (Nat.le_of_ble_eq_true rfl) ⟨rfl, ?_⟩)
  refine run_w (ws_alloc (id := 3) rfl (Nat.le_of_ble_eq_true rfl) ⟨rfl, ?_⟩)
  refine run_nil ?_
  refine ar_seq ?_
  refine aw_seq ?_
  refine aw_region ?_
  refine run_s (ss_load_ptr rfl rfl) rfl ?_
  obtain ⟨q1, h⟩ := h
  refine run_w (ws_call (xs := [.tmp 7]) (ids := []) rfl rfl rfl rfl (c_impl_IsPermutation p q1) rfl ?_ )
  rintro _ rfl
  refine ⟨rfl, ?_⟩
  refine run_s (ss_not rfl) rfl ?_
  refine run_nil ?_
  refine aw_cond rfl (fun q3 => ?_) (fun q3 => ?_)
  ·replace h := h.1 ((bnot_t q3))
   refine aw_seq ?_
   refine aw_gh (gh_to (n := 40) (σ' := [(3, ⟨[ci 0], []⟩), (2, ⟨[cnil], []⟩)]) (env' := [(2, .cell 2 0), (3, .cell 3 0)]) rfl rfl ⟨rfl, rfl, trivial⟩) ?_
   refine aw_region ?_
   refine run_s (ss_build0) rfl ?_
   refine run_w (ws_storeS rfl rfl (Nat.le_of_ble_eq_true rfl) rfl rfl rfl ⟨rfl, ?_⟩)
   refine run_w (ws_store rfl rfl (Nat.le_of_ble_eq_true rfl) rfl rfl ⟨rfl, ?_⟩)
   refine run_nil ?_
   refine aw_ret ?_
   exact retAF_mk (retv2 rfl (rv_struct rfl rfl rfl) (rv_cell rfl rfl rfl)) rfl rfl ⟨_, (cle_tup (cleL_cons (cle_agg (cleL_cons cle_nilO cleL_nil)) (cleL_cons (cle_refl _) cleL_nil))), _, _, h, rfl⟩
  ·replace h := h.2 ((bnot_f q3))
   refine aw_skip ?_
   refine ar_seq ?_
   refine aw_seq ?_
   refine aw_region ?_
   refine run_s (ss_load_ptr rfl rfl) rfl ?_
   refine run_s (ss_lenL (f := ci) rfl) rfl ?_
   refine run_s (ss_gtr rfl rfl) rfl ?_
   refine run_nil ?_
   refine aw_cond rfl (fun q4 => ?_) (fun q4 => ?_)
   ·replace h := h.1 (of_decide_eq_true q4)
    refine aw_seq ?_
    refine aw_gh (gh_to (n := 40) (σ' := [(3, ⟨[ci 0], []⟩), (2, ⟨[cnil], []⟩)]) (env' := [(2, .cell 2 0), (3, .cell 3 0)]) rfl rfl ⟨rfl, rfl, trivial⟩) ?_
    refine aw_region ?_
    refine run_s (ss_build0) rfl ?_
    refine run_w (ws_storeS rfl rfl (Nat.le_of_ble_eq_true rfl) rfl rfl rfl ⟨rfl, ?_⟩)
    refine run_w (ws_store rfl rfl (Nat.le_of_ble_eq_true rfl) rfl rfl ⟨rfl, ?_⟩)
    refine run_nil ?_
    refine aw_ret ?_
    exact retAF_mk (retv2 rfl (rv_struct rfl rfl rfl) (rv_cell rfl rfl rfl)) rfl rfl ⟨_, (cle_tup (cleL_cons (cle_agg (cleL_cons cle_nilO cleL_nil)) (cleL_cons (cle_refl _) cleL_nil))), _, _, h, rfl⟩
   ·replace h := h.2 (of_decide_eq_false q4)
    refine aw_skip ?_
    refine ar_seq ?_
    refine aw_gh (gh_to (n := 40) (σ' := [(3, ⟨[ci 0], []⟩), (2, ⟨[cnil], []⟩)]) (env' := [(1, .c (.ptr [.lst (ints p)])), (2, .cell 2 0), (3, .cell 3 0)]) rfl rfl ⟨rfl, rfl, rfl, trivial⟩) ?_
    refine aw_region ?_
    refine run_w (ws_alloc (id := 4) rfl (Nat.le_of_ble_eq_true rfl) ⟨rfl, ?_⟩)
    refine run_nil ?_
    refine ar_seqK ?_
    refine ar_seq ?_
    refine aw_region ?_
    refine run_s (ss_load_ptr rfl rfl) rfl ?_
    refine run_s (ss_lenL (f := ci) rfl) rfl ?_
    obtain ⟨q5, h⟩ := h
    refine run_w (ws_call (xs := [.tmp 16]) (ids := []) rfl rfl rfl rfl (c_impl_permutations (p.length : Int) q5) rfl ?_ )
    rintro _ rfl
    refine ⟨rfl, ?_⟩
    refine run_nil ?_
    refine ar_block ?_
    refine ar_gh (gh_to (n := 40) (σ' := [(4, ⟨[cnil], []⟩), (3, ⟨[ci 0], []⟩), (2, ⟨[cnil], []⟩)]) (env' := [(1, .c (.ptr [.lst (ints p)])), (2, .cell 2 0), (3, .cell 3 0), (4, .cell 4 0), (17, .c (.clo 90 [.ptr [ci (p.length : Int)]]))]) rfl rfl ⟨rfl, rfl, rfl, rfl, rfl, trivial⟩) ?_
    refine ar_gh (gh_nilH (id0 := 4) (j := 0) (id := 200064) rfl rfl rfl rfl) ?_
    refine ar_gh (gh_fill (id := 4) (id2 := 200064) (j := 0) rfl rfl (Nat.le_of_ble_eq_true rfl) rfl rfl rfl) ?_
    refine ar_gh (gh_to (n := 40) (σ' := [(4, ⟨[.own (orows ([] : List (List Int)))], []⟩), (3, ⟨[ci 0], []⟩), (2, ⟨[cnil], []⟩)]) (env' := [(1, .c (.ptr [.lst (ints p)])), (2, .cell 2 0), (3, .cell 3 0), (4, .cell 4 0), (17, .c (.clo 90 [.ptr [ci (p.length : Int)]]))]) rfl rfl ⟨rfl, rfl, rfl, rfl, rfl, trivial⟩) ?_
    obtain ⟨H1, q7, h⟩ := h
    refine ar_rangeE (en := (fun p_ => .lst (ints p_))) 5000 [(5001, .c (.ptr [.lst (ints p)])), (5002, .cell 2 0), (5003, .cell 3 0), (5004, .cell 4 0), (5017, .c (.clo 90 [.ptr [ci (p.length : Int)]]))] (fun (f4_0_1 : List (List Int)) => [(4, ⟨[.own (orows f4_0_1)], []⟩), (3, ⟨[ci 0], []⟩), (2, ⟨[cnil], []⟩)]) H1 (sq_permutations (p.length : Int) q5) rfl rfl rfl rfl rfl ⟨([] : List (List Int)), ghe_to (n := 40) rfl rfl ⟨rfl, rfl, rfl, rfl, rfl, trivial⟩, (by simp [σok, slfL, C.slf, slf_ints, slf_orows, slf_ci, ci, cb]), q7⟩ (fun k1 f4_0_1 e1 q8 q9 => ?_) (fun f4_0_1 q9 => ?_)
    ·replace h := h.1 k1 f4_0_1 e1 q8 q9
     refine aw_gh (gh_to (n := 40) (σ' := [(4, ⟨[.own (orows f4_0_1)], []⟩), (3, ⟨[ci 0], []⟩), (2, ⟨[cnil], []⟩)]) (env' := [(1, .c (.ptr [.lst (ints p)])), (2, .cell 2 0), (3, .cell 3 0), (4, .cell 4 0), (17, .c (.clo 90 [.ptr [ci (p.length : Int)]])), (18, .c (.lst (ints e1))), (5001, .c (.ptr [.lst (ints p)])), (5002, .cell 2 0), (5003, .cell 3 0), (5004, .cell 4 0), (5017, .c (.clo 90 [.ptr [ci (p.length : Int)]]))]) rfl rfl ⟨rfl, rfl, rfl, rfl, rfl, rfl, rfl, rfl, rfl, rfl, rfl, trivial⟩) ?_
     refine aw_gh (gh_to (n := 40) (σ' := [(4, ⟨[.own (orows f4_0_1)], []⟩), (3, ⟨[ci 0], []⟩), (2, ⟨[cnil], []⟩)]) (env' := [(1, .c (.ptr [.lst (ints p)])), (2, .cell 2 0), (3, .cell 3 0), (4, .cell 4 0), (18, .c (.lst (ints e1))), (5001, .c (.ptr [.lst (ints p)])), (5002, .cell 2 0), (5003, .cell 3 0), (5004, .cell 4 0), (5017, .c (.clo 90 [.ptr [ci (p.length : Int)]]))]) rfl rfl ⟨rfl, rfl, rfl, rfl, rfl, rfl, rfl, rfl, rfl, rfl, trivial⟩) ?_
     refine aw_region ?_
     refine run_s (ss_assign rfl) rfl ?_
     refine run_nil ?_
     refine aw_block ?_
     refine aw_seq ?_
     refine aw_seq ?_
     refine aw_region ?_
     refine run_s (ss_load_ptr rfl rfl) rfl ?_
     refine run_s (ss_move rfl) rfl ?_
     obtain ⟨q10, h⟩ := h
     refine run_w (ws_call (xs := [.tmp 19, .tmp 20]) (ids := [21]) rfl rfl rfl rfl (c_impl_conjugate p e1 q10) rfl ?_ )
     rintro _ rfl
     refine ⟨rfl, ?_⟩
     refine run_s (ss_assign rfl) rfl ?_
     refine run_nil ?_
     refine aw_seq ?_
     refine aw_gh (gh_to (n := 40) (σ' := [(21, ⟨ints (conjI e1 p), []⟩), (4, ⟨[.own (orows f4_0_1)], []⟩), (3, ⟨[ci 0], []⟩), (2, ⟨[cnil], []⟩)]) (env' := [(2, .cell 2 0), (3, .cell 3 0), (4, .cell 4 0), (6, .ref 21), (5001, .c (.ptr [.lst (ints p)])), (5002, .cell 2 0), (5003, .cell 3 0), (5004, .cell 4 0), (5017, .c (.clo 90 [.ptr [ci (p.length : Int)]]))]) rfl rfl ⟨rfl, rfl, rfl, rfl, rfl, rfl, rfl, rfl, rfl, trivial⟩) ?_
     refine aw_region ?_
     refine run_gh (gh_open 1001 (id := 4) (j := 0) rfl rfl rfl) ?_
     refine run_s (ss_loadH rfl rfl rfl rfl) rfl ?_
     refine run_s (ss_move rfl) rfl ?_
     obtain ⟨q12, h⟩ := h
     refine run_w (ws_callR (xs := [.tmp 22, .tmp 23]) (cs := [.own (orows f4_0_1), .own (ints (conjI e1 p))]) (ids := []) rfl (.inr ⟨rfl, rfl⟩) rfl rfl (fz_cons (fz_own (fz_map (fun _ => (fz_own (fz_map (fun _ => rfl) _))) _)) (fz_cons (fz_own (fz_map (fun _ => rfl) _)) fz_nil)) (c_impl_listIndex f4_0_1 (conjI e1 p) q12) rfl ?_ )
     rintro _ rfl
     refine ⟨rfl, rfl, ?_⟩
     refine run_s (ss_lss rfl rfl) rfl ?_
     refine run_nil ?_
     refine aw_cond rfl (fun q14 => ?_) (fun q14 => ?_)
     ·replace h := h.1 (of_decide_eq_true q14)
      refine aw_gh (gh_to (n := 40) (σ' := [(1001, ⟨orows f4_0_1, []⟩), (21, ⟨ints (conjI e1 p), []⟩), (4, ⟨[.hole], [(0, .ref 1001)]⟩), (3, ⟨[ci 0], []⟩), (2, ⟨[cnil], []⟩)]) (env' := [(2, .cell 2 0), (3, .cell 3 0), (4, .cell 4 0), (6, .ref 21), (5001, .c (.ptr [.lst (ints p)])), (5002, .cell 2 0), (5003, .cell 3 0), (5004, .cell 4 0), (5017, .c (.clo 90 [.ptr [ci (p.length : Int)]]))]) rfl rfl ⟨rfl, rfl, rfl, rfl, rfl, rfl, rfl, rfl, rfl, trivial⟩) ?_
      refine aw_region ?_
      refine run_s (ss_loadH rfl rfl rfl rfl) rfl ?_
      refine run_s (ss_move rfl) rfl ?_
      refine run_w (ws_buildSlice (id := 28) (ps := [(0, .tmp 27)]) rfl rfl (Nat.le_of_ble_eq_true rfl) rfl ⟨rfl, ?_⟩)
      refine run_gh (gh_fill (id := 28) (id2 := 21) (j := 0) rfl rfl (Nat.le_of_ble_eq_true rfl) rfl rfl rfl) ?_
      obtain ⟨q15, h⟩ := h
      refine run_w (ws_app1 (fun r => C.own (ints r)) (l := f4_0_1) (m := [conjI e1 p]) rfl rfl rfl rfl rfl (Nat.le_of_ble_eq_true rfl) q15 ⟨rfl, ?_⟩)
      refine run_w (ws_store rfl rfl (Nat.le_of_ble_eq_true rfl) rfl rfl ⟨rfl, ?_⟩)
      refine run_nil ?_
      refine aw_seq ?_
      refine aw_gh (gh_to (n := 40) (σ' := [(1001, ⟨orows (f4_0_1 ++ ([conjI e1 p])), []⟩), (4, ⟨[.hole], [(0, .ref 1001)]⟩), (3, ⟨[ci 0], []⟩), (2, ⟨[cnil], []⟩)]) (env' := [(2, .cell 2 0), (3, .cell 3 0), (4, .cell 4 0), (5001, .c (.ptr [.lst (ints p)])), (5002, .cell 2 0), (5003, .cell 3 0), (5004, .cell 4 0), (5017, .c (.clo 90 [.ptr [ci (p.length : Int)]]))]) rfl rfl ⟨rfl, rfl, rfl, rfl, rfl, rfl, rfl, rfl, trivial⟩) ?_
      refine aw_region ?_
      refine run_s (ss_loadH rfl rfl rfl rfl) rfl ?_
      refine run_s (ss_lenR (f := (fun r => C.own (ints r))) rfl rfl) rfl ?_
      refine run_s (ss_gtr rfl rfl) rfl ?_
      refine run_nil ?_
      refine aw_cond rfl (fun q16 => ?_) (fun q16 => ?_)
      ·replace h := h.1 (of_decide_eq_true q16)
       refine aw_seq ?_
       refine aw_gh (gh_to (n := 40) (σ' := [(1001, ⟨orows (f4_0_1 ++ ([conjI e1 p])), []⟩), (4, ⟨[.hole], [(0, .ref 1001)]⟩), (3, ⟨[ci 0], []⟩), (2, ⟨[cnil], []⟩)]) (env' := [(2, .cell 2 0), (3, .cell 3 0), (5001, .c (.ptr [.lst (ints p)])), (5002, .cell 2 0), (5003, .cell 3 0), (5004, .cell 4 0), (5017, .c (.clo 90 [.ptr [ci (p.length : Int)]]))]) rfl rfl ⟨rfl, rfl, rfl, rfl, rfl, rfl, rfl, trivial⟩) ?_
       refine aw_region ?_
       refine run_s (ss_build0) rfl ?_
       refine run_w (ws_storeS rfl rfl (Nat.le_of_ble_eq_true rfl) rfl rfl rfl ⟨rfl, ?_⟩)
       refine run_w (ws_store rfl rfl (Nat.le_of_ble_eq_true rfl) rfl rfl ⟨rfl, ?_⟩)
       refine run_nil ?_
       refine aw_ret ?_
       refine ⟨[(4, ⟨[.own (orows (f4_0_1 ++ ([conjI e1 p])))], []⟩), (3, ⟨[ci 3], []⟩), (2, ⟨[cnil], []⟩)], ghe_step (gh_fill (id := 4) (id2 := 1001) (j := 0) rfl rfl (Nat.le_of_ble_eq_true rfl) rfl rfl rfl) (ghe_to (n := 40) rfl rfl ⟨rfl, rfl, rfl, rfl, rfl, trivial⟩), (by simp [σok, slfL, C.slf, slf_ints, slf_orows, slf_ci, ci, cb]), ?_⟩
       exact retAF_mk (retv2 rfl (rv_struct rfl rfl rfl) (rv_cell rfl rfl rfl)) rfl rfl ⟨_, (cle_tup (cleL_cons (cle_agg (cleL_cons cle_nilO cleL_nil)) (cleL_cons (cle_refl _) cleL_nil))), _, _, h, rfl⟩
      ·replace h := h.2 (of_decide_eq_false q16)
       refine aw_skip ?_
       exact ⟨f4_0_1 ++ ([conjI e1 p]), ghe_step (gh_fill (id := 4) (id2 := 1001) (j := 0) rfl rfl (Nat.le_of_ble_eq_true rfl) rfl rfl rfl) (ghe_to (n := 40) rfl rfl ⟨rfl, rfl, rfl, rfl, rfl, trivial⟩), (by simp [σok, slfL, C.slf, slf_ints, slf_orows, slf_ci, ci, cb]), h⟩
     ·replace h := h.2 (of_decide_eq_false q14)
      refine aw_skip ?_
      refine aw_seq ?_
      refine aw_gh (gh_to (n := 40) (σ' := [(1001, ⟨orows f4_0_1, []⟩), (21, ⟨ints (conjI e1 p), []⟩), (4, ⟨[.hole], [(0, .ref 1001)]⟩), (3, ⟨[ci 0], []⟩), (2, ⟨[cnil], []⟩)]) (env' := [(2, .cell 2 0), (3, .cell 3 0), (4, .cell 4 0), (5001, .c (.ptr [.lst (ints p)])), (5002, .cell 2 0), (5003, .cell 3 0), (5004, .cell 4 0), (5017, .c (.clo 90 [.ptr [ci (p.length : Int)]]))]) rfl rfl ⟨rfl, rfl, rfl, rfl, rfl, rfl, rfl, rfl, trivial⟩) ?_
      refine aw_region ?_
      refine run_s (ss_loadH rfl rfl rfl rfl) rfl ?_
      refine run_s (ss_lenR (f := (fun r => C.own (ints r))) rfl rfl) rfl ?_
      refine run_s (ss_gtr rfl rfl) rfl ?_
      refine run_nil ?_
      refine aw_cond rfl (fun q17 => ?_) (fun q17 => ?_)
      ·replace h := h.1 (of_decide_eq_true q17)
       refine aw_seq ?_
       refine aw_gh (gh_to (n := 40) (σ' := [(1001, ⟨orows f4_0_1, []⟩), (21, ⟨ints (conjI e1 p), []⟩), (4, ⟨[.hole], [(0, .ref 1001)]⟩), (3, ⟨[ci 0], []⟩), (2, ⟨[cnil], []⟩)]) (env' := [(2, .cell 2 0), (3, .cell 3 0), (5001, .c (.ptr [.lst (ints p)])), (5002, .cell 2 0), (5003, .cell 3 0), (5004, .cell 4 0), (5017, .c (.clo 90 [.ptr [ci (p.length : Int)]]))]) rfl rfl ⟨rfl, rfl, rfl, rfl, rfl, rfl, rfl, trivial⟩) ?_
       refine aw_region ?_
       refine run_s (ss_build0) rfl ?_
       refine run_w (ws_storeS rfl rfl (Nat.le_of_ble_eq_true rfl) rfl rfl rfl ⟨rfl, ?_⟩)
       refine run_w (ws_store rfl rfl (Nat.le_of_ble_eq_true rfl) rfl rfl ⟨rfl, ?_⟩)
       refine run_nil ?_
       refine aw_ret ?_
       refine ⟨[(4, ⟨[.own (orows f4_0_1)], []⟩), (3, ⟨[ci 3], []⟩), (2, ⟨[cnil], []⟩)], ghe_step (gh_fill (id := 4) (id2 := 1001) (j := 0) rfl rfl (Nat.le_of_ble_eq_true rfl) rfl rfl rfl) (ghe_step (gh_frzE (id := 21) ci rfl (fun _ => rfl)) (ghe_to (n := 40) rfl rfl ⟨rfl, rfl, rfl, rfl, rfl, trivial⟩)), (by simp [σok, slfL, C.slf, slf_ints, slf_orows, slf_ci, ci, cb]), ?_⟩
       exact retAF_mk (retv2 rfl (rv_struct rfl rfl rfl) (rv_cell rfl rfl rfl)) rfl rfl ⟨_, (cle_tup (cleL_cons (cle_agg (cleL_cons cle_nilO cleL_nil)) (cleL_cons (cle_refl _) cleL_nil))), _, _, h, rfl⟩
      ·replace h := h.2 (of_decide_eq_false q17)
       refine aw_skip ?_
       exact ⟨f4_0_1, ghe_step (gh_fill (id := 4) (id2 := 1001) (j := 0) rfl rfl (Nat.le_of_ble_eq_true rfl) rfl rfl rfl) (ghe_step (gh_frzE (id := 21) ci rfl (fun _ => rfl)) (ghe_to (n := 40) rfl rfl ⟨rfl, rfl, rfl, rfl, rfl, trivial⟩)), (by simp [σok, slfL, C.slf, slf_ints, slf_orows, slf_ci, ci, cb]), h⟩
    ·replace h := h.2 f4_0_1 q9
     refine ar_aw ?_
     refine aw_seq ?_
     refine aw_gh (gh_to (n := 40) (σ' := [(4, ⟨[.own (orows f4_0_1)], []⟩), (3, ⟨[ci 0], []⟩), (2, ⟨[cnil], []⟩)]) (env' := [(2, .cell 2 0), (3, .cell 3 0), (4, .cell 4 0)]) rfl rfl ⟨rfl, rfl, rfl, trivial⟩) ?_
     refine aw_region ?_
     refine run_gh (gh_open 1002 (id := 4) (j := 0) rfl rfl rfl) ?_
     refine run_s (ss_loadH rfl rfl rfl rfl) rfl ?_
     refine run_gh (gh_frzInE (id := 1002) (fun r => C.lst (ints r)) rfl (fun _ => (fz_own (fz_map (fun _ => rfl) _)))) ?_
     obtain ⟨q18, h⟩ := h
     refine run_w (ws_callM (xs := [.tmp 34, .func 53]) (cs := [.own (rows f4_0_1), .clo 53 []]) (ids := []) rfl (.inr ⟨rfl, rfl⟩) rfl rfl rfl (c_slices_SortFunc_____int64___int64_ f4_0_1 53 (fun z0 z1 => cmpG cmp1 z0 z1) (fun z0 z1 => small z0 ∧ small z1) (fun z0 z1 hD => c_slices_Compare___int64_int64_ z0 z1 hD) q18) rfl rfl ?_ )
     rintro _ _ ⟨o1_0, q19, rfl, rfl⟩
     replace h := h o1_0 q19
     refine ⟨rfl, rfl, ?_⟩
     refine run_nil ?_
     refine aw_seq ?_
     refine aw_region ?_
     refine run_s (ss_loadH rfl rfl rfl rfl) rfl ?_
     obtain ⟨q20, h⟩ := h
     refine run_w (ws_callR (xs := [.tmp 36]) (cs := [.own (rows o1_0)]) (ids := [37]) rfl (.inr ⟨rfl, rfl⟩) rfl rfl (fz_cons (fz_own (fz_map (fun _ => rfl) _)) fz_nil) (c_impl_ConjugationQuandle o1_0 q20) rfl ?_ )
     rintro _ rfl
     refine ⟨(slf_tup (slf_cons (slf_agg (slf_cons (slf_own (slfL_map (f := (fun r => C.own (ints r))) (fun _ => (slf_own (slfL_map (f := ci) (fun _ => rfl) _))) _)) slf_nil)) (slf_cons rfl slf_nil))), rfl, ?_⟩
     refine run_s (ss_extract rfl rfl) rfl ?_
     refine run_s (ss_extract rfl rfl) rfl ?_
     refine run_w (ws_storeS rfl rfl (Nat.le_of_ble_eq_true rfl) rfl rfl rfl ⟨rfl, ?_⟩)
     refine run_w (ws_store rfl rfl (Nat.le_of_ble_eq_true rfl) rfl rfl ⟨rfl, ?_⟩)
     refine run_nil ?_
     refine aw_ret ?_
     exact retAF_mk (retv2 rfl (rv_struct rfl rfl rfl) (rv_cell rfl rfl rfl)) rfl rfl ⟨_, (cle_refl _), _, _, h, rfl⟩

theorem c_impl_ClassQuandle (p : List Int) (hp : small p) : AF Try.prog 13 [.lst (ints p)] (fun R_ => R_ = .tup [.agg [.own (orows (ClqT p))], ci (ClqE p)]) :=
  (w_impl_ClassQuandle p (fun y0 y1 => y0 = ClqT p ∧ y1 = ClqE p) (p_impl_ClassQuandle p hp)).mono (by rintro r ⟨_, _, ⟨rfl, rfl⟩, rfl⟩; rfl)

set_option maxRecDepth 100000 in
set_option maxHeartbeats 4000000 in
theorem w_spec_ClassQuandle (p : List Int) (Q : List (List Int) → Int → Prop) (h : wp_spec_ClassQuandle p Q) : AF Try.prog 14 [.lst (ints p)] (fun R_ => ∃ y0 y1, Q y0 y1 ∧ R_ = .tup [.agg [.own (orows y0)], ci y1]) := by
  refine AF.ofWQ (af_enter (n := 77) Try.func14 rfl (by rfl) rfl (Nat.le_of_ble_eq_true rfl) ?_)
  unfold wp_spec_ClassQuandle at h
  refine aw_seq ?_
  refine aw_gh (gh_to (n := 77) (σ' := []) (env' := [(0, .c (.lst (ints p)))]) rfl rfl ⟨rfl, trivial⟩) ?_
  refine aw_region ?_
  refine run_w (ws_alloc (id := 2) rfl (Nat.le_of_ble_eq_true rfl) ⟨rfl, ?_⟩)
  refine run_s (ss_assign rfl) rfl ?_
  refine run_nil ?_
  refine aw_seq ?_
  refine aw_block ?_
  refine aw_seq ?_
  refine aw_region ?_
  refine run_s (ss_move rfl) rfl ?_
  obtain ⟨q1, h⟩ := h
  refine run_w (ws_call (xs := [.tmp 11]) (ids := []) rfl rfl rfl rfl (c_spec_l01Perm p q1) rfl ?_ )
  rintro _ rfl
  refine ⟨rfl, ?_⟩
  refine run_s (ss_not rfl) rfl ?_
  refine run_s (ss_assign rfl) rfl ?_
  refine run_nil ?_
  refine aw_cond rfl (fun q3 => ?_) (fun q3 => ?_)
  ·replace h := h.1 ((bnot_t q3))
   refine aw_seq ?_
   refine aw_gh (gh_to (n := 77) (σ' := [(2, ⟨[cnil], []⟩)]) (env' := [(2, .cell 2 0), (3, .c (ci 0))]) rfl rfl ⟨rfl, rfl, trivial⟩) ?_
   refine aw_region ?_
   refine run_s (ss_build0) rfl ?_
   refine run_w (ws_storeS rfl rfl (Nat.le_of_ble_eq_true rfl) rfl rfl rfl ⟨rfl, ?_⟩)
   refine run_s (ss_assign rfl) rfl ?_
   refine run_nil ?_
   refine aw_ret ?_
   exact retAF_mk (retv2 rfl (rv_struct rfl rfl rfl) (rv_tmp rfl)) rfl rfl ⟨_, (cle_tup (cleL_cons (cle_agg (cleL_cons cle_nilO cleL_nil)) (cleL_cons (cle_refl _) cleL_nil))), _, _, h, rfl⟩
  ·replace h := h.2 ((bnot_f q3))
   refine aw_seq ?_
   refine aw_region ?_
   refine run_s (ss_move rfl) rfl ?_
   refine run_s (ss_lenL (f := ci) rfl) rfl ?_
   refine run_s (ss_gtr rfl rfl) rfl ?_
   refine run_s (ss_assign rfl) rfl ?_
   refine run_nil ?_
   refine aw_cond rfl (fun q4 => ?_) (fun q4 => ?_)
   ·replace h := h.1 (of_decide_eq_true q4)
    refine aw_seq ?_
    refine aw_gh (gh_to (n := 77) (σ' := [(2, ⟨[cnil], []⟩)]) (env' := [(2, .cell 2 0), (3, .c (ci 0))]) rfl rfl ⟨rfl, rfl, trivial⟩) ?_
    refine aw_region ?_
    refine run_s (ss_build0) rfl ?_
    refine run_w (ws_storeS rfl rfl (Nat.le_of_ble_eq_true rfl) rfl rfl rfl ⟨rfl, ?_⟩)
    refine run_s (ss_assign rfl) rfl ?_
    refine run_nil ?_
    refine aw_ret ?_
    exact retAF_mk (retv2 rfl (rv_struct rfl rfl rfl) (rv_tmp rfl)) rfl rfl ⟨_, (cle_tup (cleL_cons (cle_agg (cleL_cons cle_nilO cleL_nil)) (cleL_cons (cle_refl _) cleL_nil))), _, _, h, rfl⟩
   ·replace h := h.2 (of_decide_eq_false q4)
    refine aw_skip ?_
    refine aw_seq ?_
    refine aw_region ?_
    refine run_s (ss_move rfl) rfl ?_
    refine run_s (ss_lenL (f := ci) rfl) rfl ?_
    obtain ⟨q5, h⟩ := h
    refine run_w (ws_call (xs := [.tmp 21]) (ids := [22]) rfl rfl rfl rfl (c_spec_l01Perms (p.length : Int) q5) rfl ?_ )
    rintro _ rfl
    refine ⟨rfl, ?_⟩
    refine run_w (ws_buildSlice (id := 23) (ps := []) rfl rfl (Nat.le_of_ble_eq_true rfl) rfl ⟨rfl, ?_⟩)
    refine run_s (ss_assign rfl) rfl ?_
    refine run_s (ss_assign rfl) rfl ?_
    refine run_nil ?_
    refine aw_gh (gh_frzE (id := 22) (fun r => C.lst (ints r)) rfl (fun _ => (fz_own (fz_map (fun _ => rfl) _)))) ?_
    refine aw_seq ?_
    refine aw_seq ?_
    refine aw_region ?_
    refine run_s (ss_assign rfl) rfl ?_
    refine run_nil ?_
    refine aw_block ?_
    obtain ⟨H1, m1, q7, h⟩ := h
    refine aw_loop2 (fun (v6_1 : Int) (o23_1 : List (List Int)) => ⟨[(23, ⟨rows o23_1, []⟩), (2, ⟨[cnil], []⟩)], [(0, .c (.lst (ints p))), (2, .cell 2 0), (4, .c (.lst (rows (growL (p.length : Int) [])))), (5, .ref 23), (6, .c (ci v6_1))], 77⟩) H1 m1 ⟨0, ([] : List (List Int)), ghe_to (n := 77) rfl rfl ⟨rfl, rfl, rfl, rfl, rfl, trivial⟩, q7⟩ ?_
    rintro v6_1 o23_1 q7
    replace h := h v6_1 o23_1 q7
    refine aw_seq ?_
    refine aw_seq ?_
    refine aw_region ?_
    refine run_s (ss_move rfl) rfl ?_
    refine run_s (ss_move rfl) rfl ?_
    refine run_s (ss_lenL (f := (fun r => C.lst (ints r))) rfl) rfl ?_
    refine run_s (ss_lss rfl rfl) rfl ?_
    refine run_s (ss_move rfl) rfl ?_
    refine run_split (s := 28) rfl (fun q8 => ?_) (fun q8 => ?_)
    ·replace h := h.1 (of_decide_eq_true q8)
     refine run_gt rfl rfl q8 ?_
     refine run_s (ss_move rfl) rfl ?_
     refine run_gt rfl rfl q8 ?_
     refine run_s (ss_lenR (f := (fun r => C.lst (ints r))) rfl rfl) rfl ?_
     refine run_gt rfl rfl q8 ?_
     refine run_s (ss_leq rfl rfl) rfl ?_
     refine run_s (ss_pickT rfl q8 rfl) rfl ?_
     refine run_nil ?_
     refine aw_cond rfl (fun q9 => ?_) (fun q9 => ?_)
     ·replace h := h.1 (of_decide_eq_true q9)
      refine aw_skip ?_
      refine aw_seq ?_
      refine aw_block ?_
      refine aw_seq ?_
      refine aw_region ?_
      refine run_s (ss_move rfl) rfl ?_
      refine run_s (ss_move rfl) rfl ?_
      obtain ⟨q10, h⟩ := h
      refine run_s (ss_idxL rfl rfl q10) rfl ?_
      refine run_s (ss_loadL (f := (fun r => C.lst (ints r))) rfl q10) rfl ?_
      refine run_s (ss_move rfl) rfl ?_
      obtain ⟨q11, h⟩ := h
      refine run_w (ws_call (xs := [.tmp 38, .tmp 39]) (ids := [40]) rfl rfl rfl rfl (c_spec_l04Conjugate (el (growL (p.length : Int) []) v6_1) p q11) rfl ?_ )
      rintro _ rfl
      refine ⟨rfl, ?_⟩
      refine run_s (ss_assign rfl) rfl ?_
      refine run_nil ?_
      refine aw_gh (gh_frzE (id := 40) ci rfl (fun _ => rfl)) ?_
      refine aw_seq ?_
      refine aw_region ?_
      refine run_s (ss_move rfl) rfl ?_
      refine run_s (ss_move rfl) rfl ?_
      obtain ⟨q13, h⟩ := h
      refine run_w (ws_callR (xs := [.tmp 41, .tmp 42]) (cs := [.own (rows o23_1), .lst (ints (conjI (el (growL (p.length : Int) []) v6_1) p))]) (ids := []) rfl (.inr ⟨rfl, rfl⟩) rfl rfl (fz_cons (fz_own (fz_map (fun _ => rfl) _)) (fz_cons rfl fz_nil)) (c_spec_l03Search o23_1 (conjI (el (growL (p.length : Int) []) v6_1) p) q13) rfl ?_ )
      rintro _ ⟨r1_0, q14, rfl⟩
      replace h := h r1_0 q14
      refine ⟨rfl, rfl, ?_⟩
      refine run_s (ss_assign rfl) rfl ?_
      refine run_nil ?_
      refine aw_seq ?_
      refine aw_gh (gh_to (n := 77) (σ' := [(23, ⟨rows o23_1, []⟩), (2, ⟨[cnil], []⟩)]) (env' := [(0, .c (.lst (ints p))), (2, .cell 2 0), (4, .c (.lst (rows (growL (p.length : Int) [])))), (5, .ref 23), (6, .c (ci v6_1)), (7, .c (.lst (ints (conjI (el (growL (p.length : Int) []) v6_1) p)))), (8, .c (ci r1_0)), (29, .ref 23), (30, .c (ci (o23_1.length : Int))), (31, .c (cb (decide ((o23_1.length : Int) ≤ 12))))]) rfl rfl ⟨rfl, rfl, rfl, rfl, rfl, rfl, rfl, rfl, rfl, rfl, trivial⟩) ?_
      refine aw_region ?_
      refine run_s (ss_move rfl) rfl ?_
      refine run_s (ss_move rfl) rfl ?_
      refine run_s (ss_lenR (f := (fun r => C.lst (ints r))) rfl rfl) rfl ?_
      refine run_s (ss_eql rfl rfl) rfl ?_
      refine run_s (ss_move rfl) rfl ?_
      refine run_split (s := 48) rfl (fun q15 => ?_) (fun q15 => ?_)
      ·replace h := h.1 (of_decide_eq_true q15)
       refine run_gf rfl rfl q15 rfl ?_
       refine run_gf rfl rfl q15 rfl ?_
       refine run_gf rfl rfl q15 rfl ?_
       refine run_gf rfl rfl q15 rfl ?_
       refine run_gf rfl rfl q15 rfl ?_
       refine run_gf rfl rfl q15 rfl ?_
       refine run_gf rfl rfl q15 rfl ?_
       refine run_s (ss_pickT rfl q15 rfl) rfl ?_
       refine run_nil ?_
       refine aw_cond rfl (fun q16 => ?_) (fun q16 => ?_)
       ·skip
        refine aw_seq ?_
        refine aw_region ?_
        refine run_s (ss_move rfl) rfl ?_
        refine run_w (ws_buildSlice (id := 58) (ps := [(0, .tmp 57)]) rfl rfl (Nat.le_of_ble_eq_true rfl) rfl ⟨rfl, ?_⟩)
        refine run_s (ss_move rfl) rfl ?_
        refine run_s (ss_move rfl) rfl ?_
        refine run_gh (gh_frzE (id := 23) (fun r => C.lst (ints r)) rfl (fun _ => rfl)) ?_
        obtain ⟨q17, h⟩ := h
        refine run_s (ss_slL (f := (fun r => C.lst (ints r))) rfl ⟨_, rfl⟩ rfl q17) rfl ?_
        obtain ⟨q18, h⟩ := h
        refine run_w (ws_appL (fun r => C.lst (ints r)) (l := [conjI (el (growL (p.length : Int) []) v6_1) p]) (m := sl o23_1 r1_0 (o23_1.length : Int)) rfl rfl rfl (Nat.le_of_ble_eq_true rfl) q18 ⟨rfl, ?_⟩)
        refine run_s (ss_assign rfl) rfl ?_
        refine run_nil ?_
        refine aw_gh (gh_to (n := 77) (σ' := [(58, ⟨rows (([conjI (el (growL (p.length : Int) []) v6_1) p]) ++ (sl o23_1 r1_0 (o23_1.length : Int))), []⟩), (2, ⟨[cnil], []⟩)]) (env' := [(0, .c (.lst (ints p))), (2, .cell 2 0), (4, .c (.lst (rows (growL (p.length : Int) [])))), (5, .c (.lst (rows o23_1))), (6, .c (ci v6_1)), (8, .c (ci r1_0)), (9, .ref 58), (29, .c (.lst (rows o23_1))), (30, .c (ci (o23_1.length : Int))), (31, .c (cb (decide ((o23_1.length : Int) ≤ 12))))]) rfl rfl ⟨rfl, rfl, rfl, rfl, rfl, rfl, rfl, rfl, rfl, rfl, trivial⟩) ?_
        refine aw_region ?_
        refine run_w (ws_buildSlice (id := 63) (ps := []) rfl rfl (Nat.le_of_ble_eq_true rfl) rfl ⟨rfl, ?_⟩)
        refine run_s (ss_move rfl) rfl ?_
        refine run_s (ss_move rfl) rfl ?_
        obtain ⟨q19, h⟩ := h
        refine run_s (ss_slL (f := (fun r => C.lst (ints r))) rfl rfl ⟨_, rfl⟩ q19) rfl ?_
        obtain ⟨q20, h⟩ := h
        refine run_w (ws_appL (fun r => C.lst (ints r)) (l := ([] : List (List Int))) (m := sl o23_1 0 r1_0) rfl rfl rfl (Nat.le_of_ble_eq_true rfl) q20 ⟨rfl, ?_⟩)
        refine run_s (ss_move rfl) rfl ?_
        obtain ⟨q21, h⟩ := h
        refine run_w (ws_app1 (fun r => C.lst (ints r)) (l := ([] : List (List Int)) ++ (sl o23_1 0 r1_0)) (m := ([conjI (el (growL (p.length : Int) []) v6_1) p]) ++ (sl o23_1 r1_0 (o23_1.length : Int))) rfl rfl rfl rfl rfl (Nat.le_of_ble_eq_true rfl) q21 ⟨rfl, ?_⟩)
        refine run_s (ss_assign rfl) rfl ?_
        refine run_nil ?_
        refine aw_region ?_
        refine run_s (ss_move rfl) rfl ?_
        obtain ⟨q22, h⟩ := h
        refine run_s (ss_add rfl rfl q22) rfl ?_
        refine run_s (ss_assign rfl) rfl ?_
        refine run_nil ?_
        exact ⟨v6_1 + 1, (([] : List (List Int)) ++ (sl o23_1 0 r1_0)) ++ (([conjI (el (growL (p.length : Int) []) v6_1) p]) ++ (sl o23_1 r1_0 (o23_1.length : Int))), ghe_step (gh_ren (a := 63) (b := 23) rfl rfl) (ghe_to (n := 77) rfl rfl ⟨rfl, rfl, rfl, rfl, rfl, trivial⟩), h.1, h.2⟩
       ·cases q16
      ·replace h := h.2 (of_decide_eq_false q15)
       refine run_gt rfl rfl q15 ?_
       refine run_s (ss_move rfl) rfl ?_
       refine run_gt rfl rfl q15 ?_
       refine run_s (ss_move rfl) rfl ?_
       refine run_gt rfl rfl q15 ?_
       obtain ⟨q23, h⟩ := h
       refine run_s (ss_idxR (f := (fun r => C.lst (ints r))) rfl rfl rfl q23) rfl ?_
       refine run_gt rfl rfl q15 ?_
       refine run_s (ss_loadR (f := (fun r => C.lst (ints r))) rfl rfl q23 rfl rfl) rfl ?_
       refine run_gt rfl rfl q15 ?_
       refine run_s (ss_move rfl) rfl ?_
       refine run_gt rfl rfl q15 ?_
       obtain ⟨q24, h⟩ := h
       refine run_w (ws_call (xs := [.tmp 52, .tmp 53]) (ids := []) rfl rfl rfl rfl (c_spec_l01Same (el o23_1 r1_0) (conjI (el (growL (p.length : Int) []) v6_1) p) q24) rfl ?_ )
       rintro _ rfl
       refine ⟨rfl, ?_⟩
       refine run_gt rfl rfl q15 ?_
       refine run_s (ss_not rfl) rfl ?_
       refine run_s (ss_pickF rfl q15 rfl) rfl ?_
       refine run_nil ?_
       refine aw_cond rfl (fun q26 => ?_) (fun q26 => ?_)
       ·replace h := h.1 (of_decide_eq_false (bnot_t q26))
        refine aw_seq ?_
        refine aw_region ?_
        refine run_s (ss_move rfl) rfl ?_
        refine run_w (ws_buildSlice (id := 58) (ps := [(0, .tmp 57)]) rfl rfl (Nat.le_of_ble_eq_true rfl) rfl ⟨rfl, ?_⟩)
        refine run_s (ss_move rfl) rfl ?_
        refine run_s (ss_move rfl) rfl ?_
        refine run_gh (gh_frzE (id := 23) (fun r => C.lst (ints r)) rfl (fun _ => rfl)) ?_
        obtain ⟨q27, h⟩ := h
        refine run_s (ss_slL (f := (fun r => C.lst (ints r))) rfl ⟨_, rfl⟩ rfl q27) rfl ?_
        obtain ⟨q28, h⟩ := h
        refine run_w (ws_appL (fun r => C.lst (ints r)) (l := [conjI (el (growL (p.length : Int) []) v6_1) p]) (m := sl o23_1 r1_0 (o23_1.length : Int)) rfl rfl rfl (Nat.le_of_ble_eq_true rfl) q28 ⟨rfl, ?_⟩)
        refine run_s (ss_assign rfl) rfl ?_
        refine run_nil ?_
        refine aw_gh (gh_to (n := 77) (σ' := [(58, ⟨rows (([conjI (el (growL (p.length : Int) []) v6_1) p]) ++ (sl o23_1 r1_0 (o23_1.length : Int))), []⟩), (2, ⟨[cnil], []⟩)]) (env' := [(0, .c (.lst (ints p))), (2, .cell 2 0), (4, .c (.lst (rows (growL (p.length : Int) [])))), (5, .c (.lst (rows o23_1))), (6, .c (ci v6_1)), (8, .c (ci r1_0)), (9, .ref 58), (29, .c (.lst (rows o23_1))), (30, .c (ci (o23_1.length : Int))), (31, .c (cb (decide ((o23_1.length : Int) ≤ 12)))), (49, .c (.lst (rows o23_1))), (50, .c (ci r1_0)), (51, .c (.ptr ((rows o23_1).drop r1_0.toNat))), (52, .c (.lst (ints (el o23_1 r1_0)))), (53, .c (.lst (ints (conjI (el (growL (p.length : Int) []) v6_1) p)))), (54, .c (cb (decide ((el o23_1 r1_0) = (conjI (el (growL (p.length : Int) []) v6_1) p))))), (55, .c (cb (!(decide ((el o23_1 r1_0) = (conjI (el (growL (p.length : Int) []) v6_1) p))))))]) rfl rfl ⟨rfl, rfl, rfl, rfl, rfl, rfl, rfl, rfl, rfl, rfl, rfl, rfl, rfl, rfl, rfl, rfl, rfl, trivial⟩) ?_
        refine aw_region ?_
        refine run_w (ws_buildSlice (id := 63) (ps := []) rfl rfl (Nat.le_of_ble_eq_true rfl) rfl ⟨rfl, ?_⟩)
        refine run_s (ss_move rfl) rfl ?_
        refine run_s (ss_move rfl) rfl ?_
        obtain ⟨q29, h⟩ := h
        refine run_s (ss_slL (f := (fun r => C.lst (ints r))) rfl rfl ⟨_, rfl⟩ q29) rfl ?_
        obtain ⟨q30, h⟩ := h
        refine run_w (ws_appL (fun r => C.lst (ints r)) (l := ([] : List (List Int))) (m := sl o23_1 0 r1_0) rfl rfl rfl (Nat.le_of_ble_eq_true rfl) q30 ⟨rfl, ?_⟩)
        refine run_s (ss_move rfl) rfl ?_
        obtain ⟨q31, h⟩ := h
        refine run_w (ws_app1 (fun r => C.lst (ints r)) (l := ([] : List (List Int)) ++ (sl o23_1 0 r1_0)) (m := ([conjI (el (growL (p.length : Int) []) v6_1) p]) ++ (sl o23_1 r1_0 (o23_1.length : Int))) rfl rfl rfl rfl rfl (Nat.le_of_ble_eq_true rfl) q31 ⟨rfl, ?_⟩)
        refine run_s (ss_assign rfl) rfl ?_
        refine run_nil ?_
        refine aw_gh (gh_to (n := 77) (σ' := [(63, ⟨rows ((([] : List (List Int)) ++ (sl o23_1 0 r1_0)) ++ (([conjI (el (growL (p.length : Int) []) v6_1) p]) ++ (sl o23_1 r1_0 (o23_1.length : Int)))), []⟩), (2, ⟨[cnil], []⟩)]) (env' := [(0, .c (.lst (ints p))), (2, .cell 2 0), (4, .c (.lst (rows (growL (p.length : Int) [])))), (5, .ref 63), (6, .c (ci v6_1)), (29, .c (.lst (rows o23_1))), (30, .c (ci (o23_1.length : Int))), (31, .c (cb (decide ((o23_1.length : Int) ≤ 12)))), (49, .c (.lst (rows o23_1))), (50, .c (ci r1_0)), (51, .c (.ptr ((rows o23_1).drop r1_0.toNat))), (52, .c (.lst (ints (el o23_1 r1_0)))), (53, .c (.lst (ints (conjI (el (growL (p.length : Int) []) v6_1) p)))), (54, .c (cb (decide ((el o23_1 r1_0) = (conjI (el (growL (p.length : Int) []) v6_1) p))))), (55, .c (cb (!(decide ((el o23_1 r1_0) = (conjI (el (growL (p.length : Int) []) v6_1) p))))))]) rfl rfl ⟨rfl, rfl, rfl, rfl, rfl, rfl, rfl, rfl, rfl, rfl, rfl, rfl, rfl, rfl, rfl, trivial⟩) ?_
        refine aw_region ?_
        refine run_s (ss_move rfl) rfl ?_
        obtain ⟨q32, h⟩ := h
        refine run_s (ss_add rfl rfl q32) rfl ?_
        refine run_s (ss_assign rfl) rfl ?_
        refine run_nil ?_
        exact ⟨v6_1 + 1, (([] : List (List Int)) ++ (sl o23_1 0 r1_0)) ++ (([conjI (el (growL (p.length : Int) []) v6_1) p]) ++ (sl o23_1 r1_0 (o23_1.length : Int))), ghe_step (gh_ren (a := 63) (b := 23) rfl rfl) (ghe_to (n := 77) rfl rfl ⟨rfl, rfl, rfl, rfl, rfl, trivial⟩), h.1, h.2⟩
       ·replace h := h.2 (of_decide_eq_true (bnot_f q26))
        refine aw_skip ?_
        refine aw_gh (gh_to (n := 77) (σ' := [(23, ⟨rows o23_1, []⟩), (2, ⟨[cnil], []⟩)]) (env' := [(0, .c (.lst (ints p))), (2, .cell 2 0), (4, .c (.lst (rows (growL (p.length : Int) [])))), (5, .ref 23), (6, .c (ci v6_1)), (29, .ref 23), (30, .c (ci (o23_1.length : Int))), (31, .c (cb (decide ((o23_1.length : Int) ≤ 12)))), (49, .ref 23), (50, .c (ci r1_0)), (51, .cell 23 r1_0.toNat), (52, .c (.lst (ints (el o23_1 r1_0)))), (53, .c (.lst (ints (conjI (el (growL (p.length : Int) []) v6_1) p)))), (54, .c (cb (decide ((el o23_1 r1_0) = (conjI (el (growL (p.length : Int) []) v6_1) p))))), (55, .c (cb (!(decide ((el o23_1 r1_0) = (conjI (el (growL (p.length : Int) []) v6_1) p))))))]) rfl rfl ⟨rfl, rfl, rfl, rfl, rfl, rfl, rfl, rfl, rfl, rfl, rfl, rfl, rfl, rfl, rfl, trivial⟩) ?_
        refine aw_region ?_
        refine run_s (ss_move rfl) rfl ?_
        obtain ⟨q33, h⟩ := h
        refine run_s (ss_add rfl rfl q33) rfl ?_
        refine run_s (ss_assign rfl) rfl ?_
        refine run_nil ?_
        exact ⟨v6_1 + 1, o23_1, ghe_to (n := 77) rfl rfl ⟨rfl, rfl, rfl, rfl, rfl, trivial⟩, h.1, h.2⟩
     ·replace h := h.2 (of_decide_eq_false q9)
      refine aw_exit ?_
      refine aw_seq ?_
      refine aw_seq ?_
      refine aw_gh (gh_to (n := 77) (σ' := [(23, ⟨rows o23_1, []⟩), (2, ⟨[cnil], []⟩)]) (env' := [(2, .cell 2 0), (5, .ref 23)]) rfl rfl ⟨rfl, rfl, trivial⟩) ?_
      refine aw_region ?_
      refine run_s (ss_move rfl) rfl ?_
      refine run_s (ss_lenR (f := (fun r => C.lst (ints r))) rfl rfl) rfl ?_
      refine run_s (ss_gtr rfl rfl) rfl ?_
      refine run_nil ?_
      refine aw_cond rfl (fun q34 => ?_) (fun q34 => ?_)
      ·replace h := h.1 (of_decide_eq_true q34)
       refine aw_seq ?_
       refine aw_region ?_
       refine run_s (ss_build0) rfl ?_
       refine run_w (ws_storeS rfl rfl (Nat.le_of_ble_eq_true rfl) rfl rfl rfl ⟨rfl, ?_⟩)
       refine run_s (ss_assign rfl) rfl ?_
       refine run_nil ?_
       refine aw_ret ?_
       exact retAF_mk (retv2 rfl (rv_struct rfl rfl rfl) (rv_tmp rfl)) rfl rfl ⟨_, (cle_tup (cleL_cons (cle_agg (cleL_cons cle_nilO cleL_nil)) (cleL_cons (cle_refl _) cleL_nil))), _, _, h, rfl⟩
      ·replace h := h.2 (of_decide_eq_false q34)
       refine aw_skip ?_
       refine aw_seq ?_
       refine aw_region ?_
       refine run_s (ss_move rfl) rfl ?_
       obtain ⟨q35, h⟩ := h
       refine run_w (ws_callR (xs := [.tmp 74]) (cs := [.own (rows o23_1)]) (ids := [75]) rfl (.inr ⟨rfl, rfl⟩) rfl rfl (fz_cons (fz_own (fz_map (fun _ => rfl) _)) fz_nil) (c_spec_l04Conjugation o23_1 q35) rfl ?_ )
       rintro _ rfl
       refine ⟨(slf_own (slfL_map (f := (fun r => C.own (ints r))) (fun _ => (slf_own (slfL_map (f := ci) (fun _ => rfl) _))) _)), rfl, ?_⟩
       refine run_s (ss_build (ps := [(0, .tmp 75)]) rfl rfl) rfl ?_
       refine run_w (ws_storeS rfl rfl (Nat.le_of_ble_eq_true rfl) rfl rfl rfl ⟨rfl, ?_⟩)
       refine run_s (ss_assign rfl) rfl ?_
       refine run_nil ?_
       refine aw_ret ?_
       exact retAF_mk (retv2 rfl (rv_struct rfl rfl rfl) (rv_tmp rfl)) rfl rfl ⟨_, (cle_refl _), _, _, h, rfl⟩
    ·replace h := h.2 (of_decide_eq_false q8)
     refine run_gf rfl rfl q8 rfl ?_
     refine run_gf rfl rfl q8 rfl ?_
     refine run_gf rfl rfl q8 rfl ?_
     refine run_s (ss_pickF rfl q8 rfl) rfl ?_
     refine run_nil ?_
     refine aw_cond rfl (fun q37 => ?_) (fun q37 => ?_)
     ·cases q37
     ·skip
      refine aw_exit ?_
      refine aw_seq ?_
      refine aw_seq ?_
      refine aw_gh (gh_to (n := 77) (σ' := [(23, ⟨rows o23_1, []⟩), (2, ⟨[cnil], []⟩)]) (env' := [(2, .cell 2 0), (5, .ref 23)]) rfl rfl ⟨rfl, rfl, trivial⟩) ?_
      refine aw_region ?_
      refine run_s (ss_move rfl) rfl ?_
      refine run_s (ss_lenR (f := (fun r => C.lst (ints r))) rfl rfl) rfl ?_
      refine run_s (ss_gtr rfl rfl) rfl ?_
      refine run_nil ?_
      refine aw_cond rfl (fun q38 => ?_) (fun q38 => ?_)
      ·replace h := h.1 (of_decide_eq_true q38)
       refine aw_seq ?_
       refine aw_region ?_
       refine run_s (ss_build0) rfl ?_
       refine run_w (ws_storeS rfl rfl (Nat.le_of_ble_eq_true rfl) rfl rfl rfl ⟨rfl, ?_⟩)
       refine run_s (ss_assign rfl) rfl ?_
       refine run_nil ?_
       refine aw_ret ?_
       exact retAF_mk (retv2 rfl (rv_struct rfl rfl rfl) (rv_tmp rfl)) rfl rfl ⟨_, (cle_tup (cleL_cons (cle_agg (cleL_cons cle_nilO cleL_nil)) (cleL_cons (cle_refl _) cleL_nil))), _, _, h, rfl⟩
      ·replace h := h.2 (of_decide_eq_false q38)
       refine aw_skip ?_
       refine aw_seq ?_
       refine aw_region ?_
       refine run_s (ss_move rfl) rfl ?_
       obtain ⟨q39, h⟩ := h
       refine run_w (ws_callR (xs := [.tmp 74]) (cs := [.own (rows o23_1)]) (ids := [75]) rfl (.inr ⟨rfl, rfl⟩) rfl rfl (fz_cons (fz_own (fz_map (fun _ => rfl) _)) fz_nil) (c_spec_l04Conjugation o23_1 q39) rfl ?_ )
       rintro _ rfl
       refine ⟨(slf_own (slfL_map (f := (fun r => C.own (ints r))) (fun _ => (slf_own (slfL_map (f := ci) (fun _ => rfl) _))) _)), rfl, ?_⟩
       refine run_s (ss_build (ps := [(0, .tmp 75)]) rfl rfl) rfl ?_
       refine run_w (ws_storeS rfl rfl (Nat.le_of_ble_eq_true rfl) rfl rfl rfl ⟨rfl, ?_⟩)
       refine run_s (ss_assign rfl) rfl ?_
       refine run_nil ?_
       refine aw_ret ?_
       exact retAF_mk (retv2 rfl (rv_struct rfl rfl rfl) (rv_tmp rfl)) rfl rfl ⟨_, (cle_refl _), _, _, h, rfl⟩

theorem c_spec_ClassQuandle (p : List Int) (hp : small p) : AF Try.prog 14 [.lst (ints p)] (fun R_ => R_ = .tup [.agg [.own (orows (ClqT p))], ci (ClqE p)]) :=
  (w_spec_ClassQuandle p (fun y0 y1 => y0 = ClqT p ∧ y1 = ClqE p) (p_spec_ClassQuandle p hp)).mono (by rintro r ⟨_, _, ⟨rfl, rfl⟩, rfl⟩; rfl)

section
variable {a b : List (List (List Int))} {f f1 f2 : List Int} {u1 u2 : List Bool} {s s1 s2 : List Int} {x v : Int}
end
section
variable {a b : List (List (List Int))} {f c c' p : List Int}
end
end Go.Proofs.Ytggeeemecgmhiaa

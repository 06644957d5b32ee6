/- Contracts of functions that the law FnRacks reaches: conditions, plain proofs, walks; no condition. -/
import Derived.Test.YtbodlnpmplcaoaaKRacksb
import Derived.Test.YtbodlnpmplcaoaaPc
namespace Go.Proofs.Ytbodlnpmplcaoaa

def wp_spec_l01Same (a : List Int) (b : List Int) (Q : Bool → Prop) : Prop :=
 ((¬ ((a.length : Int) = (b.length : Int)) →
  Q false) ∧
 ((a.length : Int) = (b.length : Int) →
  ∃ (H1 : Int → Prop) (m1 : Int → Nat),
  H1 0 ∧
  ∀ (v5_1 : Int), H1 v5_1 →
  ( ((v5_1 < (a.length : Int) →
    (0 ≤ v5_1 ∧ v5_1 < (a.length : Int)) ∧
    (0 ≤ v5_1 ∧ v5_1 < (b.length : Int)) ∧
    ((¬ (el a v5_1 = el b v5_1) →
     Q false) ∧
    (el a v5_1 = el b v5_1 →
     (InI (v5_1 + 1)) ∧
     (H1 (v5_1 + 1) ∧ m1 (v5_1 + 1) < m1 v5_1)))) ∧
   (¬ (v5_1 < (a.length : Int)) →
    Q true)))))

def wp_spec_l01Then (p : List Int) (q : List Int) (Q : List Int → Prop) : Prop :=
 ∃ (H1 : Int → List Int → Prop) (m1 : Int → List Int → Nat),
 H1 0 ([] : List Int) ∧
 ∀ (v6_1 : Int) (o7_1 : List Int), H1 v6_1 o7_1 →
 ( ((v6_1 < (p.length : Int) →
   (0 ≤ v6_1 ∧ v6_1 < (p.length : Int)) ∧
   (0 ≤ el p v6_1 ∧ el p v6_1 < (q.length : Int)) ∧
   ((o7_1.length : Int) + (([el q (el p v6_1)]).length : Int) ≤ 1000000000) ∧
   (InI (v6_1 + 1)) ∧
   (H1 (v6_1 + 1) (o7_1 ++ ([el q (el p v6_1)])) ∧ m1 (v6_1 + 1) (o7_1 ++ ([el q (el p v6_1)])) < m1 v6_1 o7_1)) ∧
  (¬ (v6_1 < (p.length : Int)) →
   Q o7_1)))

def wp_impl_then (p : List Int) (q : List Int) (Q : List Int → Prop) : Prop :=
 (0 ≤ (p.length : Int) ∧ (p.length : Int) ≤ 1000000000) ∧
 ∃ (H1 : Int → List Int → Prop) (m1 : Int → List Int → Nat),
 H1 0 (List.replicate (p.length : Int).toNat (0 : Int)) ∧
 ∀ (v13_1 : Int) (o10_1 : List Int), H1 v13_1 o10_1 →
 ( ((v13_1 < (p.length : Int) →
   (0 ≤ v13_1 ∧ v13_1 < (p.length : Int)) ∧
   (0 ≤ el p v13_1 ∧ el p v13_1 < (q.length : Int)) ∧
   (0 ≤ v13_1 ∧ v13_1 < (o10_1.length : Int)) ∧
   (InI (v13_1 + 1)) ∧
   (H1 (v13_1 + 1) (se o10_1 v13_1 (el q (el p v13_1))) ∧ m1 (v13_1 + 1) (se o10_1 v13_1 (el q (el p v13_1))) < m1 v13_1 o10_1)) ∧
  (¬ (v13_1 < (p.length : Int)) →
   Q o10_1)))

def wp_spec_l01Back (p : List Int) (Q : List Int → Prop) : Prop :=
 (0 ≤ (p.length : Int) ∧ (p.length : Int) ≤ 1000000000) ∧
 ∃ (H1 : Int → List Int → Prop) (m1 : Int → List Int → Nat),
 H1 0 (List.replicate (p.length : Int).toNat (0 : Int)) ∧
 ∀ (v4_1 : Int) (o7_1 : List Int), H1 v4_1 o7_1 →
 ( ((v4_1 < (p.length : Int) →
   (0 ≤ v4_1 ∧ v4_1 < (p.length : Int)) ∧
   (0 ≤ el p v4_1 ∧ el p v4_1 < (o7_1.length : Int)) ∧
   (InI (v4_1 + 1)) ∧
   (H1 (v4_1 + 1) (se o7_1 (el p v4_1) v4_1) ∧ m1 (v4_1 + 1) (se o7_1 (el p v4_1) v4_1) < m1 v4_1 o7_1)) ∧
  (¬ (v4_1 < (p.length : Int)) →
   Q o7_1)))

def wp_impl_inverse (p : List Int) (Q : List Int → Prop) : Prop :=
 (0 ≤ (p.length : Int) ∧ (p.length : Int) ≤ 1000000000) ∧
 ∃ (H1 : Int → List Int → Prop) (m1 : Int → List Int → Nat),
 H1 0 (List.replicate (p.length : Int).toNat (0 : Int)) ∧
 ∀ (v11_1 : Int) (o8_1 : List Int), H1 v11_1 o8_1 →
 ( ((v11_1 < (p.length : Int) →
   (0 ≤ v11_1 ∧ v11_1 < (p.length : Int)) ∧
   (0 ≤ el p v11_1 ∧ el p v11_1 < (o8_1.length : Int)) ∧
   (InI (v11_1 + 1)) ∧
   (H1 (v11_1 + 1) (se o8_1 (el p v11_1) v11_1) ∧ m1 (v11_1 + 1) (se o8_1 (el p v11_1) v11_1) < m1 v11_1 o8_1)) ∧
  (¬ (v11_1 < (p.length : Int)) →
   Q o8_1)))

def wp_impl_permutationRows_1 (row : List Int) (Q : Bool → Prop) : Prop :=
 (small row) ∧
 Q (!((isPerm row)))

def wp_impl_permutationRows (t : List (List Int)) (Q : Bool → Prop) : Prop :=
 (small t ∧ ∀ r_ ∈ t, (fun z0 => small z0) r_) ∧
 Q (!((t.any (fun z0 => !isPerm z0))))

def wp_impl_increasing (list : List Int) (Q : Bool → Prop) : Prop :=
 ∃ (H1 : Int → Prop) (m1 : Int → Nat),
 H1 1 ∧
 ∀ (v3_1 : Int), H1 v3_1 →
 ( ((v3_1 < (list.length : Int) →
   (InI (v3_1 - 1)) ∧
   (0 ≤ v3_1 - 1 ∧ v3_1 - 1 < (list.length : Int)) ∧
   (0 ≤ v3_1 ∧ v3_1 < (list.length : Int)) ∧
   ((el list v3_1 ≤ el list (v3_1 - 1) →
    Q false) ∧
   (¬ (el list v3_1 ≤ el list (v3_1 - 1)) →
    (InI (v3_1 + 1)) ∧
    (H1 (v3_1 + 1) ∧ m1 (v3_1 + 1) < m1 v3_1)))) ∧
  (¬ (v3_1 < (list.length : Int)) →
   Q true)))

def wp_impl_isIdentity (p : List Int) (Q : Bool → Prop) : Prop :=
 (small p) ∧
 Q (incB p)

def wp_impl_rackFault (t : List (List Int)) (Q : List Int → Prop) : Prop :=
 ∃ (H1 : Int → Prop) (m1 : Int → Nat),
 H1 0 ∧
 ∀ (v10_1 : Int), H1 v10_1 →
 ( ((v10_1 < (t.length : Int) →
   ∃ (H2 : Int → Prop) (m2 : Int → Nat),
   H2 0 ∧
   ∀ (v14_2 : Int), H2 v14_2 →
   ( ((v14_2 < (t.length : Int) →
     ∃ (H3 : Int → Prop) (m3 : Int → Nat),
     H3 0 ∧
     ∀ (v18_3 : Int), H3 v18_3 →
     ( ((v18_3 < (t.length : Int) →
       (0 ≤ v10_1 ∧ v10_1 < (t.length : Int)) ∧
       (0 ≤ v14_2 ∧ v14_2 < (t.length : Int)) ∧
       (0 ≤ v10_1 ∧ v10_1 < (t.length : Int)) ∧
       (0 ≤ v10_1 ∧ v10_1 < (t.length : Int)) ∧
       (0 ≤ v18_3 ∧ v18_3 < ((el t v14_2).length : Int)) ∧
       (0 ≤ el (el t v14_2) v18_3 ∧ el (el t v14_2) v18_3 < ((el t v10_1).length : Int)) ∧
       (0 ≤ v14_2 ∧ v14_2 < ((el t v10_1).length : Int)) ∧
       (0 ≤ el (el t v10_1) v14_2 ∧ el (el t v10_1) v14_2 < (t.length : Int)) ∧
       (0 ≤ v18_3 ∧ v18_3 < ((el t v10_1).length : Int)) ∧
       (0 ≤ el (el t v10_1) v18_3 ∧ el (el t v10_1) v18_3 < ((el t (el (el t v10_1) v14_2)).length : Int)) ∧
       ((¬ (el (el t v10_1) (el (el t v14_2) v18_3) = el (el t (el (el t v10_1) v14_2)) (el (el t v10_1) v18_3)) →
        Q ([v10_1, v14_2, v18_3])) ∧
       (el (el t v10_1) (el (el t v14_2) v18_3) = el (el t (el (el t v10_1) v14_2)) (el (el t v10_1) v18_3) →
        (InI (v18_3 + 1)) ∧
        (H3 (v18_3 + 1) ∧ m3 (v18_3 + 1) < m3 v18_3)))) ∧
      (¬ (v18_3 < (t.length : Int)) →
       (InI (v14_2 + 1)) ∧
       (H2 (v14_2 + 1) ∧ m2 (v14_2 + 1) < m2 v14_2))))) ∧
    (¬ (v14_2 < (t.length : Int)) →
     (InI (v10_1 + 1)) ∧
     (H1 (v10_1 + 1) ∧ m1 (v10_1 + 1) < m1 v10_1))))) ∧
  (¬ (v10_1 < (t.length : Int)) →
   Q ([]))))

def wp_spec_l03Fault (t : List (List Int)) (Q : List Int → Prop) : Prop :=
 ∃ (H1 : Int → Prop) (m1 : Int → Nat),
 H1 0 ∧
 ∀ (v4_1 : Int), H1 v4_1 →
 ( ((v4_1 < (t.length : Int) →
   ∃ (H2 : Int → Prop) (m2 : Int → Nat),
   H2 0 ∧
   ∀ (v5_2 : Int), H2 v5_2 →
   ( ((v5_2 < (t.length : Int) →
     ∃ (H3 : Int → Prop) (m3 : Int → Nat),
     H3 0 ∧
     ∀ (v6_3 : Int), H3 v6_3 →
     ( ((v6_3 < (t.length : Int) →
       (0 ≤ v4_1 ∧ v4_1 < (t.length : Int)) ∧
       (0 ≤ v5_2 ∧ v5_2 < (t.length : Int)) ∧
       (0 ≤ v4_1 ∧ v4_1 < (t.length : Int)) ∧
       (0 ≤ v4_1 ∧ v4_1 < (t.length : Int)) ∧
       (0 ≤ v6_3 ∧ v6_3 < ((el t v5_2).length : Int)) ∧
       (0 ≤ el (el t v5_2) v6_3 ∧ el (el t v5_2) v6_3 < ((el t v4_1).length : Int)) ∧
       (0 ≤ v5_2 ∧ v5_2 < ((el t v4_1).length : Int)) ∧
       (0 ≤ el (el t v4_1) v5_2 ∧ el (el t v4_1) v5_2 < (t.length : Int)) ∧
       (0 ≤ v6_3 ∧ v6_3 < ((el t v4_1).length : Int)) ∧
       (0 ≤ el (el t v4_1) v6_3 ∧ el (el t v4_1) v6_3 < ((el t (el (el t v4_1) v5_2)).length : Int)) ∧
       ((¬ (el (el t v4_1) (el (el t v5_2) v6_3) = el (el t (el (el t v4_1) v5_2)) (el (el t v4_1) v6_3)) →
        Q ([v4_1, v5_2, v6_3])) ∧
       (el (el t v4_1) (el (el t v5_2) v6_3) = el (el t (el (el t v4_1) v5_2)) (el (el t v4_1) v6_3) →
        (InI (v6_3 + 1)) ∧
        (H3 (v6_3 + 1) ∧ m3 (v6_3 + 1) < m3 v6_3)))) ∧
      (¬ (v6_3 < (t.length : Int)) →
       (InI (v5_2 + 1)) ∧
       (H2 (v5_2 + 1) ∧ m2 (v5_2 + 1) < m2 v5_2))))) ∧
    (¬ (v5_2 < (t.length : Int)) →
     (InI (v4_1 + 1)) ∧
     (H1 (v4_1 + 1) ∧ m1 (v4_1 + 1) < m1 v4_1))))) ∧
  (¬ (v4_1 < (t.length : Int)) →
   Q ([]))))

def wp_impl_IsRack (r : List (List Int)) (Q : Bool → Prop) : Prop :=
 (small2 r) ∧
 (((isTab r) = true →
  (small2 r) ∧
  (((r.all isPerm) = true →
   (((rackF r) = [] →
    (isTab r = true) ∧
    Q true) ∧
   (¬ (rackF r) = [] →
    (isTab r = true) ∧
    Q false))) ∧
  ((r.all isPerm) = false →
   Q false))) ∧
 ((isTab r) = false →
  Q false))

def wp_spec_l03Is (r : List (List Int)) (Q : Bool → Prop) : Prop :=
 (small2 r) ∧
 (((isTab r) = false →
  Q false) ∧
 ((isTab r) = true →
  ∃ (H1 : Int → Prop) (m1 : Int → Nat),
  H1 0 ∧
  ∀ (v3_1 : Int), H1 v3_1 →
  ( ((v3_1 < (r.length : Int) →
    (0 ≤ v3_1 ∧ v3_1 < (r.length : Int)) ∧
    (small (el r v3_1)) ∧
    (((permB (el r v3_1)) = false →
     Q false) ∧
    ((permB (el r v3_1)) = true →
     (InI (v3_1 + 1)) ∧
     (H1 (v3_1 + 1) ∧ m1 (v3_1 + 1) < m1 v3_1)))) ∧
   (¬ (v3_1 < (r.length : Int)) →
    (isTab r = true) ∧
    Q (decide (((rackF r).length : Int) = 0)))))))

def wp_spec_IsRack (r : List (List Int)) (Q : Bool → Prop) : Prop :=
 (small2 r) ∧
 Q (isRk r)

def wp_impl_kinkOf (r : List (List Int)) (Q : List Int → Prop) : Prop :=
 (0 ≤ (r.length : Int) ∧ (r.length : Int) ≤ 1000000000) ∧
 ∃ (H1 : Int → List Int → Prop) (m1 : Int → List Int → Nat),
 H1 0 (List.replicate (r.length : Int).toNat (0 : Int)) ∧
 ∀ (v11_1 : Int) (o8_1 : List Int), H1 v11_1 o8_1 →
 ( ((v11_1 < ((List.replicate (r.length : Int).toNat (0 : Int)).length : Int) →
   (0 ≤ v11_1 ∧ v11_1 < (r.length : Int)) ∧
   (0 ≤ v11_1 ∧ v11_1 < ((el r v11_1).length : Int)) ∧
   (0 ≤ v11_1 ∧ v11_1 < (o8_1.length : Int)) ∧
   (InI (v11_1 + 1)) ∧
   (H1 (v11_1 + 1) (se o8_1 v11_1 (el (el r v11_1) v11_1)) ∧ m1 (v11_1 + 1) (se o8_1 v11_1 (el (el r v11_1) v11_1)) < m1 v11_1 o8_1)) ∧
  (¬ (v11_1 < ((List.replicate (r.length : Int).toNat (0 : Int)).length : Int)) →
   Q o8_1)))

def wp_impl_IsInvolutoryRack_1 (row : List Int) (Q : Bool → Prop) : Prop :=
 (small row ∧ ∀ x_ ∈ row, 0 ≤ x_ ∧ x_ < (row.length : Int)) ∧
 (small (row.map (el row))) ∧
 Q (!((incB (row.map (el row)))))

def wp_impl_dualRack (r : List (List Int)) (Q : List (List Int) → Prop) : Prop :=
 ∃ (H1 : Int → List (List Int) → Prop) (m1 : Int → List (List Int) → Nat),
 H1 0 ([] : List (List Int)) ∧
 ∀ (v9_1 : Int) (o200048_1 : List (List Int)), H1 v9_1 o200048_1 →
 ( ((v9_1 < (r.length : Int) →
   (0 ≤ v9_1 ∧ v9_1 < (r.length : Int)) ∧
   (small (el r v9_1) ∧ isPerm (el r v9_1) = true) ∧
   ((o200048_1.length : Int) + (([backI (el r v9_1)]).length : Int) ≤ 1000000000) ∧
   (InI (v9_1 + 1)) ∧
   (H1 (v9_1 + 1) (o200048_1 ++ ([backI (el r v9_1)])) ∧ m1 (v9_1 + 1) (o200048_1 ++ ([backI (el r v9_1)])) < m1 v9_1 o200048_1)) ∧
  (¬ (v9_1 < (r.length : Int)) →
   Q o200048_1)))

def wp_impl_QuandleOf_1 (x : Int) (y : Int) (back : List Int) (r : List (List Int)) (Q : Int → Prop) : Prop :=
 (0 ≤ x ∧ x < (r.length : Int)) ∧
 (0 ≤ y ∧ y < ((el r x).length : Int)) ∧
 (0 ≤ el (el r x) y ∧ el (el r x) y < (back.length : Int)) ∧
 Q (el back (el (el r x) y))

def wp_spec_RackFault (r : List (List Int)) (Q : List Int → Int → Prop) : Prop :=
 (small2 r) ∧
 (((isTab r) = false →
  Q ([]) 1) ∧
 ((isTab r) = true →
  ∃ (H1 : Int → Prop) (m1 : Int → Nat),
  H1 0 ∧
  ∀ (v4_1 : Int), H1 v4_1 →
  ( ((v4_1 < (r.length : Int) →
    (0 ≤ v4_1 ∧ v4_1 < (r.length : Int)) ∧
    (small (el r v4_1)) ∧
    (((permB (el r v4_1)) = false →
     Q ([]) 5) ∧
    ((permB (el r v4_1)) = true →
     (InI (v4_1 + 1)) ∧
     (H1 (v4_1 + 1) ∧ m1 (v4_1 + 1) < m1 v4_1)))) ∧
   (¬ (v4_1 < (r.length : Int)) →
    (isTab r = true) ∧
    ((((rackF r).length : Int) = 0 →
     Q ([]) 4) ∧
    (¬ (((rackF r).length : Int) = 0) →
     Q (rackF r) 0)))))))

def wp_impl_RackFault (r : List (List Int)) (Q : List Int → Int → Prop) : Prop :=
 (small2 r) ∧
 (((isTab r) = false →
  Q ([]) 1) ∧
 ((isTab r) = true →
  (small2 r) ∧
  (((r.all isPerm) = false →
   Q ([]) 5) ∧
  ((r.all isPerm) = true →
   (((rackF r) = [] →
    (isTab r = true) ∧
    Q ([]) 4) ∧
   (¬ (rackF r) = [] →
    (isTab r = true) ∧
    Q (rackF r) 0))))))

def wp_impl_KinkOf (r : List (List Int)) (Q : List Int → Int → Prop) : Prop :=
 (small2 r) ∧
 (((isRk r) = false →
  Q ([]) 1) ∧
 ((isRk r) = true →
  (isTab r = true) ∧
  Q (diag r) 0))

def wp_impl_IsInvolutoryRack (r : List (List Int)) (Q : Bool → Int → Prop) : Prop :=
 (small2 r) ∧
 (((isRk r) = false →
  Q false 1) ∧
 ((isRk r) = true →
  (small r ∧ ∀ r_ ∈ r, (fun z0 => small z0 ∧ isPerm z0 = true) r_) ∧
  Q (!((r.any (fun z0 => !invB z0)))) 0))

def wp_impl_DualRack (r : List (List Int)) (Q : List (List Int) → Int → Prop) : Prop :=
 (small2 r) ∧
 (((isRk r) = false →
  Q ([]) 1) ∧
 ((isRk r) = true →
  (isTab r = true ∧ r.all isPerm = true) ∧
  Q (r.map backI) 0))

def wp_impl_QuandleOf (r : List (List Int)) (Q : List (List Int) → Int → Prop) : Prop :=
 (small2 r) ∧
 (((isRk r) = false →
  Q ([]) 1) ∧
 ((isRk r) = true →
  (isTab r = true) ∧
  (small (diag r) ∧ isPerm (diag r) = true) ∧
  (0 ≤ (r.length : Int) ∧ (r.length : Int) ≤ 1000000 ∧ ∀ x_ y_, 0 ≤ x_ → x_ < (r.length : Int) → 0 ≤ y_ → y_ < (r.length : Int) → (fun z0 z1 => isTab r = true ∧ ((backI (diag r)).length : Int) = (r.length : Int) ∧ 0 ≤ z0 ∧ z0 < (r.length : Int) ∧ 0 ≤ z1 ∧ z1 < (r.length : Int)) x_ y_) ∧
  Q (tab (r.length : Int) (fun z0 z1 => el (backI (diag r)) (el (el r z0) z1))) 0))


theorem maxI_step (l : List Int) (a : Int) : ∀ (i : Nat), i < l.length → (l.take (i + 1)).foldl (fun a b => if a < b then b else a) a = (if (l.take i).foldl (fun a b => if a < b then b else a) a < el l i then el l i else (l.take i).foldl (fun a b => if a < b then b else a) a) := fun i hi => by
  rw [List.take_succ_eq_append_getElem hi, List.foldl_append]
  have : el l i = l[i] := by simp [el, List.getD_eq_getElem?_getD, List.getElem?_eq_getElem hi]
  rw [this]; rfl
theorem p_spec_l01Same (a b : List Int) (hp : small a ∧ small b) : wp_spec_l01Same a b (fun y0 => y0 = decide (a = b)) := by
  unfold wp_spec_l01Same
  obtain ⟨ha, hb⟩ := hp
  refine ⟨fun h => (decide_eq_false fun e => h (by rw [e])).symm, fun h => ⟨fun i => 0 ≤ i ∧ i ≤ (a.length : Int) ∧ Upto i fun j => el a j = el b j, fun i => ((a.length : Int) - i).toNat, ⟨by omega, by omega, upto0⟩, ?_⟩⟩
  rintro i ⟨h0, h1, hI⟩
  dsimp only
  refine ⟨fun hlt => ⟨⟨h0, hlt⟩, ⟨h0, by omega⟩, fun hf => (decide_eq_false fun e => hf (by rw [e])).symm, fun ht => ⟨⟨by omega, by omega⟩, ⟨by omega, by omega, upto1 hI ht⟩, by omega⟩⟩, fun hge => ?_⟩
  exact (decide_eq_true (ext_el (by omega) fun j h2 h3 => hI j h2 (by omega))).symm
theorem p_spec_l01Then (p q : List Int) (hp : small p ∧ ∀ x_ ∈ p, 0 ≤ x_ ∧ x_ < (q.length : Int)) : wp_spec_l01Then p q (fun y0 => y0 = p.map (el q)) := by
  unfold wp_spec_l01Then
  obtain ⟨h1, h2⟩ := hp
  refine ⟨fun i o => 0 ≤ i ∧ i ≤ (p.length : Int) ∧ o.length = i.toNat ∧ Upto i fun x => el o x = el q (el p x), fun i _ => ((p.length : Int) - i).toNat, ⟨by omega, by omega, by simp, upto0⟩, ?_⟩
  rintro i o ⟨i0, i1, il, iI⟩
  dsimp only
  refine ⟨fun ilt => ⟨⟨i0, ilt⟩, h2 _ (el_mem ⟨i0, ilt⟩), by simp; omega, ⟨by omega, by omega⟩, ⟨by omega, by omega, by simp; omega, app1 (f := fun x => el q (el p x)) (by omega) iI rfl⟩, by omega⟩, fun ige => ext_el (by simp; omega) fun j a b => ?_⟩
  rw [el_map ⟨a, by omega⟩]; exact iI j a (by omega)
theorem p_impl_then (p q : List Int) (hp : small p ∧ ∀ x_ ∈ p, 0 ≤ x_ ∧ x_ < (q.length : Int)) : wp_impl_then p q (fun y0 => y0 = p.map (el q)) := by
  unfold wp_impl_then
  obtain ⟨h1, h2⟩ := hp
  refine ⟨⟨by omega, h1⟩, fun i o => 0 ≤ i ∧ i ≤ (p.length : Int) ∧ o.length = p.length ∧ Upto i fun j => el o j = el q (el p j), fun i _ => ((p.length : Int) - i).toNat, ⟨by omega, by omega, by simp, upto0⟩, ?_⟩
  rintro i o ⟨h0, h3, hl, hI⟩
  dsimp only
  refine ⟨fun hlt => ⟨⟨h0, hlt⟩, h2 _ (el_mem ⟨h0, hlt⟩), ⟨h0, by omega⟩, ⟨by omega, by omega⟩, ⟨by omega, by omega, by simp [hl], fill1 (f := fun j => el q (el p j)) ⟨h0, by omega⟩ hI rfl⟩, by omega⟩, fun hge => ext_el (by simp [hl]) fun j a b => ?_⟩
  rw [el_map ⟨a, by omega⟩]; exact hI j a (by omega)
theorem p_spec_l01Back (p : List Int) (hp : small p ∧ isPerm p = true) : wp_spec_l01Back p (fun y0 => y0 = backI p) := by
  unfold wp_spec_l01Back
  obtain ⟨h1, h2⟩ := hp
  refine ⟨⟨by omega, h1⟩, fun i o => 0 ≤ i ∧ i ≤ (p.length : Int) ∧ o.length = p.length ∧ Upto i fun j => el o (el p j) = j, fun i _ => ((p.length : Int) - i).toNat, ⟨by omega, by omega, by simp, upto0⟩, ?_⟩
  rintro i o ⟨h0, h3, hl, hI⟩
  dsimp only
  refine ⟨fun hlt => ?_, fun hge => backI_uniq h2 hl fun j a b => hI j a (by omega)⟩
  have hb := isPerm_el h2 ⟨h0, hlt⟩
  refine ⟨⟨h0, hlt⟩, ⟨hb.1, by omega⟩, ⟨by omega, by omega⟩, ⟨by omega, by omega, by simp [hl], upto1 (fun j a b => ?_) (by rw [el_se_same ⟨hb.1, by omega⟩])⟩, by omega⟩
  have hj := isPerm_el h2 (i := j) ⟨a, by omega⟩
  rw [el_se_ne hb.1 hj.1 fun e => by have := isPerm_inj h2 ⟨h0, hlt⟩ ⟨a, by omega⟩ e; omega]
  exact hI j a b
theorem p_impl_inverse (p : List Int) (hp : small p ∧ isPerm p = true) : wp_impl_inverse p (fun y0 => y0 = backI p) := p_spec_l01Back p hp
theorem p_impl_permutationRows_1 (row : List Int) (hp : small row) : wp_impl_permutationRows_1 row (fun y0 => y0 = !isPerm row) := ⟨hp, rfl⟩
theorem p_impl_permutationRows (t : List (List Int)) (hp : small2 t) : wp_impl_permutationRows t (fun y0 => y0 = t.all isPerm) := by
  refine ⟨⟨hp.1, hp.2⟩, ?_⟩
  rw [List.not_any_eq_all_not]; simp
theorem p_impl_increasing (list : List Int) (hp : small list) : wp_impl_increasing list (fun y0 => y0 = incB list) := by
  unfold wp_impl_increasing
  refine ⟨fun i => 1 ≤ i ∧ (i ≤ (list.length : Int) ∨ i = 1) ∧ ∀ j, 0 ≤ j → j + 1 < i → el list j < el list (j + 1), fun i => ((list.length : Int) - i).toNat, ⟨by omega, by omega, fun j _ _ => by omega⟩, ?_⟩
  rintro i ⟨h0, h3, hI⟩
  dsimp only
  refine ⟨fun hlt => ⟨⟨by omega, by omega⟩, ⟨by omega, by omega⟩, ⟨by omega, hlt⟩, fun hf => ?_, fun ht => ⟨⟨by omega, by omega⟩, ⟨by omega, by omega, fun j a b => ?_⟩, by omega⟩⟩, fun hge => ?_⟩
  · symm; rw [Bool.eq_false_iff]; intro hc
    have := incB_iff.1 hc (i - 1) (by omega) (by omega)
    rw [show i - 1 + 1 = i by omega] at this
    omega
  · by_cases e : j + 1 = i
    · have e2 : j = i - 1 := by omega
      subst e2
      rw [show i - 1 + 1 = i by omega]; omega
    · exact hI j a (by omega)
  · exact (incB_iff.2 fun j a b => hI j a (by omega)).symm
theorem p_impl_isIdentity (p : List Int) (hp : small p) : wp_impl_isIdentity p (fun y0 => y0 = incB p) := ⟨hp, rfl⟩
theorem p_spec_l03Fault (t : List (List Int)) (hp : isTab t = true) : wp_spec_l03Fault t (fun y0 => y0 = rackF t) := by
  unfold wp_spec_l03Fault rackF
  have hn := isTab_len hp
  have tr := fun (i : Int) (hi : 0 ≤ i ∧ i < (t.length : Int)) => isTab_row hp hi
  refine ⟨fun x => 0 ≤ x ∧ x ≤ (t.length : Int) ∧ Upto x fun a => ∀ b, 0 ≤ b → b < (t.length : Int) → ∀ c, 0 ≤ c → c < (t.length : Int) → rackB t a b c = false, fun x => ((t.length : Int) - x).toNat, ⟨by omega, by omega, upto0⟩, ?_⟩
  rintro x ⟨x0, x1, xI⟩
  dsimp only
  refine ⟨fun xlt => ?_, fun xge => (first3_none fun a h1 h2 => xI a h1 (by omega)).symm⟩
  refine ⟨fun y => 0 ≤ y ∧ y ≤ (t.length : Int) ∧ Upto y fun b => ∀ c, 0 ≤ c → c < (t.length : Int) → rackB t x b c = false, fun y => ((t.length : Int) - y).toNat, ⟨by omega, by omega, upto0⟩, ?_⟩
  rintro y ⟨y0, y1, yI⟩
  dsimp only
  refine ⟨fun ylt => ?_, fun yge => ⟨⟨by omega, by omega⟩, ⟨by omega, by omega, upto1 xI fun b h1 h2 => yI b h1 (by omega)⟩, by omega⟩⟩
  refine ⟨fun z => 0 ≤ z ∧ z ≤ (t.length : Int) ∧ Upto z fun c => rackB t x y c = false, fun z => ((t.length : Int) - z).toNat, ⟨by omega, by omega, upto0⟩, ?_⟩
  rintro z ⟨z0, z1, zI⟩
  dsimp only
  refine ⟨fun zlt => ?_, fun zge => ⟨⟨by omega, by omega⟩, ⟨by omega, by omega, upto1 yI fun c h1 h2 => zI c h1 (by omega)⟩, by omega⟩⟩
  have hx := tr x ⟨x0, xlt⟩
  have hy := tr y ⟨y0, ylt⟩
  have xy := hx.2 y y0 ylt
  have xz := hx.2 z z0 zlt
  have yz := hy.2 z z0 zlt
  have r1 := tr _ xy
  refine ⟨⟨x0, xlt⟩, ⟨y0, ylt⟩, ⟨x0, xlt⟩, ⟨x0, xlt⟩, ⟨z0, by omega⟩, ⟨yz.1, by omega⟩, ⟨y0, by omega⟩, xy, ⟨z0, by omega⟩, ⟨xz.1, by omega⟩, fun h => ?_, fun h => ⟨⟨by omega, by omega⟩, ⟨by omega, by omega, upto1 zI (by simp [rackB, h])⟩, by omega⟩⟩
  exact (first3_found ⟨x0, xlt⟩ ⟨y0, ylt⟩ ⟨z0, zlt⟩ (by simp [rackB, h]) xI yI zI).symm
theorem p_impl_rackFault (t : List (List Int)) (hp : isTab t = true) : wp_impl_rackFault t (fun y0 => y0 = rackF t) := p_spec_l03Fault t hp
theorem isEmpty_iff_nil {l : List Int} : l.isEmpty = decide ((l.length : Int) = 0) := by cases l <;> simp; omega
theorem p_impl_IsRack (r : List (List Int)) (hp : small2 r) : wp_impl_IsRack r (fun y0 => y0 = isRk r) := by
  unfold wp_impl_IsRack isRk
  refine ⟨hp, fun h => ⟨hp, fun h2 => ⟨fun h3 => ⟨h, ?_⟩, fun h3 => ⟨h, ?_⟩⟩, fun h2 => ?_⟩, fun h => ?_⟩
  · rw [h, h2, h3]; rfl
  · rw [h, h2]; cases e : rackF r with
    | nil => exact absurd e h3
    | cons x l => rfl
  · rw [h, h2]; rfl
  · rw [h]; rfl
theorem p_spec_l03Is (r : List (List Int)) (hp : small2 r) : wp_spec_l03Is r (fun y0 => y0 = isRk r) := by
  unfold wp_spec_l03Is isRk
  refine ⟨hp, fun h => by rw [h]; rfl, fun h => ?_⟩
  rw [h, ← isTab_perm h, isEmpty_iff_nil]
  refine ⟨fun i => 0 ≤ i ∧ i ≤ (r.length : Int) ∧ Upto i fun j => permB (el r j) = true, fun i => ((r.length : Int) - i).toNat, ⟨by omega, by omega, upto0⟩, ?_⟩
  rintro i ⟨h0, h3, hI⟩
  dsimp only
  refine ⟨fun hlt => ⟨⟨h0, hlt⟩, hp.2 _ (el_mem ⟨h0, hlt⟩), fun hf => by rw [all_f ⟨h0, hlt⟩ hf]; rfl, fun ht => ⟨⟨by have := isTab_len h; omega, by have := isTab_len h; omega⟩, ⟨by omega, by omega, upto1 hI ht⟩, by omega⟩⟩, fun hge => ⟨rfl, ?_⟩⟩
  rw [all_t (by rwa [show i = (r.length : Int) by omega] at hI)]; rfl
theorem small_diag {c : List (List Int)} (h : isTab c = true) : small (diag c) := by have := isTab_len h; show ((diag c).length : Int) ≤ 1000000000; simp; omega
theorem permB_diag {c : List (List Int)} (h : isTab c = true) : permB (diag c) = isPerm (diag c) := by
  have := isTab_len h
  unfold permB
  have e1 : decide (1 ≤ ((diag c).length : Int)) = true := decide_eq_true (by simp; omega)
  have e2 : decide (((diag c).length : Int) ≤ 12) = true := decide_eq_true (by simp; omega)
  rw [e1, e2]; rfl
theorem p_spec_IsRack (r : List (List Int)) (hp : small2 r) : wp_spec_IsRack r (fun y0 => y0 = isRk r) := ⟨hp, rfl⟩
theorem p_impl_kinkOf (r : List (List Int)) (hp : isTab r = true) : wp_impl_kinkOf r (fun y0 => y0 = diag r) := by
  unfold wp_impl_kinkOf
  have hn := isTab_len hp
  simp only [List.length_replicate]
  refine ⟨⟨by omega, by omega⟩, fun i o => 0 ≤ i ∧ i ≤ (r.length : Int) ∧ o.length = r.length ∧ Upto i fun j => el o j = el (el r j) j, fun i _ => ((r.length : Int) - i).toNat, ⟨by omega, by omega, by simp, upto0⟩, ?_⟩
  rintro i o ⟨h0, h1, hl, hI⟩
  dsimp only
  refine ⟨fun hlt => ?_, fun hge => eq_ran (by omega) fun j h2 h3 => hI j h2 (by omega)⟩
  have hr := isTab_row hp (i := i) ⟨h0, by omega⟩
  exact ⟨⟨h0, by omega⟩, ⟨h0, by omega⟩, ⟨h0, by omega⟩, ⟨by omega, by omega⟩, ⟨by omega, by omega, by simp [hl], fill1 (f := fun j => el (el r j) j) ⟨h0, by omega⟩ hI rfl⟩, by omega⟩
theorem p_impl_IsInvolutoryRack_1 (row : List Int) (hp : small row ∧ isPerm row = true) : wp_impl_IsInvolutoryRack_1 row (fun y0 => y0 = !invB row) := by
  obtain ⟨h1, h2⟩ := hp
  refine ⟨⟨h1, (isPerm_iff.1 h2).2⟩, by show ((row.map (el row)).length : Int) ≤ 1000000000; simpa using h1, ?_⟩
  congr 1
  have hin : ∀ i, 0 ≤ i → i < ((row.map (el row)).length : Int) → 0 ≤ el (row.map (el row)) i ∧ el (row.map (el row)) i < ((row.map (el row)).length : Int) := fun i a b => by
    simp at b
    rw [el_map ⟨a, b⟩]
    simp
    exact isPerm_el h2 (isPerm_el h2 ⟨a, b⟩)
  rw [incB_unit hin, Bool.eq_iff_iff, decide_eq_true_eq, invB_iff, eq_unitI rfl]
  simp only [List.length_map]
  constructor
  · intro h i a b; rw [← el_map (f := el row) ⟨a, b⟩]; exact h i a b
  · intro h i a b; rw [el_map ⟨a, b⟩]; exact h i a b
theorem tab_rows {r : List (List Int)} (h : isTab r = true) : ∀ q ∈ r, small q := (isTab_small h).2
theorem dual_loop {r : List (List Int)} (_ht : isTab r = true) (_hr : r.all isPerm = true) {o : List (List Int)} {i : Int} (il : o.length = i.toNat) (hi : (r.length : Int) ≤ i ∧ i ≤ (r.length : Int)) (hI : Upto i fun x => el o x = backI (el r x)) : o = r.map backI :=
  ext_el (by simp; omega) fun j a b => by rw [el_map ⟨a, by omega⟩]; exact hI j a (by omega)
theorem p_impl_dualRack (r : List (List Int)) (hp : isTab r = true ∧ r.all isPerm = true) : wp_impl_dualRack r (fun y0 => y0 = r.map backI) := by
  unfold wp_impl_dualRack
  obtain ⟨ht, hr⟩ := hp
  have hn := isTab_len ht
  refine ⟨fun i o => 0 ≤ i ∧ i ≤ (r.length : Int) ∧ o.length = i.toNat ∧ Upto i fun x => el o x = backI (el r x), fun i _ => ((r.length : Int) - i).toNat, ⟨by omega, by omega, by simp, upto0⟩, ?_⟩
  rintro i o ⟨i0, i1, il, iI⟩
  dsimp only
  exact ⟨fun ilt => ⟨⟨i0, ilt⟩, ⟨tab_rows ht _ (el_mem ⟨i0, ilt⟩), all_perm_el hr ⟨i0, ilt⟩⟩, by simp; omega, ⟨by omega, by omega⟩, ⟨by omega, by omega, by simp; omega, app1 (f := fun x => backI (el r x)) (by omega) iI rfl⟩, by omega⟩, fun ige => dual_loop ht hr il ⟨by omega, by omega⟩ iI⟩
theorem p_impl_KinkOf (r : List (List Int)) (hp : small2 r) : wp_impl_KinkOf r (fun y0 y1 => y0 = KinT r ∧ y1 = rkE r) := by
  unfold wp_impl_KinkOf rkE KinT
  exact ⟨hp, fun h => by rw [h]; exact ⟨rfl, rfl⟩, fun h => ⟨isRk_tab h, by rw [h]; exact ⟨rfl, rfl⟩⟩⟩
theorem inv_back {row : List Int} (h : isPerm row = true) : (row = backI row) ↔ invB row = true := by
  rw [invB_iff]
  constructor
  · intro e i a b
    have := el_backI h (i := i) ⟨a, b⟩
    rw [← e] at this; exact this
  · intro hI; exact backI_uniq h rfl hI
theorem p_impl_IsInvolutoryRack (r : List (List Int)) (hp : small2 r) : wp_impl_IsInvolutoryRack r (fun y0 y1 => y0 = (isRk r && r.all invB) ∧ y1 = rkE r) := by
  unfold wp_impl_IsInvolutoryRack rkE
  refine ⟨hp, fun h => by rw [h]; exact ⟨rfl, rfl⟩, fun h => ⟨⟨hp.1, fun q hq => ⟨hp.2 q hq, List.all_eq_true.1 (isRk_perm h) q hq⟩⟩, ?_⟩⟩
  rw [h, List.not_any_eq_all_not]
  simp
theorem small2_tab {n : Int} {f : Int → Int → Int} (h : n ≤ 1000) : small2 (tab n f) := ⟨by show ((tab n f).length : Int) ≤ 1000000000; simp [tab]; omega, fun r hr => by
  unfold tab at hr
  unfold ran at hr
  obtain ⟨k, hk, rfl⟩ := List.mem_map.1 hr
  simp; omega⟩
theorem inN_t {n x : Int} (h : (decide (0 ≤ x) && decide (x ≤ n - 1)) = true) : inN n x = true := h
theorem aff2 {n a b c : Int} (h : (inN 12 (n - 1) && inN n a && inN n b && inN n c) = false) : [] = AffT n a b c ∧ 2 = AffE n a b c := by
  have e : AffE n a b c = 2 := by unfold AffE; rw [h]; rfl
  exact ⟨by unfold AffT; rw [e]; rfl, e.symm⟩
theorem aff5 {n a b c : Int} (h : (inN 12 (n - 1) && inN n a && inN n b && inN n c) = true) (hc : isCyc (affT n a b c) = false) : [] = AffT n a b c ∧ 5 = AffE n a b c := by
  have e : AffE n a b c = 5 := by unfold AffE; rw [h, hc]; rfl
  exact ⟨by unfold AffT; rw [e]; rfl, e.symm⟩
theorem aff0 {n a b c : Int} (h : (inN 12 (n - 1) && inN n a && inN n b && inN n c) = true) (hc : isCyc (affT n a b c) = true) : affT n a b c = AffT n a b c ∧ 0 = AffE n a b c := by
  have e : AffE n a b c = 0 := by unfold AffE; rw [h, hc]; rfl
  exact ⟨by unfold AffT; rw [e]; rfl, e.symm⟩
theorem inN_12 {n : Int} : inN 12 (n - 1) = (decide (1 ≤ n) && decide (n ≤ 12)) := by
  unfold inN
  rw [Bool.eq_iff_iff]; simp; omega
theorem p_impl_DualRack (r : List (List Int)) (hp : small2 r) : wp_impl_DualRack r (fun y0 y1 => y0 = DuaT r ∧ y1 = rkE r) := by
  unfold wp_impl_DualRack rkE DuaT
  exact ⟨hp, fun h => by rw [h]; exact ⟨rfl, rfl⟩, fun h => ⟨⟨isRk_tab h, isRk_perm h⟩, by rw [h]; exact ⟨rfl, rfl⟩⟩⟩
theorem rkf1 {r : List (List Int)} (h : isTab r = false) : [] = RkfT r ∧ 1 = RkfE r := by
  have e : RkfE r = 1 := by unfold RkfE; rw [h]; rfl
  exact ⟨by unfold RkfT; rw [e]; rfl, e.symm⟩
theorem rkf5 {r : List (List Int)} (h : isTab r = true) (h2 : r.all isPerm = false) : [] = RkfT r ∧ 5 = RkfE r := by
  have e : RkfE r = 5 := by unfold RkfE; rw [h, h2]; rfl
  exact ⟨by unfold RkfT; rw [e]; rfl, e.symm⟩
theorem rkf4 {r : List (List Int)} (h : isTab r = true) (h2 : r.all isPerm = true) (h3 : rackF r = []) : [] = RkfT r ∧ 4 = RkfE r := by
  have e : RkfE r = 4 := by unfold RkfE; rw [h, h2, if_pos h3]; rfl
  exact ⟨by unfold RkfT; rw [e]; rfl, e.symm⟩
theorem rkf0 {r : List (List Int)} (h : isTab r = true) (h2 : r.all isPerm = true) (h3 : ¬ rackF r = []) : rackF r = RkfT r ∧ 0 = RkfE r := by
  have e : RkfE r = 0 := by unfold RkfE; rw [h, h2, if_neg h3]; rfl
  exact ⟨by unfold RkfT; rw [e]; rfl, e.symm⟩
theorem p_spec_RackFault (r : List (List Int)) (hp : small2 r) : wp_spec_RackFault r (fun y0 y1 => y0 = RkfT r ∧ y1 = RkfE r) := by
  unfold wp_spec_RackFault
  refine ⟨hp, fun h => rkf1 h, fun h => ?_⟩
  have hn := isTab_len h
  refine ⟨fun i => 0 ≤ i ∧ i ≤ (r.length : Int) ∧ Upto i fun j => permB (el r j) = true, fun i => ((r.length : Int) - i).toNat, ⟨by omega, by omega, upto0⟩, ?_⟩
  rintro i ⟨h0, h3, hI⟩
  dsimp only
  refine ⟨fun hlt => ⟨⟨h0, hlt⟩, hp.2 _ (el_mem ⟨h0, hlt⟩), fun hf => rkf5 h (by rw [← isTab_perm h]; exact all_f ⟨h0, hlt⟩ hf), fun ht => ⟨⟨by omega, by omega⟩, ⟨by omega, by omega, upto1 hI ht⟩, by omega⟩⟩, fun hge => ?_⟩
  have ha : r.all isPerm = true := by rw [← isTab_perm h]; exact all_t (by rwa [show i = (r.length : Int) by omega] at hI)
  refine ⟨h, fun h4 => rkf4 h ha (List.eq_nil_of_length_eq_zero (by omega)), fun h4 => rkf0 h ha fun e => h4 (by rw [e]; rfl)⟩
theorem p_impl_RackFault (r : List (List Int)) (hp : small2 r) : wp_impl_RackFault r (fun y0 y1 => y0 = RkfT r ∧ y1 = RkfE r) := by
  unfold wp_impl_RackFault
  exact ⟨hp, fun h => rkf1 h, fun h => ⟨hp, fun h2 => rkf5 h h2, fun h2 => ⟨fun h3 => ⟨h, rkf4 h h2 h3⟩, fun h3 => ⟨h, rkf0 h h2 h3⟩⟩⟩⟩
theorem dpw1 {c : List (List Int)} {x k : Int} (h : isCyc c = false) : 0 = DpwV c x k ∧ 1 = DpwE c x k := by
  have e : DpwE c x k = 1 := by unfold DpwE; rw [h]; rfl
  exact ⟨by unfold DpwV; rw [e]; rfl, e.symm⟩
theorem dpw2 {c : List (List Int)} {x k : Int} (h : isCyc c = true) (h2 : (inN (c.length : Int) x && inN 1001 k) = false) : 0 = DpwV c x k ∧ 2 = DpwE c x k := by
  have e : DpwE c x k = 2 := by unfold DpwE; rw [h, h2]; rfl
  exact ⟨by unfold DpwV; rw [e]; rfl, e.symm⟩
theorem dpw0 {c : List (List Int)} {x k : Int} (h : isCyc c = true) (h2 : (inN (c.length : Int) x && inN 1001 k) = true) : iterN (fun x => el (el c x) x) k.toNat x = DpwV c x k ∧ 0 = DpwE c x k := by
  have e : DpwE c x k = 0 := by unfold DpwE; rw [h, h2]; rfl
  exact ⟨by unfold DpwV; rw [e]; rfl, e.symm⟩
theorem inN_1001 {k : Int} : inN 1001 k = (decide (0 ≤ k) && decide (k ≤ 1000)) := by unfold inN; rfl
theorem dso1 {c : List (List Int)} {x z : Int} (h : isCyc c = false) : 0 = DsoV c x z ∧ 1 = DsoE c x z := by
  have e : DsoE c x z = 1 := by unfold DsoE; rw [h]; rfl
  exact ⟨by unfold DsoV; rw [e]; rfl, e.symm⟩
theorem dso2 {c : List (List Int)} {x z : Int} (h : isCyc c = true) (h2 : (inN (c.length : Int) x && inN (c.length : Int) z) = false) : 0 = DsoV c x z ∧ 2 = DsoE c x z := by
  have e : DsoE c x z = 2 := by unfold DsoE; rw [h, h2]; rfl
  exact ⟨by unfold DsoV; rw [e]; rfl, e.symm⟩
theorem dso0 {c : List (List Int)} {x z : Int} (h : isCyc c = true) (h2 : (inN (c.length : Int) x && inN (c.length : Int) z) = true) : idxI (el c x) z = DsoV c x z ∧ 0 = DsoE c x z := by
  have e : DsoE c x z = 0 := by unfold DsoE; rw [h, h2]; rfl
  exact ⟨by unfold DsoV; rw [e]; rfl, e.symm⟩
theorem p_impl_QuandleOf_1 (x y : Int) (back : List Int) (r : List (List Int)) (hp : isTab r = true ∧ (back.length : Int) = (r.length : Int) ∧ 0 ≤ x ∧ x < (r.length : Int) ∧ 0 ≤ y ∧ y < (r.length : Int)) : wp_impl_QuandleOf_1 x y back r (fun y0 => y0 = el back (el (el r x) y)) := by
  obtain ⟨h1, h2, h3, h4, h5, h6⟩ := hp
  have a := rk_len h1 ⟨h3, h4⟩
  have b := rk_el h1 ⟨h3, h4⟩ ⟨h5, h6⟩
  exact ⟨⟨h3, h4⟩, ⟨h5, by omega⟩, ⟨b.1, by omega⟩, rfl⟩
theorem p_impl_QuandleOf (r : List (List Int)) (hp : small2 r) : wp_impl_QuandleOf r (fun y0 y1 => y0 = QuaR r ∧ y1 = rkE r) := by
  unfold wp_impl_QuandleOf rkE QuaR
  refine ⟨hp, fun h => by rw [h]; exact ⟨rfl, rfl⟩, fun h => ?_⟩
  have ht := isRk_tab h
  have hn := isTab_len ht
  exact ⟨ht, ⟨small_diag ht, isPerm_kink h⟩, ⟨by omega, by omega, fun x y a b c d => ⟨ht, by simp, a, b, c, d⟩⟩, by rw [h]; exact ⟨rfl, rfl⟩⟩
set_option maxRecDepth 100000 in
set_option maxHeartbeats 4000000 in
theorem w_spec_l01Same (a : List Int) (b : List Int) (Q : Bool → Prop) (h : wp_spec_l01Same a b Q) : AF Try.prog 200 [.lst (ints a), .lst (ints b)] (fun R_ => ∃ y0, Q y0 ∧ R_ = cb y0) := by
  refine AF.ofWQ (af_enter (n := 26) Try.func200 rfl (by rfl) rfl (Nat.le_of_ble_eq_true rfl) ?_)
  unfold wp_spec_l01Same at h
  refine aw_seq ?_
  refine aw_gh (gh_to (n := 26) (σ' := []) (env' := [(0, .c (.lst (ints a))), (1, .c (.lst (ints b)))]) rfl rfl ⟨rfl, rfl, trivial⟩) ?_
  refine aw_region ?_
  refine run_s (ss_assign rfl) rfl ?_
  refine run_nil ?_
  refine aw_seq ?_
  refine aw_seq ?_
  refine aw_region ?_
  refine run_s (ss_move rfl) rfl ?_
  refine run_s (ss_lenL (f := ci) rfl) rfl ?_
  refine run_s (ss_move rfl) rfl ?_
  refine run_s (ss_lenL (f := ci) rfl) rfl ?_
  refine run_s (ss_neq rfl rfl) rfl ?_
  refine run_nil ?_
  refine aw_cond rfl (fun q1 => ?_) (fun q1 => ?_)
  · replace h := h.1 (of_decide_eq_false (bnot_t q1))
    refine aw_seq ?_
    refine aw_gh (gh_to (n := 26) (σ' := []) (env' := [(4, .c (cb false))]) rfl rfl ⟨rfl, trivial⟩) ?_
    refine aw_region ?_
    refine run_s (ss_assign rfl) rfl ?_
    refine run_nil ?_
    refine aw_ret ?_
    exact retAF_mk (retv1 rfl (rv_tmp rfl)) rfl rfl ⟨_, (cle_refl _), _, h, rfl⟩
  · replace h := h.2 (of_decide_eq_true (bnot_f q1))
    refine aw_skip ?_
    refine aw_seq ?_
    refine aw_seq ?_
    refine aw_gh (gh_to (n := 26) (σ' := []) (env' := [(0, .c (.lst (ints a))), (1, .c (.lst (ints b)))]) rfl rfl ⟨rfl, rfl, trivial⟩) ?_
    refine aw_region ?_
    refine run_s (ss_assign rfl) rfl ?_
    refine run_nil ?_
    refine aw_block ?_
    obtain ⟨H1, m1, q2, h⟩ := h
    refine aw_loop1 (fun (v5_1 : Int) => ⟨[], [(0, .c (.lst (ints a))), (1, .c (.lst (ints b))), (5, .c (ci v5_1))], 26⟩) H1 m1 ⟨0, ghe_to (n := 26) rfl rfl ⟨rfl, rfl, rfl, trivial⟩, q2⟩ ?_
    rintro v5_1 q2
    replace h := h v5_1 q2
    refine aw_seq ?_
    refine aw_seq ?_
    refine aw_region ?_
    refine run_s (ss_move rfl) rfl ?_
    refine run_s (ss_move rfl) rfl ?_
    refine run_s (ss_lenL (f := ci) rfl) rfl ?_
    refine run_s (ss_lss rfl rfl) rfl ?_
    refine run_nil ?_
    refine aw_cond rfl (fun q3 => ?_) (fun q3 => ?_)
    · replace h := h.1 (of_decide_eq_true q3)
      refine aw_skip ?_
      refine aw_seq ?_
      refine aw_block ?_
      refine aw_seq ?_
      refine aw_gh (gh_to (n := 26) (σ' := []) (env' := [(0, .c (.lst (ints a))), (1, .c (.lst (ints b))), (5, .c (ci v5_1))]) rfl rfl ⟨rfl, rfl, rfl, trivial⟩) ?_
      refine aw_regionD (kd := kdl [0, 0, 0, 1, 0, 0, 0, 1, 0]) (ord := [0, 1, 2, 4, 5, 6, 3, 7, 8]) [] mixed (by kernel_rfl) ?_
      refine rd_s rfl rfl trivial (ss_move rfl) rfl ?_
      refine rd_s rfl rfl trivial (ss_move rfl) rfl ?_
      obtain ⟨q4, h⟩ := h
      refine rd_s rfl rfl trivial (ss_idxL rfl rfl q4) rfl ?_
      refine rd_s rfl rfl trivial (ss_move rfl) rfl ?_
      refine rd_s rfl rfl trivial (ss_move rfl) rfl ?_
      obtain ⟨q5, h⟩ := h
      refine rd_s rfl rfl trivial (ss_idxL rfl rfl q5) rfl ?_
      refine rd_l rfl rfl trivial (ss_loadL (f := ci) rfl q4) rfl ?_
      refine rd_l rfl rfl trivial (ss_loadL (f := ci) rfl q5) rfl ?_
      refine rd_s rfl rfl trivial (ss_neq rfl rfl) rfl ?_
      refine rd_nil ?_
      refine aw_cond rfl (fun q6 => ?_) (fun q6 => ?_)
      · replace h := h.1 (of_decide_eq_false (bnot_t q6))
        refine aw_seq ?_
        refine aw_gh (gh_to (n := 26) (σ' := []) (env' := []) rfl rfl trivial) ?_
        refine aw_region ?_
        refine run_s (ss_assign rfl) rfl ?_
        refine run_nil ?_
        refine aw_ret ?_
        exact retAF_mk (retv1 rfl (rv_tmp rfl)) rfl rfl ⟨_, (cle_refl _), _, h, rfl⟩
      · replace h := h.2 (of_decide_eq_true (bnot_f q6))
        refine aw_skip ?_
        refine aw_gh (gh_to (n := 26) (σ' := []) (env' := [(0, .c (.lst (ints a))), (1, .c (.lst (ints b))), (5, .c (ci v5_1))]) rfl rfl ⟨rfl, rfl, rfl, trivial⟩) ?_
        refine aw_region ?_
        refine run_s (ss_move rfl) rfl ?_
        obtain ⟨q7, h⟩ := h
        refine run_s (ss_add rfl rfl q7) rfl ?_
        refine run_s (ss_assign rfl) rfl ?_
        refine run_nil ?_
        exact ⟨v5_1 + 1, ghe_to (n := 26) rfl rfl ⟨rfl, rfl, rfl, trivial⟩, h.1, h.2⟩
    · replace h := h.2 (of_decide_eq_false q3)
      refine aw_exit ?_
      refine aw_seq ?_
      refine aw_gh (gh_to (n := 26) (σ' := []) (env' := []) rfl rfl trivial) ?_
      refine aw_region ?_
      refine run_s (ss_assign rfl) rfl ?_
      refine run_nil ?_
      refine aw_ret ?_
      exact retAF_mk (retv1 rfl (rv_tmp rfl)) rfl rfl ⟨_, (cle_refl _), _, h, rfl⟩

theorem c_spec_l01Same (a : List Int) (b : List Int) (hp : small a ∧ small b) : AF Try.prog 200 [.lst (ints a), .lst (ints b)] (fun R_ => R_ = cb (decide (a = b))) :=
  (w_spec_l01Same a b (fun y0 => y0 = decide (a = b)) (p_spec_l01Same a b hp)).mono (by rintro r ⟨_, rfl, rfl⟩; rfl)

set_option maxRecDepth 100000 in
set_option maxHeartbeats 4000000 in
theorem w_spec_l01Then (p : List Int) (q : List Int) (Q : List Int → Prop) (h : wp_spec_l01Then p q Q) : AF Try.prog 207 [.lst (ints p), .lst (ints q)] (fun R_ => ∃ y0, Q y0 ∧ R_ = .own (ints y0)) := by
  refine AF.ofWQ (af_enter (n := 25) Try.func207 rfl (by rfl) rfl (Nat.le_of_ble_eq_true rfl) ?_)
  unfold wp_spec_l01Then at h
  refine aw_seq ?_
  refine aw_gh (gh_to (n := 25) (σ' := []) (env' := [(0, .c (.lst (ints p))), (1, .c (.lst (ints q)))]) rfl rfl ⟨rfl, rfl, trivial⟩) ?_
  refine aw_region ?_
  refine run_s (ss_assign rfl) rfl ?_
  refine run_nil ?_
  refine aw_seq ?_
  refine aw_region ?_
  refine run_w (ws_buildSlice (id := 7) (ps := []) rfl rfl (Nat.le_of_ble_eq_true rfl) rfl ⟨rfl, ?_⟩)
  refine run_s (ss_assign rfl) rfl ?_
  refine run_nil ?_
  refine aw_seq ?_
  refine aw_seq ?_
  refine aw_region ?_
  refine run_s (ss_assign rfl) rfl ?_
  refine run_nil ?_
  refine aw_block ?_
  obtain ⟨H1, m1, q1, h⟩ := h
  refine aw_loop2 (fun (v6_1 : Int) (o7_1 : List Int) => ⟨[(7, ⟨ints o7_1, []⟩)], [(0, .c (.lst (ints p))), (1, .c (.lst (ints q))), (5, .ref 7), (6, .c (ci v6_1))], 25⟩) H1 m1 ⟨0, ([] : List Int), ghe_to (n := 25) rfl rfl ⟨rfl, rfl, rfl, rfl, trivial⟩, q1⟩ ?_
  rintro v6_1 o7_1 q1
  replace h := h v6_1 o7_1 q1
  refine aw_seq ?_
  refine aw_seq ?_
  refine aw_region ?_
  refine run_s (ss_move rfl) rfl ?_
  refine run_s (ss_move rfl) rfl ?_
  refine run_s (ss_lenL (f := ci) rfl) rfl ?_
  refine run_s (ss_lss rfl rfl) rfl ?_
  refine run_nil ?_
  refine aw_cond rfl (fun q2 => ?_) (fun q2 => ?_)
  · replace h := h.1 (of_decide_eq_true q2)
    refine aw_skip ?_
    refine aw_seq ?_
    refine aw_block ?_
    refine aw_region ?_
    refine run_s (ss_move rfl) rfl ?_
    refine run_s (ss_move rfl) rfl ?_
    refine run_s (ss_move rfl) rfl ?_
    refine run_s (ss_move rfl) rfl ?_
    obtain ⟨q3, h⟩ := h
    refine run_s (ss_idxL rfl rfl q3) rfl ?_
    refine run_s (ss_loadL (f := ci) rfl q3) rfl ?_
    obtain ⟨q4, h⟩ := h
    refine run_s (ss_idxL rfl rfl q4) rfl ?_
    refine run_s (ss_loadL (f := ci) rfl q4) rfl ?_
    refine run_w (ws_buildSlice (id := 22) (ps := [(0, .tmp 21)]) rfl rfl (Nat.le_of_ble_eq_true rfl) rfl ⟨rfl, ?_⟩)
    obtain ⟨q5, h⟩ := h
    refine run_w (ws_app1 ci (l := o7_1) (m := [el q (el p v6_1)]) rfl rfl rfl rfl rfl (Nat.le_of_ble_eq_true rfl) q5 ⟨rfl, ?_⟩)
    refine run_s (ss_assign rfl) rfl ?_
    refine run_nil ?_
    refine aw_gh (gh_to (n := 25) (σ' := [(7, ⟨ints (o7_1 ++ ([el q (el p v6_1)])), []⟩)]) (env' := [(0, .c (.lst (ints p))), (1, .c (.lst (ints q))), (5, .ref 7), (6, .c (ci v6_1))]) rfl rfl ⟨rfl, rfl, rfl, rfl, trivial⟩) ?_
    refine aw_region ?_
    refine run_s (ss_move rfl) rfl ?_
    obtain ⟨q6, h⟩ := h
    refine run_s (ss_add rfl rfl q6) rfl ?_
    refine run_s (ss_assign rfl) rfl ?_
    refine run_nil ?_
    exact ⟨v6_1 + 1, o7_1 ++ ([el q (el p v6_1)]), ghe_to (n := 25) rfl rfl ⟨rfl, rfl, rfl, rfl, trivial⟩, h.1, h.2⟩
  · replace h := h.2 (of_decide_eq_false q2)
    refine aw_exit ?_
    refine aw_seq ?_
    refine aw_gh (gh_to (n := 25) (σ' := [(7, ⟨ints o7_1, []⟩)]) (env' := [(5, .ref 7)]) rfl rfl ⟨rfl, trivial⟩) ?_
    refine aw_region ?_
    refine run_s (ss_move rfl) rfl ?_
    refine run_s (ss_assign rfl) rfl ?_
    refine run_nil ?_
    refine aw_ret ?_
    exact retAF_mk (retv1 rfl (rv_tmp rfl)) rfl rfl ⟨_, (cle_refl _), _, h, rfl⟩

theorem c_spec_l01Then (p : List Int) (q : List Int) (hp : small p ∧ ∀ x_ ∈ p, 0 ≤ x_ ∧ x_ < (q.length : Int)) : AF Try.prog 207 [.lst (ints p), .lst (ints q)] (fun R_ => R_ = .own (ints (p.map (el q)))) :=
  (w_spec_l01Then p q (fun y0 => y0 = p.map (el q)) (p_spec_l01Then p q hp)).mono (by rintro r ⟨_, rfl, rfl⟩; rfl)

set_option maxRecDepth 100000 in
set_option maxHeartbeats 4000000 in
theorem w_impl_then (p : List Int) (q : List Int) (Q : List Int → Prop) (h : wp_impl_then p q Q) : AF Try.prog 107 [.lst (ints p), .lst (ints q)] (fun R_ => ∃ y0, Q y0 ∧ R_ = .own (ints y0)) := by
  refine AF.ofWQ (af_enter (n := 27) Try.func107 rfl (by rfl) rfl (Nat.le_of_ble_eq_true rfl) ?_)
  unfold wp_impl_then at h
  refine aw_seq ?_
  refine aw_gh (gh_to (n := 27) (σ' := []) (env' := [(0, .c (.lst (ints p))), (1, .c (.lst (ints q)))]) rfl rfl ⟨rfl, rfl, trivial⟩) ?_
  refine aw_region ?_
  refine run_s (ss_assign rfl) rfl ?_
  refine run_nil ?_
  refine aw_seq ?_
  refine aw_region ?_
  refine run_s (ss_move rfl) rfl ?_
  refine run_s (ss_lenL (f := ci) rfl) rfl ?_
  obtain ⟨q1, h⟩ := h
  refine run_w (ws_mk (id := 10) ci (0 : Int) rfl rfl rfl q1 (Nat.le_of_ble_eq_true rfl) rfl ⟨rfl, ?_⟩)
  refine run_s (ss_assign rfl) rfl ?_
  refine run_nil ?_
  refine aw_seq ?_
  refine aw_seq ?_
  refine aw_region ?_
  refine run_s (ss_move rfl) rfl ?_
  refine run_s (ss_lenL (f := ci) rfl) rfl ?_
  refine run_s (ss_move rfl) rfl ?_
  refine run_nil ?_
  refine aw_block ?_
  obtain ⟨H1, m1, q2, h⟩ := h
  refine aw_loop2 (fun (v13_1 : Int) (o10_1 : List Int) => ⟨[(10, ⟨ints o10_1, []⟩)], [(1, .c (.lst (ints q))), (5, .ref 10), (11, .c (.lst (ints p))), (12, .c (ci (p.length : Int))), (13, .c (ci v13_1))], 27⟩) H1 m1 ⟨0, List.replicate (p.length : Int).toNat (0 : Int), ghe_to (n := 27) rfl rfl ⟨rfl, rfl, rfl, rfl, rfl, trivial⟩, q2⟩ ?_
  rintro v13_1 o10_1 q2
  replace h := h v13_1 o10_1 q2
  refine aw_seq ?_
  refine aw_region ?_
  refine run_s (ss_lss rfl rfl) rfl ?_
  refine run_nil ?_
  refine aw_seq ?_
  refine aw_cond rfl (fun q3 => ?_) (fun q3 => ?_)
  · replace h := h.1 (of_decide_eq_true q3)
    refine aw_skip ?_
    refine aw_seq ?_
    refine aw_block ?_
    refine aw_seq ?_
    refine aw_region ?_
    refine run_s (ss_move rfl) rfl ?_
    obtain ⟨q4, h⟩ := h
    refine run_s (ss_idxL rfl rfl q4) rfl ?_
    refine run_s (ss_loadL (f := ci) rfl q4) rfl ?_
    refine run_s (ss_assign rfl) rfl ?_
    refine run_s (ss_assign rfl) rfl ?_
    refine run_nil ?_
    refine aw_region ?_
    refine run_s (ss_move rfl) rfl ?_
    refine run_s (ss_move rfl) rfl ?_
    refine run_s (ss_move rfl) rfl ?_
    refine run_s (ss_move rfl) rfl ?_
    obtain ⟨q5, h⟩ := h
    refine run_s (ss_idxL rfl rfl q5) rfl ?_
    refine run_s (ss_loadL (f := ci) rfl q5) rfl ?_
    obtain ⟨q6, h⟩ := h
    refine run_s (ss_idxR (f := ci) rfl rfl rfl q6) rfl ?_
    refine run_w (ws_storeE rfl rfl (map_lt q6) rfl rfl (map_se (f := ci)) rfl ⟨rfl, ?_⟩)
    refine run_nil ?_
    refine aw_gh (gh_to (n := 27) (σ' := [(10, ⟨ints (se o10_1 v13_1 (el q (el p v13_1))), []⟩)]) (env' := [(1, .c (.lst (ints q))), (5, .ref 10), (11, .c (.lst (ints p))), (12, .c (ci (p.length : Int))), (13, .c (ci v13_1))]) rfl rfl ⟨rfl, rfl, rfl, rfl, rfl, trivial⟩) ?_
    refine aw_region ?_
    obtain ⟨q7, h⟩ := h
    refine run_s (ss_add rfl rfl q7) rfl ?_
    refine run_s (ss_move rfl) rfl ?_
    refine run_nil ?_
    exact ⟨v13_1 + 1, se o10_1 v13_1 (el q (el p v13_1)), ghe_to (n := 27) rfl rfl ⟨rfl, rfl, rfl, rfl, rfl, trivial⟩, h.1, h.2⟩
  · replace h := h.2 (of_decide_eq_false q3)
    refine aw_exit ?_
    refine aw_seq ?_
    refine aw_gh (gh_to (n := 27) (σ' := [(10, ⟨ints o10_1, []⟩)]) (env' := [(5, .ref 10)]) rfl rfl ⟨rfl, trivial⟩) ?_
    refine aw_region ?_
    refine run_s (ss_move rfl) rfl ?_
    refine run_s (ss_assign rfl) rfl ?_
    refine run_nil ?_
    refine aw_ret ?_
    exact retAF_mk (retv1 rfl (rv_tmp rfl)) rfl rfl ⟨_, (cle_refl _), _, h, rfl⟩

theorem c_impl_then (p : List Int) (q : List Int) (hp : small p ∧ ∀ x_ ∈ p, 0 ≤ x_ ∧ x_ < (q.length : Int)) : AF Try.prog 107 [.lst (ints p), .lst (ints q)] (fun R_ => R_ = .own (ints (p.map (el q)))) :=
  (w_impl_then p q (fun y0 => y0 = p.map (el q)) (p_impl_then p q hp)).mono (by rintro r ⟨_, rfl, rfl⟩; rfl)

set_option maxRecDepth 100000 in
set_option maxHeartbeats 4000000 in
theorem w_spec_l01Back (p : List Int) (Q : List Int → Prop) (h : wp_spec_l01Back p Q) : AF Try.prog 178 [.lst (ints p)] (fun R_ => ∃ y0, Q y0 ∧ R_ = .own (ints y0)) := by
  refine AF.ofWQ (af_enter (n := 22) Try.func178 rfl (by rfl) rfl (Nat.le_of_ble_eq_true rfl) ?_)
  unfold wp_spec_l01Back at h
  refine aw_seq ?_
  refine aw_gh (gh_to (n := 22) (σ' := []) (env' := [(0, .c (.lst (ints p)))]) rfl rfl ⟨rfl, trivial⟩) ?_
  refine aw_region ?_
  refine run_s (ss_assign rfl) rfl ?_
  refine run_nil ?_
  refine aw_seq ?_
  refine aw_region ?_
  refine run_s (ss_move rfl) rfl ?_
  refine run_s (ss_lenL (f := ci) rfl) rfl ?_
  obtain ⟨q1, h⟩ := h
  refine run_w (ws_mk (id := 7) ci (0 : Int) rfl rfl rfl q1 (Nat.le_of_ble_eq_true rfl) rfl ⟨rfl, ?_⟩)
  refine run_s (ss_assign rfl) rfl ?_
  refine run_nil ?_
  refine aw_seq ?_
  refine aw_seq ?_
  refine aw_gh (gh_to (n := 22) (σ' := [(7, ⟨ints (List.replicate (p.length : Int).toNat (0 : Int)), []⟩)]) (env' := [(0, .c (.lst (ints p))), (3, .ref 7)]) rfl rfl ⟨rfl, rfl, trivial⟩) ?_
  refine aw_region ?_
  refine run_s (ss_assign rfl) rfl ?_
  refine run_nil ?_
  refine aw_block ?_
  obtain ⟨H1, m1, q2, h⟩ := h
  refine aw_loop2 (fun (v4_1 : Int) (o7_1 : List Int) => ⟨[(7, ⟨ints o7_1, []⟩)], [(0, .c (.lst (ints p))), (3, .ref 7), (4, .c (ci v4_1))], 22⟩) H1 m1 ⟨0, List.replicate (p.length : Int).toNat (0 : Int), ghe_to (n := 22) rfl rfl ⟨rfl, rfl, rfl, trivial⟩, q2⟩ ?_
  rintro v4_1 o7_1 q2
  replace h := h v4_1 o7_1 q2
  refine aw_seq ?_
  refine aw_seq ?_
  refine aw_region ?_
  refine run_s (ss_move rfl) rfl ?_
  refine run_s (ss_move rfl) rfl ?_
  refine run_s (ss_lenL (f := ci) rfl) rfl ?_
  refine run_s (ss_lss rfl rfl) rfl ?_
  refine run_nil ?_
  refine aw_cond rfl (fun q3 => ?_) (fun q3 => ?_)
  · replace h := h.1 (of_decide_eq_true q3)
    refine aw_skip ?_
    refine aw_seq ?_
    refine aw_block ?_
    refine aw_region ?_
    refine run_s (ss_move rfl) rfl ?_
    refine run_s (ss_move rfl) rfl ?_
    refine run_s (ss_move rfl) rfl ?_
    obtain ⟨q4, h⟩ := h
    refine run_s (ss_idxL rfl rfl q4) rfl ?_
    refine run_s (ss_loadL (f := ci) rfl q4) rfl ?_
    refine run_s (ss_move rfl) rfl ?_
    obtain ⟨q5, h⟩ := h
    refine run_s (ss_idxR (f := ci) rfl rfl rfl q5) rfl ?_
    refine run_w (ws_storeE rfl rfl (map_lt q5) rfl rfl (map_se (f := ci)) rfl ⟨rfl, ?_⟩)
    refine run_nil ?_
    refine aw_gh (gh_to (n := 22) (σ' := [(7, ⟨ints (se o7_1 (el p v4_1) v4_1), []⟩)]) (env' := [(0, .c (.lst (ints p))), (3, .ref 7), (4, .c (ci v4_1))]) rfl rfl ⟨rfl, rfl, rfl, trivial⟩) ?_
    refine aw_region ?_
    refine run_s (ss_move rfl) rfl ?_
    obtain ⟨q6, h⟩ := h
    refine run_s (ss_add rfl rfl q6) rfl ?_
    refine run_s (ss_assign rfl) rfl ?_
    refine run_nil ?_
    exact ⟨v4_1 + 1, se o7_1 (el p v4_1) v4_1, ghe_to (n := 22) rfl rfl ⟨rfl, rfl, rfl, trivial⟩, h.1, h.2⟩
  · replace h := h.2 (of_decide_eq_false q3)
    refine aw_exit ?_
    refine aw_seq ?_
    refine aw_gh (gh_to (n := 22) (σ' := [(7, ⟨ints o7_1, []⟩)]) (env' := [(3, .ref 7)]) rfl rfl ⟨rfl, trivial⟩) ?_
    refine aw_region ?_
    refine run_s (ss_move rfl) rfl ?_
    refine run_s (ss_assign rfl) rfl ?_
    refine run_nil ?_
    refine aw_ret ?_
    exact retAF_mk (retv1 rfl (rv_tmp rfl)) rfl rfl ⟨_, (cle_refl _), _, h, rfl⟩

theorem c_spec_l01Back (p : List Int) (hp : small p ∧ isPerm p = true) : AF Try.prog 178 [.lst (ints p)] (fun R_ => R_ = .own (ints (backI p))) :=
  (w_spec_l01Back p (fun y0 => y0 = backI p) (p_spec_l01Back p hp)).mono (by rintro r ⟨_, rfl, rfl⟩; rfl)

set_option maxRecDepth 100000 in
set_option maxHeartbeats 4000000 in
theorem w_impl_inverse (p : List Int) (Q : List Int → Prop) (h : wp_impl_inverse p Q) : AF Try.prog 101 [.lst (ints p)] (fun R_ => ∃ y0, Q y0 ∧ R_ = .own (ints y0)) := by
  refine AF.ofWQ (af_enter (n := 22) Try.func101 rfl (by rfl) rfl (Nat.le_of_ble_eq_true rfl) ?_)
  unfold wp_impl_inverse at h
  refine aw_seq ?_
  refine aw_gh (gh_to (n := 22) (σ' := []) (env' := [(0, .c (.lst (ints p)))]) rfl rfl ⟨rfl, trivial⟩) ?_
  refine aw_region ?_
  refine run_s (ss_assign rfl) rfl ?_
  refine run_nil ?_
  refine aw_seq ?_
  refine aw_region ?_
  refine run_s (ss_move rfl) rfl ?_
  refine run_s (ss_lenL (f := ci) rfl) rfl ?_
  obtain ⟨q1, h⟩ := h
  refine run_w (ws_mk (id := 8) ci (0 : Int) rfl rfl rfl q1 (Nat.le_of_ble_eq_true rfl) rfl ⟨rfl, ?_⟩)
  refine run_s (ss_assign rfl) rfl ?_
  refine run_nil ?_
  refine aw_seq ?_
  refine aw_seq ?_
  refine aw_region ?_
  refine run_s (ss_move rfl) rfl ?_
  refine run_s (ss_lenL (f := ci) rfl) rfl ?_
  refine run_s (ss_move rfl) rfl ?_
  refine run_nil ?_
  refine aw_block ?_
  obtain ⟨H1, m1, q2, h⟩ := h
  refine aw_loop2 (fun (v11_1 : Int) (o8_1 : List Int) => ⟨[(8, ⟨ints o8_1, []⟩)], [(3, .ref 8), (9, .c (.lst (ints p))), (10, .c (ci (p.length : Int))), (11, .c (ci v11_1))], 22⟩) H1 m1 ⟨0, List.replicate (p.length : Int).toNat (0 : Int), ghe_to (n := 22) rfl rfl ⟨rfl, rfl, rfl, rfl, trivial⟩, q2⟩ ?_
  rintro v11_1 o8_1 q2
  replace h := h v11_1 o8_1 q2
  refine aw_seq ?_
  refine aw_region ?_
  refine run_s (ss_lss rfl rfl) rfl ?_
  refine run_nil ?_
  refine aw_seq ?_
  refine aw_cond rfl (fun q3 => ?_) (fun q3 => ?_)
  · replace h := h.1 (of_decide_eq_true q3)
    refine aw_skip ?_
    refine aw_seq ?_
    refine aw_block ?_
    refine aw_seq ?_
    refine aw_region ?_
    refine run_s (ss_move rfl) rfl ?_
    obtain ⟨q4, h⟩ := h
    refine run_s (ss_idxL rfl rfl q4) rfl ?_
    refine run_s (ss_loadL (f := ci) rfl q4) rfl ?_
    refine run_s (ss_assign rfl) rfl ?_
    refine run_s (ss_assign rfl) rfl ?_
    refine run_nil ?_
    refine aw_region ?_
    refine run_s (ss_move rfl) rfl ?_
    refine run_s (ss_move rfl) rfl ?_
    refine run_s (ss_move rfl) rfl ?_
    obtain ⟨q5, h⟩ := h
    refine run_s (ss_idxR (f := ci) rfl rfl rfl q5) rfl ?_
    refine run_w (ws_storeE rfl rfl (map_lt q5) rfl rfl (map_se (f := ci)) rfl ⟨rfl, ?_⟩)
    refine run_nil ?_
    refine aw_gh (gh_to (n := 22) (σ' := [(8, ⟨ints (se o8_1 (el p v11_1) v11_1), []⟩)]) (env' := [(3, .ref 8), (9, .c (.lst (ints p))), (10, .c (ci (p.length : Int))), (11, .c (ci v11_1))]) rfl rfl ⟨rfl, rfl, rfl, rfl, trivial⟩) ?_
    refine aw_region ?_
    obtain ⟨q6, h⟩ := h
    refine run_s (ss_add rfl rfl q6) rfl ?_
    refine run_s (ss_move rfl) rfl ?_
    refine run_nil ?_
    exact ⟨v11_1 + 1, se o8_1 (el p v11_1) v11_1, ghe_to (n := 22) rfl rfl ⟨rfl, rfl, rfl, rfl, trivial⟩, h.1, h.2⟩
  · replace h := h.2 (of_decide_eq_false q3)
    refine aw_exit ?_
    refine aw_seq ?_
    refine aw_region ?_
    refine run_s (ss_move rfl) rfl ?_
    refine run_s (ss_assign rfl) rfl ?_
    refine run_nil ?_
    refine aw_ret ?_
    exact retAF_mk (retv1 rfl (rv_tmp rfl)) rfl rfl ⟨_, (cle_refl _), _, h, rfl⟩

theorem c_impl_inverse (p : List Int) (hp : small p ∧ isPerm p = true) : AF Try.prog 101 [.lst (ints p)] (fun R_ => R_ = .own (ints (backI p))) :=
  (w_impl_inverse p (fun y0 => y0 = backI p) (p_impl_inverse p hp)).mono (by rintro r ⟨_, rfl, rfl⟩; rfl)

set_option maxRecDepth 100000 in
set_option maxHeartbeats 4000000 in
theorem w_impl_permutationRows_1 (row : List Int) (Q : Bool → Prop) (h : wp_impl_permutationRows_1 row Q) : AF Try.prog 153 [.lst (ints row)] (fun R_ => ∃ y0, Q y0 ∧ R_ = cb y0) := by
  refine AF.ofWQ (af_enter (n := 6) Try.func153 rfl (by rfl) rfl (Nat.le_of_ble_eq_true rfl) ?_)
  unfold wp_impl_permutationRows_1 at h
  refine aw_seq ?_
  refine aw_gh (gh_to (n := 6) (σ' := []) (env' := [(0, .c (.lst (ints row)))]) rfl rfl ⟨rfl, trivial⟩) ?_
  refine aw_region ?_
  refine run_s (ss_assign rfl) rfl ?_
  refine run_nil ?_
  refine aw_seq ?_
  refine aw_region ?_
  refine run_s (ss_move rfl) rfl ?_
  obtain ⟨q1, h⟩ := h
  refine run_w (ws_call (xs := [.tmp 3]) (ids := []) rfl rfl rfl rfl (c_impl_isPermuted row q1) rfl ?_ )
  rintro _ rfl
  refine ⟨rfl, ?_⟩
  refine run_s (ss_not rfl) rfl ?_
  refine run_s (ss_assign rfl) rfl ?_
  refine run_nil ?_
  refine aw_ret ?_
  exact retAF_mk (retv1 rfl (rv_tmp rfl)) rfl rfl ⟨_, (cle_refl _), _, h, rfl⟩

theorem c_impl_permutationRows_1 (row : List Int) (hp : small row) : AF Try.prog 153 [.lst (ints row)] (fun R_ => R_ = cb (!isPerm row)) :=
  (w_impl_permutationRows_1 row (fun y0 => y0 = !isPerm row) (p_impl_permutationRows_1 row hp)).mono (by rintro r ⟨_, rfl, rfl⟩; rfl)

set_option maxRecDepth 100000 in
set_option maxHeartbeats 4000000 in
theorem w_impl_permutationRows (t : List (List Int)) (Q : Bool → Prop) (h : wp_impl_permutationRows t Q) : AF Try.prog 92 [.lst (rows t)] (fun R_ => ∃ y0, Q y0 ∧ R_ = cb y0) := by
  refine AF.ofWQ (af_enter (n := 6) Try.func92 rfl (by rfl) rfl (Nat.le_of_ble_eq_true rfl) ?_)
  unfold wp_impl_permutationRows at h
  refine aw_seq ?_
  refine aw_gh (gh_to (n := 6) (σ' := []) (env' := [(0, .c (.lst (rows t)))]) rfl rfl ⟨rfl, trivial⟩) ?_
  refine aw_region ?_
  refine run_s (ss_assign rfl) rfl ?_
  refine run_nil ?_
  refine aw_seq ?_
  refine aw_region ?_
  refine run_s (ss_move rfl) rfl ?_
  obtain ⟨q1, h⟩ := h
  refine run_w (ws_call (xs := [.tmp 3, .func 153]) (ids := []) rfl rfl rfl rfl (c_k_ContainsFunc_rows t 153 [] (fun z0 => !isPerm z0) (fun z0 => small z0) (fun z0 hD => c_impl_permutationRows_1 z0 hD) q1) rfl ?_ )
  rintro _ rfl
  refine ⟨rfl, ?_⟩
  refine run_s (ss_not rfl) rfl ?_
  refine run_s (ss_assign rfl) rfl ?_
  refine run_nil ?_
  refine aw_ret ?_
  exact retAF_mk (retv1 rfl (rv_tmp rfl)) rfl rfl ⟨_, (cle_refl _), _, h, rfl⟩

theorem c_impl_permutationRows (t : List (List Int)) (hp : small2 t) : AF Try.prog 92 [.lst (rows t)] (fun R_ => R_ = cb (t.all isPerm)) :=
  (w_impl_permutationRows t (fun y0 => y0 = t.all isPerm) (p_impl_permutationRows t hp)).mono (by rintro r ⟨_, rfl, rfl⟩; rfl)

set_option maxRecDepth 100000 in
set_option maxHeartbeats 4000000 in
theorem w_impl_increasing (list : List Int) (Q : Bool → Prop) (h : wp_impl_increasing list Q) : AF Try.prog 86 [.lst (ints list)] (fun R_ => ∃ y0, Q y0 ∧ R_ = cb y0) := by
  refine AF.ofWQ (af_enter (n := 20) Try.func86 rfl (by rfl) rfl (Nat.le_of_ble_eq_true rfl) ?_)
  unfold wp_impl_increasing at h
  refine aw_seq ?_
  refine aw_gh (gh_to (n := 20) (σ' := []) (env' := [(0, .c (.lst (ints list)))]) rfl rfl ⟨rfl, trivial⟩) ?_
  refine aw_region ?_
  refine run_s (ss_assign rfl) rfl ?_
  refine run_nil ?_
  refine aw_seq ?_
  refine aw_seq ?_
  refine aw_region ?_
  refine run_s (ss_assign rfl) rfl ?_
  refine run_nil ?_
  refine aw_block ?_
  obtain ⟨H1, m1, q1, h⟩ := h
  refine aw_loop1 (fun (v3_1 : Int) => ⟨[], [(0, .c (.lst (ints list))), (3, .c (ci v3_1))], 20⟩) H1 m1 ⟨1, ghe_to (n := 20) rfl rfl ⟨rfl, rfl, trivial⟩, q1⟩ ?_
  rintro v3_1 q1
  replace h := h v3_1 q1
  refine aw_seq ?_
  refine aw_seq ?_
  refine aw_region ?_
  refine run_s (ss_move rfl) rfl ?_
  refine run_s (ss_move rfl) rfl ?_
  refine run_s (ss_lenL (f := ci) rfl) rfl ?_
  refine run_s (ss_lss rfl rfl) rfl ?_
  refine run_nil ?_
  refine aw_cond rfl (fun q2 => ?_) (fun q2 => ?_)
  · replace h := h.1 (of_decide_eq_true q2)
    refine aw_skip ?_
    refine aw_seq ?_
    refine aw_block ?_
    refine aw_seq ?_
    refine aw_gh (gh_to (n := 20) (σ' := []) (env' := [(0, .c (.lst (ints list))), (3, .c (ci v3_1))]) rfl rfl ⟨rfl, rfl, trivial⟩) ?_
    refine aw_regionD (kd := kdl [0, 0, 0, 0, 1, 0, 0, 0, 1, 0]) (ord := [0, 1, 2, 3, 5, 6, 7, 4, 8, 9]) [] mixed (by kernel_rfl) ?_
    refine rd_s rfl rfl trivial (ss_move rfl) rfl ?_
    refine rd_s rfl rfl trivial (ss_move rfl) rfl ?_
    obtain ⟨q3, h⟩ := h
    refine rd_s rfl rfl trivial (ss_sub rfl rfl q3) rfl ?_
    obtain ⟨q4, h⟩ := h
    refine rd_s rfl rfl trivial (ss_idxL rfl rfl q4) rfl ?_
    refine rd_s rfl rfl trivial (ss_move rfl) rfl ?_
    refine rd_s rfl rfl trivial (ss_move rfl) rfl ?_
    obtain ⟨q5, h⟩ := h
    refine rd_s rfl rfl trivial (ss_idxL rfl rfl q5) rfl ?_
    refine rd_l rfl rfl trivial (ss_loadL (f := ci) rfl q4) rfl ?_
    refine rd_l rfl rfl trivial (ss_loadL (f := ci) rfl q5) rfl ?_
    refine rd_s rfl rfl trivial (ss_geq rfl rfl) rfl ?_
    refine rd_nil ?_
    refine aw_cond rfl (fun q6 => ?_) (fun q6 => ?_)
    · replace h := h.1 (of_decide_eq_true q6)
      refine aw_seq ?_
      refine aw_gh (gh_to (n := 20) (σ' := []) (env' := []) rfl rfl trivial) ?_
      refine aw_region ?_
      refine run_s (ss_assign rfl) rfl ?_
      refine run_nil ?_
      refine aw_ret ?_
      exact retAF_mk (retv1 rfl (rv_tmp rfl)) rfl rfl ⟨_, (cle_refl _), _, h, rfl⟩
    · replace h := h.2 (of_decide_eq_false q6)
      refine aw_skip ?_
      refine aw_gh (gh_to (n := 20) (σ' := []) (env' := [(0, .c (.lst (ints list))), (3, .c (ci v3_1))]) rfl rfl ⟨rfl, rfl, trivial⟩) ?_
      refine aw_region ?_
      refine run_s (ss_move rfl) rfl ?_
      obtain ⟨q7, h⟩ := h
      refine run_s (ss_add rfl rfl q7) rfl ?_
      refine run_s (ss_assign rfl) rfl ?_
      refine run_nil ?_
      exact ⟨v3_1 + 1, ghe_to (n := 20) rfl rfl ⟨rfl, rfl, trivial⟩, h.1, h.2⟩
  · replace h := h.2 (of_decide_eq_false q2)
    refine aw_exit ?_
    refine aw_seq ?_
    refine aw_gh (gh_to (n := 20) (σ' := []) (env' := []) rfl rfl trivial) ?_
    refine aw_region ?_
    refine run_s (ss_assign rfl) rfl ?_
    refine run_nil ?_
    refine aw_ret ?_
    exact retAF_mk (retv1 rfl (rv_tmp rfl)) rfl rfl ⟨_, (cle_refl _), _, h, rfl⟩

theorem c_impl_increasing (list : List Int) (hp : small list) : AF Try.prog 86 [.lst (ints list)] (fun R_ => R_ = cb (incB list)) :=
  (w_impl_increasing list (fun y0 => y0 = incB list) (p_impl_increasing list hp)).mono (by rintro r ⟨_, rfl, rfl⟩; rfl)

set_option maxRecDepth 100000 in
set_option maxHeartbeats 4000000 in
theorem w_impl_isIdentity (p : List Int) (Q : Bool → Prop) (h : wp_impl_isIdentity p Q) : AF Try.prog 104 [.lst (ints p)] (fun R_ => ∃ y0, Q y0 ∧ R_ = cb y0) := by
  refine AF.ofWQ (af_enter (n := 5) Try.func104 rfl (by rfl) rfl (Nat.le_of_ble_eq_true rfl) ?_)
  unfold wp_impl_isIdentity at h
  refine aw_seq ?_
  refine aw_gh (gh_to (n := 5) (σ' := []) (env' := [(0, .c (.lst (ints p)))]) rfl rfl ⟨rfl, trivial⟩) ?_
  refine aw_region ?_
  refine run_s (ss_assign rfl) rfl ?_
  refine run_nil ?_
  refine aw_seq ?_
  refine aw_region ?_
  refine run_s (ss_move rfl) rfl ?_
  obtain ⟨q1, h⟩ := h
  refine run_w (ws_call (xs := [.tmp 3]) (ids := []) rfl rfl rfl rfl (c_impl_increasing p q1) rfl ?_ )
  rintro _ rfl
  refine ⟨rfl, ?_⟩
  refine run_s (ss_assign rfl) rfl ?_
  refine run_nil ?_
  refine aw_ret ?_
  exact retAF_mk (retv1 rfl (rv_tmp rfl)) rfl rfl ⟨_, (cle_refl _), _, h, rfl⟩

theorem c_impl_isIdentity (p : List Int) (hp : small p) : AF Try.prog 104 [.lst (ints p)] (fun R_ => R_ = cb (incB p)) :=
  (w_impl_isIdentity p (fun y0 => y0 = incB p) (p_impl_isIdentity p hp)).mono (by rintro r ⟨_, rfl, rfl⟩; rfl)

set_option maxRecDepth 100000 in
set_option maxHeartbeats 4000000 in
theorem w_impl_rackFault (t : List (List Int)) (Q : List Int → Prop) (h : wp_impl_rackFault t Q) : AF Try.prog 93 [.lst (rows t)] (fun R_ => ∃ y0, Q y0 ∧ R_ = onil y0) := by
  refine AF.ofWQ (af_enter (n := 61) Try.func93 rfl (by rfl) rfl (Nat.le_of_ble_eq_true rfl) ?_)
  unfold wp_impl_rackFault at h
  refine aw_seq ?_
  refine aw_gh (gh_to (n := 61) (σ' := []) (env' := [(0, .c (.lst (rows t)))]) rfl rfl ⟨rfl, trivial⟩) ?_
  refine aw_region ?_
  refine run_s (ss_assign rfl) rfl ?_
  refine run_nil ?_
  refine aw_seq ?_
  refine aw_region ?_
  refine run_s (ss_move rfl) rfl ?_
  refine run_s (ss_lenL (f := (fun r => C.lst (ints r))) rfl) rfl ?_
  refine run_s (ss_assign rfl) rfl ?_
  refine run_nil ?_
  refine aw_seq ?_
  refine aw_seq ?_
  refine aw_region ?_
  refine run_s (ss_move rfl) rfl ?_
  refine run_s (ss_move rfl) rfl ?_
  refine run_nil ?_
  refine aw_block ?_
  obtain ⟨H1, m1, q1, h⟩ := h
  refine aw_loop1 (fun (v10_1 : Int) => ⟨[], [(0, .c (.lst (rows t))), (3, .c (ci (t.length : Int))), (9, .c (ci (t.length : Int))), (10, .c (ci v10_1))], 61⟩) H1 m1 ⟨0, ghe_to (n := 61) rfl rfl ⟨rfl, rfl, rfl, rfl, trivial⟩, q1⟩ ?_
  rintro v10_1 q1
  replace h := h v10_1 q1
  refine aw_seq ?_
  refine aw_region ?_
  refine run_s (ss_lss rfl rfl) rfl ?_
  refine run_nil ?_
  refine aw_seq ?_
  refine aw_cond rfl (fun q2 => ?_) (fun q2 => ?_)
  · replace h := h.1 (of_decide_eq_true q2)
    refine aw_skip ?_
    refine aw_seq ?_
    refine aw_block ?_
    refine aw_seq ?_
    refine aw_region ?_
    refine run_s (ss_move rfl) rfl ?_
    refine run_s (ss_assign rfl) rfl ?_
    refine run_nil ?_
    refine aw_seq ?_
    refine aw_region ?_
    refine run_s (ss_move rfl) rfl ?_
    refine run_s (ss_move rfl) rfl ?_
    refine run_nil ?_
    refine aw_block ?_
    obtain ⟨H2, m2, q3, h⟩ := h
    refine aw_loop1 (fun (v14_2 : Int) => ⟨[], [(0, .c (.lst (rows t))), (3, .c (ci (t.length : Int))), (4, .c (ci v10_1)), (9, .c (ci (t.length : Int))), (10, .c (ci v10_1)), (13, .c (ci (t.length : Int))), (14, .c (ci v14_2))], 61⟩) H2 m2 ⟨0, ghe_to (n := 61) rfl rfl ⟨rfl, rfl, rfl, rfl, rfl, rfl, rfl, trivial⟩, q3⟩ ?_
    rintro v14_2 q3
    replace h := h v14_2 q3
    refine aw_seq ?_
    refine aw_region ?_
    refine run_s (ss_lss rfl rfl) rfl ?_
    refine run_nil ?_
    refine aw_seq ?_
    refine aw_cond rfl (fun q4 => ?_) (fun q4 => ?_)
    · replace h := h.1 (of_decide_eq_true q4)
      refine aw_skip ?_
      refine aw_seq ?_
      refine aw_block ?_
      refine aw_seq ?_
      refine aw_region ?_
      refine run_s (ss_move rfl) rfl ?_
      refine run_s (ss_assign rfl) rfl ?_
      refine run_nil ?_
      refine aw_seq ?_
      refine aw_region ?_
      refine run_s (ss_move rfl) rfl ?_
      refine run_s (ss_move rfl) rfl ?_
      refine run_nil ?_
      refine aw_block ?_
      obtain ⟨H3, m3, q5, h⟩ := h
      refine aw_loop1 (fun (v18_3 : Int) => ⟨[], [(0, .c (.lst (rows t))), (3, .c (ci (t.length : Int))), (4, .c (ci v10_1)), (5, .c (ci v14_2)), (9, .c (ci (t.length : Int))), (10, .c (ci v10_1)), (13, .c (ci (t.length : Int))), (14, .c (ci v14_2)), (17, .c (ci (t.length : Int))), (18, .c (ci v18_3))], 61⟩) H3 m3 ⟨0, ghe_to (n := 61) rfl rfl ⟨rfl, rfl, rfl, rfl, rfl, rfl, rfl, rfl, rfl, rfl, trivial⟩, q5⟩ ?_
      rintro v18_3 q5
      replace h := h v18_3 q5
      refine aw_seq ?_
      refine aw_region ?_
      refine run_s (ss_lss rfl rfl) rfl ?_
      refine run_nil ?_
      refine aw_seq ?_
      refine aw_cond rfl (fun q6 => ?_) (fun q6 => ?_)
      · replace h := h.1 (of_decide_eq_true q6)
        refine aw_skip ?_
        refine aw_seq ?_
        refine aw_block ?_
        refine aw_seq ?_
        refine aw_region ?_
        refine run_s (ss_move rfl) rfl ?_
        refine run_s (ss_assign rfl) rfl ?_
        refine run_nil ?_
        refine aw_seq ?_
        refine aw_gh (gh_to (n := 61) (σ' := []) (env' := [(0, .c (.lst (rows t))), (3, .c (ci (t.length : Int))), (4, .c (ci v10_1)), (5, .c (ci v14_2)), (6, .c (ci v18_3)), (9, .c (ci (t.length : Int))), (10, .c (ci v10_1)), (13, .c (ci (t.length : Int))), (14, .c (ci v14_2)), (17, .c (ci (t.length : Int))), (18, .c (ci v18_3))]) rfl rfl ⟨rfl, rfl, rfl, rfl, rfl, rfl, rfl, rfl, rfl, rfl, rfl, trivial⟩) ?_
        refine aw_regionD (kd := kdl [0, 0, 0, 1, 0, 0, 0, 1, 0, 0, 1, 0, 1, 0, 0, 0, 0, 1, 0, 0, 1, 0, 1, 0, 0, 0, 1, 0, 0, 1, 0, 1, 0]) (ord := [0, 1, 2, 4, 5, 6, 8, 13, 14, 15, 16, 18, 23, 24, 25, 27, 3, 7, 9, 10, 11, 12, 17, 19, 20, 21, 22, 26, 28, 29, 30, 31, 32]) [] mixed (by kernel_rfl) ?_
        refine rd_s rfl rfl trivial (ss_move rfl) rfl ?_
        refine rd_s rfl rfl trivial (ss_move rfl) rfl ?_
        obtain ⟨q7, h⟩ := h
        refine rd_s rfl rfl trivial (ss_idxL rfl rfl q7) rfl ?_
        refine rd_s rfl rfl trivial (ss_move rfl) rfl ?_
        refine rd_s rfl rfl trivial (ss_move rfl) rfl ?_
        obtain ⟨q8, h⟩ := h
        refine rd_s rfl rfl trivial (ss_idxL rfl rfl q8) rfl ?_
        refine rd_s rfl rfl trivial (ss_move rfl) rfl ?_
        refine rd_s rfl rfl trivial (ss_move rfl) rfl ?_
        refine rd_s rfl rfl trivial (ss_move rfl) rfl ?_
        refine rd_s rfl rfl trivial (ss_move rfl) rfl ?_
        obtain ⟨q9, h⟩ := h
        refine rd_s rfl rfl trivial (ss_idxL rfl rfl q9) rfl ?_
        refine rd_s rfl rfl trivial (ss_move rfl) rfl ?_
        refine rd_s rfl rfl trivial (ss_move rfl) rfl ?_
        refine rd_s rfl rfl trivial (ss_move rfl) rfl ?_
        obtain ⟨q10, h⟩ := h
        refine rd_s rfl rfl trivial (ss_idxL rfl rfl q10) rfl ?_
        refine rd_s rfl rfl trivial (ss_move rfl) rfl ?_
        refine rd_l rfl rfl trivial (ss_loadL (f := (fun r => C.lst (ints r))) rfl q7) rfl ?_
        refine rd_l rfl rfl trivial (ss_loadL (f := (fun r => C.lst (ints r))) rfl q8) rfl ?_
        obtain ⟨q11, h⟩ := h
        refine rd_s rfl rfl trivial (ss_idxL rfl rfl q11) rfl ?_
        refine rd_l rfl rfl trivial (ss_loadL (f := ci) rfl q11) rfl ?_
        obtain ⟨q12, h⟩ := h
        refine rd_s rfl rfl trivial (ss_idxL rfl rfl q12) rfl ?_
        refine rd_l rfl rfl trivial (ss_loadL (f := ci) rfl q12) rfl ?_
        refine rd_l rfl rfl trivial (ss_loadL (f := (fun r => C.lst (ints r))) rfl q9) rfl ?_
        obtain ⟨q13, h⟩ := h
        refine rd_s rfl rfl trivial (ss_idxL rfl rfl q13) rfl ?_
        refine rd_l rfl rfl trivial (ss_loadL (f := ci) rfl q13) rfl ?_
        obtain ⟨q14, h⟩ := h
        refine rd_s rfl rfl trivial (ss_idxL rfl rfl q14) rfl ?_
        refine rd_l rfl rfl trivial (ss_loadL (f := (fun r => C.lst (ints r))) rfl q14) rfl ?_
        refine rd_l rfl rfl trivial (ss_loadL (f := (fun r => C.lst (ints r))) rfl q10) rfl ?_
        obtain ⟨q15, h⟩ := h
        refine rd_s rfl rfl trivial (ss_idxL rfl rfl q15) rfl ?_
        refine rd_l rfl rfl trivial (ss_loadL (f := ci) rfl q15) rfl ?_
        obtain ⟨q16, h⟩ := h
        refine rd_s rfl rfl trivial (ss_idxL rfl rfl q16) rfl ?_
        refine rd_l rfl rfl trivial (ss_loadL (f := ci) rfl q16) rfl ?_
        refine rd_s rfl rfl trivial (ss_neq rfl rfl) rfl ?_
        refine rd_nil ?_
        refine aw_cond rfl (fun q17 => ?_) (fun q17 => ?_)
        · replace h := h.1 (of_decide_eq_false (bnot_t q17))
          refine aw_seq ?_
          refine aw_gh (gh_to (n := 61) (σ' := []) (env' := [(4, .c (ci v10_1)), (5, .c (ci v14_2)), (6, .c (ci v18_3))]) rfl rfl ⟨rfl, rfl, rfl, trivial⟩) ?_
          refine aw_region ?_
          refine run_s (ss_move rfl) rfl ?_
          refine run_s (ss_move rfl) rfl ?_
          refine run_s (ss_move rfl) rfl ?_
          refine run_w (ws_buildSlice (id := 57) (ps := [(0, .tmp 54), (1, .tmp 55), (2, .tmp 56)]) rfl rfl (Nat.le_of_ble_eq_true rfl) rfl ⟨rfl, ?_⟩)
          refine run_s (ss_assign rfl) rfl ?_
          refine run_nil ?_
          refine aw_ret ?_
          exact retAF_mk (retv1 rfl (rv_tmp rfl)) rfl rfl ⟨_, (cle_refl _), _, h, rfl⟩
        · replace h := h.2 (of_decide_eq_true (bnot_f q17))
          refine aw_skip ?_
          refine aw_gh (gh_to (n := 61) (σ' := []) (env' := [(0, .c (.lst (rows t))), (3, .c (ci (t.length : Int))), (4, .c (ci v10_1)), (5, .c (ci v14_2)), (9, .c (ci (t.length : Int))), (10, .c (ci v10_1)), (13, .c (ci (t.length : Int))), (14, .c (ci v14_2)), (17, .c (ci (t.length : Int))), (18, .c (ci v18_3))]) rfl rfl ⟨rfl, rfl, rfl, rfl, rfl, rfl, rfl, rfl, rfl, rfl, trivial⟩) ?_
          refine aw_region ?_
          obtain ⟨q18, h⟩ := h
          refine run_s (ss_add rfl rfl q18) rfl ?_
          refine run_s (ss_move rfl) rfl ?_
          refine run_nil ?_
          exact ⟨v18_3 + 1, ghe_to (n := 61) rfl rfl ⟨rfl, rfl, rfl, rfl, rfl, rfl, rfl, rfl, rfl, rfl, trivial⟩, h.1, h.2⟩
      · replace h := h.2 (of_decide_eq_false q6)
        refine aw_exit ?_
        refine aw_gh (gh_to (n := 61) (σ' := []) (env' := [(0, .c (.lst (rows t))), (3, .c (ci (t.length : Int))), (4, .c (ci v10_1)), (9, .c (ci (t.length : Int))), (10, .c (ci v10_1)), (13, .c (ci (t.length : Int))), (14, .c (ci v14_2))]) rfl rfl ⟨rfl, rfl, rfl, rfl, rfl, rfl, rfl, trivial⟩) ?_
        refine aw_region ?_
        obtain ⟨q19, h⟩ := h
        refine run_s (ss_add rfl rfl q19) rfl ?_
        refine run_s (ss_move rfl) rfl ?_
        refine run_nil ?_
        exact ⟨v14_2 + 1, ghe_to (n := 61) rfl rfl ⟨rfl, rfl, rfl, rfl, rfl, rfl, rfl, trivial⟩, h.1, h.2⟩
    · replace h := h.2 (of_decide_eq_false q4)
      refine aw_exit ?_
      refine aw_gh (gh_to (n := 61) (σ' := []) (env' := [(0, .c (.lst (rows t))), (3, .c (ci (t.length : Int))), (9, .c (ci (t.length : Int))), (10, .c (ci v10_1))]) rfl rfl ⟨rfl, rfl, rfl, rfl, trivial⟩) ?_
      refine aw_region ?_
      obtain ⟨q20, h⟩ := h
      refine run_s (ss_add rfl rfl q20) rfl ?_
      refine run_s (ss_move rfl) rfl ?_
      refine run_nil ?_
      exact ⟨v10_1 + 1, ghe_to (n := 61) rfl rfl ⟨rfl, rfl, rfl, rfl, trivial⟩, h.1, h.2⟩
  · replace h := h.2 (of_decide_eq_false q2)
    refine aw_exit ?_
    refine aw_seq ?_
    refine aw_gh (gh_to (n := 61) (σ' := []) (env' := []) rfl rfl trivial) ?_
    refine aw_region ?_
    refine run_s (ss_assign rfl) rfl ?_
    refine run_nil ?_
    refine aw_ret ?_
    exact retAF_mk (retv1 rfl (rv_tmp rfl)) rfl rfl ⟨_, (cle_refl _), _, h, rfl⟩

theorem c_impl_rackFault (t : List (List Int)) (hp : isTab t = true) : AF Try.prog 93 [.lst (rows t)] (fun R_ => R_ = onil (rackF t)) :=
  (w_impl_rackFault t (fun y0 => y0 = rackF t) (p_impl_rackFault t hp)).mono (by rintro r ⟨_, rfl, rfl⟩; rfl)

set_option maxRecDepth 100000 in
set_option maxHeartbeats 4000000 in
theorem w_spec_l03Fault (t : List (List Int)) (Q : List Int → Prop) (h : wp_spec_l03Fault t Q) : AF Try.prog 97 [.lst (rows t)] (fun R_ => ∃ y0, Q y0 ∧ R_ = .own (ints y0)) := by
  refine AF.ofWQ (af_enter (n := 61) Try.func97 rfl (by rfl) rfl (Nat.le_of_ble_eq_true rfl) ?_)
  unfold wp_spec_l03Fault at h
  refine aw_seq ?_
  refine aw_gh (gh_to (n := 61) (σ' := []) (env' := [(0, .c (.lst (rows t)))]) rfl rfl ⟨rfl, trivial⟩) ?_
  refine aw_region ?_
  refine run_s (ss_assign rfl) rfl ?_
  refine run_nil ?_
  refine aw_seq ?_
  refine aw_region ?_
  refine run_s (ss_move rfl) rfl ?_
  refine run_s (ss_lenL (f := (fun r => C.lst (ints r))) rfl) rfl ?_
  refine run_s (ss_assign rfl) rfl ?_
  refine run_nil ?_
  refine aw_seq ?_
  refine aw_seq ?_
  refine aw_region ?_
  refine run_s (ss_assign rfl) rfl ?_
  refine run_nil ?_
  refine aw_block ?_
  obtain ⟨H1, m1, q1, h⟩ := h
  refine aw_loop1 (fun (v4_1 : Int) => ⟨[], [(0, .c (.lst (rows t))), (3, .c (ci (t.length : Int))), (4, .c (ci v4_1))], 61⟩) H1 m1 ⟨0, ghe_to (n := 61) rfl rfl ⟨rfl, rfl, rfl, trivial⟩, q1⟩ ?_
  rintro v4_1 q1
  replace h := h v4_1 q1
  refine aw_seq ?_
  refine aw_seq ?_
  refine aw_region ?_
  refine run_s (ss_move rfl) rfl ?_
  refine run_s (ss_move rfl) rfl ?_
  refine run_s (ss_lss rfl rfl) rfl ?_
  refine run_nil ?_
  refine aw_cond rfl (fun q2 => ?_) (fun q2 => ?_)
  · replace h := h.1 (of_decide_eq_true q2)
    refine aw_skip ?_
    refine aw_seq ?_
    refine aw_block ?_
    refine aw_seq ?_
    refine aw_region ?_
    refine run_s (ss_assign rfl) rfl ?_
    refine run_nil ?_
    refine aw_block ?_
    obtain ⟨H2, m2, q3, h⟩ := h
    refine aw_loop1 (fun (v5_2 : Int) => ⟨[], [(0, .c (.lst (rows t))), (3, .c (ci (t.length : Int))), (4, .c (ci v4_1)), (5, .c (ci v5_2))], 61⟩) H2 m2 ⟨0, ghe_to (n := 61) rfl rfl ⟨rfl, rfl, rfl, rfl, trivial⟩, q3⟩ ?_
    rintro v5_2 q3
    replace h := h v5_2 q3
    refine aw_seq ?_
    refine aw_seq ?_
    refine aw_region ?_
    refine run_s (ss_move rfl) rfl ?_
    refine run_s (ss_move rfl) rfl ?_
    refine run_s (ss_lss rfl rfl) rfl ?_
    refine run_nil ?_
    refine aw_cond rfl (fun q4 => ?_) (fun q4 => ?_)
    · replace h := h.1 (of_decide_eq_true q4)
      refine aw_skip ?_
      refine aw_seq ?_
      refine aw_block ?_
      refine aw_seq ?_
      refine aw_region ?_
      refine run_s (ss_assign rfl) rfl ?_
      refine run_nil ?_
      refine aw_block ?_
      obtain ⟨H3, m3, q5, h⟩ := h
      refine aw_loop1 (fun (v6_3 : Int) => ⟨[], [(0, .c (.lst (rows t))), (3, .c (ci (t.length : Int))), (4, .c (ci v4_1)), (5, .c (ci v5_2)), (6, .c (ci v6_3))], 61⟩) H3 m3 ⟨0, ghe_to (n := 61) rfl rfl ⟨rfl, rfl, rfl, rfl, rfl, trivial⟩, q5⟩ ?_
      rintro v6_3 q5
      replace h := h v6_3 q5
      refine aw_seq ?_
      refine aw_seq ?_
      refine aw_region ?_
      refine run_s (ss_move rfl) rfl ?_
      refine run_s (ss_move rfl) rfl ?_
      refine run_s (ss_lss rfl rfl) rfl ?_
      refine run_nil ?_
      refine aw_cond rfl (fun q6 => ?_) (fun q6 => ?_)
      · replace h := h.1 (of_decide_eq_true q6)
        refine aw_skip ?_
        refine aw_seq ?_
        refine aw_block ?_
        refine aw_seq ?_
        refine aw_gh (gh_to (n := 61) (σ' := []) (env' := [(0, .c (.lst (rows t))), (3, .c (ci (t.length : Int))), (4, .c (ci v4_1)), (5, .c (ci v5_2)), (6, .c (ci v6_3))]) rfl rfl ⟨rfl, rfl, rfl, rfl, rfl, trivial⟩) ?_
        refine aw_regionD (kd := kdl [0, 0, 0, 1, 0, 0, 0, 1, 0, 0, 1, 0, 1, 0, 0, 0, 0, 1, 0, 0, 1, 0, 1, 0, 0, 0, 1, 0, 0, 1, 0, 1, 0]) (ord := [0, 1, 2, 4, 5, 6, 8, 13, 14, 15, 16, 18, 23, 24, 25, 27, 3, 7, 9, 10, 11, 12, 17, 19, 20, 21, 22, 26, 28, 29, 30, 31, 32]) [] mixed (by kernel_rfl) ?_
        refine rd_s rfl rfl trivial (ss_move rfl) rfl ?_
        refine rd_s rfl rfl trivial (ss_move rfl) rfl ?_
        obtain ⟨q7, h⟩ := h
        refine rd_s rfl rfl trivial (ss_idxL rfl rfl q7) rfl ?_
        refine rd_s rfl rfl trivial (ss_move rfl) rfl ?_
        refine rd_s rfl rfl trivial (ss_move rfl) rfl ?_
        obtain ⟨q8, h⟩ := h
        refine rd_s rfl rfl trivial (ss_idxL rfl rfl q8) rfl ?_
        refine rd_s rfl rfl trivial (ss_move rfl) rfl ?_
        refine rd_s rfl rfl trivial (ss_move rfl) rfl ?_
        refine rd_s rfl rfl trivial (ss_move rfl) rfl ?_
        refine rd_s rfl rfl trivial (ss_move rfl) rfl ?_
        obtain ⟨q9, h⟩ := h
        refine rd_s rfl rfl trivial (ss_idxL rfl rfl q9) rfl ?_
        refine rd_s rfl rfl trivial (ss_move rfl) rfl ?_
        refine rd_s rfl rfl trivial (ss_move rfl) rfl ?_
        refine rd_s rfl rfl trivial (ss_move rfl) rfl ?_
        obtain ⟨q10, h⟩ := h
        refine rd_s rfl rfl trivial (ss_idxL rfl rfl q10) rfl ?_
        refine rd_s rfl rfl trivial (ss_move rfl) rfl ?_
        refine rd_l rfl rfl trivial (ss_loadL (f := (fun r => C.lst (ints r))) rfl q7) rfl ?_
        refine rd_l rfl rfl trivial (ss_loadL (f := (fun r => C.lst (ints r))) rfl q8) rfl ?_
        obtain ⟨q11, h⟩ := h
        refine rd_s rfl rfl trivial (ss_idxL rfl rfl q11) rfl ?_
        refine rd_l rfl rfl trivial (ss_loadL (f := ci) rfl q11) rfl ?_
        obtain ⟨q12, h⟩ := h
        refine rd_s rfl rfl trivial (ss_idxL rfl rfl q12) rfl ?_
        refine rd_l rfl rfl trivial (ss_loadL (f := ci) rfl q12) rfl ?_
        refine rd_l rfl rfl trivial (ss_loadL (f := (fun r => C.lst (ints r))) rfl q9) rfl ?_
        obtain ⟨q13, h⟩ := h
        refine rd_s rfl rfl trivial (ss_idxL rfl rfl q13) rfl ?_
        refine rd_l rfl rfl trivial (ss_loadL (f := ci) rfl q13) rfl ?_
        obtain ⟨q14, h⟩ := h
        refine rd_s rfl rfl trivial (ss_idxL rfl rfl q14) rfl ?_
        refine rd_l rfl rfl trivial (ss_loadL (f := (fun r => C.lst (ints r))) rfl q14) rfl ?_
        refine rd_l rfl rfl trivial (ss_loadL (f := (fun r => C.lst (ints r))) rfl q10) rfl ?_
        obtain ⟨q15, h⟩ := h
        refine rd_s rfl rfl trivial (ss_idxL rfl rfl q15) rfl ?_
        refine rd_l rfl rfl trivial (ss_loadL (f := ci) rfl q15) rfl ?_
        obtain ⟨q16, h⟩ := h
        refine rd_s rfl rfl trivial (ss_idxL rfl rfl q16) rfl ?_
        refine rd_l rfl rfl trivial (ss_loadL (f := ci) rfl q16) rfl ?_
        refine rd_s rfl rfl trivial (ss_neq rfl rfl) rfl ?_
        refine rd_nil ?_
        refine aw_cond rfl (fun q17 => ?_) (fun q17 => ?_)
        · replace h := h.1 (of_decide_eq_false (bnot_t q17))
          refine aw_seq ?_
          refine aw_gh (gh_to (n := 61) (σ' := []) (env' := [(4, .c (ci v4_1)), (5, .c (ci v5_2)), (6, .c (ci v6_3))]) rfl rfl ⟨rfl, rfl, rfl, trivial⟩) ?_
          refine aw_region ?_
          refine run_s (ss_move rfl) rfl ?_
          refine run_s (ss_move rfl) rfl ?_
          refine run_s (ss_move rfl) rfl ?_
          refine run_w (ws_buildSlice (id := 60) (ps := [(0, .tmp 57), (1, .tmp 58), (2, .tmp 59)]) rfl rfl (Nat.le_of_ble_eq_true rfl) rfl ⟨rfl, ?_⟩)
          refine run_s (ss_assign rfl) rfl ?_
          refine run_nil ?_
          refine aw_ret ?_
          exact retAF_mk (retv1 rfl (rv_tmp rfl)) rfl rfl ⟨_, (cle_refl _), _, h, rfl⟩
        · replace h := h.2 (of_decide_eq_true (bnot_f q17))
          refine aw_skip ?_
          refine aw_gh (gh_to (n := 61) (σ' := []) (env' := [(0, .c (.lst (rows t))), (3, .c (ci (t.length : Int))), (4, .c (ci v4_1)), (5, .c (ci v5_2)), (6, .c (ci v6_3))]) rfl rfl ⟨rfl, rfl, rfl, rfl, rfl, trivial⟩) ?_
          refine aw_region ?_
          refine run_s (ss_move rfl) rfl ?_
          obtain ⟨q18, h⟩ := h
          refine run_s (ss_add rfl rfl q18) rfl ?_
          refine run_s (ss_assign rfl) rfl ?_
          refine run_nil ?_
          exact ⟨v6_3 + 1, ghe_to (n := 61) rfl rfl ⟨rfl, rfl, rfl, rfl, rfl, trivial⟩, h.1, h.2⟩
      · replace h := h.2 (of_decide_eq_false q6)
        refine aw_exit ?_
        refine aw_region ?_
        refine run_s (ss_move rfl) rfl ?_
        obtain ⟨q19, h⟩ := h
        refine run_s (ss_add rfl rfl q19) rfl ?_
        refine run_s (ss_assign rfl) rfl ?_
        refine run_nil ?_
        exact ⟨v5_2 + 1, ghe_to (n := 61) rfl rfl ⟨rfl, rfl, rfl, rfl, trivial⟩, h.1, h.2⟩
    · replace h := h.2 (of_decide_eq_false q4)
      refine aw_exit ?_
      refine aw_region ?_
      refine run_s (ss_move rfl) rfl ?_
      obtain ⟨q20, h⟩ := h
      refine run_s (ss_add rfl rfl q20) rfl ?_
      refine run_s (ss_assign rfl) rfl ?_
      refine run_nil ?_
      exact ⟨v4_1 + 1, ghe_to (n := 61) rfl rfl ⟨rfl, rfl, rfl, trivial⟩, h.1, h.2⟩
  · replace h := h.2 (of_decide_eq_false q2)
    refine aw_exit ?_
    refine aw_seq ?_
    refine aw_gh (gh_to (n := 61) (σ' := []) (env' := []) rfl rfl trivial) ?_
    refine aw_region ?_
    refine run_s (ss_assign rfl) rfl ?_
    refine run_nil ?_
    refine aw_ret ?_
    exact retAF_mk (retv1 rfl (rv_tmp rfl)) rfl rfl ⟨_, cle_nilO, _, h, rfl⟩

theorem c_spec_l03Fault (t : List (List Int)) (hp : isTab t = true) : AF Try.prog 97 [.lst (rows t)] (fun R_ => R_ = .own (ints (rackF t))) :=
  (w_spec_l03Fault t (fun y0 => y0 = rackF t) (p_spec_l03Fault t hp)).mono (by rintro r ⟨_, rfl, rfl⟩; rfl)

set_option maxRecDepth 100000 in
set_option maxHeartbeats 4000000 in
theorem w_impl_IsRack (r : List (List Int)) (Q : Bool → Prop) (h : wp_impl_IsRack r Q) : AF Try.prog 15 [.agg [.lst (rows r)]] (fun R_ => ∃ y0, Q y0 ∧ R_ = cb y0) := by
  refine AF.ofWQ (af_enter (n := 17) Try.func15 rfl (by rfl) rfl (Nat.le_of_ble_eq_true rfl) ?_)
  unfold wp_impl_IsRack at h
  refine aw_seq ?_
  refine aw_gh (gh_to (n := 17) (σ' := []) (env' := [(0, .c (.agg [.lst (rows r)]))]) rfl rfl ⟨rfl, trivial⟩) ?_
  refine aw_region ?_
  refine run_w (ws_boxR rfl (.inl rfl) rfl ⟨rfl, ?_⟩)
  refine run_s (ss_assign rfl) rfl ?_
  refine run_nil ?_
  refine aw_seq ?_
  refine aw_region ?_
  refine run_s (ss_field_ptr rfl) rfl ?_
  refine run_s (ss_load_ptr rfl rfl) rfl ?_
  obtain ⟨q1, h⟩ := h
  refine run_w (ws_call (xs := [.tmp 4]) (ids := []) rfl rfl rfl rfl (c_impl_IsTable r q1) rfl ?_ )
  rintro _ rfl
  refine ⟨rfl, ?_⟩
  refine run_s (ss_move rfl) rfl ?_
  refine run_split (s := 6) rfl (fun q3 => ?_) (fun q3 => ?_)
  · replace h := h.1 (q3)
    refine run_gt rfl rfl q3 ?_
    refine run_s (ss_field_ptr rfl) rfl ?_
    refine run_gt rfl rfl q3 ?_
    refine run_s (ss_load_ptr rfl rfl) rfl ?_
    refine run_gt rfl rfl q3 ?_
    obtain ⟨q4, h⟩ := h
    refine run_w (ws_call (xs := [.tmp 8]) (ids := []) rfl rfl rfl rfl (c_impl_permutationRows r q4) rfl ?_ )
    rintro _ rfl
    refine ⟨rfl, ?_⟩
    refine run_s (ss_pickT rfl q3 rfl) rfl ?_
    refine run_s (ss_move rfl) rfl ?_
    refine run_split (s := 11) rfl (fun q6 => ?_) (fun q6 => ?_)
    · replace h := h.1 (q6)
      refine run_gt rfl rfl q6 ?_
      refine run_s (ss_field_ptr rfl) rfl ?_
      refine run_gt rfl rfl q6 ?_
      refine run_s (ss_load_ptr rfl rfl) rfl ?_
      refine run_gt rfl rfl q6 ?_
      by_cases q7 : (rackF r) = []
      · replace h := h.1 q7
        obtain ⟨q8, h⟩ := h
        refine run_w (ws_call (xs := [.tmp 13]) (ids := []) rfl rfl rfl rfl (AF.onil_n (c_impl_rackFault r q8) q7) rfl ?_ )
        rintro _ rfl
        refine ⟨rfl, ?_⟩
        refine run_gt rfl rfl q6 ?_
        refine run_s (ss_eql_nil rfl rfl) rfl ?_
        refine run_s (ss_pickT rfl q6 rfl) rfl ?_
        refine run_s (ss_assign rfl) rfl ?_
        refine run_nil ?_
        refine aw_ret ?_
        exact retAF_mk (retv1 rfl (rv_tmp rfl)) rfl rfl ⟨_, (cle_refl _), _, h, rfl⟩
      · replace h := h.2 q7
        obtain ⟨q10, h⟩ := h
        refine run_w (ws_call (xs := [.tmp 13]) (ids := [14]) rfl rfl rfl rfl (AF.onil_o (c_impl_rackFault r q10) q7) rfl ?_ )
        rintro _ rfl
        refine ⟨rfl, ?_⟩
        refine run_gt rfl rfl q6 ?_
        refine run_s (ss_eql_refNil rfl rfl (map_ne q7) rfl) rfl ?_
        refine run_s (ss_pickT rfl q6 rfl) rfl ?_
        refine run_s (ss_assign rfl) rfl ?_
        refine run_nil ?_
        refine aw_ret ?_
        exact retAF_mk (retv1 rfl (rv_tmp rfl)) rfl rfl ⟨_, (cle_refl _), _, h, rfl⟩
    · replace h := h.2 (q6)
      refine run_gf rfl rfl q6 rfl ?_
      refine run_gf rfl rfl q6 rfl ?_
      refine run_gf rfl rfl q6 rfl ?_
      refine run_gf rfl rfl q6 rfl ?_
      refine run_s (ss_pickF rfl q6 rfl) rfl ?_
      refine run_s (ss_assign rfl) rfl ?_
      refine run_nil ?_
      refine aw_ret ?_
      exact retAF_mk (retv1 rfl (rv_tmp rfl)) rfl rfl ⟨_, (cle_refl _), _, h, rfl⟩
  · replace h := h.2 (q3)
    refine run_gf rfl rfl q3 rfl ?_
    refine run_gf rfl rfl q3 rfl ?_
    refine run_gf rfl rfl q3 rfl ?_
    refine run_s (ss_pickF rfl q3 rfl) rfl ?_
    refine run_s (ss_move rfl) rfl ?_
    refine run_split (s := 11) rfl (fun q12 => ?_) (fun q12 => ?_)
    · cases q12
    · skip
      refine run_gf rfl rfl q12 rfl ?_
      refine run_gf rfl rfl q12 rfl ?_
      refine run_gf rfl rfl q12 rfl ?_
      refine run_gf rfl rfl q12 rfl ?_
      refine run_s (ss_pickF rfl q12 rfl) rfl ?_
      refine run_s (ss_assign rfl) rfl ?_
      refine run_nil ?_
      refine aw_ret ?_
      exact retAF_mk (retv1 rfl (rv_tmp rfl)) rfl rfl ⟨_, (cle_refl _), _, h, rfl⟩

theorem c_impl_IsRack (r : List (List Int)) (hp : small2 r) : AF Try.prog 15 [.agg [.lst (rows r)]] (fun R_ => R_ = cb (isRk r)) :=
  (w_impl_IsRack r (fun y0 => y0 = isRk r) (p_impl_IsRack r hp)).mono (by rintro r ⟨_, rfl, rfl⟩; rfl)

set_option maxRecDepth 100000 in
set_option maxHeartbeats 4000000 in
theorem w_spec_l03Is (r : List (List Int)) (Q : Bool → Prop) (h : wp_spec_l03Is r Q) : AF Try.prog 82 [.agg [.lst (rows r)]] (fun R_ => ∃ y0, Q y0 ∧ R_ = cb y0) := by
  refine AF.ofWQ (af_enter (n := 27) Try.func82 rfl (by rfl) rfl (Nat.le_of_ble_eq_true rfl) ?_)
  unfold wp_spec_l03Is at h
  refine aw_seq ?_
  refine aw_gh (gh_to (n := 27) (σ' := []) (env' := [(0, .c (.agg [.lst (rows r)]))]) rfl rfl ⟨rfl, trivial⟩) ?_
  refine aw_region ?_
  refine run_w (ws_boxR rfl (.inl rfl) rfl ⟨rfl, ?_⟩)
  refine run_s (ss_assign rfl) rfl ?_
  refine run_nil ?_
  refine aw_seq ?_
  refine aw_seq ?_
  refine aw_region ?_
  refine run_s (ss_field_ptr rfl) rfl ?_
  refine run_s (ss_load_ptr rfl rfl) rfl ?_
  obtain ⟨q1, h⟩ := h
  refine run_w (ws_call (xs := [.tmp 5]) (ids := []) rfl rfl rfl rfl (c_spec_l01Table r q1) rfl ?_ )
  rintro _ rfl
  refine ⟨rfl, ?_⟩
  refine run_s (ss_not rfl) rfl ?_
  refine run_nil ?_
  refine aw_cond rfl (fun q3 => ?_) (fun q3 => ?_)
  · replace h := h.1 ((bnot_t q3))
    refine aw_seq ?_
    refine aw_gh (gh_to (n := 27) (σ' := []) (env' := [(2, .c (cb false))]) rfl rfl ⟨rfl, trivial⟩) ?_
    refine aw_region ?_
    refine run_s (ss_assign rfl) rfl ?_
    refine run_nil ?_
    refine aw_ret ?_
    exact retAF_mk (retv1 rfl (rv_tmp rfl)) rfl rfl ⟨_, (cle_refl _), _, h, rfl⟩
  · replace h := h.2 ((bnot_f q3))
    refine aw_skip ?_
    refine aw_seq ?_
    refine aw_seq ?_
    refine aw_gh (gh_to (n := 27) (σ' := []) (env' := [(1, .c (.ptr [.lst (rows r)]))]) rfl rfl ⟨rfl, trivial⟩) ?_
    refine aw_region ?_
    refine run_s (ss_assign rfl) rfl ?_
    refine run_nil ?_
    refine aw_block ?_
    obtain ⟨H1, m1, q4, h⟩ := h
    refine aw_loop1 (fun (v3_1 : Int) => ⟨[], [(1, .c (.ptr [.lst (rows r)])), (3, .c (ci v3_1))], 27⟩) H1 m1 ⟨0, ghe_to (n := 27) rfl rfl ⟨rfl, rfl, trivial⟩, q4⟩ ?_
    rintro v3_1 q4
    replace h := h v3_1 q4
    refine aw_seq ?_
    refine aw_seq ?_
    refine aw_region ?_
    refine run_s (ss_move rfl) rfl ?_
    refine run_s (ss_field_ptr rfl) rfl ?_
    refine run_s (ss_load_ptr rfl rfl) rfl ?_
    refine run_s (ss_lenL (f := (fun r => C.lst (ints r))) rfl) rfl ?_
    refine run_s (ss_lss rfl rfl) rfl ?_
    refine run_nil ?_
    refine aw_cond rfl (fun q5 => ?_) (fun q5 => ?_)
    · replace h := h.1 (of_decide_eq_true q5)
      refine aw_skip ?_
      refine aw_seq ?_
      refine aw_block ?_
      refine aw_seq ?_
      refine aw_region ?_
      refine run_s (ss_field_ptr rfl) rfl ?_
      refine run_s (ss_load_ptr rfl rfl) rfl ?_
      refine run_s (ss_move rfl) rfl ?_
      obtain ⟨q6, h⟩ := h
      refine run_s (ss_idxL rfl rfl q6) rfl ?_
      refine run_s (ss_loadL (f := (fun r => C.lst (ints r))) rfl q6) rfl ?_
      obtain ⟨q7, h⟩ := h
      refine run_w (ws_call (xs := [.tmp 19]) (ids := []) rfl rfl rfl rfl (c_spec_l01Perm (el r v3_1) q7) rfl ?_ )
      rintro _ rfl
      refine ⟨rfl, ?_⟩
      refine run_s (ss_not rfl) rfl ?_
      refine run_nil ?_
      refine aw_cond rfl (fun q9 => ?_) (fun q9 => ?_)
      · replace h := h.1 ((bnot_t q9))
        refine aw_seq ?_
        refine aw_gh (gh_to (n := 27) (σ' := []) (env' := []) rfl rfl trivial) ?_
        refine aw_region ?_
        refine run_s (ss_assign rfl) rfl ?_
        refine run_nil ?_
        refine aw_ret ?_
        exact retAF_mk (retv1 rfl (rv_tmp rfl)) rfl rfl ⟨_, (cle_refl _), _, h, rfl⟩
      · replace h := h.2 ((bnot_f q9))
        refine aw_skip ?_
        refine aw_gh (gh_to (n := 27) (σ' := []) (env' := [(1, .c (.ptr [.lst (rows r)])), (3, .c (ci v3_1))]) rfl rfl ⟨rfl, rfl, trivial⟩) ?_
        refine aw_region ?_
        refine run_s (ss_move rfl) rfl ?_
        obtain ⟨q10, h⟩ := h
        refine run_s (ss_add rfl rfl q10) rfl ?_
        refine run_s (ss_assign rfl) rfl ?_
        refine run_nil ?_
        exact ⟨v3_1 + 1, ghe_to (n := 27) rfl rfl ⟨rfl, rfl, trivial⟩, h.1, h.2⟩
    · replace h := h.2 (of_decide_eq_false q5)
      refine aw_exit ?_
      refine aw_seq ?_
      refine aw_region ?_
      refine run_s (ss_field_ptr rfl) rfl ?_
      refine run_s (ss_load_ptr rfl rfl) rfl ?_
      obtain ⟨q11, h⟩ := h
      refine run_w (ws_call (xs := [.tmp 23]) (ids := [24]) rfl rfl rfl rfl (c_spec_l03Fault r q11) rfl ?_ )
      rintro _ rfl
      refine ⟨rfl, ?_⟩
      refine run_s (ss_lenR (f := ci) rfl rfl) rfl ?_
      refine run_s (ss_eql rfl rfl) rfl ?_
      refine run_s (ss_assign rfl) rfl ?_
      refine run_nil ?_
      refine aw_ret ?_
      exact retAF_mk (retv1 rfl (rv_tmp rfl)) rfl rfl ⟨_, (cle_refl _), _, h, rfl⟩

theorem c_spec_l03Is (r : List (List Int)) (hp : small2 r) : AF Try.prog 82 [.agg [.lst (rows r)]] (fun R_ => R_ = cb (isRk r)) :=
  (w_spec_l03Is r (fun y0 => y0 = isRk r) (p_spec_l03Is r hp)).mono (by rintro r ⟨_, rfl, rfl⟩; rfl)

set_option maxRecDepth 100000 in
set_option maxHeartbeats 4000000 in
theorem w_spec_IsRack (r : List (List Int)) (Q : Bool → Prop) (h : wp_spec_IsRack r Q) : AF Try.prog 25 [.agg [.lst (rows r)]] (fun R_ => ∃ y0, Q y0 ∧ R_ = cb y0) := by
  refine AF.ofWQ (af_enter (n := 5) Try.func25 rfl (by rfl) rfl (Nat.le_of_ble_eq_true rfl) ?_)
  unfold wp_spec_IsRack at h
  refine aw_seq ?_
  refine aw_gh (gh_to (n := 5) (σ' := []) (env' := [(0, .c (.agg [.lst (rows r)]))]) rfl rfl ⟨rfl, trivial⟩) ?_
  refine aw_region ?_
  refine run_w (ws_boxR rfl (.inl rfl) rfl ⟨rfl, ?_⟩)
  refine run_s (ss_assign rfl) rfl ?_
  refine run_nil ?_
  refine aw_seq ?_
  refine aw_region ?_
  refine run_s (ss_load_struct rfl (Nat.le_of_ble_eq_true rfl)) rfl ?_
  obtain ⟨q1, h⟩ := h
  refine run_w (ws_call (xs := [.tmp 3]) (ids := []) rfl rfl rfl rfl (c_spec_l03Is r q1) rfl ?_ )
  rintro _ rfl
  refine ⟨rfl, ?_⟩
  refine run_s (ss_assign rfl) rfl ?_
  refine run_nil ?_
  refine aw_ret ?_
  exact retAF_mk (retv1 rfl (rv_tmp rfl)) rfl rfl ⟨_, (cle_refl _), _, h, rfl⟩

theorem c_spec_IsRack (r : List (List Int)) (hp : small2 r) : AF Try.prog 25 [.agg [.lst (rows r)]] (fun R_ => R_ = cb (isRk r)) :=
  (w_spec_IsRack r (fun y0 => y0 = isRk r) (p_spec_IsRack r hp)).mono (by rintro r ⟨_, rfl, rfl⟩; rfl)

set_option maxRecDepth 100000 in
set_option maxHeartbeats 4000000 in
theorem w_impl_kinkOf (r : List (List Int)) (Q : List Int → Prop) (h : wp_impl_kinkOf r Q) : AF Try.prog 99 [.agg [.lst (rows r)]] (fun R_ => ∃ y0, Q y0 ∧ R_ = .own (ints y0)) := by
  refine AF.ofWQ (af_enter (n := 27) Try.func99 rfl (by rfl) rfl (Nat.le_of_ble_eq_true rfl) ?_)
  unfold wp_impl_kinkOf at h
  refine aw_seq ?_
  refine aw_gh (gh_to (n := 27) (σ' := []) (env' := [(0, .c (.agg [.lst (rows r)]))]) rfl rfl ⟨rfl, trivial⟩) ?_
  refine aw_region ?_
  refine run_w (ws_boxR rfl (.inl rfl) rfl ⟨rfl, ?_⟩)
  refine run_s (ss_assign rfl) rfl ?_
  refine run_nil ?_
  refine aw_seq ?_
  refine aw_region ?_
  refine run_s (ss_field_ptr rfl) rfl ?_
  refine run_s (ss_load_ptr rfl rfl) rfl ?_
  refine run_s (ss_lenL (f := (fun r => C.lst (ints r))) rfl) rfl ?_
  obtain ⟨q1, h⟩ := h
  refine run_w (ws_mk (id := 8) ci (0 : Int) rfl rfl rfl q1 (Nat.le_of_ble_eq_true rfl) rfl ⟨rfl, ?_⟩)
  refine run_s (ss_assign rfl) rfl ?_
  refine run_nil ?_
  refine aw_seq ?_
  refine aw_seq ?_
  refine aw_gh (gh_to (n := 27) (σ' := [(8, ⟨ints (List.replicate (r.length : Int).toNat (0 : Int)), []⟩)]) (env' := [(1, .c (.ptr [.lst (rows r)])), (3, .ref 8)]) rfl rfl ⟨rfl, rfl, trivial⟩) ?_
  refine aw_region ?_
  refine run_s (ss_move rfl) rfl ?_
  refine run_s (ss_lenR (f := ci) rfl rfl) rfl ?_
  refine run_s (ss_move rfl) rfl ?_
  refine run_nil ?_
  refine aw_block ?_
  obtain ⟨H1, m1, q2, h⟩ := h
  refine aw_loop2 (fun (v11_1 : Int) (o8_1 : List Int) => ⟨[(8, ⟨ints o8_1, []⟩)], [(1, .c (.ptr [.lst (rows r)])), (3, .ref 8), (10, .c (ci ((List.replicate (r.length : Int).toNat (0 : Int)).length : Int))), (11, .c (ci v11_1))], 27⟩) H1 m1 ⟨0, List.replicate (r.length : Int).toNat (0 : Int), ghe_to (n := 27) rfl rfl ⟨rfl, rfl, rfl, rfl, trivial⟩, q2⟩ ?_
  rintro v11_1 o8_1 q2
  replace h := h v11_1 o8_1 q2
  refine aw_seq ?_
  refine aw_region ?_
  refine run_s (ss_lss rfl rfl) rfl ?_
  refine run_nil ?_
  refine aw_seq ?_
  refine aw_cond rfl (fun q3 => ?_) (fun q3 => ?_)
  · replace h := h.1 (of_decide_eq_true q3)
    refine aw_skip ?_
    refine aw_seq ?_
    refine aw_block ?_
    refine aw_seq ?_
    refine aw_region ?_
    refine run_s (ss_move rfl) rfl ?_
    refine run_s (ss_assign rfl) rfl ?_
    refine run_nil ?_
    refine aw_region ?_
    refine run_s (ss_move rfl) rfl ?_
    refine run_s (ss_move rfl) rfl ?_
    refine run_s (ss_field_ptr rfl) rfl ?_
    refine run_s (ss_load_ptr rfl rfl) rfl ?_
    refine run_s (ss_move rfl) rfl ?_
    obtain ⟨q4, h⟩ := h
    refine run_s (ss_idxL rfl rfl q4) rfl ?_
    refine run_s (ss_loadL (f := (fun r => C.lst (ints r))) rfl q4) rfl ?_
    refine run_s (ss_move rfl) rfl ?_
    obtain ⟨q5, h⟩ := h
    refine run_s (ss_idxL rfl rfl q5) rfl ?_
    refine run_s (ss_loadL (f := ci) rfl q5) rfl ?_
    obtain ⟨q6, h⟩ := h
    refine run_s (ss_idxR (f := ci) rfl rfl rfl q6) rfl ?_
    refine run_w (ws_storeE rfl rfl (map_lt q6) rfl rfl (map_se (f := ci)) rfl ⟨rfl, ?_⟩)
    refine run_nil ?_
    refine aw_gh (gh_to (n := 27) (σ' := [(8, ⟨ints (se o8_1 v11_1 (el (el r v11_1) v11_1)), []⟩)]) (env' := [(1, .c (.ptr [.lst (rows r)])), (3, .ref 8), (10, .c (ci ((List.replicate (r.length : Int).toNat (0 : Int)).length : Int))), (11, .c (ci v11_1))]) rfl rfl ⟨rfl, rfl, rfl, rfl, trivial⟩) ?_
    refine aw_region ?_
    obtain ⟨q7, h⟩ := h
    refine run_s (ss_add rfl rfl q7) rfl ?_
    refine run_s (ss_move rfl) rfl ?_
    refine run_nil ?_
    exact ⟨v11_1 + 1, se o8_1 v11_1 (el (el r v11_1) v11_1), ghe_to (n := 27) rfl rfl ⟨rfl, rfl, rfl, rfl, trivial⟩, h.1, h.2⟩
  · replace h := h.2 (of_decide_eq_false q3)
    refine aw_exit ?_
    refine aw_seq ?_
    refine aw_region ?_
    refine run_s (ss_move rfl) rfl ?_
    refine run_s (ss_assign rfl) rfl ?_
    refine run_nil ?_
    refine aw_ret ?_
    exact retAF_mk (retv1 rfl (rv_tmp rfl)) rfl rfl ⟨_, (cle_refl _), _, h, rfl⟩

theorem c_impl_kinkOf (r : List (List Int)) (hp : isTab r = true) : AF Try.prog 99 [.agg [.lst (rows r)]] (fun R_ => R_ = .own (ints (diag r))) :=
  (w_impl_kinkOf r (fun y0 => y0 = diag r) (p_impl_kinkOf r hp)).mono (by rintro r ⟨_, rfl, rfl⟩; rfl)

set_option maxRecDepth 100000 in
set_option maxHeartbeats 4000000 in
theorem w_impl_IsInvolutoryRack_1 (row : List Int) (Q : Bool → Prop) (h : wp_impl_IsInvolutoryRack_1 row Q) : AF Try.prog 106 [.lst (ints row)] (fun R_ => ∃ y0, Q y0 ∧ R_ = cb y0) := by
  refine AF.ofWQ (af_enter (n := 8) Try.func106 rfl (by rfl) rfl (Nat.le_of_ble_eq_true rfl) ?_)
  unfold wp_impl_IsInvolutoryRack_1 at h
  refine aw_seq ?_
  refine aw_gh (gh_to (n := 8) (σ' := []) (env' := [(0, .c (.lst (ints row)))]) rfl rfl ⟨rfl, trivial⟩) ?_
  refine aw_region ?_
  refine run_s (ss_assign rfl) rfl ?_
  refine run_nil ?_
  refine aw_seq ?_
  refine aw_region ?_
  refine run_s (ss_move rfl) rfl ?_
  refine run_s (ss_move rfl) rfl ?_
  obtain ⟨q1, h⟩ := h
  refine run_w (ws_call (xs := [.tmp 3, .tmp 4]) (ids := [5]) rfl rfl rfl rfl (c_impl_then row row q1) rfl ?_ )
  rintro _ rfl
  refine ⟨rfl, ?_⟩
  obtain ⟨q3, h⟩ := h
  refine run_w (ws_callR (xs := [.tmp 5]) (cs := [.own (ints (row.map (el row)))]) (ids := []) rfl (.inr ⟨rfl, rfl⟩) rfl rfl (fz_cons (fz_own (fz_map (fun _ => rfl) _)) fz_nil) (c_impl_isIdentity (row.map (el row)) q3) rfl ?_ )
  rintro _ rfl
  refine ⟨rfl, rfl, ?_⟩
  refine run_s (ss_not rfl) rfl ?_
  refine run_s (ss_assign rfl) rfl ?_
  refine run_nil ?_
  refine aw_ret ?_
  exact retAF_mk (retv1 rfl (rv_tmp rfl)) rfl rfl ⟨_, (cle_refl _), _, h, rfl⟩

theorem c_impl_IsInvolutoryRack_1 (row : List Int) (hp : small row ∧ isPerm row = true) : AF Try.prog 106 [.lst (ints row)] (fun R_ => R_ = cb (!invB row)) :=
  (w_impl_IsInvolutoryRack_1 row (fun y0 => y0 = !invB row) (p_impl_IsInvolutoryRack_1 row hp)).mono (by rintro r ⟨_, rfl, rfl⟩; rfl)

set_option maxRecDepth 100000 in
set_option maxHeartbeats 4000000 in
theorem w_impl_dualRack (r : List (List Int)) (Q : List (List Int) → Prop) (h : wp_impl_dualRack r Q) : AF Try.prog 100 [.agg [.lst (rows r)]] (fun R_ => ∃ y0, Q y0 ∧ R_ = .agg [.own (orows y0)]) := by
  refine AF.ofWQ (af_enter (n := 22) Try.func100 rfl (by rfl) rfl (Nat.le_of_ble_eq_true rfl) ?_)
  unfold wp_impl_dualRack at h
  refine aw_seq ?_
  refine aw_gh (gh_to (n := 22) (σ' := []) (env' := [(0, .c (.agg [.lst (rows r)]))]) rfl rfl ⟨rfl, trivial⟩) ?_
  refine aw_region ?_
  refine run_w (ws_boxR rfl (.inl rfl) rfl ⟨rfl, ?_⟩)
  refine run_w (ws_alloc (id := 2) rfl (Nat.le_of_ble_eq_true rfl) ⟨rfl, ?_⟩)
  refine run_nil ?_
  refine aw_seq ?_
  refine aw_region ?_
  refine run_w (ws_alloc (id := 3) rfl (Nat.le_of_ble_eq_true rfl) ⟨rfl, ?_⟩)
  refine run_nil ?_
  refine aw_seq ?_
  refine aw_seq ?_
  refine aw_region ?_
  refine run_s (ss_field_ptr rfl) rfl ?_
  refine run_s (ss_load_ptr rfl rfl) rfl ?_
  refine run_s (ss_lenL (f := (fun r => C.lst (ints r))) rfl) rfl ?_
  refine run_s (ss_move rfl) rfl ?_
  refine run_nil ?_
  refine aw_block ?_
  obtain ⟨H1, m1, q1, h⟩ := h
  refine aw_loop2 (fun (v9_1 : Int) (o200048_1 : List (List Int)) => ⟨[(200048, ⟨orows o200048_1, []⟩), (3, ⟨[.hole], [(0, .ref 200048)]⟩), (2, ⟨[cnil], []⟩)], [(2, .cell 2 0), (3, .cell 3 0), (7, .c (.lst (rows r))), (8, .c (ci (r.length : Int))), (9, .c (ci v9_1))], 22⟩) H1 m1 ⟨0, ([] : List (List Int)), ghe_step (gh_nilH (id0 := 3) (j := 0) (id := 200048) rfl rfl rfl rfl) (ghe_to (n := 22) rfl rfl ⟨rfl, rfl, rfl, rfl, rfl, trivial⟩), q1⟩ ?_
  rintro v9_1 o200048_1 q1
  replace h := h v9_1 o200048_1 q1
  refine aw_seq ?_
  refine aw_region ?_
  refine run_s (ss_lss rfl rfl) rfl ?_
  refine run_nil ?_
  refine aw_seq ?_
  refine aw_cond rfl (fun q2 => ?_) (fun q2 => ?_)
  · replace h := h.1 (of_decide_eq_true q2)
    refine aw_skip ?_
    refine aw_seq ?_
    refine aw_block ?_
    refine aw_seq ?_
    refine aw_region ?_
    obtain ⟨q3, h⟩ := h
    refine run_s (ss_idxL rfl rfl q3) rfl ?_
    refine run_s (ss_loadL (f := (fun r => C.lst (ints r))) rfl q3) rfl ?_
    refine run_s (ss_assign rfl) rfl ?_
    refine run_nil ?_
    refine aw_gh (gh_to (n := 22) (σ' := [(200048, ⟨orows o200048_1, []⟩), (3, ⟨[.hole], [(0, .ref 200048)]⟩), (2, ⟨[cnil], []⟩)]) (env' := [(2, .cell 2 0), (3, .cell 3 0), (5, .c (.lst (ints (el r v9_1)))), (7, .c (.lst (rows r))), (8, .c (ci (r.length : Int))), (9, .c (ci v9_1))]) rfl rfl ⟨rfl, rfl, rfl, rfl, rfl, rfl, trivial⟩) ?_
    refine aw_regionD (kd := kdl [0, 1, 0, 2, 2, 2, 0, 3]) (ord := [0, 2, 1, 3, 4, 5, 6, 7]) [16, 17, 200048] mixed (by kernel_rfl) ?_
    refine rd_s rfl rfl trivial (ss_field_cell rfl) rfl ?_
    refine rd_s rfl rfl trivial (ss_move rfl) rfl ?_
    refine rd_l rfl rfl trivial (ss_loadH rfl rfl rfl rfl) rfl ?_
    obtain ⟨q4, h⟩ := h
    refine rd_w rfl rfl trivial rfl rfl (ws_call (xs := [.tmp 15]) (ids := [16]) rfl rfl rfl rfl (c_impl_inverse (el r v9_1) q4) rfl ?_ )
    rintro _ rfl
    refine ⟨rfl, ?_⟩
    refine rd_w rfl rfl trivial rfl rfl (ws_buildSlice (id := 17) (ps := [(0, .tmp 16)]) rfl rfl (Nat.le_of_ble_eq_true rfl) rfl ⟨rfl, ?_⟩)
    obtain ⟨q6, h⟩ := h
    refine rd_w rfl rfl trivial rfl rfl (ws_gh (gh_fill (id := 17) (id2 := 16) (j := 0) rfl rfl (Nat.le_of_ble_eq_true rfl) rfl rfl rfl) (ws_app1 (fun r => C.own (ints r)) (l := o200048_1) (m := [backI (el r v9_1)]) rfl rfl rfl rfl rfl (Nat.le_of_ble_eq_true rfl) q6 ⟨rfl, ?_⟩))
    refine rd_s rfl rfl trivial (ss_field_cell rfl) rfl ?_
    refine rd_f rfl rfl trivial (ws_store rfl rfl (Nat.le_of_ble_eq_true rfl) rfl rfl ⟨rfl, ?_⟩)
    refine rd_nil ?_
    refine aw_gh (gh_to (n := 22) (σ' := [(200048, ⟨orows (o200048_1 ++ ([backI (el r v9_1)])), []⟩), (3, ⟨[.hole], [(0, .ref 200048)]⟩), (2, ⟨[cnil], []⟩)]) (env' := [(2, .cell 2 0), (3, .cell 3 0), (7, .c (.lst (rows r))), (8, .c (ci (r.length : Int))), (9, .c (ci v9_1))]) rfl rfl ⟨rfl, rfl, rfl, rfl, rfl, trivial⟩) ?_
    refine aw_region ?_
    obtain ⟨q7, h⟩ := h
    refine run_s (ss_add rfl rfl q7) rfl ?_
    refine run_s (ss_move rfl) rfl ?_
    refine run_nil ?_
    exact ⟨v9_1 + 1, o200048_1 ++ ([backI (el r v9_1)]), ghe_to (n := 22) rfl rfl ⟨rfl, rfl, rfl, rfl, rfl, trivial⟩, h.1, h.2⟩
  · replace h := h.2 (of_decide_eq_false q2)
    refine aw_exit ?_
    refine aw_seq ?_
    refine aw_gh (gh_to (n := 22) (σ' := [(200048, ⟨orows o200048_1, []⟩), (3, ⟨[.hole], [(0, .ref 200048)]⟩), (2, ⟨[cnil], []⟩)]) (env' := [(2, .cell 2 0), (3, .cell 3 0)]) rfl rfl ⟨rfl, rfl, trivial⟩) ?_
    refine aw_region ?_
    refine run_s (ss_loadS rfl rfl rfl rfl) rfl ?_
    refine run_w (ws_storeS rfl rfl (Nat.le_of_ble_eq_true rfl) rfl rfl rfl ⟨rfl, ?_⟩)
    refine run_nil ?_
    refine aw_ret ?_
    exact retAF_mk (retv1 rfl (rv_struct rfl rfl rfl)) rfl rfl ⟨_, (cle_refl _), _, h, rfl⟩

theorem c_impl_dualRack (r : List (List Int)) (hp : isTab r = true ∧ r.all isPerm = true) : AF Try.prog 100 [.agg [.lst (rows r)]] (fun R_ => R_ = .agg [.own (orows (r.map backI))]) :=
  (w_impl_dualRack r (fun y0 => y0 = r.map backI) (p_impl_dualRack r hp)).mono (by rintro r ⟨_, rfl, rfl⟩; rfl)

set_option maxRecDepth 100000 in
set_option maxHeartbeats 4000000 in
theorem w_impl_QuandleOf_1 (x : Int) (y : Int) (back : List Int) (r : List (List Int)) (Q : Int → Prop) (h : wp_impl_QuandleOf_1 x y back r Q) : AF Try.prog 103 [ci x, ci y, .ptr [.lst (ints back)], .ptr [.lst (rows r)]] (fun R_ => ∃ y0, Q y0 ∧ R_ = ci y0) := by
  refine AF.ofWQ (af_enter (n := 18) Try.func103 rfl (by rfl) rfl (Nat.le_of_ble_eq_true rfl) ?_)
  unfold wp_impl_QuandleOf_1 at h
  refine aw_seq ?_
  refine aw_gh (gh_to (n := 18) (σ' := []) (env' := [(0, .c (ci x)), (1, .c (ci y)), (2, .c (.ptr [.lst (ints back)])), (3, .c (.ptr [.lst (rows r)]))]) rfl rfl ⟨rfl, rfl, rfl, rfl, trivial⟩) ?_
  refine aw_region ?_
  refine run_s (ss_assign rfl) rfl ?_
  refine run_nil ?_
  refine aw_seq ?_
  refine aw_gh (gh_to (n := 18) (σ' := []) (env' := [(0, .c (ci x)), (1, .c (ci y)), (2, .c (.ptr [.lst (ints back)])), (3, .c (.ptr [.lst (rows r)])), (6, .c (ci 0))]) rfl rfl ⟨rfl, rfl, rfl, rfl, rfl, trivial⟩) ?_
  refine aw_regionD (kd := kdl [1, 0, 1, 0, 0, 1, 0, 0, 1, 0, 1, 0]) (ord := [1, 3, 6, 0, 2, 4, 5, 7, 8, 9, 10, 11]) [] mixed (by kernel_rfl) ?_
  refine rd_s rfl rfl trivial (ss_field_ptr rfl) rfl ?_
  refine rd_s rfl rfl trivial (ss_move rfl) rfl ?_
  refine rd_s rfl rfl trivial (ss_move rfl) rfl ?_
  refine rd_l rfl rfl trivial (ss_load_ptr rfl rfl) rfl ?_
  refine rd_l rfl rfl trivial (ss_load_ptr rfl rfl) rfl ?_
  obtain ⟨q1, h⟩ := h
  refine rd_s rfl rfl trivial (ss_idxL rfl rfl q1) rfl ?_
  refine rd_l rfl rfl trivial (ss_loadL (f := (fun r => C.lst (ints r))) rfl q1) rfl ?_
  obtain ⟨q2, h⟩ := h
  refine rd_s rfl rfl trivial (ss_idxL rfl rfl q2) rfl ?_
  refine rd_l rfl rfl trivial (ss_loadL (f := ci) rfl q2) rfl ?_
  obtain ⟨q3, h⟩ := h
  refine rd_s rfl rfl trivial (ss_idxL rfl rfl q3) rfl ?_
  refine rd_l rfl rfl trivial (ss_loadL (f := ci) rfl q3) rfl ?_
  refine rd_s rfl rfl trivial (ss_assign rfl) rfl ?_
  refine rd_nil ?_
  refine aw_ret ?_
  exact retAF_mk (retv1 rfl (rv_tmp rfl)) rfl rfl ⟨_, (cle_refl _), _, h, rfl⟩

theorem c_impl_QuandleOf_1 (x : Int) (y : Int) (back : List Int) (r : List (List Int)) (hp : isTab r = true ∧ (back.length : Int) = (r.length : Int) ∧ 0 ≤ x ∧ x < (r.length : Int) ∧ 0 ≤ y ∧ y < (r.length : Int)) : AF Try.prog 103 [ci x, ci y, .ptr [.lst (ints back)], .ptr [.lst (rows r)]] (fun R_ => R_ = ci (el back (el (el r x) y))) :=
  (w_impl_QuandleOf_1 x y back r (fun y0 => y0 = el back (el (el r x) y)) (p_impl_QuandleOf_1 x y back r hp)).mono (by rintro r ⟨_, rfl, rfl⟩; rfl)

set_option maxRecDepth 100000 in
set_option maxHeartbeats 4000000 in
theorem w_spec_RackFault (r : List (List Int)) (Q : List Int → Int → Prop) (h : wp_spec_RackFault r Q) : AF Try.prog 24 [.agg [.lst (rows r)]] (fun R_ => ∃ y0 y1, Q y0 y1 ∧ R_ = .tup [.own (ints y0), ci y1]) := by
  refine AF.ofWQ (af_enter (n := 31) Try.func24 rfl (by rfl) rfl (Nat.le_of_ble_eq_true rfl) ?_)
  unfold wp_spec_RackFault at h
  refine aw_seq ?_
  refine aw_gh (gh_to (n := 31) (σ' := []) (env' := [(0, .c (.agg [.lst (rows r)]))]) rfl rfl ⟨rfl, trivial⟩) ?_
  refine aw_region ?_
  refine run_w (ws_boxR rfl (.inl rfl) rfl ⟨rfl, ?_⟩)
  refine run_s (ss_assign rfl) rfl ?_
  refine run_s (ss_assign rfl) rfl ?_
  refine run_nil ?_
  refine aw_seq ?_
  refine aw_seq ?_
  refine aw_region ?_
  refine run_s (ss_field_ptr rfl) rfl ?_
  refine run_s (ss_load_ptr rfl rfl) rfl ?_
  obtain ⟨q1, h⟩ := h
  refine run_w (ws_call (xs := [.tmp 7]) (ids := []) rfl rfl rfl rfl (c_spec_l01Table r q1) rfl ?_ )
  rintro _ rfl
  refine ⟨rfl, ?_⟩
  refine run_s (ss_not rfl) rfl ?_
  refine run_nil ?_
  refine aw_cond rfl (fun q3 => ?_) (fun q3 => ?_)
  · replace h := h.1 ((bnot_t q3))
    refine aw_seq ?_
    refine aw_gh (gh_to (n := 31) (σ' := []) (env' := [(2, .c (cnil)), (3, .c (ci 0))]) rfl rfl ⟨rfl, rfl, trivial⟩) ?_
    refine aw_region ?_
    refine run_s (ss_assign rfl) rfl ?_
    refine run_s (ss_assign rfl) rfl ?_
    refine run_nil ?_
    refine aw_ret ?_
    exact retAF_mk (retv2 rfl (rv_tmp rfl) (rv_tmp rfl)) rfl rfl ⟨_, (cle_tup (cleL_cons cle_nilO (cleL_cons (cle_refl _) cleL_nil))), _, _, h, rfl⟩
  · replace h := h.2 ((bnot_f q3))
    refine aw_skip ?_
    refine aw_seq ?_
    refine aw_seq ?_
    refine aw_gh (gh_to (n := 31) (σ' := []) (env' := [(1, .c (.ptr [.lst (rows r)]))]) rfl rfl ⟨rfl, trivial⟩) ?_
    refine aw_region ?_
    refine run_s (ss_assign rfl) rfl ?_
    refine run_nil ?_
    refine aw_block ?_
    obtain ⟨H1, m1, q4, h⟩ := h
    refine aw_loop1 (fun (v4_1 : Int) => ⟨[], [(1, .c (.ptr [.lst (rows r)])), (4, .c (ci v4_1))], 31⟩) H1 m1 ⟨0, ghe_to (n := 31) rfl rfl ⟨rfl, rfl, trivial⟩, q4⟩ ?_
    rintro v4_1 q4
    replace h := h v4_1 q4
    refine aw_seq ?_
    refine aw_seq ?_
    refine aw_region ?_
    refine run_s (ss_move rfl) rfl ?_
    refine run_s (ss_field_ptr rfl) rfl ?_
    refine run_s (ss_load_ptr rfl rfl) rfl ?_
    refine run_s (ss_lenL (f := (fun r => C.lst (ints r))) rfl) rfl ?_
    refine run_s (ss_lss rfl rfl) rfl ?_
    refine run_nil ?_
    refine aw_cond rfl (fun q5 => ?_) (fun q5 => ?_)
    · replace h := h.1 (of_decide_eq_true q5)
      refine aw_skip ?_
      refine aw_seq ?_
      refine aw_block ?_
      refine aw_seq ?_
      refine aw_region ?_
      refine run_s (ss_field_ptr rfl) rfl ?_
      refine run_s (ss_load_ptr rfl rfl) rfl ?_
      refine run_s (ss_move rfl) rfl ?_
      obtain ⟨q6, h⟩ := h
      refine run_s (ss_idxL rfl rfl q6) rfl ?_
      refine run_s (ss_loadL (f := (fun r => C.lst (ints r))) rfl q6) rfl ?_
      obtain ⟨q7, h⟩ := h
      refine run_w (ws_call (xs := [.tmp 21]) (ids := []) rfl rfl rfl rfl (c_spec_l01Perm (el r v4_1) q7) rfl ?_ )
      rintro _ rfl
      refine ⟨rfl, ?_⟩
      refine run_s (ss_not rfl) rfl ?_
      refine run_nil ?_
      refine aw_cond rfl (fun q9 => ?_) (fun q9 => ?_)
      · replace h := h.1 ((bnot_t q9))
        refine aw_seq ?_
        refine aw_gh (gh_to (n := 31) (σ' := []) (env' := []) rfl rfl trivial) ?_
        refine aw_region ?_
        refine run_s (ss_assign rfl) rfl ?_
        refine run_s (ss_assign rfl) rfl ?_
        refine run_nil ?_
        refine aw_ret ?_
        exact retAF_mk (retv2 rfl (rv_tmp rfl) (rv_tmp rfl)) rfl rfl ⟨_, (cle_tup (cleL_cons cle_nilO (cleL_cons (cle_refl _) cleL_nil))), _, _, h, rfl⟩
      · replace h := h.2 ((bnot_f q9))
        refine aw_skip ?_
        refine aw_gh (gh_to (n := 31) (σ' := []) (env' := [(1, .c (.ptr [.lst (rows r)])), (4, .c (ci v4_1))]) rfl rfl ⟨rfl, rfl, trivial⟩) ?_
        refine aw_region ?_
        refine run_s (ss_move rfl) rfl ?_
        obtain ⟨q10, h⟩ := h
        refine run_s (ss_add rfl rfl q10) rfl ?_
        refine run_s (ss_assign rfl) rfl ?_
        refine run_nil ?_
        exact ⟨v4_1 + 1, ghe_to (n := 31) rfl rfl ⟨rfl, rfl, trivial⟩, h.1, h.2⟩
    · replace h := h.2 (of_decide_eq_false q5)
      refine aw_exit ?_
      refine aw_seq ?_
      refine aw_region ?_
      refine run_s (ss_field_ptr rfl) rfl ?_
      refine run_s (ss_load_ptr rfl rfl) rfl ?_
      obtain ⟨q11, h⟩ := h
      refine run_w (ws_call (xs := [.tmp 25]) (ids := [26]) rfl rfl rfl rfl (c_spec_l03Fault r q11) rfl ?_ )
      rintro _ rfl
      refine ⟨rfl, ?_⟩
      refine run_s (ss_assign rfl) rfl ?_
      refine run_nil ?_
      refine aw_seq ?_
      refine aw_seq ?_
      refine aw_gh (gh_to (n := 31) (σ' := [(26, ⟨ints (rackF r), []⟩)]) (env' := [(5, .ref 26)]) rfl rfl ⟨rfl, trivial⟩) ?_
      refine aw_region ?_
      refine run_s (ss_move rfl) rfl ?_
      refine run_s (ss_lenR (f := ci) rfl rfl) rfl ?_
      refine run_s (ss_eql rfl rfl) rfl ?_
      refine run_nil ?_
      refine aw_cond rfl (fun q13 => ?_) (fun q13 => ?_)
      · replace h := h.1 (of_decide_eq_true q13)
        refine aw_seq ?_
        refine aw_region ?_
        refine run_s (ss_assign rfl) rfl ?_
        refine run_s (ss_assign rfl) rfl ?_
        refine run_nil ?_
        refine aw_ret ?_
        exact retAF_mk (retv2 rfl (rv_tmp rfl) (rv_tmp rfl)) rfl rfl ⟨_, (cle_tup (cleL_cons cle_nilO (cleL_cons (cle_refl _) cleL_nil))), _, _, h, rfl⟩
      · replace h := h.2 (of_decide_eq_false q13)
        refine aw_skip ?_
        refine aw_seq ?_
        refine aw_region ?_
        refine run_s (ss_move rfl) rfl ?_
        refine run_s (ss_assign rfl) rfl ?_
        refine run_s (ss_assign rfl) rfl ?_
        refine run_nil ?_
        refine aw_ret ?_
        exact retAF_mk (retv2 rfl (rv_tmp rfl) (rv_tmp rfl)) rfl rfl ⟨_, (cle_refl _), _, _, h, rfl⟩

theorem c_spec_RackFault (r : List (List Int)) (hp : small2 r) : AF Try.prog 24 [.agg [.lst (rows r)]] (fun R_ => R_ = .tup [.own (ints (RkfT r)), ci (RkfE r)]) :=
  (w_spec_RackFault r (fun y0 y1 => y0 = RkfT r ∧ y1 = RkfE r) (p_spec_RackFault r hp)).mono (by rintro r ⟨_, _, ⟨rfl, rfl⟩, rfl⟩; rfl)

set_option maxRecDepth 100000 in
set_option maxHeartbeats 4000000 in
theorem w_impl_RackFault (r : List (List Int)) (Q : List Int → Int → Prop) (h : wp_impl_RackFault r Q) : AF Try.prog 23 [.agg [.lst (rows r)]] (fun R_ => ∃ y0 y1, Q y0 y1 ∧ R_ = .tup [.own (ints y0), ci y1]) := by
  refine AF.ofWQ (af_enter (n := 19) Try.func23 rfl (by rfl) rfl (Nat.le_of_ble_eq_true rfl) ?_)
  unfold wp_impl_RackFault at h
  refine aw_seq ?_
  refine aw_gh (gh_to (n := 19) (σ' := []) (env' := [(0, .c (.agg [.lst (rows r)]))]) rfl rfl ⟨rfl, trivial⟩) ?_
  refine aw_region ?_
  refine run_w (ws_boxR rfl (.inl rfl) rfl ⟨rfl, ?_⟩)
  refine run_s (ss_assign rfl) rfl ?_
  refine run_s (ss_assign rfl) rfl ?_
  refine run_nil ?_
  refine aw_seq ?_
  refine aw_seq ?_
  refine aw_region ?_
  refine run_s (ss_field_ptr rfl) rfl ?_
  refine run_s (ss_load_ptr rfl rfl) rfl ?_
  obtain ⟨q1, h⟩ := h
  refine run_w (ws_call (xs := [.tmp 6]) (ids := []) rfl rfl rfl rfl (c_impl_IsTable r q1) rfl ?_ )
  rintro _ rfl
  refine ⟨rfl, ?_⟩
  refine run_s (ss_not rfl) rfl ?_
  refine run_nil ?_
  refine aw_cond rfl (fun q3 => ?_) (fun q3 => ?_)
  · replace h := h.1 ((bnot_t q3))
    refine aw_seq ?_
    refine aw_gh (gh_to (n := 19) (σ' := []) (env' := [(2, .c (cnil)), (3, .c (ci 0))]) rfl rfl ⟨rfl, rfl, trivial⟩) ?_
    refine aw_region ?_
    refine run_s (ss_assign rfl) rfl ?_
    refine run_s (ss_assign rfl) rfl ?_
    refine run_nil ?_
    refine aw_ret ?_
    exact retAF_mk (retv2 rfl (rv_tmp rfl) (rv_tmp rfl)) rfl rfl ⟨_, (cle_tup (cleL_cons cle_nilO (cleL_cons (cle_refl _) cleL_nil))), _, _, h, rfl⟩
  · replace h := h.2 ((bnot_f q3))
    refine aw_skip ?_
    refine aw_seq ?_
    refine aw_seq ?_
    refine aw_gh (gh_to (n := 19) (σ' := []) (env' := [(1, .c (.ptr [.lst (rows r)]))]) rfl rfl ⟨rfl, trivial⟩) ?_
    refine aw_region ?_
    refine run_s (ss_field_ptr rfl) rfl ?_
    refine run_s (ss_load_ptr rfl rfl) rfl ?_
    obtain ⟨q4, h⟩ := h
    refine run_w (ws_call (xs := [.tmp 10]) (ids := []) rfl rfl rfl rfl (c_impl_permutationRows r q4) rfl ?_ )
    rintro _ rfl
    refine ⟨rfl, ?_⟩
    refine run_s (ss_not rfl) rfl ?_
    refine run_nil ?_
    refine aw_cond rfl (fun q6 => ?_) (fun q6 => ?_)
    · replace h := h.1 ((bnot_t q6))
      refine aw_seq ?_
      refine aw_gh (gh_to (n := 19) (σ' := []) (env' := []) rfl rfl trivial) ?_
      refine aw_region ?_
      refine run_s (ss_assign rfl) rfl ?_
      refine run_s (ss_assign rfl) rfl ?_
      refine run_nil ?_
      refine aw_ret ?_
      exact retAF_mk (retv2 rfl (rv_tmp rfl) (rv_tmp rfl)) rfl rfl ⟨_, (cle_tup (cleL_cons cle_nilO (cleL_cons (cle_refl _) cleL_nil))), _, _, h, rfl⟩
    · replace h := h.2 ((bnot_f q6))
      refine aw_skip ?_
      refine aw_seq ?_
      refine aw_region ?_
      refine run_s (ss_field_ptr rfl) rfl ?_
      refine run_s (ss_load_ptr rfl rfl) rfl ?_
      by_cases q7 : (rackF r) = []
      · replace h := h.1 q7
        obtain ⟨q8, h⟩ := h
        refine run_w (ws_call (xs := [.tmp 14]) (ids := []) rfl rfl rfl rfl (AF.onil_n (c_impl_rackFault r q8) q7) rfl ?_ )
        rintro _ rfl
        refine ⟨rfl, ?_⟩
        refine run_s (ss_assign rfl) rfl ?_
        refine run_nil ?_
        refine aw_seq ?_
        refine aw_seq ?_
        refine aw_gh (gh_to (n := 19) (σ' := []) (env' := [(4, .c (cnil))]) rfl rfl ⟨rfl, trivial⟩) ?_
        refine aw_region ?_
        refine run_s (ss_move rfl) rfl ?_
        refine run_s (ss_eql_nil rfl rfl) rfl ?_
        refine run_nil ?_
        refine aw_cond rfl (fun q10 => ?_) (fun q10 => ?_)
        · skip
          refine aw_seq ?_
          refine aw_region ?_
          refine run_s (ss_assign rfl) rfl ?_
          refine run_s (ss_assign rfl) rfl ?_
          refine run_nil ?_
          refine aw_ret ?_
          exact retAF_mk (retv2 rfl (rv_tmp rfl) (rv_tmp rfl)) rfl rfl ⟨_, (cle_tup (cleL_cons cle_nilO (cleL_cons (cle_refl _) cleL_nil))), _, _, h, rfl⟩
        · cases q10
      · replace h := h.2 q7
        obtain ⟨q11, h⟩ := h
        refine run_w (ws_call (xs := [.tmp 14]) (ids := [15]) rfl rfl rfl rfl (AF.onil_o (c_impl_rackFault r q11) q7) rfl ?_ )
        rintro _ rfl
        refine ⟨rfl, ?_⟩
        refine run_s (ss_assign rfl) rfl ?_
        refine run_nil ?_
        refine aw_seq ?_
        refine aw_seq ?_
        refine aw_gh (gh_to (n := 19) (σ' := [(15, ⟨ints (rackF r), []⟩)]) (env' := [(4, .ref 15)]) rfl rfl ⟨rfl, trivial⟩) ?_
        refine aw_region ?_
        refine run_s (ss_move rfl) rfl ?_
        refine run_s (ss_eql_refNil rfl rfl (map_ne q7) rfl) rfl ?_
        refine run_nil ?_
        refine aw_cond rfl (fun q13 => ?_) (fun q13 => ?_)
        · cases q13
        · skip
          refine aw_skip ?_
          refine aw_seq ?_
          refine aw_region ?_
          refine run_s (ss_move rfl) rfl ?_
          refine run_s (ss_assign rfl) rfl ?_
          refine run_s (ss_assign rfl) rfl ?_
          refine run_nil ?_
          refine aw_ret ?_
          exact retAF_mk (retv2 rfl (rv_tmp rfl) (rv_tmp rfl)) rfl rfl ⟨_, (cle_refl _), _, _, h, rfl⟩

theorem c_impl_RackFault (r : List (List Int)) (hp : small2 r) : AF Try.prog 23 [.agg [.lst (rows r)]] (fun R_ => R_ = .tup [.own (ints (RkfT r)), ci (RkfE r)]) :=
  (w_impl_RackFault r (fun y0 y1 => y0 = RkfT r ∧ y1 = RkfE r) (p_impl_RackFault r hp)).mono (by rintro r ⟨_, _, ⟨rfl, rfl⟩, rfl⟩; rfl)

set_option maxRecDepth 100000 in
set_option maxHeartbeats 4000000 in
theorem w_impl_KinkOf (r : List (List Int)) (Q : List Int → Int → Prop) (h : wp_impl_KinkOf r Q) : AF Try.prog 28 [.agg [.lst (rows r)]] (fun R_ => ∃ y0 y1, Q y0 y1 ∧ R_ = .tup [.own (ints y0), ci y1]) := by
  refine AF.ofWQ (af_enter (n := 9) Try.func28 rfl (by rfl) rfl (Nat.le_of_ble_eq_true rfl) ?_)
  unfold wp_impl_KinkOf at h
  refine aw_seq ?_
  refine aw_gh (gh_to (n := 9) (σ' := []) (env' := [(0, .c (.agg [.lst (rows r)]))]) rfl rfl ⟨rfl, trivial⟩) ?_
  refine aw_region ?_
  refine run_w (ws_boxR rfl (.inl rfl) rfl ⟨rfl, ?_⟩)
  refine run_s (ss_assign rfl) rfl ?_
  refine run_s (ss_assign rfl) rfl ?_
  refine run_nil ?_
  refine aw_seq ?_
  refine aw_seq ?_
  refine aw_region ?_
  refine run_s (ss_load_struct rfl (Nat.le_of_ble_eq_true rfl)) rfl ?_
  obtain ⟨q1, h⟩ := h
  refine run_w (ws_call (xs := [.tmp 4]) (ids := []) rfl rfl rfl rfl (c_impl_IsRack r q1) rfl ?_ )
  rintro _ rfl
  refine ⟨rfl, ?_⟩
  refine run_s (ss_not rfl) rfl ?_
  refine run_nil ?_
  refine aw_cond rfl (fun q3 => ?_) (fun q3 => ?_)
  · replace h := h.1 ((bnot_t q3))
    refine aw_seq ?_
    refine aw_gh (gh_to (n := 9) (σ' := []) (env' := [(2, .c (cnil)), (3, .c (ci 0))]) rfl rfl ⟨rfl, rfl, trivial⟩) ?_
    refine aw_region ?_
    refine run_s (ss_assign rfl) rfl ?_
    refine run_s (ss_assign rfl) rfl ?_
    refine run_nil ?_
    refine aw_ret ?_
    exact retAF_mk (retv2 rfl (rv_tmp rfl) (rv_tmp rfl)) rfl rfl ⟨_, (cle_tup (cleL_cons cle_nilO (cleL_cons (cle_refl _) cleL_nil))), _, _, h, rfl⟩
  · replace h := h.2 ((bnot_f q3))
    refine aw_skip ?_
    refine aw_seq ?_
    refine aw_region ?_
    refine run_s (ss_load_struct rfl (Nat.le_of_ble_eq_true rfl)) rfl ?_
    obtain ⟨q4, h⟩ := h
    refine run_w (ws_call (xs := [.tmp 7]) (ids := [8]) rfl rfl rfl rfl (c_impl_kinkOf r q4) rfl ?_ )
    rintro _ rfl
    refine ⟨rfl, ?_⟩
    refine run_s (ss_assign rfl) rfl ?_
    refine run_s (ss_assign rfl) rfl ?_
    refine run_nil ?_
    refine aw_ret ?_
    exact retAF_mk (retv2 rfl (rv_tmp rfl) (rv_tmp rfl)) rfl rfl ⟨_, (cle_refl _), _, _, h, rfl⟩

theorem c_impl_KinkOf (r : List (List Int)) (hp : small2 r) : AF Try.prog 28 [.agg [.lst (rows r)]] (fun R_ => R_ = .tup [.own (ints (KinT r)), ci (rkE r)]) :=
  (w_impl_KinkOf r (fun y0 y1 => y0 = KinT r ∧ y1 = rkE r) (p_impl_KinkOf r hp)).mono (by rintro r ⟨_, _, ⟨rfl, rfl⟩, rfl⟩; rfl)

set_option maxRecDepth 100000 in
set_option maxHeartbeats 4000000 in
theorem w_impl_IsInvolutoryRack (r : List (List Int)) (Q : Bool → Int → Prop) (h : wp_impl_IsInvolutoryRack r Q) : AF Try.prog 32 [.agg [.lst (rows r)]] (fun R_ => ∃ y0 y1, Q y0 y1 ∧ R_ = .tup [cb y0, ci y1]) := by
  refine AF.ofWQ (af_enter (n := 11) Try.func32 rfl (by rfl) rfl (Nat.le_of_ble_eq_true rfl) ?_)
  unfold wp_impl_IsInvolutoryRack at h
  refine aw_seq ?_
  refine aw_gh (gh_to (n := 11) (σ' := []) (env' := [(0, .c (.agg [.lst (rows r)]))]) rfl rfl ⟨rfl, trivial⟩) ?_
  refine aw_region ?_
  refine run_w (ws_boxR rfl (.inl rfl) rfl ⟨rfl, ?_⟩)
  refine run_s (ss_assign rfl) rfl ?_
  refine run_s (ss_assign rfl) rfl ?_
  refine run_nil ?_
  refine aw_seq ?_
  refine aw_seq ?_
  refine aw_region ?_
  refine run_s (ss_load_struct rfl (Nat.le_of_ble_eq_true rfl)) rfl ?_
  obtain ⟨q1, h⟩ := h
  refine run_w (ws_call (xs := [.tmp 4]) (ids := []) rfl rfl rfl rfl (c_impl_IsRack r q1) rfl ?_ )
  rintro _ rfl
  refine ⟨rfl, ?_⟩
  refine run_s (ss_not rfl) rfl ?_
  refine run_nil ?_
  refine aw_cond rfl (fun q3 => ?_) (fun q3 => ?_)
  · replace h := h.1 ((bnot_t q3))
    refine aw_seq ?_
    refine aw_gh (gh_to (n := 11) (σ' := []) (env' := [(2, .c (cb false)), (3, .c (ci 0))]) rfl rfl ⟨rfl, rfl, trivial⟩) ?_
    refine aw_region ?_
    refine run_s (ss_assign rfl) rfl ?_
    refine run_s (ss_assign rfl) rfl ?_
    refine run_nil ?_
    refine aw_ret ?_
    exact retAF_mk (retv2 rfl (rv_tmp rfl) (rv_tmp rfl)) rfl rfl ⟨_, (cle_refl _), _, _, h, rfl⟩
  · replace h := h.2 ((bnot_f q3))
    refine aw_skip ?_
    refine aw_seq ?_
    refine aw_region ?_
    refine run_s (ss_field_ptr rfl) rfl ?_
    refine run_s (ss_load_ptr rfl rfl) rfl ?_
    obtain ⟨q4, h⟩ := h
    refine run_w (ws_call (xs := [.tmp 8, .func 106]) (ids := []) rfl rfl rfl rfl (c_k_ContainsFunc_rows r 106 [] (fun z0 => !invB z0) (fun z0 => small z0 ∧ isPerm z0 = true) (fun z0 hD => c_impl_IsInvolutoryRack_1 z0 hD) q4) rfl ?_ )
    rintro _ rfl
    refine ⟨rfl, ?_⟩
    refine run_s (ss_not rfl) rfl ?_
    refine run_s (ss_assign rfl) rfl ?_
    refine run_s (ss_assign rfl) rfl ?_
    refine run_nil ?_
    refine aw_ret ?_
    exact retAF_mk (retv2 rfl (rv_tmp rfl) (rv_tmp rfl)) rfl rfl ⟨_, (cle_refl _), _, _, h, rfl⟩

theorem c_impl_IsInvolutoryRack (r : List (List Int)) (hp : small2 r) : AF Try.prog 32 [.agg [.lst (rows r)]] (fun R_ => R_ = .tup [cb (isRk r && r.all invB), ci (rkE r)]) :=
  (w_impl_IsInvolutoryRack r (fun y0 y1 => y0 = (isRk r && r.all invB) ∧ y1 = rkE r) (p_impl_IsInvolutoryRack r hp)).mono (by rintro r ⟨_, _, ⟨rfl, rfl⟩, rfl⟩; rfl)

set_option maxRecDepth 100000 in
set_option maxHeartbeats 4000000 in
theorem w_impl_DualRack (r : List (List Int)) (Q : List (List Int) → Int → Prop) (h : wp_impl_DualRack r Q) : AF Try.prog 29 [.agg [.lst (rows r)]] (fun R_ => ∃ y0 y1, Q y0 y1 ∧ R_ = .tup [.agg [.own (orows y0)], ci y1]) := by
  refine AF.ofWQ (af_enter (n := 10) Try.func29 rfl (by rfl) rfl (Nat.le_of_ble_eq_true rfl) ?_)
  unfold wp_impl_DualRack at h
  refine aw_seq ?_
  refine aw_gh (gh_to (n := 10) (σ' := []) (env' := [(0, .c (.agg [.lst (rows r)]))]) rfl rfl ⟨rfl, trivial⟩) ?_
  refine aw_region ?_
  refine run_w (ws_boxR rfl (.inl rfl) rfl ⟨rfl, ?_⟩)
  refine run_w (ws_alloc (id := 2) rfl (Nat.le_of_ble_eq_true rfl) ⟨rfl, ?_⟩)
  refine run_s (ss_assign rfl) rfl ?_
  refine run_nil ?_
  refine aw_seq ?_
  refine aw_seq ?_
  refine aw_region ?_
  refine run_s (ss_load_struct rfl (Nat.le_of_ble_eq_true rfl)) rfl ?_
  obtain ⟨q1, h⟩ := h
  refine run_w (ws_call (xs := [.tmp 4]) (ids := []) rfl rfl rfl rfl (c_impl_IsRack r q1) rfl ?_ )
  rintro _ rfl
  refine ⟨rfl, ?_⟩
  refine run_s (ss_not rfl) rfl ?_
  refine run_nil ?_
  refine aw_cond rfl (fun q3 => ?_) (fun q3 => ?_)
  · replace h := h.1 ((bnot_t q3))
    refine aw_seq ?_
    refine aw_gh (gh_to (n := 10) (σ' := [(2, ⟨[cnil], []⟩)]) (env' := [(2, .cell 2 0), (3, .c (ci 0))]) rfl rfl ⟨rfl, rfl, trivial⟩) ?_
    refine aw_region ?_
    refine run_s (ss_build0) rfl ?_
    refine run_w (ws_storeS rfl rfl (Nat.le_of_ble_eq_true rfl) rfl rfl rfl ⟨rfl, ?_⟩)
    refine run_s (ss_assign rfl) rfl ?_
    refine run_nil ?_
    refine aw_ret ?_
    exact retAF_mk (retv2 rfl (rv_struct rfl rfl rfl) (rv_tmp rfl)) rfl rfl ⟨_, (cle_tup (cleL_cons (cle_agg (cleL_cons cle_nilO cleL_nil)) (cleL_cons (cle_refl _) cleL_nil))), _, _, h, rfl⟩
  · replace h := h.2 ((bnot_f q3))
    refine aw_skip ?_
    refine aw_seq ?_
    refine aw_region ?_
    refine run_s (ss_load_struct rfl (Nat.le_of_ble_eq_true rfl)) rfl ?_
    obtain ⟨q4, h⟩ := h
    refine run_w (ws_call (xs := [.tmp 8]) (ids := [9]) rfl rfl rfl rfl (c_impl_dualRack r q4) rfl ?_ )
    rintro _ rfl
    refine ⟨rfl, ?_⟩
    refine run_w (ws_storeS rfl rfl (Nat.le_of_ble_eq_true rfl) rfl rfl rfl ⟨rfl, ?_⟩)
    refine run_s (ss_assign rfl) rfl ?_
    refine run_nil ?_
    refine aw_ret ?_
    exact retAF_mk (retv2 rfl (rv_struct rfl rfl rfl) (rv_tmp rfl)) rfl rfl ⟨_, (cle_refl _), _, _, h, rfl⟩

theorem c_impl_DualRack (r : List (List Int)) (hp : small2 r) : AF Try.prog 29 [.agg [.lst (rows r)]] (fun R_ => R_ = .tup [.agg [.own (orows (DuaT r))], ci (rkE r)]) :=
  (w_impl_DualRack r (fun y0 y1 => y0 = DuaT r ∧ y1 = rkE r) (p_impl_DualRack r hp)).mono (by rintro r ⟨_, _, ⟨rfl, rfl⟩, rfl⟩; rfl)

set_option maxRecDepth 100000 in
set_option maxHeartbeats 4000000 in
theorem w_impl_QuandleOf (r : List (List Int)) (Q : List (List Int) → Int → Prop) (h : wp_impl_QuandleOf r Q) : AF Try.prog 30 [.agg [.lst (rows r)]] (fun R_ => ∃ y0 y1, Q y0 y1 ∧ R_ = .tup [.agg [.own (orows y0)], ci y1]) := by
  refine AF.ofWQ (af_enter (n := 18) Try.func30 rfl (by rfl) rfl (Nat.le_of_ble_eq_true rfl) ?_)
  unfold wp_impl_QuandleOf at h
  refine aw_seq ?_
  refine aw_gh (gh_to (n := 18) (σ' := []) (env' := [(0, .c (.agg [.lst (rows r)]))]) rfl rfl ⟨rfl, trivial⟩) ?_
  refine aw_region ?_
  refine run_w (ws_boxR rfl (.inl rfl) rfl ⟨rfl, ?_⟩)
  refine run_w (ws_alloc (id := 2) rfl (Nat.le_of_ble_eq_true rfl) ⟨rfl, ?_⟩)
  refine run_s (ss_assign rfl) rfl ?_
  refine run_nil ?_
  refine aw_seq ?_
  refine aw_seq ?_
  refine aw_region ?_
  refine run_s (ss_load_struct rfl (Nat.le_of_ble_eq_true rfl)) rfl ?_
  obtain ⟨q1, h⟩ := h
  refine run_w (ws_call (xs := [.tmp 5]) (ids := []) rfl rfl rfl rfl (c_impl_IsRack r q1) rfl ?_ )
  rintro _ rfl
  refine ⟨rfl, ?_⟩
  refine run_s (ss_not rfl) rfl ?_
  refine run_nil ?_
  refine aw_cond rfl (fun q3 => ?_) (fun q3 => ?_)
  · replace h := h.1 ((bnot_t q3))
    refine aw_seq ?_
    refine aw_gh (gh_to (n := 18) (σ' := [(2, ⟨[cnil], []⟩)]) (env' := [(2, .cell 2 0), (3, .c (ci 0))]) rfl rfl ⟨rfl, rfl, trivial⟩) ?_
    refine aw_region ?_
    refine run_s (ss_build0) rfl ?_
    refine run_w (ws_storeS rfl rfl (Nat.le_of_ble_eq_true rfl) rfl rfl rfl ⟨rfl, ?_⟩)
    refine run_s (ss_assign rfl) rfl ?_
    refine run_nil ?_
    refine aw_ret ?_
    exact retAF_mk (retv2 rfl (rv_struct rfl rfl rfl) (rv_tmp rfl)) rfl rfl ⟨_, (cle_tup (cleL_cons (cle_agg (cleL_cons cle_nilO cleL_nil)) (cleL_cons (cle_refl _) cleL_nil))), _, _, h, rfl⟩
  · replace h := h.2 ((bnot_f q3))
    refine aw_skip ?_
    refine aw_seq ?_
    refine aw_region ?_
    refine run_s (ss_load_struct rfl (Nat.le_of_ble_eq_true rfl)) rfl ?_
    obtain ⟨q4, h⟩ := h
    refine run_w (ws_call (xs := [.tmp 9]) (ids := [10]) rfl rfl rfl rfl (c_impl_kinkOf r q4) rfl ?_ )
    rintro _ rfl
    refine ⟨rfl, ?_⟩
    obtain ⟨q6, h⟩ := h
    refine run_w (ws_callR (xs := [.tmp 10]) (cs := [.own (ints (diag r))]) (ids := [11]) rfl (.inr ⟨rfl, rfl⟩) rfl rfl (fz_cons (fz_own (fz_map (fun _ => rfl) _)) fz_nil) (c_impl_inverse (diag r) q6) rfl ?_ )
    rintro _ rfl
    refine ⟨(slf_own (slfL_map (f := ci) (fun _ => rfl) _)), rfl, ?_⟩
    refine run_w (ws_alloc (id := 4) rfl (Nat.le_of_ble_eq_true rfl) ⟨rfl, ?_⟩)
    refine run_w (ws_store rfl rfl (Nat.le_of_ble_eq_true rfl) rfl rfl ⟨rfl, ?_⟩)
    refine run_nil ?_
    refine aw_seq ?_
    refine aw_gh (gh_to (n := 18) (σ' := [(4, ⟨[.hole], [(0, .ref 11)]⟩), (11, ⟨ints (backI (diag r)), []⟩), (10, ⟨ints (diag r), []⟩), (2, ⟨[cnil], []⟩)]) (env' := [(1, .c (.ptr [.lst (rows r)])), (2, .cell 2 0), (3, .c (ci 0)), (4, .cell 4 0)]) rfl rfl ⟨rfl, rfl, rfl, rfl, trivial⟩) ?_
    refine aw_region ?_
    refine run_s (ss_field_ptr rfl) rfl ?_
    refine run_s (ss_load_ptr rfl rfl) rfl ?_
    refine run_s (ss_lenL (f := (fun r => C.lst (ints r))) rfl) rfl ?_
    refine run_gh (gh_frzE (id := 11) ci rfl (fun _ => rfl)) ?_
    refine run_gh (gh_fillc (id := 4) (j := 0) rfl rfl (Nat.le_of_ble_eq_true rfl)) ?_
    refine run_gh (gh_freeze (id := 4) rfl rfl) ?_
    refine run_gh (gh_to (n := 18) (σ' := [(10, ⟨ints (diag r), []⟩), (2, ⟨[cnil], []⟩)]) (env' := [(1, .c (.ptr [.lst (rows r)])), (2, .cell 2 0), (3, .c (ci 0)), (4, .c (.ptr [.lst (ints (backI (diag r)))])), (12, .c (.ptr [.lst (rows r)])), (13, .c (.lst (rows r))), (14, .c (ci (r.length : Int)))]) rfl rfl ⟨rfl, rfl, rfl, rfl, rfl, rfl, rfl, trivial⟩) ?_
    refine run_s (ss_makeFunc (os := [.tmp 4, .tmp 1]) rfl) rfl ?_
    obtain ⟨q8, h⟩ := h
    refine run_w (ws_call (xs := [.tmp 14, .tmp 15]) (ids := [16]) rfl rfl rfl rfl (c_impl_tableBy (r.length : Int) 103 [.ptr [.lst (ints (backI (diag r)))], .ptr [.lst (rows r)]] (fun z0 z1 => el (backI (diag r)) (el (el r z0) z1)) (fun z0 z1 => isTab r = true ∧ ((backI (diag r)).length : Int) = (r.length : Int) ∧ 0 ≤ z0 ∧ z0 < (r.length : Int) ∧ 0 ≤ z1 ∧ z1 < (r.length : Int)) (fun z0 z1 hD => c_impl_QuandleOf_1 z0 z1 (backI (diag r)) r hD) q8) rfl ?_ )
    rintro _ rfl
    refine ⟨rfl, ?_⟩
    refine run_s (ss_build (ps := [(0, .tmp 16)]) rfl rfl) rfl ?_
    refine run_w (ws_storeS rfl rfl (Nat.le_of_ble_eq_true rfl) rfl rfl rfl ⟨rfl, ?_⟩)
    refine run_s (ss_assign rfl) rfl ?_
    refine run_nil ?_
    refine aw_ret ?_
    exact retAF_mk (retv2 rfl (rv_struct rfl rfl rfl) (rv_tmp rfl)) rfl rfl ⟨_, (cle_refl _), _, _, h, rfl⟩

theorem c_impl_QuandleOf (r : List (List Int)) (hp : small2 r) : AF Try.prog 30 [.agg [.lst (rows r)]] (fun R_ => R_ = .tup [.agg [.own (orows (QuaR r))], ci (rkE r)]) :=
  (w_impl_QuandleOf r (fun y0 y1 => y0 = QuaR r ∧ y1 = rkE r) (p_impl_QuandleOf r hp)).mono (by rintro r ⟨_, _, ⟨rfl, rfl⟩, rfl⟩; rfl)

end Go.Proofs.Ytbodlnpmplcaoaa

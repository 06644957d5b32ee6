/- The conditions under which some functions do what they should, as plain propositions; no condition. -/
import Derived.Test.YtkekjlgidlbbcaaPa
namespace Go.Proofs.Ytkekjlgidlbbcaa

def wp_impl_within (n : Int) (low : Int) (high : Int) (Q : Bool → Prop) : Prop :=
 ((low ≤ n →
  Q (decide (n ≤ high))) ∧
 (¬ (low ≤ n) →
  Q false))

def wp_spec_l01In (n : Int) (low : Int) (high : Int) (Q : Bool → Prop) : Prop :=
 ((low ≤ n →
  Q (decide (n ≤ high))) ∧
 (¬ (low ≤ n) →
  Q false))

def wp_impl_allWithin (l : List Int) (low : Int) (high : Int) (Q : Bool → Prop) : Prop :=
 ∃ (H1 : Int → Prop) (m1 : Int → Nat),
 H1 0 ∧
 ∀ (v11 : Int), H1 v11 →
 ( ((v11 < (l.length : Int) →
   (0 ≤ v11 ∧ v11 < (l.length : Int)) ∧
   (((decide (low ≤ (el l v11)) && decide ((el l v11) ≤ high)) = false →
    Q false) ∧
   ((decide (low ≤ (el l v11)) && decide ((el l v11) ≤ high)) = true →
    (InI (v11 + 1)) ∧
    (H1 (v11 + 1) ∧ m1 (v11 + 1) < m1 v11)))) ∧
  (¬ (v11 < (l.length : Int)) →
   Q true)))

def wp_impl_isPermuted (p : List Int) (Q : Bool → Prop) : Prop :=
 (0 ≤ (p.length : Int) ∧ (p.length : Int) ≤ 1000000000) ∧
 ∃ (H1 : Int → List Bool → Prop) (m1 : Int → List Bool → Nat),
 H1 0 (List.replicate (p.length : Int).toNat false) ∧
 ∀ (v11 : Int) (o8 : List Bool), H1 v11 o8 →
 ( ((v11 < (p.length : Int) →
   (0 ≤ v11 ∧ v11 < (p.length : Int)) ∧
   (InI ((p.length : Int) - 1)) ∧
   (((decide ((0 : Int) ≤ (el p v11)) && decide ((el p v11) ≤ ((p.length : Int) - 1))) = false →
    Q false) ∧
   ((decide ((0 : Int) ≤ (el p v11)) && decide ((el p v11) ≤ ((p.length : Int) - 1))) = true →
    (0 ≤ el p v11 ∧ el p v11 < (o8.length : Int)) ∧
    (((el o8 (el p v11)) = true →
     Q false) ∧
    ((el o8 (el p v11)) = false →
     (0 ≤ el p v11 ∧ el p v11 < (o8.length : Int)) ∧
     (InI (v11 + 1)) ∧
     (H1 (v11 + 1) (se o8 (el p v11) true) ∧ m1 (v11 + 1) (se o8 (el p v11) true) < m1 v11 o8)))))) ∧
  (¬ (v11 < (p.length : Int)) →
   Q true)))

def wp_laws_toInt64S (a : List Int) (Q : List Int → Prop) : Prop :=
 (0 ≤ (a.length : Int) ∧ (a.length : Int) ≤ 1000000000) ∧
 ∃ (H1 : Int → List Int → Prop) (m1 : Int → List Int → Nat),
 H1 0 (List.replicate (a.length : Int).toNat (0 : Int)) ∧
 ∀ (v4 : Int) (o7 : List Int), H1 v4 o7 →
 ( ((v4 < (a.length : Int) →
   (0 ≤ v4 ∧ v4 < (a.length : Int)) ∧
   (0 ≤ v4 ∧ v4 < (o7.length : Int)) ∧
   (InI (v4 + 1)) ∧
   (H1 (v4 + 1) (se o7 v4 (el a v4)) ∧ m1 (v4 + 1) (se o7 v4 (el a v4)) < m1 v4 o7)) ∧
  (¬ (v4 < (a.length : Int)) →
   Q o7)))

def wp_laws_toInt64SS (a : List (List Int)) (Q : List (List Int) → Prop) : Prop :=
 (0 ≤ (a.length : Int) ∧ (a.length : Int) ≤ 1000000000) ∧
 ∃ (H1 : Int → List (List Int) → Prop) (m1 : Int → List (List Int) → Nat),
 H1 0 (List.replicate (a.length : Int).toNat ([] : List Int)) ∧
 ∀ (v4 : Int) (o7 : List (List Int)), H1 v4 o7 →
 ( ((v4 < (a.length : Int) →
   (0 ≤ v4 ∧ v4 < (a.length : Int)) ∧
   (small (el a v4)) ∧
   (0 ≤ v4 ∧ v4 < (o7.length : Int)) ∧
   (InI (v4 + 1)) ∧
   (H1 (v4 + 1) (se o7 v4 (el a v4)) ∧ m1 (v4 + 1) (se o7 v4 (el a v4)) < m1 v4 o7)) ∧
  (¬ (v4 < (a.length : Int)) →
   Q o7)))

def wp_laws_szInt64S (a : List Int) (left : Int) (Q : Int → Prop) : Prop :=
 (InI (left - (a.length : Int))) ∧
 ((left - (a.length : Int) < 0 →
  Q (-1)) ∧
 (¬ (left - (a.length : Int) < 0) →
  Q (left - (a.length : Int))))

def wp_laws_szInt64SS (a : List (List Int)) (left : Int) (Q : Int → Prop) : Prop :=
 (InI (left - (a.length : Int))) ∧
 ((left - (a.length : Int) < 0 →
  Q (-1)) ∧
 (¬ (left - (a.length : Int) < 0) →
  ∃ (H1 : Int → Int → Prop) (m1 : Int → Int → Nat),
  H1 (left - (a.length : Int)) 0 ∧
  ∀ (v1 : Int) (v5 : Int), H1 v1 v5 →
  ( ((v5 < (a.length : Int) →
    (0 ≤ v5 ∧ v5 < (a.length : Int)) ∧
    (InS v1 ∧ (el a v5).length ≤ 9223372036854775807) ∧
    ((szI (el a v5) v1 < 0 →
     Q (-1)) ∧
    (¬ (szI (el a v5) v1 < 0) →
     (InI (v5 + 1)) ∧
     (H1 (szI (el a v5) v1) (v5 + 1) ∧ m1 (szI (el a v5) v1) (v5 + 1) < m1 v1 v5)))) ∧
   (¬ (v5 < (a.length : Int)) →
    Q v1)))))

def wp_laws_eqInt64S (a : List Int) (b : List Int) (Q : Bool → Prop) : Prop :=
 ((¬ ((a.length : Int) = (b.length : Int)) →
  Q false) ∧
 ((a.length : Int) = (b.length : Int) →
  ∃ (H1 : Int → Prop) (m1 : Int → Nat),
  H1 0 ∧
  ∀ (v5 : Int), H1 v5 →
  ( ((v5 < (a.length : Int) →
    (0 ≤ v5 ∧ v5 < (a.length : Int)) ∧
    (0 ≤ v5 ∧ v5 < (b.length : Int)) ∧
    ((¬ (el a v5 = el b v5) →
     Q false) ∧
    (el a v5 = el b v5 →
     (InI (v5 + 1)) ∧
     (H1 (v5 + 1) ∧ m1 (v5 + 1) < m1 v5)))) ∧
   (¬ (v5 < (a.length : Int)) →
    Q true)))))

def wp_laws_eqInt64SS (a : List (List Int)) (b : List (List Int)) (Q : Bool → Prop) : Prop :=
 ((¬ ((a.length : Int) = (b.length : Int)) →
  Q false) ∧
 ((a.length : Int) = (b.length : Int) →
  ∃ (H1 : Int → Prop) (m1 : Int → Nat),
  H1 0 ∧
  ∀ (v5 : Int), H1 v5 →
  ( ((v5 < (a.length : Int) →
    (0 ≤ v5 ∧ v5 < (a.length : Int)) ∧
    (0 ≤ v5 ∧ v5 < (b.length : Int)) ∧
    (small (el a v5) ∧ small (el b v5)) ∧
    ((¬ ((el a v5) = (el b v5)) →
     Q false) ∧
    ((el a v5) = (el b v5) →
     (InI (v5 + 1)) ∧
     (H1 (v5 + 1) ∧ m1 (v5 + 1) < m1 v5)))) ∧
   (¬ (v5 < (a.length : Int)) →
    Q true)))))

def wp_laws_markInt64S (a : List Int) (k : Int) (Q : Int → List Int → Prop) : Prop :=
 ∃ (H1 : Int → Int → List Int → Prop) (m1 : Int → Int → List Int → Nat),
 H1 k 0 a ∧
 ∀ (v1 : Int) (v5 : Int) (o800 : List Int), H1 v1 v5 o800 →
 ( ((v5 < (o800.length : Int) →
   (0 ≤ v5 ∧ v5 < (o800.length : Int)) ∧
   (InI (v1 + 1)) ∧
   (InI (v5 + 1)) ∧
   (H1 (v1 + 1) (v5 + 1) (se o800 v5 v1) ∧ m1 (v1 + 1) (v5 + 1) (se o800 v5 v1) < m1 v1 v5 o800)) ∧
  (¬ (v5 < (o800.length : Int)) →
   Q v1 o800)))

def wp_laws_markInt64SS (a : List (List Int)) (k : Int) (Q : Int → List (List Int) → Prop) : Prop :=
 ∃ (H1 : Int → Int → List (List Int) → Prop) (m1 : Int → Int → List (List Int) → Nat),
 H1 k 0 a ∧
 ∀ (v1 : Int) (v5 : Int) (o800 : List (List Int)), H1 v1 v5 o800 →
 ( ((v5 < (o800.length : Int) →
   (0 ≤ v5 ∧ v5 < (o800.length : Int)) ∧
   (small (el o800 v5) ∧ okK v1) ∧
   (InI (v5 + 1)) ∧
   (H1 (v1 + ((el o800 v5).length : Int)) (v5 + 1) (se o800 v5 (mkI v1 (el o800 v5))) ∧ m1 (v1 + ((el o800 v5).length : Int)) (v5 + 1) (se o800 v5 (mkI v1 (el o800 v5))) < m1 v1 v5 o800)) ∧
  (¬ (v5 < (o800.length : Int)) →
   Q v1 o800)))

def wp_laws_heldInt64S (a : List Int) (k : Int) (Q : Int → Prop) : Prop :=
 ∃ (H1 : Int → Int → Prop) (m1 : Int → Int → Nat),
 H1 k 0 ∧
 ∀ (v1 : Int) (v5 : Int), H1 v1 v5 →
 ( ((v5 < (a.length : Int) →
   (0 ≤ v5 ∧ v5 < (a.length : Int)) ∧
   ((¬ (el a v5 = v1) →
    Q (-1)) ∧
   (el a v5 = v1 →
    (InI (v1 + 1)) ∧
    (InI (v5 + 1)) ∧
    (H1 (v1 + 1) (v5 + 1) ∧ m1 (v1 + 1) (v5 + 1) < m1 v1 v5)))) ∧
  (¬ (v5 < (a.length : Int)) →
   Q v1)))

def wp_laws_heldInt64SS (a : List (List Int)) (k : Int) (Q : Int → Prop) : Prop :=
 ∃ (H1 : Int → Int → Prop) (m1 : Int → Int → Nat),
 H1 k 0 ∧
 ∀ (v1 : Int) (v5 : Int), H1 v1 v5 →
 ( ((v5 < (a.length : Int) →
   (0 ≤ v5 ∧ v5 < (a.length : Int)) ∧
   (small (el a v5) ∧ okK v1) ∧
   ((heI v1 (el a v5) < 0 →
    Q (-1)) ∧
   (¬ (heI v1 (el a v5) < 0) →
    (InI (v5 + 1)) ∧
    (H1 (heI v1 (el a v5)) (v5 + 1) ∧ m1 (heI v1 (el a v5)) (v5 + 1) < m1 v1 v5)))) ∧
  (¬ (v5 < (a.length : Int)) →
   Q v1)))

def wp_laws_eqRack (a : List (List Int)) (b : List (List Int)) (Q : Bool → Prop) : Prop :=
 (small2 a ∧ small2 b) ∧
 ((¬ (a = b) →
  Q false) ∧
 (a = b →
  Q true))

def wp_laws_markRack (a : List (List Int)) (k : Int) (Q : Int → List (List Int) → Prop) : Prop :=
 (small2 a ∧ okKT k a) ∧
 Q (k + tot a) (mkII k a)

def wp_laws_heldRack (a : List (List Int)) (k : Int) (Q : Int → Prop) : Prop :=
 (small2 a ∧ okKT k a) ∧
 ((heII k a < 0 →
  Q (-1)) ∧
 (¬ (heII k a < 0) →
  Q (heII k a)))

def wp_laws_toCycleSet (a : List (List Int)) (Q : List (List Int) → Prop) : Prop :=
 (small2 a) ∧
 Q a

def wp_laws_szCycleSet (a : List (List Int)) (left : Int) (Q : Int → Prop) : Prop :=
 (InS left ∧ huge2 a) ∧
 ((szII a left < 0 →
  Q (-1)) ∧
 (¬ (szII a left < 0) →
  Q (szII a left)))

def wp_laws_eqCycleSet (a : List (List Int)) (b : List (List Int)) (Q : Bool → Prop) : Prop :=
 (small2 a ∧ small2 b) ∧
 ((¬ (a = b) →
  Q false) ∧
 (a = b →
  Q true))

def wp_laws_markCycleSet (a : List (List Int)) (k : Int) (Q : Int → List (List Int) → Prop) : Prop :=
 (small2 a ∧ okKT k a) ∧
 Q (k + tot a) (mkII k a)

def wp_k_IndexFunc_rows (t : List (List Int)) (f : List Int → Bool) (f_D : List Int → Prop) (Q : Int → Prop) : Prop :=
 ∃ (H1 : Int → Prop) (m1 : Int → Nat),
 H1 0 ∧
 ∀ (v8 : Int), H1 v8 →
 ( ((v8 < (t.length : Int) →
   (0 ≤ v8 ∧ v8 < (t.length : Int)) ∧
   (f_D (el t v8)) ∧
   (((f (el t v8)) = true →
    Q v8) ∧
   ((f (el t v8)) = false →
    (InI (v8 + 1)) ∧
    (H1 (v8 + 1) ∧ m1 (v8 + 1) < m1 v8)))) ∧
  (¬ (v8 < (t.length : Int)) →
   Q (-1))))

def wp_k_ContainsFunc_rows (t : List (List Int)) (f : List Int → Bool) (f_D : List Int → Prop) (Q : Bool → Prop) : Prop :=
 (small t ∧ ∀ r ∈ t, f_D r) ∧
 Q (decide (0 ≤ idxF t f))

def wp_impl_IsTable_1 (row : List Int) (n : Int) (Q : Bool → Prop) : Prop :=
 ((¬ ((row.length : Int) = n) →
  Q true) ∧
 ((row.length : Int) = n →
  (InI (n - 1)) ∧
  (small row) ∧
  Q (!((row.all (fun z_ => decide ((0 : Int) ≤ z_) && decide (z_ ≤ (n - 1))))))))

def wp_impl_IsTable (t : List (List Int)) (Q : Bool → Prop) : Prop :=
 (((decide ((1 : Int) ≤ (t.length : Int)) && decide ((t.length : Int) ≤ (12 : Int))) = true →
  (small t ∧ ∀ r ∈ t, (fun z0 => small z0 ∧ 0 ≤ (t.length : Int) ∧ (t.length : Int) ≤ 12) r) ∧
  Q (!((t.any (fun z0 => badRow (t.length : Int) z0))))) ∧
 ((decide ((1 : Int) ≤ (t.length : Int)) && decide ((t.length : Int) ≤ (12 : Int))) = false →
  Q false))

def wp_impl_squaresOf (c : List (List Int)) (Q : List Int → Prop) : Prop :=
 (0 ≤ (c.length : Int) ∧ (c.length : Int) ≤ 1000000000) ∧
 ∃ (H1 : Int → List Int → Prop) (m1 : Int → List Int → Nat),
 H1 0 (List.replicate (c.length : Int).toNat (0 : Int)) ∧
 ∀ (v11 : Int) (o8 : List Int), H1 v11 o8 →
 ( ((v11 < ((List.replicate (c.length : Int).toNat (0 : Int)).length : Int) →
   (0 ≤ v11 ∧ v11 < (c.length : Int)) ∧
   (0 ≤ v11 ∧ v11 < ((el c v11).length : Int)) ∧
   (0 ≤ v11 ∧ v11 < (o8.length : Int)) ∧
   (InI (v11 + 1)) ∧
   (H1 (v11 + 1) (se o8 v11 (el (el c v11) v11)) ∧ m1 (v11 + 1) (se o8 v11 (el (el c v11) v11)) < m1 v11 o8)) ∧
  (¬ (v11 < ((List.replicate (c.length : Int).toNat (0 : Int)).length : Int)) →
   Q o8)))

def wp_impl_tableBy (n : Int) (value : Int → Int → Int) (value_D : Int → Int → Prop) (Q : List (List Int) → Prop) : Prop :=
 (0 ≤ n ∧ n ≤ 1000000000) ∧
 ∃ (H1 : Int → List (List Int) → Prop) (m1 : Int → List (List Int) → Nat),
 H1 0 (List.replicate n.toNat ([] : List Int)) ∧
 ∀ (v12 : Int) (o9 : List (List Int)), H1 v12 o9 →
 ( ((v12 < ((List.replicate n.toNat ([] : List Int)).length : Int) →
   (0 ≤ n ∧ n ≤ 1000000000) ∧
   (0 ≤ v12 ∧ v12 < (o9.length : Int)) ∧
   (0 ≤ v12 ∧ v12 < (o9.length : Int)) ∧
   ∃ (H2 : Int → List Int → Prop) (m2 : Int → List Int → Nat),
   H2 0 (List.replicate n.toNat (0 : Int)) ∧
   ∀ (v25 : Int) (o18 : List Int), H2 v25 o18 →
   ( ((v25 < ((List.replicate n.toNat (0 : Int)).length : Int) →
     (0 ≤ v12 ∧ v12 < (o9.length : Int)) ∧
     (value_D v12 v25) ∧
     (0 ≤ v25 ∧ v25 < (o18.length : Int)) ∧
     (InI (v25 + 1)) ∧
     (H2 (v25 + 1) (se o18 v25 (value v12 v25)) ∧ m2 (v25 + 1) (se o18 v25 (value v12 v25)) < m2 v25 o18)) ∧
    (¬ (v25 < ((List.replicate n.toNat (0 : Int)).length : Int)) →
     (InI (v12 + 1)) ∧
     (0 ≤ v12 ∧ v12 < (o9.length : Int)) ∧
     (H1 (v12 + 1) (se o9 v12 o18) ∧ m1 (v12 + 1) (se o9 v12 o18) < m1 v12 o9))))) ∧
  (¬ (v12 < ((List.replicate n.toNat ([] : List Int)).length : Int)) →
   Q o9)))

end Go.Proofs.Ytkekjlgidlbbcaa

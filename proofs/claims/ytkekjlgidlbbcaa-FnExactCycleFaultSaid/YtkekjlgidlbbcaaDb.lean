/- The conditions under which some functions do what they should, as plain propositions; no condition. -/
import Derived.Test.YtkekjlgidlbbcaaPb
namespace Go.Proofs.Ytkekjlgidlbbcaa

def wp_spec_l01Index (list : List Int) (n : Int) (Q : Int → Prop) : Prop :=
 ∃ (H1 : Int → Prop) (m1 : Int → Nat),
 H1 0 ∧
 ∀ (v5 : Int), H1 v5 →
 ( ((v5 < (list.length : Int) →
   (0 ≤ v5 ∧ v5 < (list.length : Int)) ∧
   ((el list v5 = n →
    Q v5) ∧
   (¬ (el list v5 = n) →
    (InI (v5 + 1)) ∧
    (H1 (v5 + 1) ∧ m1 (v5 + 1) < m1 v5)))) ∧
  (¬ (v5 < (list.length : Int)) →
   Q (-1))))

def wp_spec_l01Has (list : List Int) (n : Int) (Q : Bool → Prop) : Prop :=
 (small list) ∧
 Q (decide (0 ≤ idxI list n))

def wp_spec_l01Perm (p : List Int) (Q : Bool → Prop) : Prop :=
 (((decide ((1 : Int) ≤ (p.length : Int)) && decide ((p.length : Int) ≤ (12 : Int))) = false →
  Q false) ∧
 ((decide ((1 : Int) ≤ (p.length : Int)) && decide ((p.length : Int) ≤ (12 : Int))) = true →
  ∃ (H1 : Int → Prop) (m1 : Int → Nat),
  H1 0 ∧
  ∀ (v4 : Int), H1 v4 →
  ( ((v4 < (p.length : Int) →
    (small p) ∧
    (((p.contains v4) = false →
     Q false) ∧
    ((p.contains v4) = true →
     (InI (v4 + 1)) ∧
     (H1 (v4 + 1) ∧ m1 (v4 + 1) < m1 v4)))) ∧
   (¬ (v4 < (p.length : Int)) →
    Q true)))))

def wp_spec_l01Own (list : List Int) (Q : List Int → Prop) : Prop :=
 ((([] : List Int).length : Int) + (list.length : Int) ≤ 1000000000) ∧
 Q (([] : List Int) ++ list)

def wp_spec_l01Table (t : List (List Int)) (Q : Bool → Prop) : Prop :=
 (((decide ((1 : Int) ≤ (t.length : Int)) && decide ((t.length : Int) ≤ (12 : Int))) = false →
  Q false) ∧
 ((decide ((1 : Int) ≤ (t.length : Int)) && decide ((t.length : Int) ≤ (12 : Int))) = true →
  ∃ (H1 : Int → Prop) (m1 : Int → Nat),
  H1 0 ∧
  ∀ (v4 : Int), H1 v4 →
  ( ((v4 < (t.length : Int) →
    (0 ≤ v4 ∧ v4 < (t.length : Int)) ∧
    ((¬ (((el t v4).length : Int) = (t.length : Int)) →
     Q false) ∧
    (((el t v4).length : Int) = (t.length : Int) →
     ∃ (H2 : Int → Prop) (m2 : Int → Nat),
     H2 0 ∧
     ∀ (v5 : Int), H2 v5 →
     ( ((v5 < (t.length : Int) →
       (0 ≤ v4 ∧ v4 < (t.length : Int)) ∧
       (0 ≤ v5 ∧ v5 < ((el t v4).length : Int)) ∧
       (InI ((t.length : Int) - 1)) ∧
       (((decide ((0 : Int) ≤ (el (el t v4) v5)) && decide ((el (el t v4) v5) ≤ ((t.length : Int) - 1))) = false →
        Q false) ∧
       ((decide ((0 : Int) ≤ (el (el t v4) v5)) && decide ((el (el t v4) v5) ≤ ((t.length : Int) - 1))) = true →
        (InI (v5 + 1)) ∧
        (H2 (v5 + 1) ∧ m2 (v5 + 1) < m2 v5)))) ∧
      (¬ (v5 < (t.length : Int)) →
       (InI (v4 + 1)) ∧
       (H1 (v4 + 1) ∧ m1 (v4 + 1) < m1 v4))))))) ∧
   (¬ (v4 < (t.length : Int)) →
    Q true)))))

def wp_impl_IsPermutation (p : List Int) (Q : Bool → Prop) : Prop :=
 (((decide ((1 : Int) ≤ (p.length : Int)) && decide ((p.length : Int) ≤ (12 : Int))) = true →
  (small p) ∧
  Q (isPerm p)) ∧
 ((decide ((1 : Int) ≤ (p.length : Int)) && decide ((p.length : Int) ≤ (12 : Int))) = false →
  Q false))

def wp_impl_divisorOf (a : Int) (b : Int) (Q : Int → Prop) : Prop :=
 ∃ (H1 : Int → Int → Prop) (m1 : Int → Int → Nat),
 H1 a b ∧
 ∀ (v0 : Int) (v1 : Int), H1 v0 v1 →
 ( ((0 < v1 →
   ((0 : Int) ≤ v0 ∧ (0 : Int) < v1) ∧
   (H1 v1 (v0 % v1) ∧ m1 v1 (v0 % v1) < m1 v0 v1)) ∧
  (¬ (0 < v1) →
   Q v0)))

def wp_spec_l03Coprime (a : Int) (n : Int) (Q : Bool → Prop) : Prop :=
 ∃ (H1 : Int → Prop) (m1 : Int → Nat),
 H1 2 ∧
 ∀ (v5 : Int), H1 v5 →
 ( ((v5 ≤ n →
   ((0 : Int) ≤ a ∧ (0 : Int) < v5) ∧
   ((a % v5 = 0 →
    ((0 : Int) ≤ n ∧ (0 : Int) < v5) ∧
    ((n % v5 = 0 →
     Q false) ∧
    (¬ (n % v5 = 0) →
     (InI (v5 + 1)) ∧
     (H1 (v5 + 1) ∧ m1 (v5 + 1) < m1 v5)))) ∧
   (¬ (a % v5 = 0) →
    (InI (v5 + 1)) ∧
    (H1 (v5 + 1) ∧ m1 (v5 + 1) < m1 v5)))) ∧
  (¬ (v5 ≤ n) →
   Q true)))

def wp_spec_l03Alexander (n : Int) (a : Int) (b : Int) (Q : List (List Int) → Prop) : Prop :=
 ∃ (H1 : Int → List (List Int) → Prop) (m1 : Int → List (List Int) → Nat),
 H1 0 ([] : List (List Int)) ∧
 ∀ (v8 : Int) (o11 : List (List Int)), H1 v8 o11 →
 ( ((v8 < n →
   ∃ (H2 : Int → List Int → Prop) (m2 : Int → List Int → Nat),
   H2 0 ([] : List Int) ∧
   ∀ (v10 : Int) (o17 : List Int), H2 v10 o17 →
   ( ((v10 < n →
     (InI (b * v8)) ∧
     (InI (a * v10)) ∧
     (InI ((b * v8) + (a * v10))) ∧
     ((0 : Int) ≤ (b * v8) + (a * v10) ∧ (0 : Int) < n) ∧
     ((o17.length : Int) + (([((b * v8) + (a * v10)) % n]).length : Int) ≤ 1000000000) ∧
     (InI (v10 + 1)) ∧
     (H2 (v10 + 1) (o17 ++ ([((b * v8) + (a * v10)) % n])) ∧ m2 (v10 + 1) (o17 ++ ([((b * v8) + (a * v10)) % n])) < m2 v10 o17)) ∧
    (¬ (v10 < n) →
     ((o11.length : Int) + (([o17]).length : Int) ≤ 1000000000) ∧
     (InI (v8 + 1)) ∧
     (H1 (v8 + 1) (o11 ++ ([o17])) ∧ m1 (v8 + 1) (o11 ++ ([o17])) < m1 v8 o11))))) ∧
  (¬ (v8 < n) →
   Q o11)))

def wp_impl_rackBy_1 (x : Int) (y : Int) (value : Int → Int → Int) (value_D : Int → Int → Prop) (Q : Int → Prop) : Prop :=
 (value_D x y) ∧
 Q (value x y)

def wp_impl_rackBy (n : Int) (value : Int → Int → Int) (value_D : Int → Int → Prop) (Q : List (List Int) → Prop) : Prop :=
 (0 ≤ n ∧ n ≤ 1000000 ∧ ∀ x y, 0 ≤ x → x < n → 0 ≤ y → y < n → (fun z0 z1 => value_D z0 z1 ∧ InI (value z0 z1)) x y) ∧
 Q (tab n (fun z0 z1 => value z0 z1))

def wp_impl_TrivialRack_1 (x : Int) (y : Int) (Q : Int → Prop) : Prop :=
 Q y

def wp_impl_DihedralQuandle_1 (x : Int) (y : Int) (n : Int) (Q : Int → Prop) : Prop :=
 (InI (2 * x)) ∧
 (InI ((2 * x) - y)) ∧
 (InI (((2 * x) - y) + n)) ∧
 ((0 : Int) ≤ ((2 * x) - y) + n ∧ (0 : Int) < n) ∧
 Q ((((2 * x) - y) + n) % n)

def wp_impl_AlexanderQuandle_1 (x : Int) (y : Int) (m : Int) (b : Int) (Q : Int → Prop) : Prop :=
 (InI (m + 1)) ∧
 (InI ((m + 1) - b)) ∧
 (InI (((m + 1) - b) * x)) ∧
 (InI (b * y)) ∧
 (InI ((((m + 1) - b) * x) + (b * y))) ∧
 ((0 : Int) ≤ (((m + 1) - b) * x) + (b * y) ∧ (0 : Int) < m) ∧
 Q (((((m + 1) - b) * x) + (b * y)) % m)

def wp_impl_PermutationRack_1 (x : Int) (y : Int) (p : List Int) (Q : Int → Prop) : Prop :=
 (0 ≤ y ∧ y < (p.length : Int)) ∧
 Q (el p y)

def wp_spec_TrivialRack (n : Int) (Q : List (List Int) → Int → Prop) : Prop :=
 (((decide ((1 : Int) ≤ n) && decide (n ≤ (12 : Int))) = false →
  Q ([]) 2) ∧
 ((decide ((1 : Int) ≤ n) && decide (n ≤ (12 : Int))) = true →
  ((0 : Int) ≤ 1 ∧ (0 : Int) < n) ∧
  (1 ≤ n ∧ n ≤ 1000 ∧ 0 ≤ (1 % n) ∧ (1 % n) ≤ 1000 ∧ 0 ≤ (0 : Int) ∧ (0 : Int) ≤ 1000) ∧
  Q (tab n (fun x_ y_ => ((0 : Int) * x_ + (1 % n) * y_) % n)) 0))

def wp_spec_DihedralQuandle (n : Int) (Q : List (List Int) → Int → Prop) : Prop :=
 (((decide ((1 : Int) ≤ n) && decide (n ≤ (12 : Int))) = false →
  Q ([]) 2) ∧
 ((decide ((1 : Int) ≤ n) && decide (n ≤ (12 : Int))) = true →
  (InI (n - 1)) ∧
  ((0 : Int) ≤ 2 ∧ (0 : Int) < n) ∧
  (1 ≤ n ∧ n ≤ 1000 ∧ 0 ≤ (n - 1) ∧ (n - 1) ≤ 1000 ∧ 0 ≤ (2 % n) ∧ (2 % n) ≤ 1000) ∧
  Q (tab n (fun x_ y_ => ((2 % n) * x_ + (n - 1) * y_) % n)) 0))

def wp_spec_AlexanderQuandle (n : Int) (a : Int) (Q : List (List Int) → Int → Prop) : Prop :=
 (((decide ((1 : Int) ≤ n) && decide (n ≤ (12 : Int))) = false →
  Q ([]) 2) ∧
 ((decide ((1 : Int) ≤ n) && decide (n ≤ (12 : Int))) = true →
  (InI (n - 1)) ∧
  (((decide ((0 : Int) ≤ a) && decide (a ≤ (n - 1))) = false →
   Q ([]) 2) ∧
  ((decide ((0 : Int) ≤ a) && decide (a ≤ (n - 1))) = true →
   (0 ≤ a ∧ 1 ≤ n ∧ n ≤ 1000) ∧
   (((!decide (1 < gcdI n a)) = false →
    Q ([]) 5) ∧
   ((!decide (1 < gcdI n a)) = true →
    (InI (1 - a)) ∧
    (InI ((1 - a) + n)) ∧
    ((0 : Int) ≤ (1 - a) + n ∧ (0 : Int) < n) ∧
    (1 ≤ n ∧ n ≤ 1000 ∧ 0 ≤ a ∧ a ≤ 1000 ∧ 0 ≤ (((1 - a) + n) % n) ∧ (((1 - a) + n) % n) ≤ 1000) ∧
    Q (tab n (fun x_ y_ => ((((1 - a) + n) % n) * x_ + a * y_) % n)) 0))))))

def wp_spec_PermutationRack (p : List Int) (Q : List (List Int) → Int → Prop) : Prop :=
 (small p) ∧
 (((permB p) = false →
  Q ([]) 1) ∧
 ((permB p) = true →
  ∃ (H1 : Int → List (List Int) → Prop) (m1 : Int → List (List Int) → Nat),
  H1 0 ([] : List (List Int)) ∧
  ∀ (v5 : Int) (o764 : List (List Int)), H1 v5 o764 →
  ( ((v5 < (p.length : Int) →
    (small p) ∧
    ((o764.length : Int) + (([p]).length : Int) ≤ 1000000000) ∧
    (InI (v5 + 1)) ∧
    (H1 (v5 + 1) (o764 ++ ([p])) ∧ m1 (v5 + 1) (o764 ++ ([p])) < m1 v5 o764)) ∧
   (¬ (v5 < (p.length : Int)) →
    Q o764 0)))))

def wp_impl_TrivialRack (n : Int) (Q : List (List Int) → Int → Prop) : Prop :=
 (((decide ((1 : Int) ≤ n) && decide (n ≤ (12 : Int))) = false →
  Q ([]) 2) ∧
 ((decide ((1 : Int) ≤ n) && decide (n ≤ (12 : Int))) = true →
  (0 ≤ n ∧ n ≤ 1000000 ∧ ∀ x_ y_, 0 ≤ x_ → x_ < n → 0 ≤ y_ → y_ < n → (fun z0 z1 => True) x_ y_ ∧ InI ((fun z0 z1 => z1) x_ y_)) ∧
  Q (tab n (fun z0 z1 => z1)) 0))

def wp_impl_DihedralQuandle (n : Int) (Q : List (List Int) → Int → Prop) : Prop :=
 (((decide ((1 : Int) ≤ n) && decide (n ≤ (12 : Int))) = false →
  Q ([]) 2) ∧
 ((decide ((1 : Int) ≤ n) && decide (n ≤ (12 : Int))) = true →
  (0 ≤ n ∧ n ≤ 1000000 ∧ ∀ x_ y_, 0 ≤ x_ → x_ < n → 0 ≤ y_ → y_ < n → (fun z0 z1 => 1 ≤ n ∧ n ≤ 1000 ∧ 0 ≤ z0 ∧ z0 < n ∧ 0 ≤ z1 ∧ z1 < n) x_ y_ ∧ InI ((fun z0 z1 => (2 * z0 - z1 + n) % n) x_ y_)) ∧
  Q (tab n (fun z0 z1 => (2 * z0 - z1 + n) % n)) 0))

def wp_impl_AlexanderQuandle (n : Int) (a : Int) (Q : List (List Int) → Int → Prop) : Prop :=
 (((decide ((1 : Int) ≤ n) && decide (n ≤ (12 : Int))) = false →
  Q ([]) 2) ∧
 ((decide ((1 : Int) ≤ n) && decide (n ≤ (12 : Int))) = true →
  (InI (n - 1)) ∧
  (((decide ((0 : Int) ≤ a) && decide (a ≤ (n - 1))) = false →
   Q ([]) 2) ∧
  ((decide ((0 : Int) ≤ a) && decide (a ≤ (n - 1))) = true →
   (0 ≤ n ∧ 0 ≤ a) ∧
   ((1 < gcdI n a →
    Q ([]) 5) ∧
   (¬ (1 < gcdI n a) →
    (0 ≤ n ∧ n ≤ 1000000 ∧ ∀ x_ y_, 0 ≤ x_ → x_ < n → 0 ≤ y_ → y_ < n → (fun z0 z1 => 1 ≤ n ∧ n ≤ 1000 ∧ 0 ≤ a ∧ a < n ∧ 0 ≤ z0 ∧ z0 < n ∧ 0 ≤ z1 ∧ z1 < n) x_ y_ ∧ InI ((fun z0 z1 => ((n + 1 - a) * z0 + a * z1) % n) x_ y_)) ∧
    Q (tab n (fun z0 z1 => ((n + 1 - a) * z0 + a * z1) % n)) 0))))))

def wp_impl_PermutationRack (p : List Int) (Q : List (List Int) → Int → Prop) : Prop :=
 (small p) ∧
 (((permB p) = false →
  Q ([]) 1) ∧
 ((permB p) = true →
  (0 ≤ (p.length : Int) ∧ (p.length : Int) ≤ 1000000 ∧ ∀ x_ y_, 0 ≤ x_ → x_ < (p.length : Int) → 0 ≤ y_ → y_ < (p.length : Int) → (fun z0 z1 => 0 ≤ z1 ∧ z1 < (p.length : Int) ∧ InI (el p z1)) x_ y_ ∧ InI ((fun z0 z1 => el p z1) x_ y_)) ∧
  Q (tab (p.length : Int) (fun z0 z1 => el p z1)) 0))

def wp_spec_l05Squares (t : List (List Int)) (Q : List Int → Prop) : Prop :=
 ∃ (H1 : Int → List Int → Prop) (m1 : Int → List Int → Nat),
 H1 0 ([] : List Int) ∧
 ∀ (v4 : Int) (o5 : List Int), H1 v4 o5 →
 ( ((v4 < (t.length : Int) →
   (0 ≤ v4 ∧ v4 < (t.length : Int)) ∧
   (0 ≤ v4 ∧ v4 < ((el t v4).length : Int)) ∧
   ((o5.length : Int) + (([el (el t v4) v4]).length : Int) ≤ 1000000000) ∧
   (InI (v4 + 1)) ∧
   (H1 (v4 + 1) (o5 ++ ([el (el t v4) v4])) ∧ m1 (v4 + 1) (o5 ++ ([el (el t v4) v4])) < m1 v4 o5)) ∧
  (¬ (v4 < (t.length : Int)) →
   Q o5)))

def wp_spec_l05Fault (t : List (List Int)) (Q : List Int → Prop) : Prop :=
 ∃ (H1 : Int → Prop) (m1 : Int → Nat),
 H1 0 ∧
 ∀ (v4 : Int), H1 v4 →
 ( ((v4 < (t.length : Int) →
   ∃ (H2 : Int → Prop) (m2 : Int → Nat),
   H2 0 ∧
   ∀ (v5 : Int), H2 v5 →
   ( ((v5 < (t.length : Int) →
     ∃ (H3 : Int → Prop) (m3 : Int → Nat),
     H3 0 ∧
     ∀ (v6 : Int), H3 v6 →
     ( ((v6 < (t.length : Int) →
       (0 ≤ v4 ∧ v4 < (t.length : Int)) ∧
       (0 ≤ v4 ∧ v4 < (t.length : Int)) ∧
       (0 ≤ v5 ∧ v5 < (t.length : Int)) ∧
       (0 ≤ v5 ∧ v5 < (t.length : Int)) ∧
       (0 ≤ v5 ∧ v5 < ((el t v4).length : Int)) ∧
       (0 ≤ el (el t v4) v5 ∧ el (el t v4) v5 < (t.length : Int)) ∧
       (0 ≤ v6 ∧ v6 < ((el t v4).length : Int)) ∧
       (0 ≤ el (el t v4) v6 ∧ el (el t v4) v6 < ((el t (el (el t v4) v5)).length : Int)) ∧
       (0 ≤ v4 ∧ v4 < ((el t v5).length : Int)) ∧
       (0 ≤ el (el t v5) v4 ∧ el (el t v5) v4 < (t.length : Int)) ∧
       (0 ≤ v6 ∧ v6 < ((el t v5).length : Int)) ∧
       (0 ≤ el (el t v5) v6 ∧ el (el t v5) v6 < ((el t (el (el t v5) v4)).length : Int)) ∧
       ((¬ (el (el t (el (el t v4) v5)) (el (el t v4) v6) = el (el t (el (el t v5) v4)) (el (el t v5) v6)) →
        Q ([v4, v5, v6])) ∧
       (el (el t (el (el t v4) v5)) (el (el t v4) v6) = el (el t (el (el t v5) v4)) (el (el t v5) v6) →
        (InI (v6 + 1)) ∧
        (H3 (v6 + 1) ∧ m3 (v6 + 1) < m3 v6)))) ∧
      (¬ (v6 < (t.length : Int)) →
       (InI (v5 + 1)) ∧
       (H2 (v5 + 1) ∧ m2 (v5 + 1) < m2 v5))))) ∧
    (¬ (v5 < (t.length : Int)) →
     (InI (v4 + 1)) ∧
     (H1 (v4 + 1) ∧ m1 (v4 + 1) < m1 v4))))) ∧
  (¬ (v4 < (t.length : Int)) →
   Q ([] : List Int))))

def wp_impl_cycleFault (t : List (List Int)) (Q : List Int → Prop) : Prop :=
 ∃ (H1 : Int → Prop) (m1 : Int → Nat),
 H1 0 ∧
 ∀ (v10 : Int), H1 v10 →
 ( ((v10 < (t.length : Int) →
   ∃ (H2 : Int → Prop) (m2 : Int → Nat),
   H2 0 ∧
   ∀ (v14 : Int), H2 v14 →
   ( ((v14 < (t.length : Int) →
     ∃ (H3 : Int → Prop) (m3 : Int → Nat),
     H3 0 ∧
     ∀ (v18 : Int), H3 v18 →
     ( ((v18 < (t.length : Int) →
       (0 ≤ v10 ∧ v10 < (t.length : Int)) ∧
       (0 ≤ v10 ∧ v10 < (t.length : Int)) ∧
       (0 ≤ v14 ∧ v14 < (t.length : Int)) ∧
       (0 ≤ v14 ∧ v14 < (t.length : Int)) ∧
       (0 ≤ v14 ∧ v14 < ((el t v10).length : Int)) ∧
       (0 ≤ el (el t v10) v14 ∧ el (el t v10) v14 < (t.length : Int)) ∧
       (0 ≤ v18 ∧ v18 < ((el t v10).length : Int)) ∧
       (0 ≤ el (el t v10) v18 ∧ el (el t v10) v18 < ((el t (el (el t v10) v14)).length : Int)) ∧
       (0 ≤ v10 ∧ v10 < ((el t v14).length : Int)) ∧
       (0 ≤ el (el t v14) v10 ∧ el (el t v14) v10 < (t.length : Int)) ∧
       (0 ≤ v18 ∧ v18 < ((el t v14).length : Int)) ∧
       (0 ≤ el (el t v14) v18 ∧ el (el t v14) v18 < ((el t (el (el t v14) v10)).length : Int)) ∧
       ((¬ (el (el t (el (el t v10) v14)) (el (el t v10) v18) = el (el t (el (el t v14) v10)) (el (el t v14) v18)) →
        Q ([v10, v14, v18])) ∧
       (el (el t (el (el t v10) v14)) (el (el t v10) v18) = el (el t (el (el t v14) v10)) (el (el t v14) v18) →
        (InI (v18 + 1)) ∧
        (H3 (v18 + 1) ∧ m3 (v18 + 1) < m3 v18)))) ∧
      (¬ (v18 < (t.length : Int)) →
       (InI (v14 + 1)) ∧
       (H2 (v14 + 1) ∧ m2 (v14 + 1) < m2 v14))))) ∧
    (¬ (v14 < (t.length : Int)) →
     (InI (v10 + 1)) ∧
     (H1 (v10 + 1) ∧ m1 (v10 + 1) < m1 v10))))) ∧
  (¬ (v10 < (t.length : Int)) →
   Q ([]))))

def wp_spec_SquaresOf (c : List (List Int)) (Q : List Int → Int → Prop) : Prop :=
 (small2 c) ∧
 (((isTab c) = false →
  Q ([]) 1) ∧
 ((isTab c) = true →
  (isTab c = true) ∧
  Q (diag c) 0))

def wp_impl_SquaresOf (c : List (List Int)) (Q : List Int → Int → Prop) : Prop :=
 (small2 c) ∧
 (((isTab c) = false →
  Q ([]) 1) ∧
 ((isTab c) = true →
  (isTab c = true) ∧
  Q (diag c) 0))

def wp_spec_CycleFault (c : List (List Int)) (Q : List Int → Int → Prop) : Prop :=
 (small2 c) ∧
 (((isTab c) = false →
  Q ([]) 1) ∧
 ((isTab c) = true →
  (isTab c = true) ∧
  ((((cycF c).length : Int) = 0 →
   Q ([]) 4) ∧
  (¬ (((cycF c).length : Int) = 0) →
   Q (cycF c) 0))))

def wp_impl_CycleFault (c : List (List Int)) (Q : List Int → Int → Prop) : Prop :=
 (small2 c) ∧
 (((isTab c) = false →
  Q ([]) 1) ∧
 ((isTab c) = true →
  (((cycF c) = [] →
   (isTab c = true) ∧
   Q ([]) 4) ∧
  (¬ (cycF c) = [] →
   (isTab c = true) ∧
   Q (cycF c) 0))))

end Go.Proofs.Ytkekjlgidlbbcaa

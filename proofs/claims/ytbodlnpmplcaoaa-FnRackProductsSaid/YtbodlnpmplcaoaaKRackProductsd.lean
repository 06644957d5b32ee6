/- Contracts of functions that the law FnRackProducts reaches: conditions, plain proofs, walks; no condition. -/
import Derived.Test.YtbodlnpmplcaoaaKRackProductsc
import Derived.Test.YtbodlnpmplcaoaaPd
namespace Go.Proofs.Ytbodlnpmplcaoaa

def wp_impl_ProductRack_1 (x : Int) (y : Int) (r : List (List Int)) (m : Int) (s : List (List Int)) (Q : Int → Prop) : Prop :=
 ((0 : Int) ≤ x ∧ (0 : Int) < m ∧ x ≤ 9223372036854775807) ∧
 (0 ≤ x / m ∧ x / m < (r.length : Int)) ∧
 ((0 : Int) ≤ y ∧ (0 : Int) < m ∧ y ≤ 9223372036854775807) ∧
 (0 ≤ y / m ∧ y / m < ((el r (x / m)).length : Int)) ∧
 (InI ((el (el r (x / m)) (y / m)) * m)) ∧
 ((0 : Int) ≤ x ∧ (0 : Int) < m) ∧
 (0 ≤ x % m ∧ x % m < (s.length : Int)) ∧
 ((0 : Int) ≤ y ∧ (0 : Int) < m) ∧
 (0 ≤ y % m ∧ y % m < ((el s (x % m)).length : Int)) ∧
 (InI (((el (el r (x / m)) (y / m)) * m) + (el (el s (x % m)) (y % m)))) ∧
 Q (((el (el r (x / m)) (y / m)) * m) + (el (el s (x % m)) (y % m)))

def wp_spec_l04Product (a : List (List Int)) (b : List (List Int)) (Q : List (List Int) → Prop) : Prop :=
 ∃ (H1 : Int → List (List Int) → Prop) (m1 : Int → List (List Int) → Nat),
 H1 0 ([] : List (List Int)) ∧
 ∀ (v8_1 : Int) (o15_1 : List (List Int)), H1 v8_1 o15_1 →
 ( (InI ((a.length : Int) * (b.length : Int))) ∧
  ((v8_1 < (a.length : Int) * (b.length : Int) →
   ∃ (H2 : Int → List Int → Prop) (m2 : Int → List Int → Nat),
   H2 0 ([] : List Int) ∧
   ∀ (v10_2 : Int) (o23_2 : List Int), H2 v10_2 o23_2 →
   ( (InI ((a.length : Int) * (b.length : Int))) ∧
    ((v10_2 < (a.length : Int) * (b.length : Int) →
     ((0 : Int) ≤ v8_1 ∧ (0 : Int) < (b.length : Int) ∧ v8_1 ≤ 9223372036854775807) ∧
     (0 ≤ v8_1 / (b.length : Int) ∧ v8_1 / (b.length : Int) < (a.length : Int)) ∧
     ((0 : Int) ≤ v10_2 ∧ (0 : Int) < (b.length : Int) ∧ v10_2 ≤ 9223372036854775807) ∧
     ((0 : Int) ≤ v8_1 ∧ (0 : Int) < (b.length : Int)) ∧
     (0 ≤ v8_1 % (b.length : Int) ∧ v8_1 % (b.length : Int) < (b.length : Int)) ∧
     ((0 : Int) ≤ v10_2 ∧ (0 : Int) < (b.length : Int)) ∧
     (0 ≤ v10_2 / (b.length : Int) ∧ v10_2 / (b.length : Int) < ((el a (v8_1 / (b.length : Int))).length : Int)) ∧
     (InI ((el (el a (v8_1 / (b.length : Int))) (v10_2 / (b.length : Int))) * (b.length : Int))) ∧
     (0 ≤ v10_2 % (b.length : Int) ∧ v10_2 % (b.length : Int) < ((el b (v8_1 % (b.length : Int))).length : Int)) ∧
     (InI (((el (el a (v8_1 / (b.length : Int))) (v10_2 / (b.length : Int))) * (b.length : Int)) + (el (el b (v8_1 % (b.length : Int))) (v10_2 % (b.length : Int))))) ∧
     ((o23_2.length : Int) + (([((el (el a (v8_1 / (b.length : Int))) (v10_2 / (b.length : Int))) * (b.length : Int)) + (el (el b (v8_1 % (b.length : Int))) (v10_2 % (b.length : Int)))]).length : Int) ≤ 1000000000) ∧
     (InI (v10_2 + 1)) ∧
     (H2 (v10_2 + 1) (o23_2 ++ ([((el (el a (v8_1 / (b.length : Int))) (v10_2 / (b.length : Int))) * (b.length : Int)) + (el (el b (v8_1 % (b.length : Int))) (v10_2 % (b.length : Int)))])) ∧ m2 (v10_2 + 1) (o23_2 ++ ([((el (el a (v8_1 / (b.length : Int))) (v10_2 / (b.length : Int))) * (b.length : Int)) + (el (el b (v8_1 % (b.length : Int))) (v10_2 % (b.length : Int)))])) < m2 v10_2 o23_2)) ∧
    (¬ (v10_2 < (a.length : Int) * (b.length : Int)) →
     ((o15_1.length : Int) + (([o23_2]).length : Int) ≤ 1000000000) ∧
     (InI (v8_1 + 1)) ∧
     (H1 (v8_1 + 1) (o15_1 ++ ([o23_2])) ∧ m1 (v8_1 + 1) (o15_1 ++ ([o23_2])) < m1 v8_1 o15_1))))) ∧
  (¬ (v8_1 < (a.length : Int) * (b.length : Int)) →
   Q o15_1)))

def wp_impl_UnionRack_1 (x : Int) (y : Int) (n : Int) (r : List (List Int)) (s : List (List Int)) (Q : Int → Prop) : Prop :=
 ((x < n →
  ((y < n →
   (0 ≤ x ∧ x < (r.length : Int)) ∧
   (0 ≤ y ∧ y < ((el r x).length : Int)) ∧
   Q (el (el r x) y)) ∧
  (¬ (y < n) →
   ((n ≤ x →
    ((n ≤ y →
     (InI (x - n)) ∧
     (0 ≤ x - n ∧ x - n < (s.length : Int)) ∧
     (InI (y - n)) ∧
     (0 ≤ y - n ∧ y - n < ((el s (x - n)).length : Int)) ∧
     (InI (n + (el (el s (x - n)) (y - n)))) ∧
     Q (n + (el (el s (x - n)) (y - n)))) ∧
    (¬ (n ≤ y) →
     Q y))) ∧
   (¬ (n ≤ x) →
    Q y))))) ∧
 (¬ (x < n) →
  ((n ≤ x →
   ((n ≤ y →
    (InI (x - n)) ∧
    (0 ≤ x - n ∧ x - n < (s.length : Int)) ∧
    (InI (y - n)) ∧
    (0 ≤ y - n ∧ y - n < ((el s (x - n)).length : Int)) ∧
    (InI (n + (el (el s (x - n)) (y - n)))) ∧
    Q (n + (el (el s (x - n)) (y - n)))) ∧
   (¬ (n ≤ y) →
    Q y))) ∧
  (¬ (n ≤ x) →
   Q y))))

def wp_spec_ProductRack (r : List (List Int)) (s : List (List Int)) (Q : List (List Int) → Int → Prop) : Prop :=
 (small2 r) ∧
 (((isRk r) = false →
  Q ([]) 1) ∧
 ((isRk r) = true →
  (small2 s) ∧
  (((isRk s) = false →
   Q ([]) 1) ∧
  ((isRk s) = true →
   (InI ((r.length : Int) * (s.length : Int))) ∧
   ((12 < (r.length : Int) * (s.length : Int) →
    Q ([]) 3) ∧
   (¬ (12 < (r.length : Int) * (s.length : Int)) →
    (isTab r = true ∧ isTab s = true) ∧
    Q (proT r s) 0))))))

def wp_spec_UnionRack (r : List (List Int)) (s : List (List Int)) (Q : List (List Int) → Int → Prop) : Prop :=
 (small2 r) ∧
 (((isRk r) = false →
  Q ([]) 1) ∧
 ((isRk r) = true →
  (small2 s) ∧
  (((isRk s) = false →
   Q ([]) 1) ∧
  ((isRk s) = true →
   (InI ((r.length : Int) + (s.length : Int))) ∧
   ((12 < (r.length : Int) + (s.length : Int) →
    Q ([]) 3) ∧
   (¬ (12 < (r.length : Int) + (s.length : Int)) →
    ∃ (H1 : Int → List (List Int) → Prop) (m1 : Int → List (List Int) → Nat),
    H1 0 ([] : List (List Int)) ∧
    ∀ (v9_1 : Int) (o200128_1 : List (List Int)), H1 v9_1 o200128_1 →
    ( (InI ((r.length : Int) + (s.length : Int))) ∧
     ((v9_1 < (r.length : Int) + (s.length : Int) →
      ∃ (H2 : Int → List Int → Prop) (m2 : Int → List Int → Nat),
      H2 0 ([] : List Int) ∧
      ∀ (v11_2 : Int) (o46_2 : List Int), H2 v11_2 o46_2 →
      ( (InI ((r.length : Int) + (s.length : Int))) ∧
       ((v11_2 < (r.length : Int) + (s.length : Int) →
        ((v9_1 < (r.length : Int) →
         ((v11_2 < (r.length : Int) →
          (0 ≤ v9_1 ∧ v9_1 < (r.length : Int)) ∧
          (0 ≤ v11_2 ∧ v11_2 < ((el r v9_1).length : Int)) ∧
          ((o46_2.length : Int) + (([el (el r v9_1) v11_2]).length : Int) ≤ 1000000000) ∧
          (InI (v11_2 + 1)) ∧
          (H2 (v11_2 + 1) (o46_2 ++ ([el (el r v9_1) v11_2])) ∧ m2 (v11_2 + 1) (o46_2 ++ ([el (el r v9_1) v11_2])) < m2 v11_2 o46_2)) ∧
         (¬ (v11_2 < (r.length : Int)) →
          (((r.length : Int) ≤ v9_1 →
           (((r.length : Int) ≤ v11_2 →
            (InI (v9_1 - (r.length : Int))) ∧
            (0 ≤ v9_1 - (r.length : Int) ∧ v9_1 - (r.length : Int) < (s.length : Int)) ∧
            (InI (v11_2 - (r.length : Int))) ∧
            (0 ≤ v11_2 - (r.length : Int) ∧ v11_2 - (r.length : Int) < ((el s (v9_1 - (r.length : Int))).length : Int)) ∧
            (InI ((r.length : Int) + (el (el s (v9_1 - (r.length : Int))) (v11_2 - (r.length : Int))))) ∧
            ((o46_2.length : Int) + (([(r.length : Int) + (el (el s (v9_1 - (r.length : Int))) (v11_2 - (r.length : Int)))]).length : Int) ≤ 1000000000) ∧
            (InI (v11_2 + 1)) ∧
            (H2 (v11_2 + 1) (o46_2 ++ ([(r.length : Int) + (el (el s (v9_1 - (r.length : Int))) (v11_2 - (r.length : Int)))])) ∧ m2 (v11_2 + 1) (o46_2 ++ ([(r.length : Int) + (el (el s (v9_1 - (r.length : Int))) (v11_2 - (r.length : Int)))])) < m2 v11_2 o46_2)) ∧
           (¬ ((r.length : Int) ≤ v11_2) →
            ((o46_2.length : Int) + (([v11_2]).length : Int) ≤ 1000000000) ∧
            (InI (v11_2 + 1)) ∧
            (H2 (v11_2 + 1) (o46_2 ++ ([v11_2])) ∧ m2 (v11_2 + 1) (o46_2 ++ ([v11_2])) < m2 v11_2 o46_2)))) ∧
          (¬ ((r.length : Int) ≤ v9_1) →
           ((o46_2.length : Int) + (([v11_2]).length : Int) ≤ 1000000000) ∧
           (InI (v11_2 + 1)) ∧
           (H2 (v11_2 + 1) (o46_2 ++ ([v11_2])) ∧ m2 (v11_2 + 1) (o46_2 ++ ([v11_2])) < m2 v11_2 o46_2)))))) ∧
        (¬ (v9_1 < (r.length : Int)) →
         (((r.length : Int) ≤ v9_1 →
          (((r.length : Int) ≤ v11_2 →
           (InI (v9_1 - (r.length : Int))) ∧
           (0 ≤ v9_1 - (r.length : Int) ∧ v9_1 - (r.length : Int) < (s.length : Int)) ∧
           (InI (v11_2 - (r.length : Int))) ∧
           (0 ≤ v11_2 - (r.length : Int) ∧ v11_2 - (r.length : Int) < ((el s (v9_1 - (r.length : Int))).length : Int)) ∧
           (InI ((r.length : Int) + (el (el s (v9_1 - (r.length : Int))) (v11_2 - (r.length : Int))))) ∧
           ((o46_2.length : Int) + (([(r.length : Int) + (el (el s (v9_1 - (r.length : Int))) (v11_2 - (r.length : Int)))]).length : Int) ≤ 1000000000) ∧
           (InI (v11_2 + 1)) ∧
           (H2 (v11_2 + 1) (o46_2 ++ ([(r.length : Int) + (el (el s (v9_1 - (r.length : Int))) (v11_2 - (r.length : Int)))])) ∧ m2 (v11_2 + 1) (o46_2 ++ ([(r.length : Int) + (el (el s (v9_1 - (r.length : Int))) (v11_2 - (r.length : Int)))])) < m2 v11_2 o46_2)) ∧
          (¬ ((r.length : Int) ≤ v11_2) →
           ((o46_2.length : Int) + (([v11_2]).length : Int) ≤ 1000000000) ∧
           (InI (v11_2 + 1)) ∧
           (H2 (v11_2 + 1) (o46_2 ++ ([v11_2])) ∧ m2 (v11_2 + 1) (o46_2 ++ ([v11_2])) < m2 v11_2 o46_2)))) ∧
         (¬ ((r.length : Int) ≤ v9_1) →
          ((o46_2.length : Int) + (([v11_2]).length : Int) ≤ 1000000000) ∧
          (InI (v11_2 + 1)) ∧
          (H2 (v11_2 + 1) (o46_2 ++ ([v11_2])) ∧ m2 (v11_2 + 1) (o46_2 ++ ([v11_2])) < m2 v11_2 o46_2)))))) ∧
       (¬ (v11_2 < (r.length : Int) + (s.length : Int)) →
        ((o200128_1.length : Int) + (([o46_2]).length : Int) ≤ 1000000000) ∧
        (InI (v9_1 + 1)) ∧
        (H1 (v9_1 + 1) (o200128_1 ++ ([o46_2])) ∧ m1 (v9_1 + 1) (o200128_1 ++ ([o46_2])) < m1 v9_1 o200128_1))))) ∧
     (¬ (v9_1 < (r.length : Int) + (s.length : Int)) →
      Q o200128_1 0)))))))))

def wp_impl_ProductRack (r : List (List Int)) (s : List (List Int)) (Q : List (List Int) → Int → Prop) : Prop :=
 (small2 r) ∧
 (((isRk r) = false →
  Q ([]) 1) ∧
 ((isRk r) = true →
  (small2 s) ∧
  (((isRk s) = false →
   Q ([]) 1) ∧
  ((isRk s) = true →
   (InI ((r.length : Int) * (s.length : Int))) ∧
   ((12 < (r.length : Int) * (s.length : Int) →
    Q ([]) 3) ∧
   (¬ (12 < (r.length : Int) * (s.length : Int)) →
    (InI ((r.length : Int) * (s.length : Int))) ∧
    (0 ≤ ((r.length : Int) * (s.length : Int)) ∧ ((r.length : Int) * (s.length : Int)) ≤ 1000000 ∧ ∀ x_ y_, 0 ≤ x_ → x_ < ((r.length : Int) * (s.length : Int)) → 0 ≤ y_ → y_ < ((r.length : Int) * (s.length : Int)) → (fun z0 z1 => isTab r = true ∧ isTab s = true ∧ (s.length : Int) = (s.length : Int) ∧ 0 ≤ z0 ∧ z0 < (r.length : Int) * (s.length : Int) ∧ 0 ≤ z1 ∧ z1 < (r.length : Int) * (s.length : Int)) x_ y_ ∧ InI ((fun z0 z1 => el (el r (z0 / (s.length : Int))) (z1 / (s.length : Int)) * (s.length : Int) + el (el s (z0 % (s.length : Int))) (z1 % (s.length : Int))) x_ y_)) ∧
    Q (tab ((r.length : Int) * (s.length : Int)) (fun z0 z1 => el (el r (z0 / (s.length : Int))) (z1 / (s.length : Int)) * (s.length : Int) + el (el s (z0 % (s.length : Int))) (z1 % (s.length : Int)))) 0))))))

def wp_impl_UnionRack (r : List (List Int)) (s : List (List Int)) (Q : List (List Int) → Int → Prop) : Prop :=
 (small2 r) ∧
 (((isRk r) = false →
  Q ([]) 1) ∧
 ((isRk r) = true →
  (small2 s) ∧
  (((isRk s) = false →
   Q ([]) 1) ∧
  ((isRk s) = true →
   (InI ((r.length : Int) + (s.length : Int))) ∧
   ((12 < (r.length : Int) + (s.length : Int) →
    Q ([]) 3) ∧
   (¬ (12 < (r.length : Int) + (s.length : Int)) →
    (InI ((r.length : Int) + (s.length : Int))) ∧
    (0 ≤ ((r.length : Int) + (s.length : Int)) ∧ ((r.length : Int) + (s.length : Int)) ≤ 1000000 ∧ ∀ x_ y_, 0 ≤ x_ → x_ < ((r.length : Int) + (s.length : Int)) → 0 ≤ y_ → y_ < ((r.length : Int) + (s.length : Int)) → (fun z0 z1 => isTab r = true ∧ isTab s = true ∧ (r.length : Int) = (r.length : Int) ∧ 0 ≤ z0 ∧ z0 < (r.length : Int) + (s.length : Int) ∧ 0 ≤ z1 ∧ z1 < (r.length : Int) + (s.length : Int)) x_ y_ ∧ InI ((fun z0 z1 => uniV r s z0 z1) x_ y_)) ∧
    Q (tab ((r.length : Int) + (s.length : Int)) (fun z0 z1 => uniV r s z0 z1)) 0))))))


theorem fir_el {c : List Int} (h : canB 0 c = true) {k : Int} (hk : 0 ≤ k ∧ k < canN 0 c) : (0 ≤ el (firI c) k ∧ el (firI c) k < (c.length : Int)) ∧ el c (el (firI c) k) = k := by
  rw [firI, el_ran hk]; exact can_fir h hk
theorem length_firI {c : List Int} (h : canB 0 c = true) : ((firI c).length : Int) = canN 0 c := by
  have := canN_le h
  simp [firI]; omega
theorem pro_bd {n m x : Int} (_hn : 1 ≤ n ∧ n ≤ 12) (hm : 1 ≤ m ∧ m ≤ 12) (hx : 0 ≤ x ∧ x < n * m) : (0 ≤ x / m ∧ x / m < n) ∧ (0 ≤ x % m ∧ x % m < m) :=
  ⟨⟨Int.ediv_nonneg hx.1 (by omega), Int.ediv_lt_of_lt_mul (by omega) hx.2⟩, Int.emod_nonneg x (by omega), Int.emod_lt_of_pos x (by omega)⟩
theorem pro_N {n m : Int} (hn : 1 ≤ n ∧ n ≤ 12) (hm : 1 ≤ m ∧ m ≤ 12) : 0 ≤ n * m ∧ n * m ≤ 144 := by
  have := mulB (a := n) (i := m) (A := 12) (B := 12) ⟨by omega, by omega, by omega, by omega⟩
  omega
theorem p_impl_ProductRack_1 (x y : Int) (r : List (List Int)) (m : Int) (s : List (List Int)) (hp : isTab r = true ∧ isTab s = true ∧ m = (s.length : Int) ∧ 0 ≤ x ∧ x < (r.length : Int) * (s.length : Int) ∧ 0 ≤ y ∧ y < (r.length : Int) * (s.length : Int)) : wp_impl_ProductRack_1 x y r m s (fun y0 => y0 = el (el r (x / m)) (y / m) * m + el (el s (x % m)) (y % m)) := by
  unfold wp_impl_ProductRack_1
  obtain ⟨hr, hs, rfl, x0, x1, y0, y1⟩ := hp
  have nr := isTab_len hr
  have ns := isTab_len hs
  have hN := pro_N nr ns
  obtain ⟨xa, xb⟩ := pro_bd nr ns ⟨x0, x1⟩
  obtain ⟨ya, yb⟩ := pro_bd nr ns ⟨y0, y1⟩
  have e1 := rk_el hr xa ya
  have e2 := rk_el hs xb yb
  have l1 := rk_len hr xa
  have l2 := rk_len hs xb
  have hm := mulB (a := el (el r (x / (s.length : Int))) (y / (s.length : Int))) (i := (s.length : Int)) (A := 12) (B := 12) ⟨e1.1, by omega, by omega, by omega⟩
  exact ⟨⟨x0, by omega, by omega⟩, xa, ⟨y0, by omega, by omega⟩, ⟨ya.1, by omega⟩, ⟨by omega, by omega⟩, ⟨x0, by omega⟩, xb, ⟨y0, by omega⟩, ⟨yb.1, by omega⟩, ⟨by omega, by omega⟩, rfl⟩
theorem p_spec_l04Product (a b : List (List Int)) (hp : isTab a = true ∧ isTab b = true) : wp_spec_l04Product a b (fun y0 => y0 = proT a b) := by
  unfold wp_spec_l04Product
  obtain ⟨hr, hs⟩ := hp
  have nr := isTab_len hr
  have ns := isTab_len hs
  have hN := pro_N nr ns
  have hI : InI ((a.length : Int) * (b.length : Int)) := ⟨by omega, by omega⟩
  refine ⟨fun i o => 0 ≤ i ∧ i ≤ (a.length : Int) * (b.length : Int) ∧ o.length = i.toNat ∧ Upto i fun x => el o x = ran ((a.length : Int) * (b.length : Int)) fun y => el (el a (x / (b.length : Int))) (y / (b.length : Int)) * (b.length : Int) + el (el b (x % (b.length : Int))) (y % (b.length : Int)), fun i _ => ((a.length : Int) * (b.length : Int) - i).toNat, ⟨by omega, by omega, by simp, upto0⟩, ?_⟩
  rintro x o ⟨i0, i1, il, iI⟩
  dsimp only
  refine ⟨hI, fun ilt => ?_, fun ige => eq_ran (by omega) fun j a b => iI j a (by omega)⟩
  refine ⟨fun y q => 0 ≤ y ∧ y ≤ (a.length : Int) * (b.length : Int) ∧ q.length = y.toNat ∧ Upto y fun y => el q y = el (el a (x / (b.length : Int))) (y / (b.length : Int)) * (b.length : Int) + el (el b (x % (b.length : Int))) (y % (b.length : Int)), fun y _ => ((a.length : Int) * (b.length : Int) - y).toNat, ⟨by omega, by omega, by simp, upto0⟩, ?_⟩
  rintro y q ⟨j0, j1, jl, jI⟩
  dsimp only
  refine ⟨hI, fun jlt => ?_, fun jge => ?_⟩
  · obtain ⟨xa, xb⟩ := pro_bd nr ns ⟨i0, ilt⟩
    obtain ⟨ya, yb⟩ := pro_bd nr ns ⟨j0, jlt⟩
    have e1 := rk_el hr xa ya
    have e2 := rk_el hs xb yb
    have l1 := rk_len hr xa
    have l2 := rk_len hs xb
    have hm := mulB (a := el (el a (x / (b.length : Int))) (y / (b.length : Int))) (i := (b.length : Int)) (A := 12) (B := 12) ⟨e1.1, by omega, by omega, by omega⟩
    exact ⟨⟨i0, by omega, by omega⟩, xa, ⟨j0, by omega, by omega⟩, ⟨i0, by omega⟩, xb, ⟨j0, by omega⟩, ⟨ya.1, by omega⟩, ⟨by omega, by omega⟩, ⟨yb.1, by omega⟩, ⟨by omega, by omega⟩, by simp; omega, ⟨by omega, by omega⟩, ⟨by omega, by omega, by simp; omega, app1 (f := fun y => el (el a (x / (b.length : Int))) (y / (b.length : Int)) * (b.length : Int) + el (el b (x % (b.length : Int))) (y % (b.length : Int))) (by omega) jI rfl⟩, by omega⟩
  · have hq : q = ran ((a.length : Int) * (b.length : Int)) fun y => el (el a (x / (b.length : Int))) (y / (b.length : Int)) * (b.length : Int) + el (el b (x % (b.length : Int))) (y % (b.length : Int)) := eq_ran (by omega) fun k u v => jI k u (by omega)
    exact ⟨by simp; omega, ⟨by omega, by omega⟩, ⟨by omega, by omega, by simp; omega, app1 (f := fun x => ran ((a.length : Int) * (b.length : Int)) fun y => el (el a (x / (b.length : Int))) (y / (b.length : Int)) * (b.length : Int) + el (el b (x % (b.length : Int))) (y % (b.length : Int))) (by omega) iI hq⟩, by omega⟩
theorem pro1 {a b : List (List Int)} (h : (isRk a && isRk b) = false) : [] = ProT a b ∧ 1 = ProE a b := by
  have e : ProE a b = 1 := by unfold ProE; rw [h]; rfl
  exact ⟨by unfold ProT; rw [e]; rfl, e.symm⟩
theorem pro3 {a b : List (List Int)} (h : (isRk a && isRk b) = true) (h2 : (12 : Int) < (a.length : Int) * (b.length : Int)) : [] = ProT a b ∧ 3 = ProE a b := by
  have e : ProE a b = 3 := by unfold ProE; rw [h, if_pos h2]; rfl
  exact ⟨by unfold ProT; rw [e]; rfl, e.symm⟩
theorem pro0 {a b : List (List Int)} (h : (isRk a && isRk b) = true) (h2 : ¬ (12 : Int) < (a.length : Int) * (b.length : Int)) : proT a b = ProT a b ∧ 0 = ProE a b := by
  have e : ProE a b = 0 := by unfold ProE; rw [h, if_neg h2]; rfl
  exact ⟨by unfold ProT; rw [e]; rfl, e.symm⟩
theorem p_spec_ProductRack (r s : List (List Int)) (hp : small2 r ∧ small2 s) : wp_spec_ProductRack r s (fun y0 y1 => y0 = ProT r s ∧ y1 = ProE r s) := by
  unfold wp_spec_ProductRack
  refine ⟨hp.1, fun h => pro1 (by rw [h]; rfl), fun h => ⟨hp.2, fun h2 => pro1 (by rw [h, h2]; rfl), fun h2 => ?_⟩⟩
  have hr := isRk_tab h
  have hs := isRk_tab h2
  have hN := pro_N (isTab_len hr) (isTab_len hs)
  exact ⟨⟨by omega, by omega⟩, fun h3 => pro3 (by rw [h, h2]; rfl) h3, fun h3 => ⟨⟨hr, hs⟩, pro0 (by rw [h, h2]; rfl) h3⟩⟩
theorem p_impl_ProductRack (r s : List (List Int)) (hp : small2 r ∧ small2 s) : wp_impl_ProductRack r s (fun y0 y1 => y0 = ProT r s ∧ y1 = ProE r s) := by
  unfold wp_impl_ProductRack
  refine ⟨hp.1, fun h => pro1 (by rw [h]; rfl), fun h => ⟨hp.2, fun h2 => pro1 (by rw [h, h2]; rfl), fun h2 => ?_⟩⟩
  have hr := isRk_tab h
  have hs := isRk_tab h2
  have nr := isTab_len hr
  have ns := isTab_len hs
  have hN := pro_N nr ns
  refine ⟨⟨by omega, by omega⟩, fun h3 => pro3 (by rw [h, h2]; rfl) h3, fun h3 => ⟨⟨by omega, by omega⟩, ⟨by omega, by omega, fun x y x0 x1 y0 y1 => ⟨⟨hr, hs, rfl, x0, x1, y0, y1⟩, ?_⟩⟩, pro0 (by rw [h, h2]; rfl) h3⟩⟩
  obtain ⟨xa, xb⟩ := pro_bd nr ns ⟨x0, x1⟩
  obtain ⟨ya, yb⟩ := pro_bd nr ns ⟨y0, y1⟩
  have e1 := rk_el hr xa ya
  have e2 := rk_el hs xb yb
  have hm := mulB (a := el (el r (x / (s.length : Int))) (y / (s.length : Int))) (i := (s.length : Int)) (A := 12) (B := 12) ⟨e1.1, by omega, by omega, by omega⟩
  constructor <;> dsimp only <;> omega
theorem uniV_in {r s : List (List Int)} (hr : isTab r = true) (hs : isTab s = true) {x y : Int} (x0 : 0 ≤ x) (x1 : x < (r.length : Int) + (s.length : Int)) (y0 : 0 ≤ y) (y1 : y < (r.length : Int) + (s.length : Int)) : 0 ≤ uniV r s x y ∧ uniV r s x y < (r.length : Int) + (s.length : Int) := by
  unfold uniV
  split
  · rename_i h; have := rk_el hr ⟨x0, h.1⟩ ⟨y0, h.2⟩; omega
  · split
    · rename_i h; have := rk_el hs (x := x - (r.length : Int)) (y := y - (r.length : Int)) ⟨by omega, by omega⟩ ⟨by omega, by omega⟩; omega
    · omega
theorem uniV_a {r s : List (List Int)} {x y : Int} (h1 : x < (r.length : Int)) (h2 : y < (r.length : Int)) : el (el r x) y = uniV r s x y := by unfold uniV; rw [if_pos ⟨h1, h2⟩]
theorem uniV_b {r s : List (List Int)} {x y : Int} (h1 : (r.length : Int) ≤ x) (h2 : (r.length : Int) ≤ y) : (r.length : Int) + el (el s (x - (r.length : Int))) (y - (r.length : Int)) = uniV r s x y := by unfold uniV; rw [if_neg (by omega), if_pos ⟨h1, h2⟩]
theorem uniV_c {r s : List (List Int)} {x y : Int} (h1 : ¬ (x < (r.length : Int) ∧ y < (r.length : Int))) (h2 : ¬ ((r.length : Int) ≤ x ∧ (r.length : Int) ≤ y)) : y = uniV r s x y := by unfold uniV; rw [if_neg h1, if_neg h2]
theorem p_impl_UnionRack_1 (x y n : Int) (r s : List (List Int)) (hp : isTab r = true ∧ isTab s = true ∧ n = (r.length : Int) ∧ 0 ≤ x ∧ x < (r.length : Int) + (s.length : Int) ∧ 0 ≤ y ∧ y < (r.length : Int) + (s.length : Int)) : wp_impl_UnionRack_1 x y n r s (fun y0 => y0 = uniV r s x y) := by
  unfold wp_impl_UnionRack_1
  obtain ⟨hr, hs, rfl, x0, x1, y0, y1⟩ := hp
  have nr := isTab_len hr
  have ns := isTab_len hs
  have key : (r.length : Int) ≤ x → (r.length : Int) ≤ y → InI (x - (r.length : Int)) ∧ (0 ≤ x - (r.length : Int) ∧ x - (r.length : Int) < (s.length : Int)) ∧ InI (y - (r.length : Int)) ∧ (0 ≤ y - (r.length : Int) ∧ y - (r.length : Int) < ((el s (x - (r.length : Int))).length : Int)) ∧ InI ((r.length : Int) + (el (el s (x - (r.length : Int))) (y - (r.length : Int)))) ∧ (r.length : Int) + (el (el s (x - (r.length : Int))) (y - (r.length : Int))) = uniV r s x y := fun h1 h2 => by
    have hx : 0 ≤ x - (r.length : Int) ∧ x - (r.length : Int) < (s.length : Int) := ⟨by omega, by omega⟩
    have hy : 0 ≤ y - (r.length : Int) ∧ y - (r.length : Int) < (s.length : Int) := ⟨by omega, by omega⟩
    have e := rk_el hs hx hy
    have l := rk_len hs hx
    exact ⟨⟨by omega, by omega⟩, hx, ⟨by omega, by omega⟩, ⟨hy.1, by omega⟩, ⟨by omega, by omega⟩, uniV_b h1 h2⟩
  refine ⟨fun h1 => ⟨fun h2 => ?_, fun h2 => ⟨fun h3 => ⟨fun h4 => key h3 h4, fun h4 => uniV_c (by omega) (by omega)⟩, fun h3 => uniV_c (by omega) (by omega)⟩⟩, fun h1 => ⟨fun h3 => ⟨fun h4 => key h3 h4, fun h4 => uniV_c (by omega) (by omega)⟩, fun h3 => uniV_c (by omega) (by omega)⟩⟩
  have l := rk_len hr ⟨x0, h1⟩
  exact ⟨⟨x0, h1⟩, ⟨y0, by omega⟩, uniV_a h1 h2⟩
theorem uni1 {a b : List (List Int)} (h : (isRk a && isRk b) = false) : [] = UniT a b ∧ 1 = UniE a b := by
  have e : UniE a b = 1 := by unfold UniE; rw [h]; rfl
  exact ⟨by unfold UniT; rw [e]; rfl, e.symm⟩
theorem uni3 {a b : List (List Int)} (h : (isRk a && isRk b) = true) (h2 : (12 : Int) < (a.length : Int) + (b.length : Int)) : [] = UniT a b ∧ 3 = UniE a b := by
  have e : UniE a b = 3 := by unfold UniE; rw [h, if_pos h2]; rfl
  exact ⟨by unfold UniT; rw [e]; rfl, e.symm⟩
theorem uni0 {a b : List (List Int)} (h : (isRk a && isRk b) = true) (h2 : ¬ (12 : Int) < (a.length : Int) + (b.length : Int)) : uniT a b = UniT a b ∧ 0 = UniE a b := by
  have e : UniE a b = 0 := by unfold UniE; rw [h, if_neg h2]; rfl
  exact ⟨by unfold UniT; rw [e]; rfl, e.symm⟩
theorem p_impl_UnionRack (r s : List (List Int)) (hp : small2 r ∧ small2 s) : wp_impl_UnionRack r s (fun y0 y1 => y0 = UniT r s ∧ y1 = UniE r s) := by
  unfold wp_impl_UnionRack
  refine ⟨hp.1, fun h => uni1 (by rw [h]; rfl), fun h => ⟨hp.2, fun h2 => uni1 (by rw [h, h2]; rfl), fun h2 => ?_⟩⟩
  have hr := isRk_tab h
  have hs := isRk_tab h2
  have nr := isTab_len hr
  have ns := isTab_len hs
  refine ⟨⟨by omega, by omega⟩, fun h3 => uni3 (by rw [h, h2]; rfl) h3, fun h3 => ⟨⟨by omega, by omega⟩, ⟨by omega, by omega, fun x y x0 x1 y0 y1 => ⟨⟨hr, hs, rfl, x0, x1, y0, y1⟩, ?_⟩⟩, uni0 (by rw [h, h2]; rfl) h3⟩⟩
  have := uniV_in hr hs x0 x1 y0 y1
  constructor <;> dsimp only <;> omega
theorem p_spec_UnionRack (r s : List (List Int)) (hp : small2 r ∧ small2 s) : wp_spec_UnionRack r s (fun y0 y1 => y0 = UniT r s ∧ y1 = UniE r s) := by
  unfold wp_spec_UnionRack
  refine ⟨hp.1, fun h => uni1 (by rw [h]; rfl), fun h => ⟨hp.2, fun h2 => uni1 (by rw [h, h2]; rfl), fun h2 => ?_⟩⟩
  have hr := isRk_tab h
  have hs := isRk_tab h2
  have nr := isTab_len hr
  have ns := isTab_len hs
  have hI : InI ((r.length : Int) + (s.length : Int)) := ⟨by omega, by omega⟩
  refine ⟨hI, fun h3 => uni3 (by rw [h, h2]; rfl) h3, fun h3 => ?_⟩
  have h0 := uni0 (by rw [h, h2]; rfl) h3
  refine ⟨fun i o => 0 ≤ i ∧ i ≤ (r.length : Int) + (s.length : Int) ∧ o.length = i.toNat ∧ Upto i fun x => el o x = ran ((r.length : Int) + (s.length : Int)) (uniV r s x), fun i _ => ((r.length : Int) + (s.length : Int) - i).toNat, ⟨by omega, by omega, by simp, upto0⟩, ?_⟩
  rintro x o ⟨i0, i1, il, iI⟩
  dsimp only
  refine ⟨hI, fun ilt => ?_, fun ige => ⟨by rw [← h0.1]; exact eq_ran (by omega) fun j a b => iI j a (by omega), h0.2⟩⟩
  refine ⟨fun y q => 0 ≤ y ∧ y ≤ (r.length : Int) + (s.length : Int) ∧ q.length = y.toNat ∧ Upto y fun y => el q y = uniV r s x y, fun y _ => ((r.length : Int) + (s.length : Int) - y).toNat, ⟨by omega, by omega, by simp, upto0⟩, ?_⟩
  rintro y q ⟨j0, j1, jl, jI⟩
  dsimp only
  refine ⟨hI, fun jlt => ?_, fun jge => ?_⟩
  · have st : ∀ v, v = uniV r s x y → ((q.length : Int) + ([v].length : Int) ≤ 1000000000) ∧ InI (y + 1) ∧ (0 ≤ y + 1 ∧ y + 1 ≤ (r.length : Int) + (s.length : Int) ∧ (q ++ [v]).length = (y + 1).toNat ∧ Upto (y + 1) fun y => el (q ++ [v]) y = uniV r s x y) ∧ ((r.length : Int) + (s.length : Int) - (y + 1)).toNat < ((r.length : Int) + (s.length : Int) - y).toNat := fun v hv =>
      ⟨by simp; omega, ⟨by omega, by omega⟩, ⟨by omega, by omega, by simp; omega, app1 (f := uniV r s x) (by omega) jI hv⟩, by omega⟩
    have key : (r.length : Int) ≤ x → (r.length : Int) ≤ y → InI (x - (r.length : Int)) ∧ (0 ≤ x - (r.length : Int) ∧ x - (r.length : Int) < (s.length : Int)) ∧ InI (y - (r.length : Int)) ∧ (0 ≤ y - (r.length : Int) ∧ y - (r.length : Int) < ((el s (x - (r.length : Int))).length : Int)) ∧ InI ((r.length : Int) + (el (el s (x - (r.length : Int))) (y - (r.length : Int)))) := fun h1 h2 => by
      have hx : 0 ≤ x - (r.length : Int) ∧ x - (r.length : Int) < (s.length : Int) := ⟨by omega, by omega⟩
      have hy : 0 ≤ y - (r.length : Int) ∧ y - (r.length : Int) < (s.length : Int) := ⟨by omega, by omega⟩
      have e := rk_el hs hx hy
      have l := rk_len hs hx
      exact ⟨⟨by omega, by omega⟩, hx, ⟨by omega, by omega⟩, ⟨hy.1, by omega⟩, ⟨by omega, by omega⟩⟩
    have kk : (r.length : Int) ≤ x → (r.length : Int) ≤ y → _ := fun h1 h2 => (⟨(key h1 h2).1, (key h1 h2).2.1, (key h1 h2).2.2.1, (key h1 h2).2.2.2.1, (key h1 h2).2.2.2.2, st _ (uniV_b h1 h2)⟩ : _ ∧ _ ∧ _ ∧ _ ∧ _ ∧ _)
    refine ⟨fun h1 => ⟨fun h2 => ?_, fun h2 => ⟨fun h3 => ⟨fun h4 => kk h3 h4, fun h4 => st _ (uniV_c (by omega) (by omega))⟩, fun h3 => st _ (uniV_c (by omega) (by omega))⟩⟩, fun h1 => ⟨fun h3 => ⟨fun h4 => kk h3 h4, fun h4 => st _ (uniV_c (by omega) (by omega))⟩, fun h3 => st _ (uniV_c (by omega) (by omega))⟩⟩
    have l := rk_len hr ⟨i0, h1⟩
    exact ⟨⟨i0, h1⟩, ⟨j0, by omega⟩, st _ (uniV_a h1 h2)⟩
  · have hq : q = ran ((r.length : Int) + (s.length : Int)) (uniV r s x) := eq_ran (by omega) fun k u v => jI k u (by omega)
    exact ⟨by simp; omega, ⟨by omega, by omega⟩, ⟨by omega, by omega, by simp; omega, app1 (f := fun x => ran ((r.length : Int) + (s.length : Int)) (uniV r s x)) (by omega) iI hq⟩, by omega⟩
theorem crm1 {r s : List (List Int)} (h : (isRk r && isRk s) = false) : 0 = CrmV r s ∧ 1 = CrmE r s := by
  have e : CrmE r s = 1 := by unfold CrmE; rw [h]; rfl
  exact ⟨by unfold CrmV; rw [e]; rfl, e.symm⟩
theorem crm3 {r s : List (List Int)} (h : (isRk r && isRk s) = true) (h2 : (1000000 : Int) < (s.length : Int) ^ r.length) : 0 = CrmV r s ∧ 3 = CrmE r s := by
  have e : CrmE r s = 3 := by unfold CrmE; rw [h, if_pos h2]; rfl
  exact ⟨by unfold CrmV; rw [e]; rfl, e.symm⟩
theorem crm0 {r s : List (List Int)} (h : (isRk r && isRk s) = true) (h2 : ¬ (1000000 : Int) < (s.length : Int) ^ r.length) : cntI r s [] = CrmV r s ∧ 0 = CrmE r s := by
  have e : CrmE r s = 0 := by unfold CrmE; rw [h, if_neg h2]; rfl
  exact ⟨by unfold CrmV; rw [e]; rfl, e.symm⟩
theorem crm_step {m v w n : Int} (hm : 1 ≤ m ∧ m ≤ 12) (hv : v = m ^ w.toNat) (w0 : 0 ≤ w) (hw : w < n) (h : v ≤ 1000000) : InI (v * m) ∧ v * m = m ^ (w + 1).toNat ∧ (1000000 < v * m → 1000000 < m ^ n.toNat) := by
  have p0 : 0 ≤ v := by rw [hv]; exact Int.pow_nonneg (by omega)
  have e : v * m = m ^ (w + 1).toNat := by rw [hv, show (w + 1).toNat = w.toNat + 1 by omega, Int.pow_succ]
  have b := mulB (a := v) (i := m) (A := 1000000) (B := 12) ⟨p0, h, by omega, by omega⟩
  refine ⟨⟨by omega, by omega⟩, e, fun h1 => ?_⟩
  have := pow_mono hm.1 (w + 1).toNat n.toNat (by omega)
  omega
set_option maxRecDepth 100000 in
set_option maxHeartbeats 4000000 in
theorem w_impl_ProductRack_1 (x : Int) (y : Int) (r : List (List Int)) (m : Int) (s : List (List Int)) (Q : Int → Prop) (h : wp_impl_ProductRack_1 x y r m s Q) : AF Try.prog 108 [ci x, ci y, .ptr [.lst (rows r)], .ptr [ci m], .ptr [.lst (rows s)]] (fun R_ => ∃ y0, Q y0 ∧ R_ = ci y0) := by
  refine AF.ofWQ (af_enter (n := 35) Try.func108 rfl (by rfl) rfl (Nat.le_of_ble_eq_true rfl) ?_)
  unfold wp_impl_ProductRack_1 at h
  refine aw_seq ?_
  refine aw_gh (gh_to (n := 35) (σ' := []) (env' := [(0, .c (ci x)), (1, .c (ci y)), (2, .c (.ptr [.lst (rows r)])), (3, .c (.ptr [ci m])), (4, .c (.ptr [.lst (rows s)]))]) rfl rfl ⟨rfl, rfl, rfl, rfl, rfl, trivial⟩) ?_
  refine aw_region ?_
  refine run_s (ss_assign rfl) rfl ?_
  refine run_nil ?_
  refine aw_seq ?_
  refine aw_gh (gh_to (n := 35) (σ' := []) (env' := [(0, .c (ci x)), (1, .c (ci y)), (2, .c (.ptr [.lst (rows r)])), (3, .c (.ptr [ci m])), (4, .c (.ptr [.lst (rows s)])), (7, .c (ci 0))]) rfl rfl ⟨rfl, rfl, rfl, rfl, rfl, rfl, trivial⟩) ?_
  refine aw_regionD (kd := kdl [0, 1, 0, 1, 0, 0, 1, 0, 1, 0, 0, 1, 1, 0, 0, 1, 0, 1, 0, 0, 1, 0, 1, 0, 0, 1, 0, 0]) (ord := [0, 2, 7, 14, 16, 21, 1, 3, 4, 5, 6, 8, 9, 10, 11, 12, 13, 15, 17, 18, 19, 20, 22, 23, 24, 25, 26, 27]) [] mixed (by kernel_rfl) ?_
  refine rd_s rfl rfl trivial (ss_field_ptr rfl) rfl ?_
  refine rd_s rfl rfl trivial (ss_move rfl) rfl ?_
  refine rd_s rfl rfl trivial (ss_move rfl) rfl ?_
  refine rd_s rfl rfl trivial (ss_field_ptr rfl) rfl ?_
  refine rd_s rfl rfl trivial (ss_move rfl) rfl ?_
  refine rd_s rfl rfl trivial (ss_move rfl) rfl ?_
  refine rd_l rfl rfl trivial (ss_load_ptr rfl rfl) rfl ?_
  refine rd_l rfl rfl trivial (ss_load_ptr rfl rfl) rfl ?_
  obtain ⟨q1, h⟩ := h
  refine rd_s rfl rfl trivial (ss_quo rfl rfl q1) rfl ?_
  obtain ⟨q2, h⟩ := h
  refine rd_s rfl rfl trivial (ss_idxL rfl rfl q2) rfl ?_
  refine rd_l rfl rfl trivial (ss_loadL (f := (fun r => C.lst (ints r))) rfl q2) rfl ?_
  refine rd_l rfl rfl trivial (ss_load_ptr rfl rfl) rfl ?_
  obtain ⟨q3, h⟩ := h
  refine rd_s rfl rfl trivial (ss_quo rfl rfl q3) rfl ?_
  obtain ⟨q4, h⟩ := h
  refine rd_s rfl rfl trivial (ss_idxL rfl rfl q4) rfl ?_
  refine rd_l rfl rfl trivial (ss_loadL (f := ci) rfl q4) rfl ?_
  refine rd_l rfl rfl trivial (ss_load_ptr rfl rfl) rfl ?_
  obtain ⟨q5, h⟩ := h
  refine rd_s rfl rfl trivial (ss_mul rfl rfl q5) rfl ?_
  refine rd_l rfl rfl trivial (ss_load_ptr rfl rfl) rfl ?_
  refine rd_l rfl rfl trivial (ss_load_ptr rfl rfl) rfl ?_
  obtain ⟨q6, h⟩ := h
  refine rd_s rfl rfl trivial (ss_rem rfl rfl q6) rfl ?_
  obtain ⟨q7, h⟩ := h
  refine rd_s rfl rfl trivial (ss_idxL rfl rfl q7) rfl ?_
  refine rd_l rfl rfl trivial (ss_loadL (f := (fun r => C.lst (ints r))) rfl q7) rfl ?_
  refine rd_l rfl rfl trivial (ss_load_ptr rfl rfl) rfl ?_
  obtain ⟨q8, h⟩ := h
  refine rd_s rfl rfl trivial (ss_rem rfl rfl q8) rfl ?_
  obtain ⟨q9, h⟩ := h
  refine rd_s rfl rfl trivial (ss_idxL rfl rfl q9) rfl ?_
  refine rd_l rfl rfl trivial (ss_loadL (f := ci) rfl q9) rfl ?_
  obtain ⟨q10, h⟩ := h
  refine rd_s rfl rfl trivial (ss_add rfl rfl q10) rfl ?_
  refine rd_s rfl rfl trivial (ss_assign rfl) rfl ?_
  refine rd_nil ?_
  refine aw_ret ?_
  exact retAF_mk (retv1 rfl (rv_tmp rfl)) rfl rfl ⟨_, (cle_refl _), _, h, rfl⟩

theorem c_impl_ProductRack_1 (x : Int) (y : Int) (r : List (List Int)) (m : Int) (s : List (List Int)) (hp : isTab r = true ∧ isTab s = true ∧ m = (s.length : Int) ∧ 0 ≤ x ∧ x < (r.length : Int) * (s.length : Int) ∧ 0 ≤ y ∧ y < (r.length : Int) * (s.length : Int)) : AF Try.prog 108 [ci x, ci y, .ptr [.lst (rows r)], .ptr [ci m], .ptr [.lst (rows s)]] (fun R_ => R_ = ci (el (el r (x / m)) (y / m) * m + el (el s (x % m)) (y % m))) :=
  (w_impl_ProductRack_1 x y r m s (fun y0 => y0 = el (el r (x / m)) (y / m) * m + el (el s (x % m)) (y % m)) (p_impl_ProductRack_1 x y r m s hp)).mono (by rintro r ⟨_, rfl, rfl⟩; rfl)

set_option maxRecDepth 100000 in
set_option maxHeartbeats 4000000 in
theorem w_spec_l04Product (a : List (List Int)) (b : List (List Int)) (Q : List (List Int) → Prop) (h : wp_spec_l04Product a b Q) : AF Try.prog 109 [.lst (rows a), .lst (rows b)] (fun R_ => ∃ y0, Q y0 ∧ R_ = .own (orows y0)) := by
  refine AF.ofWQ (af_enter (n := 64) Try.func109 rfl (by rfl) rfl (Nat.le_of_ble_eq_true rfl) ?_)
  unfold wp_spec_l04Product at h
  refine aw_seq ?_
  refine aw_gh (gh_to (n := 64) (σ' := []) (env' := [(0, .c (.lst (rows a))), (1, .c (.lst (rows b)))]) rfl rfl ⟨rfl, rfl, trivial⟩) ?_
  refine aw_region ?_
  refine run_s (ss_assign rfl) rfl ?_
  refine run_nil ?_
  refine aw_seq ?_
  refine aw_region ?_
  refine run_s (ss_move rfl) rfl ?_
  refine run_s (ss_lenL (f := (fun r => C.lst (ints r))) rfl) rfl ?_
  refine run_s (ss_move rfl) rfl ?_
  refine run_s (ss_lenL (f := (fun r => C.lst (ints r))) rfl) rfl ?_
  refine run_s (ss_assign rfl) rfl ?_
  refine run_s (ss_assign rfl) rfl ?_
  refine run_nil ?_
  refine aw_seq ?_
  refine aw_gh (gh_to (n := 64) (σ' := []) (env' := [(0, .c (.lst (rows a))), (1, .c (.lst (rows b))), (5, .c (ci (a.length : Int))), (6, .c (ci (b.length : Int)))]) rfl rfl ⟨rfl, rfl, rfl, rfl, trivial⟩) ?_
  refine aw_region ?_
  refine run_w (ws_buildSlice (id := 15) (ps := []) rfl rfl (Nat.le_of_ble_eq_true rfl) rfl ⟨rfl, ?_⟩)
  refine run_s (ss_assign rfl) rfl ?_
  refine run_nil ?_
  refine aw_seq ?_
  refine aw_seq ?_
  refine aw_region ?_
  refine run_s (ss_assign rfl) rfl ?_
  refine run_nil ?_
  refine aw_block ?_
  obtain ⟨H1, m1, q1, h⟩ := h
  refine aw_loop2 (fun (v8_1 : Int) (o15_1 : List (List Int)) => ⟨[(15, ⟨orows o15_1, []⟩)], [(0, .c (.lst (rows a))), (1, .c (.lst (rows b))), (5, .c (ci (a.length : Int))), (6, .c (ci (b.length : Int))), (7, .ref 15), (8, .c (ci v8_1))], 64⟩) H1 m1 ⟨0, ([] : List (List Int)), ghe_to (n := 64) rfl rfl ⟨rfl, rfl, rfl, rfl, rfl, rfl, trivial⟩, q1⟩ ?_
  rintro v8_1 o15_1 q1
  replace h := h v8_1 o15_1 q1
  refine aw_seq ?_
  refine aw_seq ?_
  refine aw_region ?_
  refine run_s (ss_move rfl) rfl ?_
  refine run_s (ss_move rfl) rfl ?_
  refine run_s (ss_move rfl) rfl ?_
  obtain ⟨q2, h⟩ := h
  refine run_s (ss_mul rfl rfl q2) rfl ?_
  refine run_s (ss_lss rfl rfl) rfl ?_
  refine run_nil ?_
  refine aw_cond rfl (fun q3 => ?_) (fun q3 => ?_)
  · replace h := h.1 (of_decide_eq_true q3)
    refine aw_skip ?_
    refine aw_seq ?_
    refine aw_block ?_
    refine aw_seq ?_
    refine aw_gh (gh_to (n := 64) (σ' := [(15, ⟨orows o15_1, []⟩)]) (env' := [(0, .c (.lst (rows a))), (1, .c (.lst (rows b))), (5, .c (ci (a.length : Int))), (6, .c (ci (b.length : Int))), (7, .ref 15), (8, .c (ci v8_1))]) rfl rfl ⟨rfl, rfl, rfl, rfl, rfl, rfl, trivial⟩) ?_
    refine aw_region ?_
    refine run_w (ws_buildSlice (id := 23) (ps := []) rfl rfl (Nat.le_of_ble_eq_true rfl) rfl ⟨rfl, ?_⟩)
    refine run_s (ss_assign rfl) rfl ?_
    refine run_nil ?_
    refine aw_seq ?_
    refine aw_seq ?_
    refine aw_region ?_
    refine run_s (ss_assign rfl) rfl ?_
    refine run_nil ?_
    refine aw_block ?_
    obtain ⟨H2, m2, q4, h⟩ := h
    refine aw_loop2 (fun (v10_2 : Int) (o23_2 : List Int) => ⟨[(23, ⟨ints o23_2, []⟩), (15, ⟨orows o15_1, []⟩)], [(0, .c (.lst (rows a))), (1, .c (.lst (rows b))), (5, .c (ci (a.length : Int))), (6, .c (ci (b.length : Int))), (7, .ref 15), (8, .c (ci v8_1)), (9, .ref 23), (10, .c (ci v10_2))], 64⟩) H2 m2 ⟨0, ([] : List Int), ghe_to (n := 64) rfl rfl ⟨rfl, rfl, rfl, rfl, rfl, rfl, rfl, rfl, trivial⟩, q4⟩ ?_
    rintro v10_2 o23_2 q4
    replace h := h v10_2 o23_2 q4
    refine aw_seq ?_
    refine aw_seq ?_
    refine aw_region ?_
    refine run_s (ss_move rfl) rfl ?_
    refine run_s (ss_move rfl) rfl ?_
    refine run_s (ss_move rfl) rfl ?_
    obtain ⟨q5, h⟩ := h
    refine run_s (ss_mul rfl rfl q5) rfl ?_
    refine run_s (ss_lss rfl rfl) rfl ?_
    refine run_nil ?_
    refine aw_cond rfl (fun q6 => ?_) (fun q6 => ?_)
    · replace h := h.1 (of_decide_eq_true q6)
      refine aw_skip ?_
      refine aw_seq ?_
      refine aw_block ?_
      refine aw_gh (gh_to (n := 64) (σ' := [(23, ⟨ints o23_2, []⟩), (15, ⟨orows o15_1, []⟩)]) (env' := [(0, .c (.lst (rows a))), (1, .c (.lst (rows b))), (5, .c (ci (a.length : Int))), (6, .c (ci (b.length : Int))), (7, .ref 15), (8, .c (ci v8_1)), (9, .ref 23), (10, .c (ci v10_2))]) rfl rfl ⟨rfl, rfl, rfl, rfl, rfl, rfl, rfl, rfl, trivial⟩) ?_
      refine aw_regionD (kd := kdl [0, 0, 0, 0, 0, 0, 1, 0, 0, 0, 0, 1, 0, 0, 0, 0, 0, 0, 0, 1, 0, 0, 0, 0, 1, 0, 2, 2, 0]) (ord := [0, 1, 2, 3, 4, 5, 7, 8, 9, 12, 14, 15, 16, 17, 18, 20, 21, 22, 6, 10, 11, 13, 19, 23, 24, 25, 26, 27, 28]) [23, 57] mixed (by kernel_rfl) ?_
      refine rd_s rfl rfl trivial (ss_move rfl) rfl ?_
      refine rd_s rfl rfl trivial (ss_move rfl) rfl ?_
      refine rd_s rfl rfl trivial (ss_move rfl) rfl ?_
      refine rd_s rfl rfl trivial (ss_move rfl) rfl ?_
      obtain ⟨q7, h⟩ := h
      refine rd_s rfl rfl trivial (ss_quo rfl rfl q7) rfl ?_
      obtain ⟨q8, h⟩ := h
      refine rd_s rfl rfl trivial (ss_idxL rfl rfl q8) rfl ?_
      refine rd_s rfl rfl trivial (ss_move rfl) rfl ?_
      refine rd_s rfl rfl trivial (ss_move rfl) rfl ?_
      obtain ⟨q9, h⟩ := h
      refine rd_s rfl rfl trivial (ss_quo rfl rfl q9) rfl ?_
      refine rd_s rfl rfl trivial (ss_move rfl) rfl ?_
      refine rd_s rfl rfl trivial (ss_move rfl) rfl ?_
      refine rd_s rfl rfl trivial (ss_move rfl) rfl ?_
      refine rd_s rfl rfl trivial (ss_move rfl) rfl ?_
      obtain ⟨q10, h⟩ := h
      refine rd_s rfl rfl trivial (ss_rem rfl rfl q10) rfl ?_
      obtain ⟨q11, h⟩ := h
      refine rd_s rfl rfl trivial (ss_idxL rfl rfl q11) rfl ?_
      refine rd_s rfl rfl trivial (ss_move rfl) rfl ?_
      refine rd_s rfl rfl trivial (ss_move rfl) rfl ?_
      obtain ⟨q12, h⟩ := h
      refine rd_s rfl rfl trivial (ss_rem rfl rfl q12) rfl ?_
      refine rd_l rfl rfl trivial (ss_loadL (f := (fun r => C.lst (ints r))) rfl q8) rfl ?_
      obtain ⟨q13, h⟩ := h
      refine rd_s rfl rfl trivial (ss_idxL rfl rfl q13) rfl ?_
      refine rd_l rfl rfl trivial (ss_loadL (f := ci) rfl q13) rfl ?_
      obtain ⟨q14, h⟩ := h
      refine rd_s rfl rfl trivial (ss_mul rfl rfl q14) rfl ?_
      refine rd_l rfl rfl trivial (ss_loadL (f := (fun r => C.lst (ints r))) rfl q11) rfl ?_
      obtain ⟨q15, h⟩ := h
      refine rd_s rfl rfl trivial (ss_idxL rfl rfl q15) rfl ?_
      refine rd_l rfl rfl trivial (ss_loadL (f := ci) rfl q15) rfl ?_
      obtain ⟨q16, h⟩ := h
      refine rd_s rfl rfl trivial (ss_add rfl rfl q16) rfl ?_
      refine rd_w rfl rfl trivial rfl rfl (ws_buildSlice (id := 57) (ps := [(0, .tmp 56)]) rfl rfl (Nat.le_of_ble_eq_true rfl) rfl ⟨rfl, ?_⟩)
      obtain ⟨q17, h⟩ := h
      refine rd_w rfl rfl trivial rfl rfl (ws_app1 ci (l := o23_2) (m := [((el (el a (v8_1 / (b.length : Int))) (v10_2 / (b.length : Int))) * (b.length : Int)) + (el (el b (v8_1 % (b.length : Int))) (v10_2 % (b.length : Int)))]) rfl rfl rfl rfl rfl (Nat.le_of_ble_eq_true rfl) q17 ⟨rfl, ?_⟩)
      refine rd_s rfl rfl trivial (ss_assign rfl) rfl ?_
      refine rd_nil ?_
      refine aw_gh (gh_to (n := 64) (σ' := [(23, ⟨ints (o23_2 ++ ([((el (el a (v8_1 / (b.length : Int))) (v10_2 / (b.length : Int))) * (b.length : Int)) + (el (el b (v8_1 % (b.length : Int))) (v10_2 % (b.length : Int)))])), []⟩), (15, ⟨orows o15_1, []⟩)]) (env' := [(0, .c (.lst (rows a))), (1, .c (.lst (rows b))), (5, .c (ci (a.length : Int))), (6, .c (ci (b.length : Int))), (7, .ref 15), (8, .c (ci v8_1)), (9, .ref 23), (10, .c (ci v10_2))]) rfl rfl ⟨rfl, rfl, rfl, rfl, rfl, rfl, rfl, rfl, trivial⟩) ?_
      refine aw_region ?_
      refine run_s (ss_move rfl) rfl ?_
      obtain ⟨q18, h⟩ := h
      refine run_s (ss_add rfl rfl q18) rfl ?_
      refine run_s (ss_assign rfl) rfl ?_
      refine run_nil ?_
      exact ⟨v10_2 + 1, o23_2 ++ ([((el (el a (v8_1 / (b.length : Int))) (v10_2 / (b.length : Int))) * (b.length : Int)) + (el (el b (v8_1 % (b.length : Int))) (v10_2 % (b.length : Int)))]), ghe_to (n := 64) rfl rfl ⟨rfl, rfl, rfl, rfl, rfl, rfl, rfl, rfl, trivial⟩, h.1, h.2⟩
    · replace h := h.2 (of_decide_eq_false q6)
      refine aw_exit ?_
      refine aw_region ?_
      refine run_s (ss_move rfl) rfl ?_
      refine run_s (ss_move rfl) rfl ?_
      refine run_w (ws_buildSlice (id := 61) (ps := [(0, .tmp 60)]) rfl rfl (Nat.le_of_ble_eq_true rfl) rfl ⟨rfl, ?_⟩)
      refine run_gh (gh_fill (id := 61) (id2 := 23) (j := 0) rfl rfl (Nat.le_of_ble_eq_true rfl) rfl rfl rfl) ?_
      obtain ⟨q19, h⟩ := h
      refine run_w (ws_app1 (fun r => C.own (ints r)) (l := o15_1) (m := [o23_2]) rfl rfl rfl rfl rfl (Nat.le_of_ble_eq_true rfl) q19 ⟨rfl, ?_⟩)
      refine run_s (ss_assign rfl) rfl ?_
      refine run_nil ?_
      refine aw_gh (gh_to (n := 64) (σ' := [(15, ⟨orows (o15_1 ++ ([o23_2])), []⟩)]) (env' := [(0, .c (.lst (rows a))), (1, .c (.lst (rows b))), (5, .c (ci (a.length : Int))), (6, .c (ci (b.length : Int))), (7, .ref 15), (8, .c (ci v8_1))]) rfl rfl ⟨rfl, rfl, rfl, rfl, rfl, rfl, trivial⟩) ?_
      refine aw_region ?_
      refine run_s (ss_move rfl) rfl ?_
      obtain ⟨q20, h⟩ := h
      refine run_s (ss_add rfl rfl q20) rfl ?_
      refine run_s (ss_assign rfl) rfl ?_
      refine run_nil ?_
      exact ⟨v8_1 + 1, o15_1 ++ ([o23_2]), ghe_to (n := 64) rfl rfl ⟨rfl, rfl, rfl, rfl, rfl, rfl, trivial⟩, h.1, h.2⟩
  · replace h := h.2 (of_decide_eq_false q3)
    refine aw_exit ?_
    refine aw_seq ?_
    refine aw_gh (gh_to (n := 64) (σ' := [(15, ⟨orows o15_1, []⟩)]) (env' := [(7, .ref 15)]) rfl rfl ⟨rfl, trivial⟩) ?_
    refine aw_region ?_
    refine run_s (ss_move rfl) rfl ?_
    refine run_s (ss_assign rfl) rfl ?_
    refine run_nil ?_
    refine aw_ret ?_
    exact retAF_mk (retv1 rfl (rv_tmp rfl)) rfl rfl ⟨_, (cle_refl _), _, h, rfl⟩

theorem c_spec_l04Product (a : List (List Int)) (b : List (List Int)) (hp : isTab a = true ∧ isTab b = true) : AF Try.prog 109 [.lst (rows a), .lst (rows b)] (fun R_ => R_ = .own (orows (proT a b))) :=
  (w_spec_l04Product a b (fun y0 => y0 = proT a b) (p_spec_l04Product a b hp)).mono (by rintro r ⟨_, rfl, rfl⟩; rfl)

set_option maxRecDepth 100000 in
set_option maxHeartbeats 4000000 in
theorem w_impl_UnionRack_1 (x : Int) (y : Int) (n : Int) (r : List (List Int)) (s : List (List Int)) (Q : Int → Prop) (h : wp_impl_UnionRack_1 x y n r s Q) : AF Try.prog 110 [ci x, ci y, .ptr [ci n], .ptr [.lst (rows r)], .ptr [.lst (rows s)]] (fun R_ => ∃ y0, Q y0 ∧ R_ = ci y0) := by
  refine AF.ofWQ (af_enter (n := 49) Try.func110 rfl (by rfl) rfl (Nat.le_of_ble_eq_true rfl) ?_)
  unfold wp_impl_UnionRack_1 at h
  refine aw_seq ?_
  refine aw_gh (gh_to (n := 49) (σ' := []) (env' := [(0, .c (ci x)), (1, .c (ci y)), (2, .c (.ptr [ci n])), (3, .c (.ptr [.lst (rows r)])), (4, .c (.ptr [.lst (rows s)]))]) rfl rfl ⟨rfl, rfl, rfl, rfl, rfl, trivial⟩) ?_
  refine aw_region ?_
  refine run_s (ss_assign rfl) rfl ?_
  refine run_nil ?_
  refine aw_seq ?_
  refine aw_block ?_
  refine aw_seq ?_
  refine aw_region ?_
  refine run_s (ss_move rfl) rfl ?_
  refine run_s (ss_load_ptr rfl rfl) rfl ?_
  refine run_s (ss_lss rfl rfl) rfl ?_
  refine run_s (ss_move rfl) rfl ?_
  refine run_split (s := 12) rfl (fun q1 => ?_) (fun q1 => ?_)
  · replace h := h.1 (of_decide_eq_true q1)
    refine run_gt rfl rfl q1 ?_
    refine run_s (ss_move rfl) rfl ?_
    refine run_gt rfl rfl q1 ?_
    refine run_s (ss_load_ptr rfl rfl) rfl ?_
    refine run_gt rfl rfl q1 ?_
    refine run_s (ss_lss rfl rfl) rfl ?_
    refine run_s (ss_pickT rfl q1 rfl) rfl ?_
    refine run_s (ss_assign rfl) rfl ?_
    refine run_nil ?_
    refine aw_cond rfl (fun q2 => ?_) (fun q2 => ?_)
    · replace h := h.1 (of_decide_eq_true q2)
      refine aw_seq ?_
      refine aw_gh (gh_to (n := 49) (σ' := []) (env' := [(0, .c (ci x)), (1, .c (ci y)), (3, .c (.ptr [.lst (rows r)])), (7, .c (ci 0))]) rfl rfl ⟨rfl, rfl, rfl, rfl, trivial⟩) ?_
      refine aw_region ?_
      refine run_s (ss_field_ptr rfl) rfl ?_
      refine run_s (ss_load_ptr rfl rfl) rfl ?_
      refine run_s (ss_move rfl) rfl ?_
      obtain ⟨q3, h⟩ := h
      refine run_s (ss_idxL rfl rfl q3) rfl ?_
      refine run_s (ss_loadL (f := (fun r => C.lst (ints r))) rfl q3) rfl ?_
      refine run_s (ss_move rfl) rfl ?_
      obtain ⟨q4, h⟩ := h
      refine run_s (ss_idxL rfl rfl q4) rfl ?_
      refine run_s (ss_loadL (f := ci) rfl q4) rfl ?_
      refine run_s (ss_assign rfl) rfl ?_
      refine run_nil ?_
      refine aw_ret ?_
      exact retAF_mk (retv1 rfl (rv_tmp rfl)) rfl rfl ⟨_, (cle_refl _), _, h, rfl⟩
    · replace h := h.2 (of_decide_eq_false q2)
      refine aw_seq ?_
      refine aw_region ?_
      refine run_s (ss_move rfl) rfl ?_
      refine run_s (ss_load_ptr rfl rfl) rfl ?_
      refine run_s (ss_geq rfl rfl) rfl ?_
      refine run_s (ss_move rfl) rfl ?_
      refine run_split (s := 29) rfl (fun q5 => ?_) (fun q5 => ?_)
      · replace h := h.1 (of_decide_eq_true q5)
        refine run_gt rfl rfl q5 ?_
        refine run_s (ss_move rfl) rfl ?_
        refine run_gt rfl rfl q5 ?_
        refine run_s (ss_load_ptr rfl rfl) rfl ?_
        refine run_gt rfl rfl q5 ?_
        refine run_s (ss_geq rfl rfl) rfl ?_
        refine run_s (ss_pickT rfl q5 rfl) rfl ?_
        refine run_s (ss_assign rfl) rfl ?_
        refine run_nil ?_
        refine aw_cond rfl (fun q6 => ?_) (fun q6 => ?_)
        · replace h := h.1 (of_decide_eq_true q6)
          refine aw_seq ?_
          refine aw_gh (gh_to (n := 49) (σ' := []) (env' := [(0, .c (ci x)), (1, .c (ci y)), (2, .c (.ptr [ci n])), (4, .c (.ptr [.lst (rows s)])), (7, .c (ci 0))]) rfl rfl ⟨rfl, rfl, rfl, rfl, rfl, trivial⟩) ?_
          refine aw_regionD (kd := kdl [1, 0, 1, 0, 1, 0, 0, 1, 0, 1, 0, 0, 1, 0, 0]) (ord := [1, 3, 8, 0, 2, 4, 5, 6, 7, 9, 10, 11, 12, 13, 14]) [] mixed (by kernel_rfl) ?_
          refine rd_s rfl rfl trivial (ss_field_ptr rfl) rfl ?_
          refine rd_s rfl rfl trivial (ss_move rfl) rfl ?_
          refine rd_s rfl rfl trivial (ss_move rfl) rfl ?_
          refine rd_l rfl rfl trivial (ss_load_ptr rfl rfl) rfl ?_
          refine rd_l rfl rfl trivial (ss_load_ptr rfl rfl) rfl ?_
          refine rd_l rfl rfl trivial (ss_load_ptr rfl rfl) rfl ?_
          obtain ⟨q7, h⟩ := h
          refine rd_s rfl rfl trivial (ss_sub rfl rfl q7) rfl ?_
          obtain ⟨q8, h⟩ := h
          refine rd_s rfl rfl trivial (ss_idxL rfl rfl q8) rfl ?_
          refine rd_l rfl rfl trivial (ss_loadL (f := (fun r => C.lst (ints r))) rfl q8) rfl ?_
          refine rd_l rfl rfl trivial (ss_load_ptr rfl rfl) rfl ?_
          obtain ⟨q9, h⟩ := h
          refine rd_s rfl rfl trivial (ss_sub rfl rfl q9) rfl ?_
          obtain ⟨q10, h⟩ := h
          refine rd_s rfl rfl trivial (ss_idxL rfl rfl q10) rfl ?_
          refine rd_l rfl rfl trivial (ss_loadL (f := ci) rfl q10) rfl ?_
          obtain ⟨q11, h⟩ := h
          refine rd_s rfl rfl trivial (ss_add rfl rfl q11) rfl ?_
          refine rd_s rfl rfl trivial (ss_assign rfl) rfl ?_
          refine rd_nil ?_
          refine aw_ret ?_
          exact retAF_mk (retv1 rfl (rv_tmp rfl)) rfl rfl ⟨_, (cle_refl _), _, h, rfl⟩
        · replace h := h.2 (of_decide_eq_false q6)
          refine aw_skip ?_
          refine aw_seq ?_
          refine aw_gh (gh_to (n := 49) (σ' := []) (env' := [(1, .c (ci y)), (7, .c (ci 0))]) rfl rfl ⟨rfl, rfl, trivial⟩) ?_
          refine aw_region ?_
          refine run_s (ss_move rfl) rfl ?_
          refine run_s (ss_assign rfl) rfl ?_
          refine run_nil ?_
          refine aw_ret ?_
          exact retAF_mk (retv1 rfl (rv_tmp rfl)) rfl rfl ⟨_, (cle_refl _), _, h, rfl⟩
      · replace h := h.2 (of_decide_eq_false q5)
        refine run_gf rfl rfl q5 rfl ?_
        refine run_gf rfl rfl q5 rfl ?_
        refine run_gf rfl rfl q5 rfl ?_
        refine run_s (ss_pickF rfl q5 rfl) rfl ?_
        refine run_s (ss_assign rfl) rfl ?_
        refine run_nil ?_
        refine aw_cond rfl (fun q12 => ?_) (fun q12 => ?_)
        · cases q12
        · skip
          refine aw_skip ?_
          refine aw_seq ?_
          refine aw_gh (gh_to (n := 49) (σ' := []) (env' := [(1, .c (ci y)), (7, .c (ci 0))]) rfl rfl ⟨rfl, rfl, trivial⟩) ?_
          refine aw_region ?_
          refine run_s (ss_move rfl) rfl ?_
          refine run_s (ss_assign rfl) rfl ?_
          refine run_nil ?_
          refine aw_ret ?_
          exact retAF_mk (retv1 rfl (rv_tmp rfl)) rfl rfl ⟨_, (cle_refl _), _, h, rfl⟩
  · replace h := h.2 (of_decide_eq_false q1)
    refine run_gf rfl rfl q1 rfl ?_
    refine run_gf rfl rfl q1 rfl ?_
    refine run_gf rfl rfl q1 rfl ?_
    refine run_s (ss_pickF rfl q1 rfl) rfl ?_
    refine run_s (ss_assign rfl) rfl ?_
    refine run_nil ?_
    refine aw_cond rfl (fun q13 => ?_) (fun q13 => ?_)
    · cases q13
    · skip
      refine aw_seq ?_
      refine aw_region ?_
      refine run_s (ss_move rfl) rfl ?_
      refine run_s (ss_load_ptr rfl rfl) rfl ?_
      refine run_s (ss_geq rfl rfl) rfl ?_
      refine run_s (ss_move rfl) rfl ?_
      refine run_split (s := 29) rfl (fun q14 => ?_) (fun q14 => ?_)
      · replace h := h.1 (of_decide_eq_true q14)
        refine run_gt rfl rfl q14 ?_
        refine run_s (ss_move rfl) rfl ?_
        refine run_gt rfl rfl q14 ?_
        refine run_s (ss_load_ptr rfl rfl) rfl ?_
        refine run_gt rfl rfl q14 ?_
        refine run_s (ss_geq rfl rfl) rfl ?_
        refine run_s (ss_pickT rfl q14 rfl) rfl ?_
        refine run_s (ss_assign rfl) rfl ?_
        refine run_nil ?_
        refine aw_cond rfl (fun q15 => ?_) (fun q15 => ?_)
        · replace h := h.1 (of_decide_eq_true q15)
          refine aw_seq ?_
          refine aw_gh (gh_to (n := 49) (σ' := []) (env' := [(0, .c (ci x)), (1, .c (ci y)), (2, .c (.ptr [ci n])), (4, .c (.ptr [.lst (rows s)])), (7, .c (ci 0))]) rfl rfl ⟨rfl, rfl, rfl, rfl, rfl, trivial⟩) ?_
          refine aw_regionD (kd := kdl [1, 0, 1, 0, 1, 0, 0, 1, 0, 1, 0, 0, 1, 0, 0]) (ord := [1, 3, 8, 0, 2, 4, 5, 6, 7, 9, 10, 11, 12, 13, 14]) [] mixed (by kernel_rfl) ?_
          refine rd_s rfl rfl trivial (ss_field_ptr rfl) rfl ?_
          refine rd_s rfl rfl trivial (ss_move rfl) rfl ?_
          refine rd_s rfl rfl trivial (ss_move rfl) rfl ?_
          refine rd_l rfl rfl trivial (ss_load_ptr rfl rfl) rfl ?_
          refine rd_l rfl rfl trivial (ss_load_ptr rfl rfl) rfl ?_
          refine rd_l rfl rfl trivial (ss_load_ptr rfl rfl) rfl ?_
          obtain ⟨q16, h⟩ := h
          refine rd_s rfl rfl trivial (ss_sub rfl rfl q16) rfl ?_
          obtain ⟨q17, h⟩ := h
          refine rd_s rfl rfl trivial (ss_idxL rfl rfl q17) rfl ?_
          refine rd_l rfl rfl trivial (ss_loadL (f := (fun r => C.lst (ints r))) rfl q17) rfl ?_
          refine rd_l rfl rfl trivial (ss_load_ptr rfl rfl) rfl ?_
          obtain ⟨q18, h⟩ := h
          refine rd_s rfl rfl trivial (ss_sub rfl rfl q18) rfl ?_
          obtain ⟨q19, h⟩ := h
          refine rd_s rfl rfl trivial (ss_idxL rfl rfl q19) rfl ?_
          refine rd_l rfl rfl trivial (ss_loadL (f := ci) rfl q19) rfl ?_
          obtain ⟨q20, h⟩ := h
          refine rd_s rfl rfl trivial (ss_add rfl rfl q20) rfl ?_
          refine rd_s rfl rfl trivial (ss_assign rfl) rfl ?_
          refine rd_nil ?_
          refine aw_ret ?_
          exact retAF_mk (retv1 rfl (rv_tmp rfl)) rfl rfl ⟨_, (cle_refl _), _, h, rfl⟩
        · replace h := h.2 (of_decide_eq_false q15)
          refine aw_skip ?_
          refine aw_seq ?_
          refine aw_gh (gh_to (n := 49) (σ' := []) (env' := [(1, .c (ci y)), (7, .c (ci 0))]) rfl rfl ⟨rfl, rfl, trivial⟩) ?_
          refine aw_region ?_
          refine run_s (ss_move rfl) rfl ?_
          refine run_s (ss_assign rfl) rfl ?_
          refine run_nil ?_
          refine aw_ret ?_
          exact retAF_mk (retv1 rfl (rv_tmp rfl)) rfl rfl ⟨_, (cle_refl _), _, h, rfl⟩
      · replace h := h.2 (of_decide_eq_false q14)
        refine run_gf rfl rfl q14 rfl ?_
        refine run_gf rfl rfl q14 rfl ?_
        refine run_gf rfl rfl q14 rfl ?_
        refine run_s (ss_pickF rfl q14 rfl) rfl ?_
        refine run_s (ss_assign rfl) rfl ?_
        refine run_nil ?_
        refine aw_cond rfl (fun q21 => ?_) (fun q21 => ?_)
        · cases q21
        · skip
          refine aw_skip ?_
          refine aw_seq ?_
          refine aw_gh (gh_to (n := 49) (σ' := []) (env' := [(1, .c (ci y)), (7, .c (ci 0))]) rfl rfl ⟨rfl, rfl, trivial⟩) ?_
          refine aw_region ?_
          refine run_s (ss_move rfl) rfl ?_
          refine run_s (ss_assign rfl) rfl ?_
          refine run_nil ?_
          refine aw_ret ?_
          exact retAF_mk (retv1 rfl (rv_tmp rfl)) rfl rfl ⟨_, (cle_refl _), _, h, rfl⟩

theorem c_impl_UnionRack_1 (x : Int) (y : Int) (n : Int) (r : List (List Int)) (s : List (List Int)) (hp : isTab r = true ∧ isTab s = true ∧ n = (r.length : Int) ∧ 0 ≤ x ∧ x < (r.length : Int) + (s.length : Int) ∧ 0 ≤ y ∧ y < (r.length : Int) + (s.length : Int)) : AF Try.prog 110 [ci x, ci y, .ptr [ci n], .ptr [.lst (rows r)], .ptr [.lst (rows s)]] (fun R_ => R_ = ci (uniV r s x y)) :=
  (w_impl_UnionRack_1 x y n r s (fun y0 => y0 = uniV r s x y) (p_impl_UnionRack_1 x y n r s hp)).mono (by rintro r ⟨_, rfl, rfl⟩; rfl)

set_option maxRecDepth 100000 in
set_option maxHeartbeats 4000000 in
theorem w_spec_ProductRack (r : List (List Int)) (s : List (List Int)) (Q : List (List Int) → Int → Prop) (h : wp_spec_ProductRack r s Q) : AF Try.prog 35 [.agg [.lst (rows r)], .agg [.lst (rows s)]] (fun R_ => ∃ y0 y1, Q y0 y1 ∧ R_ = .tup [.agg [.own (orows y0)], ci y1]) := by
  refine AF.ofWQ (af_enter (n := 32) Try.func35 rfl (by rfl) rfl (Nat.le_of_ble_eq_true rfl) ?_)
  unfold wp_spec_ProductRack at h
  refine aw_seq ?_
  refine aw_gh (gh_to (n := 32) (σ' := []) (env' := [(0, .c (.agg [.lst (rows r)])), (1, .c (.agg [.lst (rows s)]))]) rfl rfl ⟨rfl, rfl, trivial⟩) ?_
  refine aw_region ?_
  refine run_w (ws_boxR rfl (.inl rfl) rfl ⟨rfl, ?_⟩)
  refine run_w (ws_boxR rfl (.inl rfl) rfl ⟨rfl, ?_⟩)
  refine run_w (ws_alloc (id := 4) rfl (Nat.le_of_ble_eq_true rfl) ⟨rfl, ?_⟩)
  refine run_s (ss_assign rfl) rfl ?_
  refine run_nil ?_
  refine aw_seq ?_
  refine aw_block ?_
  refine aw_seq ?_
  refine aw_region ?_
  refine run_s (ss_load_struct rfl (Nat.le_of_ble_eq_true rfl)) rfl ?_
  obtain ⟨q1, h⟩ := h
  refine run_w (ws_call (xs := [.tmp 7]) (ids := []) rfl rfl rfl rfl (c_spec_l03Is r q1) rfl ?_ )
  rintro _ rfl
  refine ⟨rfl, ?_⟩
  refine run_s (ss_not rfl) rfl ?_
  refine run_s (ss_move rfl) rfl ?_
  refine run_split (s := 10) rfl (fun q3 => ?_) (fun q3 => ?_)
  · replace h := h.1 ((bnot_t q3))
    refine run_gf rfl rfl q3 rfl ?_
    refine run_gf rfl rfl q3 rfl ?_
    refine run_gf rfl rfl q3 rfl ?_
    refine run_s (ss_pickT rfl q3 rfl) rfl ?_
    refine run_s (ss_assign rfl) rfl ?_
    refine run_nil ?_
    refine aw_cond rfl (fun q4 => ?_) (fun q4 => ?_)
    · skip
      refine aw_seq ?_
      refine aw_gh (gh_to (n := 32) (σ' := [(4, ⟨[cnil], []⟩)]) (env' := [(4, .cell 4 0), (5, .c (ci 0))]) rfl rfl ⟨rfl, rfl, trivial⟩) ?_
      refine aw_region ?_
      refine run_s (ss_build0) rfl ?_
      refine run_w (ws_storeS rfl rfl (Nat.le_of_ble_eq_true rfl) rfl rfl rfl ⟨rfl, ?_⟩)
      refine run_s (ss_assign rfl) rfl ?_
      refine run_nil ?_
      refine aw_ret ?_
      exact retAF_mk (retv2 rfl (rv_struct rfl rfl rfl) (rv_tmp rfl)) rfl rfl ⟨_, (cle_tup (cleL_cons (cle_agg (cleL_cons cle_nilO cleL_nil)) (cleL_cons (cle_refl _) cleL_nil))), _, _, h, rfl⟩
    · cases q4
  · replace h := h.2 ((bnot_f q3))
    refine run_gt rfl rfl q3 ?_
    refine run_s (ss_load_struct rfl (Nat.le_of_ble_eq_true rfl)) rfl ?_
    refine run_gt rfl rfl q3 ?_
    obtain ⟨q5, h⟩ := h
    refine run_w (ws_call (xs := [.tmp 11]) (ids := []) rfl rfl rfl rfl (c_spec_l03Is s q5) rfl ?_ )
    rintro _ rfl
    refine ⟨rfl, ?_⟩
    refine run_gt rfl rfl q3 ?_
    refine run_s (ss_not rfl) rfl ?_
    refine run_s (ss_pickF rfl q3 rfl) rfl ?_
    refine run_s (ss_assign rfl) rfl ?_
    refine run_nil ?_
    refine aw_cond rfl (fun q7 => ?_) (fun q7 => ?_)
    · replace h := h.1 ((bnot_t q7))
      refine aw_seq ?_
      refine aw_gh (gh_to (n := 32) (σ' := [(4, ⟨[cnil], []⟩)]) (env' := [(4, .cell 4 0), (5, .c (ci 0))]) rfl rfl ⟨rfl, rfl, trivial⟩) ?_
      refine aw_region ?_
      refine run_s (ss_build0) rfl ?_
      refine run_w (ws_storeS rfl rfl (Nat.le_of_ble_eq_true rfl) rfl rfl rfl ⟨rfl, ?_⟩)
      refine run_s (ss_assign rfl) rfl ?_
      refine run_nil ?_
      refine aw_ret ?_
      exact retAF_mk (retv2 rfl (rv_struct rfl rfl rfl) (rv_tmp rfl)) rfl rfl ⟨_, (cle_tup (cleL_cons (cle_agg (cleL_cons cle_nilO cleL_nil)) (cleL_cons (cle_refl _) cleL_nil))), _, _, h, rfl⟩
    · replace h := h.2 ((bnot_f q7))
      refine aw_seq ?_
      refine aw_gh (gh_to (n := 32) (σ' := [(4, ⟨[cnil], []⟩)]) (env' := [(2, .c (.ptr [.lst (rows r)])), (3, .c (.ptr [.lst (rows s)])), (4, .cell 4 0)]) rfl rfl ⟨rfl, rfl, rfl, trivial⟩) ?_
      refine aw_region ?_
      refine run_s (ss_field_ptr rfl) rfl ?_
      refine run_s (ss_load_ptr rfl rfl) rfl ?_
      refine run_s (ss_lenL (f := (fun r => C.lst (ints r))) rfl) rfl ?_
      refine run_s (ss_field_ptr rfl) rfl ?_
      refine run_s (ss_load_ptr rfl rfl) rfl ?_
      refine run_s (ss_lenL (f := (fun r => C.lst (ints r))) rfl) rfl ?_
      obtain ⟨q8, h⟩ := h
      refine run_s (ss_mul rfl rfl q8) rfl ?_
      refine run_s (ss_gtr rfl rfl) rfl ?_
      refine run_s (ss_assign rfl) rfl ?_
      refine run_nil ?_
      refine aw_cond rfl (fun q9 => ?_) (fun q9 => ?_)
      · replace h := h.1 (of_decide_eq_true q9)
        refine aw_seq ?_
        refine aw_gh (gh_to (n := 32) (σ' := [(4, ⟨[cnil], []⟩)]) (env' := [(4, .cell 4 0)]) rfl rfl ⟨rfl, trivial⟩) ?_
        refine aw_region ?_
        refine run_s (ss_build0) rfl ?_
        refine run_w (ws_storeS rfl rfl (Nat.le_of_ble_eq_true rfl) rfl rfl rfl ⟨rfl, ?_⟩)
        refine run_s (ss_assign rfl) rfl ?_
        refine run_nil ?_
        refine aw_ret ?_
        exact retAF_mk (retv2 rfl (rv_struct rfl rfl rfl) (rv_tmp rfl)) rfl rfl ⟨_, (cle_tup (cleL_cons (cle_agg (cleL_cons cle_nilO cleL_nil)) (cleL_cons (cle_refl _) cleL_nil))), _, _, h, rfl⟩
      · replace h := h.2 (of_decide_eq_false q9)
        refine aw_skip ?_
        refine aw_seq ?_
        refine aw_region ?_
        refine run_s (ss_field_ptr rfl) rfl ?_
        refine run_s (ss_load_ptr rfl rfl) rfl ?_
        refine run_s (ss_field_ptr rfl) rfl ?_
        refine run_s (ss_load_ptr rfl rfl) rfl ?_
        obtain ⟨q10, h⟩ := h
        refine run_w (ws_call (xs := [.tmp 27, .tmp 29]) (ids := [30]) rfl rfl rfl rfl (c_spec_l04Product r s q10) rfl ?_ )
        rintro _ rfl
        refine ⟨rfl, ?_⟩
        refine run_s (ss_build (ps := [(0, .tmp 30)]) rfl rfl) rfl ?_
        refine run_w (ws_storeS rfl rfl (Nat.le_of_ble_eq_true rfl) rfl rfl rfl ⟨rfl, ?_⟩)
        refine run_s (ss_assign rfl) rfl ?_
        refine run_nil ?_
        refine aw_ret ?_
        exact retAF_mk (retv2 rfl (rv_struct rfl rfl rfl) (rv_tmp rfl)) rfl rfl ⟨_, (cle_refl _), _, _, h, rfl⟩

theorem c_spec_ProductRack (r : List (List Int)) (s : List (List Int)) (hp : small2 r ∧ small2 s) : AF Try.prog 35 [.agg [.lst (rows r)], .agg [.lst (rows s)]] (fun R_ => R_ = .tup [.agg [.own (orows (ProT r s))], ci (ProE r s)]) :=
  (w_spec_ProductRack r s (fun y0 y1 => y0 = ProT r s ∧ y1 = ProE r s) (p_spec_ProductRack r s hp)).mono (by rintro r ⟨_, _, ⟨rfl, rfl⟩, rfl⟩; rfl)

set_option maxRecDepth 100000 in
set_option maxHeartbeats 4000000 in
theorem w_spec_UnionRack (r : List (List Int)) (s : List (List Int)) (Q : List (List Int) → Int → Prop) (h : wp_spec_UnionRack r s Q) : AF Try.prog 37 [.agg [.lst (rows r)], .agg [.lst (rows s)]] (fun R_ => ∃ y0 y1, Q y0 y1 ∧ R_ = .tup [.agg [.own (orows y0)], ci y1]) := by
  refine AF.ofWQ (af_enter (n := 111) Try.func37 rfl (by rfl) rfl (Nat.le_of_ble_eq_true rfl) ?_)
  unfold wp_spec_UnionRack at h
  refine aw_seq ?_
  refine aw_gh (gh_to (n := 111) (σ' := []) (env' := [(0, .c (.agg [.lst (rows r)])), (1, .c (.agg [.lst (rows s)]))]) rfl rfl ⟨rfl, rfl, trivial⟩) ?_
  refine aw_region ?_
  refine run_w (ws_boxR rfl (.inl rfl) rfl ⟨rfl, ?_⟩)
  refine run_w (ws_boxR rfl (.inl rfl) rfl ⟨rfl, ?_⟩)
  refine run_w (ws_alloc (id := 4) rfl (Nat.le_of_ble_eq_true rfl) ⟨rfl, ?_⟩)
  refine run_s (ss_assign rfl) rfl ?_
  refine run_nil ?_
  refine aw_seq ?_
  refine aw_block ?_
  refine aw_seq ?_
  refine aw_region ?_
  refine run_s (ss_load_struct rfl (Nat.le_of_ble_eq_true rfl)) rfl ?_
  obtain ⟨q1, h⟩ := h
  refine run_w (ws_call (xs := [.tmp 13]) (ids := []) rfl rfl rfl rfl (c_spec_l03Is r q1) rfl ?_ )
  rintro _ rfl
  refine ⟨rfl, ?_⟩
  refine run_s (ss_not rfl) rfl ?_
  refine run_s (ss_move rfl) rfl ?_
  refine run_split (s := 16) rfl (fun q3 => ?_) (fun q3 => ?_)
  · replace h := h.1 ((bnot_t q3))
    refine run_gf rfl rfl q3 rfl ?_
    refine run_gf rfl rfl q3 rfl ?_
    refine run_gf rfl rfl q3 rfl ?_
    refine run_s (ss_pickT rfl q3 rfl) rfl ?_
    refine run_s (ss_assign rfl) rfl ?_
    refine run_nil ?_
    refine aw_cond rfl (fun q4 => ?_) (fun q4 => ?_)
    · skip
      refine aw_seq ?_
      refine aw_gh (gh_to (n := 111) (σ' := [(4, ⟨[cnil], []⟩)]) (env' := [(4, .cell 4 0), (5, .c (ci 0))]) rfl rfl ⟨rfl, rfl, trivial⟩) ?_
      refine aw_region ?_
      refine run_s (ss_build0) rfl ?_
      refine run_w (ws_storeS rfl rfl (Nat.le_of_ble_eq_true rfl) rfl rfl rfl ⟨rfl, ?_⟩)
      refine run_s (ss_assign rfl) rfl ?_
      refine run_nil ?_
      refine aw_ret ?_
      exact retAF_mk (retv2 rfl (rv_struct rfl rfl rfl) (rv_tmp rfl)) rfl rfl ⟨_, (cle_tup (cleL_cons (cle_agg (cleL_cons cle_nilO cleL_nil)) (cleL_cons (cle_refl _) cleL_nil))), _, _, h, rfl⟩
    · cases q4
  · replace h := h.2 ((bnot_f q3))
    refine run_gt rfl rfl q3 ?_
    refine run_s (ss_load_struct rfl (Nat.le_of_ble_eq_true rfl)) rfl ?_
    refine run_gt rfl rfl q3 ?_
    obtain ⟨q5, h⟩ := h
    refine run_w (ws_call (xs := [.tmp 17]) (ids := []) rfl rfl rfl rfl (c_spec_l03Is s q5) rfl ?_ )
    rintro _ rfl
    refine ⟨rfl, ?_⟩
    refine run_gt rfl rfl q3 ?_
    refine run_s (ss_not rfl) rfl ?_
    refine run_s (ss_pickF rfl q3 rfl) rfl ?_
    refine run_s (ss_assign rfl) rfl ?_
    refine run_nil ?_
    refine aw_cond rfl (fun q7 => ?_) (fun q7 => ?_)
    · replace h := h.1 ((bnot_t q7))
      refine aw_seq ?_
      refine aw_gh (gh_to (n := 111) (σ' := [(4, ⟨[cnil], []⟩)]) (env' := [(4, .cell 4 0), (5, .c (ci 0))]) rfl rfl ⟨rfl, rfl, trivial⟩) ?_
      refine aw_region ?_
      refine run_s (ss_build0) rfl ?_
      refine run_w (ws_storeS rfl rfl (Nat.le_of_ble_eq_true rfl) rfl rfl rfl ⟨rfl, ?_⟩)
      refine run_s (ss_assign rfl) rfl ?_
      refine run_nil ?_
      refine aw_ret ?_
      exact retAF_mk (retv2 rfl (rv_struct rfl rfl rfl) (rv_tmp rfl)) rfl rfl ⟨_, (cle_tup (cleL_cons (cle_agg (cleL_cons cle_nilO cleL_nil)) (cleL_cons (cle_refl _) cleL_nil))), _, _, h, rfl⟩
    · replace h := h.2 ((bnot_f q7))
      refine aw_seq ?_
      refine aw_region ?_
      refine run_s (ss_field_ptr rfl) rfl ?_
      refine run_s (ss_load_ptr rfl rfl) rfl ?_
      refine run_s (ss_lenL (f := (fun r => C.lst (ints r))) rfl) rfl ?_
      refine run_s (ss_field_ptr rfl) rfl ?_
      refine run_s (ss_load_ptr rfl rfl) rfl ?_
      refine run_s (ss_lenL (f := (fun r => C.lst (ints r))) rfl) rfl ?_
      obtain ⟨q8, h⟩ := h
      refine run_s (ss_add rfl rfl q8) rfl ?_
      refine run_s (ss_gtr rfl rfl) rfl ?_
      refine run_s (ss_assign rfl) rfl ?_
      refine run_nil ?_
      refine aw_cond rfl (fun q9 => ?_) (fun q9 => ?_)
      · replace h := h.1 (of_decide_eq_true q9)
        refine aw_seq ?_
        refine aw_gh (gh_to (n := 111) (σ' := [(4, ⟨[cnil], []⟩)]) (env' := [(4, .cell 4 0), (5, .c (ci 0))]) rfl rfl ⟨rfl, rfl, trivial⟩) ?_
        refine aw_region ?_
        refine run_s (ss_build0) rfl ?_
        refine run_w (ws_storeS rfl rfl (Nat.le_of_ble_eq_true rfl) rfl rfl rfl ⟨rfl, ?_⟩)
        refine run_s (ss_assign rfl) rfl ?_
        refine run_nil ?_
        refine aw_ret ?_
        exact retAF_mk (retv2 rfl (rv_struct rfl rfl rfl) (rv_tmp rfl)) rfl rfl ⟨_, (cle_tup (cleL_cons (cle_agg (cleL_cons cle_nilO cleL_nil)) (cleL_cons (cle_refl _) cleL_nil))), _, _, h, rfl⟩
      · replace h := h.2 (of_decide_eq_false q9)
        refine aw_skip ?_
        refine aw_seq ?_
        refine aw_gh (gh_to (n := 111) (σ' := [(4, ⟨[cnil], []⟩)]) (env' := [(2, .c (.ptr [.lst (rows r)])), (3, .c (.ptr [.lst (rows s)])), (4, .cell 4 0)]) rfl rfl ⟨rfl, rfl, rfl, trivial⟩) ?_
        refine aw_regionD (kd := kdl [0, 1, 0, 0, 1, 0, 0, 0]) (ord := [0, 3, 1, 2, 6, 4, 5, 7]) [] mixed (by kernel_rfl) ?_
        refine rd_s rfl rfl trivial (ss_field_ptr rfl) rfl ?_
        refine rd_s rfl rfl trivial (ss_field_ptr rfl) rfl ?_
        refine rd_l rfl rfl trivial (ss_load_ptr rfl rfl) rfl ?_
        refine rd_s rfl rfl trivial (ss_lenL (f := (fun r => C.lst (ints r))) rfl) rfl ?_
        refine rd_s rfl rfl trivial (ss_assign rfl) rfl ?_
        refine rd_l rfl rfl trivial (ss_load_ptr rfl rfl) rfl ?_
        refine rd_s rfl rfl trivial (ss_lenL (f := (fun r => C.lst (ints r))) rfl) rfl ?_
        refine rd_s rfl rfl trivial (ss_assign rfl) rfl ?_
        refine rd_nil ?_
        refine aw_seq ?_
        refine aw_region ?_
        refine run_s (ss_build0) rfl ?_
        refine run_w (ws_alloc (id := 8) rfl (Nat.le_of_ble_eq_true rfl) ⟨rfl, ?_⟩)
        refine run_w (ws_storeS rfl rfl (Nat.le_of_ble_eq_true rfl) rfl rfl rfl ⟨rfl, ?_⟩)
        refine run_nil ?_
        refine aw_seq ?_
        refine aw_seq ?_
        refine aw_region ?_
        refine run_s (ss_assign rfl) rfl ?_
        refine run_nil ?_
        refine aw_block ?_
        obtain ⟨H1, m1, q10, h⟩ := h
        refine aw_loop2 (fun (v9_1 : Int) (o200128_1 : List (List Int)) => ⟨[(200128, ⟨orows o200128_1, []⟩), (8, ⟨[.hole], [(0, .ref 200128)]⟩), (4, ⟨[cnil], []⟩)], [(2, .c (.ptr [.lst (rows r)])), (3, .c (.ptr [.lst (rows s)])), (4, .cell 4 0), (6, .c (ci (r.length : Int))), (7, .c (ci (s.length : Int))), (8, .cell 8 0), (9, .c (ci v9_1))], 111⟩) H1 m1 ⟨0, ([] : List (List Int)), ghe_step (gh_nilH (id0 := 8) (j := 0) (id := 200128) rfl rfl rfl rfl) (ghe_to (n := 111) rfl rfl ⟨rfl, rfl, rfl, rfl, rfl, rfl, rfl, trivial⟩), q10⟩ ?_
        rintro v9_1 o200128_1 q10
        replace h := h v9_1 o200128_1 q10
        refine aw_seq ?_
        refine aw_seq ?_
        refine aw_region ?_
        refine run_s (ss_move rfl) rfl ?_
        refine run_s (ss_move rfl) rfl ?_
        refine run_s (ss_move rfl) rfl ?_
        obtain ⟨q11, h⟩ := h
        refine run_s (ss_add rfl rfl q11) rfl ?_
        refine run_s (ss_lss rfl rfl) rfl ?_
        refine run_nil ?_
        refine aw_cond rfl (fun q12 => ?_) (fun q12 => ?_)
        · replace h := h.1 (of_decide_eq_true q12)
          refine aw_skip ?_
          refine aw_seq ?_
          refine aw_block ?_
          refine aw_seq ?_
          refine aw_region ?_
          refine run_w (ws_buildSlice (id := 46) (ps := []) rfl rfl (Nat.le_of_ble_eq_true rfl) rfl ⟨rfl, ?_⟩)
          refine run_s (ss_assign rfl) rfl ?_
          refine run_nil ?_
          refine aw_seq ?_
          refine aw_seq ?_
          refine aw_region ?_
          refine run_s (ss_assign rfl) rfl ?_
          refine run_nil ?_
          refine aw_block ?_
          obtain ⟨H2, m2, q13, h⟩ := h
          refine aw_loop2 (fun (v11_2 : Int) (o46_2 : List Int) => ⟨[(46, ⟨ints o46_2, []⟩), (200128, ⟨orows o200128_1, []⟩), (8, ⟨[.hole], [(0, .ref 200128)]⟩), (4, ⟨[cnil], []⟩)], [(2, .c (.ptr [.lst (rows r)])), (3, .c (.ptr [.lst (rows s)])), (4, .cell 4 0), (6, .c (ci (r.length : Int))), (7, .c (ci (s.length : Int))), (8, .cell 8 0), (9, .c (ci v9_1)), (10, .ref 46), (11, .c (ci v11_2))], 111⟩) H2 m2 ⟨0, ([] : List Int), ghe_to (n := 111) rfl rfl ⟨rfl, rfl, rfl, rfl, rfl, rfl, rfl, rfl, rfl, trivial⟩, q13⟩ ?_
          rintro v11_2 o46_2 q13
          replace h := h v11_2 o46_2 q13
          refine aw_seq ?_
          refine aw_seq ?_
          refine aw_region ?_
          refine run_s (ss_move rfl) rfl ?_
          refine run_s (ss_move rfl) rfl ?_
          refine run_s (ss_move rfl) rfl ?_
          obtain ⟨q14, h⟩ := h
          refine run_s (ss_add rfl rfl q14) rfl ?_
          refine run_s (ss_lss rfl rfl) rfl ?_
          refine run_nil ?_
          refine aw_cond rfl (fun q15 => ?_) (fun q15 => ?_)
          · replace h := h.1 (of_decide_eq_true q15)
            refine aw_skip ?_
            refine aw_seq ?_
            refine aw_block ?_
            refine aw_block ?_
            refine aw_seq ?_
            refine aw_region ?_
            refine run_s (ss_move rfl) rfl ?_
            refine run_s (ss_move rfl) rfl ?_
            refine run_s (ss_lss rfl rfl) rfl ?_
            refine run_s (ss_move rfl) rfl ?_
            refine run_split (s := 62) rfl (fun q16 => ?_) (fun q16 => ?_)
            · replace h := h.1 (of_decide_eq_true q16)
              refine run_gt rfl rfl q16 ?_
              refine run_s (ss_move rfl) rfl ?_
              refine run_gt rfl rfl q16 ?_
              refine run_s (ss_move rfl) rfl ?_
              refine run_gt rfl rfl q16 ?_
              refine run_s (ss_lss rfl rfl) rfl ?_
              refine run_s (ss_pickT rfl q16 rfl) rfl ?_
              refine run_s (ss_assign rfl) rfl ?_
              refine run_nil ?_
              refine aw_cond rfl (fun q17 => ?_) (fun q17 => ?_)
              · replace h := h.1 (of_decide_eq_true q17)
                refine aw_region ?_
                refine run_s (ss_move rfl) rfl ?_
                refine run_s (ss_field_ptr rfl) rfl ?_
                refine run_s (ss_load_ptr rfl rfl) rfl ?_
                refine run_s (ss_move rfl) rfl ?_
                obtain ⟨q18, h⟩ := h
                refine run_s (ss_idxL rfl rfl q18) rfl ?_
                refine run_s (ss_loadL (f := (fun r => C.lst (ints r))) rfl q18) rfl ?_
                refine run_s (ss_move rfl) rfl ?_
                obtain ⟨q19, h⟩ := h
                refine run_s (ss_idxL rfl rfl q19) rfl ?_
                refine run_s (ss_loadL (f := ci) rfl q19) rfl ?_
                refine run_w (ws_buildSlice (id := 76) (ps := [(0, .tmp 75)]) rfl rfl (Nat.le_of_ble_eq_true rfl) rfl ⟨rfl, ?_⟩)
                obtain ⟨q20, h⟩ := h
                refine run_w (ws_app1 ci (l := o46_2) (m := [el (el r v9_1) v11_2]) rfl rfl rfl rfl rfl (Nat.le_of_ble_eq_true rfl) q20 ⟨rfl, ?_⟩)
                refine run_s (ss_assign rfl) rfl ?_
                refine run_nil ?_
                refine aw_gh (gh_to (n := 111) (σ' := [(46, ⟨ints (o46_2 ++ ([el (el r v9_1) v11_2])), []⟩), (200128, ⟨orows o200128_1, []⟩), (8, ⟨[.hole], [(0, .ref 200128)]⟩), (4, ⟨[cnil], []⟩)]) (env' := [(2, .c (.ptr [.lst (rows r)])), (3, .c (.ptr [.lst (rows s)])), (4, .cell 4 0), (6, .c (ci (r.length : Int))), (7, .c (ci (s.length : Int))), (8, .cell 8 0), (9, .c (ci v9_1)), (10, .ref 46), (11, .c (ci v11_2)), (63, .c (ci v11_2)), (64, .c (ci (r.length : Int))), (65, .c (cb (decide (v11_2 < (r.length : Int)))))]) rfl rfl ⟨rfl, rfl, rfl, rfl, rfl, rfl, rfl, rfl, rfl, rfl, rfl, rfl, trivial⟩) ?_
                refine aw_region ?_
                refine run_s (ss_move rfl) rfl ?_
                obtain ⟨q21, h⟩ := h
                refine run_s (ss_add rfl rfl q21) rfl ?_
                refine run_s (ss_assign rfl) rfl ?_
                refine run_nil ?_
                exact ⟨v11_2 + 1, o46_2 ++ ([el (el r v9_1) v11_2]), ghe_to (n := 111) rfl rfl ⟨rfl, rfl, rfl, rfl, rfl, rfl, rfl, rfl, rfl, trivial⟩, h.1, h.2⟩
              · replace h := h.2 (of_decide_eq_false q17)
                refine aw_seq ?_
                refine aw_region ?_
                refine run_s (ss_move rfl) rfl ?_
                refine run_s (ss_move rfl) rfl ?_
                refine run_s (ss_geq rfl rfl) rfl ?_
                refine run_s (ss_move rfl) rfl ?_
                refine run_split (s := 82) rfl (fun q22 => ?_) (fun q22 => ?_)
                · replace h := h.1 (of_decide_eq_true q22)
                  refine run_gt rfl rfl q22 ?_
                  refine run_s (ss_move rfl) rfl ?_
                  refine run_gt rfl rfl q22 ?_
                  refine run_s (ss_move rfl) rfl ?_
                  refine run_gt rfl rfl q22 ?_
                  refine run_s (ss_geq rfl rfl) rfl ?_
                  refine run_s (ss_pickT rfl q22 rfl) rfl ?_
                  refine run_s (ss_assign rfl) rfl ?_
                  refine run_nil ?_
                  refine aw_cond rfl (fun q23 => ?_) (fun q23 => ?_)
                  · replace h := h.1 (of_decide_eq_true q23)
                    refine aw_region ?_
                    refine run_s (ss_move rfl) rfl ?_
                    refine run_s (ss_move rfl) rfl ?_
                    refine run_s (ss_field_ptr rfl) rfl ?_
                    refine run_s (ss_load_ptr rfl rfl) rfl ?_
                    refine run_s (ss_move rfl) rfl ?_
                    refine run_s (ss_move rfl) rfl ?_
                    obtain ⟨q24, h⟩ := h
                    refine run_s (ss_sub rfl rfl q24) rfl ?_
                    obtain ⟨q25, h⟩ := h
                    refine run_s (ss_idxL rfl rfl q25) rfl ?_
                    refine run_s (ss_loadL (f := (fun r => C.lst (ints r))) rfl q25) rfl ?_
                    refine run_s (ss_move rfl) rfl ?_
                    refine run_s (ss_move rfl) rfl ?_
                    obtain ⟨q26, h⟩ := h
                    refine run_s (ss_sub rfl rfl q26) rfl ?_
                    obtain ⟨q27, h⟩ := h
                    refine run_s (ss_idxL rfl rfl q27) rfl ?_
                    refine run_s (ss_loadL (f := ci) rfl q27) rfl ?_
                    obtain ⟨q28, h⟩ := h
                    refine run_s (ss_add rfl rfl q28) rfl ?_
                    refine run_w (ws_buildSlice (id := 102) (ps := [(0, .tmp 101)]) rfl rfl (Nat.le_of_ble_eq_true rfl) rfl ⟨rfl, ?_⟩)
                    obtain ⟨q29, h⟩ := h
                    refine run_w (ws_app1 ci (l := o46_2) (m := [(r.length : Int) + (el (el s (v9_1 - (r.length : Int))) (v11_2 - (r.length : Int)))]) rfl rfl rfl rfl rfl (Nat.le_of_ble_eq_true rfl) q29 ⟨rfl, ?_⟩)
                    refine run_s (ss_assign rfl) rfl ?_
                    refine run_nil ?_
                    refine aw_gh (gh_to (n := 111) (σ' := [(46, ⟨ints (o46_2 ++ ([(r.length : Int) + (el (el s (v9_1 - (r.length : Int))) (v11_2 - (r.length : Int)))])), []⟩), (200128, ⟨orows o200128_1, []⟩), (8, ⟨[.hole], [(0, .ref 200128)]⟩), (4, ⟨[cnil], []⟩)]) (env' := [(2, .c (.ptr [.lst (rows r)])), (3, .c (.ptr [.lst (rows s)])), (4, .cell 4 0), (6, .c (ci (r.length : Int))), (7, .c (ci (s.length : Int))), (8, .cell 8 0), (9, .c (ci v9_1)), (10, .ref 46), (11, .c (ci v11_2)), (63, .c (ci v11_2)), (64, .c (ci (r.length : Int))), (65, .c (cb (decide (v11_2 < (r.length : Int))))), (83, .c (ci v11_2)), (84, .c (ci (r.length : Int))), (85, .c (cb (decide ((r.length : Int) ≤ v11_2))))]) rfl rfl ⟨rfl, rfl, rfl, rfl, rfl, rfl, rfl, rfl, rfl, rfl, rfl, rfl, rfl, rfl, rfl, trivial⟩) ?_
                    refine aw_region ?_
                    refine run_s (ss_move rfl) rfl ?_
                    obtain ⟨q30, h⟩ := h
                    refine run_s (ss_add rfl rfl q30) rfl ?_
                    refine run_s (ss_assign rfl) rfl ?_
                    refine run_nil ?_
                    exact ⟨v11_2 + 1, o46_2 ++ ([(r.length : Int) + (el (el s (v9_1 - (r.length : Int))) (v11_2 - (r.length : Int)))]), ghe_to (n := 111) rfl rfl ⟨rfl, rfl, rfl, rfl, rfl, rfl, rfl, rfl, rfl, trivial⟩, h.1, h.2⟩
                  · replace h := h.2 (of_decide_eq_false q23)
                    refine aw_gh (gh_to (n := 111) (σ' := [(46, ⟨ints o46_2, []⟩), (200128, ⟨orows o200128_1, []⟩), (8, ⟨[.hole], [(0, .ref 200128)]⟩), (4, ⟨[cnil], []⟩)]) (env' := [(2, .c (.ptr [.lst (rows r)])), (3, .c (.ptr [.lst (rows s)])), (4, .cell 4 0), (6, .c (ci (r.length : Int))), (7, .c (ci (s.length : Int))), (8, .cell 8 0), (9, .c (ci v9_1)), (10, .ref 46), (11, .c (ci v11_2)), (63, .c (ci v11_2)), (64, .c (ci (r.length : Int))), (65, .c (cb (decide (v11_2 < (r.length : Int))))), (83, .c (ci v11_2)), (84, .c (ci (r.length : Int))), (85, .c (cb (decide ((r.length : Int) ≤ v11_2))))]) rfl rfl ⟨rfl, rfl, rfl, rfl, rfl, rfl, rfl, rfl, rfl, rfl, rfl, rfl, rfl, rfl, rfl, trivial⟩) ?_
                    refine aw_region ?_
                    refine run_s (ss_move rfl) rfl ?_
                    refine run_s (ss_move rfl) rfl ?_
                    refine run_w (ws_buildSlice (id := 56) (ps := [(0, .tmp 55)]) rfl rfl (Nat.le_of_ble_eq_true rfl) rfl ⟨rfl, ?_⟩)
                    obtain ⟨q31, h⟩ := h
                    refine run_w (ws_app1 ci (l := o46_2) (m := [v11_2]) rfl rfl rfl rfl rfl (Nat.le_of_ble_eq_true rfl) q31 ⟨rfl, ?_⟩)
                    refine run_s (ss_assign rfl) rfl ?_
                    refine run_nil ?_
                    refine aw_region ?_
                    refine run_s (ss_move rfl) rfl ?_
                    obtain ⟨q32, h⟩ := h
                    refine run_s (ss_add rfl rfl q32) rfl ?_
                    refine run_s (ss_assign rfl) rfl ?_
                    refine run_nil ?_
                    exact ⟨v11_2 + 1, o46_2 ++ ([v11_2]), ghe_to (n := 111) rfl rfl ⟨rfl, rfl, rfl, rfl, rfl, rfl, rfl, rfl, rfl, trivial⟩, h.1, h.2⟩
                · replace h := h.2 (of_decide_eq_false q22)
                  refine run_gf rfl rfl q22 rfl ?_
                  refine run_gf rfl rfl q22 rfl ?_
                  refine run_gf rfl rfl q22 rfl ?_
                  refine run_s (ss_pickF rfl q22 rfl) rfl ?_
                  refine run_s (ss_assign rfl) rfl ?_
                  refine run_nil ?_
                  refine aw_cond rfl (fun q33 => ?_) (fun q33 => ?_)
                  · cases q33
                  · skip
                    refine aw_gh (gh_to (n := 111) (σ' := [(46, ⟨ints o46_2, []⟩), (200128, ⟨orows o200128_1, []⟩), (8, ⟨[.hole], [(0, .ref 200128)]⟩), (4, ⟨[cnil], []⟩)]) (env' := [(2, .c (.ptr [.lst (rows r)])), (3, .c (.ptr [.lst (rows s)])), (4, .cell 4 0), (6, .c (ci (r.length : Int))), (7, .c (ci (s.length : Int))), (8, .cell 8 0), (9, .c (ci v9_1)), (10, .ref 46), (11, .c (ci v11_2)), (63, .c (ci v11_2)), (64, .c (ci (r.length : Int))), (65, .c (cb (decide (v11_2 < (r.length : Int)))))]) rfl rfl ⟨rfl, rfl, rfl, rfl, rfl, rfl, rfl, rfl, rfl, rfl, rfl, rfl, trivial⟩) ?_
                    refine aw_region ?_
                    refine run_s (ss_move rfl) rfl ?_
                    refine run_s (ss_move rfl) rfl ?_
                    refine run_w (ws_buildSlice (id := 56) (ps := [(0, .tmp 55)]) rfl rfl (Nat.le_of_ble_eq_true rfl) rfl ⟨rfl, ?_⟩)
                    obtain ⟨q34, h⟩ := h
                    refine run_w (ws_app1 ci (l := o46_2) (m := [v11_2]) rfl rfl rfl rfl rfl (Nat.le_of_ble_eq_true rfl) q34 ⟨rfl, ?_⟩)
                    refine run_s (ss_assign rfl) rfl ?_
                    refine run_nil ?_
                    refine aw_region ?_
                    refine run_s (ss_move rfl) rfl ?_
                    obtain ⟨q35, h⟩ := h
                    refine run_s (ss_add rfl rfl q35) rfl ?_
                    refine run_s (ss_assign rfl) rfl ?_
                    refine run_nil ?_
                    exact ⟨v11_2 + 1, o46_2 ++ ([v11_2]), ghe_to (n := 111) rfl rfl ⟨rfl, rfl, rfl, rfl, rfl, rfl, rfl, rfl, rfl, trivial⟩, h.1, h.2⟩
            · replace h := h.2 (of_decide_eq_false q16)
              refine run_gf rfl rfl q16 rfl ?_
              refine run_gf rfl rfl q16 rfl ?_
              refine run_gf rfl rfl q16 rfl ?_
              refine run_s (ss_pickF rfl q16 rfl) rfl ?_
              refine run_s (ss_assign rfl) rfl ?_
              refine run_nil ?_
              refine aw_cond rfl (fun q36 => ?_) (fun q36 => ?_)
              · cases q36
              · skip
                refine aw_seq ?_
                refine aw_region ?_
                refine run_s (ss_move rfl) rfl ?_
                refine run_s (ss_move rfl) rfl ?_
                refine run_s (ss_geq rfl rfl) rfl ?_
                refine run_s (ss_move rfl) rfl ?_
                refine run_split (s := 82) rfl (fun q37 => ?_) (fun q37 => ?_)
                · replace h := h.1 (of_decide_eq_true q37)
                  refine run_gt rfl rfl q37 ?_
                  refine run_s (ss_move rfl) rfl ?_
                  refine run_gt rfl rfl q37 ?_
                  refine run_s (ss_move rfl) rfl ?_
                  refine run_gt rfl rfl q37 ?_
                  refine run_s (ss_geq rfl rfl) rfl ?_
                  refine run_s (ss_pickT rfl q37 rfl) rfl ?_
                  refine run_s (ss_assign rfl) rfl ?_
                  refine run_nil ?_
                  refine aw_cond rfl (fun q38 => ?_) (fun q38 => ?_)
                  · replace h := h.1 (of_decide_eq_true q38)
                    refine aw_region ?_
                    refine run_s (ss_move rfl) rfl ?_
                    refine run_s (ss_move rfl) rfl ?_
                    refine run_s (ss_field_ptr rfl) rfl ?_
                    refine run_s (ss_load_ptr rfl rfl) rfl ?_
                    refine run_s (ss_move rfl) rfl ?_
                    refine run_s (ss_move rfl) rfl ?_
                    obtain ⟨q39, h⟩ := h
                    refine run_s (ss_sub rfl rfl q39) rfl ?_
                    obtain ⟨q40, h⟩ := h
                    refine run_s (ss_idxL rfl rfl q40) rfl ?_
                    refine run_s (ss_loadL (f := (fun r => C.lst (ints r))) rfl q40) rfl ?_
                    refine run_s (ss_move rfl) rfl ?_
                    refine run_s (ss_move rfl) rfl ?_
                    obtain ⟨q41, h⟩ := h
                    refine run_s (ss_sub rfl rfl q41) rfl ?_
                    obtain ⟨q42, h⟩ := h
                    refine run_s (ss_idxL rfl rfl q42) rfl ?_
                    refine run_s (ss_loadL (f := ci) rfl q42) rfl ?_
                    obtain ⟨q43, h⟩ := h
                    refine run_s (ss_add rfl rfl q43) rfl ?_
                    refine run_w (ws_buildSlice (id := 102) (ps := [(0, .tmp 101)]) rfl rfl (Nat.le_of_ble_eq_true rfl) rfl ⟨rfl, ?_⟩)
                    obtain ⟨q44, h⟩ := h
                    refine run_w (ws_app1 ci (l := o46_2) (m := [(r.length : Int) + (el (el s (v9_1 - (r.length : Int))) (v11_2 - (r.length : Int)))]) rfl rfl rfl rfl rfl (Nat.le_of_ble_eq_true rfl) q44 ⟨rfl, ?_⟩)
                    refine run_s (ss_assign rfl) rfl ?_
                    refine run_nil ?_
                    refine aw_gh (gh_to (n := 111) (σ' := [(46, ⟨ints (o46_2 ++ ([(r.length : Int) + (el (el s (v9_1 - (r.length : Int))) (v11_2 - (r.length : Int)))])), []⟩), (200128, ⟨orows o200128_1, []⟩), (8, ⟨[.hole], [(0, .ref 200128)]⟩), (4, ⟨[cnil], []⟩)]) (env' := [(2, .c (.ptr [.lst (rows r)])), (3, .c (.ptr [.lst (rows s)])), (4, .cell 4 0), (6, .c (ci (r.length : Int))), (7, .c (ci (s.length : Int))), (8, .cell 8 0), (9, .c (ci v9_1)), (10, .ref 46), (11, .c (ci v11_2)), (83, .c (ci v11_2)), (84, .c (ci (r.length : Int))), (85, .c (cb (decide ((r.length : Int) ≤ v11_2))))]) rfl rfl ⟨rfl, rfl, rfl, rfl, rfl, rfl, rfl, rfl, rfl, rfl, rfl, rfl, trivial⟩) ?_
                    refine aw_region ?_
                    refine run_s (ss_move rfl) rfl ?_
                    obtain ⟨q45, h⟩ := h
                    refine run_s (ss_add rfl rfl q45) rfl ?_
                    refine run_s (ss_assign rfl) rfl ?_
                    refine run_nil ?_
                    exact ⟨v11_2 + 1, o46_2 ++ ([(r.length : Int) + (el (el s (v9_1 - (r.length : Int))) (v11_2 - (r.length : Int)))]), ghe_to (n := 111) rfl rfl ⟨rfl, rfl, rfl, rfl, rfl, rfl, rfl, rfl, rfl, trivial⟩, h.1, h.2⟩
                  · replace h := h.2 (of_decide_eq_false q38)
                    refine aw_gh (gh_to (n := 111) (σ' := [(46, ⟨ints o46_2, []⟩), (200128, ⟨orows o200128_1, []⟩), (8, ⟨[.hole], [(0, .ref 200128)]⟩), (4, ⟨[cnil], []⟩)]) (env' := [(2, .c (.ptr [.lst (rows r)])), (3, .c (.ptr [.lst (rows s)])), (4, .cell 4 0), (6, .c (ci (r.length : Int))), (7, .c (ci (s.length : Int))), (8, .cell 8 0), (9, .c (ci v9_1)), (10, .ref 46), (11, .c (ci v11_2)), (83, .c (ci v11_2)), (84, .c (ci (r.length : Int))), (85, .c (cb (decide ((r.length : Int) ≤ v11_2))))]) rfl rfl ⟨rfl, rfl, rfl, rfl, rfl, rfl, rfl, rfl, rfl, rfl, rfl, rfl, trivial⟩) ?_
                    refine aw_region ?_
                    refine run_s (ss_move rfl) rfl ?_
                    refine run_s (ss_move rfl) rfl ?_
                    refine run_w (ws_buildSlice (id := 56) (ps := [(0, .tmp 55)]) rfl rfl (Nat.le_of_ble_eq_true rfl) rfl ⟨rfl, ?_⟩)
                    obtain ⟨q46, h⟩ := h
                    refine run_w (ws_app1 ci (l := o46_2) (m := [v11_2]) rfl rfl rfl rfl rfl (Nat.le_of_ble_eq_true rfl) q46 ⟨rfl, ?_⟩)
                    refine run_s (ss_assign rfl) rfl ?_
                    refine run_nil ?_
                    refine aw_region ?_
                    refine run_s (ss_move rfl) rfl ?_
                    obtain ⟨q47, h⟩ := h
                    refine run_s (ss_add rfl rfl q47) rfl ?_
                    refine run_s (ss_assign rfl) rfl ?_
                    refine run_nil ?_
                    exact ⟨v11_2 + 1, o46_2 ++ ([v11_2]), ghe_to (n := 111) rfl rfl ⟨rfl, rfl, rfl, rfl, rfl, rfl, rfl, rfl, rfl, trivial⟩, h.1, h.2⟩
                · replace h := h.2 (of_decide_eq_false q37)
                  refine run_gf rfl rfl q37 rfl ?_
                  refine run_gf rfl rfl q37 rfl ?_
                  refine run_gf rfl rfl q37 rfl ?_
                  refine run_s (ss_pickF rfl q37 rfl) rfl ?_
                  refine run_s (ss_assign rfl) rfl ?_
                  refine run_nil ?_
                  refine aw_cond rfl (fun q48 => ?_) (fun q48 => ?_)
                  · cases q48
                  · skip
                    refine aw_gh (gh_to (n := 111) (σ' := [(46, ⟨ints o46_2, []⟩), (200128, ⟨orows o200128_1, []⟩), (8, ⟨[.hole], [(0, .ref 200128)]⟩), (4, ⟨[cnil], []⟩)]) (env' := [(2, .c (.ptr [.lst (rows r)])), (3, .c (.ptr [.lst (rows s)])), (4, .cell 4 0), (6, .c (ci (r.length : Int))), (7, .c (ci (s.length : Int))), (8, .cell 8 0), (9, .c (ci v9_1)), (10, .ref 46), (11, .c (ci v11_2))]) rfl rfl ⟨rfl, rfl, rfl, rfl, rfl, rfl, rfl, rfl, rfl, trivial⟩) ?_
                    refine aw_region ?_
                    refine run_s (ss_move rfl) rfl ?_
                    refine run_s (ss_move rfl) rfl ?_
                    refine run_w (ws_buildSlice (id := 56) (ps := [(0, .tmp 55)]) rfl rfl (Nat.le_of_ble_eq_true rfl) rfl ⟨rfl, ?_⟩)
                    obtain ⟨q49, h⟩ := h
                    refine run_w (ws_app1 ci (l := o46_2) (m := [v11_2]) rfl rfl rfl rfl rfl (Nat.le_of_ble_eq_true rfl) q49 ⟨rfl, ?_⟩)
                    refine run_s (ss_assign rfl) rfl ?_
                    refine run_nil ?_
                    refine aw_region ?_
                    refine run_s (ss_move rfl) rfl ?_
                    obtain ⟨q50, h⟩ := h
                    refine run_s (ss_add rfl rfl q50) rfl ?_
                    refine run_s (ss_assign rfl) rfl ?_
                    refine run_nil ?_
                    exact ⟨v11_2 + 1, o46_2 ++ ([v11_2]), ghe_to (n := 111) rfl rfl ⟨rfl, rfl, rfl, rfl, rfl, rfl, rfl, rfl, rfl, trivial⟩, h.1, h.2⟩
          · replace h := h.2 (of_decide_eq_false q15)
            refine aw_exit ?_
            refine aw_region ?_
            refine run_s (ss_field_cell rfl) rfl ?_
            refine run_s (ss_loadH rfl rfl rfl rfl) rfl ?_
            refine run_s (ss_move rfl) rfl ?_
            refine run_w (ws_buildSlice (id := 107) (ps := [(0, .tmp 106)]) rfl rfl (Nat.le_of_ble_eq_true rfl) rfl ⟨rfl, ?_⟩)
            refine run_gh (gh_fill (id := 107) (id2 := 46) (j := 0) rfl rfl (Nat.le_of_ble_eq_true rfl) rfl rfl rfl) ?_
            obtain ⟨q51, h⟩ := h
            refine run_w (ws_app1 (fun r => C.own (ints r)) (l := o200128_1) (m := [o46_2]) rfl rfl rfl rfl rfl (Nat.le_of_ble_eq_true rfl) q51 ⟨rfl, ?_⟩)
            refine run_s (ss_field_cell rfl) rfl ?_
            refine run_w (ws_store rfl rfl (Nat.le_of_ble_eq_true rfl) rfl rfl ⟨rfl, ?_⟩)
            refine run_nil ?_
            refine aw_gh (gh_to (n := 111) (σ' := [(200128, ⟨orows (o200128_1 ++ ([o46_2])), []⟩), (8, ⟨[.hole], [(0, .ref 200128)]⟩), (4, ⟨[cnil], []⟩)]) (env' := [(2, .c (.ptr [.lst (rows r)])), (3, .c (.ptr [.lst (rows s)])), (4, .cell 4 0), (6, .c (ci (r.length : Int))), (7, .c (ci (s.length : Int))), (8, .cell 8 0), (9, .c (ci v9_1))]) rfl rfl ⟨rfl, rfl, rfl, rfl, rfl, rfl, rfl, trivial⟩) ?_
            refine aw_region ?_
            refine run_s (ss_move rfl) rfl ?_
            obtain ⟨q52, h⟩ := h
            refine run_s (ss_add rfl rfl q52) rfl ?_
            refine run_s (ss_assign rfl) rfl ?_
            refine run_nil ?_
            exact ⟨v9_1 + 1, o200128_1 ++ ([o46_2]), ghe_to (n := 111) rfl rfl ⟨rfl, rfl, rfl, rfl, rfl, rfl, rfl, trivial⟩, h.1, h.2⟩
        · replace h := h.2 (of_decide_eq_false q12)
          refine aw_exit ?_
          refine aw_seq ?_
          refine aw_gh (gh_to (n := 111) (σ' := [(200128, ⟨orows o200128_1, []⟩), (8, ⟨[.hole], [(0, .ref 200128)]⟩), (4, ⟨[cnil], []⟩)]) (env' := [(4, .cell 4 0), (8, .cell 8 0)]) rfl rfl ⟨rfl, rfl, trivial⟩) ?_
          refine aw_region ?_
          refine run_s (ss_loadS rfl rfl rfl rfl) rfl ?_
          refine run_w (ws_storeS rfl rfl (Nat.le_of_ble_eq_true rfl) rfl rfl rfl ⟨rfl, ?_⟩)
          refine run_s (ss_assign rfl) rfl ?_
          refine run_nil ?_
          refine aw_ret ?_
          exact retAF_mk (retv2 rfl (rv_struct rfl rfl rfl) (rv_tmp rfl)) rfl rfl ⟨_, (cle_refl _), _, _, h, rfl⟩

theorem c_spec_UnionRack (r : List (List Int)) (s : List (List Int)) (hp : small2 r ∧ small2 s) : AF Try.prog 37 [.agg [.lst (rows r)], .agg [.lst (rows s)]] (fun R_ => R_ = .tup [.agg [.own (orows (UniT r s))], ci (UniE r s)]) :=
  (w_spec_UnionRack r s (fun y0 y1 => y0 = UniT r s ∧ y1 = UniE r s) (p_spec_UnionRack r s hp)).mono (by rintro r ⟨_, _, ⟨rfl, rfl⟩, rfl⟩; rfl)

set_option maxRecDepth 100000 in
set_option maxHeartbeats 4000000 in
theorem w_impl_ProductRack (r : List (List Int)) (s : List (List Int)) (Q : List (List Int) → Int → Prop) (h : wp_impl_ProductRack r s Q) : AF Try.prog 34 [.agg [.lst (rows r)], .agg [.lst (rows s)]] (fun R_ => ∃ y0 y1, Q y0 y1 ∧ R_ = .tup [.agg [.own (orows y0)], ci y1]) := by
  refine AF.ofWQ (af_enter (n := 33) Try.func34 rfl (by rfl) rfl (Nat.le_of_ble_eq_true rfl) ?_)
  unfold wp_impl_ProductRack at h
  refine aw_seq ?_
  refine aw_gh (gh_to (n := 33) (σ' := []) (env' := [(0, .c (.agg [.lst (rows r)])), (1, .c (.agg [.lst (rows s)]))]) rfl rfl ⟨rfl, rfl, trivial⟩) ?_
  refine aw_region ?_
  refine run_w (ws_boxR rfl (.inl rfl) rfl ⟨rfl, ?_⟩)
  refine run_w (ws_boxR rfl (.inl rfl) rfl ⟨rfl, ?_⟩)
  refine run_w (ws_alloc (id := 4) rfl (Nat.le_of_ble_eq_true rfl) ⟨rfl, ?_⟩)
  refine run_s (ss_assign rfl) rfl ?_
  refine run_nil ?_
  refine aw_seq ?_
  refine aw_seq ?_
  refine aw_region ?_
  refine run_s (ss_load_struct rfl (Nat.le_of_ble_eq_true rfl)) rfl ?_
  obtain ⟨q1, h⟩ := h
  refine run_w (ws_call (xs := [.tmp 8]) (ids := []) rfl rfl rfl rfl (c_impl_IsRack r q1) rfl ?_ )
  rintro _ rfl
  refine ⟨rfl, ?_⟩
  refine run_s (ss_not rfl) rfl ?_
  refine run_s (ss_move rfl) rfl ?_
  refine run_split (s := 11) rfl (fun q3 => ?_) (fun q3 => ?_)
  · replace h := h.1 ((bnot_t q3))
    refine run_gf rfl rfl q3 rfl ?_
    refine run_gf rfl rfl q3 rfl ?_
    refine run_gf rfl rfl q3 rfl ?_
    refine run_s (ss_pickT rfl q3 rfl) rfl ?_
    refine run_nil ?_
    refine aw_cond rfl (fun q4 => ?_) (fun q4 => ?_)
    · skip
      refine aw_seq ?_
      refine aw_gh (gh_to (n := 33) (σ' := [(4, ⟨[cnil], []⟩)]) (env' := [(4, .cell 4 0), (5, .c (ci 0))]) rfl rfl ⟨rfl, rfl, trivial⟩) ?_
      refine aw_region ?_
      refine run_s (ss_build0) rfl ?_
      refine run_w (ws_storeS rfl rfl (Nat.le_of_ble_eq_true rfl) rfl rfl rfl ⟨rfl, ?_⟩)
      refine run_s (ss_assign rfl) rfl ?_
      refine run_nil ?_
      refine aw_ret ?_
      exact retAF_mk (retv2 rfl (rv_struct rfl rfl rfl) (rv_tmp rfl)) rfl rfl ⟨_, (cle_tup (cleL_cons (cle_agg (cleL_cons cle_nilO cleL_nil)) (cleL_cons (cle_refl _) cleL_nil))), _, _, h, rfl⟩
    · cases q4
  · replace h := h.2 ((bnot_f q3))
    refine run_gt rfl rfl q3 ?_
    refine run_s (ss_load_struct rfl (Nat.le_of_ble_eq_true rfl)) rfl ?_
    refine run_gt rfl rfl q3 ?_
    obtain ⟨q5, h⟩ := h
    refine run_w (ws_call (xs := [.tmp 12]) (ids := []) rfl rfl rfl rfl (c_impl_IsRack s q5) rfl ?_ )
    rintro _ rfl
    refine ⟨rfl, ?_⟩
    refine run_gt rfl rfl q3 ?_
    refine run_s (ss_not rfl) rfl ?_
    refine run_s (ss_pickF rfl q3 rfl) rfl ?_
    refine run_nil ?_
    refine aw_cond rfl (fun q7 => ?_) (fun q7 => ?_)
    · replace h := h.1 ((bnot_t q7))
      refine aw_seq ?_
      refine aw_gh (gh_to (n := 33) (σ' := [(4, ⟨[cnil], []⟩)]) (env' := [(4, .cell 4 0), (5, .c (ci 0))]) rfl rfl ⟨rfl, rfl, trivial⟩) ?_
      refine aw_region ?_
      refine run_s (ss_build0) rfl ?_
      refine run_w (ws_storeS rfl rfl (Nat.le_of_ble_eq_true rfl) rfl rfl rfl ⟨rfl, ?_⟩)
      refine run_s (ss_assign rfl) rfl ?_
      refine run_nil ?_
      refine aw_ret ?_
      exact retAF_mk (retv2 rfl (rv_struct rfl rfl rfl) (rv_tmp rfl)) rfl rfl ⟨_, (cle_tup (cleL_cons (cle_agg (cleL_cons cle_nilO cleL_nil)) (cleL_cons (cle_refl _) cleL_nil))), _, _, h, rfl⟩
    · replace h := h.2 ((bnot_f q7))
      refine aw_skip ?_
      refine aw_seq ?_
      refine aw_gh (gh_to (n := 33) (σ' := [(4, ⟨[cnil], []⟩)]) (env' := [(2, .c (.ptr [.lst (rows r)])), (3, .c (.ptr [.lst (rows s)])), (4, .cell 4 0)]) rfl rfl ⟨rfl, rfl, rfl, trivial⟩) ?_
      refine aw_regionD (kd := kdl [0, 1, 0, 0, 1, 0, 2, 0, 3]) (ord := [0, 3, 1, 2, 4, 5, 6, 7, 8]) [] mixed (by kernel_rfl) ?_
      refine rd_s rfl rfl trivial (ss_field_ptr rfl) rfl ?_
      refine rd_s rfl rfl trivial (ss_field_ptr rfl) rfl ?_
      refine rd_l rfl rfl trivial (ss_load_ptr rfl rfl) rfl ?_
      refine rd_s rfl rfl trivial (ss_lenL (f := (fun r => C.lst (ints r))) rfl) rfl ?_
      refine rd_l rfl rfl trivial (ss_load_ptr rfl rfl) rfl ?_
      refine rd_s rfl rfl trivial (ss_lenL (f := (fun r => C.lst (ints r))) rfl) rfl ?_
      refine rd_w rfl rfl trivial rfl rfl (ws_alloc (id := 7) rfl (Nat.le_of_ble_eq_true rfl) ⟨rfl, ?_⟩)
      refine rd_s rfl rfl trivial (ss_assign rfl) rfl ?_
      refine rd_f rfl rfl trivial (ws_store rfl rfl (Nat.le_of_ble_eq_true rfl) rfl rfl ⟨rfl, ?_⟩)
      refine rd_nil ?_
      refine aw_seq ?_
      refine aw_seq ?_
      refine aw_region ?_
      refine run_s (ss_move rfl) rfl ?_
      refine run_s (ss_loadC rfl rfl rfl rfl rfl) rfl ?_
      obtain ⟨q8, h⟩ := h
      refine run_s (ss_mul rfl rfl q8) rfl ?_
      refine run_s (ss_gtr rfl rfl) rfl ?_
      refine run_nil ?_
      refine aw_cond rfl (fun q9 => ?_) (fun q9 => ?_)
      · replace h := h.1 (of_decide_eq_true q9)
        refine aw_seq ?_
        refine aw_gh (gh_to (n := 33) (σ' := [(7, ⟨[ci (s.length : Int)], []⟩), (4, ⟨[cnil], []⟩)]) (env' := [(4, .cell 4 0)]) rfl rfl ⟨rfl, trivial⟩) ?_
        refine aw_region ?_
        refine run_s (ss_build0) rfl ?_
        refine run_w (ws_storeS rfl rfl (Nat.le_of_ble_eq_true rfl) rfl rfl rfl ⟨rfl, ?_⟩)
        refine run_s (ss_assign rfl) rfl ?_
        refine run_nil ?_
        refine aw_ret ?_
        exact retAF_mk (retv2 rfl (rv_struct rfl rfl rfl) (rv_tmp rfl)) rfl rfl ⟨_, (cle_tup (cleL_cons (cle_agg (cleL_cons cle_nilO cleL_nil)) (cleL_cons (cle_refl _) cleL_nil))), _, _, h, rfl⟩
      · replace h := h.2 (of_decide_eq_false q9)
        refine aw_skip ?_
        refine aw_seq ?_
        refine aw_gh (gh_to (n := 33) (σ' := [(7, ⟨[ci (s.length : Int)], []⟩), (4, ⟨[cnil], []⟩)]) (env' := [(2, .c (.ptr [.lst (rows r)])), (3, .c (.ptr [.lst (rows s)])), (4, .cell 4 0), (6, .c (ci (r.length : Int))), (7, .cell 7 0)]) rfl rfl ⟨rfl, rfl, rfl, rfl, rfl, trivial⟩) ?_
        refine aw_region ?_
        refine run_s (ss_move rfl) rfl ?_
        refine run_s (ss_loadC rfl rfl rfl rfl rfl) rfl ?_
        obtain ⟨q10, h⟩ := h
        refine run_s (ss_mul rfl rfl q10) rfl ?_
        refine run_gh (gh_freeze (id := 7) rfl rfl) ?_
        refine run_s (ss_makeFunc (os := [.tmp 2, .tmp 7, .tmp 3]) rfl) rfl ?_
        obtain ⟨q11, h⟩ := h
        refine run_w (ws_call (xs := [.tmp 30, .tmp 31]) (ids := [32]) rfl rfl rfl rfl (c_impl_rackBy ((r.length : Int) * (s.length : Int)) 108 [.ptr [.lst (rows r)], .ptr [ci (s.length : Int)], .ptr [.lst (rows s)]] (fun z0 z1 => el (el r (z0 / (s.length : Int))) (z1 / (s.length : Int)) * (s.length : Int) + el (el s (z0 % (s.length : Int))) (z1 % (s.length : Int))) (fun z0 z1 => isTab r = true ∧ isTab s = true ∧ (s.length : Int) = (s.length : Int) ∧ 0 ≤ z0 ∧ z0 < (r.length : Int) * (s.length : Int) ∧ 0 ≤ z1 ∧ z1 < (r.length : Int) * (s.length : Int)) (fun z0 z1 hD => c_impl_ProductRack_1 z0 z1 r (s.length : Int) s hD) q11) rfl ?_ )
        rintro _ rfl
        refine ⟨rfl, ?_⟩
        refine run_w (ws_storeS rfl rfl (Nat.le_of_ble_eq_true rfl) rfl rfl rfl ⟨rfl, ?_⟩)
        refine run_s (ss_assign rfl) rfl ?_
        refine run_nil ?_
        refine aw_ret ?_
        exact retAF_mk (retv2 rfl (rv_struct rfl rfl rfl) (rv_tmp rfl)) rfl rfl ⟨_, (cle_refl _), _, _, h, rfl⟩

theorem c_impl_ProductRack (r : List (List Int)) (s : List (List Int)) (hp : small2 r ∧ small2 s) : AF Try.prog 34 [.agg [.lst (rows r)], .agg [.lst (rows s)]] (fun R_ => R_ = .tup [.agg [.own (orows (ProT r s))], ci (ProE r s)]) :=
  (w_impl_ProductRack r s (fun y0 y1 => y0 = ProT r s ∧ y1 = ProE r s) (p_impl_ProductRack r s hp)).mono (by rintro r ⟨_, _, ⟨rfl, rfl⟩, rfl⟩; rfl)

set_option maxRecDepth 100000 in
set_option maxHeartbeats 4000000 in
theorem w_impl_UnionRack (r : List (List Int)) (s : List (List Int)) (Q : List (List Int) → Int → Prop) (h : wp_impl_UnionRack r s Q) : AF Try.prog 36 [.agg [.lst (rows r)], .agg [.lst (rows s)]] (fun R_ => ∃ y0 y1, Q y0 y1 ∧ R_ = .tup [.agg [.own (orows y0)], ci y1]) := by
  refine AF.ofWQ (af_enter (n := 33) Try.func36 rfl (by rfl) rfl (Nat.le_of_ble_eq_true rfl) ?_)
  unfold wp_impl_UnionRack at h
  refine aw_seq ?_
  refine aw_gh (gh_to (n := 33) (σ' := []) (env' := [(0, .c (.agg [.lst (rows r)])), (1, .c (.agg [.lst (rows s)]))]) rfl rfl ⟨rfl, rfl, trivial⟩) ?_
  refine aw_region ?_
  refine run_w (ws_boxR rfl (.inl rfl) rfl ⟨rfl, ?_⟩)
  refine run_w (ws_boxR rfl (.inl rfl) rfl ⟨rfl, ?_⟩)
  refine run_w (ws_alloc (id := 4) rfl (Nat.le_of_ble_eq_true rfl) ⟨rfl, ?_⟩)
  refine run_s (ss_assign rfl) rfl ?_
  refine run_nil ?_
  refine aw_seq ?_
  refine aw_seq ?_
  refine aw_region ?_
  refine run_s (ss_load_struct rfl (Nat.le_of_ble_eq_true rfl)) rfl ?_
  obtain ⟨q1, h⟩ := h
  refine run_w (ws_call (xs := [.tmp 8]) (ids := []) rfl rfl rfl rfl (c_impl_IsRack r q1) rfl ?_ )
  rintro _ rfl
  refine ⟨rfl, ?_⟩
  refine run_s (ss_not rfl) rfl ?_
  refine run_s (ss_move rfl) rfl ?_
  refine run_split (s := 11) rfl (fun q3 => ?_) (fun q3 => ?_)
  · replace h := h.1 ((bnot_t q3))
    refine run_gf rfl rfl q3 rfl ?_
    refine run_gf rfl rfl q3 rfl ?_
    refine run_gf rfl rfl q3 rfl ?_
    refine run_s (ss_pickT rfl q3 rfl) rfl ?_
    refine run_nil ?_
    refine aw_cond rfl (fun q4 => ?_) (fun q4 => ?_)
    · skip
      refine aw_seq ?_
      refine aw_gh (gh_to (n := 33) (σ' := [(4, ⟨[cnil], []⟩)]) (env' := [(4, .cell 4 0), (5, .c (ci 0))]) rfl rfl ⟨rfl, rfl, trivial⟩) ?_
      refine aw_region ?_
      refine run_s (ss_build0) rfl ?_
      refine run_w (ws_storeS rfl rfl (Nat.le_of_ble_eq_true rfl) rfl rfl rfl ⟨rfl, ?_⟩)
      refine run_s (ss_assign rfl) rfl ?_
      refine run_nil ?_
      refine aw_ret ?_
      exact retAF_mk (retv2 rfl (rv_struct rfl rfl rfl) (rv_tmp rfl)) rfl rfl ⟨_, (cle_tup (cleL_cons (cle_agg (cleL_cons cle_nilO cleL_nil)) (cleL_cons (cle_refl _) cleL_nil))), _, _, h, rfl⟩
    · cases q4
  · replace h := h.2 ((bnot_f q3))
    refine run_gt rfl rfl q3 ?_
    refine run_s (ss_load_struct rfl (Nat.le_of_ble_eq_true rfl)) rfl ?_
    refine run_gt rfl rfl q3 ?_
    obtain ⟨q5, h⟩ := h
    refine run_w (ws_call (xs := [.tmp 12]) (ids := []) rfl rfl rfl rfl (c_impl_IsRack s q5) rfl ?_ )
    rintro _ rfl
    refine ⟨rfl, ?_⟩
    refine run_gt rfl rfl q3 ?_
    refine run_s (ss_not rfl) rfl ?_
    refine run_s (ss_pickF rfl q3 rfl) rfl ?_
    refine run_nil ?_
    refine aw_cond rfl (fun q7 => ?_) (fun q7 => ?_)
    · replace h := h.1 ((bnot_t q7))
      refine aw_seq ?_
      refine aw_gh (gh_to (n := 33) (σ' := [(4, ⟨[cnil], []⟩)]) (env' := [(4, .cell 4 0), (5, .c (ci 0))]) rfl rfl ⟨rfl, rfl, trivial⟩) ?_
      refine aw_region ?_
      refine run_s (ss_build0) rfl ?_
      refine run_w (ws_storeS rfl rfl (Nat.le_of_ble_eq_true rfl) rfl rfl rfl ⟨rfl, ?_⟩)
      refine run_s (ss_assign rfl) rfl ?_
      refine run_nil ?_
      refine aw_ret ?_
      exact retAF_mk (retv2 rfl (rv_struct rfl rfl rfl) (rv_tmp rfl)) rfl rfl ⟨_, (cle_tup (cleL_cons (cle_agg (cleL_cons cle_nilO cleL_nil)) (cleL_cons (cle_refl _) cleL_nil))), _, _, h, rfl⟩
    · replace h := h.2 ((bnot_f q7))
      refine aw_skip ?_
      refine aw_seq ?_
      refine aw_gh (gh_to (n := 33) (σ' := [(4, ⟨[cnil], []⟩)]) (env' := [(2, .c (.ptr [.lst (rows r)])), (3, .c (.ptr [.lst (rows s)])), (4, .cell 4 0)]) rfl rfl ⟨rfl, rfl, rfl, trivial⟩) ?_
      refine aw_regionD (kd := kdl [0, 1, 0, 0, 1, 0, 2, 2, 0]) (ord := [0, 3, 1, 2, 4, 5, 6, 7, 8]) [6] mixed (by kernel_rfl) ?_
      refine rd_s rfl rfl trivial (ss_field_ptr rfl) rfl ?_
      refine rd_s rfl rfl trivial (ss_field_ptr rfl) rfl ?_
      refine rd_l rfl rfl trivial (ss_load_ptr rfl rfl) rfl ?_
      refine rd_s rfl rfl trivial (ss_lenL (f := (fun r => C.lst (ints r))) rfl) rfl ?_
      refine rd_l rfl rfl trivial (ss_load_ptr rfl rfl) rfl ?_
      refine rd_s rfl rfl trivial (ss_lenL (f := (fun r => C.lst (ints r))) rfl) rfl ?_
      refine rd_w rfl rfl trivial rfl rfl (ws_alloc (id := 6) rfl (Nat.le_of_ble_eq_true rfl) ⟨rfl, ?_⟩)
      refine rd_w rfl rfl trivial rfl rfl (ws_store rfl rfl (Nat.le_of_ble_eq_true rfl) rfl rfl ⟨rfl, ?_⟩)
      refine rd_s rfl rfl trivial (ss_assign rfl) rfl ?_
      refine rd_nil ?_
      refine aw_seq ?_
      refine aw_seq ?_
      refine aw_region ?_
      refine run_s (ss_loadC rfl rfl rfl rfl rfl) rfl ?_
      refine run_s (ss_move rfl) rfl ?_
      obtain ⟨q8, h⟩ := h
      refine run_s (ss_add rfl rfl q8) rfl ?_
      refine run_s (ss_gtr rfl rfl) rfl ?_
      refine run_nil ?_
      refine aw_cond rfl (fun q9 => ?_) (fun q9 => ?_)
      · replace h := h.1 (of_decide_eq_true q9)
        refine aw_seq ?_
        refine aw_gh (gh_to (n := 33) (σ' := [(6, ⟨[ci (r.length : Int)], []⟩), (4, ⟨[cnil], []⟩)]) (env' := [(4, .cell 4 0)]) rfl rfl ⟨rfl, trivial⟩) ?_
        refine aw_region ?_
        refine run_s (ss_build0) rfl ?_
        refine run_w (ws_storeS rfl rfl (Nat.le_of_ble_eq_true rfl) rfl rfl rfl ⟨rfl, ?_⟩)
        refine run_s (ss_assign rfl) rfl ?_
        refine run_nil ?_
        refine aw_ret ?_
        exact retAF_mk (retv2 rfl (rv_struct rfl rfl rfl) (rv_tmp rfl)) rfl rfl ⟨_, (cle_tup (cleL_cons (cle_agg (cleL_cons cle_nilO cleL_nil)) (cleL_cons (cle_refl _) cleL_nil))), _, _, h, rfl⟩
      · replace h := h.2 (of_decide_eq_false q9)
        refine aw_skip ?_
        refine aw_seq ?_
        refine aw_gh (gh_to (n := 33) (σ' := [(6, ⟨[ci (r.length : Int)], []⟩), (4, ⟨[cnil], []⟩)]) (env' := [(2, .c (.ptr [.lst (rows r)])), (3, .c (.ptr [.lst (rows s)])), (4, .cell 4 0), (6, .cell 6 0), (7, .c (ci (s.length : Int)))]) rfl rfl ⟨rfl, rfl, rfl, rfl, rfl, trivial⟩) ?_
        refine aw_region ?_
        refine run_s (ss_loadC rfl rfl rfl rfl rfl) rfl ?_
        refine run_s (ss_move rfl) rfl ?_
        obtain ⟨q10, h⟩ := h
        refine run_s (ss_add rfl rfl q10) rfl ?_
        refine run_gh (gh_freeze (id := 6) rfl rfl) ?_
        refine run_s (ss_makeFunc (os := [.tmp 6, .tmp 2, .tmp 3]) rfl) rfl ?_
        obtain ⟨q11, h⟩ := h
        refine run_w (ws_call (xs := [.tmp 30, .tmp 31]) (ids := [32]) rfl rfl rfl rfl (c_impl_rackBy ((r.length : Int) + (s.length : Int)) 110 [.ptr [ci (r.length : Int)], .ptr [.lst (rows r)], .ptr [.lst (rows s)]] (fun z0 z1 => uniV r s z0 z1) (fun z0 z1 => isTab r = true ∧ isTab s = true ∧ (r.length : Int) = (r.length : Int) ∧ 0 ≤ z0 ∧ z0 < (r.length : Int) + (s.length : Int) ∧ 0 ≤ z1 ∧ z1 < (r.length : Int) + (s.length : Int)) (fun z0 z1 hD => c_impl_UnionRack_1 z0 z1 (r.length : Int) r s hD) q11) rfl ?_ )
        rintro _ rfl
        refine ⟨rfl, ?_⟩
        refine run_w (ws_storeS rfl rfl (Nat.le_of_ble_eq_true rfl) rfl rfl rfl ⟨rfl, ?_⟩)
        refine run_s (ss_assign rfl) rfl ?_
        refine run_nil ?_
        refine aw_ret ?_
        exact retAF_mk (retv2 rfl (rv_struct rfl rfl rfl) (rv_tmp rfl)) rfl rfl ⟨_, (cle_refl _), _, _, h, rfl⟩

theorem c_impl_UnionRack (r : List (List Int)) (s : List (List Int)) (hp : small2 r ∧ small2 s) : AF Try.prog 36 [.agg [.lst (rows r)], .agg [.lst (rows s)]] (fun R_ => R_ = .tup [.agg [.own (orows (UniT r s))], ci (UniE r s)]) :=
  (w_impl_UnionRack r s (fun y0 y1 => y0 = UniT r s ∧ y1 = UniE r s) (p_impl_UnionRack r s hp)).mono (by rintro r ⟨_, _, ⟨rfl, rfl⟩, rfl⟩; rfl)

end Go.Proofs.Ytbodlnpmplcaoaa

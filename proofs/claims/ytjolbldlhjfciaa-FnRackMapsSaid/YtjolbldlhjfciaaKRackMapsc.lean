/- Contracts of functions that the law FnRackMaps reaches: conditions, plain proofs, walks; no condition. -/
import Derived.Test.YtjolbldlhjfciaaKRackMapsb
import Derived.Test.YtjolbldlhjfciaaPP
namespace Go.Proofs.Ytjolbldlhjfciaa

def wp_impl_ProductRack_1 (x : Int) (y : Int) (r : List (List Int)) (m : Int) (s : List (List Int)) (Q : Int → Prop) : Prop :=
 ((0 : Int) ≤ x ∧ (0 : Int) < m ∧ x ≤ 9223372036854775807) ∧
 (0 ≤ x / m ∧ x / m < (r.length : Int)) ∧
 ((0 : Int) ≤ y ∧ (0 : Int) < m ∧ y ≤ 9223372036854775807) ∧
 (0 ≤ y / m ∧ y / m < ((el r (x / m)).length : Int)) ∧
 (InI ((el (el r (x / m)) (y / m)) * m)) ∧
 ((0 : Int) ≤ x ∧ (0 : Int) < m) ∧
 (0 ≤ x % m ∧ x % m < (s.length : Int)) ∧
 ((0 : Int) ≤ y ∧ (0 : Int) < m) ∧
 (0 ≤ y % m ∧ y % m < ((el s (x % m)).length : Int)) ∧
 (InI (((el (el r (x / m)) (y / m)) * m) + (el (el s (x % m)) (y % m)))) ∧
 Q (((el (el r (x / m)) (y / m)) * m) + (el (el s (x % m)) (y % m)))

def wp_impl_countMaps (r : List (List Int)) (s : List (List Int)) (f : List Int) (Q : Int → Prop) : Prop :=
 ∃ (H1 : Int → Prop) (m1 : Int → Nat),
 H1 0 ∧
 ∀ (v14_1 : Int), H1 v14_1 →
 ( ((v14_1 < (f.length : Int) →
 ∃ (H2 : Int → Prop) (m2 : Int → Nat),
 H2 0 ∧
 ∀ (v19_2 : Int), H2 v19_2 →
 ( ((v19_2 < (f.length : Int) →
 (0 ≤ v14_1 ∧ v14_1 < (r.length : Int)) ∧
 (0 ≤ v19_2 ∧ v19_2 < ((el r v14_1).length : Int)) ∧
 ((el (el r v14_1) v19_2 < (f.length : Int) →
 (0 ≤ el (el r v14_1) v19_2 ∧ el (el r v14_1) v19_2 < (f.length : Int)) ∧
 (0 ≤ v14_1 ∧ v14_1 < (f.length : Int)) ∧
 (0 ≤ v19_2 ∧ v19_2 < (f.length : Int)) ∧
 (0 ≤ el f v14_1 ∧ el f v14_1 < (s.length : Int)) ∧
 (0 ≤ el f v19_2 ∧ el f v19_2 < ((el s (el f v14_1)).length : Int)) ∧
 ((¬ (el f (el (el r v14_1) v19_2) = el (el s (el f v14_1)) (el f v19_2)) →
 Q 0) ∧
 (el f (el (el r v14_1) v19_2) = el (el s (el f v14_1)) (el f v19_2) →
 (InI (v19_2 + 1)) ∧
 (H2 (v19_2 + 1) ∧ m2 (v19_2 + 1) < m2 v19_2)))) ∧
 (¬ (el (el r v14_1) v19_2 < (f.length : Int)) →
 (InI (v19_2 + 1)) ∧
 (H2 (v19_2 + 1) ∧ m2 (v19_2 + 1) < m2 v19_2)))) ∧
 (¬ (v19_2 < (f.length : Int)) →
 (InI (v14_1 + 1)) ∧
 (H1 (v14_1 + 1) ∧ m1 (v14_1 + 1) < m1 v14_1))))) ∧
 (¬ (v14_1 < (f.length : Int)) →
 (((f.length : Int) = (r.length : Int) →
 Q 1) ∧
 (¬ ((f.length : Int) = (r.length : Int)) →
 ∃ (H3 : Int → Int → Prop) (m3 : Int → Int → Nat),
 H3 0 0 ∧
 ∀ (v10_2 : Int) (v62_2 : Int), H3 v10_2 v62_2 →
 ( ((v62_2 < (s.length : Int) →
 (small f) ∧
 ((f.length : Int) + (([v62_2]).length : Int) ≤ 1000000000) ∧
 (((r.length : Int) - ((f ++ ([v62_2])).length : Int)).toNat < ((r.length : Int) - (f.length : Int)).toNat) ∧
 (isTab r = true ∧ isTab s = true ∧ ((f ++ ([v62_2])).length : Int) ≤ (r.length : Int) ∧ ∀ x_ ∈ (f ++ ([v62_2])), 0 ≤ x_ ∧ x_ < (s.length : Int)) ∧
 (InI (v10_2 + (cntI r s (f ++ ([v62_2]))))) ∧
 (InI (v62_2 + 1)) ∧
 (H3 (v10_2 + (cntI r s (f ++ ([v62_2])))) (v62_2 + 1) ∧ m3 (v10_2 + (cntI r s (f ++ ([v62_2])))) (v62_2 + 1) < m3 v10_2 v62_2)) ∧
 (¬ (v62_2 < (s.length : Int)) →
 Q v10_2))))))))

def wp_spec_l03Fits (a : List (List (List Int))) (b : List (List (List Int))) (f : List Int) (Q : Bool → Prop) : Prop :=
 (InI ((f.length : Int) - 1)) ∧
 ∃ (H1 : Int → Prop) (m1 : Int → Nat),
 H1 0 ∧
 ∀ (v8_1 : Int), H1 v8_1 →
 ( ((v8_1 < (a.length : Int) →
 ∃ (H2 : Int → Prop) (m2 : Int → Nat),
 H2 0 ∧
 ∀ (v9_2 : Int), H2 v9_2 →
 ( ((v9_2 ≤ (f.length : Int) - 1 →
 ∃ (H3 : Int → Prop) (m3 : Int → Nat),
 H3 0 ∧
 ∀ (v10_3 : Int), H3 v10_3 →
 ( ((v10_3 ≤ (f.length : Int) - 1 →
 (0 ≤ v8_1 ∧ v8_1 < (a.length : Int)) ∧
 (0 ≤ v9_2 ∧ v9_2 < ((el a v8_1).length : Int)) ∧
 (0 ≤ v10_3 ∧ v10_3 < ((el (el a v8_1) v9_2).length : Int)) ∧
 (((f.length : Int) - 1 < el (el (el a v8_1) v9_2) v10_3 →
 (InI (v10_3 + 1)) ∧
 (H3 (v10_3 + 1) ∧ m3 (v10_3 + 1) < m3 v10_3)) ∧
 (¬ ((f.length : Int) - 1 < el (el (el a v8_1) v9_2) v10_3) →
 ((v9_2 < (f.length : Int) - 1 →
 ((v10_3 < (f.length : Int) - 1 →
 ((el (el (el a v8_1) v9_2) v10_3 < (f.length : Int) - 1 →
 (InI (v10_3 + 1)) ∧
 (H3 (v10_3 + 1) ∧ m3 (v10_3 + 1) < m3 v10_3)) ∧
 (¬ (el (el (el a v8_1) v9_2) v10_3 < (f.length : Int) - 1) →
 (0 ≤ el (el (el a v8_1) v9_2) v10_3 ∧ el (el (el a v8_1) v9_2) v10_3 < (f.length : Int)) ∧
 (0 ≤ v8_1 ∧ v8_1 < (b.length : Int)) ∧
 (0 ≤ v9_2 ∧ v9_2 < (f.length : Int)) ∧
 (0 ≤ v10_3 ∧ v10_3 < (f.length : Int)) ∧
 (0 ≤ el f v9_2 ∧ el f v9_2 < ((el b v8_1).length : Int)) ∧
 (0 ≤ el f v10_3 ∧ el f v10_3 < ((el (el b v8_1) (el f v9_2)).length : Int)) ∧
 ((¬ (el f (el (el (el a v8_1) v9_2) v10_3) = el (el (el b v8_1) (el f v9_2)) (el f v10_3)) →
 Q false) ∧
 (el f (el (el (el a v8_1) v9_2) v10_3) = el (el (el b v8_1) (el f v9_2)) (el f v10_3) →
 (InI (v10_3 + 1)) ∧
 (H3 (v10_3 + 1) ∧ m3 (v10_3 + 1) < m3 v10_3)))))) ∧
 (¬ (v10_3 < (f.length : Int) - 1) →
 (0 ≤ el (el (el a v8_1) v9_2) v10_3 ∧ el (el (el a v8_1) v9_2) v10_3 < (f.length : Int)) ∧
 (0 ≤ v8_1 ∧ v8_1 < (b.length : Int)) ∧
 (0 ≤ v9_2 ∧ v9_2 < (f.length : Int)) ∧
 (0 ≤ v10_3 ∧ v10_3 < (f.length : Int)) ∧
 (0 ≤ el f v9_2 ∧ el f v9_2 < ((el b v8_1).length : Int)) ∧
 (0 ≤ el f v10_3 ∧ el f v10_3 < ((el (el b v8_1) (el f v9_2)).length : Int)) ∧
 ((¬ (el f (el (el (el a v8_1) v9_2) v10_3) = el (el (el b v8_1) (el f v9_2)) (el f v10_3)) →
 Q false) ∧
 (el f (el (el (el a v8_1) v9_2) v10_3) = el (el (el b v8_1) (el f v9_2)) (el f v10_3) →
 (InI (v10_3 + 1)) ∧
 (H3 (v10_3 + 1) ∧ m3 (v10_3 + 1) < m3 v10_3)))))) ∧
 (¬ (v9_2 < (f.length : Int) - 1) →
 (0 ≤ el (el (el a v8_1) v9_2) v10_3 ∧ el (el (el a v8_1) v9_2) v10_3 < (f.length : Int)) ∧
 (0 ≤ v8_1 ∧ v8_1 < (b.length : Int)) ∧
 (0 ≤ v9_2 ∧ v9_2 < (f.length : Int)) ∧
 (0 ≤ v10_3 ∧ v10_3 < (f.length : Int)) ∧
 (0 ≤ el f v9_2 ∧ el f v9_2 < ((el b v8_1).length : Int)) ∧
 (0 ≤ el f v10_3 ∧ el f v10_3 < ((el (el b v8_1) (el f v9_2)).length : Int)) ∧
 ((¬ (el f (el (el (el a v8_1) v9_2) v10_3) = el (el (el b v8_1) (el f v9_2)) (el f v10_3)) →
 Q false) ∧
 (el f (el (el (el a v8_1) v9_2) v10_3) = el (el (el b v8_1) (el f v9_2)) (el f v10_3) →
 (InI (v10_3 + 1)) ∧
 (H3 (v10_3 + 1) ∧ m3 (v10_3 + 1) < m3 v10_3)))))))) ∧
 (¬ (v10_3 ≤ (f.length : Int) - 1) →
 (InI (v9_2 + 1)) ∧
 (H2 (v9_2 + 1) ∧ m2 (v9_2 + 1) < m2 v9_2))))) ∧
 (¬ (v9_2 ≤ (f.length : Int) - 1) →
 (InI (v8_1 + 1)) ∧
 (H1 (v8_1 + 1) ∧ m1 (v8_1 + 1) < m1 v8_1))))) ∧
 (¬ (v8_1 < (a.length : Int)) →
 Q true)))

def wp_spec_l03Count (a : List (List (List Int))) (b : List (List (List Int))) (f : List Int) (Q : Int → Prop) : Prop :=
 ((0 : Int) ≤ 0 ∧ 0 < (a.length : Int)) ∧
 (((f.length : Int) = ((el a 0).length : Int) →
 Q 1) ∧
 (¬ ((f.length : Int) = ((el a 0).length : Int)) →
 ∃ (H1 : Int → Int → Prop) (m1 : Int → Int → Nat),
 H1 0 0 ∧
 ∀ (v7_1 : Int) (v8_1 : Int), H1 v7_1 v8_1 →
 ( ((0 : Int) ≤ 0 ∧ 0 < (b.length : Int)) ∧
 ((v8_1 < ((el b 0).length : Int) →
 (small f) ∧
 ((f.length : Int) + (([v8_1]).length : Int) ≤ 1000000000) ∧
 (fitD a b (f ++ ([v8_1]))) ∧
 (((dec (conA a b (f ++ ([v8_1])))) = true →
 ((((el a 0).length : Int) - ((f ++ ([v8_1])).length : Int)).toNat < (((el a 0).length : Int) - (f.length : Int)).toNat) ∧
 (cntD a b (f ++ ([v8_1]))) ∧
 (InI (v7_1 + (cntI (el a 0) (el b 0) (f ++ ([v8_1]))))) ∧
 (InI (v8_1 + 1)) ∧
 (H1 (v7_1 + (cntI (el a 0) (el b 0) (f ++ ([v8_1])))) (v8_1 + 1) ∧ m1 (v7_1 + (cntI (el a 0) (el b 0) (f ++ ([v8_1])))) (v8_1 + 1) < m1 v7_1 v8_1)) ∧
 ((dec (conA a b (f ++ ([v8_1])))) = false →
 (InI (v8_1 + 1)) ∧
 (H1 v7_1 (v8_1 + 1) ∧ m1 v7_1 (v8_1 + 1) < m1 v7_1 v8_1)))) ∧
 (¬ (v8_1 < ((el b 0).length : Int)) →
 Q v7_1)))))

def wp_spec_CountRackMaps (r : List (List Int)) (s : List (List Int)) (Q : Int → Int → Prop) : Prop :=
 (small2 r) ∧
 (((isRk r) = false →
 Q 0 1) ∧
 ((isRk r) = true →
 (small2 s) ∧
 (((isRk s) = false →
 Q 0 1) ∧
 ((isRk s) = true →
 ∃ (H1 : Int → Int → Prop) (m1 : Int → Int → Nat),
 H1 1 0 ∧
 ∀ (v6_1 : Int) (v7_1 : Int), H1 v6_1 v7_1 →
 ( ((v7_1 < (r.length : Int) →
 (InI (v6_1 * (s.length : Int))) ∧
 ((1000000 < v6_1 * (s.length : Int) →
 Q 0 3) ∧
 (¬ (1000000 < v6_1 * (s.length : Int)) →
 (InI (v7_1 + 1)) ∧
 (H1 (v6_1 * (s.length : Int)) (v7_1 + 1) ∧ m1 (v6_1 * (s.length : Int)) (v7_1 + 1) < m1 v6_1 v7_1)))) ∧
 (¬ (v7_1 < (r.length : Int)) →
 (cntD ([r]) ([s]) ([] : List Int)) ∧
 Q (cntI (el ([r]) 0) (el ([s]) 0) ([] : List Int)) 0)))))))

def wp_impl_ProductRack (r : List (List Int)) (s : List (List Int)) (Q : List (List Int) → Int → Prop) : Prop :=
 (small2 r) ∧
 (((isRk r) = false →
 Q ([]) 1) ∧
 ((isRk r) = true →
 (small2 s) ∧
 (((isRk s) = false →
 Q ([]) 1) ∧
 ((isRk s) = true →
 (InI ((r.length : Int) * (s.length : Int))) ∧
 ((12 < (r.length : Int) * (s.length : Int) →
 Q ([]) 3) ∧
 (¬ (12 < (r.length : Int) * (s.length : Int)) →
 (InI ((r.length : Int) * (s.length : Int))) ∧
 (0 ≤ ((r.length : Int) * (s.length : Int)) ∧ ((r.length : Int) * (s.length : Int)) ≤ 1000000 ∧ ∀ x_ y_, 0 ≤ x_ → x_ < ((r.length : Int) * (s.length : Int)) → 0 ≤ y_ → y_ < ((r.length : Int) * (s.length : Int)) → (fun z0 z1 => isTab r = true ∧ isTab s = true ∧ (s.length : Int) = (s.length : Int) ∧ 0 ≤ z0 ∧ z0 < (r.length : Int) * (s.length : Int) ∧ 0 ≤ z1 ∧ z1 < (r.length : Int) * (s.length : Int)) x_ y_ ∧ InI ((fun z0 z1 => el (el r (z0 / (s.length : Int))) (z1 / (s.length : Int)) * (s.length : Int) + el (el s (z0 % (s.length : Int))) (z1 % (s.length : Int))) x_ y_)) ∧
 Q (tab ((r.length : Int) * (s.length : Int)) (fun z0 z1 => el (el r (z0 / (s.length : Int))) (z1 / (s.length : Int)) * (s.length : Int) + el (el s (z0 % (s.length : Int))) (z1 % (s.length : Int)))) 0))))))

def wp_impl_CountRackMaps (r : List (List Int)) (s : List (List Int)) (Q : Int → Int → Prop) : Prop :=
 (small2 r) ∧
 (((isRk r) = false →
 Q 0 1) ∧
 ((isRk r) = true →
 (small2 s) ∧
 (((isRk s) = false →
 Q 0 1) ∧
 ((isRk s) = true →
 ∃ (H1 : Int → Int → Prop) (m1 : Int → Int → Nat),
 H1 1 0 ∧
 ∀ (v6_1 : Int) (v18_1 : Int), H1 v6_1 v18_1 →
 ( ((v18_1 < (r.length : Int) →
 (InI (v6_1 * (s.length : Int))) ∧
 ((1000000 < v6_1 * (s.length : Int) →
 Q 0 3) ∧
 (¬ (1000000 < v6_1 * (s.length : Int)) →
 (InI (v18_1 + 1)) ∧
 (H1 (v6_1 * (s.length : Int)) (v18_1 + 1) ∧ m1 (v6_1 * (s.length : Int)) (v18_1 + 1) < m1 v6_1 v18_1)))) ∧
 (¬ (v18_1 < (r.length : Int)) →
 (isTab r = true ∧ isTab s = true ∧ (([] : List Int).length : Int) ≤ (r.length : Int) ∧ ∀ x_ ∈ ([] : List Int), 0 ≤ x_ ∧ x_ < (s.length : Int)) ∧
 Q (cntI r s ([] : List Int)) 0)))))))

theorem pro_bd {n m x : Int} (_hn : 1 ≤ n ∧ n ≤ 12) (hm : 1 ≤ m ∧ m ≤ 12) (hx : 0 ≤ x ∧ x < n * m) : (0 ≤ x / m ∧ x / m < n) ∧ (0 ≤ x % m ∧ x % m < m) :=
  ⟨⟨Int.ediv_nonneg hx.1 (by omega), Int.ediv_lt_of_lt_mul (by omega) hx.2⟩, Int.emod_nonneg x (by omega), Int.emod_lt_of_pos x (by omega)⟩
theorem pro_N {n m : Int} (hn : 1 ≤ n ∧ n ≤ 12) (hm : 1 ≤ m ∧ m ≤ 12) : 0 ≤ n * m ∧ n * m ≤ 144 := by
  have := mulB (a := n) (i := m) (A := 12) (B := 12) ⟨by omega, by omega, by omega, by omega⟩
  omega
theorem p_impl_ProductRack_1 (x y : Int) (r : List (List Int)) (m : Int) (s : List (List Int)) (hp : isTab r = true ∧ isTab s = true ∧ m = (s.length : Int) ∧ 0 ≤ x ∧ x < (r.length : Int) * (s.length : Int) ∧ 0 ≤ y ∧ y < (r.length : Int) * (s.length : Int)) : wp_impl_ProductRack_1 x y r m s (fun y0 => y0 = el (el r (x / m)) (y / m) * m + el (el s (x % m)) (y % m)) := by
  unfold wp_impl_ProductRack_1
  obtain ⟨hr, hs, rfl, x0, x1, y0, y1⟩ := hp
  have nr := isTab_len hr
  have ns := isTab_len hs
  have hN := pro_N nr ns
  obtain ⟨xa, xb⟩ := pro_bd nr ns ⟨x0, x1⟩
  obtain ⟨ya, yb⟩ := pro_bd nr ns ⟨y0, y1⟩
  have e1 := rk_el hr xa ya
  have e2 := rk_el hs xb yb
  have l1 := rk_len hr xa
  have l2 := rk_len hs xb
  have hm := mulB (a := el (el r (x / (s.length : Int))) (y / (s.length : Int))) (i := (s.length : Int)) (A := 12) (B := 12) ⟨e1.1, by omega, by omega, by omega⟩
  exact ⟨⟨x0, by omega, by omega⟩, xa, ⟨y0, by omega, by omega⟩, ⟨ya.1, by omega⟩, ⟨by omega, by omega⟩, ⟨x0, by omega⟩, xb, ⟨y0, by omega⟩, ⟨yb.1, by omega⟩, ⟨by omega, by omega⟩, rfl⟩
theorem pro1 {a b : List (List Int)} (h : (isRk a && isRk b) = false) : [] = ProT a b ∧ 1 = ProE a b := by
  have e : ProE a b = 1 := by unfold ProE; rw [h]; rfl
  exact ⟨by unfold ProT; rw [e]; rfl, e.symm⟩
theorem pro3 {a b : List (List Int)} (h : (isRk a && isRk b) = true) (h2 : (12 : Int) < (a.length : Int) * (b.length : Int)) : [] = ProT a b ∧ 3 = ProE a b := by
  have e : ProE a b = 3 := by unfold ProE; rw [h, if_pos h2]; rfl
  exact ⟨by unfold ProT; rw [e]; rfl, e.symm⟩
theorem pro0 {a b : List (List Int)} (h : (isRk a && isRk b) = true) (h2 : ¬ (12 : Int) < (a.length : Int) * (b.length : Int)) : proT a b = ProT a b ∧ 0 = ProE a b := by
  have e : ProE a b = 0 := by unfold ProE; rw [h, if_neg h2]; rfl
  exact ⟨by unfold ProT; rw [e]; rfl, e.symm⟩
theorem p_impl_ProductRack (r s : List (List Int)) (hp : small2 r ∧ small2 s) : wp_impl_ProductRack r s (fun y0 y1 => y0 = ProT r s ∧ y1 = ProE r s) := by
  unfold wp_impl_ProductRack
  refine ⟨hp.1, fun h => pro1 (by rw [h]; rfl), fun h => ⟨hp.2, fun h2 => pro1 (by rw [h, h2]; rfl), fun h2 => ?_⟩⟩
  have hr := isRk_tab h
  have hs := isRk_tab h2
  have nr := isTab_len hr
  have ns := isTab_len hs
  have hN := pro_N nr ns
  refine ⟨⟨by omega, by omega⟩, fun h3 => pro3 (by rw [h, h2]; rfl) h3, fun h3 => ⟨⟨by omega, by omega⟩, ⟨by omega, by omega, fun x y x0 x1 y0 y1 => ⟨⟨hr, hs, rfl, x0, x1, y0, y1⟩, ?_⟩⟩, pro0 (by rw [h, h2]; rfl) h3⟩⟩
  obtain ⟨xa, xb⟩ := pro_bd nr ns ⟨x0, x1⟩
  obtain ⟨ya, yb⟩ := pro_bd nr ns ⟨y0, y1⟩
  have e1 := rk_el hr xa ya
  have e2 := rk_el hs xb yb
  have hm := mulB (a := el (el r (x / (s.length : Int))) (y / (s.length : Int))) (i := (s.length : Int)) (A := 12) (B := 12) ⟨e1.1, by omega, by omega, by omega⟩
  constructor <;> dsimp only <;> omega
theorem p_impl_countMaps (r s : List (List Int)) (f : List Int) (hp : isTab r = true ∧ isTab s = true ∧ (f.length : Int) ≤ (r.length : Int) ∧ ∀ x_ ∈ f, 0 ≤ x_ ∧ x_ < (s.length : Int)) : wp_impl_countMaps r s f (fun y0 => y0 = cntI r s f) := by
  unfold wp_impl_countMaps
  obtain ⟨hr, hs, hl, hf⟩ := hp
  have nr := isTab_len hr
  have ns := isTab_len hs
  refine ⟨fun x => 0 ≤ x ∧ x ≤ (f.length : Int) ∧ Upto x fun x => ∀ y, 0 ≤ y → y < (f.length : Int) → el (el r x) y < (f.length : Int) → el f (el (el r x) y) = el (el s (el f x)) (el f y), fun x => ((f.length : Int) - x).toNat, ⟨by omega, by omega, upto0⟩, ?_⟩
  rintro x ⟨x0, x1, xI⟩
  dsimp only
  refine ⟨fun xlt => ?_, fun xge => ?_⟩
  · refine ⟨fun y => 0 ≤ y ∧ y ≤ (f.length : Int) ∧ Upto y fun y => el (el r x) y < (f.length : Int) → el f (el (el r x) y) = el (el s (el f x)) (el f y), fun y => ((f.length : Int) - y).toNat, ⟨by omega, by omega, upto0⟩, ?_⟩
    rintro y ⟨y0, y1, yI⟩
    dsimp only
    refine ⟨fun ylt => ?_, fun yge => ⟨⟨by omega, by omega⟩, ⟨by omega, by omega, upto1 xI fun y a b => yI y a (by omega)⟩, by omega⟩⟩
    have hx : 0 ≤ x ∧ x < (r.length : Int) := ⟨x0, by omega⟩
    have e := rk_el hr hx (y := y) ⟨y0, by omega⟩
    have l := rk_len hr hx
    have fx := hf _ (el_mem (l := f) (i := x) ⟨x0, xlt⟩)
    have fy := hf _ (el_mem (l := f) (i := y) ⟨y0, ylt⟩)
    have ls := rk_len hs fx
    refine ⟨hx, ⟨y0, by omega⟩, fun h1 => ⟨⟨e.1, h1⟩, ⟨x0, xlt⟩, ⟨y0, ylt⟩, fx, ⟨fy.1, by omega⟩, fun h2 => ?_, fun h2 => ⟨⟨by omega, by omega⟩, ⟨by omega, by omega, upto1 yI fun _ => h2⟩, by omega⟩⟩, fun h1 => ⟨⟨by omega, by omega⟩, ⟨by omega, by omega, upto1 yI fun h => absurd h h1⟩, by omega⟩⟩
    exact (cntI_no fun hC => h2 (hC x y x0 xlt y0 ylt h1)).symm
  · have hC : conP r s f := fun x y a b c d => xI x a (by omega) y c d
    refine ⟨fun h => (cntI_full hC h).symm, fun h => ?_⟩
    have hlt : (f.length : Int) < (r.length : Int) := by omega
    rw [cntI_step hC hlt]
    have bd := fun v => cntI_le (f := f ++ [v]) hr hs
    refine ⟨fun c v => 0 ≤ v ∧ v ≤ (s.length : Int) ∧ c = sumI v (fun v => cntI r s (f ++ [v])), fun _ v => ((s.length : Int) - v).toNat, ⟨by omega, by omega, rfl⟩, ?_⟩
    rintro c v ⟨v0, v1, hc⟩
    dsimp only
    refine ⟨fun vlt => ?_, fun vge => ?_⟩
    · have b1 := sumI_le (v := v) (m := 12) bd (by omega) (by omega)
      have b2 := bd v
      refine ⟨by show (f.length : Int) ≤ 1000000000; omega, by simp; omega, by simp; omega, ⟨hr, hs, by simp; omega, fun z hz => ?_⟩, ⟨by omega, by omega⟩, ⟨by omega, by omega⟩, ⟨by omega, by omega, by rw [sumI_succ v0, hc]⟩, by omega⟩
      rcases List.mem_append.1 hz with hz | hz
      · exact hf z hz
      · simp at hz; omega
    · rw [hc, show v = (s.length : Int) by omega]
theorem p_spec_l03Fits (a b : List (List (List Int))) (f : List Int) (hp : fitD a b f) : wp_spec_l03Fits a b f (fun y0 => y0 = dec (conA a b f)) := by
  unfold wp_spec_l03Fits
  obtain ⟨hsm, hsf, hbl, hall⟩ := hp
  have small12 : ∀ k, 0 ≤ k → k < (a.length : Int) → (f.length : Int) ≤ 12 := fun k k0 k1 => by
    obtain ⟨h1, _, h3, _⟩ := hall k k0 k1
    have := isTab_len h1; omega
  refine ⟨?_, fun k => 0 ≤ k ∧ k ≤ (a.length : Int) ∧ Upto k fun k => conP (el a k) (el b k) f, fun k => ((a.length : Int) - k).toNat, ⟨by omega, by omega, upto0⟩, ?_⟩
  · have : (f.length : Int) ≤ 1000000000 := hsf
    exact ⟨by omega, by omega⟩
  rintro k ⟨k0, k1, kI⟩
  dsimp only
  refine ⟨fun klt => ?_, fun kge => (dec_t fun k a b => kI k a (by omega)).symm⟩
  have f12 := small12 k k0 klt
  obtain ⟨hta, htb, hfl, hfe, hprev⟩ := hall k k0 klt
  refine ⟨fun x => 0 ≤ x ∧ x ≤ (f.length : Int) ∧ Upto x fun x => ∀ y, 0 ≤ y → y < (f.length : Int) → el (el (el a k) x) y < (f.length : Int) → el f (el (el (el a k) x) y) = el (el (el b k) (el f x)) (el f y), fun x => ((f.length : Int) - x).toNat, ⟨by omega, by omega, upto0⟩, ?_⟩
  rintro x ⟨x0, x1, xI⟩
  dsimp only
  refine ⟨fun xlt => ?_, fun xge => ⟨⟨by omega, by omega⟩, ⟨by omega, by omega, upto1 kI fun x y p q r s t => xI x p (by omega) y r s t⟩, by omega⟩⟩
  refine ⟨fun y => 0 ≤ y ∧ y ≤ (f.length : Int) ∧ Upto y fun y => el (el (el a k) x) y < (f.length : Int) → el f (el (el (el a k) x) y) = el (el (el b k) (el f x)) (el f y), fun y => ((f.length : Int) - y).toNat, ⟨by omega, by omega, upto0⟩, ?_⟩
  rintro y ⟨y0, y1, yI⟩
  dsimp only
  refine ⟨fun ylt => ?_, fun yge => ⟨⟨by omega, by omega⟩, ⟨by omega, by omega, upto1 xI fun y p q => yI y p (by omega)⟩, by omega⟩⟩
  have hx : 0 ≤ x ∧ x < ((el a k).length : Int) := ⟨x0, by omega⟩
  have e := rk_el hta hx (y := y) ⟨y0, by omega⟩
  have l := rk_len hta hx
  have fx := hfe _ (el_mem (l := f) (i := x) ⟨x0, by omega⟩)
  have fy := hfe _ (el_mem (l := f) (i := y) ⟨y0, by omega⟩)
  have ls := rk_len htb fx
  have skip : (el (el (el a k) x) y < (f.length : Int) → el f (el (el (el a k) x) y) = el (el (el b k) (el f x)) (el f y)) → InI (y + 1) ∧ (0 ≤ y + 1 ∧ y + 1 ≤ (f.length : Int) ∧ Upto (y + 1) fun y => el (el (el a k) x) y < (f.length : Int) → el f (el (el (el a k) x) y) = el (el (el b k) (el f x)) (el f y)) ∧ ((f.length : Int) - (y + 1)).toNat < ((f.length : Int) - y).toNat := fun h => ⟨⟨by omega, by omega⟩, ⟨by omega, by omega, upto1 yI h⟩, by omega⟩
  have key : ¬ ((f.length : Int) - 1 < el (el (el a k) x) y) → (0 ≤ el (el (el a k) x) y ∧ el (el (el a k) x) y < (f.length : Int)) ∧ (0 ≤ k ∧ k < (b.length : Int)) ∧ (0 ≤ x ∧ x < (f.length : Int)) ∧ (0 ≤ y ∧ y < (f.length : Int)) ∧ (0 ≤ el f x ∧ el f x < ((el b k).length : Int)) ∧ (0 ≤ el f y ∧ el f y < ((el (el b k) (el f x)).length : Int)) ∧
      (¬ (el f (el (el (el a k) x) y) = el (el (el b k) (el f x)) (el f y)) → false = dec (conA a b f)) ∧ (el f (el (el (el a k) x) y) = el (el (el b k) (el f x)) (el f y) → InI (y + 1) ∧ (0 ≤ y + 1 ∧ y + 1 ≤ (f.length : Int) ∧ Upto (y + 1) fun y => el (el (el a k) x) y < (f.length : Int) → el f (el (el (el a k) x) y) = el (el (el b k) (el f x)) (el f y)) ∧ ((f.length : Int) - (y + 1)).toNat < ((f.length : Int) - y).toNat) := fun h1 =>
    ⟨⟨e.1, by omega⟩, ⟨k0, by omega⟩, ⟨x0, by omega⟩, ⟨y0, by omega⟩, fx, ⟨fy.1, by omega⟩, fun h2 => (dec_f fun hC => h2 (hC k k0 klt x y x0 (by omega) y0 (by omega) (by omega))).symm, fun h2 => skip fun _ => h2⟩
  refine ⟨⟨k0, klt⟩, hx, ⟨y0, by omega⟩, fun h1 => skip fun h => by omega, fun h1 => ⟨fun h2 => ⟨fun h3 => ⟨fun h4 => skip fun _ => hprev x y x0 h2 y0 h3 h4, fun h4 => key h1⟩, fun h3 => key h1⟩, fun h2 => key h1⟩⟩
theorem p_spec_l03Count (a b : List (List (List Int))) (f : List Int) (hp : cntD a b f) : wp_spec_l03Count a b f (fun y0 => y0 = cntI (el a 0) (el b 0) f) := by
  unfold wp_spec_l03Count
  obtain ⟨ha, hb, hr, hs, hl, hf, hC⟩ := hp
  have nr := isTab_len hr
  have ns := isTab_len hs
  refine ⟨⟨by omega, by omega⟩, fun h => (cntI_full hC h).symm, fun h => ?_⟩
  have hlt : (f.length : Int) < ((el a 0).length : Int) := by omega
  rw [cntI_step hC hlt]
  have bd := fun v => cntI_le (f := f ++ [v]) hr hs
  refine ⟨fun c v => 0 ≤ v ∧ v ≤ ((el b 0).length : Int) ∧ c = sumI v (fun v => cntI (el a 0) (el b 0) (f ++ [v])), fun _ v => (((el b 0).length : Int) - v).toNat, ⟨by omega, by omega, rfl⟩, ?_⟩
  rintro c v ⟨v0, v1, hc⟩
  dsimp only
  refine ⟨⟨by omega, by omega⟩, fun vlt => ?_, fun vge => by rw [hc, show v = ((el b 0).length : Int) by omega]⟩
  have b1 := sumI_le (v := v) (m := 12) bd (by omega) (by omega)
  have b2 := bd v
  have hf' : ∀ z ∈ f ++ [v], 0 ≤ z ∧ z < ((el b 0).length : Int) := fun z hz => by
    rcases List.mem_append.1 hz with hz | hz
    · exact hf z hz
    · simp at hz; omega
  have k0 : ∀ k, 0 ≤ k → k < (a.length : Int) → k = 0 := fun k p q => by omega
  have hAc : conA a b (f ++ [v]) ↔ conP (el a 0) (el b 0) (f ++ [v]) := ⟨fun h => h 0 (by omega) (by omega), fun h k p q => by rw [k0 k p q]; exact h⟩
  refine ⟨by show (f.length : Int) ≤ 1000000000; omega, by simp; omega, ⟨by show (a.length : Int) ≤ 1000000000; omega, by show ((f ++ [v]).length : Int) ≤ 1000000000; simp; omega, by omega, fun k p q => ?_⟩, fun h1 => ?_, fun h1 => ?_⟩
  · rw [k0 k p q]
    refine ⟨hr, hs, by simp; omega, hf', fun x y x0 x1 y0 y1 z1 => ?_⟩
    simp only [List.length_append, List.length_singleton, Int.natCast_add, Int.natCast_one] at x1 y1 z1
    exact conP_app hC x0 (by omega) y0 (by omega) (rk_el hr (x := x) (y := y) ⟨x0, by omega⟩ ⟨y0, by omega⟩).1 (by omega)
  · have h2 := hAc.1 (dec_iff.1 h1)
    exact ⟨by simp; omega, ⟨ha, hb, hr, hs, by simp; omega, hf', h2⟩, ⟨by omega, by omega⟩, ⟨by omega, by omega⟩, ⟨by omega, by omega, by rw [sumI_succ v0, hc]⟩, by omega⟩
  · have h2 : ¬ conP (el a 0) (el b 0) (f ++ [v]) := fun hh => dec_iff_f.1 h1 (hAc.2 hh)
    exact ⟨⟨by omega, by omega⟩, ⟨by omega, by omega, by rw [sumI_succ v0, hc, cntI_no h2]; omega⟩, by omega⟩
theorem crm1 {r s : List (List Int)} (h : (isRk r && isRk s) = false) : 0 = CrmV r s ∧ 1 = CrmE r s := by
  have e : CrmE r s = 1 := by unfold CrmE; rw [h]; rfl
  exact ⟨by unfold CrmV; rw [e]; rfl, e.symm⟩
theorem crm3 {r s : List (List Int)} (h : (isRk r && isRk s) = true) (h2 : (1000000 : Int) < (s.length : Int) ^ r.length) : 0 = CrmV r s ∧ 3 = CrmE r s := by
  have e : CrmE r s = 3 := by unfold CrmE; rw [h, if_pos h2]; rfl
  exact ⟨by unfold CrmV; rw [e]; rfl, e.symm⟩
theorem crm0 {r s : List (List Int)} (h : (isRk r && isRk s) = true) (h2 : ¬ (1000000 : Int) < (s.length : Int) ^ r.length) : cntI r s [] = CrmV r s ∧ 0 = CrmE r s := by
  have e : CrmE r s = 0 := by unfold CrmE; rw [h, if_neg h2]; rfl
  exact ⟨by unfold CrmV; rw [e]; rfl, e.symm⟩
theorem crm_step {m v w n : Int} (hm : 1 ≤ m ∧ m ≤ 12) (hv : v = m ^ w.toNat) (w0 : 0 ≤ w) (hw : w < n) (h : v ≤ 1000000) : InI (v * m) ∧ v * m = m ^ (w + 1).toNat ∧ (1000000 < v * m → 1000000 < m ^ n.toNat) := by
  have p0 : 0 ≤ v := by rw [hv]; exact Int.pow_nonneg (by omega)
  have e : v * m = m ^ (w + 1).toNat := by rw [hv, show (w + 1).toNat = w.toNat + 1 by omega, Int.pow_succ]
  have b := mulB (a := v) (i := m) (A := 1000000) (B := 12) ⟨p0, h, by omega, by omega⟩
  refine ⟨⟨by omega, by omega⟩, e, fun h1 => ?_⟩
  have := pow_mono hm.1 (w + 1).toNat n.toNat (by omega)
  omega
theorem p_impl_CountRackMaps (r s : List (List Int)) (hp : small2 r ∧ small2 s) : wp_impl_CountRackMaps r s (fun y0 y1 => y0 = CrmV r s ∧ y1 = CrmE r s) := by
  unfold wp_impl_CountRackMaps
  refine ⟨hp.1, fun h => crm1 (by rw [h]; rfl), fun h => ⟨hp.2, fun h2 => crm1 (by rw [h, h2]; rfl), fun h2 => ?_⟩⟩
  have hr := isRk_tab h
  have hs := isRk_tab h2
  have nr := isTab_len hr
  have ns := isTab_len hs
  have hb : (isRk r && isRk s) = true := by rw [h, h2]; rfl
  refine ⟨fun v w => 0 ≤ w ∧ w ≤ (r.length : Int) ∧ v = (s.length : Int) ^ w.toNat ∧ v ≤ 1000000, fun _ w => ((r.length : Int) - w).toNat, ⟨by omega, by omega, by simp, by omega⟩, ?_⟩
  rintro v w ⟨w0, w1, hv, hv1⟩
  dsimp only
  refine ⟨fun wlt => ?_, fun wge => ?_⟩
  · obtain ⟨c1, c2, c3⟩ := crm_step ns hv w0 wlt hv1
    exact ⟨c1, fun h3 => crm3 hb (by have := c3 h3; rwa [Int.toNat_natCast] at this), fun h3 => ⟨⟨by omega, by omega⟩, ⟨by omega, by omega, c2, by omega⟩, by omega⟩⟩
  · rw [show w.toNat = r.length by omega] at hv
    exact ⟨⟨hr, hs, by simp, fun x hx => (List.not_mem_nil hx).elim⟩, crm0 hb (by omega)⟩
theorem p_spec_CountRackMaps (r s : List (List Int)) (hp : small2 r ∧ small2 s) : wp_spec_CountRackMaps r s (fun y0 y1 => y0 = CrmV r s ∧ y1 = CrmE r s) := by
  unfold wp_spec_CountRackMaps
  refine ⟨hp.1, fun h => crm1 (by rw [h]; rfl), fun h => ⟨hp.2, fun h2 => crm1 (by rw [h, h2]; rfl), fun h2 => ?_⟩⟩
  have hr := isRk_tab h
  have hs := isRk_tab h2
  have nr := isTab_len hr
  have ns := isTab_len hs
  have hb : (isRk r && isRk s) = true := by rw [h, h2]; rfl
  refine ⟨fun v w => 0 ≤ w ∧ w ≤ (r.length : Int) ∧ v = (s.length : Int) ^ w.toNat ∧ v ≤ 1000000, fun _ w => ((r.length : Int) - w).toNat, ⟨by omega, by omega, by simp, by omega⟩, ?_⟩
  rintro v w ⟨w0, w1, hv, hv1⟩
  dsimp only
  refine ⟨fun wlt => ?_, fun wge => ?_⟩
  · obtain ⟨c1, c2, c3⟩ := crm_step ns hv w0 wlt hv1
    exact ⟨c1, fun h3 => crm3 hb (by have := c3 h3; rwa [Int.toNat_natCast] at this), fun h3 => ⟨⟨by omega, by omega⟩, ⟨by omega, by omega, c2, by omega⟩, by omega⟩⟩
  · rw [show w.toNat = r.length by omega] at hv
    rw [el_single, el_single]
    exact ⟨⟨rfl, rfl, by rw [el_single]; exact hr, by rw [el_single]; exact hs, by simp, ⟨fun x hx => (List.not_mem_nil hx).elim, conP_nil _ _⟩⟩, crm0 hb (by omega)⟩

set_option maxRecDepth 100000 in
set_option maxHeartbeats 4000000 in
theorem w_impl_ProductRack_1 (x : Int) (y : Int) (r : List (List Int)) (m : Int) (s : List (List Int)) (Q : Int → Prop) (h : wp_impl_ProductRack_1 x y r m s Q) : AF Try.prog 21 [ci x, ci y, .ptr [.lst (rows r)], .ptr [ci m], .ptr [.lst (rows s)]] (fun R_ => ∃ y0, Q y0 ∧ R_ = ci y0) := by
  refine AF.ofWQ (af_enter (n := 35) Try.func21 rfl (by rfl) rfl (Nat.le_of_ble_eq_true rfl) ?_)
  unfold wp_impl_ProductRack_1 at h
  refine aw_seq ?_
  refine aw_gh (gh_to (n := 35) (σ' := []) (env' := [(0, .c (ci x)), (1, .c (ci y)), (2, .c (.ptr [.lst (rows r)])), (3, .c (.ptr [ci m])), (4, .c (.ptr [.lst (rows s)]))]) rfl rfl ⟨rfl, rfl, rfl, rfl, rfl, trivial⟩) ?_
  refine aw_region ?_
  refine run_s (ss_assign rfl) rfl ?_
  refine run_nil ?_
  refine aw_seq ?_
  refine aw_gh (gh_to (n := 35) (σ' := []) (env' := [(0, .c (ci x)), (1, .c (ci y)), (2, .c (.ptr [.lst (rows r)])), (3, .c (.ptr [ci m])), (4, .c (.ptr [.lst (rows s)])), (7, .c (ci 0))]) rfl rfl ⟨rfl, rfl, rfl, rfl, rfl, rfl, trivial⟩) ?_
  refine aw_regionD (kd := kdl [0, 1, 0, 1, 0, 0, 1, 0, 1, 0, 0, 1, 1, 0, 0, 1, 0, 1, 0, 0, 1, 0, 1, 0, 0, 1, 0, 0]) (ord := [0, 2, 7, 14, 16, 21, 1, 3, 4, 5, 6, 8, 9, 10, 11, 12, 13, 15, 17, 18, 19, 20, 22, 23, 24, 25, 26, 27]) [] mixed (by kernel_rfl) ?_
  refine rd_s rfl rfl trivial (ss_field_ptr rfl) rfl ?_
  refine rd_s rfl rfl trivial (ss_move rfl) rfl ?_
  refine rd_s rfl rfl trivial (ss_move rfl) rfl ?_
  refine rd_s rfl rfl trivial (ss_field_ptr rfl) rfl ?_
  refine rd_s rfl rfl trivial (ss_move rfl) rfl ?_
  refine rd_s rfl rfl trivial (ss_move rfl) rfl ?_
  refine rd_l rfl rfl trivial (ss_load_ptr rfl rfl) rfl ?_
  refine rd_l rfl rfl trivial (ss_load_ptr rfl rfl) rfl ?_
  obtain ⟨q1, h⟩ := h
  refine rd_s rfl rfl trivial (ss_quo rfl rfl q1) rfl ?_
  obtain ⟨q2, h⟩ := h
  refine rd_s rfl rfl trivial (ss_idxL rfl rfl q2) rfl ?_
  refine rd_l rfl rfl trivial (ss_loadL (f := (fun r => C.lst (ints r))) rfl q2) rfl ?_
  refine rd_l rfl rfl trivial (ss_load_ptr rfl rfl) rfl ?_
  obtain ⟨q3, h⟩ := h
  refine rd_s rfl rfl trivial (ss_quo rfl rfl q3) rfl ?_
  obtain ⟨q4, h⟩ := h
  refine rd_s rfl rfl trivial (ss_idxL rfl rfl q4) rfl ?_
  refine rd_l rfl rfl trivial (ss_loadL (f := ci) rfl q4) rfl ?_
  refine rd_l rfl rfl trivial (ss_load_ptr rfl rfl) rfl ?_
  obtain ⟨q5, h⟩ := h
  refine rd_s rfl rfl trivial (ss_mul rfl rfl q5) rfl ?_
  refine rd_l rfl rfl trivial (ss_load_ptr rfl rfl) rfl ?_
  refine rd_l rfl rfl trivial (ss_load_ptr rfl rfl) rfl ?_
  obtain ⟨q6, h⟩ := h
  refine rd_s rfl rfl trivial (ss_rem rfl rfl q6) rfl ?_
  obtain ⟨q7, h⟩ := h
  refine rd_s rfl rfl trivial (ss_idxL rfl rfl q7) rfl ?_
  refine rd_l rfl rfl trivial (ss_loadL (f := (fun r => C.lst (ints r))) rfl q7) rfl ?_
  refine rd_l rfl rfl trivial (ss_load_ptr rfl rfl) rfl ?_
  obtain ⟨q8, h⟩ := h
  refine rd_s rfl rfl trivial (ss_rem rfl rfl q8) rfl ?_
  obtain ⟨q9, h⟩ := h
  refine rd_s rfl rfl trivial (ss_idxL rfl rfl q9) rfl ?_
  refine rd_l rfl rfl trivial (ss_loadL (f := ci) rfl q9) rfl ?_
  obtain ⟨q10, h⟩ := h
  refine rd_s rfl rfl trivial (ss_add rfl rfl q10) rfl ?_
  refine rd_s rfl rfl trivial (ss_assign rfl) rfl ?_
  refine rd_nil ?_
  refine aw_ret ?_
  exact retAF_mk (retv1 rfl (rv_tmp rfl)) rfl rfl ⟨_, (cle_refl _), _, h, rfl⟩

theorem c_impl_ProductRack_1 (x : Int) (y : Int) (r : List (List Int)) (m : Int) (s : List (List Int)) (hp : isTab r = true ∧ isTab s = true ∧ m = (s.length : Int) ∧ 0 ≤ x ∧ x < (r.length : Int) * (s.length : Int) ∧ 0 ≤ y ∧ y < (r.length : Int) * (s.length : Int)) : AF Try.prog 21 [ci x, ci y, .ptr [.lst (rows r)], .ptr [ci m], .ptr [.lst (rows s)]] (fun R_ => R_ = ci (el (el r (x / m)) (y / m) * m + el (el s (x % m)) (y % m))) :=
  (w_impl_ProductRack_1 x y r m s (fun y0 => y0 = el (el r (x / m)) (y / m) * m + el (el s (x % m)) (y % m)) (p_impl_ProductRack_1 x y r m s hp)).mono (by rintro r ⟨_, rfl, rfl⟩; rfl)

set_option maxRecDepth 100000 in
set_option maxHeartbeats 4000000 in
theorem w_impl_countMaps (r : List (List Int)) (s : List (List Int)) (f : List Int) (Q : Int → Prop) (hrec : ∀ (r' : List (List Int)) (s' : List (List Int)) (f' : List Int), ((r'.length : Int) - (f'.length : Int)).toNat < ((r.length : Int) - (f.length : Int)).toNat → (isTab r' = true ∧ isTab s' = true ∧ (f'.length : Int) ≤ (r'.length : Int) ∧ ∀ x_ ∈ f', 0 ≤ x_ ∧ x_ < (s'.length : Int)) → AF Try.prog 15 [.lst (rows r'), .lst (rows s'), .lst (ints f')] (fun R_ => R_ = ci (cntI r' s' f'))) (h : wp_impl_countMaps r s f Q) : AF Try.prog 15 [.lst (rows r), .lst (rows s), .lst (ints f)] (fun R_ => ∃ y0, Q y0 ∧ R_ = ci y0) := by
  refine AF.ofWQ (af_enter (n := 77) Try.func15 rfl (by rfl) rfl (Nat.le_of_ble_eq_true rfl) ?_)
  unfold wp_impl_countMaps at h
  refine aw_seq ?_
  refine aw_gh (gh_to (n := 77) (σ' := []) (env' := [(0, .c (.lst (rows r))), (1, .c (.lst (rows s))), (2, .c (.lst (ints f)))]) rfl rfl ⟨rfl, rfl, rfl, trivial⟩) ?_
  refine aw_region ?_
  refine run_s (ss_assign rfl) rfl ?_
  refine run_nil ?_
  refine aw_seq ?_
  refine aw_seq ?_
  refine aw_region ?_
  refine run_s (ss_move rfl) rfl ?_
  refine run_s (ss_lenL (f := ci) rfl) rfl ?_
  refine run_s (ss_move rfl) rfl ?_
  refine run_nil ?_
  refine aw_block ?_
  obtain ⟨H1, m1, q1, h⟩ := h
  refine aw_loop1 (fun (v14_1 : Int) => ⟨[], [(0, .c (.lst (rows r))), (1, .c (.lst (rows s))), (2, .c (.lst (ints f))), (13, .c (ci (f.length : Int))), (14, .c (ci v14_1))], 77⟩) H1 m1 ⟨0, ghe_to (n := 77) rfl rfl ⟨rfl, rfl, rfl, rfl, rfl, trivial⟩, q1⟩ ?_
  rintro v14_1 q1
  replace h := h v14_1 q1
  refine aw_seq ?_
  refine aw_region ?_
  refine run_s (ss_lss rfl rfl) rfl ?_
  refine run_nil ?_
  refine aw_seq ?_
  refine aw_cond rfl (fun q2 => ?_) (fun q2 => ?_)
  ·replace h := h.1 (of_decide_eq_true q2)
   refine aw_skip ?_
   refine aw_seq ?_
   refine aw_block ?_
   refine aw_seq ?_
   refine aw_region ?_
   refine run_s (ss_move rfl) rfl ?_
   refine run_s (ss_assign rfl) rfl ?_
   refine run_nil ?_
   refine aw_seq ?_
   refine aw_region ?_
   refine run_s (ss_move rfl) rfl ?_
   refine run_s (ss_lenL (f := ci) rfl) rfl ?_
   refine run_s (ss_move rfl) rfl ?_
   refine run_nil ?_
   refine aw_block ?_
   obtain ⟨H2, m2, q3, h⟩ := h
   refine aw_loop1 (fun (v19_2 : Int) => ⟨[], [(0, .c (.lst (rows r))), (1, .c (.lst (rows s))), (2, .c (.lst (ints f))), (7, .c (ci v14_1)), (13, .c (ci (f.length : Int))), (14, .c (ci v14_1)), (18, .c (ci (f.length : Int))), (19, .c (ci v19_2))], 77⟩) H2 m2 ⟨0, ghe_to (n := 77) rfl rfl ⟨rfl, rfl, rfl, rfl, rfl, rfl, rfl, rfl, trivial⟩, q3⟩ ?_
   rintro v19_2 q3
   replace h := h v19_2 q3
   refine aw_seq ?_
   refine aw_region ?_
   refine run_s (ss_lss rfl rfl) rfl ?_
   refine run_nil ?_
   refine aw_seq ?_
   refine aw_cond rfl (fun q4 => ?_) (fun q4 => ?_)
   ·replace h := h.1 (of_decide_eq_true q4)
    refine aw_skip ?_
    refine aw_seq ?_
    refine aw_block ?_
    refine aw_seq ?_
    refine aw_region ?_
    refine run_s (ss_move rfl) rfl ?_
    refine run_s (ss_assign rfl) rfl ?_
    refine run_nil ?_
    refine aw_seq ?_
    refine aw_region ?_
    refine run_s (ss_move rfl) rfl ?_
    refine run_s (ss_move rfl) rfl ?_
    obtain ⟨q5, h⟩ := h
    refine run_s (ss_idxL rfl rfl q5) rfl ?_
    refine run_s (ss_loadL (f := (fun r => C.lst (ints r))) rfl q5) rfl ?_
    refine run_s (ss_move rfl) rfl ?_
    obtain ⟨q6, h⟩ := h
    refine run_s (ss_idxL rfl rfl q6) rfl ?_
    refine run_s (ss_loadL (f := ci) rfl q6) rfl ?_
    refine run_s (ss_assign rfl) rfl ?_
    refine run_nil ?_
    refine aw_seq ?_
    refine aw_gh (gh_to (n := 77) (σ' := []) (env' := [(0, .c (.lst (rows r))), (1, .c (.lst (rows s))), (2, .c (.lst (ints f))), (7, .c (ci v14_1)), (8, .c (ci v19_2)), (9, .c (ci (el (el r v14_1) v19_2))), (13, .c (ci (f.length : Int))), (14, .c (ci v14_1)), (18, .c (ci (f.length : Int))), (19, .c (ci v19_2))]) rfl rfl ⟨rfl, rfl, rfl, rfl, rfl, rfl, rfl, rfl, rfl, rfl, trivial⟩) ?_
    refine aw_regionD (kd := kdl [0, 0, 0, 0, 0, 0, 0, 0, 1, 0, 0, 0, 0, 1, 0, 1, 0, 0, 0, 1, 0, 1, 0, 0]) (ord := [0, 1, 2, 3, 4, 5, 6, 7, 9, 10, 11, 12, 16, 17, 18, 8, 13, 14, 15, 19, 20, 21, 22, 23]) [] mixed (by kernel_rfl) ?_
    refine rd_s rfl rfl trivial (ss_move rfl) rfl ?_
    refine rd_s rfl rfl trivial (ss_move rfl) rfl ?_
    refine rd_s rfl rfl trivial (ss_lenL (f := ci) rfl) rfl ?_
    refine rd_s rfl rfl trivial (ss_lss rfl rfl) rfl ?_
    refine rd_s rfl rfl trivial (ss_move rfl) rfl ?_
    refine rd_split (s := 33) rfl (fun q7 => ?_) (fun q7 => ?_)
    ·replace h := h.1 (of_decide_eq_true q7)
     refine rd_s rfl rfl ⟨_, _, rfl, rfl, q7⟩ (ss_move rfl) rfl ?_
     refine rd_s rfl rfl ⟨_, _, rfl, rfl, q7⟩ (ss_move rfl) rfl ?_
     obtain ⟨q8, h⟩ := h
     refine rd_s rfl rfl ⟨_, _, rfl, rfl, q7⟩ (ss_idxL rfl rfl q8) rfl ?_
     refine rd_s rfl rfl ⟨_, _, rfl, rfl, q7⟩ (ss_move rfl) rfl ?_
     refine rd_s rfl rfl ⟨_, _, rfl, rfl, q7⟩ (ss_move rfl) rfl ?_
     refine rd_s rfl rfl ⟨_, _, rfl, rfl, q7⟩ (ss_move rfl) rfl ?_
     obtain ⟨q9, h⟩ := h
     refine rd_s rfl rfl ⟨_, _, rfl, rfl, q7⟩ (ss_idxL rfl rfl q9) rfl ?_
     refine rd_s rfl rfl ⟨_, _, rfl, rfl, q7⟩ (ss_move rfl) rfl ?_
     refine rd_s rfl rfl ⟨_, _, rfl, rfl, q7⟩ (ss_move rfl) rfl ?_
     obtain ⟨q10, h⟩ := h
     refine rd_s rfl rfl ⟨_, _, rfl, rfl, q7⟩ (ss_idxL rfl rfl q10) rfl ?_
     refine rd_l rfl rfl ⟨_, _, rfl, rfl, q7⟩ (ss_loadL (f := ci) rfl q8) rfl ?_
     refine rd_l rfl rfl ⟨_, _, rfl, rfl, q7⟩ (ss_loadL (f := ci) rfl q9) rfl ?_
     obtain ⟨q11, h⟩ := h
     refine rd_s rfl rfl ⟨_, _, rfl, rfl, q7⟩ (ss_idxL rfl rfl q11) rfl ?_
     refine rd_l rfl rfl ⟨_, _, rfl, rfl, q7⟩ (ss_loadL (f := (fun r => C.lst (ints r))) rfl q11) rfl ?_
     refine rd_l rfl rfl ⟨_, _, rfl, rfl, q7⟩ (ss_loadL (f := ci) rfl q10) rfl ?_
     obtain ⟨q12, h⟩ := h
     refine rd_s rfl rfl ⟨_, _, rfl, rfl, q7⟩ (ss_idxL rfl rfl q12) rfl ?_
     refine rd_l rfl rfl ⟨_, _, rfl, rfl, q7⟩ (ss_loadL (f := ci) rfl q12) rfl ?_
     refine rd_s rfl rfl ⟨_, _, rfl, rfl, q7⟩ (ss_neq rfl rfl) rfl ?_
     refine rd_s rfl rfl trivial (ss_pickT rfl q7 rfl) rfl ?_
     refine rd_nil ?_
     refine aw_cond rfl (fun q13 => ?_) (fun q13 => ?_)
     ·replace h := h.1 (of_decide_eq_false (bnot_t q13))
      refine aw_seq ?_
      refine aw_gh (gh_to (n := 77) (σ' := []) (env' := []) rfl rfl trivial) ?_
      refine aw_region ?_
      refine run_s (ss_assign rfl) rfl ?_
      refine run_nil ?_
      refine aw_ret ?_
      exact retAF_mk (retv1 rfl (rv_tmp rfl)) rfl rfl ⟨_, (cle_refl _), _, h, rfl⟩
     ·replace h := h.2 (of_decide_eq_true (bnot_f q13))
      refine aw_skip ?_
      refine aw_gh (gh_to (n := 77) (σ' := []) (env' := [(0, .c (.lst (rows r))), (1, .c (.lst (rows s))), (2, .c (.lst (ints f))), (7, .c (ci v14_1)), (13, .c (ci (f.length : Int))), (14, .c (ci v14_1)), (18, .c (ci (f.length : Int))), (19, .c (ci v19_2)), (34, .c (.lst (ints f))), (35, .c (ci (el (el r v14_1) v19_2))), (36, .c (.ptr ((ints f).drop (el (el r v14_1) v19_2).toNat))), (37, .c (ci (el f (el (el r v14_1) v19_2)))), (38, .c (.lst (rows s))), (39, .c (.lst (ints f))), (40, .c (ci v14_1)), (41, .c (.ptr ((ints f).drop v14_1.toNat))), (42, .c (ci (el f v14_1))), (43, .c (.ptr ((rows s).drop (el f v14_1).toNat))), (44, .c (.lst (ints (el s (el f v14_1))))), (45, .c (.lst (ints f))), (46, .c (ci v19_2)), (47, .c (.ptr ((ints f).drop v19_2.toNat))), (48, .c (ci (el f v19_2))), (49, .c (.ptr ((ints (el s (el f v14_1))).drop (el f v19_2).toNat))), (50, .c (ci (el (el s (el f v14_1)) (el f v19_2)))), (51, .c (cb (!(decide (el f (el (el r v14_1) v19_2) = el (el s (el f v14_1)) (el f v19_2))))))]) rfl rfl ⟨rfl, rfl, rfl, rfl, rfl, rfl, rfl, rfl, rfl, rfl, rfl, rfl, rfl, rfl, rfl, rfl, rfl, rfl, rfl, rfl, rfl, rfl, rfl, rfl, rfl, rfl, trivial⟩) ?_
      refine aw_region ?_
      obtain ⟨q14, h⟩ := h
      refine run_s (ss_add rfl rfl q14) rfl ?_
      refine run_s (ss_move rfl) rfl ?_
      refine run_nil ?_
      exact ⟨v19_2 + 1, ghe_to (n := 77) rfl rfl ⟨rfl, rfl, rfl, rfl, rfl, rfl, rfl, rfl, trivial⟩, h.1, h.2⟩
    ·replace h := h.2 (of_decide_eq_false q7)
     refine rd_no rfl rfl rfl q7 rfl ?_
     refine rd_no rfl rfl rfl q7 rfl ?_
     refine rd_no rfl rfl rfl q7 rfl ?_
     refine rd_no rfl rfl rfl q7 rfl ?_
     refine rd_no rfl rfl rfl q7 rfl ?_
     refine rd_no rfl rfl rfl q7 rfl ?_
     refine rd_no rfl rfl rfl q7 rfl ?_
     refine rd_no rfl rfl rfl q7 rfl ?_
     refine rd_no rfl rfl rfl q7 rfl ?_
     refine rd_no rfl rfl rfl q7 rfl ?_
     refine rd_no rfl rfl rfl q7 rfl ?_
     refine rd_no rfl rfl rfl q7 rfl ?_
     refine rd_no rfl rfl rfl q7 rfl ?_
     refine rd_no rfl rfl rfl q7 rfl ?_
     refine rd_no rfl rfl rfl q7 rfl ?_
     refine rd_no rfl rfl rfl q7 rfl ?_
     refine rd_no rfl rfl rfl q7 rfl ?_
     refine rd_no rfl rfl rfl q7 rfl ?_
     refine rd_s rfl rfl trivial (ss_pickF rfl q7 rfl) rfl ?_
     refine rd_nil ?_
     refine aw_cond rfl (fun q15 => ?_) (fun q15 => ?_)
     ·cases q15
     ·skip
      refine aw_skip ?_
      refine aw_gh (gh_to (n := 77) (σ' := []) (env' := [(0, .c (.lst (rows r))), (1, .c (.lst (rows s))), (2, .c (.lst (ints f))), (7, .c (ci v14_1)), (13, .c (ci (f.length : Int))), (14, .c (ci v14_1)), (18, .c (ci (f.length : Int))), (19, .c (ci v19_2))]) rfl rfl ⟨rfl, rfl, rfl, rfl, rfl, rfl, rfl, rfl, trivial⟩) ?_
      refine aw_region ?_
      obtain ⟨q16, h⟩ := h
      refine run_s (ss_add rfl rfl q16) rfl ?_
      refine run_s (ss_move rfl) rfl ?_
      refine run_nil ?_
      exact ⟨v19_2 + 1, ghe_to (n := 77) rfl rfl ⟨rfl, rfl, rfl, rfl, rfl, rfl, rfl, rfl, trivial⟩, h.1, h.2⟩
   ·replace h := h.2 (of_decide_eq_false q4)
    refine aw_exit ?_
    refine aw_region ?_
    obtain ⟨q17, h⟩ := h
    refine run_s (ss_add rfl rfl q17) rfl ?_
    refine run_s (ss_move rfl) rfl ?_
    refine run_nil ?_
    exact ⟨v14_1 + 1, ghe_to (n := 77) rfl rfl ⟨rfl, rfl, rfl, rfl, rfl, trivial⟩, h.1, h.2⟩
  ·replace h := h.2 (of_decide_eq_false q2)
   refine aw_exit ?_
   refine aw_seq ?_
   refine aw_seq ?_
   refine aw_region ?_
   refine run_s (ss_move rfl) rfl ?_
   refine run_s (ss_lenL (f := ci) rfl) rfl ?_
   refine run_s (ss_move rfl) rfl ?_
   refine run_s (ss_lenL (f := (fun r => C.lst (ints r))) rfl) rfl ?_
   refine run_s (ss_eql rfl rfl) rfl ?_
   refine run_nil ?_
   refine aw_cond rfl (fun q18 => ?_) (fun q18 => ?_)
   ·replace h := h.1 (of_decide_eq_true q18)
    refine aw_seq ?_
    refine aw_gh (gh_to (n := 77) (σ' := []) (env' := []) rfl rfl trivial) ?_
    refine aw_region ?_
    refine run_s (ss_assign rfl) rfl ?_
    refine run_nil ?_
    refine aw_ret ?_
    exact retAF_mk (retv1 rfl (rv_tmp rfl)) rfl rfl ⟨_, (cle_refl _), _, h, rfl⟩
   ·replace h := h.2 (of_decide_eq_false q18)
    refine aw_skip ?_
    refine aw_seq ?_
    refine aw_gh (gh_to (n := 77) (σ' := []) (env' := [(0, .c (.lst (rows r))), (1, .c (.lst (rows s))), (2, .c (.lst (ints f)))]) rfl rfl ⟨rfl, rfl, rfl, trivial⟩) ?_
    refine aw_region ?_
    refine run_s (ss_assign rfl) rfl ?_
    refine run_nil ?_
    refine aw_seq ?_
    refine aw_seq ?_
    refine aw_region ?_
    refine run_s (ss_move rfl) rfl ?_
    refine run_s (ss_lenL (f := (fun r => C.lst (ints r))) rfl) rfl ?_
    refine run_s (ss_move rfl) rfl ?_
    refine run_nil ?_
    refine aw_block ?_
    obtain ⟨H3, m3, q19, h⟩ := h
    refine aw_loop2 (fun (v10_2 : Int) (v62_2 : Int) => ⟨[], [(0, .c (.lst (rows r))), (1, .c (.lst (rows s))), (2, .c (.lst (ints f))), (10, .c (ci v10_2)), (61, .c (ci (s.length : Int))), (62, .c (ci v62_2))], 77⟩) H3 m3 ⟨0, 0, ghe_to (n := 77) rfl rfl ⟨rfl, rfl, rfl, rfl, rfl, rfl, trivial⟩, q19⟩ ?_
    rintro v10_2 v62_2 q19
    replace h := h v10_2 v62_2 q19
    refine aw_seq ?_
    refine aw_region ?_
    refine run_s (ss_lss rfl rfl) rfl ?_
    refine run_nil ?_
    refine aw_seq ?_
    refine aw_cond rfl (fun q20 => ?_) (fun q20 => ?_)
    ·replace h := h.1 (of_decide_eq_true q20)
     refine aw_skip ?_
     refine aw_seq ?_
     refine aw_block ?_
     refine aw_seq ?_
     refine aw_region ?_
     refine run_s (ss_move rfl) rfl ?_
     refine run_s (ss_assign rfl) rfl ?_
     refine run_nil ?_
     refine aw_region ?_
     refine run_s (ss_move rfl) rfl ?_
     refine run_s (ss_move rfl) rfl ?_
     refine run_s (ss_move rfl) rfl ?_
     refine run_s (ss_move rfl) rfl ?_
     obtain ⟨q21, h⟩ := h
     refine run_w (ws_call (xs := [.tmp 68]) (ids := [69]) rfl rfl rfl rfl (c_k_Clone f q21) rfl ?_ )
     rintro _ rfl
     refine ⟨rfl, ?_⟩
     refine run_s (ss_move rfl) rfl ?_
     refine run_w (ws_buildSlice (id := 71) (ps := [(0, .tmp 70)]) rfl rfl (Nat.le_of_ble_eq_true rfl) rfl ⟨rfl, ?_⟩)
     obtain ⟨q23, h⟩ := h
     refine run_w (ws_app1 ci (l := f) (m := [v62_2]) rfl rfl rfl rfl rfl (Nat.le_of_ble_eq_true rfl) q23 ⟨rfl, ?_⟩)
     obtain ⟨q24, h⟩ := h
     obtain ⟨q25, h⟩ := h
     refine run_w (ws_callR (xs := [.tmp 66, .tmp 67, .tmp 72]) (cs := [.lst (rows r), .lst (rows s), .own (ints (f ++ ([v62_2])))]) (ids := []) rfl (.inr ⟨rfl, rfl⟩) rfl rfl (fz_cons rfl (fz_cons rfl (fz_cons (fz_own (fz_map (fun _ => rfl) _)) fz_nil))) (hrec r s (f ++ ([v62_2])) q24 q25) rfl ?_ )
     rintro _ rfl
     refine ⟨rfl, rfl, ?_⟩
     obtain ⟨q27, h⟩ := h
     refine run_s (ss_add rfl rfl q27) rfl ?_
     refine run_s (ss_assign rfl) rfl ?_
     refine run_nil ?_
     refine aw_gh (gh_to (n := 77) (σ' := [(69, ⟨ints (f ++ ([v62_2])), []⟩)]) (env' := [(0, .c (.lst (rows r))), (1, .c (.lst (rows s))), (2, .c (.lst (ints f))), (10, .c (ci (v10_2 + (cntI r s (f ++ ([v62_2])))))), (61, .c (ci (s.length : Int))), (62, .c (ci v62_2))]) rfl rfl ⟨rfl, rfl, rfl, rfl, rfl, rfl, trivial⟩) ?_
     refine aw_region ?_
     obtain ⟨q28, h⟩ := h
     refine run_s (ss_add rfl rfl q28) rfl ?_
     refine run_s (ss_move rfl) rfl ?_
     refine run_nil ?_
     exact ⟨v10_2 + (cntI r s (f ++ ([v62_2]))), v62_2 + 1, ghe_step (gh_frzE (id := 69) ci rfl (fun _ => rfl)) (ghe_to (n := 77) rfl rfl ⟨rfl, rfl, rfl, rfl, rfl, rfl, trivial⟩), h.1, h.2⟩
    ·replace h := h.2 (of_decide_eq_false q20)
     refine aw_exit ?_
     refine aw_seq ?_
     refine aw_gh (gh_to (n := 77) (σ' := []) (env' := [(10, .c (ci v10_2))]) rfl rfl ⟨rfl, trivial⟩) ?_
     refine aw_region ?_
     refine run_s (ss_move rfl) rfl ?_
     refine run_s (ss_assign rfl) rfl ?_
     refine run_nil ?_
     refine aw_ret ?_
     exact retAF_mk (retv1 rfl (rv_tmp rfl)) rfl rfl ⟨_, (cle_refl _), _, h, rfl⟩

theorem c_impl_countMaps : ∀ (r : List (List Int)) (s : List (List Int)) (f : List Int), (isTab r = true ∧ isTab s = true ∧ (f.length : Int) ≤ (r.length : Int) ∧ ∀ x_ ∈ f, 0 ≤ x_ ∧ x_ < (s.length : Int)) → AF Try.prog 15 [.lst (rows r), .lst (rows s), .lst (ints f)] (fun R_ => R_ = ci (cntI r s f)) := by
  have key : ∀ (k_ : Nat) (r : List (List Int)) (s : List (List Int)) (f : List Int), ((r.length : Int) - (f.length : Int)).toNat ≤ k_ → (isTab r = true ∧ isTab s = true ∧ (f.length : Int) ≤ (r.length : Int) ∧ ∀ x_ ∈ f, 0 ≤ x_ ∧ x_ < (s.length : Int)) → AF Try.prog 15 [.lst (rows r), .lst (rows s), .lst (ints f)] (fun R_ => R_ = ci (cntI r s f)) := by
    intro k_; induction k_ with
    | zero => intro r s f hn hp; exact (w_impl_countMaps r s f (fun y0 => y0 = cntI r s f) (fun _ _ _ hlt => absurd hlt (by omega)) (p_impl_countMaps r s f hp)).mono (by rintro r ⟨_, rfl, rfl⟩; rfl)
    | succ k_ ih => intro r s f hn hp; exact (w_impl_countMaps r s f (fun y0 => y0 = cntI r s f) (fun r' s' f' hlt => ih r' s' f' (by omega)) (p_impl_countMaps r s f hp)).mono (by rintro r ⟨_, rfl, rfl⟩; rfl)
  exact fun r s f => key _ r s f (Nat.le_refl _)

set_option maxRecDepth 100000 in
set_option maxHeartbeats 4000000 in
theorem w_spec_l03Fits (a : List (List (List Int))) (b : List (List (List Int))) (f : List Int) (Q : Bool → Prop) (h : wp_spec_l03Fits a b f Q) : AF Try.prog 34 [.lst (tabs a), .lst (tabs b), .lst (ints f)] (fun R_ => ∃ y0, Q y0 ∧ R_ = cb y0) := by
  refine AF.ofWQ (af_enter (n := 80) Try.func34 rfl (by rfl) rfl (Nat.le_of_ble_eq_true rfl) ?_)
  unfold wp_spec_l03Fits at h
  refine aw_seq ?_
  refine aw_gh (gh_to (n := 80) (σ' := []) (env' := [(0, .c (.lst (tabs a))), (1, .c (.lst (tabs b))), (2, .c (.lst (ints f)))]) rfl rfl ⟨rfl, rfl, rfl, trivial⟩) ?_
  refine aw_region ?_
  refine run_s (ss_assign rfl) rfl ?_
  refine run_nil ?_
  refine aw_seq ?_
  refine aw_region ?_
  refine run_s (ss_move rfl) rfl ?_
  refine run_s (ss_lenL (f := ci) rfl) rfl ?_
  obtain ⟨q1, h⟩ := h
  refine run_s (ss_sub rfl rfl q1) rfl ?_
  refine run_s (ss_assign rfl) rfl ?_
  refine run_nil ?_
  refine aw_seq ?_
  refine aw_seq ?_
  refine aw_region ?_
  refine run_s (ss_assign rfl) rfl ?_
  refine run_nil ?_
  refine aw_block ?_
  obtain ⟨H1, m1, q2, h⟩ := h
  refine aw_loop1 (fun (v8_1 : Int) => ⟨[], [(0, .c (.lst (tabs a))), (1, .c (.lst (tabs b))), (2, .c (.lst (ints f))), (7, .c (ci ((f.length : Int) - 1))), (8, .c (ci v8_1))], 80⟩) H1 m1 ⟨0, ghe_to (n := 80) rfl rfl ⟨rfl, rfl, rfl, rfl, rfl, trivial⟩, q2⟩ ?_
  rintro v8_1 q2
  replace h := h v8_1 q2
  refine aw_seq ?_
  refine aw_seq ?_
  refine aw_region ?_
  refine run_s (ss_move rfl) rfl ?_
  refine run_s (ss_move rfl) rfl ?_
  refine run_s (ss_lenL (f := (fun r => C.lst (rows r))) rfl) rfl ?_
  refine run_s (ss_lss rfl rfl) rfl ?_
  refine run_nil ?_
  refine aw_cond rfl (fun q3 => ?_) (fun q3 => ?_)
  ·replace h := h.1 (of_decide_eq_true q3)
   refine aw_skip ?_
   refine aw_seq ?_
   refine aw_block ?_
   refine aw_seq ?_
   refine aw_region ?_
   refine run_s (ss_assign rfl) rfl ?_
   refine run_nil ?_
   refine aw_block ?_
   obtain ⟨H2, m2, q4, h⟩ := h
   refine aw_loop1 (fun (v9_2 : Int) => ⟨[], [(0, .c (.lst (tabs a))), (1, .c (.lst (tabs b))), (2, .c (.lst (ints f))), (7, .c (ci ((f.length : Int) - 1))), (8, .c (ci v8_1)), (9, .c (ci v9_2))], 80⟩) H2 m2 ⟨0, ghe_to (n := 80) rfl rfl ⟨rfl, rfl, rfl, rfl, rfl, rfl, trivial⟩, q4⟩ ?_
   rintro v9_2 q4
   replace h := h v9_2 q4
   refine aw_seq ?_
   refine aw_seq ?_
   refine aw_region ?_
   refine run_s (ss_move rfl) rfl ?_
   refine run_s (ss_move rfl) rfl ?_
   refine run_s (ss_leq rfl rfl) rfl ?_
   refine run_nil ?_
   refine aw_cond rfl (fun q5 => ?_) (fun q5 => ?_)
   ·replace h := h.1 (of_decide_eq_true q5)
    refine aw_skip ?_
    refine aw_seq ?_
    refine aw_block ?_
    refine aw_seq ?_
    refine aw_region ?_
    refine run_s (ss_assign rfl) rfl ?_
    refine run_nil ?_
    refine aw_block ?_
    obtain ⟨H3, m3, q6, h⟩ := h
    refine aw_loop1 (fun (v10_3 : Int) => ⟨[], [(0, .c (.lst (tabs a))), (1, .c (.lst (tabs b))), (2, .c (.lst (ints f))), (7, .c (ci ((f.length : Int) - 1))), (8, .c (ci v8_1)), (9, .c (ci v9_2)), (10, .c (ci v10_3))], 80⟩) H3 m3 ⟨0, ghe_to (n := 80) rfl rfl ⟨rfl, rfl, rfl, rfl, rfl, rfl, rfl, trivial⟩, q6⟩ ?_
    rintro v10_3 q6
    replace h := h v10_3 q6
    refine aw_seq ?_
    refine aw_seq ?_
    refine aw_region ?_
    refine run_s (ss_move rfl) rfl ?_
    refine run_s (ss_move rfl) rfl ?_
    refine run_s (ss_leq rfl rfl) rfl ?_
    refine run_nil ?_
    refine aw_cond rfl (fun q7 => ?_) (fun q7 => ?_)
    ·replace h := h.1 (of_decide_eq_true q7)
     refine aw_skip ?_
     refine aw_seq ?_
     refine aw_block ?_
     refine aw_seq ?_
     refine aw_region ?_
     refine run_s (ss_move rfl) rfl ?_
     refine run_s (ss_move rfl) rfl ?_
     obtain ⟨q8, h⟩ := h
     refine run_s (ss_idxL rfl rfl q8) rfl ?_
     refine run_s (ss_loadL (f := (fun r => C.lst (rows r))) rfl q8) rfl ?_
     refine run_s (ss_move rfl) rfl ?_
     obtain ⟨q9, h⟩ := h
     refine run_s (ss_idxL rfl rfl q9) rfl ?_
     refine run_s (ss_loadL (f := (fun r => C.lst (ints r))) rfl q9) rfl ?_
     refine run_s (ss_move rfl) rfl ?_
     obtain ⟨q10, h⟩ := h
     refine run_s (ss_idxL rfl rfl q10) rfl ?_
     refine run_s (ss_loadL (f := ci) rfl q10) rfl ?_
     refine run_s (ss_assign rfl) rfl ?_
     refine run_nil ?_
     refine aw_seq ?_
     refine aw_seq ?_
     refine aw_region ?_
     refine run_s (ss_move rfl) rfl ?_
     refine run_s (ss_move rfl) rfl ?_
     refine run_s (ss_gtr rfl rfl) rfl ?_
     refine run_s (ss_move rfl) rfl ?_
     refine run_split (s := 44) rfl (fun q11 => ?_) (fun q11 => ?_)
     ·replace h := h.1 (of_decide_eq_true q11)
      refine run_gf rfl rfl q11 rfl ?_
      refine run_gf rfl rfl q11 rfl ?_
      refine run_gf rfl rfl q11 rfl ?_
      refine run_gfu rfl rfl q11 rfl ?_
      refine run_gu rfl rfl rfl ?_
      refine run_gu rfl rfl rfl ?_
      refine run_gu rfl rfl rfl ?_
      refine run_gf rfl rfl q11 rfl ?_
      refine run_gfu rfl rfl q11 rfl ?_
      refine run_gu rfl rfl rfl ?_
      refine run_gu rfl rfl rfl ?_
      refine run_gu rfl rfl rfl ?_
      refine run_gf rfl rfl q11 rfl ?_
      refine run_s (ss_pickT rfl q11 rfl) rfl ?_
      refine run_nil ?_
      refine aw_cond rfl (fun q12 => ?_) (fun q12 => ?_)
      ·skip
       refine aw_exit ?_
       refine aw_gh (gh_to (n := 80) (σ' := []) (env' := [(0, .c (.lst (tabs a))), (1, .c (.lst (tabs b))), (2, .c (.lst (ints f))), (7, .c (ci ((f.length : Int) - 1))), (8, .c (ci v8_1)), (9, .c (ci v9_2)), (10, .c (ci v10_3))]) rfl rfl ⟨rfl, rfl, rfl, rfl, rfl, rfl, rfl, trivial⟩) ?_
       refine aw_region ?_
       refine run_s (ss_move rfl) rfl ?_
       obtain ⟨q13, h⟩ := h
       refine run_s (ss_add rfl rfl q13) rfl ?_
       refine run_s (ss_assign rfl) rfl ?_
       refine run_nil ?_
       exact ⟨v10_3 + 1, ghe_to (n := 80) rfl rfl ⟨rfl, rfl, rfl, rfl, rfl, rfl, rfl, trivial⟩, h.1, h.2⟩
      ·cases q12
     ·replace h := h.2 (of_decide_eq_false q11)
      refine run_gt rfl rfl q11 ?_
      refine run_s (ss_move rfl) rfl ?_
      refine run_gt rfl rfl q11 ?_
      refine run_s (ss_move rfl) rfl ?_
      refine run_gt rfl rfl q11 ?_
      refine run_s (ss_lss rfl rfl) rfl ?_
      refine run_gt rfl rfl q11 ?_
      refine run_s (ss_move rfl) rfl ?_
      refine run_split (s := 48) rfl (fun q14 => ?_) (fun q14 => ?_)
      ·replace h := h.1 (of_decide_eq_true q14)
       refine run_gt rfl rfl q14 ?_
       refine run_s (ss_move rfl) rfl ?_
       refine run_gt rfl rfl q14 ?_
       refine run_s (ss_move rfl) rfl ?_
       refine run_gt rfl rfl q14 ?_
       refine run_s (ss_lss rfl rfl) rfl ?_
       refine run_gt rfl rfl q11 ?_
       refine run_s (ss_pickT rfl q14 rfl) rfl ?_
       refine run_gt rfl rfl q11 ?_
       refine run_s (ss_move rfl) rfl ?_
       refine run_split (s := 53) rfl (fun q15 => ?_) (fun q15 => ?_)
       ·replace h := h.1 (of_decide_eq_true q15)
        refine run_gt rfl rfl q15 ?_
        refine run_s (ss_move rfl) rfl ?_
        refine run_gt rfl rfl q15 ?_
        refine run_s (ss_move rfl) rfl ?_
        refine run_gt rfl rfl q15 ?_
        refine run_s (ss_lss rfl rfl) rfl ?_
        refine run_gt rfl rfl q11 ?_
        refine run_s (ss_pickT rfl q15 rfl) rfl ?_
        refine run_s (ss_pickF rfl q11 rfl) rfl ?_
        refine run_nil ?_
        refine aw_cond rfl (fun q16 => ?_) (fun q16 => ?_)
        ·replace h := h.1 (of_decide_eq_true q16)
         refine aw_exit ?_
         refine aw_gh (gh_to (n := 80) (σ' := []) (env' := [(0, .c (.lst (tabs a))), (1, .c (.lst (tabs b))), (2, .c (.lst (ints f))), (7, .c (ci ((f.length : Int) - 1))), (8, .c (ci v8_1)), (9, .c (ci v9_2)), (10, .c (ci v10_3)), (45, .c (ci v9_2)), (46, .c (ci ((f.length : Int) - 1))), (47, .c (cb (decide (v9_2 < (f.length : Int) - 1)))), (48, .c (cb (decide (v9_2 < (f.length : Int) - 1)))), (49, .c (ci v10_3)), (50, .c (ci ((f.length : Int) - 1))), (51, .c (cb (decide (v10_3 < (f.length : Int) - 1)))), (52, .c (cb (decide (v10_3 < (f.length : Int) - 1)))), (53, .c (cb (decide (v10_3 < (f.length : Int) - 1)))), (54, .c (ci (el (el (el a v8_1) v9_2) v10_3))), (55, .c (ci ((f.length : Int) - 1))), (56, .c (cb (decide (el (el (el a v8_1) v9_2) v10_3 < (f.length : Int) - 1)))), (57, .c (cb (decide (el (el (el a v8_1) v9_2) v10_3 < (f.length : Int) - 1))))]) rfl rfl ⟨rfl, rfl, rfl, rfl, rfl, rfl, rfl, rfl, rfl, rfl, rfl, rfl, rfl, rfl, rfl, rfl, rfl, rfl, rfl, rfl, trivial⟩) ?_
         refine aw_region ?_
         refine run_s (ss_move rfl) rfl ?_
         obtain ⟨q17, h⟩ := h
         refine run_s (ss_add rfl rfl q17) rfl ?_
         refine run_s (ss_assign rfl) rfl ?_
         refine run_nil ?_
         exact ⟨v10_3 + 1, ghe_to (n := 80) rfl rfl ⟨rfl, rfl, rfl, rfl, rfl, rfl, rfl, trivial⟩, h.1, h.2⟩
        ·replace h := h.2 (of_decide_eq_false q16)
         refine aw_skip ?_
         refine aw_seq ?_
         refine aw_gh (gh_to (n := 80) (σ' := []) (env' := [(0, .c (.lst (tabs a))), (1, .c (.lst (tabs b))), (2, .c (.lst (ints f))), (7, .c (ci ((f.length : Int) - 1))), (8, .c (ci v8_1)), (9, .c (ci v9_2)), (10, .c (ci v10_3)), (11, .c (ci (el (el (el a v8_1) v9_2) v10_3))), (45, .c (ci v9_2)), (46, .c (ci ((f.length : Int) - 1))), (47, .c (cb (decide (v9_2 < (f.length : Int) - 1)))), (48, .c (cb (decide (v9_2 < (f.length : Int) - 1)))), (49, .c (ci v10_3)), (50, .c (ci ((f.length : Int) - 1))), (51, .c (cb (decide (v10_3 < (f.length : Int) - 1)))), (52, .c (cb (decide (v10_3 < (f.length : Int) - 1)))), (53, .c (cb (decide (v10_3 < (f.length : Int) - 1)))), (54, .c (ci (el (el (el a v8_1) v9_2) v10_3))), (55, .c (ci ((f.length : Int) - 1))), (56, .c (cb (decide (el (el (el a v8_1) v9_2) v10_3 < (f.length : Int) - 1)))), (57, .c (cb (decide (el (el (el a v8_1) v9_2) v10_3 < (f.length : Int) - 1))))]) rfl rfl ⟨rfl, rfl, rfl, rfl, rfl, rfl, rfl, rfl, rfl, rfl, rfl, rfl, rfl, rfl, rfl, rfl, rfl, rfl, rfl, rfl, rfl, trivial⟩) ?_
         refine aw_regionD (kd := kdl [0, 0, 0, 1, 0, 0, 0, 1, 0, 0, 0, 1, 0, 1, 0, 0, 0, 1, 0, 1, 0]) (ord := [0, 1, 2, 4, 5, 6, 8, 9, 10, 14, 15, 16, 3, 7, 11, 12, 13, 17, 18, 19, 20]) [] mixed (by kernel_rfl) ?_
         refine rd_s rfl rfl trivial (ss_move rfl) rfl ?_
         refine rd_s rfl rfl trivial (ss_move rfl) rfl ?_
         obtain ⟨q18, h⟩ := h
         refine rd_s rfl rfl trivial (ss_idxL rfl rfl q18) rfl ?_
         refine rd_s rfl rfl trivial (ss_move rfl) rfl ?_
         refine rd_s rfl rfl trivial (ss_move rfl) rfl ?_
         obtain ⟨q19, h⟩ := h
         refine rd_s rfl rfl trivial (ss_idxL rfl rfl q19) rfl ?_
         refine rd_s rfl rfl trivial (ss_move rfl) rfl ?_
         refine rd_s rfl rfl trivial (ss_move rfl) rfl ?_
         obtain ⟨q20, h⟩ := h
         refine rd_s rfl rfl trivial (ss_idxL rfl rfl q20) rfl ?_
         refine rd_s rfl rfl trivial (ss_move rfl) rfl ?_
         refine rd_s rfl rfl trivial (ss_move rfl) rfl ?_
         obtain ⟨q21, h⟩ := h
         refine rd_s rfl rfl trivial (ss_idxL rfl rfl q21) rfl ?_
         refine rd_l rfl rfl trivial (ss_loadL (f := ci) rfl q18) rfl ?_
         refine rd_l rfl rfl trivial (ss_loadL (f := (fun r => C.lst (rows r))) rfl q19) rfl ?_
         refine rd_l rfl rfl trivial (ss_loadL (f := ci) rfl q20) rfl ?_
         obtain ⟨q22, h⟩ := h
         refine rd_s rfl rfl trivial (ss_idxL rfl rfl q22) rfl ?_
         refine rd_l rfl rfl trivial (ss_loadL (f := (fun r => C.lst (ints r))) rfl q22) rfl ?_
         refine rd_l rfl rfl trivial (ss_loadL (f := ci) rfl q21) rfl ?_
         obtain ⟨q23, h⟩ := h
         refine rd_s rfl rfl trivial (ss_idxL rfl rfl q23) rfl ?_
         refine rd_l rfl rfl trivial (ss_loadL (f := ci) rfl q23) rfl ?_
         refine rd_s rfl rfl trivial (ss_neq rfl rfl) rfl ?_
         refine rd_nil ?_
         refine aw_cond rfl (fun q24 => ?_) (fun q24 => ?_)
         ·replace h := h.1 (of_decide_eq_false (bnot_t q24))
          refine aw_seq ?_
          refine aw_gh (gh_to (n := 80) (σ' := []) (env' := []) rfl rfl trivial) ?_
          refine aw_region ?_
          refine run_s (ss_assign rfl) rfl ?_
          refine run_nil ?_
          refine aw_ret ?_
          exact retAF_mk (retv1 rfl (rv_tmp rfl)) rfl rfl ⟨_, (cle_refl _), _, h, rfl⟩
         ·replace h := h.2 (of_decide_eq_true (bnot_f q24))
          refine aw_skip ?_
          refine aw_gh (gh_to (n := 80) (σ' := []) (env' := [(0, .c (.lst (tabs a))), (1, .c (.lst (tabs b))), (2, .c (.lst (ints f))), (7, .c (ci ((f.length : Int) - 1))), (8, .c (ci v8_1)), (9, .c (ci v9_2)), (10, .c (ci v10_3)), (45, .c (ci v9_2)), (46, .c (ci ((f.length : Int) - 1))), (47, .c (cb (decide (v9_2 < (f.length : Int) - 1)))), (48, .c (cb (decide (v9_2 < (f.length : Int) - 1)))), (49, .c (ci v10_3)), (50, .c (ci ((f.length : Int) - 1))), (51, .c (cb (decide (v10_3 < (f.length : Int) - 1)))), (52, .c (cb (decide (v10_3 < (f.length : Int) - 1)))), (53, .c (cb (decide (v10_3 < (f.length : Int) - 1)))), (54, .c (ci (el (el (el a v8_1) v9_2) v10_3))), (55, .c (ci ((f.length : Int) - 1))), (56, .c (cb (decide (el (el (el a v8_1) v9_2) v10_3 < (f.length : Int) - 1)))), (57, .c (cb (decide (el (el (el a v8_1) v9_2) v10_3 < (f.length : Int) - 1))))]) rfl rfl ⟨rfl, rfl, rfl, rfl, rfl, rfl, rfl, rfl, rfl, rfl, rfl, rfl, rfl, rfl, rfl, rfl, rfl, rfl, rfl, rfl, trivial⟩) ?_
          refine aw_region ?_
          refine run_s (ss_move rfl) rfl ?_
          obtain ⟨q25, h⟩ := h
          refine run_s (ss_add rfl rfl q25) rfl ?_
          refine run_s (ss_assign rfl) rfl ?_
          refine run_nil ?_
          exact ⟨v10_3 + 1, ghe_to (n := 80) rfl rfl ⟨rfl, rfl, rfl, rfl, rfl, rfl, rfl, trivial⟩, h.1, h.2⟩
       ·replace h := h.2 (of_decide_eq_false q15)
        refine run_gf rfl rfl q15 rfl ?_
        refine run_gf rfl rfl q15 rfl ?_
        refine run_gf rfl rfl q15 rfl ?_
        refine run_gt rfl rfl q11 ?_
        refine run_s (ss_pickF rfl q15 rfl) rfl ?_
        refine run_s (ss_pickF rfl q11 rfl) rfl ?_
        refine run_nil ?_
        refine aw_cond rfl (fun q26 => ?_) (fun q26 => ?_)
        ·cases q26
        ·skip
         refine aw_skip ?_
         refine aw_seq ?_
         refine aw_gh (gh_to (n := 80) (σ' := []) (env' := [(0, .c (.lst (tabs a))), (1, .c (.lst (tabs b))), (2, .c (.lst (ints f))), (7, .c (ci ((f.length : Int) - 1))), (8, .c (ci v8_1)), (9, .c (ci v9_2)), (10, .c (ci v10_3)), (11, .c (ci (el (el (el a v8_1) v9_2) v10_3))), (45, .c (ci v9_2)), (46, .c (ci ((f.length : Int) - 1))), (47, .c (cb (decide (v9_2 < (f.length : Int) - 1)))), (48, .c (cb (decide (v9_2 < (f.length : Int) - 1)))), (49, .c (ci v10_3)), (50, .c (ci ((f.length : Int) - 1))), (51, .c (cb (decide (v10_3 < (f.length : Int) - 1)))), (52, .c (cb (decide (v10_3 < (f.length : Int) - 1)))), (53, .c (cb (decide (v10_3 < (f.length : Int) - 1)))), (57, .c (cb false))]) rfl rfl ⟨rfl, rfl, rfl, rfl, rfl, rfl, rfl, rfl, rfl, rfl, rfl, rfl, rfl, rfl, rfl, rfl, rfl, rfl, trivial⟩) ?_
         refine aw_regionD (kd := kdl [0, 0, 0, 1, 0, 0, 0, 1, 0, 0, 0, 1, 0, 1, 0, 0, 0, 1, 0, 1, 0]) (ord := [0, 1, 2, 4, 5, 6, 8, 9, 10, 14, 15, 16, 3, 7, 11, 12, 13, 17, 18, 19, 20]) [] mixed (by kernel_rfl) ?_
         refine rd_s rfl rfl trivial (ss_move rfl) rfl ?_
         refine rd_s rfl rfl trivial (ss_move rfl) rfl ?_
         obtain ⟨q27, h⟩ := h
         refine rd_s rfl rfl trivial (ss_idxL rfl rfl q27) rfl ?_
         refine rd_s rfl rfl trivial (ss_move rfl) rfl ?_
         refine rd_s rfl rfl trivial (ss_move rfl) rfl ?_
         obtain ⟨q28, h⟩ := h
         refine rd_s rfl rfl trivial (ss_idxL rfl rfl q28) rfl ?_
         refine rd_s rfl rfl trivial (ss_move rfl) rfl ?_
         refine rd_s rfl rfl trivial (ss_move rfl) rfl ?_
         obtain ⟨q29, h⟩ := h
         refine rd_s rfl rfl trivial (ss_idxL rfl rfl q29) rfl ?_
         refine rd_s rfl rfl trivial (ss_move rfl) rfl ?_
         refine rd_s rfl rfl trivial (ss_move rfl) rfl ?_
         obtain ⟨q30, h⟩ := h
         refine rd_s rfl rfl trivial (ss_idxL rfl rfl q30) rfl ?_
         refine rd_l rfl rfl trivial (ss_loadL (f := ci) rfl q27) rfl ?_
         refine rd_l rfl rfl trivial (ss_loadL (f := (fun r => C.lst (rows r))) rfl q28) rfl ?_
         refine rd_l rfl rfl trivial (ss_loadL (f := ci) rfl q29) rfl ?_
         obtain ⟨q31, h⟩ := h
         refine rd_s rfl rfl trivial (ss_idxL rfl rfl q31) rfl ?_
         refine rd_l rfl rfl trivial (ss_loadL (f := (fun r => C.lst (ints r))) rfl q31) rfl ?_
         refine rd_l rfl rfl trivial (ss_loadL (f := ci) rfl q30) rfl ?_
         obtain ⟨q32, h⟩ := h
         refine rd_s rfl rfl trivial (ss_idxL rfl rfl q32) rfl ?_
         refine rd_l rfl rfl trivial (ss_loadL (f := ci) rfl q32) rfl ?_
         refine rd_s rfl rfl trivial (ss_neq rfl rfl) rfl ?_
         refine rd_nil ?_
         refine aw_cond rfl (fun q33 => ?_) (fun q33 => ?_)
         ·replace h := h.1 (of_decide_eq_false (bnot_t q33))
          refine aw_seq ?_
          refine aw_gh (gh_to (n := 80) (σ' := []) (env' := []) rfl rfl trivial) ?_
          refine aw_region ?_
          refine run_s (ss_assign rfl) rfl ?_
          refine run_nil ?_
          refine aw_ret ?_
          exact retAF_mk (retv1 rfl (rv_tmp rfl)) rfl rfl ⟨_, (cle_refl _), _, h, rfl⟩
         ·replace h := h.2 (of_decide_eq_true (bnot_f q33))
          refine aw_skip ?_
          refine aw_gh (gh_to (n := 80) (σ' := []) (env' := [(0, .c (.lst (tabs a))), (1, .c (.lst (tabs b))), (2, .c (.lst (ints f))), (7, .c (ci ((f.length : Int) - 1))), (8, .c (ci v8_1)), (9, .c (ci v9_2)), (10, .c (ci v10_3)), (45, .c (ci v9_2)), (46, .c (ci ((f.length : Int) - 1))), (47, .c (cb (decide (v9_2 < (f.length : Int) - 1)))), (48, .c (cb (decide (v9_2 < (f.length : Int) - 1)))), (49, .c (ci v10_3)), (50, .c (ci ((f.length : Int) - 1))), (51, .c (cb (decide (v10_3 < (f.length : Int) - 1)))), (52, .c (cb (decide (v10_3 < (f.length : Int) - 1)))), (53, .c (cb (decide (v10_3 < (f.length : Int) - 1)))), (57, .c (cb false))]) rfl rfl ⟨rfl, rfl, rfl, rfl, rfl, rfl, rfl, rfl, rfl, rfl, rfl, rfl, rfl, rfl, rfl, rfl, rfl, trivial⟩) ?_
          refine aw_region ?_
          refine run_s (ss_move rfl) rfl ?_
          obtain ⟨q34, h⟩ := h
          refine run_s (ss_add rfl rfl q34) rfl ?_
          refine run_s (ss_assign rfl) rfl ?_
          refine run_nil ?_
          exact ⟨v10_3 + 1, ghe_to (n := 80) rfl rfl ⟨rfl, rfl, rfl, rfl, rfl, rfl, rfl, trivial⟩, h.1, h.2⟩
      ·replace h := h.2 (of_decide_eq_false q14)
       refine run_gf rfl rfl q14 rfl ?_
       refine run_gf rfl rfl q14 rfl ?_
       refine run_gf rfl rfl q14 rfl ?_
       refine run_gt rfl rfl q11 ?_
       refine run_s (ss_pickF rfl q14 rfl) rfl ?_
       refine run_gt rfl rfl q11 ?_
       refine run_s (ss_move rfl) rfl ?_
       refine run_split (s := 53) rfl (fun q35 => ?_) (fun q35 => ?_)
       ·cases q35
       ·skip
        refine run_gf rfl rfl q35 rfl ?_
        refine run_gf rfl rfl q35 rfl ?_
        refine run_gf rfl rfl q35 rfl ?_
        refine run_gt rfl rfl q11 ?_
        refine run_s (ss_pickF rfl q35 rfl) rfl ?_
        refine run_s (ss_pickF rfl q11 rfl) rfl ?_
        refine run_nil ?_
        refine aw_cond rfl (fun q36 => ?_) (fun q36 => ?_)
        ·cases q36
        ·skip
         refine aw_skip ?_
         refine aw_seq ?_
         refine aw_gh (gh_to (n := 80) (σ' := []) (env' := [(0, .c (.lst (tabs a))), (1, .c (.lst (tabs b))), (2, .c (.lst (ints f))), (7, .c (ci ((f.length : Int) - 1))), (8, .c (ci v8_1)), (9, .c (ci v9_2)), (10, .c (ci v10_3)), (11, .c (ci (el (el (el a v8_1) v9_2) v10_3))), (45, .c (ci v9_2)), (46, .c (ci ((f.length : Int) - 1))), (47, .c (cb (decide (v9_2 < (f.length : Int) - 1)))), (48, .c (cb (decide (v9_2 < (f.length : Int) - 1)))), (52, .c (cb false)), (53, .c (cb false)), (57, .c (cb false))]) rfl rfl ⟨rfl, rfl, rfl, rfl, rfl, rfl, rfl, rfl, rfl, rfl, rfl, rfl, rfl, rfl, rfl, trivial⟩) ?_
         refine aw_regionD (kd := kdl [0, 0, 0, 1, 0, 0, 0, 1, 0, 0, 0, 1, 0, 1, 0, 0, 0, 1, 0, 1, 0]) (ord := [0, 1, 2, 4, 5, 6, 8, 9, 10, 14, 15, 16, 3, 7, 11, 12, 13, 17, 18, 19, 20]) [] mixed (by kernel_rfl) ?_
         refine rd_s rfl rfl trivial (ss_move rfl) rfl ?_
         refine rd_s rfl rfl trivial (ss_move rfl) rfl ?_
         obtain ⟨q37, h⟩ := h
         refine rd_s rfl rfl trivial (ss_idxL rfl rfl q37) rfl ?_
         refine rd_s rfl rfl trivial (ss_move rfl) rfl ?_
         refine rd_s rfl rfl trivial (ss_move rfl) rfl ?_
         obtain ⟨q38, h⟩ := h
         refine rd_s rfl rfl trivial (ss_idxL rfl rfl q38) rfl ?_
         refine rd_s rfl rfl trivial (ss_move rfl) rfl ?_
         refine rd_s rfl rfl trivial (ss_move rfl) rfl ?_
         obtain ⟨q39, h⟩ := h
         refine rd_s rfl rfl trivial (ss_idxL rfl rfl q39) rfl ?_
         refine rd_s rfl rfl trivial (ss_move rfl) rfl ?_
         refine rd_s rfl rfl trivial (ss_move rfl) rfl ?_
         obtain ⟨q40, h⟩ := h
         refine rd_s rfl rfl trivial (ss_idxL rfl rfl q40) rfl ?_
         refine rd_l rfl rfl trivial (ss_loadL (f := ci) rfl q37) rfl ?_
         refine rd_l rfl rfl trivial (ss_loadL (f := (fun r => C.lst (rows r))) rfl q38) rfl ?_
         refine rd_l rfl rfl trivial (ss_loadL (f := ci) rfl q39) rfl ?_
         obtain ⟨q41, h⟩ := h
         refine rd_s rfl rfl trivial (ss_idxL rfl rfl q41) rfl ?_
         refine rd_l rfl rfl trivial (ss_loadL (f := (fun r => C.lst (ints r))) rfl q41) rfl ?_
         refine rd_l rfl rfl trivial (ss_loadL (f := ci) rfl q40) rfl ?_
         obtain ⟨q42, h⟩ := h
         refine rd_s rfl rfl trivial (ss_idxL rfl rfl q42) rfl ?_
         refine rd_l rfl rfl trivial (ss_loadL (f := ci) rfl q42) rfl ?_
         refine rd_s rfl rfl trivial (ss_neq rfl rfl) rfl ?_
         refine rd_nil ?_
         refine aw_cond rfl (fun q43 => ?_) (fun q43 => ?_)
         ·replace h := h.1 (of_decide_eq_false (bnot_t q43))
          refine aw_seq ?_
          refine aw_gh (gh_to (n := 80) (σ' := []) (env' := []) rfl rfl trivial) ?_
          refine aw_region ?_
          refine run_s (ss_assign rfl) rfl ?_
          refine run_nil ?_
          refine aw_ret ?_
          exact retAF_mk (retv1 rfl (rv_tmp rfl)) rfl rfl ⟨_, (cle_refl _), _, h, rfl⟩
         ·replace h := h.2 (of_decide_eq_true (bnot_f q43))
          refine aw_skip ?_
          refine aw_gh (gh_to (n := 80) (σ' := []) (env' := [(0, .c (.lst (tabs a))), (1, .c (.lst (tabs b))), (2, .c (.lst (ints f))), (7, .c (ci ((f.length : Int) - 1))), (8, .c (ci v8_1)), (9, .c (ci v9_2)), (10, .c (ci v10_3)), (45, .c (ci v9_2)), (46, .c (ci ((f.length : Int) - 1))), (47, .c (cb (decide (v9_2 < (f.length : Int) - 1)))), (48, .c (cb (decide (v9_2 < (f.length : Int) - 1)))), (52, .c (cb false)), (53, .c (cb false)), (57, .c (cb false))]) rfl rfl ⟨rfl, rfl, rfl, rfl, rfl, rfl, rfl, rfl, rfl, rfl, rfl, rfl, rfl, rfl, trivial⟩) ?_
          refine aw_region ?_
          refine run_s (ss_move rfl) rfl ?_
          obtain ⟨q44, h⟩ := h
          refine run_s (ss_add rfl rfl q44) rfl ?_
          refine run_s (ss_assign rfl) rfl ?_
          refine run_nil ?_
          exact ⟨v10_3 + 1, ghe_to (n := 80) rfl rfl ⟨rfl, rfl, rfl, rfl, rfl, rfl, rfl, trivial⟩, h.1, h.2⟩
    ·replace h := h.2 (of_decide_eq_false q7)
     refine aw_exit ?_
     refine aw_region ?_
     refine run_s (ss_move rfl) rfl ?_
     obtain ⟨q45, h⟩ := h
     refine run_s (ss_add rfl rfl q45) rfl ?_
     refine run_s (ss_assign rfl) rfl ?_
     refine run_nil ?_
     exact ⟨v9_2 + 1, ghe_to (n := 80) rfl rfl ⟨rfl, rfl, rfl, rfl, rfl, rfl, trivial⟩, h.1, h.2⟩
   ·replace h := h.2 (of_decide_eq_false q5)
    refine aw_exit ?_
    refine aw_region ?_
    refine run_s (ss_move rfl) rfl ?_
    obtain ⟨q46, h⟩ := h
    refine run_s (ss_add rfl rfl q46) rfl ?_
    refine run_s (ss_assign rfl) rfl ?_
    refine run_nil ?_
    exact ⟨v8_1 + 1, ghe_to (n := 80) rfl rfl ⟨rfl, rfl, rfl, rfl, rfl, trivial⟩, h.1, h.2⟩
  ·replace h := h.2 (of_decide_eq_false q3)
   refine aw_exit ?_
   refine aw_seq ?_
   refine aw_gh (gh_to (n := 80) (σ' := []) (env' := []) rfl rfl trivial) ?_
   refine aw_region ?_
   refine run_s (ss_assign rfl) rfl ?_
   refine run_nil ?_
   refine aw_ret ?_
   exact retAF_mk (retv1 rfl (rv_tmp rfl)) rfl rfl ⟨_, (cle_refl _), _, h, rfl⟩

theorem c_spec_l03Fits (a : List (List (List Int))) (b : List (List (List Int))) (f : List Int) (hp : fitD a b f) : AF Try.prog 34 [.lst (tabs a), .lst (tabs b), .lst (ints f)] (fun R_ => R_ = cb (dec (conA a b f))) :=
  (w_spec_l03Fits a b f (fun y0 => y0 = dec (conA a b f)) (p_spec_l03Fits a b f hp)).mono (by rintro r ⟨_, rfl, rfl⟩; rfl)

set_option maxRecDepth 100000 in
set_option maxHeartbeats 4000000 in
theorem w_spec_l03Count (a : List (List (List Int))) (b : List (List (List Int))) (f : List Int) (Q : Int → Prop) (hrec : ∀ (a' : List (List (List Int))) (b' : List (List (List Int))) (f' : List Int), (((el a' 0).length : Int) - (f'.length : Int)).toNat < (((el a 0).length : Int) - (f.length : Int)).toNat → (cntD a' b' f') → AF Try.prog 17 [.lst (tabs a'), .lst (tabs b'), .lst (ints f')] (fun R_ => R_ = ci (cntI (el a' 0) (el b' 0) f'))) (h : wp_spec_l03Count a b f Q) : AF Try.prog 17 [.lst (tabs a), .lst (tabs b), .lst (ints f)] (fun R_ => ∃ y0, Q y0 ∧ R_ = ci y0) := by
  refine AF.ofWQ (af_enter (n := 41) Try.func17 rfl (by rfl) rfl (Nat.le_of_ble_eq_true rfl) ?_)
  unfold wp_spec_l03Count at h
  refine aw_seq ?_
  refine aw_gh (gh_to (n := 41) (σ' := []) (env' := [(0, .c (.lst (tabs a))), (1, .c (.lst (tabs b))), (2, .c (.lst (ints f)))]) rfl rfl ⟨rfl, rfl, rfl, trivial⟩) ?_
  refine aw_region ?_
  refine run_s (ss_assign rfl) rfl ?_
  refine run_nil ?_
  refine aw_seq ?_
  refine aw_seq ?_
  refine aw_region ?_
  refine run_s (ss_move rfl) rfl ?_
  refine run_s (ss_lenL (f := ci) rfl) rfl ?_
  refine run_s (ss_move rfl) rfl ?_
  obtain ⟨q1, h⟩ := h
  refine run_s (ss_idxL rfl rfl q1) rfl ?_
  refine run_s (ss_loadL (f := (fun r => C.lst (rows r))) rfl q1) rfl ?_
  refine run_s (ss_lenL (f := (fun r => C.lst (ints r))) rfl) rfl ?_
  refine run_s (ss_eql rfl rfl) rfl ?_
  refine run_nil ?_
  refine aw_cond rfl (fun q2 => ?_) (fun q2 => ?_)
  ·replace h := h.1 (of_decide_eq_true q2)
   refine aw_seq ?_
   refine aw_gh (gh_to (n := 41) (σ' := []) (env' := [(6, .c (ci 0))]) rfl rfl ⟨rfl, trivial⟩) ?_
   refine aw_region ?_
   refine run_s (ss_assign rfl) rfl ?_
   refine run_nil ?_
   refine aw_ret ?_
   exact retAF_mk (retv1 rfl (rv_tmp rfl)) rfl rfl ⟨_, (cle_refl _), _, h, rfl⟩
  ·replace h := h.2 (of_decide_eq_false q2)
   refine aw_skip ?_
   refine aw_seq ?_
   refine aw_gh (gh_to (n := 41) (σ' := []) (env' := [(0, .c (.lst (tabs a))), (1, .c (.lst (tabs b))), (2, .c (.lst (ints f)))]) rfl rfl ⟨rfl, rfl, rfl, trivial⟩) ?_
   refine aw_region ?_
   refine run_s (ss_assign rfl) rfl ?_
   refine run_nil ?_
   refine aw_seq ?_
   refine aw_seq ?_
   refine aw_region ?_
   refine run_s (ss_assign rfl) rfl ?_
   refine run_nil ?_
   refine aw_block ?_
   obtain ⟨H1, m1, q3, h⟩ := h
   refine aw_loop2 (fun (v7_1 : Int) (v8_1 : Int) => ⟨[], [(0, .c (.lst (tabs a))), (1, .c (.lst (tabs b))), (2, .c (.lst (ints f))), (7, .c (ci v7_1)), (8, .c (ci v8_1))], 41⟩) H1 m1 ⟨0, 0, ghe_to (n := 41) rfl rfl ⟨rfl, rfl, rfl, rfl, rfl, trivial⟩, q3⟩ ?_
   rintro v7_1 v8_1 q3
   replace h := h v7_1 v8_1 q3
   refine aw_seq ?_
   refine aw_seq ?_
   refine aw_region ?_
   refine run_s (ss_move rfl) rfl ?_
   refine run_s (ss_move rfl) rfl ?_
   obtain ⟨q4, h⟩ := h
   refine run_s (ss_idxL rfl rfl q4) rfl ?_
   refine run_s (ss_loadL (f := (fun r => C.lst (rows r))) rfl q4) rfl ?_
   refine run_s (ss_lenL (f := (fun r => C.lst (ints r))) rfl) rfl ?_
   refine run_s (ss_lss rfl rfl) rfl ?_
   refine run_nil ?_
   refine aw_cond rfl (fun q5 => ?_) (fun q5 => ?_)
   ·replace h := h.1 (of_decide_eq_true q5)
    refine aw_skip ?_
    refine aw_seq ?_
    refine aw_block ?_
    refine aw_seq ?_
    refine aw_region ?_
    refine run_s (ss_move rfl) rfl ?_
    obtain ⟨q6, h⟩ := h
    refine run_w (ws_call (xs := [.tmp 25]) (ids := [26]) rfl rfl rfl rfl (c_spec_l01Own f q6) rfl ?_ )
    rintro _ rfl
    refine ⟨rfl, ?_⟩
    refine run_s (ss_move rfl) rfl ?_
    refine run_w (ws_buildSlice (id := 28) (ps := [(0, .tmp 27)]) rfl rfl (Nat.le_of_ble_eq_true rfl) rfl ⟨rfl, ?_⟩)
    obtain ⟨q8, h⟩ := h
    refine run_w (ws_app1 ci (l := f) (m := [v8_1]) rfl rfl rfl rfl rfl (Nat.le_of_ble_eq_true rfl) q8 ⟨rfl, ?_⟩)
    refine run_s (ss_assign rfl) rfl ?_
    refine run_nil ?_
    refine aw_seq ?_
    refine aw_gh (gh_to (n := 41) (σ' := [(26, ⟨ints (f ++ ([v8_1])), []⟩)]) (env' := [(0, .c (.lst (tabs a))), (1, .c (.lst (tabs b))), (2, .c (.lst (ints f))), (7, .c (ci v7_1)), (8, .c (ci v8_1)), (9, .ref 26)]) rfl rfl ⟨rfl, rfl, rfl, rfl, rfl, rfl, trivial⟩) ?_
    refine aw_region ?_
    refine run_s (ss_move rfl) rfl ?_
    refine run_s (ss_move rfl) rfl ?_
    refine run_s (ss_move rfl) rfl ?_
    obtain ⟨q9, h⟩ := h
    refine run_w (ws_callR (xs := [.tmp 30, .tmp 31, .tmp 32]) (cs := [.lst (tabs a), .lst (tabs b), .own (ints (f ++ ([v8_1])))]) (ids := []) rfl (.inr ⟨rfl, rfl⟩) rfl rfl (fz_cons rfl (fz_cons rfl (fz_cons (fz_own (fz_map (fun _ => rfl) _)) fz_nil))) (c_spec_l03Fits a b (f ++ ([v8_1])) q9) rfl ?_ )
    rintro _ rfl
    refine ⟨rfl, rfl, ?_⟩
    refine run_nil ?_
    refine aw_cond rfl (fun q11 => ?_) (fun q11 => ?_)
    ·replace h := h.1 (q11)
     refine aw_gh (gh_to (n := 41) (σ' := [(26, ⟨ints (f ++ ([v8_1])), []⟩)]) (env' := [(0, .c (.lst (tabs a))), (1, .c (.lst (tabs b))), (2, .c (.lst (ints f))), (7, .c (ci v7_1)), (8, .c (ci v8_1)), (9, .ref 26)]) rfl rfl ⟨rfl, rfl, rfl, rfl, rfl, rfl, trivial⟩) ?_
     refine aw_region ?_
     refine run_s (ss_move rfl) rfl ?_
     refine run_s (ss_move rfl) rfl ?_
     refine run_s (ss_move rfl) rfl ?_
     refine run_s (ss_move rfl) rfl ?_
     obtain ⟨q12, h⟩ := h
     obtain ⟨q13, h⟩ := h
     refine run_w (ws_callR (xs := [.tmp 35, .tmp 36, .tmp 37]) (cs := [.lst (tabs a), .lst (tabs b), .own (ints (f ++ ([v8_1])))]) (ids := []) rfl (.inr ⟨rfl, rfl⟩) rfl rfl (fz_cons rfl (fz_cons rfl (fz_cons (fz_own (fz_map (fun _ => rfl) _)) fz_nil))) (hrec a b (f ++ ([v8_1])) q12 q13) rfl ?_ )
     rintro _ rfl
     refine ⟨rfl, rfl, ?_⟩
     obtain ⟨q15, h⟩ := h
     refine run_s (ss_add rfl rfl q15) rfl ?_
     refine run_s (ss_assign rfl) rfl ?_
     refine run_nil ?_
     refine aw_gh (gh_to (n := 41) (σ' := [(26, ⟨ints (f ++ ([v8_1])), []⟩)]) (env' := [(0, .c (.lst (tabs a))), (1, .c (.lst (tabs b))), (2, .c (.lst (ints f))), (7, .c (ci (v7_1 + (cntI (el a 0) (el b 0) (f ++ ([v8_1])))))), (8, .c (ci v8_1))]) rfl rfl ⟨rfl, rfl, rfl, rfl, rfl, trivial⟩) ?_
     refine aw_region ?_
     refine run_s (ss_move rfl) rfl ?_
     obtain ⟨q16, h⟩ := h
     refine run_s (ss_add rfl rfl q16) rfl ?_
     refine run_s (ss_assign rfl) rfl ?_
     refine run_nil ?_
     exact ⟨v7_1 + (cntI (el a 0) (el b 0) (f ++ ([v8_1]))), v8_1 + 1, ghe_step (gh_frzE (id := 26) ci rfl (fun _ => rfl)) (ghe_to (n := 41) rfl rfl ⟨rfl, rfl, rfl, rfl, rfl, trivial⟩), h.1, h.2⟩
    ·replace h := h.2 (q11)
     refine aw_skip ?_
     refine aw_gh (gh_to (n := 41) (σ' := [(26, ⟨ints (f ++ ([v8_1])), []⟩)]) (env' := [(0, .c (.lst (tabs a))), (1, .c (.lst (tabs b))), (2, .c (.lst (ints f))), (7, .c (ci v7_1)), (8, .c (ci v8_1))]) rfl rfl ⟨rfl, rfl, rfl, rfl, rfl, trivial⟩) ?_
     refine aw_region ?_
     refine run_s (ss_move rfl) rfl ?_
     obtain ⟨q17, h⟩ := h
     refine run_s (ss_add rfl rfl q17) rfl ?_
     refine run_s (ss_assign rfl) rfl ?_
     refine run_nil ?_
     exact ⟨v7_1, v8_1 + 1, ghe_step (gh_frzE (id := 26) ci rfl (fun _ => rfl)) (ghe_to (n := 41) rfl rfl ⟨rfl, rfl, rfl, rfl, rfl, trivial⟩), h.1, h.2⟩
   ·replace h := h.2 (of_decide_eq_false q5)
    refine aw_exit ?_
    refine aw_seq ?_
    refine aw_gh (gh_to (n := 41) (σ' := []) (env' := [(7, .c (ci v7_1))]) rfl rfl ⟨rfl, trivial⟩) ?_
    refine aw_region ?_
    refine run_s (ss_move rfl) rfl ?_
    refine run_s (ss_assign rfl) rfl ?_
    refine run_nil ?_
    refine aw_ret ?_
    exact retAF_mk (retv1 rfl (rv_tmp rfl)) rfl rfl ⟨_, (cle_refl _), _, h, rfl⟩

theorem c_spec_l03Count : ∀ (a : List (List (List Int))) (b : List (List (List Int))) (f : List Int), (cntD a b f) → AF Try.prog 17 [.lst (tabs a), .lst (tabs b), .lst (ints f)] (fun R_ => R_ = ci (cntI (el a 0) (el b 0) f)) := by
  have key : ∀ (k_ : Nat) (a : List (List (List Int))) (b : List (List (List Int))) (f : List Int), (((el a 0).length : Int) - (f.length : Int)).toNat ≤ k_ → (cntD a b f) → AF Try.prog 17 [.lst (tabs a), .lst (tabs b), .lst (ints f)] (fun R_ => R_ = ci (cntI (el a 0) (el b 0) f)) := by
    intro k_; induction k_ with
    | zero => intro a b f hn hp; exact (w_spec_l03Count a b f (fun y0 => y0 = cntI (el a 0) (el b 0) f) (fun _ _ _ hlt => absurd hlt (by omega)) (p_spec_l03Count a b f hp)).mono (by rintro r ⟨_, rfl, rfl⟩; rfl)
    | succ k_ ih => intro a b f hn hp; exact (w_spec_l03Count a b f (fun y0 => y0 = cntI (el a 0) (el b 0) f) (fun a' b' f' hlt => ih a' b' f' (by omega)) (p_spec_l03Count a b f hp)).mono (by rintro r ⟨_, rfl, rfl⟩; rfl)
  exact fun a b f => key _ a b f (Nat.le_refl _)

set_option maxRecDepth 100000 in
set_option maxHeartbeats 4000000 in
theorem w_spec_CountRackMaps (r : List (List Int)) (s : List (List Int)) (Q : Int → Int → Prop) (h : wp_spec_CountRackMaps r s Q) : AF Try.prog 7 [.agg [.lst (rows r)], .agg [.lst (rows s)]] (fun R_ => ∃ y0 y1, Q y0 y1 ∧ R_ = .tup [ci y0, ci y1]) := by
  refine AF.ofWQ (af_enter (n := 37) Try.func7 rfl (by rfl) rfl (Nat.le_of_ble_eq_true rfl) ?_)
  unfold wp_spec_CountRackMaps at h
  refine aw_seq ?_
  refine aw_gh (gh_to (n := 37) (σ' := []) (env' := [(0, .c (.agg [.lst (rows r)])), (1, .c (.agg [.lst (rows s)]))]) rfl rfl ⟨rfl, rfl, trivial⟩) ?_
  refine aw_region ?_
  refine run_w (ws_boxR rfl (.inl rfl) rfl ⟨rfl, ?_⟩)
  refine run_w (ws_boxR rfl (.inl rfl) rfl ⟨rfl, ?_⟩)
  refine run_s (ss_assign rfl) rfl ?_
  refine run_s (ss_assign rfl) rfl ?_
  refine run_nil ?_
  refine aw_seq ?_
  refine aw_seq ?_
  refine aw_region ?_
  refine run_s (ss_load_struct rfl (Nat.le_of_ble_eq_true rfl)) rfl ?_
  obtain ⟨q1, h⟩ := h
  refine run_w (ws_call (xs := [.tmp 8]) (ids := []) rfl rfl rfl rfl (c_spec_l03Is r q1) rfl ?_ )
  rintro _ rfl
  refine ⟨rfl, ?_⟩
  refine run_s (ss_not rfl) rfl ?_
  refine run_s (ss_move rfl) rfl ?_
  refine run_split (s := 11) rfl (fun q3 => ?_) (fun q3 => ?_)
  ·replace h := h.1 ((bnot_t q3))
   refine run_gf rfl rfl q3 rfl ?_
   refine run_gf rfl rfl q3 rfl ?_
   refine run_gf rfl rfl q3 rfl ?_
   refine run_s (ss_pickT rfl q3 rfl) rfl ?_
   refine run_nil ?_
   refine aw_cond rfl (fun q4 => ?_) (fun q4 => ?_)
   ·skip
    refine aw_seq ?_
    refine aw_gh (gh_to (n := 37) (σ' := []) (env' := [(4, .c (ci 0)), (5, .c (ci 0))]) rfl rfl ⟨rfl, rfl, trivial⟩) ?_
    refine aw_region ?_
    refine run_s (ss_assign rfl) rfl ?_
    refine run_s (ss_assign rfl) rfl ?_
    refine run_nil ?_
    refine aw_ret ?_
    exact retAF_mk (retv2 rfl (rv_tmp rfl) (rv_tmp rfl)) rfl rfl ⟨_, (cle_refl _), _, _, h, rfl⟩
   ·cases q4
  ·replace h := h.2 ((bnot_f q3))
   refine run_gt rfl rfl q3 ?_
   refine run_s (ss_load_struct rfl (Nat.le_of_ble_eq_true rfl)) rfl ?_
   refine run_gt rfl rfl q3 ?_
   obtain ⟨q5, h⟩ := h
   refine run_w (ws_call (xs := [.tmp 12]) (ids := []) rfl rfl rfl rfl (c_spec_l03Is s q5) rfl ?_ )
   rintro _ rfl
   refine ⟨rfl, ?_⟩
   refine run_gt rfl rfl q3 ?_
   refine run_s (ss_not rfl) rfl ?_
   refine run_s (ss_pickF rfl q3 rfl) rfl ?_
   refine run_nil ?_
   refine aw_cond rfl (fun q7 => ?_) (fun q7 => ?_)
   ·replace h := h.1 ((bnot_t q7))
    refine aw_seq ?_
    refine aw_gh (gh_to (n := 37) (σ' := []) (env' := [(4, .c (ci 0)), (5, .c (ci 0))]) rfl rfl ⟨rfl, rfl, trivial⟩) ?_
    refine aw_region ?_
    refine run_s (ss_assign rfl) rfl ?_
    refine run_s (ss_assign rfl) rfl ?_
    refine run_nil ?_
    refine aw_ret ?_
    exact retAF_mk (retv2 rfl (rv_tmp rfl) (rv_tmp rfl)) rfl rfl ⟨_, (cle_refl _), _, _, h, rfl⟩
   ·replace h := h.2 ((bnot_f q7))
    refine aw_skip ?_
    refine aw_seq ?_
    refine aw_gh (gh_to (n := 37) (σ' := []) (env' := [(2, .c (.ptr [.lst (rows r)])), (3, .c (.ptr [.lst (rows s)]))]) rfl rfl ⟨rfl, rfl, trivial⟩) ?_
    refine aw_region ?_
    refine run_s (ss_assign rfl) rfl ?_
    refine run_nil ?_
    refine aw_seq ?_
    refine aw_seq ?_
    refine aw_region ?_
    refine run_s (ss_assign rfl) rfl ?_
    refine run_nil ?_
    refine aw_block ?_
    obtain ⟨H1, m1, q8, h⟩ := h
    refine aw_loop2 (fun (v6_1 : Int) (v7_1 : Int) => ⟨[], [(2, .c (.ptr [.lst (rows r)])), (3, .c (.ptr [.lst (rows s)])), (6, .c (ci v6_1)), (7, .c (ci v7_1))], 37⟩) H1 m1 ⟨1, 0, ghe_to (n := 37) rfl rfl ⟨rfl, rfl, rfl, rfl, trivial⟩, q8⟩ ?_
    rintro v6_1 v7_1 q8
    replace h := h v6_1 v7_1 q8
    refine aw_seq ?_
    refine aw_seq ?_
    refine aw_region ?_
    refine run_s (ss_move rfl) rfl ?_
    refine run_s (ss_field_ptr rfl) rfl ?_
    refine run_s (ss_load_ptr rfl rfl) rfl ?_
    refine run_s (ss_lenL (f := (fun r => C.lst (ints r))) rfl) rfl ?_
    refine run_s (ss_lss rfl rfl) rfl ?_
    refine run_nil ?_
    refine aw_cond rfl (fun q9 => ?_) (fun q9 => ?_)
    ·replace h := h.1 (of_decide_eq_true q9)
     refine aw_skip ?_
     refine aw_seq ?_
     refine aw_block ?_
     refine aw_seq ?_
     refine aw_region ?_
     refine run_s (ss_move rfl) rfl ?_
     refine run_s (ss_field_ptr rfl) rfl ?_
     refine run_s (ss_load_ptr rfl rfl) rfl ?_
     refine run_s (ss_lenL (f := (fun r => C.lst (ints r))) rfl) rfl ?_
     obtain ⟨q10, h⟩ := h
     refine run_s (ss_mul rfl rfl q10) rfl ?_
     refine run_s (ss_assign rfl) rfl ?_
     refine run_nil ?_
     refine aw_seq ?_
     refine aw_gh (gh_to (n := 37) (σ' := []) (env' := [(2, .c (.ptr [.lst (rows r)])), (3, .c (.ptr [.lst (rows s)])), (6, .c (ci (v6_1 * (s.length : Int)))), (7, .c (ci v7_1))]) rfl rfl ⟨rfl, rfl, rfl, rfl, trivial⟩) ?_
     refine aw_region ?_
     refine run_s (ss_move rfl) rfl ?_
     refine run_s (ss_gtr rfl rfl) rfl ?_
     refine run_nil ?_
     refine aw_cond rfl (fun q11 => ?_) (fun q11 => ?_)
     ·replace h := h.1 (of_decide_eq_true q11)
      refine aw_seq ?_
      refine aw_gh (gh_to (n := 37) (σ' := []) (env' := []) rfl rfl trivial) ?_
      refine aw_region ?_
      refine run_s (ss_assign rfl) rfl ?_
      refine run_s (ss_assign rfl) rfl ?_
      refine run_nil ?_
      refine aw_ret ?_
      exact retAF_mk (retv2 rfl (rv_tmp rfl) (rv_tmp rfl)) rfl rfl ⟨_, (cle_refl _), _, _, h, rfl⟩
     ·replace h := h.2 (of_decide_eq_false q11)
      refine aw_skip ?_
      refine aw_region ?_
      refine run_s (ss_move rfl) rfl ?_
      obtain ⟨q12, h⟩ := h
      refine run_s (ss_add rfl rfl q12) rfl ?_
      refine run_s (ss_assign rfl) rfl ?_
      refine run_nil ?_
      exact ⟨v6_1 * (s.length : Int), v7_1 + 1, ghe_to (n := 37) rfl rfl ⟨rfl, rfl, rfl, rfl, trivial⟩, h.1, h.2⟩
    ·replace h := h.2 (of_decide_eq_false q9)
     refine aw_exit ?_
     refine aw_seq ?_
     refine aw_region ?_
     refine run_s (ss_field_ptr rfl) rfl ?_
     refine run_s (ss_load_ptr rfl rfl) rfl ?_
     refine run_w (ws_buildSlice (id := 32) (ps := [(0, .tmp 31)]) rfl rfl (Nat.le_of_ble_eq_true rfl) rfl ⟨rfl, ?_⟩)
     refine run_s (ss_field_ptr rfl) rfl ?_
     refine run_s (ss_load_ptr rfl rfl) rfl ?_
     refine run_w (ws_buildSlice (id := 35) (ps := [(0, .tmp 34)]) rfl rfl (Nat.le_of_ble_eq_true rfl) rfl ⟨rfl, ?_⟩)
     obtain ⟨q13, h⟩ := h
     refine run_w (ws_callR (xs := [.tmp 32, .tmp 35, .const (.slice none 0 0)]) (cs := [.own (tabs ([r])), .own (tabs ([s])), cnil]) (ids := []) rfl (.inr ⟨rfl, rfl⟩) rfl rfl (fz_cons (fz_own (fz_map (fun _ => rfl) _)) (fz_cons (fz_own (fz_map (fun _ => rfl) _)) (fz_cons rfl fz_nil))) (AF.weak (c_spec_l03Count ([r]) ([s]) ([] : List Int) q13) (cleL_cons (cle_refl _) (cleL_cons (cle_refl _) (cleL_cons cle_nilL cleL_nil)))) rfl ?_ )
     rintro _ rfl
     refine ⟨rfl, rfl, ?_⟩
     refine run_s (ss_assign rfl) rfl ?_
     refine run_s (ss_assign rfl) rfl ?_
     refine run_nil ?_
     refine aw_ret ?_
     exact retAF_mk (retv2 rfl (rv_tmp rfl) (rv_tmp rfl)) rfl rfl ⟨_, (cle_refl _), _, _, h, rfl⟩

theorem c_spec_CountRackMaps (r : List (List Int)) (s : List (List Int)) (hp : small2 r ∧ small2 s) : AF Try.prog 7 [.agg [.lst (rows r)], .agg [.lst (rows s)]] (fun R_ => R_ = .tup [ci (CrmV r s), ci (CrmE r s)]) :=
  (w_spec_CountRackMaps r s (fun y0 y1 => y0 = CrmV r s ∧ y1 = CrmE r s) (p_spec_CountRackMaps r s hp)).mono (by rintro r ⟨_, _, ⟨rfl, rfl⟩, rfl⟩; rfl)

set_option maxRecDepth 100000 in
set_option maxHeartbeats 4000000 in
theorem w_impl_ProductRack (r : List (List Int)) (s : List (List Int)) (Q : List (List Int) → Int → Prop) (h : wp_impl_ProductRack r s Q) : AF Try.prog 9 [.agg [.lst (rows r)], .agg [.lst (rows s)]] (fun R_ => ∃ y0 y1, Q y0 y1 ∧ R_ = .tup [.agg [.own (orows y0)], ci y1]) := by
  refine AF.ofWQ (af_enter (n := 33) Try.func9 rfl (by rfl) rfl (Nat.le_of_ble_eq_true rfl) ?_)
  unfold wp_impl_ProductRack at h
  refine aw_seq ?_
  refine aw_gh (gh_to (n := 33) (σ' := []) (env' := [(0, .c (.agg [.lst (rows r)])), (1, .c (.agg [.lst (rows s)]))]) rfl rfl ⟨rfl, rfl, trivial⟩) ?_
  refine aw_region ?_
  refine run_w (ws_boxR rfl (.inl rfl) rfl ⟨rfl, ?_⟩)
  refine run_w (ws_boxR rfl (.inl rfl) rfl ⟨rfl, ?_⟩)
  refine run_w (ws_alloc (id := 4) rfl (Nat.le_of_ble_eq_true rfl) ⟨rfl, ?_⟩)
  refine run_s (ss_assign rfl) rfl ?_
  refine run_nil ?_
  refine aw_seq ?_
  refine aw_seq ?_
  refine aw_region ?_
  refine run_s (ss_load_struct rfl (Nat.le_of_ble_eq_true rfl)) rfl ?_
  obtain ⟨q1, h⟩ := h
  refine run_w (ws_call (xs := [.tmp 8]) (ids := []) rfl rfl rfl rfl (c_impl_IsRack r q1) rfl ?_ )
  rintro _ rfl
  refine ⟨rfl, ?_⟩
  refine run_s (ss_not rfl) rfl ?_
  refine run_s (ss_move rfl) rfl ?_
  refine run_split (s := 11) rfl (fun q3 => ?_) (fun q3 => ?_)
  ·replace h := h.1 ((bnot_t q3))
   refine run_gf rfl rfl q3 rfl ?_
   refine run_gf rfl rfl q3 rfl ?_
   refine run_gf rfl rfl q3 rfl ?_
   refine run_s (ss_pickT rfl q3 rfl) rfl ?_
   refine run_nil ?_
   refine aw_cond rfl (fun q4 => ?_) (fun q4 => ?_)
   ·skip
    refine aw_seq ?_
    refine aw_gh (gh_to (n := 33) (σ' := [(4, ⟨[cnil], []⟩)]) (env' := [(4, .cell 4 0), (5, .c (ci 0))]) rfl rfl ⟨rfl, rfl, trivial⟩) ?_
    refine aw_region ?_
    refine run_s (ss_build0) rfl ?_
    refine run_w (ws_storeS rfl rfl (Nat.le_of_ble_eq_true rfl) rfl rfl rfl ⟨rfl, ?_⟩)
    refine run_s (ss_assign rfl) rfl ?_
    refine run_nil ?_
    refine aw_ret ?_
    exact retAF_mk (retv2 rfl (rv_struct rfl rfl rfl) (rv_tmp rfl)) rfl rfl ⟨_, (cle_tup (cleL_cons (cle_agg (cleL_cons cle_nilO cleL_nil)) (cleL_cons (cle_refl _) cleL_nil))), _, _, h, rfl⟩
   ·cases q4
  ·replace h := h.2 ((bnot_f q3))
   refine run_gt rfl rfl q3 ?_
   refine run_s (ss_load_struct rfl (Nat.le_of_ble_eq_true rfl)) rfl ?_
   refine run_gt rfl rfl q3 ?_
   obtain ⟨q5, h⟩ := h
   refine run_w (ws_call (xs := [.tmp 12]) (ids := []) rfl rfl rfl rfl (c_impl_IsRack s q5) rfl ?_ )
   rintro _ rfl
   refine ⟨rfl, ?_⟩
   refine run_gt rfl rfl q3 ?_
   refine run_s (ss_not rfl) rfl ?_
   refine run_s (ss_pickF rfl q3 rfl) rfl ?_
   refine run_nil ?_
   refine aw_cond rfl (fun q7 => ?_) (fun q7 => ?_)
   ·replace h := h.1 ((bnot_t q7))
    refine aw_seq ?_
    refine aw_gh (gh_to (n := 33) (σ' := [(4, ⟨[cnil], []⟩)]) (env' := [(4, .cell 4 0), (5, .c (ci 0))]) rfl rfl ⟨rfl, rfl, trivial⟩) ?_
    refine aw_region ?_
    refine run_s (ss_build0) rfl ?_
    refine run_w (ws_storeS rfl rfl (Nat.le_of_ble_eq_true rfl) rfl rfl rfl ⟨rfl, ?_⟩)
    refine run_s (ss_assign rfl) rfl ?_
    refine run_nil ?_
    refine aw_ret ?_
    exact retAF_mk (retv2 rfl (rv_struct rfl rfl rfl) (rv_tmp rfl)) rfl rfl ⟨_, (cle_tup (cleL_cons (cle_agg (cleL_cons cle_nilO cleL_nil)) (cleL_cons (cle_refl _) cleL_nil))), _, _, h, rfl⟩
   ·replace h := h.2 ((bnot_f q7))
    refine aw_skip ?_
    refine aw_seq ?_
    refine aw_gh (gh_to (n := 33) (σ' := [(4, ⟨[cnil], []⟩)]) (env' := [(2, .c (.ptr [.lst (rows r)])), (3, .c (.ptr [.lst (rows s)])), (4, .cell 4 0)]) rfl rfl ⟨rfl, rfl, rfl, trivial⟩) ?_
    refine aw_regionD (kd := kdl [0, 1, 0, 0, 1, 0, 2, 0, 3]) (ord := [0, 3, 1, 2, 4, 5, 6, 7, 8]) [] mixed (by kernel_rfl) ?_
    refine rd_s rfl rfl trivial (ss_field_ptr rfl) rfl ?_
    refine rd_s rfl rfl trivial (ss_field_ptr rfl) rfl ?_
    refine rd_l rfl rfl trivial (ss_load_ptr rfl rfl) rfl ?_
    refine rd_s rfl rfl trivial (ss_lenL (f := (fun r => C.lst (ints r))) rfl) rfl ?_
    refine rd_l rfl rfl trivial (ss_load_ptr rfl rfl) rfl ?_
    refine rd_s rfl rfl trivial (ss_lenL (f := (fun r => C.lst (ints r))) rfl) rfl ?_
    refine rd_w rfl rfl trivial rfl rfl (ws_alloc (id := 7) rfl (Nat.le_of_ble_eq_true rfl) ⟨rfl, ?_⟩)
    refine rd_s rfl rfl trivial (ss_assign rfl) rfl ?_
    refine rd_f rfl rfl trivial (ws_store rfl rfl (Nat.le_of_ble_eq_true rfl) rfl rfl ⟨rfl, ?_⟩)
    refine rd_nil ?_
    refine aw_seq ?_
    refine aw_seq ?_
    refine aw_region ?_
    refine run_s (ss_move rfl) rfl ?_
    refine run_s (ss_loadC rfl rfl rfl rfl rfl) rfl ?_
    obtain ⟨q8, h⟩ := h
    refine run_s (ss_mul rfl rfl q8) rfl ?_
    refine run_s (ss_gtr rfl rfl) rfl ?_
    refine run_nil ?_
    refine aw_cond rfl (fun q9 => ?_) (fun q9 => ?_)
    ·replace h := h.1 (of_decide_eq_true q9)
     refine aw_seq ?_
     refine aw_gh (gh_to (n := 33) (σ' := [(7, ⟨[ci (s.length : Int)], []⟩), (4, ⟨[cnil], []⟩)]) (env' := [(4, .cell 4 0)]) rfl rfl ⟨rfl, trivial⟩) ?_
     refine aw_region ?_
     refine run_s (ss_build0) rfl ?_
     refine run_w (ws_storeS rfl rfl (Nat.le_of_ble_eq_true rfl) rfl rfl rfl ⟨rfl, ?_⟩)
     refine run_s (ss_assign rfl) rfl ?_
     refine run_nil ?_
     refine aw_ret ?_
     exact retAF_mk (retv2 rfl (rv_struct rfl rfl rfl) (rv_tmp rfl)) rfl rfl ⟨_, (cle_tup (cleL_cons (cle_agg (cleL_cons cle_nilO cleL_nil)) (cleL_cons (cle_refl _) cleL_nil))), _, _, h, rfl⟩
    ·replace h := h.2 (of_decide_eq_false q9)
     refine aw_skip ?_
     refine aw_seq ?_
     refine aw_gh (gh_to (n := 33) (σ' := [(7, ⟨[ci (s.length : Int)], []⟩), (4, ⟨[cnil], []⟩)]) (env' := [(2, .c (.ptr [.lst (rows r)])), (3, .c (.ptr [.lst (rows s)])), (4, .cell 4 0), (6, .c (ci (r.length : Int))), (7, .cell 7 0)]) rfl rfl ⟨rfl, rfl, rfl, rfl, rfl, trivial⟩) ?_
     refine aw_region ?_
     refine run_s (ss_move rfl) rfl ?_
     refine run_s (ss_loadC rfl rfl rfl rfl rfl) rfl ?_
     obtain ⟨q10, h⟩ := h
     refine run_s (ss_mul rfl rfl q10) rfl ?_
     refine run_gh (gh_freeze (id := 7) rfl rfl) ?_
     refine run_s (ss_makeFunc (os := [.tmp 2, .tmp 7, .tmp 3]) rfl) rfl ?_
     obtain ⟨q11, h⟩ := h
     refine run_w (ws_call (xs := [.tmp 30, .tmp 31]) (ids := [32]) rfl rfl rfl rfl (c_impl_rackBy ((r.length : Int) * (s.length : Int)) 21 [.ptr [.lst (rows r)], .ptr [ci (s.length : Int)], .ptr [.lst (rows s)]] (fun z0 z1 => el (el r (z0 / (s.length : Int))) (z1 / (s.length : Int)) * (s.length : Int) + el (el s (z0 % (s.length : Int))) (z1 % (s.length : Int))) (fun z0 z1 => isTab r = true ∧ isTab s = true ∧ (s.length : Int) = (s.length : Int) ∧ 0 ≤ z0 ∧ z0 < (r.length : Int) * (s.length : Int) ∧ 0 ≤ z1 ∧ z1 < (r.length : Int) * (s.length : Int)) (fun z0 z1 hD => c_impl_ProductRack_1 z0 z1 r (s.length : Int) s hD) q11) rfl ?_ )
     rintro _ rfl
     refine ⟨rfl, ?_⟩
     refine run_w (ws_storeS rfl rfl (Nat.le_of_ble_eq_true rfl) rfl rfl rfl ⟨rfl, ?_⟩)
     refine run_s (ss_assign rfl) rfl ?_
     refine run_nil ?_
     refine aw_ret ?_
     exact retAF_mk (retv2 rfl (rv_struct rfl rfl rfl) (rv_tmp rfl)) rfl rfl ⟨_, (cle_refl _), _, _, h, rfl⟩

theorem c_impl_ProductRack (r : List (List Int)) (s : List (List Int)) (hp : small2 r ∧ small2 s) : AF Try.prog 9 [.agg [.lst (rows r)], .agg [.lst (rows s)]] (fun R_ => R_ = .tup [.agg [.own (orows (ProT r s))], ci (ProE r s)]) :=
  (w_impl_ProductRack r s (fun y0 y1 => y0 = ProT r s ∧ y1 = ProE r s) (p_impl_ProductRack r s hp)).mono (by rintro r ⟨_, _, ⟨rfl, rfl⟩, rfl⟩; rfl)

set_option maxRecDepth 100000 in
set_option maxHeartbeats 4000000 in
theorem w_impl_CountRackMaps (r : List (List Int)) (s : List (List Int)) (Q : Int → Int → Prop) (h : wp_impl_CountRackMaps r s Q) : AF Try.prog 6 [.agg [.lst (rows r)], .agg [.lst (rows s)]] (fun R_ => ∃ y0 y1, Q y0 y1 ∧ R_ = .tup [ci y0, ci y1]) := by
  refine AF.ofWQ (af_enter (n := 33) Try.func6 rfl (by rfl) rfl (Nat.le_of_ble_eq_true rfl) ?_)
  unfold wp_impl_CountRackMaps at h
  refine aw_seq ?_
  refine aw_gh (gh_to (n := 33) (σ' := []) (env' := [(0, .c (.agg [.lst (rows r)])), (1, .c (.agg [.lst (rows s)]))]) rfl rfl ⟨rfl, rfl, trivial⟩) ?_
  refine aw_region ?_
  refine run_w (ws_boxR rfl (.inl rfl) rfl ⟨rfl, ?_⟩)
  refine run_w (ws_boxR rfl (.inl rfl) rfl ⟨rfl, ?_⟩)
  refine run_s (ss_assign rfl) rfl ?_
  refine run_s (ss_assign rfl) rfl ?_
  refine run_nil ?_
  refine aw_seq ?_
  refine aw_seq ?_
  refine aw_region ?_
  refine run_s (ss_load_struct rfl (Nat.le_of_ble_eq_true rfl)) rfl ?_
  obtain ⟨q1, h⟩ := h
  refine run_w (ws_call (xs := [.tmp 7]) (ids := []) rfl rfl rfl rfl (c_impl_IsRack r q1) rfl ?_ )
  rintro _ rfl
  refine ⟨rfl, ?_⟩
  refine run_s (ss_not rfl) rfl ?_
  refine run_s (ss_move rfl) rfl ?_
  refine run_split (s := 10) rfl (fun q3 => ?_) (fun q3 => ?_)
  ·replace h := h.1 ((bnot_t q3))
   refine run_gf rfl rfl q3 rfl ?_
   refine run_gf rfl rfl q3 rfl ?_
   refine run_gf rfl rfl q3 rfl ?_
   refine run_s (ss_pickT rfl q3 rfl) rfl ?_
   refine run_nil ?_
   refine aw_cond rfl (fun q4 => ?_) (fun q4 => ?_)
   ·skip
    refine aw_seq ?_
    refine aw_gh (gh_to (n := 33) (σ' := []) (env' := [(4, .c (ci 0)), (5, .c (ci 0))]) rfl rfl ⟨rfl, rfl, trivial⟩) ?_
    refine aw_region ?_
    refine run_s (ss_assign rfl) rfl ?_
    refine run_s (ss_assign rfl) rfl ?_
    refine run_nil ?_
    refine aw_ret ?_
    exact retAF_mk (retv2 rfl (rv_tmp rfl) (rv_tmp rfl)) rfl rfl ⟨_, (cle_refl _), _, _, h, rfl⟩
   ·cases q4
  ·replace h := h.2 ((bnot_f q3))
   refine run_gt rfl rfl q3 ?_
   refine run_s (ss_load_struct rfl (Nat.le_of_ble_eq_true rfl)) rfl ?_
   refine run_gt rfl rfl q3 ?_
   obtain ⟨q5, h⟩ := h
   refine run_w (ws_call (xs := [.tmp 11]) (ids := []) rfl rfl rfl rfl (c_impl_IsRack s q5) rfl ?_ )
   rintro _ rfl
   refine ⟨rfl, ?_⟩
   refine run_gt rfl rfl q3 ?_
   refine run_s (ss_not rfl) rfl ?_
   refine run_s (ss_pickF rfl q3 rfl) rfl ?_
   refine run_nil ?_
   refine aw_cond rfl (fun q7 => ?_) (fun q7 => ?_)
   ·replace h := h.1 ((bnot_t q7))
    refine aw_seq ?_
    refine aw_gh (gh_to (n := 33) (σ' := []) (env' := [(4, .c (ci 0)), (5, .c (ci 0))]) rfl rfl ⟨rfl, rfl, trivial⟩) ?_
    refine aw_region ?_
    refine run_s (ss_assign rfl) rfl ?_
    refine run_s (ss_assign rfl) rfl ?_
    refine run_nil ?_
    refine aw_ret ?_
    exact retAF_mk (retv2 rfl (rv_tmp rfl) (rv_tmp rfl)) rfl rfl ⟨_, (cle_refl _), _, _, h, rfl⟩
   ·replace h := h.2 ((bnot_f q7))
    refine aw_skip ?_
    refine aw_seq ?_
    refine aw_gh (gh_to (n := 33) (σ' := []) (env' := [(2, .c (.ptr [.lst (rows r)])), (3, .c (.ptr [.lst (rows s)]))]) rfl rfl ⟨rfl, rfl, trivial⟩) ?_
    refine aw_region ?_
    refine run_s (ss_assign rfl) rfl ?_
    refine run_nil ?_
    refine aw_seq ?_
    refine aw_seq ?_
    refine aw_region ?_
    refine run_s (ss_field_ptr rfl) rfl ?_
    refine run_s (ss_load_ptr rfl rfl) rfl ?_
    refine run_s (ss_lenL (f := (fun r => C.lst (ints r))) rfl) rfl ?_
    refine run_s (ss_move rfl) rfl ?_
    refine run_nil ?_
    refine aw_block ?_
    obtain ⟨H1, m1, q8, h⟩ := h
    refine aw_loop2 (fun (v6_1 : Int) (v18_1 : Int) => ⟨[], [(2, .c (.ptr [.lst (rows r)])), (3, .c (.ptr [.lst (rows s)])), (6, .c (ci v6_1)), (17, .c (ci (r.length : Int))), (18, .c (ci v18_1))], 33⟩) H1 m1 ⟨1, 0, ghe_to (n := 33) rfl rfl ⟨rfl, rfl, rfl, rfl, rfl, trivial⟩, q8⟩ ?_
    rintro v6_1 v18_1 q8
    replace h := h v6_1 v18_1 q8
    refine aw_seq ?_
    refine aw_region ?_
    refine run_s (ss_lss rfl rfl) rfl ?_
    refine run_nil ?_
    refine aw_seq ?_
    refine aw_cond rfl (fun q9 => ?_) (fun q9 => ?_)
    ·replace h := h.1 (of_decide_eq_true q9)
     refine aw_skip ?_
     refine aw_seq ?_
     refine aw_block ?_
     refine aw_seq ?_
     refine aw_region ?_
     refine run_s (ss_move rfl) rfl ?_
     refine run_s (ss_field_ptr rfl) rfl ?_
     refine run_s (ss_load_ptr rfl rfl) rfl ?_
     refine run_s (ss_lenL (f := (fun r => C.lst (ints r))) rfl) rfl ?_
     obtain ⟨q10, h⟩ := h
     refine run_s (ss_mul rfl rfl q10) rfl ?_
     refine run_s (ss_assign rfl) rfl ?_
     refine run_nil ?_
     refine aw_seq ?_
     refine aw_gh (gh_to (n := 33) (σ' := []) (env' := [(2, .c (.ptr [.lst (rows r)])), (3, .c (.ptr [.lst (rows s)])), (6, .c (ci (v6_1 * (s.length : Int)))), (17, .c (ci (r.length : Int))), (18, .c (ci v18_1))]) rfl rfl ⟨rfl, rfl, rfl, rfl, rfl, trivial⟩) ?_
     refine aw_region ?_
     refine run_s (ss_move rfl) rfl ?_
     refine run_s (ss_gtr rfl rfl) rfl ?_
     refine run_nil ?_
     refine aw_cond rfl (fun q11 => ?_) (fun q11 => ?_)
     ·replace h := h.1 (of_decide_eq_true q11)
      refine aw_seq ?_
      refine aw_gh (gh_to (n := 33) (σ' := []) (env' := []) rfl rfl trivial) ?_
      refine aw_region ?_
      refine run_s (ss_assign rfl) rfl ?_
      refine run_s (ss_assign rfl) rfl ?_
      refine run_nil ?_
      refine aw_ret ?_
      exact retAF_mk (retv2 rfl (rv_tmp rfl) (rv_tmp rfl)) rfl rfl ⟨_, (cle_refl _), _, _, h, rfl⟩
     ·replace h := h.2 (of_decide_eq_false q11)
      refine aw_skip ?_
      refine aw_region ?_
      obtain ⟨q12, h⟩ := h
      refine run_s (ss_add rfl rfl q12) rfl ?_
      refine run_s (ss_move rfl) rfl ?_
      refine run_nil ?_
      exact ⟨v6_1 * (s.length : Int), v18_1 + 1, ghe_to (n := 33) rfl rfl ⟨rfl, rfl, rfl, rfl, rfl, trivial⟩, h.1, h.2⟩
    ·replace h := h.2 (of_decide_eq_false q9)
     refine aw_exit ?_
     refine aw_seq ?_
     refine aw_region ?_
     refine run_s (ss_field_ptr rfl) rfl ?_
     refine run_s (ss_load_ptr rfl rfl) rfl ?_
     refine run_s (ss_field_ptr rfl) rfl ?_
     refine run_s (ss_load_ptr rfl rfl) rfl ?_
     obtain ⟨q13, h⟩ := h
     refine run_w (ws_call (xs := [.tmp 29, .tmp 31, .const (.slice none 0 0)]) (ids := []) rfl rfl rfl rfl (AF.weak (c_impl_countMaps r s ([] : List Int) q13) (cleL_cons (cle_refl _) (cleL_cons (cle_refl _) (cleL_cons cle_nilL cleL_nil)))) rfl ?_ )
     rintro _ rfl
     refine ⟨rfl, ?_⟩
     refine run_s (ss_assign rfl) rfl ?_
     refine run_s (ss_assign rfl) rfl ?_
     refine run_nil ?_
     refine aw_ret ?_
     exact retAF_mk (retv2 rfl (rv_tmp rfl) (rv_tmp rfl)) rfl rfl ⟨_, (cle_refl _), _, _, h, rfl⟩

theorem c_impl_CountRackMaps (r : List (List Int)) (s : List (List Int)) (hp : small2 r ∧ small2 s) : AF Try.prog 6 [.agg [.lst (rows r)], .agg [.lst (rows s)]] (fun R_ => R_ = .tup [ci (CrmV r s), ci (CrmE r s)]) :=
  (w_impl_CountRackMaps r s (fun y0 y1 => y0 = CrmV r s ∧ y1 = CrmE r s) (p_impl_CountRackMaps r s hp)).mono (by rintro r ⟨_, _, ⟨rfl, rfl⟩, rfl⟩; rfl)

def wp_spec_l01Own2 (lists : List (List Int)) (Q : List (List Int) → Prop) : Prop :=
 ∃ (H1 : Int → List (List Int) → Prop) (m1 : Int → List (List Int) → Nat),
 H1 0 ([] : List (List Int)) ∧
 ∀ (v4_1 : Int) (o5_1 : List (List Int)), H1 v4_1 o5_1 →
 ( ((v4_1 < (lists.length : Int) →
 (0 ≤ v4_1 ∧ v4_1 < (lists.length : Int)) ∧
 (small (el lists v4_1)) ∧
 ((o5_1.length : Int) + (([(el lists v4_1)]).length : Int) ≤ 1000000000) ∧
 (InI (v4_1 + 1)) ∧
 (H1 (v4_1 + 1) (o5_1 ++ ([(el lists v4_1)])) ∧ m1 (v4_1 + 1) (o5_1 ++ ([(el lists v4_1)])) < m1 v4_1 o5_1)) ∧
 (¬ (v4_1 < (lists.length : Int)) →
 Q o5_1)))

theorem p_spec_l01Own2 (lists : List (List Int)) (hp : small2 lists) : wp_spec_l01Own2 lists (fun y0 => y0 = lists) := by
  unfold wp_spec_l01Own2
  have h1 := hp.1
  refine ⟨fun i o => 0 ≤ i ∧ i ≤ (lists.length : Int) ∧ o.length = i.toNat ∧ Upto i fun x => el o x = el lists x, fun i _ => ((lists.length : Int) - i).toNat, ⟨by omega, by omega, by simp, upto0⟩, ?_⟩
  rintro i o ⟨i0, i1, il, iI⟩
  dsimp only
  exact ⟨fun ilt => ⟨⟨i0, ilt⟩, hp.2 _ (el_mem ⟨i0, ilt⟩), by simp; omega, ⟨by omega, by omega⟩, ⟨by omega, by omega, by simp; omega, app1 (f := fun x => el lists x) (by omega) iI rfl⟩, by omega⟩, fun ige => ext_el (by omega) fun j a b => iI j a (by omega)⟩
set_option maxRecDepth 100000 in
set_option maxHeartbeats 4000000 in
theorem w_spec_l01Own2 (lists : List (List Int)) (Q : List (List Int) → Prop) (h : wp_spec_l01Own2 lists Q) : AF Try.prog 57 [.lst (rows lists)] (fun R_ => ∃ y0, Q y0 ∧ R_ = .own (orows y0)) := by
  refine AF.ofWQ (af_enter (n := 21) Try.func57 rfl (by rfl) rfl (Nat.le_of_ble_eq_true rfl) ?_)
  unfold wp_spec_l01Own2 at h
  refine aw_seq ?_
  refine aw_gh (gh_to (n := 21) (σ' := []) (env' := [(0, .c (.lst (rows lists)))]) rfl rfl ⟨rfl, trivial⟩) ?_
  refine aw_region ?_
  refine run_s (ss_assign rfl) rfl ?_
  refine run_nil ?_
  refine aw_seq ?_
  refine aw_region ?_
  refine run_w (ws_buildSlice (id := 5) (ps := []) rfl rfl (Nat.le_of_ble_eq_true rfl) rfl ⟨rfl, ?_⟩)
  refine run_s (ss_assign rfl) rfl ?_
  refine run_nil ?_
  refine aw_seq ?_
  refine aw_seq ?_
  refine aw_region ?_
  refine run_s (ss_assign rfl) rfl ?_
  refine run_nil ?_
  refine aw_block ?_
  obtain ⟨H1, m1, q1, h⟩ := h
  refine aw_loop2 (fun (v4_1 : Int) (o5_1 : List (List Int)) => ⟨[(5, ⟨orows o5_1, []⟩)], [(0, .c (.lst (rows lists))), (3, .ref 5), (4, .c (ci v4_1))], 21⟩) H1 m1 ⟨0, ([] : List (List Int)), ghe_to (n := 21) rfl rfl ⟨rfl, rfl, rfl, trivial⟩, q1⟩ ?_
  rintro v4_1 o5_1 q1
  replace h := h v4_1 o5_1 q1
  refine aw_seq ?_
  refine aw_seq ?_
  refine aw_region ?_
  refine run_s (ss_move rfl) rfl ?_
  refine run_s (ss_move rfl) rfl ?_
  refine run_s (ss_lenL (f := (fun r => C.lst (ints r))) rfl) rfl ?_
  refine run_s (ss_lss rfl rfl) rfl ?_
  refine run_nil ?_
  refine aw_cond rfl (fun q2 => ?_) (fun q2 => ?_)
  ·replace h := h.1 (of_decide_eq_true q2)
   refine aw_skip ?_
   refine aw_seq ?_
   refine aw_block ?_
   refine aw_region ?_
   refine run_s (ss_move rfl) rfl ?_
   refine run_s (ss_move rfl) rfl ?_
   refine run_s (ss_move rfl) rfl ?_
   obtain ⟨q3, h⟩ := h
   refine run_s (ss_idxL rfl rfl q3) rfl ?_
   refine run_s (ss_loadL (f := (fun r => C.lst (ints r))) rfl q3) rfl ?_
   obtain ⟨q4, h⟩ := h
   refine run_w (ws_call (xs := [.tmp 16]) (ids := [17]) rfl rfl rfl rfl (c_spec_l01Own (el lists v4_1) q4) rfl ?_ )
   rintro _ rfl
   refine ⟨rfl, ?_⟩
   refine run_w (ws_buildSlice (id := 18) (ps := [(0, .tmp 17)]) rfl rfl (Nat.le_of_ble_eq_true rfl) rfl ⟨rfl, ?_⟩)
   refine run_gh (gh_fill (id := 18) (id2 := 17) (j := 0) rfl rfl (Nat.le_of_ble_eq_true rfl) rfl rfl rfl) ?_
   obtain ⟨q6, h⟩ := h
   refine run_w (ws_app1 (fun r => C.own (ints r)) (l := o5_1) (m := [(el lists v4_1)]) rfl rfl rfl rfl rfl (Nat.le_of_ble_eq_true rfl) q6 ⟨rfl, ?_⟩)
   refine run_s (ss_assign rfl) rfl ?_
   refine run_nil ?_
   refine aw_gh (gh_to (n := 21) (σ' := [(5, ⟨orows (o5_1 ++ ([(el lists v4_1)])), []⟩)]) (env' := [(0, .c (.lst (rows lists))), (3, .ref 5), (4, .c (ci v4_1))]) rfl rfl ⟨rfl, rfl, rfl, trivial⟩) ?_
   refine aw_region ?_
   refine run_s (ss_move rfl) rfl ?_
   obtain ⟨q7, h⟩ := h
   refine run_s (ss_add rfl rfl q7) rfl ?_
   refine run_s (ss_assign rfl) rfl ?_
   refine run_nil ?_
   exact ⟨v4_1 + 1, o5_1 ++ ([(el lists v4_1)]), ghe_to (n := 21) rfl rfl ⟨rfl, rfl, rfl, trivial⟩, h.1, h.2⟩
  ·replace h := h.2 (of_decide_eq_false q2)
   refine aw_exit ?_
   refine aw_seq ?_
   refine aw_gh (gh_to (n := 21) (σ' := [(5, ⟨orows o5_1, []⟩)]) (env' := [(3, .ref 5)]) rfl rfl ⟨rfl, trivial⟩) ?_
   refine aw_region ?_
   refine run_s (ss_move rfl) rfl ?_
   refine run_s (ss_assign rfl) rfl ?_
   refine run_nil ?_
   refine aw_ret ?_
   exact retAF_mk (retv1 rfl (rv_tmp rfl)) rfl rfl ⟨_, (cle_refl _), _, h, rfl⟩

theorem c_spec_l01Own2 (lists : List (List Int)) (hp : small2 lists) : AF Try.prog 57 [.lst (rows lists)] (fun R_ => R_ = .own (orows lists)) :=
  (w_spec_l01Own2 lists (fun y0 => y0 = lists) (p_spec_l01Own2 lists hp)).mono (by rintro r ⟨_, rfl, rfl⟩; rfl)

structure MI (r : List (List Int)) (l : List Int) (m m' : Int) : Prop where
  rng : 0 ≤ m' ∧ m' < (2 : Int) ^ (r.length : Int).toNat
  le : m ≤ m'
  sup : ∀ z, 0 ≤ z → bitP m z → bitP m' z
  sc : ∀ z, 0 ≤ z → bitP m' z → Sc r l z
theorem MI.step {r : List (List Int)} {l : List Int} {m m' k : Int} (h : MI r l m m') (hk : 0 ≤ k ∧ k < (r.length : Int)) (hs : Sc r l k) : MI r l m (((m'.toNat ||| (1 * (2 : Int) ^ k.toNat).toNat : Nat) : Int)) :=
  ⟨or_lt2 h.rng hk, by
    have h1 : m'.toNat ≤ (m'.toNat ||| (1 * (2 : Int) ^ k.toNat).toNat) := Nat.left_le_or
    have := h.le; have := h.rng.1; omega, fun z z0 hz => (bit_or h.rng.1 hk.1 z0).2 (.inl (h.sup z z0 hz)), fun z z0 hz => by
    rcases (bit_or h.rng.1 hk.1 z0).1 hz with h1 | h1
    · exact h.sc z z0 h1
    · rw [h1]; exact hs⟩
def wp_spec_l01From (code : List Int) (Q : List Int → Int → Int → Prop) : Prop :=
 ((0 : Int) ≤ (code.length : Int) ∧ (code.length : Int) ≤ 18446744073709551615) ∧
 ∃ (H1 : Int → Int → Prop) (m1 : Int → Int → Nat),
 H1 0 (w64 ((6553 : Int) + (code.length : Int))) ∧
 ∀ (v4_1 : Int) (f11_2_1 : Int), H1 v4_1 f11_2_1 →
 ( ((v4_1 < (code.length : Int) →
 ((v4_1 < 4096 →
 (0 ≤ v4_1 ∧ v4_1 < (code.length : Int)) ∧
 ((0 : Int) ≤ el code v4_1 ∧ el code v4_1 ≤ 18446744073709551615) ∧
 (InI (v4_1 + 1)) ∧
 (H1 (v4_1 + 1) (w64 ((w64 ((w64 (f11_2_1 * (1099511628211 : Int))) + (el code v4_1))) + (11 : Int))) ∧ m1 (v4_1 + 1) (w64 ((w64 ((w64 (f11_2_1 * (1099511628211 : Int))) + (el code v4_1))) + (11 : Int))) < m1 v4_1 f11_2_1)) ∧
 (¬ (v4_1 < 4096) →
 Q code 0 f11_2_1))) ∧
 (¬ (v4_1 < (code.length : Int)) →
 Q code 0 f11_2_1)))

def wp_spec_l01Next (s1 : List Int) (s2 : Int) (s3 : Int) (n : Int) (Q : Int → List Int → Int → Int → Prop) : Prop :=
 ((n < 1 →
 Q 0 s1 s2 s3) ∧
 (¬ (n < 1) →
 ((0 : Int) ≤ w64 ((w64 (s3 * (6364136223846793005 : Int))) + (1442695040888963407 : Int)) ∧ (0 : Int) ≤ (33 : Int) ∧ (33 : Int) ≤ 62) ∧
 (((0 : Int) ≤ (w64 ((w64 (s3 * (6364136223846793005 : Int))) + (1442695040888963407 : Int))) / (2 : Int) ^ (33 : Int).toNat ∧ (w64 ((w64 (s3 * (6364136223846793005 : Int))) + (1442695040888963407 : Int))) / (2 : Int) ^ (33 : Int).toNat ≤ 18446744073709551615) ∧ (0 : Int) ≤ (16777215 : Int) ∧ (16777215 : Int) ≤ 18446744073709551615) ∧
 (InI ((((w64 ((w64 (s3 * (6364136223846793005 : Int))) + (1442695040888963407 : Int))) / (2 : Int) ^ (33 : Int).toNat).toNat &&& (16777215 : Int).toNat : Nat) : Int)) ∧
 ((s2 < (s1.length : Int) →
 (0 ≤ s2 ∧ s2 < (s1.length : Int)) ∧
 (InI (el s1 s2)) ∧
 (InI (((((w64 ((w64 (s3 * (6364136223846793005 : Int))) + (1442695040888963407 : Int))) / (2 : Int) ^ (33 : Int).toNat).toNat &&& (16777215 : Int).toNat : Nat) : Int) + (el s1 s2))) ∧
 (InI (s2 + 1)) ∧
 ((0 : Int) ≤ ((((w64 ((w64 (s3 * (6364136223846793005 : Int))) + (1442695040888963407 : Int))) / (2 : Int) ^ (33 : Int).toNat).toNat &&& (16777215 : Int).toNat : Nat) : Int) + (el s1 s2) ∧ (0 : Int) < n) ∧
 Q ((((((w64 ((w64 (s3 * (6364136223846793005 : Int))) + (1442695040888963407 : Int))) / (2 : Int) ^ (33 : Int).toNat).toNat &&& (16777215 : Int).toNat : Nat) : Int) + (el s1 s2)) % n) s1 (s2 + 1) (w64 ((w64 (s3 * (6364136223846793005 : Int))) + (1442695040888963407 : Int)))) ∧
 (¬ (s2 < (s1.length : Int)) →
 ((0 : Int) ≤ ((((w64 ((w64 (s3 * (6364136223846793005 : Int))) + (1442695040888963407 : Int))) / (2 : Int) ^ (33 : Int).toNat).toNat &&& (16777215 : Int).toNat : Nat) : Int) ∧ (0 : Int) < n) ∧
 Q (((((w64 ((w64 (s3 * (6364136223846793005 : Int))) + (1442695040888963407 : Int))) / (2 : Int) ^ (33 : Int).toNat).toNat &&& (16777215 : Int).toNat : Nat) : Int) % n) s1 s2 (w64 ((w64 (s3 * (6364136223846793005 : Int))) + (1442695040888963407 : Int)))))))

def wp_spec_l03DrawPerm (s1 : List Int) (s2 : Int) (s3 : Int) (n : Int) (Q : List Int → List Int → Int → Int → Prop) : Prop :=
 ∃ (H1 : Int → List Int → List Int → Int → Int → Prop) (m1 : Int → List Int → List Int → Int → Int → Nat),
 H1 0 ([] : List Int) s1 s2 s3 ∧
 ∀ (v6_1 : Int) (o9_1 : List Int) (f800_0_1 : List Int) (f800_1_1 : Int) (f800_2_1 : Int), H1 v6_1 o9_1 f800_0_1 f800_1_1 f800_2_1 →
 ( ((v6_1 < n →
 (InI (v6_1 + 1)) ∧
 (okS f800_0_1 f800_1_1 f800_2_1 ∧ InI (v6_1 + 1)) ∧
 ∀ (r1_0 : Int) (o1_0 : List Int) (o1_1 : Int) (o1_2 : Int), (nxP (v6_1 + 1) r1_0 ∧ o1_0 = f800_0_1 ∧ okS f800_0_1 o1_1 o1_2) →
 (0 ≤ r1_0 ∧ r1_0 ≤ (o9_1.length : Int) ∧ (o9_1.length : Int) ≤ (o9_1.length : Int)) ∧
 ((([v6_1]).length : Int) + ((sl o9_1 r1_0 (o9_1.length : Int)).length : Int) ≤ 1000000000) ∧
 ((0 : Int) ≤ 0 ∧ 0 ≤ r1_0 ∧ r1_0 ≤ (o9_1.length : Int)) ∧
 ((([] : List Int).length : Int) + ((sl o9_1 0 r1_0).length : Int) ≤ 1000000000) ∧
 (((([] : List Int) ++ (sl o9_1 0 r1_0)).length : Int) + ((([v6_1]) ++ (sl o9_1 r1_0 (o9_1.length : Int))).length : Int) ≤ 1000000000) ∧
 (InI (v6_1 + 1)) ∧
 (H1 (v6_1 + 1) ((([] : List Int) ++ (sl o9_1 0 r1_0)) ++ (([v6_1]) ++ (sl o9_1 r1_0 (o9_1.length : Int)))) o1_0 o1_1 o1_2 ∧ m1 (v6_1 + 1) ((([] : List Int) ++ (sl o9_1 0 r1_0)) ++ (([v6_1]) ++ (sl o9_1 r1_0 (o9_1.length : Int)))) o1_0 o1_1 o1_2 < m1 v6_1 o9_1 f800_0_1 f800_1_1 f800_2_1)) ∧
 (¬ (v6_1 < n) →
 Q o9_1 f800_0_1 f800_1_1 f800_2_1)))

theorem p_spec_l01From (code : List Int) (hp : small code ∧ bytes code) : wp_spec_l01From code (fun y0 y1 y2 => y0 = code ∧ okS code y1 y2) := by
  have hs : (code.length : Int) ≤ 1000000000 := hp.1
  refine ⟨⟨by omega, by omega⟩, fun i h => (0 ≤ i ∧ i ≤ (code.length : Int)) ∧ 0 ≤ h ∧ h ≤ 18446744073709551615, fun i _ => ((code.length : Int) - i).toNat, ⟨⟨by omega, by omega⟩, w64_in _⟩, ?_⟩
  rintro i h ⟨⟨i0, i1⟩, hh⟩
  dsimp only
  have fin : code = code ∧ okS code 0 h := ⟨rfl, hp, ⟨by omega, by omega⟩, hh⟩
  refine ⟨fun ilt => ⟨fun _ => ?_, fun _ => fin⟩, fun _ => fin⟩
  have hb := hp.2 i i0 ilt
  exact ⟨⟨i0, ilt⟩, ⟨hb.1, by omega⟩, ⟨by omega, by omega⟩, ⟨⟨by omega, by omega⟩, w64_in _⟩, by omega⟩
theorem p_spec_l01Next (s1 : List Int) (s2 s3 n : Int) (hp : okS s1 s2 s3 ∧ InI n) : wp_spec_l01Next s1 s2 s3 n (fun y0 w0 w1 w2 => nxP n y0 ∧ w0 = s1 ∧ okS s1 w1 w2) := by
  obtain ⟨⟨⟨hs, hb⟩, ha, hh⟩, hn⟩ := hp
  have hs' : (s1.length : Int) ≤ 1000000000 := hs
  unfold wp_spec_l01Next
  refine ⟨fun h => ⟨⟨fun _ => rfl, fun g => absurd h g⟩, rfl, ⟨hs, hb⟩, ha, hh⟩, fun h => ?_⟩
  generalize hH : w64 (w64 (s3 * (6364136223846793005 : Int)) + (1442695040888963407 : Int)) = H
  have hw : 0 ≤ H ∧ H ≤ 18446744073709551615 := by rw [← hH]; exact w64_in _
  have hd := shr_bd hw (33 : Int).toNat
  have hx := and_bd (H / (2 : Int) ^ (33 : Int).toNat).toNat
  generalize (((H / (2 : Int) ^ (33 : Int).toNat).toNat &&& (16777215 : Int).toNat : Nat) : Int) = B at hx ⊢
  have hn1 : 0 < n := by omega
  have md : ∀ z : Int, 0 ≤ z → nxP n (z % n) := fun z _ => ⟨fun g => absurd g h, fun _ => ⟨Int.emod_nonneg _ (by omega), Int.emod_lt_of_pos _ hn1⟩⟩
  refine ⟨⟨hw.1, by omega, by omega⟩, ⟨hd, by omega, by omega⟩, ⟨by omega, by omega⟩, fun g => ?_, fun g => ?_⟩
  · have hbb := hb s2 ha.1 g
    exact ⟨⟨ha.1, g⟩, ⟨by omega, by omega⟩, ⟨by omega, by omega⟩, ⟨by omega, by omega⟩, ⟨by omega, hn1⟩, md _ (by omega), rfl, ⟨hs, hb⟩, ⟨by omega, by omega⟩, hw⟩
  · exact ⟨⟨by omega, hn1⟩, md _ hx.1, rfl, ⟨hs, hb⟩, ha, hw⟩
theorem sl_len2 {l : List Int} {a b : Int} (h : 0 ≤ a ∧ a ≤ b ∧ b ≤ (l.length : Int)) : ((sl l a b).length : Int) = b - a := by simp [sl]; omega
theorem p_spec_l03DrawPerm (s1 : List Int) (s2 s3 n : Int) (hp : okS s1 s2 s3 ∧ n ≤ 1000) : wp_spec_l03DrawPerm s1 s2 s3 n (fun y0 w0 w1 w2 => ((y0.length : Int) = max n 0 ∧ (∀ z_ ∈ y0, 0 ≤ z_ ∧ z_ < n) ∧ y0.Nodup) ∧ w0 = s1 ∧ okS s1 w1 w2) := by
  obtain ⟨hs, hn⟩ := hp
  refine ⟨fun i v c a h => (0 ≤ i ∧ i ≤ max n 0) ∧ (v.length : Int) = i ∧ ((∀ z ∈ v, 0 ≤ z ∧ z < i) ∧ v.Nodup) ∧ c = s1 ∧ okS s1 a h, fun i _ _ _ _ => (n - i).toNat, ⟨⟨by omega, by omega⟩, rfl, ⟨by simp, List.nodup_nil⟩, rfl, hs⟩, ?_⟩
  rintro i v c a h ⟨⟨i0, i1⟩, hl, ⟨hv, hN⟩, rfl, hS⟩
  dsimp only
  refine ⟨fun ilt => ⟨⟨by omega, by omega⟩, ⟨hS, by omega, by omega⟩, ?_⟩, fun ige => ⟨⟨by omega, fun z hz => by have := hv z hz; omega, hN⟩, rfl, hS⟩⟩
  rintro r o0 o1 o2 ⟨hr, rfl, hS2⟩
  have hr2 := hr.2 (by omega)
  have l1 := sl_len2 (l := v) (a := r) (b := (v.length : Int)) ⟨hr2.1, by omega, by omega⟩
  have l2 := sl_len2 (l := v) (a := 0) (b := r) ⟨by omega, hr2.1, by omega⟩
  have e0 : sl v 0 r ++ sl v r (v.length : Int) = v := by
    have h1 : sl v 0 r = v.take r.toNat := by simp [sl]
    have h2 : sl v r (v.length : Int) = v.drop r.toNat := by simp [sl]
    rw [h1, h2, List.take_append_drop]
  have eP : (([] : List Int) ++ sl v 0 r ++ ([i] ++ sl v r (v.length : Int))).Perm (i :: v) := by
    have e1 : ([] : List Int) ++ sl v 0 r ++ ([i] ++ sl v r (v.length : Int)) = sl v 0 r ++ i :: sl v r (v.length : Int) := by simp
    rw [e1]
    exact List.perm_middle.trans (List.Perm.cons i (by rw [e0]))
  refine ⟨⟨hr2.1, by omega, by omega⟩, by rw [List.length_singleton]; omega, ⟨by omega, hr2.1, by omega⟩, by rw [List.length_nil]; omega, by simp only [List.nil_append, List.length_append, List.length_singleton]; omega, ⟨by omega, by omega⟩, ⟨⟨by omega, by omega⟩, ?_, ⟨?_, ?_⟩, rfl, hS2⟩, by omega⟩
  · simp only [List.nil_append, List.length_append, List.length_singleton]; omega
  · intro z hz
    rcases List.mem_cons.1 (eP.mem_iff.1 hz) with h1 | h1
    · omega
    · have := hv z h1; omega
  · exact eP.nodup_iff.2 (List.nodup_cons.2 ⟨fun hm => by have := hv i hm; omega, hN⟩)

set_option maxRecDepth 100000 in
set_option maxHeartbeats 4000000 in
theorem w_spec_l01From (code : List Int) (Q : List Int → Int → Int → Prop) (h : wp_spec_l01From code Q) : AF Try.prog 12 [.lst (bys code)] (fun R_ => ∃ y0 y1 y2, Q y0 y1 y2 ∧ R_ = .obox [.lst (bys y0), ci y1, cu y2]) := by
  refine AF.ofWQ (af_enter (n := 38) Try.func12 rfl (by rfl) rfl (Nat.le_of_ble_eq_true rfl) ?_)
  unfold wp_spec_l01From at h
  refine aw_seq ?_
  refine aw_gh (gh_to (n := 38) (σ' := []) (env' := [(0, .c (.lst (bys code)))]) rfl rfl ⟨rfl, trivial⟩) ?_
  refine aw_region ?_
  refine run_s (ss_assign rfl) rfl ?_
  refine run_nil ?_
  refine aw_seq ?_
  refine aw_region ?_
  refine run_s (ss_move rfl) rfl ?_
  refine run_s (ss_move rfl) rfl ?_
  refine run_s (ss_lenL (f := cy) rfl) rfl ?_
  obtain ⟨q1, h⟩ := h
  refine run_s (ss_convert rfl (IntWalk.u64_in _ q1)) rfl ?_
  refine run_s (ss_addU rfl rfl) rfl ?_
  refine run_s (ss_buildG (ps := [(0, .tmp 5), (2, .tmp 9)]) rfl) rfl ?_
  refine run_w (ws_boxS (id := 11) rfl rfl rfl (Nat.le_of_ble_eq_true rfl) rfl ⟨rfl, ?_⟩)
  refine run_s (ss_assign rfl) rfl ?_
  refine run_nil ?_
  refine aw_seq ?_
  refine aw_seq ?_
  refine aw_gh (gh_to (n := 38) (σ' := [(11, ⟨[.lst (bys code), ci 0, cu (w64 ((6553 : Int) + (code.length : Int)))], []⟩)]) (env' := [(0, .c (.lst (bys code))), (3, .cell 11 0)]) rfl rfl ⟨rfl, rfl, trivial⟩) ?_
  refine aw_region ?_
  refine run_s (ss_assign rfl) rfl ?_
  refine run_nil ?_
  refine aw_block ?_
  obtain ⟨H1, m1, q2, h⟩ := h
  refine aw_loop2 (fun (v4_1 : Int) (f11_2_1 : Int) => ⟨[(11, ⟨[.lst (bys code), ci 0, cu f11_2_1], []⟩)], [(0, .c (.lst (bys code))), (3, .cell 11 0), (4, .c (ci v4_1))], 38⟩) H1 m1 ⟨0, w64 ((6553 : Int) + (code.length : Int)), ghe_to (n := 38) rfl rfl ⟨rfl, rfl, rfl, trivial⟩, q2⟩ ?_
  rintro v4_1 f11_2_1 q2
  replace h := h v4_1 f11_2_1 q2
  refine aw_seq ?_
  refine aw_seq ?_
  refine aw_region ?_
  refine run_s (ss_move rfl) rfl ?_
  refine run_s (ss_move rfl) rfl ?_
  refine run_s (ss_lenL (f := cy) rfl) rfl ?_
  refine run_s (ss_lss rfl rfl) rfl ?_
  refine run_s (ss_move rfl) rfl ?_
  refine run_split (s := 16) rfl (fun q3 => ?_) (fun q3 => ?_)
  ·replace h := h.1 (of_decide_eq_true q3)
   refine run_gt rfl rfl q3 ?_
   refine run_s (ss_move rfl) rfl ?_
   refine run_gt rfl rfl q3 ?_
   refine run_s (ss_lss rfl rfl) rfl ?_
   refine run_s (ss_pickT rfl q3 rfl) rfl ?_
   refine run_nil ?_
   refine aw_cond rfl (fun q4 => ?_) (fun q4 => ?_)
   ·replace h := h.1 (of_decide_eq_true q4)
    refine aw_skip ?_
    refine aw_seq ?_
    refine aw_block ?_
    refine aw_gh (gh_to (n := 38) (σ' := [(11, ⟨[.lst (bys code), ci 0, cu f11_2_1], []⟩)]) (env' := [(0, .c (.lst (bys code))), (3, .cell 11 0), (4, .c (ci v4_1)), (17, .c (ci v4_1)), (18, .c (cb (decide (v4_1 < 4096))))]) rfl rfl ⟨rfl, rfl, rfl, rfl, rfl, trivial⟩) ?_
    refine aw_regionD (kd := kdl [0, 0, 0, 0, 1, 0, 0, 0, 0, 1, 0, 0, 0, 0, 0, 3]) (ord := [0, 1, 2, 3, 6, 7, 8, 4, 5, 9, 10, 11, 12, 13, 14, 15]) [] mixed (by kernel_rfl) ?_
    refine rd_s rfl rfl trivial (ss_move rfl) rfl ?_
    refine rd_s rfl rfl trivial (ss_move rfl) rfl ?_
    refine rd_s rfl rfl trivial (ss_nilCheck_cell rfl) rfl ?_
    refine rd_s rfl rfl trivial (ss_field_cell rfl) rfl ?_
    refine rd_s rfl rfl trivial (ss_move rfl) rfl ?_
    refine rd_s rfl rfl trivial (ss_move rfl) rfl ?_
    obtain ⟨q5, h⟩ := h
    refine rd_s rfl rfl trivial (ss_idxL rfl rfl q5) rfl ?_
    refine rd_l rfl rfl trivial (ss_loadC rfl rfl rfl rfl rfl) rfl ?_
    refine rd_s rfl rfl trivial (ss_mulU rfl rfl) rfl ?_
    refine rd_l rfl rfl trivial (ss_loadL (f := cy) rfl q5) rfl ?_
    obtain ⟨q6, h⟩ := h
    refine rd_s rfl rfl trivial (ss_convert rfl (IntWalk.u64_in _ q6)) rfl ?_
    refine rd_s rfl rfl trivial (ss_addU rfl rfl) rfl ?_
    refine rd_s rfl rfl trivial (ss_addU rfl rfl) rfl ?_
    refine rd_s rfl rfl trivial (ss_nilCheck_cell rfl) rfl ?_
    refine rd_s rfl rfl trivial (ss_field_cell rfl) rfl ?_
    refine rd_f rfl rfl trivial (ws_store rfl rfl (Nat.le_of_ble_eq_true rfl) rfl rfl ⟨rfl, ?_⟩)
    refine rd_nil ?_
    refine aw_gh (gh_to (n := 38) (σ' := [(11, ⟨[.lst (bys code), ci 0, cu (w64 ((w64 ((w64 (f11_2_1 * (1099511628211 : Int))) + (el code v4_1))) + (11 : Int)))], []⟩)]) (env' := [(0, .c (.lst (bys code))), (3, .cell 11 0), (4, .c (ci v4_1)), (17, .c (ci v4_1)), (18, .c (cb (decide (v4_1 < 4096))))]) rfl rfl ⟨rfl, rfl, rfl, rfl, rfl, trivial⟩) ?_
    refine aw_region ?_
    refine run_s (ss_move rfl) rfl ?_
    obtain ⟨q7, h⟩ := h
    refine run_s (ss_add rfl rfl q7) rfl ?_
    refine run_s (ss_assign rfl) rfl ?_
    refine run_nil ?_
    exact ⟨v4_1 + 1, w64 ((w64 ((w64 (f11_2_1 * (1099511628211 : Int))) + (el code v4_1))) + (11 : Int)), ghe_to (n := 38) rfl rfl ⟨rfl, rfl, rfl, trivial⟩, h.1, h.2⟩
   ·replace h := h.2 (of_decide_eq_false q4)
    refine aw_exit ?_
    refine aw_seq ?_
    refine aw_gh (gh_to (n := 38) (σ' := [(11, ⟨[.lst (bys code), ci 0, cu f11_2_1], []⟩)]) (env' := [(3, .cell 11 0)]) rfl rfl ⟨rfl, trivial⟩) ?_
    refine aw_region ?_
    refine run_s (ss_move rfl) rfl ?_
    refine run_s (ss_assign rfl) rfl ?_
    refine run_nil ?_
    refine aw_ret ?_
    exact retAF_mk (retv1 rfl (rv_tmp rfl)) rfl rfl ⟨_, (cle_refl _), _, _, _, h, rfl⟩
  ·replace h := h.2 (of_decide_eq_false q3)
   refine run_gf rfl rfl q3 rfl ?_
   refine run_gf rfl rfl q3 rfl ?_
   refine run_s (ss_pickF rfl q3 rfl) rfl ?_
   refine run_nil ?_
   refine aw_cond rfl (fun q8 => ?_) (fun q8 => ?_)
   ·cases q8
   ·skip
    refine aw_exit ?_
    refine aw_seq ?_
    refine aw_gh (gh_to (n := 38) (σ' := [(11, ⟨[.lst (bys code), ci 0, cu f11_2_1], []⟩)]) (env' := [(3, .cell 11 0)]) rfl rfl ⟨rfl, trivial⟩) ?_
    refine aw_region ?_
    refine run_s (ss_move rfl) rfl ?_
    refine run_s (ss_assign rfl) rfl ?_
    refine run_nil ?_
    refine aw_ret ?_
    exact retAF_mk (retv1 rfl (rv_tmp rfl)) rfl rfl ⟨_, (cle_refl _), _, _, _, h, rfl⟩

theorem c_spec_l01From (code : List Int) (hp : small code ∧ bytes code) : AF Try.prog 12 [.lst (bys code)] (fun R_ => ∃ y0 y1 y2, (y0 = code ∧ okS code y1 y2) ∧ R_ = .obox [.lst (bys y0), ci y1, cu y2]) :=
  w_spec_l01From code (fun y0 y1 y2 => y0 = code ∧ okS code y1 y2) (p_spec_l01From code hp)

set_option maxRecDepth 100000 in
set_option maxHeartbeats 4000000 in
theorem w_spec_l01Next (s1 : List Int) (s2 : Int) (s3 : Int) (n : Int) (Q : Int → List Int → Int → Int → Prop) (h : wp_spec_l01Next s1 s2 s3 n Q) : AM Try.prog 24 [.obox [.lst (bys s1), ci s2, cu s3], ci n] (fun R_ O_ => ∃ y0 w0 w1 w2, Q y0 w0 w1 w2 ∧ R_ = ci y0 ∧ O_ = [.obox [.lst (bys w0), ci w1, cu w2], ci n]) := by
  refine am_enter (n := 58) (m := 2) Try.func24 rfl (by rfl) rfl rfl (Nat.le_of_ble_eq_true rfl) [800] rfl ?_
  unfold wp_spec_l01Next at h
  refine aw_seq ?_
  refine aw_gh (gh_to (n := 58) (σ' := [(800, ⟨[.lst (bys s1), ci s2, cu s3], []⟩)]) (env' := [(0, .cell 800 0), (1, .c (ci n)), (58, .cell 800 0), (59, .c (ci n))]) rfl rfl ⟨rfl, rfl, rfl, rfl, trivial⟩) ?_
  refine aw_region ?_
  refine run_s (ss_assign rfl) rfl ?_
  refine run_nil ?_
  refine aw_seq ?_
  refine aw_seq ?_
  refine aw_region ?_
  refine run_s (ss_move rfl) rfl ?_
  refine run_s (ss_lss rfl rfl) rfl ?_
  refine run_nil ?_
  refine aw_cond rfl (fun q1 => ?_) (fun q1 => ?_)
  ·replace h := h.1 (of_decide_eq_true q1)
   refine aw_seq ?_
   refine aw_gh (gh_to (n := 58) (σ' := [(800, ⟨[.lst (bys s1), ci s2, cu s3], []⟩)]) (env' := [(4, .c (ci 0)), (58, .cell 800 0), (59, .c (ci n))]) rfl rfl ⟨rfl, rfl, rfl, trivial⟩) ?_
   refine aw_region ?_
   refine run_s (ss_assign rfl) rfl ?_
   refine run_nil ?_
   refine aw_ret ?_
   exact retAM_mk (retv1 rfl (rv_tmp rfl)) rfl rfl rfl ⟨_, _, _, _, h, rfl, rfl⟩
  ·replace h := h.2 (of_decide_eq_false q1)
   refine aw_skip ?_
   refine aw_seq ?_
   refine aw_region ?_
   refine run_s (ss_move rfl) rfl ?_
   refine run_s (ss_move rfl) rfl ?_
   refine run_s (ss_nilCheck_cell rfl) rfl ?_
   refine run_s (ss_field_cell rfl) rfl ?_
   refine run_s (ss_loadC rfl rfl rfl rfl rfl) rfl ?_
   refine run_s (ss_mulU rfl rfl) rfl ?_
   refine run_s (ss_addU rfl rfl) rfl ?_
   refine run_s (ss_nilCheck_cell rfl) rfl ?_
   refine run_s (ss_field_cell rfl) rfl ?_
   refine run_w (ws_store rfl rfl (Nat.le_of_ble_eq_true rfl) rfl rfl ⟨rfl, ?_⟩)
   refine run_nil ?_
   refine aw_seq ?_
   refine aw_gh (gh_to (n := 58) (σ' := [(800, ⟨[.lst (bys s1), ci s2, cu (w64 ((w64 (s3 * (6364136223846793005 : Int))) + (1442695040888963407 : Int)))], []⟩)]) (env' := [(0, .cell 800 0), (1, .c (ci n)), (58, .cell 800 0), (59, .c (ci n))]) rfl rfl ⟨rfl, rfl, rfl, rfl, trivial⟩) ?_
   refine aw_region ?_
   refine run_s (ss_move rfl) rfl ?_
   refine run_s (ss_nilCheck_cell rfl) rfl ?_
   refine run_s (ss_field_cell rfl) rfl ?_
   refine run_s (ss_loadC rfl rfl rfl rfl rfl) rfl ?_
   obtain ⟨q2, h⟩ := h
   refine run_s (ss_shrU rfl rfl q2) rfl ?_
   obtain ⟨q3, h⟩ := h
   refine run_s (ss_andU rfl rfl q3) rfl ?_
   obtain ⟨q4, h⟩ := h
   refine run_s (ss_convert rfl (wrap_in q4.1 q4.2)) rfl ?_
   refine run_s (ss_assign rfl) rfl ?_
   refine run_nil ?_
   refine aw_seq ?_
   refine aw_seq ?_
   refine aw_gh (gh_to (n := 58) (σ' := [(800, ⟨[.lst (bys s1), ci s2, cu (w64 ((w64 (s3 * (6364136223846793005 : Int))) + (1442695040888963407 : Int)))], []⟩)]) (env' := [(0, .cell 800 0), (1, .c (ci n)), (5, .c (ci ((((w64 ((w64 (s3 * (6364136223846793005 : Int))) + (1442695040888963407 : Int))) / (2 : Int) ^ (33 : Int).toNat).toNat &&& (16777215 : Int).toNat : Nat) : Int))), (58, .cell 800 0), (59, .c (ci n))]) rfl rfl ⟨rfl, rfl, rfl, rfl, rfl, trivial⟩) ?_
   refine aw_regionD (kd := kdl [0, 0, 0, 1, 0, 0, 0, 1, 0, 0]) (ord := [0, 1, 2, 4, 5, 6, 3, 7, 8, 9]) [] mixed (by kernel_rfl) ?_
   refine rd_s rfl rfl trivial (ss_move rfl) rfl ?_
   refine rd_s rfl rfl trivial (ss_nilCheck_cell rfl) rfl ?_
   refine rd_s rfl rfl trivial (ss_field_cell rfl) rfl ?_
   refine rd_s rfl rfl trivial (ss_move rfl) rfl ?_
   refine rd_s rfl rfl trivial (ss_nilCheck_cell rfl) rfl ?_
   refine rd_s rfl rfl trivial (ss_field_cell rfl) rfl ?_
   refine rd_l rfl rfl trivial (ss_loadC rfl rfl rfl rfl rfl) rfl ?_
   refine rd_l rfl rfl trivial (ss_loadC rfl rfl rfl rfl rfl) rfl ?_
   refine rd_s rfl rfl trivial (ss_lenL (f := cy) rfl) rfl ?_
   refine rd_s rfl rfl trivial (ss_lss rfl rfl) rfl ?_
   refine rd_nil ?_
   refine aw_cond rfl (fun q5 => ?_) (fun q5 => ?_)
   ·replace h := h.1 (of_decide_eq_true q5)
    refine aw_seq ?_
    refine aw_gh (gh_to (n := 58) (σ' := [(800, ⟨[.lst (bys s1), ci s2, cu (w64 ((w64 (s3 * (6364136223846793005 : Int))) + (1442695040888963407 : Int)))], []⟩)]) (env' := [(0, .cell 800 0), (1, .c (ci n)), (5, .c (ci ((((w64 ((w64 (s3 * (6364136223846793005 : Int))) + (1442695040888963407 : Int))) / (2 : Int) ^ (33 : Int).toNat).toNat &&& (16777215 : Int).toNat : Nat) : Int))), (58, .cell 800 0), (59, .c (ci n))]) rfl rfl ⟨rfl, rfl, rfl, rfl, rfl, trivial⟩) ?_
    refine aw_regionD (kd := kdl [0, 0, 0, 0, 1, 0, 0, 0, 1, 0, 1, 0, 0, 0]) (ord := [0, 1, 2, 3, 5, 6, 7, 4, 8, 9, 10, 11, 12, 13]) [] mixed (by kernel_rfl) ?_
    refine rd_s rfl rfl trivial (ss_move rfl) rfl ?_
    refine rd_s rfl rfl trivial (ss_move rfl) rfl ?_
    refine rd_s rfl rfl trivial (ss_nilCheck_cell rfl) rfl ?_
    refine rd_s rfl rfl trivial (ss_field_cell rfl) rfl ?_
    refine rd_s rfl rfl trivial (ss_move rfl) rfl ?_
    refine rd_s rfl rfl trivial (ss_nilCheck_cell rfl) rfl ?_
    refine rd_s rfl rfl trivial (ss_field_cell rfl) rfl ?_
    refine rd_l rfl rfl trivial (ss_loadC rfl rfl rfl rfl rfl) rfl ?_
    refine rd_l rfl rfl trivial (ss_loadC rfl rfl rfl rfl rfl) rfl ?_
    obtain ⟨q6, h⟩ := h
    refine rd_s rfl rfl trivial (ss_idxL rfl rfl q6) rfl ?_
    refine rd_l rfl rfl trivial (ss_loadL (f := cy) rfl q6) rfl ?_
    obtain ⟨q7, h⟩ := h
    refine rd_s rfl rfl trivial (ss_convert rfl (wrap_in q7.1 q7.2)) rfl ?_
    obtain ⟨q8, h⟩ := h
    refine rd_s rfl rfl trivial (ss_add rfl rfl q8) rfl ?_
    refine rd_s rfl rfl trivial (ss_assign rfl) rfl ?_
    refine rd_nil ?_
    refine aw_gh (gh_to (n := 58) (σ' := [(800, ⟨[.lst (bys s1), ci s2, cu (w64 ((w64 (s3 * (6364136223846793005 : Int))) + (1442695040888963407 : Int)))], []⟩)]) (env' := [(0, .cell 800 0), (1, .c (ci n)), (5, .c (ci (((((w64 ((w64 (s3 * (6364136223846793005 : Int))) + (1442695040888963407 : Int))) / (2 : Int) ^ (33 : Int).toNat).toNat &&& (16777215 : Int).toNat : Nat) : Int) + (el s1 s2)))), (58, .cell 800 0), (59, .c (ci n))]) rfl rfl ⟨rfl, rfl, rfl, rfl, rfl, trivial⟩) ?_
    refine aw_region ?_
    refine run_s (ss_move rfl) rfl ?_
    refine run_s (ss_move rfl) rfl ?_
    refine run_s (ss_nilCheck_cell rfl) rfl ?_
    refine run_s (ss_field_cell rfl) rfl ?_
    refine run_s (ss_loadC rfl rfl rfl rfl rfl) rfl ?_
    obtain ⟨q9, h⟩ := h
    refine run_s (ss_add rfl rfl q9) rfl ?_
    refine run_s (ss_nilCheck_cell rfl) rfl ?_
    refine run_s (ss_field_cell rfl) rfl ?_
    refine run_w (ws_store rfl rfl (Nat.le_of_ble_eq_true rfl) rfl rfl ⟨rfl, ?_⟩)
    refine run_nil ?_
    refine aw_seq ?_
    refine aw_gh (gh_to (n := 58) (σ' := [(800, ⟨[.lst (bys s1), ci (s2 + 1), cu (w64 ((w64 (s3 * (6364136223846793005 : Int))) + (1442695040888963407 : Int)))], []⟩)]) (env' := [(1, .c (ci n)), (5, .c (ci (((((w64 ((w64 (s3 * (6364136223846793005 : Int))) + (1442695040888963407 : Int))) / (2 : Int) ^ (33 : Int).toNat).toNat &&& (16777215 : Int).toNat : Nat) : Int) + (el s1 s2)))), (58, .cell 800 0), (59, .c (ci n))]) rfl rfl ⟨rfl, rfl, rfl, rfl, trivial⟩) ?_
    refine aw_region ?_
    refine run_s (ss_move rfl) rfl ?_
    refine run_s (ss_move rfl) rfl ?_
    obtain ⟨q10, h⟩ := h
    refine run_s (ss_rem rfl rfl q10) rfl ?_
    refine run_s (ss_assign rfl) rfl ?_
    refine run_nil ?_
    refine aw_ret ?_
    exact retAM_mk (retv1 rfl (rv_tmp rfl)) rfl rfl rfl ⟨_, _, _, _, h, rfl, rfl⟩
   ·replace h := h.2 (of_decide_eq_false q5)
    refine aw_skip ?_
    refine aw_seq ?_
    refine aw_gh (gh_to (n := 58) (σ' := [(800, ⟨[.lst (bys s1), ci s2, cu (w64 ((w64 (s3 * (6364136223846793005 : Int))) + (1442695040888963407 : Int)))], []⟩)]) (env' := [(1, .c (ci n)), (5, .c (ci ((((w64 ((w64 (s3 * (6364136223846793005 : Int))) + (1442695040888963407 : Int))) / (2 : Int) ^ (33 : Int).toNat).toNat &&& (16777215 : Int).toNat : Nat) : Int))), (58, .cell 800 0), (59, .c (ci n))]) rfl rfl ⟨rfl, rfl, rfl, rfl, trivial⟩) ?_
    refine aw_region ?_
    refine run_s (ss_move rfl) rfl ?_
    refine run_s (ss_move rfl) rfl ?_
    obtain ⟨q11, h⟩ := h
    refine run_s (ss_rem rfl rfl q11) rfl ?_
    refine run_s (ss_assign rfl) rfl ?_
    refine run_nil ?_
    refine aw_ret ?_
    exact retAM_mk (retv1 rfl (rv_tmp rfl)) rfl rfl rfl ⟨_, _, _, _, h, rfl, rfl⟩

theorem c_spec_l01Next (s1 : List Int) (s2 : Int) (s3 : Int) (n : Int) (hp : okS s1 s2 s3 ∧ InI n) : AM Try.prog 24 [.obox [.lst (bys s1), ci s2, cu s3], ci n] (fun R_ O_ => ∃ y0 w0 w1 w2, (nxP n y0 ∧ w0 = s1 ∧ okS s1 w1 w2) ∧ R_ = ci y0 ∧ O_ = [.obox [.lst (bys w0), ci w1, cu w2], ci n]) :=
  w_spec_l01Next s1 s2 s3 n (fun y0 w0 w1 w2 => nxP n y0 ∧ w0 = s1 ∧ okS s1 w1 w2) (p_spec_l01Next s1 s2 s3 n hp)

set_option maxRecDepth 100000 in
set_option maxHeartbeats 4000000 in
theorem w_spec_l03DrawPerm (s1 : List Int) (s2 : Int) (s3 : Int) (n : Int) (Q : List Int → List Int → Int → Int → Prop) (h : wp_spec_l03DrawPerm s1 s2 s3 n Q) : AM Try.prog 25 [.obox [.lst (bys s1), ci s2, cu s3], ci n] (fun R_ O_ => ∃ y0 w0 w1 w2, Q y0 w0 w1 w2 ∧ R_ = .own (ints y0) ∧ O_ = [.obox [.lst (bys w0), ci w1, cu w2], ci n]) := by
  refine am_enter (n := 33) (m := 2) Try.func25 rfl (by rfl) rfl rfl (Nat.le_of_ble_eq_true rfl) [800] rfl ?_
  unfold wp_spec_l03DrawPerm at h
  refine aw_seq ?_
  refine aw_gh (gh_to (n := 33) (σ' := [(800, ⟨[.lst (bys s1), ci s2, cu s3], []⟩)]) (env' := [(0, .cell 800 0), (1, .c (ci n)), (33, .cell 800 0), (34, .c (ci n))]) rfl rfl ⟨rfl, rfl, rfl, rfl, trivial⟩) ?_
  refine aw_region ?_
  refine run_s (ss_assign rfl) rfl ?_
  refine run_nil ?_
  refine aw_seq ?_
  refine aw_region ?_
  refine run_w (ws_buildSlice (id := 9) (ps := []) rfl rfl (Nat.le_of_ble_eq_true rfl) rfl ⟨rfl, ?_⟩)
  refine run_s (ss_assign rfl) rfl ?_
  refine run_nil ?_
  refine aw_seq ?_
  refine aw_seq ?_
  refine aw_gh (gh_to (n := 33) (σ' := [(9, ⟨ints ([] : List Int), []⟩), (800, ⟨[.lst (bys s1), ci s2, cu s3], []⟩)]) (env' := [(0, .cell 800 0), (1, .c (ci n)), (5, .ref 9), (33, .cell 800 0), (34, .c (ci n))]) rfl rfl ⟨rfl, rfl, rfl, rfl, rfl, trivial⟩) ?_
  refine aw_region ?_
  refine run_s (ss_assign rfl) rfl ?_
  refine run_nil ?_
  refine aw_block ?_
  obtain ⟨H1, m1, q1, h⟩ := h
  refine aw_loop5 (fun (v6_1 : Int) (o9_1 : List Int) (f800_0_1 : List Int) (f800_1_1 : Int) (f800_2_1 : Int) => ⟨[(9, ⟨ints o9_1, []⟩), (800, ⟨[.lst (bys f800_0_1), ci f800_1_1, cu f800_2_1], []⟩)], [(0, .cell 800 0), (1, .c (ci n)), (5, .ref 9), (6, .c (ci v6_1)), (33, .cell 800 0), (34, .c (ci n))], 33⟩) H1 m1 ⟨0, ([] : List Int), s1, s2, s3, ghe_to (n := 33) rfl rfl ⟨rfl, rfl, rfl, rfl, rfl, rfl, trivial⟩, q1⟩ ?_
  rintro v6_1 o9_1 f800_0_1 f800_1_1 f800_2_1 q1
  replace h := h v6_1 o9_1 f800_0_1 f800_1_1 f800_2_1 q1
  refine aw_seq ?_
  refine aw_seq ?_
  refine aw_region ?_
  refine run_s (ss_move rfl) rfl ?_
  refine run_s (ss_move rfl) rfl ?_
  refine run_s (ss_lss rfl rfl) rfl ?_
  refine run_nil ?_
  refine aw_cond rfl (fun q2 => ?_) (fun q2 => ?_)
  ·replace h := h.1 (of_decide_eq_true q2)
   refine aw_skip ?_
   refine aw_seq ?_
   refine aw_block ?_
   refine aw_seq ?_
   refine aw_region ?_
   refine run_s (ss_move rfl) rfl ?_
   refine run_s (ss_move rfl) rfl ?_
   obtain ⟨q3, h⟩ := h
   refine run_s (ss_add rfl rfl q3) rfl ?_
   obtain ⟨q4, h⟩ := h
   refine run_w (ws_callM (xs := [.tmp 15, .tmp 17]) (cs := [.obox [.lst (bys f800_0_1), ci f800_1_1, cu f800_2_1], ci (v6_1 + 1)]) (ids := []) rfl (.inr ⟨rfl, rfl⟩) rfl rfl rfl (c_spec_l01Next f800_0_1 f800_1_1 f800_2_1 (v6_1 + 1) q4) rfl rfl ?_ )
   rintro _ _ ⟨r1_0, o1_0, o1_1, o1_2, q5, rfl, rfl⟩
   replace h := h r1_0 o1_0 o1_1 o1_2 q5
   refine ⟨rfl, rfl, ?_⟩
   refine run_s (ss_assign rfl) rfl ?_
   refine run_nil ?_
   refine aw_seq ?_
   refine aw_region ?_
   refine run_s (ss_move rfl) rfl ?_
   refine run_w (ws_buildSlice (id := 20) (ps := [(0, .tmp 19)]) rfl rfl (Nat.le_of_ble_eq_true rfl) rfl ⟨rfl, ?_⟩)
   refine run_s (ss_move rfl) rfl ?_
   refine run_s (ss_move rfl) rfl ?_
   refine run_gh (gh_frzE (id := 9) ci rfl (fun _ => rfl)) ?_
   obtain ⟨q6, h⟩ := h
   refine run_s (ss_slL (f := ci) rfl ⟨_, rfl⟩ rfl q6) rfl ?_
   obtain ⟨q7, h⟩ := h
   refine run_w (ws_appL ci (l := [v6_1]) (m := sl o9_1 r1_0 (o9_1.length : Int)) rfl rfl rfl (Nat.le_of_ble_eq_true rfl) q7 ⟨rfl, ?_⟩)
   refine run_s (ss_assign rfl) rfl ?_
   refine run_nil ?_
   refine aw_gh (gh_to (n := 33) (σ' := [(20, ⟨ints (([v6_1]) ++ (sl o9_1 r1_0 (o9_1.length : Int))), []⟩), (800, ⟨[.lst (bys o1_0), ci o1_1, cu o1_2], []⟩)]) (env' := [(0, .cell 800 0), (1, .c (ci n)), (5, .c (.lst (ints o9_1))), (6, .c (ci v6_1)), (7, .c (ci r1_0)), (8, .ref 20), (33, .cell 800 0), (34, .c (ci n))]) rfl rfl ⟨rfl, rfl, rfl, rfl, rfl, rfl, rfl, rfl, trivial⟩) ?_
   refine aw_region ?_
   refine run_w (ws_buildSlice (id := 25) (ps := []) rfl rfl (Nat.le_of_ble_eq_true rfl) rfl ⟨rfl, ?_⟩)
   refine run_s (ss_move rfl) rfl ?_
   refine run_s (ss_move rfl) rfl ?_
   obtain ⟨q8, h⟩ := h
   refine run_s (ss_slL (f := ci) rfl rfl ⟨_, rfl⟩ q8) rfl ?_
   obtain ⟨q9, h⟩ := h
   refine run_w (ws_appL ci (l := ([] : List Int)) (m := sl o9_1 0 r1_0) rfl rfl rfl (Nat.le_of_ble_eq_true rfl) q9 ⟨rfl, ?_⟩)
   refine run_s (ss_move rfl) rfl ?_
   obtain ⟨q10, h⟩ := h
   refine run_w (ws_app1 ci (l := ([] : List Int) ++ (sl o9_1 0 r1_0)) (m := ([v6_1]) ++ (sl o9_1 r1_0 (o9_1.length : Int))) rfl rfl rfl rfl rfl (Nat.le_of_ble_eq_true rfl) q10 ⟨rfl, ?_⟩)
   refine run_s (ss_assign rfl) rfl ?_
   refine run_nil ?_
   refine aw_gh (gh_to (n := 33) (σ' := [(25, ⟨ints ((([] : List Int) ++ (sl o9_1 0 r1_0)) ++ (([v6_1]) ++ (sl o9_1 r1_0 (o9_1.length : Int)))), []⟩), (800, ⟨[.lst (bys o1_0), ci o1_1, cu o1_2], []⟩)]) (env' := [(0, .cell 800 0), (1, .c (ci n)), (5, .ref 25), (6, .c (ci v6_1)), (33, .cell 800 0), (34, .c (ci n))]) rfl rfl ⟨rfl, rfl, rfl, rfl, rfl, rfl, trivial⟩) ?_
   refine aw_region ?_
   refine run_s (ss_move rfl) rfl ?_
   obtain ⟨q11, h⟩ := h
   refine run_s (ss_add rfl rfl q11) rfl ?_
   refine run_s (ss_assign rfl) rfl ?_
   refine run_nil ?_
   exact ⟨v6_1 + 1, (([] : List Int) ++ (sl o9_1 0 r1_0)) ++ (([v6_1]) ++ (sl o9_1 r1_0 (o9_1.length : Int))), o1_0, o1_1, o1_2, ghe_step (gh_ren (a := 25) (b := 9) rfl rfl) (ghe_to (n := 33) rfl rfl ⟨rfl, rfl, rfl, rfl, rfl, rfl, trivial⟩), h.1, h.2⟩
  ·replace h := h.2 (of_decide_eq_false q2)
   refine aw_exit ?_
   refine aw_seq ?_
   refine aw_gh (gh_to (n := 33) (σ' := [(9, ⟨ints o9_1, []⟩), (800, ⟨[.lst (bys f800_0_1), ci f800_1_1, cu f800_2_1], []⟩)]) (env' := [(5, .ref 9), (33, .cell 800 0), (34, .c (ci n))]) rfl rfl ⟨rfl, rfl, rfl, trivial⟩) ?_
   refine aw_region ?_
   refine run_s (ss_move rfl) rfl ?_
   refine run_s (ss_assign rfl) rfl ?_
   refine run_nil ?_
   refine aw_ret ?_
   exact retAM_mk (retv1 rfl (rv_tmp rfl)) rfl rfl rfl ⟨_, _, _, _, h, rfl, rfl⟩

theorem c_spec_l03DrawPerm (s1 : List Int) (s2 : Int) (s3 : Int) (n : Int) (hp : okS s1 s2 s3 ∧ n ≤ 1000) : AM Try.prog 25 [.obox [.lst (bys s1), ci s2, cu s3], ci n] (fun R_ O_ => ∃ y0 w0 w1 w2, (((y0.length : Int) = max n 0 ∧ (∀ z_ ∈ y0, 0 ≤ z_ ∧ z_ < n) ∧ y0.Nodup) ∧ w0 = s1 ∧ okS s1 w1 w2) ∧ R_ = .own (ints y0) ∧ O_ = [.obox [.lst (bys w0), ci w1, cu w2], ci n]) :=
  w_spec_l03DrawPerm s1 s2 s3 n (fun y0 w0 w1 w2 => ((y0.length : Int) = max n 0 ∧ (∀ z_ ∈ y0, 0 ≤ z_ ∧ z_ < n) ∧ y0.Nodup) ∧ w0 = s1 ∧ okS s1 w1 w2) (p_spec_l03DrawPerm s1 s2 s3 n hp)

end Go.Proofs.Ytjolbldlhjfciaa

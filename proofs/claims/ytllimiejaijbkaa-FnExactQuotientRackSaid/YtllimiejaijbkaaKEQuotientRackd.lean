/- Contracts of functions that the law FnExactQuotientRack reaches: conditions, plain proofs, walks; no condition. -/
import Derived.Test.YtllimiejaijbkaaKEQuotientRackc
import Derived.Test.YtllimiejaijbkaaPd
namespace Go.Proofs.Ytllimiejaijbkaa

def wp_impl_isPartition (n : Int) (classes : List Int) (Q : Bool → Prop) : Prop :=
 ∃ (H1 : Int → Int → Prop) (m1 : Int → Int → Nat),
 H1 0 0 ∧
 ∀ (v5_1 : Int) (v10_1 : Int), H1 v5_1 v10_1 →
 ( ((v10_1 < (classes.length : Int) →
   (0 ≤ v10_1 ∧ v10_1 < (classes.length : Int)) ∧
   (((decide ((0 : Int) ≤ (el classes v10_1)) && decide ((el classes v10_1) ≤ v5_1)) = false →
    Q false) ∧
   ((decide ((0 : Int) ≤ (el classes v10_1)) && decide ((el classes v10_1) ≤ v5_1)) = true →
    ((el classes v10_1 = v5_1 →
     (InI (v5_1 + 1)) ∧
     (InI (v10_1 + 1)) ∧
     (H1 (v5_1 + 1) (v10_1 + 1) ∧ m1 (v5_1 + 1) (v10_1 + 1) < m1 v5_1 v10_1)) ∧
    (¬ (el classes v10_1 = v5_1) →
     (InI (v10_1 + 1)) ∧
     (H1 v5_1 (v10_1 + 1) ∧ m1 v5_1 (v10_1 + 1) < m1 v5_1 v10_1)))))) ∧
  (¬ (v10_1 < (classes.length : Int)) →
   Q (decide ((classes.length : Int) = n)))))

def wp_spec_l04Partition (n : Int) (classes : List Int) (Q : Bool → Prop) : Prop :=
 ∃ (H1 : Int → Int → Prop) (m1 : Int → Int → Nat),
 H1 0 0 ∧
 ∀ (v5_1 : Int) (v6_1 : Int), H1 v5_1 v6_1 →
 ( ((v6_1 < (classes.length : Int) →
   (0 ≤ v6_1 ∧ v6_1 < (classes.length : Int)) ∧
   (((decide ((0 : Int) ≤ (el classes v6_1)) && decide ((el classes v6_1) ≤ v5_1)) = false →
    Q false) ∧
   ((decide ((0 : Int) ≤ (el classes v6_1)) && decide ((el classes v6_1) ≤ v5_1)) = true →
    (0 ≤ v6_1 ∧ v6_1 < (classes.length : Int)) ∧
    ((el classes v6_1 = v5_1 →
     (InI (v5_1 + 1)) ∧
     (InI (v6_1 + 1)) ∧
     (H1 (v5_1 + 1) (v6_1 + 1) ∧ m1 (v5_1 + 1) (v6_1 + 1) < m1 v5_1 v6_1)) ∧
    (¬ (el classes v6_1 = v5_1) →
     (InI (v6_1 + 1)) ∧
     (H1 v5_1 (v6_1 + 1) ∧ m1 v5_1 (v6_1 + 1) < m1 v5_1 v6_1)))))) ∧
  (¬ (v6_1 < (classes.length : Int)) →
   Q (decide ((classes.length : Int) = n)))))

def wp_impl_firstOf (classes : List Int) (Q : List Int → Prop) : Prop :=
 ∃ (H1 : Int → List Int → Prop) (m1 : Int → List Int → Nat),
 H1 0 ([] : List Int) ∧
 ∀ (v8_1 : Int) (o100003_1 : List Int), H1 v8_1 o100003_1 →
 ( ((v8_1 < (classes.length : Int) →
   (0 ≤ v8_1 ∧ v8_1 < (classes.length : Int)) ∧
   ((el classes v8_1 = (o100003_1.length : Int) →
    ((o100003_1.length : Int) + (([v8_1]).length : Int) ≤ 1000000000) ∧
    (InI (v8_1 + 1)) ∧
    (H1 (v8_1 + 1) (o100003_1 ++ ([v8_1])) ∧ m1 (v8_1 + 1) (o100003_1 ++ ([v8_1])) < m1 v8_1 o100003_1)) ∧
   (¬ (el classes v8_1 = (o100003_1.length : Int)) →
    (InI (v8_1 + 1)) ∧
    (H1 (v8_1 + 1) o100003_1 ∧ m1 (v8_1 + 1) o100003_1 < m1 v8_1 o100003_1)))) ∧
  (¬ (v8_1 < (classes.length : Int)) →
   Q o100003_1)))

def wp_impl_isCongruence (t : List (List Int)) (classes : List Int) (Q : Bool → Prop) : Prop :=
 (small classes ∧ canB 0 classes = true) ∧
 ∃ (H1 : Int → Prop) (m1 : Int → Nat),
 H1 0 ∧
 ∀ (v14_1 : Int), H1 v14_1 →
 ( ((v14_1 < (t.length : Int) →
   (0 ≤ v14_1 ∧ v14_1 < (t.length : Int)) ∧
   ∃ (H2 : Int → Prop) (m2 : Int → Nat),
   H2 0 ∧
   ∀ (v21_2 : Int), H2 v21_2 →
   ( ((v21_2 < ((el t v14_1).length : Int) →
     (0 ≤ v21_2 ∧ v21_2 < ((el t v14_1).length : Int)) ∧
     (0 ≤ el (el t v14_1) v21_2 ∧ el (el t v14_1) v21_2 < (classes.length : Int)) ∧
     (0 ≤ v14_1 ∧ v14_1 < (classes.length : Int)) ∧
     (0 ≤ v21_2 ∧ v21_2 < (classes.length : Int)) ∧
     (0 ≤ el classes v14_1 ∧ el classes v14_1 < ((firI classes).length : Int)) ∧
     (0 ≤ el (firI classes) (el classes v14_1) ∧ el (firI classes) (el classes v14_1) < (t.length : Int)) ∧
     (0 ≤ el classes v21_2 ∧ el classes v21_2 < ((firI classes).length : Int)) ∧
     (0 ≤ el (firI classes) (el classes v21_2) ∧ el (firI classes) (el classes v21_2) < ((el t (el (firI classes) (el classes v14_1))).length : Int)) ∧
     (0 ≤ el (el t (el (firI classes) (el classes v14_1))) (el (firI classes) (el classes v21_2)) ∧ el (el t (el (firI classes) (el classes v14_1))) (el (firI classes) (el classes v21_2)) < (classes.length : Int)) ∧
     ((¬ (el classes (el (el t v14_1) v21_2) = el classes (el (el t (el (firI classes) (el classes v14_1))) (el (firI classes) (el classes v21_2)))) →
      Q false) ∧
     (el classes (el (el t v14_1) v21_2) = el classes (el (el t (el (firI classes) (el classes v14_1))) (el (firI classes) (el classes v21_2))) →
      (InI (v21_2 + 1)) ∧
      (H2 (v21_2 + 1) ∧ m2 (v21_2 + 1) < m2 v21_2)))) ∧
    (¬ (v21_2 < ((el t v14_1).length : Int)) →
     (InI (v14_1 + 1)) ∧
     (H1 (v14_1 + 1) ∧ m1 (v14_1 + 1) < m1 v14_1))))) ∧
  (¬ (v14_1 < (t.length : Int)) →
   Q true)))

def wp_spec_l04Congruence (t : List (List Int)) (classes : List Int) (Q : Bool → Prop) : Prop :=
 ∃ (H1 : Int → Prop) (m1 : Int → Nat),
 H1 0 ∧
 ∀ (v6_1 : Int), H1 v6_1 →
 ( ((v6_1 < (t.length : Int) →
   ∃ (H2 : Int → Prop) (m2 : Int → Nat),
   H2 0 ∧
   ∀ (v7_2 : Int), H2 v7_2 →
   ( ((v7_2 < (t.length : Int) →
     (0 ≤ v6_1 ∧ v6_1 < (classes.length : Int)) ∧
     (0 ≤ v7_2 ∧ v7_2 < (classes.length : Int)) ∧
     ((¬ (el classes v6_1 = el classes v7_2) →
      (InI (v7_2 + 1)) ∧
      (H2 (v7_2 + 1) ∧ m2 (v7_2 + 1) < m2 v7_2)) ∧
     (el classes v6_1 = el classes v7_2 →
      ∃ (H3 : Int → Prop) (m3 : Int → Nat),
      H3 0 ∧
      ∀ (v8_3 : Int), H3 v8_3 →
      ( ((v8_3 < (t.length : Int) →
        (0 ≤ v6_1 ∧ v6_1 < (t.length : Int)) ∧
        (0 ≤ v7_2 ∧ v7_2 < (t.length : Int)) ∧
        (0 ≤ v8_3 ∧ v8_3 < ((el t v6_1).length : Int)) ∧
        (0 ≤ el (el t v6_1) v8_3 ∧ el (el t v6_1) v8_3 < (classes.length : Int)) ∧
        (0 ≤ v8_3 ∧ v8_3 < ((el t v7_2).length : Int)) ∧
        (0 ≤ el (el t v7_2) v8_3 ∧ el (el t v7_2) v8_3 < (classes.length : Int)) ∧
        ((¬ (el classes (el (el t v6_1) v8_3) = el classes (el (el t v7_2) v8_3)) →
         Q false) ∧
        (el classes (el (el t v6_1) v8_3) = el classes (el (el t v7_2) v8_3) →
         (0 ≤ v8_3 ∧ v8_3 < (t.length : Int)) ∧
         (0 ≤ v8_3 ∧ v8_3 < (t.length : Int)) ∧
         (0 ≤ v6_1 ∧ v6_1 < ((el t v8_3).length : Int)) ∧
         (0 ≤ el (el t v8_3) v6_1 ∧ el (el t v8_3) v6_1 < (classes.length : Int)) ∧
         (0 ≤ v7_2 ∧ v7_2 < ((el t v8_3).length : Int)) ∧
         (0 ≤ el (el t v8_3) v7_2 ∧ el (el t v8_3) v7_2 < (classes.length : Int)) ∧
         ((¬ (el classes (el (el t v8_3) v6_1) = el classes (el (el t v8_3) v7_2)) →
          Q false) ∧
         (el classes (el (el t v8_3) v6_1) = el classes (el (el t v8_3) v7_2) →
          (InI (v8_3 + 1)) ∧
          (H3 (v8_3 + 1) ∧ m3 (v8_3 + 1) < m3 v8_3)))))) ∧
       (¬ (v8_3 < (t.length : Int)) →
        (InI (v7_2 + 1)) ∧
        (H2 (v7_2 + 1) ∧ m2 (v7_2 + 1) < m2 v7_2))))))) ∧
    (¬ (v7_2 < (t.length : Int)) →
     (InI (v6_1 + 1)) ∧
     (H1 (v6_1 + 1) ∧ m1 (v6_1 + 1) < m1 v6_1))))) ∧
  (¬ (v6_1 < (t.length : Int)) →
   Q true)))

def wp_spec_l04Code (r : List (List Int)) (classes : List Int) (Q : Int → Prop) : Prop :=
 (small2 r) ∧
 (((isRk r) = false →
  Q 1) ∧
 ((isRk r) = true →
  (small classes ∧ InI (r.length : Int)) ∧
  (((partB (r.length : Int) classes) = false →
   Q 1) ∧
  ((partB (r.length : Int) classes) = true →
   Q 0))))


theorem p_impl_isPartition (n : Int) (classes : List Int) (hp : small classes ∧ InI n) : wp_impl_isPartition n classes (fun y0 => y0 = partB n classes) := by
  unfold wp_impl_isPartition
  have hs := hp.1
  refine ⟨fun v i => 0 ≤ i ∧ i ≤ (classes.length : Int) ∧ 0 ≤ v ∧ v ≤ i ∧ canB v (dr classes i) = canB 0 classes, fun _ i => ((classes.length : Int) - i).toNat, ⟨by omega, by omega, by omega, by omega, by rw [dr0]⟩, ?_⟩
  rintro v i ⟨i0, i1, v0, v1, hI⟩
  dsimp only
  refine ⟨fun hlt => ?_, fun hge => ?_⟩
  · rw [dr_cons ⟨i0, hlt⟩, canB] at hI
    refine ⟨⟨i0, hlt⟩, fun hf => ?_, fun ht => ⟨fun he => ?_, fun he => ?_⟩⟩
    · rw [hf, Bool.false_and] at hI
      unfold partB; rw [← hI]; rfl
    · rw [ht, Bool.true_and, if_pos he] at hI
      exact ⟨⟨by omega, by omega⟩, ⟨by omega, by omega⟩, ⟨by omega, by omega, by omega, by omega, hI⟩, by omega⟩
    · rw [ht, Bool.true_and, if_neg he] at hI
      exact ⟨⟨by omega, by omega⟩, ⟨by omega, by omega, by omega, by omega, hI⟩, by omega⟩
  · rw [dr_nil (by omega)] at hI
    unfold partB; rw [← hI]; rfl
theorem p_spec_l04Partition (n : Int) (classes : List Int) (hp : small classes ∧ InI n) : wp_spec_l04Partition n classes (fun y0 => y0 = partB n classes) := by
  unfold wp_spec_l04Partition
  have hs := hp.1
  refine ⟨fun v i => 0 ≤ i ∧ i ≤ (classes.length : Int) ∧ 0 ≤ v ∧ v ≤ i ∧ canB v (dr classes i) = canB 0 classes, fun _ i => ((classes.length : Int) - i).toNat, ⟨by omega, by omega, by omega, by omega, by rw [dr0]⟩, ?_⟩
  rintro v i ⟨i0, i1, v0, v1, hI⟩
  dsimp only
  refine ⟨fun hlt => ?_, fun hge => ?_⟩
  · rw [dr_cons ⟨i0, hlt⟩, canB] at hI
    refine ⟨⟨i0, hlt⟩, fun hf => ?_, fun ht => ⟨⟨i0, hlt⟩, fun he => ?_, fun he => ?_⟩⟩
    · rw [hf, Bool.false_and] at hI
      unfold partB; rw [← hI]; rfl
    · rw [ht, Bool.true_and, if_pos he] at hI
      exact ⟨⟨by omega, by omega⟩, ⟨by omega, by omega⟩, ⟨by omega, by omega, by omega, by omega, hI⟩, by omega⟩
    · rw [ht, Bool.true_and, if_neg he] at hI
      exact ⟨⟨by omega, by omega⟩, ⟨by omega, by omega, by omega, by omega, hI⟩, by omega⟩
  · rw [dr_nil (by omega)] at hI
    unfold partB; rw [← hI]; rfl
theorem p_impl_firstOf (classes : List Int) (hp : small classes ∧ canB 0 classes = true) : wp_impl_firstOf classes (fun y0 => y0 = firI classes) := by
  unfold wp_impl_firstOf
  obtain ⟨hs, hc⟩ := hp
  refine ⟨fun i o => 0 ≤ i ∧ i ≤ (classes.length : Int) ∧ (o.length : Int) ≤ i ∧ canB (o.length : Int) (dr classes i) = true ∧ canN (o.length : Int) (dr classes i) = canN 0 classes ∧
    (∀ k, 0 ≤ k → k < (o.length : Int) → (0 ≤ el o k ∧ el o k < i) ∧ el classes (el o k) = k ∧ Upto (el o k) fun j => (el classes j == k) = false) ∧ (Upto i fun j => el classes j < (o.length : Int)), fun i _ => ((classes.length : Int) - i).toNat,
    ⟨by omega, by omega, by simp, by rw [dr0]; exact hc, by rw [dr0]; rfl, fun k a b => by simp at b; omega, upto0⟩, ?_⟩
  rintro i o ⟨i0, i1, ol, hB, hN, hF, hU⟩
  dsimp only
  refine ⟨fun hlt => ?_, fun hge => ?_⟩
  · rw [dr_cons ⟨i0, hlt⟩] at hB hN
    simp only [canB, canN, Bool.and_eq_true, decide_eq_true_eq] at hB hN
    obtain ⟨⟨b1, b2⟩, b3⟩ := hB
    refine ⟨⟨i0, hlt⟩, fun he => ?_, fun he => ?_⟩
    · rw [if_pos he] at b3 hN
      refine ⟨by simp; omega, ⟨by omega, by omega⟩, ⟨by omega, by omega, by simp; omega, by simpa using b3, by simpa using hN, fun k k0 k1 => ?_, ?_⟩, by omega⟩
      · simp only [List.length_append, List.length_singleton, Int.natCast_add, Int.natCast_one] at k1
        by_cases e : k = (o.length : Int)
        · rw [el_append_last e]
          refine ⟨⟨by omega, by omega⟩, by omega, fun j j0 j1 => ?_⟩
          have := hU j j0 j1
          show (el classes j == k) = false
          rw [beq_eq_false_iff_ne]; omega
        · rw [el_append_l ⟨k0, by omega⟩]
          obtain ⟨c1, c2, c3⟩ := hF k k0 (by omega)
          exact ⟨⟨c1.1, by omega⟩, c2, c3⟩
      · refine upto1 (fun j j0 j1 => ?_) ?_
        · have := hU j j0 j1
          simp; omega
        · simp; omega
    · rw [if_neg he] at b3 hN
      refine ⟨⟨by omega, by omega⟩, ⟨by omega, by omega, by omega, b3, hN, fun k k0 k1 => ?_, upto1 hU (by omega)⟩, by omega⟩
      obtain ⟨c1, c2, c3⟩ := hF k k0 k1
      exact ⟨⟨c1.1, by omega⟩, c2, c3⟩
  · rw [dr_nil (by omega)] at hN
    simp only [canN] at hN
    refine eq_ran (by omega) fun k k0 k1 => ?_
    obtain ⟨c1, c2, c3⟩ := hF k k0 (by omega)
    exact (idxF_found ⟨c1.1, by omega⟩ c3 (by simp [c2])).symm
theorem fir_el {c : List Int} (h : canB 0 c = true) {k : Int} (hk : 0 ≤ k ∧ k < canN 0 c) : (0 ≤ el (firI c) k ∧ el (firI c) k < (c.length : Int)) ∧ el c (el (firI c) k) = k := by
  rw [firI, el_ran hk]; exact can_fir h hk
theorem length_firI {c : List Int} (h : canB 0 c = true) : ((firI c).length : Int) = canN 0 c := by
  have := canN_le h
  simp [firI]; omega
theorem p_impl_isCongruence (t : List (List Int)) (classes : List Int) (hp : isTab t = true ∧ partB (t.length : Int) classes = true) : wp_impl_isCongruence t classes (fun y0 => y0 = dec (CongP t classes)) := by
  unfold wp_impl_isCongruence
  obtain ⟨ht, hpa⟩ := hp
  have hc := partB_can hpa
  have hl := partB_len hpa
  have hn := isTab_len ht
  have hfl := length_firI hc
  have fe := fun (i : Int) (hi : 0 ≤ i ∧ i < (t.length : Int)) => fir_el hc (can_el hc (i := i) ⟨hi.1, by omega⟩)
  refine ⟨⟨by show (classes.length : Int) ≤ 1000000000; omega, hc⟩, fun x => 0 ≤ x ∧ x ≤ (t.length : Int) ∧ Upto x fun x => ∀ y, 0 ≤ y → y < (t.length : Int) → el classes (el (el t x) y) = el classes (el (el t (el (firI classes) (el classes x))) (el (firI classes) (el classes y))), fun x => ((t.length : Int) - x).toNat, ⟨by omega, by omega, upto0⟩, ?_⟩
  rintro x ⟨x0, x1, xI⟩
  dsimp only
  refine ⟨fun xlt => ⟨⟨x0, xlt⟩, ?_⟩, fun xge => ?_⟩
  · have rx := isTab_row ht ⟨x0, xlt⟩
    refine ⟨fun y => 0 ≤ y ∧ y ≤ (t.length : Int) ∧ Upto y fun y => el classes (el (el t x) y) = el classes (el (el t (el (firI classes) (el classes x))) (el (firI classes) (el classes y))), fun y => ((t.length : Int) - y).toNat, ⟨by omega, by omega, upto0⟩, ?_⟩
    rintro y ⟨y0, y1, yI⟩
    dsimp only
    refine ⟨fun ylt => ?_, fun yge => ⟨⟨by omega, by omega⟩, ⟨by omega, by omega, upto1 xI fun y a b => yI y a (by omega)⟩, by omega⟩⟩
    have ylt' : y < (t.length : Int) := by omega
    have cx := can_el hc (i := x) ⟨x0, by omega⟩
    have cy := can_el hc (i := y) ⟨y0, by omega⟩
    have fx := fe x ⟨x0, xlt⟩
    have fy := fe y ⟨y0, ylt'⟩
    have fx' : 0 ≤ el (firI classes) (el classes x) ∧ el (firI classes) (el classes x) < (t.length : Int) := ⟨fx.1.1, by omega⟩
    have fy' : 0 ≤ el (firI classes) (el classes y) ∧ el (firI classes) (el classes y) < (t.length : Int) := ⟨fy.1.1, by omega⟩
    have v1 := rk_el ht ⟨x0, xlt⟩ ⟨y0, ylt'⟩
    have v2 := rk_el ht fx' fy'
    have rl := rk_len ht fx'
    refine ⟨⟨y0, ylt⟩, ⟨v1.1, by omega⟩, ⟨x0, by omega⟩, ⟨y0, by omega⟩, ⟨cx.1, by omega⟩, fx', ⟨cy.1, by omega⟩, ⟨fy'.1, by omega⟩, ⟨v2.1, by omega⟩, fun hne => ?_, fun he => ⟨⟨by omega, by omega⟩, ⟨by omega, by omega, upto1 yI he⟩, by omega⟩⟩
    exact (dec_f fun hC => hne (hC x y _ _ ⟨x0, xlt⟩ ⟨y0, ylt'⟩ fx' fy' fx.2.symm fy.2.symm)).symm
  · refine (dec_t fun x y u v hx hy hu hv exu eyv => ?_).symm
    rw [xI x hx.1 (by omega) y hy.1 hy.2, xI u hu.1 (by omega) v hv.1 hv.2, exu, eyv]
theorem p_spec_l04Congruence (t : List (List Int)) (classes : List Int) (hp : isTab t = true ∧ (classes.length : Int) = (t.length : Int)) : wp_spec_l04Congruence t classes (fun y0 => y0 = dec (CongP t classes)) := by
  unfold wp_spec_l04Congruence
  obtain ⟨ht, hl⟩ := hp
  have hn := isTab_len ht
  refine ⟨fun x => 0 ≤ x ∧ x ≤ (t.length : Int) ∧ Upto x fun x => ∀ z, 0 ≤ z → z < (t.length : Int) → el classes x = el classes z → ∀ y, 0 ≤ y → y < (t.length : Int) → el classes (el (el t x) y) = el classes (el (el t z) y) ∧ el classes (el (el t y) x) = el classes (el (el t y) z), fun x => ((t.length : Int) - x).toNat, ⟨by omega, by omega, upto0⟩, ?_⟩
  rintro x ⟨x0, x1, xI⟩
  dsimp only
  refine ⟨fun xlt => ?_, fun xge => ?_⟩
  · refine ⟨fun z => 0 ≤ z ∧ z ≤ (t.length : Int) ∧ Upto z fun z => el classes x = el classes z → ∀ y, 0 ≤ y → y < (t.length : Int) → el classes (el (el t x) y) = el classes (el (el t z) y) ∧ el classes (el (el t y) x) = el classes (el (el t y) z), fun z => ((t.length : Int) - z).toNat, ⟨by omega, by omega, upto0⟩, ?_⟩
    rintro z ⟨z0, z1, zI⟩
    dsimp only
    refine ⟨fun zlt => ⟨⟨x0, by omega⟩, ⟨z0, by omega⟩, fun hne => ⟨⟨by omega, by omega⟩, ⟨by omega, by omega, upto1 zI fun he => absurd he hne⟩, by omega⟩, fun he => ?_⟩, fun zge => ⟨⟨by omega, by omega⟩, ⟨by omega, by omega, upto1 xI fun z a b => zI z a (by omega)⟩, by omega⟩⟩
    refine ⟨fun y => 0 ≤ y ∧ y ≤ (t.length : Int) ∧ Upto y fun y => el classes (el (el t x) y) = el classes (el (el t z) y) ∧ el classes (el (el t y) x) = el classes (el (el t y) z), fun y => ((t.length : Int) - y).toNat, ⟨by omega, by omega, upto0⟩, ?_⟩
    rintro y ⟨y0, y1, yI⟩
    dsimp only
    refine ⟨fun ylt => ?_, fun yge => ⟨⟨by omega, by omega⟩, ⟨by omega, by omega, upto1 zI fun _ y a b => yI y a (by omega)⟩, by omega⟩⟩
    have hx : 0 ≤ x ∧ x < (t.length : Int) := ⟨x0, xlt⟩
    have hz : 0 ≤ z ∧ z < (t.length : Int) := ⟨z0, zlt⟩
    have hy : 0 ≤ y ∧ y < (t.length : Int) := ⟨y0, ylt⟩
    have lx := rk_len ht hx
    have lz := rk_len ht hz
    have ly := rk_len ht hy
    have v1 := rk_el ht hx hy
    have v2 := rk_el ht hz hy
    have v3 := rk_el ht hy hx
    have v4 := rk_el ht hy hz
    refine ⟨hx, hz, ⟨y0, by omega⟩, ⟨v1.1, by omega⟩, ⟨y0, by omega⟩, ⟨v2.1, by omega⟩, fun h1 => (dec_f fun hC => h1 (hC x y z y hx hy hz hy he rfl)).symm, fun h1 => ⟨hy, hy, ⟨x0, by omega⟩, ⟨v3.1, by omega⟩, ⟨z0, by omega⟩, ⟨v4.1, by omega⟩, fun h2 => (dec_f fun hC => h2 (hC y x y z hy hx hy hz rfl he)).symm, fun h2 => ⟨⟨by omega, by omega⟩, ⟨by omega, by omega, upto1 yI ⟨h1, h2⟩⟩, by omega⟩⟩⟩
  · refine (dec_t fun x y u v hx hy hu hv exu eyv => ?_).symm
    rw [(xI x hx.1 (by omega) u hu.1 hu.2 exu y hy.1 hy.2).1, (xI y hy.1 (by omega) v hv.1 hv.2 eyv u hu.1 hu.2).2]
theorem p_spec_l04Code (r : List (List Int)) (classes : List Int) (hp : small2 r ∧ small classes) : wp_spec_l04Code r classes (fun y0 => y0 = IcoE r classes) := by
  unfold wp_spec_l04Code IcoE
  have h1 := hp.1.1
  exact ⟨hp.1, fun h => by rw [h]; rfl, fun h => ⟨⟨hp.2, by omega, by omega⟩, fun h2 => by rw [h, h2]; rfl, fun h2 => by rw [h, h2]; rfl⟩⟩
theorem pro_bd {n m x : Int} (_hn : 1 ≤ n ∧ n ≤ 12) (hm : 1 ≤ m ∧ m ≤ 12) (hx : 0 ≤ x ∧ x < n * m) : (0 ≤ x / m ∧ x / m < n) ∧ (0 ≤ x % m ∧ x % m < m) :=
  ⟨⟨Int.ediv_nonneg hx.1 (by omega), Int.ediv_lt_of_lt_mul (by omega) hx.2⟩, Int.emod_nonneg x (by omega), Int.emod_lt_of_pos x (by omega)⟩
theorem pro_N {n m : Int} (hn : 1 ≤ n ∧ n ≤ 12) (hm : 1 ≤ m ∧ m ≤ 12) : 0 ≤ n * m ∧ n * m ≤ 144 := by
  have := mulB (a := n) (i := m) (A := 12) (B := 12) ⟨by omega, by omega, by omega, by omega⟩
  omega
theorem pro1 {a b : List (List Int)} (h : (isRk a && isRk b) = false) : [] = ProT a b ∧ 1 = ProE a b := by
  have e : ProE a b = 1 := by unfold ProE; rw [h]; rfl
  exact ⟨by unfold ProT; rw [e]; rfl, e.symm⟩
theorem pro3 {a b : List (List Int)} (h : (isRk a && isRk b) = true) (h2 : (12 : Int) < (a.length : Int) * (b.length : Int)) : [] = ProT a b ∧ 3 = ProE a b := by
  have e : ProE a b = 3 := by unfold ProE; rw [h, if_pos h2]; rfl
  exact ⟨by unfold ProT; rw [e]; rfl, e.symm⟩
theorem pro0 {a b : List (List Int)} (h : (isRk a && isRk b) = true) (h2 : ¬ (12 : Int) < (a.length : Int) * (b.length : Int)) : proT a b = ProT a b ∧ 0 = ProE a b := by
  have e : ProE a b = 0 := by unfold ProE; rw [h, if_neg h2]; rfl
  exact ⟨by unfold ProT; rw [e]; rfl, e.symm⟩
theorem uniV_in {r s : List (List Int)} (hr : isTab r = true) (hs : isTab s = true) {x y : Int} (x0 : 0 ≤ x) (x1 : x < (r.length : Int) + (s.length : Int)) (y0 : 0 ≤ y) (y1 : y < (r.length : Int) + (s.length : Int)) : 0 ≤ uniV r s x y ∧ uniV r s x y < (r.length : Int) + (s.length : Int) := by
  unfold uniV
  split
  · rename_i h; have := rk_el hr ⟨x0, h.1⟩ ⟨y0, h.2⟩; omega
  · split
    · rename_i h; have := rk_el hs (x := x - (r.length : Int)) (y := y - (r.length : Int)) ⟨by omega, by omega⟩ ⟨by omega, by omega⟩; omega
    · omega
theorem uniV_a {r s : List (List Int)} {x y : Int} (h1 : x < (r.length : Int)) (h2 : y < (r.length : Int)) : el (el r x) y = uniV r s x y := by unfold uniV; rw [if_pos ⟨h1, h2⟩]
theorem uniV_b {r s : List (List Int)} {x y : Int} (h1 : (r.length : Int) ≤ x) (h2 : (r.length : Int) ≤ y) : (r.length : Int) + el (el s (x - (r.length : Int))) (y - (r.length : Int)) = uniV r s x y := by unfold uniV; rw [if_neg (by omega), if_pos ⟨h1, h2⟩]
theorem uniV_c {r s : List (List Int)} {x y : Int} (h1 : ¬ (x < (r.length : Int) ∧ y < (r.length : Int))) (h2 : ¬ ((r.length : Int) ≤ x ∧ (r.length : Int) ≤ y)) : y = uniV r s x y := by unfold uniV; rw [if_neg h1, if_neg h2]
theorem uni1 {a b : List (List Int)} (h : (isRk a && isRk b) = false) : [] = UniT a b ∧ 1 = UniE a b := by
  have e : UniE a b = 1 := by unfold UniE; rw [h]; rfl
  exact ⟨by unfold UniT; rw [e]; rfl, e.symm⟩
theorem uni3 {a b : List (List Int)} (h : (isRk a && isRk b) = true) (h2 : (12 : Int) < (a.length : Int) + (b.length : Int)) : [] = UniT a b ∧ 3 = UniE a b := by
  have e : UniE a b = 3 := by unfold UniE; rw [h, if_pos h2]; rfl
  exact ⟨by unfold UniT; rw [e]; rfl, e.symm⟩
theorem uni0 {a b : List (List Int)} (h : (isRk a && isRk b) = true) (h2 : ¬ (12 : Int) < (a.length : Int) + (b.length : Int)) : uniT a b = UniT a b ∧ 0 = UniE a b := by
  have e : UniE a b = 0 := by unfold UniE; rw [h, if_neg h2]; rfl
  exact ⟨by unfold UniT; rw [e]; rfl, e.symm⟩
theorem crm1 {r s : List (List Int)} (h : (isRk r && isRk s) = false) : 0 = CrmV r s ∧ 1 = CrmE r s := by
  have e : CrmE r s = 1 := by unfold CrmE; rw [h]; rfl
  exact ⟨by unfold CrmV; rw [e]; rfl, e.symm⟩
theorem crm3 {r s : List (List Int)} (h : (isRk r && isRk s) = true) (h2 : (1000000 : Int) < (s.length : Int) ^ r.length) : 0 = CrmV r s ∧ 3 = CrmE r s := by
  have e : CrmE r s = 3 := by unfold CrmE; rw [h, if_pos h2]; rfl
  exact ⟨by unfold CrmV; rw [e]; rfl, e.symm⟩
theorem crm0 {r s : List (List Int)} (h : (isRk r && isRk s) = true) (h2 : ¬ (1000000 : Int) < (s.length : Int) ^ r.length) : cntI r s [] = CrmV r s ∧ 0 = CrmE r s := by
  have e : CrmE r s = 0 := by unfold CrmE; rw [h, if_neg h2]; rfl
  exact ⟨by unfold CrmV; rw [e]; rfl, e.symm⟩
theorem crm_step {m v w n : Int} (hm : 1 ≤ m ∧ m ≤ 12) (hv : v = m ^ w.toNat) (w0 : 0 ≤ w) (hw : w < n) (h : v ≤ 1000000) : InI (v * m) ∧ v * m = m ^ (w + 1).toNat ∧ (1000000 < v * m → 1000000 < m ^ n.toNat) := by
  have p0 : 0 ≤ v := by rw [hv]; exact Int.pow_nonneg (by omega)
  have e : v * m = m ^ (w + 1).toNat := by rw [hv, show (w + 1).toNat = w.toNat + 1 by omega, Int.pow_succ]
  have b := mulB (a := v) (i := m) (A := 1000000) (B := 12) ⟨p0, h, by omega, by omega⟩
  refine ⟨⟨by omega, by omega⟩, e, fun h1 => ?_⟩
  have := pow_mono hm.1 (w + 1).toNat n.toNat (by omega)
  omega
set_option maxRecDepth 100000 in
set_option maxHeartbeats 1000000 in
theorem w_impl_isPartition (n : Int) (classes : List Int) (Q : Bool → Prop) (h : wp_impl_isPartition n classes Q) : AF Try.prog 100 [ci n, .lst (ints classes)] (fun R_ => ∃ y0, Q y0 ∧ R_ = cb y0) := by
  refine AF.ofWQ (af_enter (n := 28) Try.func100 rfl (by rfl) rfl (Nat.le_of_ble_eq_true rfl) ?_)
  unfold wp_impl_isPartition at h
  refine aw_seq ?_
  refine aw_gh (gh_to (n := 28) (σ' := []) (env' := [(0, .c (ci n)), (1, .c (.lst (ints classes)))]) rfl rfl ⟨rfl, rfl, trivial⟩) ?_
  refine aw_region ?_
  refine run_s (ss_assign rfl) rfl ?_
  refine run_nil ?_
  refine aw_seq ?_
  refine aw_region ?_
  refine run_s (ss_assign rfl) rfl ?_
  refine run_nil ?_
  refine aw_seq ?_
  refine aw_seq ?_
  refine aw_region ?_
  refine run_s (ss_move rfl) rfl ?_
  refine run_s (ss_lenL (f := ci) rfl) rfl ?_
  refine run_s (ss_move rfl) rfl ?_
  refine run_nil ?_
  refine aw_block ?_
  obtain ⟨H1, m1, q1, h⟩ := h
  refine aw_loop2 (fun (v5_1 : Int) (v10_1 : Int) => ⟨[], [(0, .c (ci n)), (1, .c (.lst (ints classes))), (5, .c (ci v5_1)), (8, .c (.lst (ints classes))), (9, .c (ci (classes.length : Int))), (10, .c (ci v10_1))], 28⟩) H1 m1 ⟨0, 0, ghe_to (n := 28) rfl rfl ⟨rfl, rfl, rfl, rfl, rfl, rfl, trivial⟩, q1⟩ ?_
  rintro v5_1 v10_1 q1
  replace h := h v5_1 v10_1 q1
  refine aw_seq ?_
  refine aw_region ?_
  refine run_s (ss_lss rfl rfl) rfl ?_
  refine run_nil ?_
  refine aw_seq ?_
  refine aw_cond rfl (fun q2 => ?_) (fun q2 => ?_)
  · replace h := h.1 (of_decide_eq_true q2)
    refine aw_skip ?_
    refine aw_seq ?_
    refine aw_block ?_
    refine aw_seq ?_
    refine aw_region ?_
    obtain ⟨q3, h⟩ := h
    refine run_s (ss_idxL rfl rfl q3) rfl ?_
    refine run_s (ss_loadL (f := ci) rfl q3) rfl ?_
    refine run_s (ss_assign rfl) rfl ?_
    refine run_nil ?_
    refine aw_seq ?_
    refine aw_seq ?_
    refine aw_region ?_
    refine run_s (ss_move rfl) rfl ?_
    refine run_s (ss_move rfl) rfl ?_
    refine run_w (ws_call (xs := [.tmp 14, .const (.int .i64 (0)), .tmp 15]) (ids := []) rfl rfl rfl rfl (c_impl_within (el classes v10_1) 0 v5_1) rfl ?_ )
    rintro _ rfl
    refine ⟨rfl, ?_⟩
    refine run_s (ss_not rfl) rfl ?_
    refine run_nil ?_
    refine aw_cond rfl (fun q5 => ?_) (fun q5 => ?_)
    · replace h := h.1 ((bnot_t q5))
      refine aw_seq ?_
      refine aw_gh (gh_to (n := 28) (σ' := []) (env' := []) rfl rfl trivial) ?_
      refine aw_region ?_
      refine run_s (ss_assign rfl) rfl ?_
      refine run_nil ?_
      refine aw_ret ?_
      exact retAF_mk (retv1 rfl (rv_tmp rfl)) rfl rfl ⟨_, (cle_refl _), _, h, rfl⟩
    · replace h := h.2 ((bnot_f q5))
      refine aw_skip ?_
      refine aw_seq ?_
      refine aw_gh (gh_to (n := 28) (σ' := []) (env' := [(0, .c (ci n)), (1, .c (.lst (ints classes))), (5, .c (ci v5_1)), (7, .c (ci (el classes v10_1))), (8, .c (.lst (ints classes))), (9, .c (ci (classes.length : Int))), (10, .c (ci v10_1))]) rfl rfl ⟨rfl, rfl, rfl, rfl, rfl, rfl, rfl, trivial⟩) ?_
      refine aw_region ?_
      refine run_s (ss_move rfl) rfl ?_
      refine run_s (ss_move rfl) rfl ?_
      refine run_s (ss_eql rfl rfl) rfl ?_
      refine run_nil ?_
      refine aw_cond rfl (fun q6 => ?_) (fun q6 => ?_)
      · replace h := h.1 (of_decide_eq_true q6)
        refine aw_region ?_
        refine run_s (ss_move rfl) rfl ?_
        obtain ⟨q7, h⟩ := h
        refine run_s (ss_add rfl rfl q7) rfl ?_
        refine run_s (ss_assign rfl) rfl ?_
        refine run_nil ?_
        refine aw_gh (gh_to (n := 28) (σ' := []) (env' := [(0, .c (ci n)), (1, .c (.lst (ints classes))), (5, .c (ci (v5_1 + 1))), (8, .c (.lst (ints classes))), (9, .c (ci (classes.length : Int))), (10, .c (ci v10_1))]) rfl rfl ⟨rfl, rfl, rfl, rfl, rfl, rfl, trivial⟩) ?_
        refine aw_region ?_
        obtain ⟨q8, h⟩ := h
        refine run_s (ss_add rfl rfl q8) rfl ?_
        refine run_s (ss_move rfl) rfl ?_
        refine run_nil ?_
        exact ⟨v5_1 + 1, v10_1 + 1, ghe_to (n := 28) rfl rfl ⟨rfl, rfl, rfl, rfl, rfl, rfl, trivial⟩, h.1, h.2⟩
      · replace h := h.2 (of_decide_eq_false q6)
        refine aw_skip ?_
        refine aw_gh (gh_to (n := 28) (σ' := []) (env' := [(0, .c (ci n)), (1, .c (.lst (ints classes))), (5, .c (ci v5_1)), (8, .c (.lst (ints classes))), (9, .c (ci (classes.length : Int))), (10, .c (ci v10_1))]) rfl rfl ⟨rfl, rfl, rfl, rfl, rfl, rfl, trivial⟩) ?_
        refine aw_region ?_
        obtain ⟨q9, h⟩ := h
        refine run_s (ss_add rfl rfl q9) rfl ?_
        refine run_s (ss_move rfl) rfl ?_
        refine run_nil ?_
        exact ⟨v5_1, v10_1 + 1, ghe_to (n := 28) rfl rfl ⟨rfl, rfl, rfl, rfl, rfl, rfl, trivial⟩, h.1, h.2⟩
  · replace h := h.2 (of_decide_eq_false q2)
    refine aw_exit ?_
    refine aw_seq ?_
    refine aw_region ?_
    refine run_s (ss_move rfl) rfl ?_
    refine run_s (ss_lenL (f := ci) rfl) rfl ?_
    refine run_s (ss_move rfl) rfl ?_
    refine run_s (ss_eql rfl rfl) rfl ?_
    refine run_s (ss_assign rfl) rfl ?_
    refine run_nil ?_
    refine aw_ret ?_
    exact retAF_mk (retv1 rfl (rv_tmp rfl)) rfl rfl ⟨_, (cle_refl _), _, h, rfl⟩

theorem c_impl_isPartition (n : Int) (classes : List Int) (hp : small classes ∧ InI n) : AF Try.prog 100 [ci n, .lst (ints classes)] (fun R_ => R_ = cb (partB n classes)) :=
  (w_impl_isPartition n classes (fun y0 => y0 = partB n classes) (p_impl_isPartition n classes hp)).mono (by rintro r ⟨_, rfl, rfl⟩; rfl)

set_option maxRecDepth 100000 in
set_option maxHeartbeats 1000000 in
theorem w_spec_l04Partition (n : Int) (classes : List Int) (Q : Bool → Prop) (h : wp_spec_l04Partition n classes Q) : AF Try.prog 152 [ci n, .lst (ints classes)] (fun R_ => ∃ y0, Q y0 ∧ R_ = cb y0) := by
  refine AF.ofWQ (af_enter (n := 32) Try.func152 rfl (by rfl) rfl (Nat.le_of_ble_eq_true rfl) ?_)
  unfold wp_spec_l04Partition at h
  refine aw_seq ?_
  refine aw_gh (gh_to (n := 32) (σ' := []) (env' := [(0, .c (ci n)), (1, .c (.lst (ints classes)))]) rfl rfl ⟨rfl, rfl, trivial⟩) ?_
  refine aw_region ?_
  refine run_s (ss_assign rfl) rfl ?_
  refine run_nil ?_
  refine aw_seq ?_
  refine aw_region ?_
  refine run_s (ss_assign rfl) rfl ?_
  refine run_nil ?_
  refine aw_seq ?_
  refine aw_seq ?_
  refine aw_region ?_
  refine run_s (ss_assign rfl) rfl ?_
  refine run_nil ?_
  refine aw_block ?_
  obtain ⟨H1, m1, q1, h⟩ := h
  refine aw_loop2 (fun (v5_1 : Int) (v6_1 : Int) => ⟨[], [(0, .c (ci n)), (1, .c (.lst (ints classes))), (5, .c (ci v5_1)), (6, .c (ci v6_1))], 32⟩) H1 m1 ⟨0, 0, ghe_to (n := 32) rfl rfl ⟨rfl, rfl, rfl, rfl, trivial⟩, q1⟩ ?_
  rintro v5_1 v6_1 q1
  replace h := h v5_1 v6_1 q1
  refine aw_seq ?_
  refine aw_seq ?_
  refine aw_region ?_
  refine run_s (ss_move rfl) rfl ?_
  refine run_s (ss_move rfl) rfl ?_
  refine run_s (ss_lenL (f := ci) rfl) rfl ?_
  refine run_s (ss_lss rfl rfl) rfl ?_
  refine run_nil ?_
  refine aw_cond rfl (fun q2 => ?_) (fun q2 => ?_)
  · replace h := h.1 (of_decide_eq_true q2)
    refine aw_skip ?_
    refine aw_seq ?_
    refine aw_block ?_
    refine aw_seq ?_
    refine aw_seq ?_
    refine aw_region ?_
    refine run_s (ss_move rfl) rfl ?_
    refine run_s (ss_move rfl) rfl ?_
    obtain ⟨q3, h⟩ := h
    refine run_s (ss_idxL rfl rfl q3) rfl ?_
    refine run_s (ss_loadL (f := ci) rfl q3) rfl ?_
    refine run_s (ss_move rfl) rfl ?_
    refine run_w (ws_call (xs := [.tmp 16, .const (.int .i64 (0)), .tmp 17]) (ids := []) rfl rfl rfl rfl (c_spec_l01In (el classes v6_1) 0 v5_1) rfl ?_ )
    rintro _ rfl
    refine ⟨rfl, ?_⟩
    refine run_s (ss_not rfl) rfl ?_
    refine run_nil ?_
    refine aw_cond rfl (fun q5 => ?_) (fun q5 => ?_)
    · replace h := h.1 ((bnot_t q5))
      refine aw_seq ?_
      refine aw_gh (gh_to (n := 32) (σ' := []) (env' := []) rfl rfl trivial) ?_
      refine aw_region ?_
      refine run_s (ss_assign rfl) rfl ?_
      refine run_nil ?_
      refine aw_ret ?_
      exact retAF_mk (retv1 rfl (rv_tmp rfl)) rfl rfl ⟨_, (cle_refl _), _, h, rfl⟩
    · replace h := h.2 ((bnot_f q5))
      refine aw_skip ?_
      refine aw_seq ?_
      refine aw_gh (gh_to (n := 32) (σ' := []) (env' := [(0, .c (ci n)), (1, .c (.lst (ints classes))), (5, .c (ci v5_1)), (6, .c (ci v6_1))]) rfl rfl ⟨rfl, rfl, rfl, rfl, trivial⟩) ?_
      refine aw_region ?_
      refine run_s (ss_move rfl) rfl ?_
      refine run_s (ss_move rfl) rfl ?_
      obtain ⟨q6, h⟩ := h
      refine run_s (ss_idxL rfl rfl q6) rfl ?_
      refine run_s (ss_loadL (f := ci) rfl q6) rfl ?_
      refine run_s (ss_move rfl) rfl ?_
      refine run_s (ss_eql rfl rfl) rfl ?_
      refine run_nil ?_
      refine aw_cond rfl (fun q7 => ?_) (fun q7 => ?_)
      · replace h := h.1 (of_decide_eq_true q7)
        refine aw_gh (gh_to (n := 32) (σ' := []) (env' := [(0, .c (ci n)), (1, .c (.lst (ints classes))), (5, .c (ci v5_1)), (6, .c (ci v6_1))]) rfl rfl ⟨rfl, rfl, rfl, rfl, trivial⟩) ?_
        refine aw_region ?_
        refine run_s (ss_move rfl) rfl ?_
        obtain ⟨q8, h⟩ := h
        refine run_s (ss_add rfl rfl q8) rfl ?_
        refine run_s (ss_assign rfl) rfl ?_
        refine run_nil ?_
        refine aw_region ?_
        refine run_s (ss_move rfl) rfl ?_
        obtain ⟨q9, h⟩ := h
        refine run_s (ss_add rfl rfl q9) rfl ?_
        refine run_s (ss_assign rfl) rfl ?_
        refine run_nil ?_
        exact ⟨v5_1 + 1, v6_1 + 1, ghe_to (n := 32) rfl rfl ⟨rfl, rfl, rfl, rfl, trivial⟩, h.1, h.2⟩
      · replace h := h.2 (of_decide_eq_false q7)
        refine aw_skip ?_
        refine aw_gh (gh_to (n := 32) (σ' := []) (env' := [(0, .c (ci n)), (1, .c (.lst (ints classes))), (5, .c (ci v5_1)), (6, .c (ci v6_1))]) rfl rfl ⟨rfl, rfl, rfl, rfl, trivial⟩) ?_
        refine aw_region ?_
        refine run_s (ss_move rfl) rfl ?_
        obtain ⟨q10, h⟩ := h
        refine run_s (ss_add rfl rfl q10) rfl ?_
        refine run_s (ss_assign rfl) rfl ?_
        refine run_nil ?_
        exact ⟨v5_1, v6_1 + 1, ghe_to (n := 32) rfl rfl ⟨rfl, rfl, rfl, rfl, trivial⟩, h.1, h.2⟩
  · replace h := h.2 (of_decide_eq_false q2)
    refine aw_exit ?_
    refine aw_seq ?_
    refine aw_region ?_
    refine run_s (ss_move rfl) rfl ?_
    refine run_s (ss_lenL (f := ci) rfl) rfl ?_
    refine run_s (ss_move rfl) rfl ?_
    refine run_s (ss_eql rfl rfl) rfl ?_
    refine run_s (ss_assign rfl) rfl ?_
    refine run_nil ?_
    refine aw_ret ?_
    exact retAF_mk (retv1 rfl (rv_tmp rfl)) rfl rfl ⟨_, (cle_refl _), _, h, rfl⟩

theorem c_spec_l04Partition (n : Int) (classes : List Int) (hp : small classes ∧ InI n) : AF Try.prog 152 [ci n, .lst (ints classes)] (fun R_ => R_ = cb (partB n classes)) :=
  (w_spec_l04Partition n classes (fun y0 => y0 = partB n classes) (p_spec_l04Partition n classes hp)).mono (by rintro r ⟨_, rfl, rfl⟩; rfl)

set_option maxRecDepth 100000 in
set_option maxHeartbeats 1000000 in
theorem w_impl_firstOf (classes : List Int) (Q : List Int → Prop) (h : wp_impl_firstOf classes Q) : AF Try.prog 102 [.lst (ints classes)] (fun R_ => ∃ y0, Q y0 ∧ R_ = .own (ints y0)) := by
  refine AF.ofWQ (af_enter (n := 23) Try.func102 rfl (by rfl) rfl (Nat.le_of_ble_eq_true rfl) ?_)
  unfold wp_impl_firstOf at h
  refine aw_seq ?_
  refine aw_gh (gh_to (n := 23) (σ' := []) (env' := [(0, .c (.lst (ints classes)))]) rfl rfl ⟨rfl, trivial⟩) ?_
  refine aw_region ?_
  refine run_s (ss_assign rfl) rfl ?_
  refine run_nil ?_
  refine aw_seq ?_
  refine aw_region ?_
  refine run_s (ss_assign rfl) rfl ?_
  refine run_nil ?_
  refine aw_seq ?_
  refine aw_seq ?_
  refine aw_region ?_
  refine run_s (ss_move rfl) rfl ?_
  refine run_s (ss_lenL (f := ci) rfl) rfl ?_
  refine run_s (ss_move rfl) rfl ?_
  refine run_nil ?_
  refine aw_block ?_
  obtain ⟨H1, m1, q1, h⟩ := h
  refine aw_loop2 (fun (v8_1 : Int) (o100003_1 : List Int) => ⟨[(100003, ⟨ints o100003_1, []⟩)], [(3, .ref 100003), (6, .c (.lst (ints classes))), (7, .c (ci (classes.length : Int))), (8, .c (ci v8_1))], 23⟩) H1 m1 ⟨0, ([] : List Int), ghe_step (gh_nilE (i := 3) (id := 100003) rfl rfl) (ghe_to (n := 23) rfl rfl ⟨rfl, rfl, rfl, rfl, trivial⟩), q1⟩ ?_
  rintro v8_1 o100003_1 q1
  replace h := h v8_1 o100003_1 q1
  refine aw_seq ?_
  refine aw_region ?_
  refine run_s (ss_lss rfl rfl) rfl ?_
  refine run_nil ?_
  refine aw_seq ?_
  refine aw_cond rfl (fun q2 => ?_) (fun q2 => ?_)
  · replace h := h.1 (of_decide_eq_true q2)
    refine aw_skip ?_
    refine aw_seq ?_
    refine aw_block ?_
    refine aw_seq ?_
    refine aw_region ?_
    refine run_s (ss_move rfl) rfl ?_
    obtain ⟨q3, h⟩ := h
    refine run_s (ss_idxL rfl rfl q3) rfl ?_
    refine run_s (ss_loadL (f := ci) rfl q3) rfl ?_
    refine run_s (ss_assign rfl) rfl ?_
    refine run_s (ss_assign rfl) rfl ?_
    refine run_nil ?_
    refine aw_seq ?_
    refine aw_region ?_
    refine run_s (ss_move rfl) rfl ?_
    refine run_s (ss_move rfl) rfl ?_
    refine run_s (ss_lenR (f := ci) rfl rfl) rfl ?_
    refine run_s (ss_eql rfl rfl) rfl ?_
    refine run_nil ?_
    refine aw_cond rfl (fun q4 => ?_) (fun q4 => ?_)
    · replace h := h.1 (of_decide_eq_true q4)
      refine aw_gh (gh_to (n := 23) (σ' := [(100003, ⟨ints o100003_1, []⟩)]) (env' := [(3, .ref 100003), (4, .c (ci v8_1)), (6, .c (.lst (ints classes))), (7, .c (ci (classes.length : Int))), (8, .c (ci v8_1))]) rfl rfl ⟨rfl, rfl, rfl, rfl, rfl, trivial⟩) ?_
      refine aw_region ?_
      refine run_s (ss_move rfl) rfl ?_
      refine run_s (ss_move rfl) rfl ?_
      refine run_w (ws_buildSlice (id := 19) (ps := [(0, .tmp 18)]) rfl rfl (Nat.le_of_ble_eq_true rfl) rfl ⟨rfl, ?_⟩)
      obtain ⟨q5, h⟩ := h
      refine run_w (ws_app1 ci (l := o100003_1) (m := [v8_1]) rfl rfl rfl rfl rfl (Nat.le_of_ble_eq_true rfl) q5 ⟨rfl, ?_⟩)
      refine run_s (ss_assign rfl) rfl ?_
      refine run_nil ?_
      refine aw_gh (gh_to (n := 23) (σ' := [(100003, ⟨ints (o100003_1 ++ ([v8_1])), []⟩)]) (env' := [(3, .ref 100003), (6, .c (.lst (ints classes))), (7, .c (ci (classes.length : Int))), (8, .c (ci v8_1))]) rfl rfl ⟨rfl, rfl, rfl, rfl, trivial⟩) ?_
      refine aw_region ?_
      obtain ⟨q6, h⟩ := h
      refine run_s (ss_add rfl rfl q6) rfl ?_
      refine run_s (ss_move rfl) rfl ?_
      refine run_nil ?_
      exact ⟨v8_1 + 1, o100003_1 ++ ([v8_1]), ghe_to (n := 23) rfl rfl ⟨rfl, rfl, rfl, rfl, trivial⟩, h.1, h.2⟩
    · replace h := h.2 (of_decide_eq_false q4)
      refine aw_skip ?_
      refine aw_gh (gh_to (n := 23) (σ' := [(100003, ⟨ints o100003_1, []⟩)]) (env' := [(3, .ref 100003), (6, .c (.lst (ints classes))), (7, .c (ci (classes.length : Int))), (8, .c (ci v8_1))]) rfl rfl ⟨rfl, rfl, rfl, rfl, trivial⟩) ?_
      refine aw_region ?_
      obtain ⟨q7, h⟩ := h
      refine run_s (ss_add rfl rfl q7) rfl ?_
      refine run_s (ss_move rfl) rfl ?_
      refine run_nil ?_
      exact ⟨v8_1 + 1, o100003_1, ghe_to (n := 23) rfl rfl ⟨rfl, rfl, rfl, rfl, trivial⟩, h.1, h.2⟩
  · replace h := h.2 (of_decide_eq_false q2)
    refine aw_exit ?_
    refine aw_seq ?_
    refine aw_region ?_
    refine run_s (ss_move rfl) rfl ?_
    refine run_s (ss_assign rfl) rfl ?_
    refine run_nil ?_
    refine aw_ret ?_
    exact retAF_mk (retv1 rfl (rv_tmp rfl)) rfl rfl ⟨_, (cle_refl _), _, h, rfl⟩

theorem c_impl_firstOf (classes : List Int) (hp : small classes ∧ canB 0 classes = true) : AF Try.prog 102 [.lst (ints classes)] (fun R_ => R_ = .own (ints (firI classes))) :=
  (w_impl_firstOf classes (fun y0 => y0 = firI classes) (p_impl_firstOf classes hp)).mono (by rintro r ⟨_, rfl, rfl⟩; rfl)

set_option maxRecDepth 100000 in
set_option maxHeartbeats 1000000 in
theorem w_impl_isCongruence (t : List (List Int)) (classes : List Int) (Q : Bool → Prop) (h : wp_impl_isCongruence t classes Q) : AF Try.prog 101 [.lst (rows t), .lst (ints classes)] (fun R_ => ∃ y0, Q y0 ∧ R_ = cb y0) := by
  refine AF.ofWQ (af_enter (n := 55) Try.func101 rfl (by rfl) rfl (Nat.le_of_ble_eq_true rfl) ?_)
  unfold wp_impl_isCongruence at h
  refine aw_seq ?_
  refine aw_gh (gh_to (n := 55) (σ' := []) (env' := [(0, .c (.lst (rows t))), (1, .c (.lst (ints classes)))]) rfl rfl ⟨rfl, rfl, trivial⟩) ?_
  refine aw_region ?_
  refine run_s (ss_assign rfl) rfl ?_
  refine run_nil ?_
  refine aw_seq ?_
  refine aw_region ?_
  refine run_s (ss_move rfl) rfl ?_
  obtain ⟨q1, h⟩ := h
  refine run_w (ws_call (xs := [.tmp 10]) (ids := [11]) rfl rfl rfl rfl (c_impl_firstOf classes q1) rfl ?_ )
  rintro _ rfl
  refine ⟨rfl, ?_⟩
  refine run_s (ss_assign rfl) rfl ?_
  refine run_nil ?_
  refine aw_seq ?_
  refine aw_seq ?_
  refine aw_region ?_
  refine run_s (ss_move rfl) rfl ?_
  refine run_s (ss_lenL (f := (fun r => C.lst (ints r))) rfl) rfl ?_
  refine run_s (ss_move rfl) rfl ?_
  refine run_nil ?_
  refine aw_block ?_
  obtain ⟨H1, m1, q3, h⟩ := h
  refine aw_loop1 (fun (v14_1 : Int) => ⟨[(11, ⟨ints (firI classes), []⟩)], [(0, .c (.lst (rows t))), (1, .c (.lst (ints classes))), (5, .ref 11), (12, .c (.lst (rows t))), (13, .c (ci (t.length : Int))), (14, .c (ci v14_1))], 55⟩) H1 m1 ⟨0, ghe_to (n := 55) rfl rfl ⟨rfl, rfl, rfl, rfl, rfl, rfl, trivial⟩, q3⟩ ?_
  rintro v14_1 q3
  replace h := h v14_1 q3
  refine aw_seq ?_
  refine aw_region ?_
  refine run_s (ss_lss rfl rfl) rfl ?_
  refine run_nil ?_
  refine aw_seq ?_
  refine aw_cond rfl (fun q4 => ?_) (fun q4 => ?_)
  · replace h := h.1 (of_decide_eq_true q4)
    refine aw_skip ?_
    refine aw_seq ?_
    refine aw_block ?_
    refine aw_seq ?_
    refine aw_region ?_
    refine run_s (ss_move rfl) rfl ?_
    obtain ⟨q5, h⟩ := h
    refine run_s (ss_idxL rfl rfl q5) rfl ?_
    refine run_s (ss_loadL (f := (fun r => C.lst (ints r))) rfl q5) rfl ?_
    refine run_s (ss_assign rfl) rfl ?_
    refine run_s (ss_assign rfl) rfl ?_
    refine run_nil ?_
    refine aw_seq ?_
    refine aw_region ?_
    refine run_s (ss_move rfl) rfl ?_
    refine run_s (ss_lenL (f := ci) rfl) rfl ?_
    refine run_s (ss_move rfl) rfl ?_
    refine run_nil ?_
    refine aw_block ?_
    obtain ⟨H2, m2, q6, h⟩ := h
    refine aw_loop1 (fun (v21_2 : Int) => ⟨[(11, ⟨ints (firI classes), []⟩)], [(0, .c (.lst (rows t))), (1, .c (.lst (ints classes))), (5, .ref 11), (6, .c (ci v14_1)), (12, .c (.lst (rows t))), (13, .c (ci (t.length : Int))), (14, .c (ci v14_1)), (19, .c (.lst (ints (el t v14_1)))), (20, .c (ci ((el t v14_1).length : Int))), (21, .c (ci v21_2))], 55⟩) H2 m2 ⟨0, ghe_to (n := 55) rfl rfl ⟨rfl, rfl, rfl, rfl, rfl, rfl, rfl, rfl, rfl, rfl, trivial⟩, q6⟩ ?_
    rintro v21_2 q6
    replace h := h v21_2 q6
    refine aw_seq ?_
    refine aw_region ?_
    refine run_s (ss_lss rfl rfl) rfl ?_
    refine run_nil ?_
    refine aw_seq ?_
    refine aw_cond rfl (fun q7 => ?_) (fun q7 => ?_)
    · replace h := h.1 (of_decide_eq_true q7)
      refine aw_skip ?_
      refine aw_seq ?_
      refine aw_block ?_
      refine aw_seq ?_
      refine aw_region ?_
      refine run_s (ss_move rfl) rfl ?_
      obtain ⟨q8, h⟩ := h
      refine run_s (ss_idxL rfl rfl q8) rfl ?_
      refine run_s (ss_loadL (f := ci) rfl q8) rfl ?_
      refine run_s (ss_assign rfl) rfl ?_
      refine run_s (ss_assign rfl) rfl ?_
      refine run_nil ?_
      refine aw_seq ?_
      refine aw_gh (gh_to (n := 55) (σ' := [(11, ⟨ints (firI classes), []⟩)]) (env' := [(0, .c (.lst (rows t))), (1, .c (.lst (ints classes))), (5, .ref 11), (6, .c (ci v14_1)), (8, .c (ci v21_2)), (9, .c (ci (el (el t v14_1) v21_2))), (12, .c (.lst (rows t))), (13, .c (ci (t.length : Int))), (14, .c (ci v14_1)), (19, .c (.lst (ints (el t v14_1)))), (20, .c (ci ((el t v14_1).length : Int))), (21, .c (ci v21_2))]) rfl rfl ⟨rfl, rfl, rfl, rfl, rfl, rfl, rfl, rfl, rfl, rfl, rfl, rfl, trivial⟩) ?_
      refine aw_regionD (kd := kdl [0, 0, 0, 1, 0, 0, 0, 0, 0, 0, 1, 0, 1, 0, 1, 0, 0, 0, 0, 1, 0, 1, 0, 1, 0, 1, 0]) (ord := [0, 1, 2, 4, 5, 6, 7, 8, 9, 15, 16, 17, 18, 3, 10, 11, 12, 13, 14, 19, 20, 21, 22, 23, 24, 25, 26]) [] mixed (by kernel_rfl) ?_
      refine rd_s rfl rfl trivial (ss_move rfl) rfl ?_
      refine rd_s rfl rfl trivial (ss_move rfl) rfl ?_
      obtain ⟨q9, h⟩ := h
      refine rd_s rfl rfl trivial (ss_idxL rfl rfl q9) rfl ?_
      refine rd_s rfl rfl trivial (ss_move rfl) rfl ?_
      refine rd_s rfl rfl trivial (ss_move rfl) rfl ?_
      refine rd_s rfl rfl trivial (ss_move rfl) rfl ?_
      refine rd_s rfl rfl trivial (ss_move rfl) rfl ?_
      refine rd_s rfl rfl trivial (ss_move rfl) rfl ?_
      obtain ⟨q10, h⟩ := h
      refine rd_s rfl rfl trivial (ss_idxL rfl rfl q10) rfl ?_
      refine rd_s rfl rfl trivial (ss_move rfl) rfl ?_
      refine rd_s rfl rfl trivial (ss_move rfl) rfl ?_
      refine rd_s rfl rfl trivial (ss_move rfl) rfl ?_
      obtain ⟨q11, h⟩ := h
      refine rd_s rfl rfl trivial (ss_idxL rfl rfl q11) rfl ?_
      refine rd_l rfl rfl trivial (ss_loadL (f := ci) rfl q9) rfl ?_
      refine rd_l rfl rfl trivial (ss_loadL (f := ci) rfl q10) rfl ?_
      obtain ⟨q12, h⟩ := h
      refine rd_s rfl rfl trivial (ss_idxR (f := ci) rfl rfl rfl q12) rfl ?_
      refine rd_l rfl rfl trivial (ss_loadR (f := ci) rfl rfl q12 rfl rfl) rfl ?_
      obtain ⟨q13, h⟩ := h
      refine rd_s rfl rfl trivial (ss_idxL rfl rfl q13) rfl ?_
      refine rd_l rfl rfl trivial (ss_loadL (f := (fun r => C.lst (ints r))) rfl q13) rfl ?_
      refine rd_l rfl rfl trivial (ss_loadL (f := ci) rfl q11) rfl ?_
      obtain ⟨q14, h⟩ := h
      refine rd_s rfl rfl trivial (ss_idxR (f := ci) rfl rfl rfl q14) rfl ?_
      refine rd_l rfl rfl trivial (ss_loadR (f := ci) rfl rfl q14 rfl rfl) rfl ?_
      obtain ⟨q15, h⟩ := h
      refine rd_s rfl rfl trivial (ss_idxL rfl rfl q15) rfl ?_
      refine rd_l rfl rfl trivial (ss_loadL (f := ci) rfl q15) rfl ?_
      obtain ⟨q16, h⟩ := h
      refine rd_s rfl rfl trivial (ss_idxL rfl rfl q16) rfl ?_
      refine rd_l rfl rfl trivial (ss_loadL (f := ci) rfl q16) rfl ?_
      refine rd_s rfl rfl trivial (ss_neq rfl rfl) rfl ?_
      refine rd_nil ?_
      refine aw_cond rfl (fun q17 => ?_) (fun q17 => ?_)
      · replace h := h.1 (of_decide_eq_false (bnot_t q17))
        refine aw_seq ?_
        refine aw_gh (gh_to (n := 55) (σ' := [(11, ⟨ints (firI classes), []⟩)]) (env' := []) rfl rfl trivial) ?_
        refine aw_region ?_
        refine run_s (ss_assign rfl) rfl ?_
        refine run_nil ?_
        refine aw_ret ?_
        exact retAF_mk (retv1 rfl (rv_tmp rfl)) rfl rfl ⟨_, (cle_refl _), _, h, rfl⟩
      · replace h := h.2 (of_decide_eq_true (bnot_f q17))
        refine aw_skip ?_
        refine aw_gh (gh_to (n := 55) (σ' := [(11, ⟨ints (firI classes), []⟩)]) (env' := [(0, .c (.lst (rows t))), (1, .c (.lst (ints classes))), (5, .ref 11), (6, .c (ci v14_1)), (12, .c (.lst (rows t))), (13, .c (ci (t.length : Int))), (14, .c (ci v14_1)), (19, .c (.lst (ints (el t v14_1)))), (20, .c (ci ((el t v14_1).length : Int))), (21, .c (ci v21_2))]) rfl rfl ⟨rfl, rfl, rfl, rfl, rfl, rfl, rfl, rfl, rfl, rfl, trivial⟩) ?_
        refine aw_region ?_
        obtain ⟨q18, h⟩ := h
        refine run_s (ss_add rfl rfl q18) rfl ?_
        refine run_s (ss_move rfl) rfl ?_
        refine run_nil ?_
        exact ⟨v21_2 + 1, ghe_to (n := 55) rfl rfl ⟨rfl, rfl, rfl, rfl, rfl, rfl, rfl, rfl, rfl, rfl, trivial⟩, h.1, h.2⟩
    · replace h := h.2 (of_decide_eq_false q7)
      refine aw_exit ?_
      refine aw_gh (gh_to (n := 55) (σ' := [(11, ⟨ints (firI classes), []⟩)]) (env' := [(0, .c (.lst (rows t))), (1, .c (.lst (ints classes))), (5, .ref 11), (12, .c (.lst (rows t))), (13, .c (ci (t.length : Int))), (14, .c (ci v14_1))]) rfl rfl ⟨rfl, rfl, rfl, rfl, rfl, rfl, trivial⟩) ?_
      refine aw_region ?_
      obtain ⟨q19, h⟩ := h
      refine run_s (ss_add rfl rfl q19) rfl ?_
      refine run_s (ss_move rfl) rfl ?_
      refine run_nil ?_
      exact ⟨v14_1 + 1, ghe_to (n := 55) rfl rfl ⟨rfl, rfl, rfl, rfl, rfl, rfl, trivial⟩, h.1, h.2⟩
  · replace h := h.2 (of_decide_eq_false q4)
    refine aw_exit ?_
    refine aw_seq ?_
    refine aw_gh (gh_to (n := 55) (σ' := [(11, ⟨ints (firI classes), []⟩)]) (env' := []) rfl rfl trivial) ?_
    refine aw_region ?_
    refine run_s (ss_assign rfl) rfl ?_
    refine run_nil ?_
    refine aw_ret ?_
    exact retAF_mk (retv1 rfl (rv_tmp rfl)) rfl rfl ⟨_, (cle_refl _), _, h, rfl⟩

theorem c_impl_isCongruence (t : List (List Int)) (classes : List Int) (hp : isTab t = true ∧ partB (t.length : Int) classes = true) : AF Try.prog 101 [.lst (rows t), .lst (ints classes)] (fun R_ => R_ = cb (dec (CongP t classes))) :=
  (w_impl_isCongruence t classes (fun y0 => y0 = dec (CongP t classes)) (p_impl_isCongruence t classes hp)).mono (by rintro r ⟨_, rfl, rfl⟩; rfl)

set_option maxRecDepth 100000 in
set_option maxHeartbeats 1000000 in
theorem w_spec_l04Congruence (t : List (List Int)) (classes : List Int) (Q : Bool → Prop) (h : wp_spec_l04Congruence t classes Q) : AF Try.prog 98 [.lst (rows t), .lst (ints classes)] (fun R_ => ∃ y0, Q y0 ∧ R_ = cb y0) := by
  refine AF.ofWQ (af_enter (n := 79) Try.func98 rfl (by rfl) rfl (Nat.le_of_ble_eq_true rfl) ?_)
  unfold wp_spec_l04Congruence at h
  refine aw_seq ?_
  refine aw_gh (gh_to (n := 79) (σ' := []) (env' := [(0, .c (.lst (rows t))), (1, .c (.lst (ints classes)))]) rfl rfl ⟨rfl, rfl, trivial⟩) ?_
  refine aw_region ?_
  refine run_s (ss_assign rfl) rfl ?_
  refine run_nil ?_
  refine aw_seq ?_
  refine aw_region ?_
  refine run_s (ss_move rfl) rfl ?_
  refine run_s (ss_lenL (f := (fun r => C.lst (ints r))) rfl) rfl ?_
  refine run_s (ss_assign rfl) rfl ?_
  refine run_nil ?_
  refine aw_seq ?_
  refine aw_seq ?_
  refine aw_region ?_
  refine run_s (ss_assign rfl) rfl ?_
  refine run_nil ?_
  refine aw_block ?_
  obtain ⟨H1, m1, q1, h⟩ := h
  refine aw_loop1 (fun (v6_1 : Int) => ⟨[], [(0, .c (.lst (rows t))), (1, .c (.lst (ints classes))), (5, .c (ci (t.length : Int))), (6, .c (ci v6_1))], 79⟩) H1 m1 ⟨0, ghe_to (n := 79) rfl rfl ⟨rfl, rfl, rfl, rfl, trivial⟩, q1⟩ ?_
  rintro v6_1 q1
  replace h := h v6_1 q1
  refine aw_seq ?_
  refine aw_seq ?_
  refine aw_region ?_
  refine run_s (ss_move rfl) rfl ?_
  refine run_s (ss_move rfl) rfl ?_
  refine run_s (ss_lss rfl rfl) rfl ?_
  refine run_nil ?_
  refine aw_cond rfl (fun q2 => ?_) (fun q2 => ?_)
  · replace h := h.1 (of_decide_eq_true q2)
    refine aw_skip ?_
    refine aw_seq ?_
    refine aw_block ?_
    refine aw_seq ?_
    refine aw_region ?_
    refine run_s (ss_assign rfl) rfl ?_
    refine run_nil ?_
    refine aw_block ?_
    obtain ⟨H2, m2, q3, h⟩ := h
    refine aw_loop1 (fun (v7_2 : Int) => ⟨[], [(0, .c (.lst (rows t))), (1, .c (.lst (ints classes))), (5, .c (ci (t.length : Int))), (6, .c (ci v6_1)), (7, .c (ci v7_2))], 79⟩) H2 m2 ⟨0, ghe_to (n := 79) rfl rfl ⟨rfl, rfl, rfl, rfl, rfl, trivial⟩, q3⟩ ?_
    rintro v7_2 q3
    replace h := h v7_2 q3
    refine aw_seq ?_
    refine aw_seq ?_
    refine aw_region ?_
    refine run_s (ss_move rfl) rfl ?_
    refine run_s (ss_move rfl) rfl ?_
    refine run_s (ss_lss rfl rfl) rfl ?_
    refine run_nil ?_
    refine aw_cond rfl (fun q4 => ?_) (fun q4 => ?_)
    · replace h := h.1 (of_decide_eq_true q4)
      refine aw_skip ?_
      refine aw_seq ?_
      refine aw_block ?_
      refine aw_seq ?_
      refine aw_seq ?_
      refine aw_gh (gh_to (n := 79) (σ' := []) (env' := [(0, .c (.lst (rows t))), (1, .c (.lst (ints classes))), (5, .c (ci (t.length : Int))), (6, .c (ci v6_1)), (7, .c (ci v7_2))]) rfl rfl ⟨rfl, rfl, rfl, rfl, rfl, trivial⟩) ?_
      refine aw_regionD (kd := kdl [0, 0, 0, 1, 0, 0, 0, 1, 0]) (ord := [0, 1, 2, 4, 5, 6, 3, 7, 8]) [] mixed (by kernel_rfl) ?_
      refine rd_s rfl rfl trivial (ss_move rfl) rfl ?_
      refine rd_s rfl rfl trivial (ss_move rfl) rfl ?_
      obtain ⟨q5, h⟩ := h
      refine rd_s rfl rfl trivial (ss_idxL rfl rfl q5) rfl ?_
      refine rd_s rfl rfl trivial (ss_move rfl) rfl ?_
      refine rd_s rfl rfl trivial (ss_move rfl) rfl ?_
      obtain ⟨q6, h⟩ := h
      refine rd_s rfl rfl trivial (ss_idxL rfl rfl q6) rfl ?_
      refine rd_l rfl rfl trivial (ss_loadL (f := ci) rfl q5) rfl ?_
      refine rd_l rfl rfl trivial (ss_loadL (f := ci) rfl q6) rfl ?_
      refine rd_s rfl rfl trivial (ss_neq rfl rfl) rfl ?_
      refine rd_nil ?_
      refine aw_cond rfl (fun q7 => ?_) (fun q7 => ?_)
      · replace h := h.1 (of_decide_eq_false (bnot_t q7))
        refine aw_exit ?_
        refine aw_region ?_
        refine run_s (ss_move rfl) rfl ?_
        obtain ⟨q8, h⟩ := h
        refine run_s (ss_add rfl rfl q8) rfl ?_
        refine run_s (ss_assign rfl) rfl ?_
        refine run_nil ?_
        exact ⟨v7_2 + 1, ghe_to (n := 79) rfl rfl ⟨rfl, rfl, rfl, rfl, rfl, trivial⟩, h.1, h.2⟩
      · replace h := h.2 (of_decide_eq_true (bnot_f q7))
        refine aw_skip ?_
        refine aw_seq ?_
        refine aw_region ?_
        refine run_s (ss_assign rfl) rfl ?_
        refine run_nil ?_
        refine aw_block ?_
        obtain ⟨H3, m3, q9, h⟩ := h
        refine aw_loop1 (fun (v8_3 : Int) => ⟨[], [(0, .c (.lst (rows t))), (1, .c (.lst (ints classes))), (5, .c (ci (t.length : Int))), (6, .c (ci v6_1)), (7, .c (ci v7_2)), (8, .c (ci v8_3))], 79⟩) H3 m3 ⟨0, ghe_to (n := 79) rfl rfl ⟨rfl, rfl, rfl, rfl, rfl, rfl, trivial⟩, q9⟩ ?_
        rintro v8_3 q9
        replace h := h v8_3 q9
        refine aw_seq ?_
        refine aw_seq ?_
        refine aw_region ?_
        refine run_s (ss_move rfl) rfl ?_
        refine run_s (ss_move rfl) rfl ?_
        refine run_s (ss_lss rfl rfl) rfl ?_
        refine run_nil ?_
        refine aw_cond rfl (fun q10 => ?_) (fun q10 => ?_)
        · replace h := h.1 (of_decide_eq_true q10)
          refine aw_skip ?_
          refine aw_seq ?_
          refine aw_block ?_
          refine aw_seq ?_
          refine aw_gh (gh_to (n := 79) (σ' := []) (env' := [(0, .c (.lst (rows t))), (1, .c (.lst (ints classes))), (5, .c (ci (t.length : Int))), (6, .c (ci v6_1)), (7, .c (ci v7_2)), (8, .c (ci v8_3))]) rfl rfl ⟨rfl, rfl, rfl, rfl, rfl, rfl, trivial⟩) ?_
          refine aw_regionD (kd := kdl [0, 0, 0, 0, 1, 0, 0, 1, 0, 1, 0, 0, 0, 0, 1, 0, 0, 1, 0, 1, 0, 0, 0, 0, 0, 0, 1, 0, 0, 1, 0, 1, 0, 0, 0, 0, 1, 0, 0, 1, 0, 1, 0, 0]) (ord := [0, 1, 2, 3, 5, 10, 11, 12, 13, 15, 4, 6, 7, 8, 9, 14, 16, 17, 18, 19, 20, 21, 22, 23, 24, 25, 27, 32, 33, 34, 35, 37, 26, 28, 29, 30, 31, 36, 38, 39, 40, 41, 42, 43]) [] mixed (by kernel_rfl) ?_
          refine rd_s rfl rfl trivial (ss_move rfl) rfl ?_
          refine rd_s rfl rfl trivial (ss_move rfl) rfl ?_
          refine rd_s rfl rfl trivial (ss_move rfl) rfl ?_
          obtain ⟨q11, h⟩ := h
          refine rd_s rfl rfl trivial (ss_idxL rfl rfl q11) rfl ?_
          refine rd_s rfl rfl trivial (ss_move rfl) rfl ?_
          refine rd_s rfl rfl trivial (ss_move rfl) rfl ?_
          refine rd_s rfl rfl trivial (ss_move rfl) rfl ?_
          refine rd_s rfl rfl trivial (ss_move rfl) rfl ?_
          obtain ⟨q12, h⟩ := h
          refine rd_s rfl rfl trivial (ss_idxL rfl rfl q12) rfl ?_
          refine rd_s rfl rfl trivial (ss_move rfl) rfl ?_
          refine rd_l rfl rfl trivial (ss_loadL (f := (fun r => C.lst (ints r))) rfl q11) rfl ?_
          obtain ⟨q13, h⟩ := h
          refine rd_s rfl rfl trivial (ss_idxL rfl rfl q13) rfl ?_
          refine rd_l rfl rfl trivial (ss_loadL (f := ci) rfl q13) rfl ?_
          obtain ⟨q14, h⟩ := h
          refine rd_s rfl rfl trivial (ss_idxL rfl rfl q14) rfl ?_
          refine rd_l rfl rfl trivial (ss_loadL (f := ci) rfl q14) rfl ?_
          refine rd_l rfl rfl trivial (ss_loadL (f := (fun r => C.lst (ints r))) rfl q12) rfl ?_
          obtain ⟨q15, h⟩ := h
          refine rd_s rfl rfl trivial (ss_idxL rfl rfl q15) rfl ?_
          refine rd_l rfl rfl trivial (ss_loadL (f := ci) rfl q15) rfl ?_
          obtain ⟨q16, h⟩ := h
          refine rd_s rfl rfl trivial (ss_idxL rfl rfl q16) rfl ?_
          refine rd_l rfl rfl trivial (ss_loadL (f := ci) rfl q16) rfl ?_
          refine rd_s rfl rfl trivial (ss_neq rfl rfl) rfl ?_
          refine rd_s rfl rfl trivial (ss_move rfl) rfl ?_
          refine rd_split (s := 56) rfl (fun q17 => ?_) (fun q17 => ?_)
          · replace h := h.1 (of_decide_eq_false (bnot_t q17))
            refine rd_no rfl rfl rfl q17 rfl ?_
            refine rd_no rfl rfl rfl q17 rfl ?_
            refine rd_no rfl rfl rfl q17 rfl ?_
            refine rd_no rfl rfl rfl q17 rfl ?_
            refine rd_no rfl rfl rfl q17 rfl ?_
            refine rd_no rfl rfl rfl q17 rfl ?_
            refine rd_no rfl rfl rfl q17 rfl ?_
            refine rd_no rfl rfl rfl q17 rfl ?_
            refine rd_no rfl rfl rfl q17 rfl ?_
            refine rd_no rfl rfl rfl q17 rfl ?_
            refine rd_no rfl rfl rfl q17 rfl ?_
            refine rd_no rfl rfl rfl q17 rfl ?_
            refine rd_no rfl rfl rfl q17 rfl ?_
            refine rd_no rfl rfl rfl q17 rfl ?_
            refine rd_no rfl rfl rfl q17 rfl ?_
            refine rd_no rfl rfl rfl q17 rfl ?_
            refine rd_no rfl rfl rfl q17 rfl ?_
            refine rd_no rfl rfl rfl q17 rfl ?_
            refine rd_no rfl rfl rfl q17 rfl ?_
            refine rd_no rfl rfl rfl q17 rfl ?_
            refine rd_no rfl rfl rfl q17 rfl ?_
            refine rd_s rfl rfl trivial (ss_pickT rfl q17 rfl) rfl ?_
            refine rd_nil ?_
            refine aw_cond rfl (fun q18 => ?_) (fun q18 => ?_)
            · skip
              refine aw_seq ?_
              refine aw_gh (gh_to (n := 79) (σ' := []) (env' := []) rfl rfl trivial) ?_
              refine aw_region ?_
              refine run_s (ss_assign rfl) rfl ?_
              refine run_nil ?_
              refine aw_ret ?_
              exact retAF_mk (retv1 rfl (rv_tmp rfl)) rfl rfl ⟨_, (cle_refl _), _, h, rfl⟩
            · cases q18
          · replace h := h.2 (of_decide_eq_true (bnot_f q17))
            refine rd_s rfl rfl ⟨_, _, rfl, rfl, q17⟩ (ss_move rfl) rfl ?_
            refine rd_s rfl rfl ⟨_, _, rfl, rfl, q17⟩ (ss_move rfl) rfl ?_
            refine rd_s rfl rfl ⟨_, _, rfl, rfl, q17⟩ (ss_move rfl) rfl ?_
            obtain ⟨q19, h⟩ := h
            refine rd_s rfl rfl ⟨_, _, rfl, rfl, q17⟩ (ss_idxL rfl rfl q19) rfl ?_
            refine rd_s rfl rfl ⟨_, _, rfl, rfl, q17⟩ (ss_move rfl) rfl ?_
            refine rd_s rfl rfl ⟨_, _, rfl, rfl, q17⟩ (ss_move rfl) rfl ?_
            refine rd_s rfl rfl ⟨_, _, rfl, rfl, q17⟩ (ss_move rfl) rfl ?_
            refine rd_s rfl rfl ⟨_, _, rfl, rfl, q17⟩ (ss_move rfl) rfl ?_
            obtain ⟨q20, h⟩ := h
            refine rd_s rfl rfl ⟨_, _, rfl, rfl, q17⟩ (ss_idxL rfl rfl q20) rfl ?_
            refine rd_s rfl rfl ⟨_, _, rfl, rfl, q17⟩ (ss_move rfl) rfl ?_
            refine rd_l rfl rfl ⟨_, _, rfl, rfl, q17⟩ (ss_loadL (f := (fun r => C.lst (ints r))) rfl q19) rfl ?_
            obtain ⟨q21, h⟩ := h
            refine rd_s rfl rfl ⟨_, _, rfl, rfl, q17⟩ (ss_idxL rfl rfl q21) rfl ?_
            refine rd_l rfl rfl ⟨_, _, rfl, rfl, q17⟩ (ss_loadL (f := ci) rfl q21) rfl ?_
            obtain ⟨q22, h⟩ := h
            refine rd_s rfl rfl ⟨_, _, rfl, rfl, q17⟩ (ss_idxL rfl rfl q22) rfl ?_
            refine rd_l rfl rfl ⟨_, _, rfl, rfl, q17⟩ (ss_loadL (f := ci) rfl q22) rfl ?_
            refine rd_l rfl rfl ⟨_, _, rfl, rfl, q17⟩ (ss_loadL (f := (fun r => C.lst (ints r))) rfl q20) rfl ?_
            obtain ⟨q23, h⟩ := h
            refine rd_s rfl rfl ⟨_, _, rfl, rfl, q17⟩ (ss_idxL rfl rfl q23) rfl ?_
            refine rd_l rfl rfl ⟨_, _, rfl, rfl, q17⟩ (ss_loadL (f := ci) rfl q23) rfl ?_
            obtain ⟨q24, h⟩ := h
            refine rd_s rfl rfl ⟨_, _, rfl, rfl, q17⟩ (ss_idxL rfl rfl q24) rfl ?_
            refine rd_l rfl rfl ⟨_, _, rfl, rfl, q17⟩ (ss_loadL (f := ci) rfl q24) rfl ?_
            refine rd_s rfl rfl ⟨_, _, rfl, rfl, q17⟩ (ss_neq rfl rfl) rfl ?_
            refine rd_s rfl rfl trivial (ss_pickF rfl q17 rfl) rfl ?_
            refine rd_nil ?_
            refine aw_cond rfl (fun q25 => ?_) (fun q25 => ?_)
            · replace h := h.1 (of_decide_eq_false (bnot_t q25))
              refine aw_seq ?_
              refine aw_gh (gh_to (n := 79) (σ' := []) (env' := []) rfl rfl trivial) ?_
              refine aw_region ?_
              refine run_s (ss_assign rfl) rfl ?_
              refine run_nil ?_
              refine aw_ret ?_
              exact retAF_mk (retv1 rfl (rv_tmp rfl)) rfl rfl ⟨_, (cle_refl _), _, h, rfl⟩
            · replace h := h.2 (of_decide_eq_true (bnot_f q25))
              refine aw_skip ?_
              refine aw_gh (gh_to (n := 79) (σ' := []) (env' := [(0, .c (.lst (rows t))), (1, .c (.lst (ints classes))), (5, .c (ci (t.length : Int))), (6, .c (ci v6_1)), (7, .c (ci v7_2)), (8, .c (ci v8_3)), (57, .c (.lst (ints classes))), (58, .c (.lst (rows t))), (59, .c (ci v8_3)), (60, .c (.ptr ((rows t).drop v8_3.toNat))), (61, .c (.lst (ints (el t v8_3)))), (62, .c (ci v6_1)), (63, .c (.ptr ((ints (el t v8_3)).drop v6_1.toNat))), (64, .c (ci (el (el t v8_3) v6_1))), (65, .c (.ptr ((ints classes).drop (el (el t v8_3) v6_1).toNat))), (66, .c (ci (el classes (el (el t v8_3) v6_1)))), (67, .c (.lst (ints classes))), (68, .c (.lst (rows t))), (69, .c (ci v8_3)), (70, .c (.ptr ((rows t).drop v8_3.toNat))), (71, .c (.lst (ints (el t v8_3)))), (72, .c (ci v7_2)), (73, .c (.ptr ((ints (el t v8_3)).drop v7_2.toNat))), (74, .c (ci (el (el t v8_3) v7_2))), (75, .c (.ptr ((ints classes).drop (el (el t v8_3) v7_2).toNat))), (76, .c (ci (el classes (el (el t v8_3) v7_2)))), (77, .c (cb (!(decide (el classes (el (el t v8_3) v6_1) = el classes (el (el t v8_3) v7_2))))))]) rfl rfl ⟨rfl, rfl, rfl, rfl, rfl, rfl, rfl, rfl, rfl, rfl, rfl, rfl, rfl, rfl, rfl, rfl, rfl, rfl, rfl, rfl, rfl, rfl, rfl, rfl, rfl, rfl, rfl, trivial⟩) ?_
              refine aw_region ?_
              refine run_s (ss_move rfl) rfl ?_
              obtain ⟨q26, h⟩ := h
              refine run_s (ss_add rfl rfl q26) rfl ?_
              refine run_s (ss_assign rfl) rfl ?_
              refine run_nil ?_
              exact ⟨v8_3 + 1, ghe_to (n := 79) rfl rfl ⟨rfl, rfl, rfl, rfl, rfl, rfl, trivial⟩, h.1, h.2⟩
        · replace h := h.2 (of_decide_eq_false q10)
          refine aw_exit ?_
          refine aw_region ?_
          refine run_s (ss_move rfl) rfl ?_
          obtain ⟨q27, h⟩ := h
          refine run_s (ss_add rfl rfl q27) rfl ?_
          refine run_s (ss_assign rfl) rfl ?_
          refine run_nil ?_
          exact ⟨v7_2 + 1, ghe_to (n := 79) rfl rfl ⟨rfl, rfl, rfl, rfl, rfl, trivial⟩, h.1, h.2⟩
    · replace h := h.2 (of_decide_eq_false q4)
      refine aw_exit ?_
      refine aw_region ?_
      refine run_s (ss_move rfl) rfl ?_
      obtain ⟨q28, h⟩ := h
      refine run_s (ss_add rfl rfl q28) rfl ?_
      refine run_s (ss_assign rfl) rfl ?_
      refine run_nil ?_
      exact ⟨v6_1 + 1, ghe_to (n := 79) rfl rfl ⟨rfl, rfl, rfl, rfl, trivial⟩, h.1, h.2⟩
  · replace h := h.2 (of_decide_eq_false q2)
    refine aw_exit ?_
    refine aw_seq ?_
    refine aw_gh (gh_to (n := 79) (σ' := []) (env' := []) rfl rfl trivial) ?_
    refine aw_region ?_
    refine run_s (ss_assign rfl) rfl ?_
    refine run_nil ?_
    refine aw_ret ?_
    exact retAF_mk (retv1 rfl (rv_tmp rfl)) rfl rfl ⟨_, (cle_refl _), _, h, rfl⟩

theorem c_spec_l04Congruence (t : List (List Int)) (classes : List Int) (hp : isTab t = true ∧ (classes.length : Int) = (t.length : Int)) : AF Try.prog 98 [.lst (rows t), .lst (ints classes)] (fun R_ => R_ = cb (dec (CongP t classes))) :=
  (w_spec_l04Congruence t classes (fun y0 => y0 = dec (CongP t classes)) (p_spec_l04Congruence t classes hp)).mono (by rintro r ⟨_, rfl, rfl⟩; rfl)

set_option maxRecDepth 100000 in
set_option maxHeartbeats 1000000 in
theorem w_spec_l04Code (r : List (List Int)) (classes : List Int) (Q : Int → Prop) (h : wp_spec_l04Code r classes Q) : AF Try.prog 97 [.agg [.lst (rows r)], .lst (ints classes)] (fun R_ => ∃ y0, Q y0 ∧ R_ = ci y0) := by
  refine AF.ofWQ (af_enter (n := 16) Try.func97 rfl (by rfl) rfl (Nat.le_of_ble_eq_true rfl) ?_)
  unfold wp_spec_l04Code at h
  refine aw_seq ?_
  refine aw_gh (gh_to (n := 16) (σ' := []) (env' := [(0, .c (.agg [.lst (rows r)])), (1, .c (.lst (ints classes)))]) rfl rfl ⟨rfl, rfl, trivial⟩) ?_
  refine aw_region ?_
  refine run_w (ws_boxR rfl (.inl rfl) rfl ⟨rfl, ?_⟩)
  refine run_s (ss_assign rfl) rfl ?_
  refine run_nil ?_
  refine aw_seq ?_
  refine aw_seq ?_
  refine aw_region ?_
  refine run_s (ss_load_struct rfl (Nat.le_of_ble_eq_true rfl)) rfl ?_
  obtain ⟨q1, h⟩ := h
  refine run_w (ws_call (xs := [.tmp 5]) (ids := []) rfl rfl rfl rfl (c_spec_l03Is r q1) rfl ?_ )
  rintro _ rfl
  refine ⟨rfl, ?_⟩
  refine run_s (ss_not rfl) rfl ?_
  refine run_s (ss_move rfl) rfl ?_
  refine run_split (s := 8) rfl (fun q3 => ?_) (fun q3 => ?_)
  · replace h := h.1 ((bnot_t q3))
    refine run_gf rfl rfl q3 rfl ?_
    refine run_gf rfl rfl q3 rfl ?_
    refine run_gf rfl rfl q3 rfl ?_
    refine run_gf rfl rfl q3 rfl ?_
    refine run_gf rfl rfl q3 rfl ?_
    refine run_gf rfl rfl q3 rfl ?_
    refine run_s (ss_pickT rfl q3 rfl) rfl ?_
    refine run_nil ?_
    refine aw_cond rfl (fun q4 => ?_) (fun q4 => ?_)
    · skip
      refine aw_seq ?_
      refine aw_gh (gh_to (n := 16) (σ' := []) (env' := [(4, .c (ci 0))]) rfl rfl ⟨rfl, trivial⟩) ?_
      refine aw_region ?_
      refine run_s (ss_assign rfl) rfl ?_
      refine run_nil ?_
      refine aw_ret ?_
      exact retAF_mk (retv1 rfl (rv_tmp rfl)) rfl rfl ⟨_, (cle_refl _), _, h, rfl⟩
    · cases q4
  · replace h := h.2 ((bnot_f q3))
    refine run_gt rfl rfl q3 ?_
    refine run_s (ss_field_ptr rfl) rfl ?_
    refine run_gt rfl rfl q3 ?_
    refine run_s (ss_load_ptr rfl rfl) rfl ?_
    refine run_gt rfl rfl q3 ?_
    refine run_s (ss_lenL (f := (fun r => C.lst (ints r))) rfl) rfl ?_
    refine run_gt rfl rfl q3 ?_
    refine run_s (ss_move rfl) rfl ?_
    refine run_gt rfl rfl q3 ?_
    obtain ⟨q5, h⟩ := h
    refine run_w (ws_call (xs := [.tmp 11, .tmp 12]) (ids := []) rfl rfl rfl rfl (c_spec_l04Partition (r.length : Int) classes q5) rfl ?_ )
    rintro _ rfl
    refine ⟨rfl, ?_⟩
    refine run_gt rfl rfl q3 ?_
    refine run_s (ss_not rfl) rfl ?_
    refine run_s (ss_pickF rfl q3 rfl) rfl ?_
    refine run_nil ?_
    refine aw_cond rfl (fun q7 => ?_) (fun q7 => ?_)
    · replace h := h.1 ((bnot_t q7))
      refine aw_seq ?_
      refine aw_gh (gh_to (n := 16) (σ' := []) (env' := [(4, .c (ci 0))]) rfl rfl ⟨rfl, trivial⟩) ?_
      refine aw_region ?_
      refine run_s (ss_assign rfl) rfl ?_
      refine run_nil ?_
      refine aw_ret ?_
      exact retAF_mk (retv1 rfl (rv_tmp rfl)) rfl rfl ⟨_, (cle_refl _), _, h, rfl⟩
    · replace h := h.2 ((bnot_f q7))
      refine aw_skip ?_
      refine aw_seq ?_
      refine aw_gh (gh_to (n := 16) (σ' := []) (env' := [(4, .c (ci 0))]) rfl rfl ⟨rfl, trivial⟩) ?_
      refine aw_region ?_
      refine run_s (ss_assign rfl) rfl ?_
      refine run_nil ?_
      refine aw_ret ?_
      exact retAF_mk (retv1 rfl (rv_tmp rfl)) rfl rfl ⟨_, (cle_refl _), _, h, rfl⟩

theorem c_spec_l04Code (r : List (List Int)) (classes : List Int) (hp : small2 r ∧ small classes) : AF Try.prog 97 [.agg [.lst (rows r)], .lst (ints classes)] (fun R_ => R_ = ci (IcoE r classes)) :=
  (w_spec_l04Code r classes (fun y0 => y0 = IcoE r classes) (p_spec_l04Code r classes hp)).mono (by rintro r ⟨_, rfl, rfl⟩; rfl)

end Go.Proofs.Ytllimiejaijbkaa

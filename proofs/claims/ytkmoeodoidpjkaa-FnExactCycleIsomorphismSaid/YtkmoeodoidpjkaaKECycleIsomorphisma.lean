/- Contracts of functions that the law FnExactCycleIsomorphism reaches: conditions, plain proofs, walks; no condition. -/
import Derived.Test.YtkmoeodoidpjkaaTy
import Derived.Test.YtkmoeodoidpjkaaPP
namespace Go.Proofs.Ytkmoeodoidpjkaa

def wp_impl_within (n : Int) (low : Int) (high : Int) (Q : Bool → Prop) : Prop :=
 ((low ≤ n →
 Q (decide (n ≤ high))) ∧
 (¬ (low ≤ n) →
 Q false))

def wp_spec_l01In (n : Int) (low : Int) (high : Int) (Q : Bool → Prop) : Prop :=
 ((low ≤ n →
 Q (decide (n ≤ high))) ∧
 (¬ (low ≤ n) →
 Q false))

def wp_impl_allWithin (l : List Int) (low : Int) (high : Int) (Q : Bool → Prop) : Prop :=
 ∃ (H1 : Int → Prop) (m1 : Int → Nat),
 H1 0 ∧
 ∀ (v11_1 : Int), H1 v11_1 →
 ( ((v11_1 < (l.length : Int) →
 (0 ≤ v11_1 ∧ v11_1 < (l.length : Int)) ∧
 (((decide (low ≤ (el l v11_1)) && decide ((el l v11_1) ≤ high)) = false →
 Q false) ∧
 ((decide (low ≤ (el l v11_1)) && decide ((el l v11_1) ≤ high)) = true →
 (InI (v11_1 + 1)) ∧
 (H1 (v11_1 + 1) ∧ m1 (v11_1 + 1) < m1 v11_1)))) ∧
 (¬ (v11_1 < (l.length : Int)) →
 Q true)))

def wp_impl_isPermuted (p : List Int) (Q : Bool → Prop) : Prop :=
 (0 ≤ (p.length : Int) ∧ (p.length : Int) ≤ 1000000000) ∧
 ∃ (H1 : Int → List Bool → Prop) (m1 : Int → List Bool → Nat),
 H1 0 (List.replicate (p.length : Int).toNat false) ∧
 ∀ (v11_1 : Int) (o8_1 : List Bool), H1 v11_1 o8_1 →
 ( ((v11_1 < (p.length : Int) →
 (0 ≤ v11_1 ∧ v11_1 < (p.length : Int)) ∧
 (InI ((p.length : Int) - 1)) ∧
 (((decide ((0 : Int) ≤ (el p v11_1)) && decide ((el p v11_1) ≤ ((p.length : Int) - 1))) = false →
 Q false) ∧
 ((decide ((0 : Int) ≤ (el p v11_1)) && decide ((el p v11_1) ≤ ((p.length : Int) - 1))) = true →
 (0 ≤ el p v11_1 ∧ el p v11_1 < (o8_1.length : Int)) ∧
 (((el o8_1 (el p v11_1)) = true →
 Q false) ∧
 ((el o8_1 (el p v11_1)) = false →
 (0 ≤ el p v11_1 ∧ el p v11_1 < (o8_1.length : Int)) ∧
 (InI (v11_1 + 1)) ∧
 (H1 (v11_1 + 1) (se o8_1 (el p v11_1) true) ∧ m1 (v11_1 + 1) (se o8_1 (el p v11_1) true) < m1 v11_1 o8_1)))))) ∧
 (¬ (v11_1 < (p.length : Int)) →
 Q true)))

def wp_laws_toInt64S (a : List Int) (Q : List Int → Prop) : Prop :=
 (0 ≤ (a.length : Int) ∧ (a.length : Int) ≤ 1000000000) ∧
 ∃ (H1 : Int → List Int → Prop) (m1 : Int → List Int → Nat),
 H1 0 (List.replicate (a.length : Int).toNat (0 : Int)) ∧
 ∀ (v4_1 : Int) (o7_1 : List Int), H1 v4_1 o7_1 →
 ( ((v4_1 < (a.length : Int) →
 (0 ≤ v4_1 ∧ v4_1 < (a.length : Int)) ∧
 (0 ≤ v4_1 ∧ v4_1 < (o7_1.length : Int)) ∧
 (InI (v4_1 + 1)) ∧
 (H1 (v4_1 + 1) (se o7_1 v4_1 (el a v4_1)) ∧ m1 (v4_1 + 1) (se o7_1 v4_1 (el a v4_1)) < m1 v4_1 o7_1)) ∧
 (¬ (v4_1 < (a.length : Int)) →
 Q o7_1)))

def wp_laws_toInt64SS (a : List (List Int)) (Q : List (List Int) → Prop) : Prop :=
 (0 ≤ (a.length : Int) ∧ (a.length : Int) ≤ 1000000000) ∧
 ∃ (H1 : Int → List (List Int) → Prop) (m1 : Int → List (List Int) → Nat),
 H1 0 (List.replicate (a.length : Int).toNat ([] : List Int)) ∧
 ∀ (v4_1 : Int) (o7_1 : List (List Int)), H1 v4_1 o7_1 →
 ( ((v4_1 < (a.length : Int) →
 (0 ≤ v4_1 ∧ v4_1 < (a.length : Int)) ∧
 (small (el a v4_1)) ∧
 (0 ≤ v4_1 ∧ v4_1 < (o7_1.length : Int)) ∧
 (InI (v4_1 + 1)) ∧
 (H1 (v4_1 + 1) (se o7_1 v4_1 (el a v4_1)) ∧ m1 (v4_1 + 1) (se o7_1 v4_1 (el a v4_1)) < m1 v4_1 o7_1)) ∧
 (¬ (v4_1 < (a.length : Int)) →
 Q o7_1)))

def wp_laws_szInt64S (a : List Int) (left : Int) (Q : Int → Prop) : Prop :=
 (InI (left - (a.length : Int))) ∧
 ((left - (a.length : Int) < 0 →
 Q (-1)) ∧
 (¬ (left - (a.length : Int) < 0) →
 Q (left - (a.length : Int))))

def wp_laws_szInt64SS (a : List (List Int)) (left : Int) (Q : Int → Prop) : Prop :=
 (InI (left - (a.length : Int))) ∧
 ((left - (a.length : Int) < 0 →
 Q (-1)) ∧
 (¬ (left - (a.length : Int) < 0) →
 ∃ (H1 : Int → Int → Prop) (m1 : Int → Int → Nat),
 H1 (left - (a.length : Int)) 0 ∧
 ∀ (v1_1 : Int) (v5_1 : Int), H1 v1_1 v5_1 →
 ( ((v5_1 < (a.length : Int) →
 (0 ≤ v5_1 ∧ v5_1 < (a.length : Int)) ∧
 (InS v1_1 ∧ (el a v5_1).length ≤ 9223372036854775807) ∧
 ((szI (el a v5_1) v1_1 < 0 →
 Q (-1)) ∧
 (¬ (szI (el a v5_1) v1_1 < 0) →
 (InI (v5_1 + 1)) ∧
 (H1 (szI (el a v5_1) v1_1) (v5_1 + 1) ∧ m1 (szI (el a v5_1) v1_1) (v5_1 + 1) < m1 v1_1 v5_1)))) ∧
 (¬ (v5_1 < (a.length : Int)) →
 Q v1_1)))))

def wp_laws_eqInt64S (a : List Int) (b : List Int) (Q : Bool → Prop) : Prop :=
 ((¬ ((a.length : Int) = (b.length : Int)) →
 Q false) ∧
 ((a.length : Int) = (b.length : Int) →
 ∃ (H1 : Int → Prop) (m1 : Int → Nat),
 H1 0 ∧
 ∀ (v5_1 : Int), H1 v5_1 →
 ( ((v5_1 < (a.length : Int) →
 (0 ≤ v5_1 ∧ v5_1 < (a.length : Int)) ∧
 (0 ≤ v5_1 ∧ v5_1 < (b.length : Int)) ∧
 ((¬ (el a v5_1 = el b v5_1) →
 Q false) ∧
 (el a v5_1 = el b v5_1 →
 (InI (v5_1 + 1)) ∧
 (H1 (v5_1 + 1) ∧ m1 (v5_1 + 1) < m1 v5_1)))) ∧
 (¬ (v5_1 < (a.length : Int)) →
 Q true)))))

def wp_laws_eqInt64SS (a : List (List Int)) (b : List (List Int)) (Q : Bool → Prop) : Prop :=
 ((¬ ((a.length : Int) = (b.length : Int)) →
 Q false) ∧
 ((a.length : Int) = (b.length : Int) →
 ∃ (H1 : Int → Prop) (m1 : Int → Nat),
 H1 0 ∧
 ∀ (v5_1 : Int), H1 v5_1 →
 ( ((v5_1 < (a.length : Int) →
 (0 ≤ v5_1 ∧ v5_1 < (a.length : Int)) ∧
 (0 ≤ v5_1 ∧ v5_1 < (b.length : Int)) ∧
 (small (el a v5_1) ∧ small (el b v5_1)) ∧
 ((¬ ((el a v5_1) = (el b v5_1)) →
 Q false) ∧
 ((el a v5_1) = (el b v5_1) →
 (InI (v5_1 + 1)) ∧
 (H1 (v5_1 + 1) ∧ m1 (v5_1 + 1) < m1 v5_1)))) ∧
 (¬ (v5_1 < (a.length : Int)) →
 Q true)))))

def wp_laws_markInt64S (a : List Int) (k : Int) (Q : Int → List Int → Prop) : Prop :=
 ∃ (H1 : Int → Int → List Int → Prop) (m1 : Int → Int → List Int → Nat),
 H1 k 0 a ∧
 ∀ (v1_1 : Int) (v5_1 : Int) (o800_1 : List Int), H1 v1_1 v5_1 o800_1 →
 ( ((v5_1 < (o800_1.length : Int) →
 (0 ≤ v5_1 ∧ v5_1 < (o800_1.length : Int)) ∧
 (InI (v1_1 + 1)) ∧
 (InI (v5_1 + 1)) ∧
 (H1 (v1_1 + 1) (v5_1 + 1) (se o800_1 v5_1 v1_1) ∧ m1 (v1_1 + 1) (v5_1 + 1) (se o800_1 v5_1 v1_1) < m1 v1_1 v5_1 o800_1)) ∧
 (¬ (v5_1 < (o800_1.length : Int)) →
 Q v1_1 o800_1)))

def wp_laws_markInt64SS (a : List (List Int)) (k : Int) (Q : Int → List (List Int) → Prop) : Prop :=
 ∃ (H1 : Int → Int → List (List Int) → Prop) (m1 : Int → Int → List (List Int) → Nat),
 H1 k 0 a ∧
 ∀ (v1_1 : Int) (v5_1 : Int) (o800_1 : List (List Int)), H1 v1_1 v5_1 o800_1 →
 ( ((v5_1 < (o800_1.length : Int) →
 (0 ≤ v5_1 ∧ v5_1 < (o800_1.length : Int)) ∧
 (small (el o800_1 v5_1) ∧ okK v1_1) ∧
 (InI (v5_1 + 1)) ∧
 (H1 (v1_1 + ((el o800_1 v5_1).length : Int)) (v5_1 + 1) (se o800_1 v5_1 (mkI v1_1 (el o800_1 v5_1))) ∧ m1 (v1_1 + ((el o800_1 v5_1).length : Int)) (v5_1 + 1) (se o800_1 v5_1 (mkI v1_1 (el o800_1 v5_1))) < m1 v1_1 v5_1 o800_1)) ∧
 (¬ (v5_1 < (o800_1.length : Int)) →
 Q v1_1 o800_1)))

def wp_laws_heldInt64S (a : List Int) (k : Int) (Q : Int → Prop) : Prop :=
 ∃ (H1 : Int → Int → Prop) (m1 : Int → Int → Nat),
 H1 k 0 ∧
 ∀ (v1_1 : Int) (v5_1 : Int), H1 v1_1 v5_1 →
 ( ((v5_1 < (a.length : Int) →
 (0 ≤ v5_1 ∧ v5_1 < (a.length : Int)) ∧
 ((¬ (el a v5_1 = v1_1) →
 Q (-1)) ∧
 (el a v5_1 = v1_1 →
 (InI (v1_1 + 1)) ∧
 (InI (v5_1 + 1)) ∧
 (H1 (v1_1 + 1) (v5_1 + 1) ∧ m1 (v1_1 + 1) (v5_1 + 1) < m1 v1_1 v5_1)))) ∧
 (¬ (v5_1 < (a.length : Int)) →
 Q v1_1)))

def wp_laws_toCycleSet (a : List (List Int)) (Q : List (List Int) → Prop) : Prop :=
 (small2 a) ∧
 Q a

def wp_laws_szCycleSet (a : List (List Int)) (left : Int) (Q : Int → Prop) : Prop :=
 (InS left ∧ huge2 a) ∧
 ((szII a left < 0 →
 Q (-1)) ∧
 (¬ (szII a left < 0) →
 Q (szII a left)))

def wp_laws_eqCycleSet (a : List (List Int)) (b : List (List Int)) (Q : Bool → Prop) : Prop :=
 (small2 a ∧ small2 b) ∧
 ((¬ (a = b) →
 Q false) ∧
 (a = b →
 Q true))

def wp_laws_markCycleSet (a : List (List Int)) (k : Int) (Q : Int → List (List Int) → Prop) : Prop :=
 (small2 a ∧ okKT k a) ∧
 Q (k + tot a) (mkII k a)

def wp_k_IndexFunc_rows (t : List (List Int)) (f : List Int → Bool) (f_D : List Int → Prop) (Q : Int → Prop) : Prop :=
 ∃ (H1 : Int → Prop) (m1 : Int → Nat),
 H1 0 ∧
 ∀ (v8_1 : Int), H1 v8_1 →
 ( ((v8_1 < (t.length : Int) →
 (0 ≤ v8_1 ∧ v8_1 < (t.length : Int)) ∧
 (f_D (el t v8_1)) ∧
 (((f (el t v8_1)) = true →
 Q v8_1) ∧
 ((f (el t v8_1)) = false →
 (InI (v8_1 + 1)) ∧
 (H1 (v8_1 + 1) ∧ m1 (v8_1 + 1) < m1 v8_1)))) ∧
 (¬ (v8_1 < (t.length : Int)) →
 Q (-1))))

def wp_k_ContainsFunc_rows (t : List (List Int)) (f : List Int → Bool) (f_D : List Int → Prop) (Q : Bool → Prop) : Prop :=
 (small t ∧ ∀ r_ ∈ t, f_D r_) ∧
 Q (decide (0 ≤ idxF t f))

def wp_impl_IsTable_1 (row : List Int) (n : Int) (Q : Bool → Prop) : Prop :=
 ((¬ ((row.length : Int) = n) →
 Q true) ∧
 ((row.length : Int) = n →
 (InI (n - 1)) ∧
 (small row) ∧
 Q (!((row.all (fun z_ => decide ((0 : Int) ≤ z_) && decide (z_ ≤ (n - 1))))))))

def wp_impl_IsTable (t : List (List Int)) (Q : Bool → Prop) : Prop :=
 (((decide ((1 : Int) ≤ (t.length : Int)) && decide ((t.length : Int) ≤ (12 : Int))) = true →
 (small t ∧ ∀ r_ ∈ t, (fun z0 => small z0 ∧ 0 ≤ (t.length : Int) ∧ (t.length : Int) ≤ 12) r_) ∧
 Q (!((t.any (fun z0 => badRow (t.length : Int) z0))))) ∧
 ((decide ((1 : Int) ≤ (t.length : Int)) && decide ((t.length : Int) ≤ (12 : Int))) = false →
 Q false))

def wp_impl_squaresOf (c : List (List Int)) (Q : List Int → Prop) : Prop :=
 (0 ≤ (c.length : Int) ∧ (c.length : Int) ≤ 1000000000) ∧
 ∃ (H1 : Int → List Int → Prop) (m1 : Int → List Int → Nat),
 H1 0 (List.replicate (c.length : Int).toNat (0 : Int)) ∧
 ∀ (v11_1 : Int) (o8_1 : List Int), H1 v11_1 o8_1 →
 ( ((v11_1 < ((List.replicate (c.length : Int).toNat (0 : Int)).length : Int) →
 (0 ≤ v11_1 ∧ v11_1 < (c.length : Int)) ∧
 (0 ≤ v11_1 ∧ v11_1 < ((el c v11_1).length : Int)) ∧
 (0 ≤ v11_1 ∧ v11_1 < (o8_1.length : Int)) ∧
 (InI (v11_1 + 1)) ∧
 (H1 (v11_1 + 1) (se o8_1 v11_1 (el (el c v11_1) v11_1)) ∧ m1 (v11_1 + 1) (se o8_1 v11_1 (el (el c v11_1) v11_1)) < m1 v11_1 o8_1)) ∧
 (¬ (v11_1 < ((List.replicate (c.length : Int).toNat (0 : Int)).length : Int)) →
 Q o8_1)))

theorem p_impl_within (n low high : Int) : wp_impl_within n low high (fun y0 => y0 = (decide (low ≤ n) && decide (n ≤ high))) := by
  unfold wp_impl_within
  exact ⟨fun h => by simp [h], fun h => by simp [h]⟩
theorem p_spec_l01In (n low high : Int) : wp_spec_l01In n low high (fun y0 => y0 = (decide (low ≤ n) && decide (n ≤ high))) := p_impl_within n low high

theorem p_impl_allWithin (l : List Int) (low high : Int) (hp : small l) : wp_impl_allWithin l low high (fun y0 => y0 = l.all (fun z_ => decide (low ≤ z_) && decide (z_ ≤ high))) := by
  unfold wp_impl_allWithin
  refine ⟨fun i => 0 ≤ i ∧ i ≤ (l.length : Int) ∧ Upto i fun j => (decide (low ≤ el l j) && decide (el l j ≤ high)) = true, fun i => ((l.length : Int) - i).toNat, ⟨by omega, by omega, upto0⟩, ?_⟩
  rintro i ⟨h0, h1, hI⟩
  dsimp only
  refine ⟨fun hlt => ⟨⟨h0, hlt⟩, fun hf => (all_f ⟨h0, hlt⟩ hf).symm, fun ht => ⟨⟨by omega, by omega⟩, ⟨by omega, by omega, upto1 hI ht⟩, by omega⟩⟩, fun hge => ?_⟩
  exact (all_t (by rwa [show i = (l.length : Int) by omega] at hI)).symm

theorem p_impl_isPermuted (p : List Int) (hp : small p) : wp_impl_isPermuted p (fun y0 => y0 = isPerm p) := by
  unfold wp_impl_isPermuted
  refine ⟨⟨by omega, hp⟩, fun i o => 0 ≤ i ∧ i ≤ (p.length : Int) ∧ o.length = p.length ∧ (Upto i fun j => (0 ≤ el p j ∧ el p j < (p.length : Int)) ∧ Upto j fun k => el p k ≠ el p j) ∧ (∀ x, 0 ≤ x → x < (p.length : Int) → (el o x = true ↔ ∃ j, (0 ≤ j ∧ j < i) ∧ el p j = x)), fun i _ => ((p.length : Int) - i).toNat,
    ⟨by omega, by omega, by simp, upto0, fun x h0 h1 => ?_⟩, ?_⟩
  · rw [el_rep ⟨h0, by omega⟩]; simp; intro j h2 h3; omega
  rintro i o ⟨h0, h1, hl, hI, hS⟩
  dsimp only
  refine ⟨fun hlt => ⟨⟨h0, hlt⟩, ⟨by omega, by omega⟩, fun hf => ?_, fun ht => ?_⟩, fun hge => ?_⟩
  · refine (decide_eq_false ?_).symm
    rintro ⟨_, h3⟩
    have := h3 _ (el_mem ⟨h0, hlt⟩)
    simp only [Bool.and_eq_false_iff, decide_eq_false_iff_not] at hf
    omega
  · simp only [Bool.and_eq_true, decide_eq_true_eq] at ht
    refine ⟨⟨by omega, by omega⟩, fun hs => ?_, fun hs => ⟨⟨by omega, by omega⟩, ⟨by omega, by omega⟩, ⟨by omega, by omega, by simp [hl], upto1 hI ⟨⟨ht.1, by omega⟩, fun k h2 h3 he => ?_⟩, fun x h2 h3 => ?_⟩, by omega⟩⟩
    · refine (decide_eq_false ?_).symm
      rintro ⟨h3, _⟩
      obtain ⟨j, hj, he⟩ := (hS _ ht.1 (by omega)).1 hs
      exact nodup_el.1 h3 j i hj.1 hj.2 hlt he
    · rw [(hS _ ht.1 (by omega)).2 ⟨k, ⟨h2, h3⟩, he⟩] at hs; cases hs
    · by_cases e : x = el p i
      · subst e
        rw [el_se_same ⟨h2, by omega⟩]
        exact ⟨fun _ => ⟨i, ⟨h0, by omega⟩, rfl⟩, fun _ => rfl⟩
      · rw [el_se_ne ht.1 h2 (Ne.symm e), hS x h2 h3]
        exact ⟨fun ⟨j, hj, he⟩ => ⟨j, ⟨hj.1, by omega⟩, he⟩, fun ⟨j, hj, he⟩ => ⟨j, ⟨hj.1, by
          by_cases e2 : j = i
          · subst e2; exact absurd he.symm e
          · omega⟩, he⟩⟩
  · refine (decide_eq_true ⟨nodup_el.2 fun a b h2 h3 h4 => (hI b (by omega) (by omega)).2 a h2 h3, fun x hx => ?_⟩).symm
    obtain ⟨j, hj, rfl⟩ := mem_el hx
    exact (hI j hj.1 (by omega)).1

theorem p_laws_toInt64S (a : List Int) (hp : small a) : wp_laws_toInt64S a (fun y0 => y0 = a) := by
  unfold wp_laws_toInt64S
  refine ⟨⟨by omega, hp⟩, fun i o => 0 ≤ i ∧ i ≤ (a.length : Int) ∧ o.length = a.length ∧ Upto i fun j => el o j = el a j, fun i _ => ((a.length : Int) - i).toNat, ⟨by omega, by omega, by simp, upto0⟩, ?_⟩
  rintro i o ⟨h0, h1, hl, hI⟩
  dsimp only
  refine ⟨fun hlt => ⟨⟨h0, hlt⟩, ⟨h0, by omega⟩, ⟨by omega, by omega⟩, ⟨by omega, by omega, by simp [hl], fill1 ⟨h0, by omega⟩ hI rfl⟩, by omega⟩, fun hge => ?_⟩
  exact ext_el hl fun j h2 h3 => hI j h2 (by omega)
theorem p_laws_toInt64SS (a : List (List Int)) (hp : small2 a) : wp_laws_toInt64SS a (fun y0 => y0 = a) := by
  unfold wp_laws_toInt64SS
  have hp1 := hp.1
  refine ⟨⟨by omega, hp.1⟩, fun i o => 0 ≤ i ∧ i ≤ (a.length : Int) ∧ o.length = a.length ∧ Upto i fun j => el o j = el a j, fun i _ => ((a.length : Int) - i).toNat, ⟨by omega, by omega, by simp, upto0⟩, ?_⟩
  rintro i o ⟨h0, h1, hl, hI⟩
  dsimp only
  refine ⟨fun hlt => ⟨⟨h0, hlt⟩, hp.2 _ (el_mem ⟨h0, hlt⟩), ⟨h0, by omega⟩, ⟨by omega, by omega⟩, ⟨by omega, by omega, by simp [hl], fill1 ⟨h0, by omega⟩ hI rfl⟩, by omega⟩, fun hge => ?_⟩
  exact ext_el hl fun j h2 h3 => hI j h2 (by omega)

theorem p_laws_szInt64S (a : List Int) (left : Int) (hp : InS left ∧ a.length ≤ 9223372036854775807) : wp_laws_szInt64S a left (fun y0 => y0 = szI a left) := by
  unfold wp_laws_szInt64S szI
  exact ⟨⟨by omega, by omega⟩, fun h => by rw [if_pos (by omega)], fun h => by rw [if_neg (by omega)]⟩
theorem p_laws_szInt64SS (a : List (List Int)) (left : Int) (hp : InS left ∧ huge2 a) : wp_laws_szInt64SS a left (fun y0 => y0 = szII a left) := by
  unfold wp_laws_szInt64SS szII
  obtain ⟨⟨l0, l1⟩, l2, l3⟩ := hp
  have tn := tot_nonneg a
  refine ⟨⟨by omega, by omega⟩, fun h => by rw [if_pos (by omega)], fun h => ?_⟩
  refine ⟨fun v i => 0 ≤ i ∧ i ≤ (a.length : Int) ∧ v = left - (a.length : Int) - tt a i ∧ 0 ≤ v, fun _ i => ((a.length : Int) - i).toNat, ⟨by omega, by omega, by rw [tt0]; omega, by omega⟩, ?_⟩
  rintro v i ⟨h0, h1, hv, hn⟩
  dsimp only
  have t1 := tt_le a i
  refine ⟨fun hlt => ?_, fun hge => ?_⟩
  · have t2 := tt1 ⟨h0, hlt⟩
    have t3 := tt_row ⟨h0, hlt⟩
    have hr := l3 _ (el_mem ⟨h0, hlt⟩)
    unfold szI
    refine ⟨⟨h0, hlt⟩, ⟨⟨by omega, by omega⟩, hr⟩, fun hs => ?_, fun hs => ?_⟩
    · split at hs
      · rw [if_pos (by omega)]
      · omega
    · split at hs
      · omega
      · rename_i hs2
        rw [if_neg hs2]
        exact ⟨⟨by omega, by omega⟩, ⟨by omega, by omega, by omega, by omega⟩, by omega⟩
  · have := tt_full (t := a) (i := i) (by omega)
    rw [if_neg (by omega)]; omega

theorem p_laws_eqInt64S (a b : List Int) (hp : small a ∧ small b) : wp_laws_eqInt64S a b (fun y0 => y0 = decide (a = b)) := by
  unfold wp_laws_eqInt64S
  obtain ⟨ha, hb⟩ := hp
  refine ⟨fun h => (decide_eq_false fun e => h (by rw [e])).symm, fun h => ⟨fun i => 0 ≤ i ∧ i ≤ (a.length : Int) ∧ Upto i fun j => el a j = el b j, fun i => ((a.length : Int) - i).toNat, ⟨by omega, by omega, upto0⟩, ?_⟩⟩
  rintro i ⟨h0, h1, hI⟩
  dsimp only
  refine ⟨fun hlt => ⟨⟨h0, hlt⟩, ⟨h0, by omega⟩, fun hf => (decide_eq_false fun e => hf (by rw [e])).symm, fun ht => ⟨⟨by omega, by omega⟩, ⟨by omega, by omega, upto1 hI ht⟩, by omega⟩⟩, fun hge => ?_⟩
  exact (decide_eq_true (ext_el (by omega) fun j h2 h3 => hI j h2 (by omega))).symm
theorem p_laws_eqInt64SS (a b : List (List Int)) (hp : small2 a ∧ small2 b) : wp_laws_eqInt64SS a b (fun y0 => y0 = decide (a = b)) := by
  unfold wp_laws_eqInt64SS
  obtain ⟨⟨ha, ha2⟩, hb, hb2⟩ := hp
  refine ⟨fun h => (decide_eq_false fun e => h (by rw [e])).symm, fun h => ⟨fun i => 0 ≤ i ∧ i ≤ (a.length : Int) ∧ Upto i fun j => el a j = el b j, fun i => ((a.length : Int) - i).toNat, ⟨by omega, by omega, upto0⟩, ?_⟩⟩
  rintro i ⟨h0, h1, hI⟩
  dsimp only
  refine ⟨fun hlt => ⟨⟨h0, hlt⟩, ⟨h0, by omega⟩, ⟨ha2 _ (el_mem ⟨h0, hlt⟩), hb2 _ (el_mem ⟨h0, by omega⟩)⟩, fun hf => (decide_eq_false fun e => hf (by rw [e])).symm, fun ht => ⟨⟨by omega, by omega⟩, ⟨by omega, by omega, upto1 hI ht⟩, by omega⟩⟩, fun hge => ?_⟩
  exact (decide_eq_true (ext_el (by omega) fun j h2 h3 => hI j h2 (by omega))).symm

theorem p_laws_markInt64S (a : List Int) (k : Int) (hp : small a ∧ okK k) : wp_laws_markInt64S a k (fun y0 w0 => y0 = k + (a.length : Int) ∧ w0 = mkI k a) := by
  unfold wp_laws_markInt64S
  obtain ⟨ha, hk⟩ := hp
  refine ⟨fun v i o => 0 ≤ i ∧ i ≤ (a.length : Int) ∧ o.length = a.length ∧ v = k + i ∧ Upto i fun j => el o j = k + j, fun _ i _ => ((a.length : Int) - i).toNat, ⟨by omega, by omega, rfl, by omega, upto0⟩, ?_⟩
  rintro v i o ⟨h0, h1, hl, hv, hI⟩
  dsimp only
  refine ⟨fun hlt => ⟨⟨h0, by omega⟩, ⟨by omega, by omega⟩, ⟨by omega, by omega⟩, ⟨by omega, by omega, by simp [hl], by omega, fill1 ⟨h0, by omega⟩ hI hv⟩, by omega⟩, fun hge => ⟨by omega, ?_⟩⟩
  exact ext_el (by simp [hl]) fun j h2 h3 => by rw [el_mkI k a j h2 (by omega)]; exact hI j h2 (by omega)
theorem p_laws_markInt64SS (a : List (List Int)) (k : Int) (hp : small2 a ∧ okKT k a) : wp_laws_markInt64SS a k (fun y0 w0 => y0 = k + tot a ∧ w0 = mkII k a) := by
  unfold wp_laws_markInt64SS
  obtain ⟨⟨ha, ha2⟩, hk, ht⟩ := hp
  refine ⟨fun v i o => 0 ≤ i ∧ i ≤ (a.length : Int) ∧ o.length = a.length ∧ v = k + tt a i ∧ (Upto i fun j => el o j = mkI (k + tt a j) (el a j)) ∧ (∀ j, i ≤ j → el o j = el a j), fun _ i _ => ((a.length : Int) - i).toNat, ⟨by omega, by omega, rfl, by rw [tt0]; omega, upto0, fun _ _ => rfl⟩, ?_⟩
  rintro v i o ⟨h0, h1, hl, hv, hI, hR⟩
  dsimp only
  refine ⟨fun hlt => ?_, fun hge => ⟨by rw [hv, tt_full (by omega)], ?_⟩⟩
  · have hi : 0 ≤ i ∧ i < (a.length : Int) := ⟨h0, by omega⟩
    have t2 := tt1 hi
    have t3 := tt_row hi
    have t4 := tt_le a i
    rw [hR i (Int.le_refl _)]
    have hs := ha2 _ (el_mem hi)
    exact ⟨⟨h0, by omega⟩, ⟨hs, by omega, by omega⟩, ⟨by omega, by omega⟩, ⟨by omega, by omega, by simp [hl], by omega, fill1 (f := fun j => mkI (k + tt a j) (el a j)) ⟨h0, by omega⟩ hI (by rw [hv]), fun j hj => by rw [el_se_ne h0 (by omega) (by omega)]; exact hR j (by omega)⟩, by omega⟩
  · exact ext_el (by simp [hl]) fun j h2 h3 => by rw [el_mkII k a j h2 (by omega)]; exact hI j h2 (by omega)

theorem p_laws_heldInt64S (a : List Int) (k : Int) (hp : small a ∧ okK k) : wp_laws_heldInt64S a k (fun y0 => y0 = heI k a) := by
  unfold wp_laws_heldInt64S heI
  obtain ⟨ha, hk⟩ := hp
  refine ⟨fun v i => 0 ≤ i ∧ i ≤ (a.length : Int) ∧ v = k + i ∧ Upto i fun j => el a j = k + j, fun _ i => ((a.length : Int) - i).toNat, ⟨by omega, by omega, by omega, upto0⟩, ?_⟩
  rintro v i ⟨h0, h1, hv, hI⟩
  dsimp only
  refine ⟨fun hlt => ⟨⟨h0, hlt⟩, fun hf => ?_, fun ht => ⟨⟨by omega, by omega⟩, ⟨by omega, by omega⟩, ⟨by omega, by omega, by omega, upto1 hI (by omega)⟩, by omega⟩⟩, fun hge => ?_⟩
  · rw [if_neg]; intro e
    have := el_mkI k a i h0 hlt
    rw [← e] at this; omega
  · rw [if_pos (ext_el (by simp) fun j h2 h3 => by rw [el_mkI k a j h2 h3]; exact hI j h2 (by omega))]; omega
theorem szII_ge {a : List (List Int)} {left : Int} (h : szII a left < 0) : szII a left = -1 := by
  unfold szII at *
  split at h
  · rw [if_pos (by assumption)]
  · omega
theorem mkI_idem : ∀ (k : Int) (l : List Int), mkI k (mkI k l) = mkI k l
  | _, [] => rfl
  | k, _ :: l => by simp only [mkI]; rw [mkI_idem (k + 1) l]
theorem heI_mkI (k : Int) (l : List Int) : heI k (mkI k l) = k + (l.length : Int) := by
  unfold heI; rw [if_pos (mkI_idem k l).symm, length_mkI]
theorem p_laws_toCycleSet (a : List (List Int)) (hp : small2 a) : wp_laws_toCycleSet a (fun y0 => y0 = a) := ⟨hp, rfl⟩
theorem p_laws_szCycleSet (a : List (List Int)) (left : Int) (hp : InS left ∧ huge2 a) : wp_laws_szCycleSet a left (fun y0 => y0 = szII a left) := ⟨hp, fun h => (szII_ge h).symm, fun _ => rfl⟩
theorem p_laws_eqCycleSet (a b : List (List Int)) (hp : small2 a ∧ small2 b) : wp_laws_eqCycleSet a b (fun y0 => y0 = decide (a = b)) := ⟨hp, fun h => by simp [h], fun h => by simp [h]⟩
theorem p_laws_markCycleSet (a : List (List Int)) (k : Int) (hp : small2 a ∧ okKT k a) : wp_laws_markCycleSet a k (fun y0 w0 => y0 = k + tot a ∧ w0 = mkII k a) := ⟨hp, rfl, rfl⟩
theorem p_k_IndexFunc_rows (t : List (List Int)) (f : List Int → Bool) (f_D : List Int → Prop) (hp : small t ∧ ∀ r ∈ t, f_D r) : wp_k_IndexFunc_rows t f f_D (fun y0 => y0 = idxF t f) := by
  unfold wp_k_IndexFunc_rows
  obtain ⟨ht, hD⟩ := hp
  refine ⟨fun i => 0 ≤ i ∧ i ≤ (t.length : Int) ∧ Upto i fun j => f (el t j) = false, fun i => ((t.length : Int) - i).toNat, ⟨by omega, by omega, upto0⟩, ?_⟩
  rintro i ⟨h0, h1, hI⟩
  dsimp only
  refine ⟨fun hlt => ⟨⟨h0, hlt⟩, hD _ (el_mem ⟨h0, hlt⟩), fun hf => (idxF_found ⟨h0, hlt⟩ hI hf).symm, fun ht => ⟨⟨by omega, by omega⟩, ⟨by omega, by omega, upto1 hI ht⟩, by omega⟩⟩, fun hge => ?_⟩
  exact (idxF_none (by rwa [show i = (t.length : Int) by omega] at hI)).symm
theorem p_k_ContainsFunc_rows (t : List (List Int)) (f : List Int → Bool) (f_D : List Int → Prop) (hp : small t ∧ ∀ r ∈ t, f_D r) : wp_k_ContainsFunc_rows t f f_D (fun y0 => y0 = t.any f) := ⟨hp, idxF_nonneg⟩
theorem p_impl_IsTable_1 (row : List Int) (n : Int) (hp : small row ∧ 0 ≤ n ∧ n ≤ 12) : wp_impl_IsTable_1 row n (fun y0 => y0 = badRow n row) := by
  unfold wp_impl_IsTable_1 badRow
  exact ⟨fun h => by simp [h], fun h => ⟨⟨by omega, by omega⟩, hp.1, by simp [h]⟩⟩
theorem p_impl_IsTable (t : List (List Int)) (hp : small2 t) : wp_impl_IsTable t (fun y0 => y0 = isTab t) := by
  unfold wp_impl_IsTable isTab
  refine ⟨fun h => ⟨⟨hp.1, fun r hr => ⟨hp.2 r hr, ?_⟩⟩, ?_⟩, fun h => ?_⟩
  · simp only [Bool.and_eq_true, decide_eq_true_eq] at h; omega
  · rw [h]; rfl
  · rw [h]; rfl
theorem p_impl_squaresOf (c : List (List Int)) (hp : isTab c = true) : wp_impl_squaresOf c (fun y0 => y0 = diag c) := by
  unfold wp_impl_squaresOf
  have hn := isTab_len hp
  simp only [List.length_replicate]
  refine ⟨⟨by omega, by omega⟩, fun i o => 0 ≤ i ∧ i ≤ (c.length : Int) ∧ o.length = c.length ∧ Upto i fun j => el o j = el (el c j) j, fun i _ => ((c.length : Int) - i).toNat, ⟨by omega, by omega, by simp, upto0⟩, ?_⟩
  rintro i o ⟨h0, h1, hl, hI⟩
  dsimp only
  refine ⟨fun hlt => ?_, fun hge => eq_ran (by omega) fun j h2 h3 => hI j h2 (by omega)⟩
  have hr := isTab_row hp (i := i) ⟨h0, by omega⟩
  exact ⟨⟨h0, by omega⟩, ⟨h0, by omega⟩, ⟨h0, by omega⟩, ⟨by omega, by omega⟩, ⟨by omega, by omega, by simp [hl], fill1 (f := fun j => el (el c j) j) ⟨h0, by omega⟩ hI rfl⟩, by omega⟩
set_option maxRecDepth 100000 in
set_option maxHeartbeats 4000000 in
theorem w_impl_within (n : Int) (low : Int) (high : Int) (Q : Bool → Prop) (h : wp_impl_within n low high Q) : AF Try.prog 62 [ci n, ci low, ci high] (fun R_ => ∃ y0, Q y0 ∧ R_ = cb y0) := by
  refine AF.ofWQ (af_enter (n := 15) Try.func62 rfl (by rfl) rfl (Nat.le_of_ble_eq_true rfl) ?_)
  unfold wp_impl_within at h
  refine aw_seq ?_
  refine aw_gh (gh_to (n := 15) (σ' := []) (env' := [(0, .c (ci n)), (1, .c (ci low)), (2, .c (ci high))]) rfl rfl ⟨rfl, rfl, rfl, trivial⟩) ?_
  refine aw_region ?_
  refine run_s (ss_assign rfl) rfl ?_
  refine run_nil ?_
  refine aw_seq ?_
  refine aw_region ?_
  refine run_s (ss_move rfl) rfl ?_
  refine run_s (ss_move rfl) rfl ?_
  refine run_s (ss_geq rfl rfl) rfl ?_
  refine run_s (ss_move rfl) rfl ?_
  refine run_split (s := 10) rfl (fun q1 => ?_) (fun q1 => ?_)
  ·replace h := h.1 (of_decide_eq_true q1)
   refine run_gt rfl rfl q1 ?_
   refine run_s (ss_move rfl) rfl ?_
   refine run_gt rfl rfl q1 ?_
   refine run_s (ss_move rfl) rfl ?_
   refine run_gt rfl rfl q1 ?_
   refine run_s (ss_leq rfl rfl) rfl ?_
   refine run_s (ss_pickT rfl q1 rfl) rfl ?_
   refine run_s (ss_assign rfl) rfl ?_
   refine run_nil ?_
   refine aw_ret ?_
   exact retAF_mk (retv1 rfl (rv_tmp rfl)) rfl rfl ⟨_, (cle_refl _), _, h, rfl⟩
  ·replace h := h.2 (of_decide_eq_false q1)
   refine run_gf rfl rfl q1 rfl ?_
   refine run_gf rfl rfl q1 rfl ?_
   refine run_gf rfl rfl q1 rfl ?_
   refine run_s (ss_pickF rfl q1 rfl) rfl ?_
   refine run_s (ss_assign rfl) rfl ?_
   refine run_nil ?_
   refine aw_ret ?_
   exact retAF_mk (retv1 rfl (rv_tmp rfl)) rfl rfl ⟨_, (cle_refl _), _, h, rfl⟩

theorem c_impl_within (n : Int) (low : Int) (high : Int)  : AF Try.prog 62 [ci n, ci low, ci high] (fun R_ => R_ = cb (decide (low ≤ n) && decide (n ≤ high))) :=
  (w_impl_within n low high (fun y0 => y0 = (decide (low ≤ n) && decide (n ≤ high))) (p_impl_within n low high)).mono (by rintro r ⟨_, rfl, rfl⟩; rfl)

set_option maxRecDepth 100000 in
set_option maxHeartbeats 4000000 in
theorem w_spec_l01In (n : Int) (low : Int) (high : Int) (Q : Bool → Prop) (h : wp_spec_l01In n low high Q) : AF Try.prog 56 [ci n, ci low, ci high] (fun R_ => ∃ y0, Q y0 ∧ R_ = cb y0) := by
  refine AF.ofWQ (af_enter (n := 15) Try.func56 rfl (by rfl) rfl (Nat.le_of_ble_eq_true rfl) ?_)
  unfold wp_spec_l01In at h
  refine aw_seq ?_
  refine aw_gh (gh_to (n := 15) (σ' := []) (env' := [(0, .c (ci n)), (1, .c (ci low)), (2, .c (ci high))]) rfl rfl ⟨rfl, rfl, rfl, trivial⟩) ?_
  refine aw_region ?_
  refine run_s (ss_assign rfl) rfl ?_
  refine run_nil ?_
  refine aw_seq ?_
  refine aw_region ?_
  refine run_s (ss_move rfl) rfl ?_
  refine run_s (ss_move rfl) rfl ?_
  refine run_s (ss_geq rfl rfl) rfl ?_
  refine run_s (ss_move rfl) rfl ?_
  refine run_split (s := 10) rfl (fun q1 => ?_) (fun q1 => ?_)
  ·replace h := h.1 (of_decide_eq_true q1)
   refine run_gt rfl rfl q1 ?_
   refine run_s (ss_move rfl) rfl ?_
   refine run_gt rfl rfl q1 ?_
   refine run_s (ss_move rfl) rfl ?_
   refine run_gt rfl rfl q1 ?_
   refine run_s (ss_leq rfl rfl) rfl ?_
   refine run_s (ss_pickT rfl q1 rfl) rfl ?_
   refine run_s (ss_assign rfl) rfl ?_
   refine run_nil ?_
   refine aw_ret ?_
   exact retAF_mk (retv1 rfl (rv_tmp rfl)) rfl rfl ⟨_, (cle_refl _), _, h, rfl⟩
  ·replace h := h.2 (of_decide_eq_false q1)
   refine run_gf rfl rfl q1 rfl ?_
   refine run_gf rfl rfl q1 rfl ?_
   refine run_gf rfl rfl q1 rfl ?_
   refine run_s (ss_pickF rfl q1 rfl) rfl ?_
   refine run_s (ss_assign rfl) rfl ?_
   refine run_nil ?_
   refine aw_ret ?_
   exact retAF_mk (retv1 rfl (rv_tmp rfl)) rfl rfl ⟨_, (cle_refl _), _, h, rfl⟩

theorem c_spec_l01In (n : Int) (low : Int) (high : Int)  : AF Try.prog 56 [ci n, ci low, ci high] (fun R_ => R_ = cb (decide (low ≤ n) && decide (n ≤ high))) :=
  (w_spec_l01In n low high (fun y0 => y0 = (decide (low ≤ n) && decide (n ≤ high))) (p_spec_l01In n low high)).mono (by rintro r ⟨_, rfl, rfl⟩; rfl)

set_option maxRecDepth 100000 in
set_option maxHeartbeats 4000000 in
theorem w_impl_allWithin (l : List Int) (low : Int) (high : Int) (Q : Bool → Prop) (h : wp_impl_allWithin l low high Q) : AF Try.prog 65 [.lst (ints l), ci low, ci high] (fun R_ => ∃ y0, Q y0 ∧ R_ = cb y0) := by
  refine AF.ofWQ (af_enter (n := 21) Try.func65 rfl (by rfl) rfl (Nat.le_of_ble_eq_true rfl) ?_)
  unfold wp_impl_allWithin at h
  refine aw_seq ?_
  refine aw_gh (gh_to (n := 21) (σ' := []) (env' := [(0, .c (.lst (ints l))), (1, .c (ci low)), (2, .c (ci high))]) rfl rfl ⟨rfl, rfl, rfl, trivial⟩) ?_
  refine aw_region ?_
  refine run_s (ss_assign rfl) rfl ?_
  refine run_nil ?_
  refine aw_seq ?_
  refine aw_seq ?_
  refine aw_region ?_
  refine run_s (ss_move rfl) rfl ?_
  refine run_s (ss_lenL (f := ci) rfl) rfl ?_
  refine run_s (ss_move rfl) rfl ?_
  refine run_nil ?_
  refine aw_block ?_
  obtain ⟨H1, m1, q1, h⟩ := h
  refine aw_loop1 (fun (v11_1 : Int) => ⟨[], [(1, .c (ci low)), (2, .c (ci high)), (9, .c (.lst (ints l))), (10, .c (ci (l.length : Int))), (11, .c (ci v11_1))], 21⟩) H1 m1 ⟨0, ghe_to (n := 21) rfl rfl ⟨rfl, rfl, rfl, rfl, rfl, trivial⟩, q1⟩ ?_
  rintro v11_1 q1
  replace h := h v11_1 q1
  refine aw_seq ?_
  refine aw_region ?_
  refine run_s (ss_lss rfl rfl) rfl ?_
  refine run_nil ?_
  refine aw_seq ?_
  refine aw_cond rfl (fun q2 => ?_) (fun q2 => ?_)
  ·replace h := h.1 (of_decide_eq_true q2)
   refine aw_skip ?_
   refine aw_seq ?_
   refine aw_block ?_
   refine aw_seq ?_
   refine aw_region ?_
   obtain ⟨q3, h⟩ := h
   refine run_s (ss_idxL rfl rfl q3) rfl ?_
   refine run_s (ss_loadL (f := ci) rfl q3) rfl ?_
   refine run_s (ss_assign rfl) rfl ?_
   refine run_nil ?_
   refine aw_seq ?_
   refine aw_region ?_
   refine run_s (ss_move rfl) rfl ?_
   refine run_s (ss_move rfl) rfl ?_
   refine run_s (ss_move rfl) rfl ?_
   refine run_w (ws_call (xs := [.tmp 15, .tmp 16, .tmp 17]) (ids := []) rfl rfl rfl rfl (c_impl_within (el l v11_1) low high) rfl ?_ )
   rintro _ rfl
   refine ⟨rfl, ?_⟩
   refine run_s (ss_not rfl) rfl ?_
   refine run_nil ?_
   refine aw_cond rfl (fun q5 => ?_) (fun q5 => ?_)
   ·replace h := h.1 ((bnot_t q5))
    refine aw_seq ?_
    refine aw_gh (gh_to (n := 21) (σ' := []) (env' := []) rfl rfl trivial) ?_
    refine aw_region ?_
    refine run_s (ss_assign rfl) rfl ?_
    refine run_nil ?_
    refine aw_ret ?_
    exact retAF_mk (retv1 rfl (rv_tmp rfl)) rfl rfl ⟨_, (cle_refl _), _, h, rfl⟩
   ·replace h := h.2 ((bnot_f q5))
    refine aw_skip ?_
    refine aw_gh (gh_to (n := 21) (σ' := []) (env' := [(1, .c (ci low)), (2, .c (ci high)), (9, .c (.lst (ints l))), (10, .c (ci (l.length : Int))), (11, .c (ci v11_1))]) rfl rfl ⟨rfl, rfl, rfl, rfl, rfl, trivial⟩) ?_
    refine aw_region ?_
    obtain ⟨q6, h⟩ := h
    refine run_s (ss_add rfl rfl q6) rfl ?_
    refine run_s (ss_move rfl) rfl ?_
    refine run_nil ?_
    exact ⟨v11_1 + 1, ghe_to (n := 21) rfl rfl ⟨rfl, rfl, rfl, rfl, rfl, trivial⟩, h.1, h.2⟩
  ·replace h := h.2 (of_decide_eq_false q2)
   refine aw_exit ?_
   refine aw_seq ?_
   refine aw_gh (gh_to (n := 21) (σ' := []) (env' := []) rfl rfl trivial) ?_
   refine aw_region ?_
   refine run_s (ss_assign rfl) rfl ?_
   refine run_nil ?_
   refine aw_ret ?_
   exact retAF_mk (retv1 rfl (rv_tmp rfl)) rfl rfl ⟨_, (cle_refl _), _, h, rfl⟩

theorem c_impl_allWithin (l : List Int) (low : Int) (high : Int) (hp : small l) : AF Try.prog 65 [.lst (ints l), ci low, ci high] (fun R_ => R_ = cb (l.all (fun z_ => decide (low ≤ z_) && decide (z_ ≤ high)))) :=
  (w_impl_allWithin l low high (fun y0 => y0 = l.all (fun z_ => decide (low ≤ z_) && decide (z_ ≤ high))) (p_impl_allWithin l low high hp)).mono (by rintro r ⟨_, rfl, rfl⟩; rfl)

set_option maxRecDepth 100000 in
set_option maxHeartbeats 4000000 in
theorem w_impl_isPermuted (p : List Int) (Q : Bool → Prop) (h : wp_impl_isPermuted p Q) : AF Try.prog 53 [.lst (ints p)] (fun R_ => ∃ y0, Q y0 ∧ R_ = cb y0) := by
  refine AF.ofWQ (af_enter (n := 31) Try.func53 rfl (by rfl) rfl (Nat.le_of_ble_eq_true rfl) ?_)
  unfold wp_impl_isPermuted at h
  refine aw_seq ?_
  refine aw_gh (gh_to (n := 31) (σ' := []) (env' := [(0, .c (.lst (ints p)))]) rfl rfl ⟨rfl, trivial⟩) ?_
  refine aw_region ?_
  refine run_s (ss_assign rfl) rfl ?_
  refine run_nil ?_
  refine aw_seq ?_
  refine aw_region ?_
  refine run_s (ss_move rfl) rfl ?_
  refine run_s (ss_lenL (f := ci) rfl) rfl ?_
  obtain ⟨q1, h⟩ := h
  refine run_w (ws_mk (id := 8) cb false rfl rfl rfl q1 (Nat.le_of_ble_eq_true rfl) rfl ⟨rfl, ?_⟩)
  refine run_s (ss_assign rfl) rfl ?_
  refine run_nil ?_
  refine aw_seq ?_
  refine aw_seq ?_
  refine aw_region ?_
  refine run_s (ss_move rfl) rfl ?_
  refine run_s (ss_lenL (f := ci) rfl) rfl ?_
  refine run_s (ss_move rfl) rfl ?_
  refine run_nil ?_
  refine aw_block ?_
  obtain ⟨H1, m1, q2, h⟩ := h
  refine aw_loop2 (fun (v11_1 : Int) (o8_1 : List Bool) => ⟨[(8, ⟨bools o8_1, []⟩)], [(0, .c (.lst (ints p))), (3, .ref 8), (9, .c (.lst (ints p))), (10, .c (ci (p.length : Int))), (11, .c (ci v11_1))], 31⟩) H1 m1 ⟨0, List.replicate (p.length : Int).toNat false, ghe_to (n := 31) rfl rfl ⟨rfl, rfl, rfl, rfl, rfl, trivial⟩, q2⟩ ?_
  rintro v11_1 o8_1 q2
  replace h := h v11_1 o8_1 q2
  refine aw_seq ?_
  refine aw_region ?_
  refine run_s (ss_lss rfl rfl) rfl ?_
  refine run_nil ?_
  refine aw_seq ?_
  refine aw_cond rfl (fun q3 => ?_) (fun q3 => ?_)
  ·replace h := h.1 (of_decide_eq_true q3)
   refine aw_skip ?_
   refine aw_seq ?_
   refine aw_block ?_
   refine aw_seq ?_
   refine aw_region ?_
   obtain ⟨q4, h⟩ := h
   refine run_s (ss_idxL rfl rfl q4) rfl ?_
   refine run_s (ss_loadL (f := ci) rfl q4) rfl ?_
   refine run_s (ss_assign rfl) rfl ?_
   refine run_nil ?_
   refine aw_seq ?_
   refine aw_seq ?_
   refine aw_region ?_
   refine run_s (ss_move rfl) rfl ?_
   refine run_s (ss_move rfl) rfl ?_
   refine run_s (ss_lenL (f := ci) rfl) rfl ?_
   obtain ⟨q5, h⟩ := h
   refine run_s (ss_sub rfl rfl q5) rfl ?_
   refine run_w (ws_call (xs := [.tmp 15, .const (.int .i64 (0)), .tmp 18]) (ids := []) rfl rfl rfl rfl (c_impl_within (el p v11_1) 0 ((p.length : Int) - 1)) rfl ?_ )
   rintro _ rfl
   refine ⟨rfl, ?_⟩
   refine run_s (ss_not rfl) rfl ?_
   refine run_s (ss_move rfl) rfl ?_
   refine run_split (s := 21) rfl (fun q7 => ?_) (fun q7 => ?_)
   ·replace h := h.1 ((bnot_t q7))
    refine run_gf rfl rfl q7 rfl ?_
    refine run_gf rfl rfl q7 rfl ?_
    refine run_gf rfl rfl q7 rfl ?_
    refine run_gf rfl rfl q7 rfl ?_
    refine run_s (ss_pickT rfl q7 rfl) rfl ?_
    refine run_nil ?_
    refine aw_cond rfl (fun q8 => ?_) (fun q8 => ?_)
    ·skip
     refine aw_seq ?_
     refine aw_gh (gh_to (n := 31) (σ' := [(8, ⟨bools o8_1, []⟩)]) (env' := []) rfl rfl trivial) ?_
     refine aw_region ?_
     refine run_s (ss_assign rfl) rfl ?_
     refine run_nil ?_
     refine aw_ret ?_
     exact retAF_mk (retv1 rfl (rv_tmp rfl)) rfl rfl ⟨_, (cle_refl _), _, h, rfl⟩
    ·cases q8
   ·replace h := h.2 ((bnot_f q7))
    refine run_gt rfl rfl q7 ?_
    refine run_s (ss_move rfl) rfl ?_
    refine run_gt rfl rfl q7 ?_
    refine run_s (ss_move rfl) rfl ?_
    refine run_gt rfl rfl q7 ?_
    obtain ⟨q9, h⟩ := h
    refine run_s (ss_idxR (f := cb) rfl rfl rfl q9) rfl ?_
    refine run_gt rfl rfl q7 ?_
    refine run_s (ss_loadR (f := cb) rfl rfl q9 rfl rfl) rfl ?_
    refine run_s (ss_pickF rfl q7 rfl) rfl ?_
    refine run_nil ?_
    refine aw_cond rfl (fun q10 => ?_) (fun q10 => ?_)
    ·replace h := h.1 (q10)
     refine aw_seq ?_
     refine aw_gh (gh_to (n := 31) (σ' := [(8, ⟨bools o8_1, []⟩)]) (env' := []) rfl rfl trivial) ?_
     refine aw_region ?_
     refine run_s (ss_assign rfl) rfl ?_
     refine run_nil ?_
     refine aw_ret ?_
     exact retAF_mk (retv1 rfl (rv_tmp rfl)) rfl rfl ⟨_, (cle_refl _), _, h, rfl⟩
    ·replace h := h.2 (q10)
     refine aw_skip ?_
     refine aw_gh (gh_to (n := 31) (σ' := [(8, ⟨bools o8_1, []⟩)]) (env' := [(0, .c (.lst (ints p))), (3, .ref 8), (5, .c (ci (el p v11_1))), (9, .c (.lst (ints p))), (10, .c (ci (p.length : Int))), (11, .c (ci v11_1)), (22, .ref 8), (23, .c (ci (el p v11_1))), (24, .cell 8 (el p v11_1).toNat), (25, .c (cb (el o8_1 (el p v11_1))))]) rfl rfl ⟨rfl, rfl, rfl, rfl, rfl, rfl, rfl, rfl, rfl, rfl, trivial⟩) ?_
     refine aw_region ?_
     refine run_s (ss_move rfl) rfl ?_
     refine run_s (ss_move rfl) rfl ?_
     obtain ⟨q11, h⟩ := h
     refine run_s (ss_idxR (f := cb) rfl rfl rfl q11) rfl ?_
     refine run_w (ws_storeE rfl rfl (map_lt q11) rfl rfl (map_se (f := cb)) rfl ⟨rfl, ?_⟩)
     refine run_nil ?_
     refine aw_gh (gh_to (n := 31) (σ' := [(8, ⟨bools (se o8_1 (el p v11_1) true), []⟩)]) (env' := [(0, .c (.lst (ints p))), (3, .ref 8), (9, .c (.lst (ints p))), (10, .c (ci (p.length : Int))), (11, .c (ci v11_1)), (22, .ref 8), (23, .c (ci (el p v11_1))), (24, .cell 8 (el p v11_1).toNat), (25, .c (cb (el o8_1 (el p v11_1))))]) rfl rfl ⟨rfl, rfl, rfl, rfl, rfl, rfl, rfl, rfl, rfl, trivial⟩) ?_
     refine aw_region ?_
     obtain ⟨q12, h⟩ := h
     refine run_s (ss_add rfl rfl q12) rfl ?_
     refine run_s (ss_move rfl) rfl ?_
     refine run_nil ?_
     exact ⟨v11_1 + 1, se o8_1 (el p v11_1) true, ghe_to (n := 31) rfl rfl ⟨rfl, rfl, rfl, rfl, rfl, trivial⟩, h.1, h.2⟩
  ·replace h := h.2 (of_decide_eq_false q3)
   refine aw_exit ?_
   refine aw_seq ?_
   refine aw_gh (gh_to (n := 31) (σ' := [(8, ⟨bools o8_1, []⟩)]) (env' := []) rfl rfl trivial) ?_
   refine aw_region ?_
   refine run_s (ss_assign rfl) rfl ?_
   refine run_nil ?_
   refine aw_ret ?_
   exact retAF_mk (retv1 rfl (rv_tmp rfl)) rfl rfl ⟨_, (cle_refl _), _, h, rfl⟩

theorem c_impl_isPermuted (p : List Int) (hp : small p) : AF Try.prog 53 [.lst (ints p)] (fun R_ => R_ = cb (isPerm p)) :=
  (w_impl_isPermuted p (fun y0 => y0 = isPerm p) (p_impl_isPermuted p hp)).mono (by rintro r ⟨_, rfl, rfl⟩; rfl)

set_option maxRecDepth 100000 in
set_option maxHeartbeats 4000000 in
theorem w_laws_toInt64S (a : List Int) (Q : List Int → Prop) (h : wp_laws_toInt64S a Q) : AF Try.prog 40 [.lst (ints a)] (fun R_ => ∃ y0, Q y0 ∧ R_ = .own (ints y0)) := by
  refine AF.ofWQ (af_enter (n := 22) Try.func40 rfl (by rfl) rfl (Nat.le_of_ble_eq_true rfl) ?_)
  unfold wp_laws_toInt64S at h
  refine aw_seq ?_
  refine aw_gh (gh_to (n := 22) (σ' := []) (env' := [(0, .c (.lst (ints a)))]) rfl rfl ⟨rfl, trivial⟩) ?_
  refine aw_region ?_
  refine run_s (ss_assign rfl) rfl ?_
  refine run_nil ?_
  refine aw_seq ?_
  refine aw_region ?_
  refine run_s (ss_move rfl) rfl ?_
  refine run_s (ss_lenL (f := ci) rfl) rfl ?_
  obtain ⟨q1, h⟩ := h
  refine run_w (ws_mk (id := 7) ci (0 : Int) rfl rfl rfl q1 (Nat.le_of_ble_eq_true rfl) rfl ⟨rfl, ?_⟩)
  refine run_s (ss_assign rfl) rfl ?_
  refine run_nil ?_
  refine aw_seq ?_
  refine aw_seq ?_
  refine aw_gh (gh_to (n := 22) (σ' := [(7, ⟨ints (List.replicate (a.length : Int).toNat (0 : Int)), []⟩)]) (env' := [(0, .c (.lst (ints a))), (3, .ref 7)]) rfl rfl ⟨rfl, rfl, trivial⟩) ?_
  refine aw_region ?_
  refine run_s (ss_assign rfl) rfl ?_
  refine run_nil ?_
  refine aw_block ?_
  obtain ⟨H1, m1, q2, h⟩ := h
  refine aw_loop2 (fun (v4_1 : Int) (o7_1 : List Int) => ⟨[(7, ⟨ints o7_1, []⟩)], [(0, .c (.lst (ints a))), (3, .ref 7), (4, .c (ci v4_1))], 22⟩) H1 m1 ⟨0, List.replicate (a.length : Int).toNat (0 : Int), ghe_to (n := 22) rfl rfl ⟨rfl, rfl, rfl, trivial⟩, q2⟩ ?_
  rintro v4_1 o7_1 q2
  replace h := h v4_1 o7_1 q2
  refine aw_seq ?_
  refine aw_seq ?_
  refine aw_region ?_
  refine run_s (ss_move rfl) rfl ?_
  refine run_s (ss_move rfl) rfl ?_
  refine run_s (ss_lenL (f := ci) rfl) rfl ?_
  refine run_s (ss_lss rfl rfl) rfl ?_
  refine run_nil ?_
  refine aw_cond rfl (fun q3 => ?_) (fun q3 => ?_)
  ·replace h := h.1 (of_decide_eq_true q3)
   refine aw_skip ?_
   refine aw_seq ?_
   refine aw_block ?_
   refine aw_region ?_
   refine run_s (ss_move rfl) rfl ?_
   refine run_s (ss_move rfl) rfl ?_
   refine run_s (ss_move rfl) rfl ?_
   refine run_s (ss_move rfl) rfl ?_
   obtain ⟨q4, h⟩ := h
   refine run_s (ss_idxL rfl rfl q4) rfl ?_
   refine run_s (ss_loadL (f := ci) rfl q4) rfl ?_
   obtain ⟨q5, h⟩ := h
   refine run_s (ss_idxR (f := ci) rfl rfl rfl q5) rfl ?_
   refine run_w (ws_storeE rfl rfl (map_lt q5) rfl rfl (map_se (f := ci)) rfl ⟨rfl, ?_⟩)
   refine run_nil ?_
   refine aw_gh (gh_to (n := 22) (σ' := [(7, ⟨ints (se o7_1 v4_1 (el a v4_1)), []⟩)]) (env' := [(0, .c (.lst (ints a))), (3, .ref 7), (4, .c (ci v4_1))]) rfl rfl ⟨rfl, rfl, rfl, trivial⟩) ?_
   refine aw_region ?_
   refine run_s (ss_move rfl) rfl ?_
   obtain ⟨q6, h⟩ := h
   refine run_s (ss_add rfl rfl q6) rfl ?_
   refine run_s (ss_assign rfl) rfl ?_
   refine run_nil ?_
   exact ⟨v4_1 + 1, se o7_1 v4_1 (el a v4_1), ghe_to (n := 22) rfl rfl ⟨rfl, rfl, rfl, trivial⟩, h.1, h.2⟩
  ·replace h := h.2 (of_decide_eq_false q3)
   refine aw_exit ?_
   refine aw_seq ?_
   refine aw_gh (gh_to (n := 22) (σ' := [(7, ⟨ints o7_1, []⟩)]) (env' := [(3, .ref 7)]) rfl rfl ⟨rfl, trivial⟩) ?_
   refine aw_region ?_
   refine run_s (ss_move rfl) rfl ?_
   refine run_s (ss_assign rfl) rfl ?_
   refine run_nil ?_
   refine aw_ret ?_
   exact retAF_mk (retv1 rfl (rv_tmp rfl)) rfl rfl ⟨_, (cle_refl _), _, h, rfl⟩

theorem c_laws_toInt64S (a : List Int) (hp : small a) : AF Try.prog 40 [.lst (ints a)] (fun R_ => R_ = .own (ints a)) :=
  (w_laws_toInt64S a (fun y0 => y0 = a) (p_laws_toInt64S a hp)).mono (by rintro r ⟨_, rfl, rfl⟩; rfl)

set_option maxRecDepth 100000 in
set_option maxHeartbeats 4000000 in
theorem w_laws_toInt64SS (a : List (List Int)) (Q : List (List Int) → Prop) (h : wp_laws_toInt64SS a Q) : AF Try.prog 23 [.lst (rows a)] (fun R_ => ∃ y0, Q y0 ∧ R_ = .own (orows y0)) := by
  refine AF.ofWQ (af_enter (n := 23) Try.func23 rfl (by rfl) rfl (Nat.le_of_ble_eq_true rfl) ?_)
  unfold wp_laws_toInt64SS at h
  refine aw_seq ?_
  refine aw_gh (gh_to (n := 23) (σ' := []) (env' := [(0, .c (.lst (rows a)))]) rfl rfl ⟨rfl, trivial⟩) ?_
  refine aw_region ?_
  refine run_s (ss_assign rfl) rfl ?_
  refine run_nil ?_
  refine aw_seq ?_
  refine aw_region ?_
  refine run_s (ss_move rfl) rfl ?_
  refine run_s (ss_lenL (f := (fun r => C.lst (ints r))) rfl) rfl ?_
  obtain ⟨q1, h⟩ := h
  refine run_w (ws_makeSlice (id := 7) rfl rfl q1 (Nat.le_of_ble_eq_true rfl) rfl ⟨rfl, ?_⟩)
  refine run_gh (gh_weakR (id := 7) (f := (fun r => C.own (ints r))) rfl cle_nilO) ?_
  refine run_s (ss_assign rfl) rfl ?_
  refine run_nil ?_
  refine aw_seq ?_
  refine aw_seq ?_
  refine aw_gh (gh_to (n := 23) (σ' := [(7, ⟨orows (List.replicate (a.length : Int).toNat ([] : List Int)), []⟩)]) (env' := [(0, .c (.lst (rows a))), (3, .ref 7)]) rfl rfl ⟨rfl, rfl, trivial⟩) ?_
  refine aw_region ?_
  refine run_s (ss_assign rfl) rfl ?_
  refine run_nil ?_
  refine aw_block ?_
  obtain ⟨H1, m1, q2, h⟩ := h
  refine aw_loop2 (fun (v4_1 : Int) (o7_1 : List (List Int)) => ⟨[(7, ⟨orows o7_1, []⟩)], [(0, .c (.lst (rows a))), (3, .ref 7), (4, .c (ci v4_1))], 23⟩) H1 m1 ⟨0, List.replicate (a.length : Int).toNat ([] : List Int), ghe_to (n := 23) rfl rfl ⟨rfl, rfl, rfl, trivial⟩, q2⟩ ?_
  rintro v4_1 o7_1 q2
  replace h := h v4_1 o7_1 q2
  refine aw_seq ?_
  refine aw_seq ?_
  refine aw_region ?_
  refine run_s (ss_move rfl) rfl ?_
  refine run_s (ss_move rfl) rfl ?_
  refine run_s (ss_lenL (f := (fun r => C.lst (ints r))) rfl) rfl ?_
  refine run_s (ss_lss rfl rfl) rfl ?_
  refine run_nil ?_
  refine aw_cond rfl (fun q3 => ?_) (fun q3 => ?_)
  ·replace h := h.1 (of_decide_eq_true q3)
   refine aw_skip ?_
   refine aw_seq ?_
   refine aw_block ?_
   refine aw_region ?_
   refine run_s (ss_move rfl) rfl ?_
   refine run_s (ss_move rfl) rfl ?_
   refine run_s (ss_move rfl) rfl ?_
   refine run_s (ss_move rfl) rfl ?_
   obtain ⟨q4, h⟩ := h
   refine run_s (ss_idxL rfl rfl q4) rfl ?_
   refine run_s (ss_loadL (f := (fun r => C.lst (ints r))) rfl q4) rfl ?_
   obtain ⟨q5, h⟩ := h
   refine run_w (ws_call (xs := [.tmp 19]) (ids := [20]) rfl rfl rfl rfl (c_laws_toInt64S (el a v4_1) q5) rfl ?_ )
   rintro _ rfl
   refine ⟨rfl, ?_⟩
   obtain ⟨q7, h⟩ := h
   refine run_s (ss_idxR (f := (fun r => C.own (ints r))) rfl rfl rfl q7) rfl ?_
   refine run_w (ws_storeV rfl rfl (map_lt q7) rfl rfl rfl rfl ⟨rfl, ?_⟩)
   refine run_nil ?_
   refine aw_gh (gh_to (n := 23) (σ' := [(20, ⟨ints (el a v4_1), []⟩), (7, ⟨(orows o7_1).set v4_1.toNat .hole, [(v4_1.toNat, .ref 20)]⟩)]) (env' := [(0, .c (.lst (rows a))), (3, .ref 7), (4, .c (ci v4_1))]) rfl rfl ⟨rfl, rfl, rfl, trivial⟩) ?_
   refine aw_region ?_
   refine run_s (ss_move rfl) rfl ?_
   obtain ⟨q8, h⟩ := h
   refine run_s (ss_add rfl rfl q8) rfl ?_
   refine run_s (ss_assign rfl) rfl ?_
   refine run_nil ?_
   exact ⟨v4_1 + 1, se o7_1 v4_1 (el a v4_1), ghe_step (gh_fillA (id := 7) (id2 := 20) (f := (fun r => C.own (ints r))) (v := (el a v4_1)) rfl lk_self rfl q7 rfl rfl kr_self) (ghe_to (n := 23) rfl rfl ⟨rfl, rfl, rfl, trivial⟩), h.1, h.2⟩
  ·replace h := h.2 (of_decide_eq_false q3)
   refine aw_exit ?_
   refine aw_seq ?_
   refine aw_gh (gh_to (n := 23) (σ' := [(7, ⟨orows o7_1, []⟩)]) (env' := [(3, .ref 7)]) rfl rfl ⟨rfl, trivial⟩) ?_
   refine aw_region ?_
   refine run_s (ss_move rfl) rfl ?_
   refine run_s (ss_assign rfl) rfl ?_
   refine run_nil ?_
   refine aw_ret ?_
   exact retAF_mk (retv1 rfl (rv_tmp rfl)) rfl rfl ⟨_, (cle_refl _), _, h, rfl⟩

theorem c_laws_toInt64SS (a : List (List Int)) (hp : small2 a) : AF Try.prog 23 [.lst (rows a)] (fun R_ => R_ = .own (orows a)) :=
  (w_laws_toInt64SS a (fun y0 => y0 = a) (p_laws_toInt64SS a hp)).mono (by rintro r ⟨_, rfl, rfl⟩; rfl)

set_option maxRecDepth 100000 in
set_option maxHeartbeats 4000000 in
theorem w_laws_szInt64S (a : List Int) (left : Int) (Q : Int → Prop) (h : wp_laws_szInt64S a left Q) : AF Try.prog 33 [.lst (ints a), ci left] (fun R_ => ∃ y0, Q y0 ∧ R_ = ci y0) := by
  refine AF.ofWQ (af_enter (n := 12) Try.func33 rfl (by rfl) rfl (Nat.le_of_ble_eq_true rfl) ?_)
  unfold wp_laws_szInt64S at h
  refine aw_seq ?_
  refine aw_gh (gh_to (n := 12) (σ' := []) (env' := [(0, .c (.lst (ints a))), (1, .c (ci left))]) rfl rfl ⟨rfl, rfl, trivial⟩) ?_
  refine aw_region ?_
  refine run_s (ss_assign rfl) rfl ?_
  refine run_nil ?_
  refine aw_seq ?_
  refine aw_region ?_
  refine run_s (ss_move rfl) rfl ?_
  refine run_s (ss_move rfl) rfl ?_
  refine run_s (ss_lenL (f := ci) rfl) rfl ?_
  obtain ⟨q1, h⟩ := h
  refine run_s (ss_sub rfl rfl q1) rfl ?_
  refine run_s (ss_assign rfl) rfl ?_
  refine run_nil ?_
  refine aw_seq ?_
  refine aw_seq ?_
  refine aw_gh (gh_to (n := 12) (σ' := []) (env' := [(1, .c (ci (left - (a.length : Int))))]) rfl rfl ⟨rfl, trivial⟩) ?_
  refine aw_region ?_
  refine run_s (ss_move rfl) rfl ?_
  refine run_s (ss_lss rfl rfl) rfl ?_
  refine run_nil ?_
  refine aw_cond rfl (fun q2 => ?_) (fun q2 => ?_)
  ·replace h := h.1 (of_decide_eq_true q2)
   refine aw_seq ?_
   refine aw_region ?_
   refine run_s (ss_assign rfl) rfl ?_
   refine run_nil ?_
   refine aw_ret ?_
   exact retAF_mk (retv1 rfl (rv_tmp rfl)) rfl rfl ⟨_, (cle_refl _), _, h, rfl⟩
  ·replace h := h.2 (of_decide_eq_false q2)
   refine aw_skip ?_
   refine aw_seq ?_
   refine aw_region ?_
   refine run_s (ss_move rfl) rfl ?_
   refine run_s (ss_assign rfl) rfl ?_
   refine run_nil ?_
   refine aw_ret ?_
   exact retAF_mk (retv1 rfl (rv_tmp rfl)) rfl rfl ⟨_, (cle_refl _), _, h, rfl⟩

theorem c_laws_szInt64S (a : List Int) (left : Int) (hp : InS left ∧ a.length ≤ 9223372036854775807) : AF Try.prog 33 [.lst (ints a), ci left] (fun R_ => R_ = ci (szI a left)) :=
  (w_laws_szInt64S a left (fun y0 => y0 = szI a left) (p_laws_szInt64S a left hp)).mono (by rintro r ⟨_, rfl, rfl⟩; rfl)

set_option maxRecDepth 100000 in
set_option maxHeartbeats 4000000 in
theorem w_laws_szInt64SS (a : List (List Int)) (left : Int) (Q : Int → Prop) (h : wp_laws_szInt64SS a left Q) : AF Try.prog 20 [.lst (rows a), ci left] (fun R_ => ∃ y0, Q y0 ∧ R_ = ci y0) := by
  refine AF.ofWQ (af_enter (n := 27) Try.func20 rfl (by rfl) rfl (Nat.le_of_ble_eq_true rfl) ?_)
  unfold wp_laws_szInt64SS at h
  refine aw_seq ?_
  refine aw_gh (gh_to (n := 27) (σ' := []) (env' := [(0, .c (.lst (rows a))), (1, .c (ci left))]) rfl rfl ⟨rfl, rfl, trivial⟩) ?_
  refine aw_region ?_
  refine run_s (ss_assign rfl) rfl ?_
  refine run_nil ?_
  refine aw_seq ?_
  refine aw_region ?_
  refine run_s (ss_move rfl) rfl ?_
  refine run_s (ss_move rfl) rfl ?_
  refine run_s (ss_lenL (f := (fun r => C.lst (ints r))) rfl) rfl ?_
  obtain ⟨q1, h⟩ := h
  refine run_s (ss_sub rfl rfl q1) rfl ?_
  refine run_s (ss_assign rfl) rfl ?_
  refine run_nil ?_
  refine aw_seq ?_
  refine aw_seq ?_
  refine aw_gh (gh_to (n := 27) (σ' := []) (env' := [(0, .c (.lst (rows a))), (1, .c (ci (left - (a.length : Int))))]) rfl rfl ⟨rfl, rfl, trivial⟩) ?_
  refine aw_region ?_
  refine run_s (ss_move rfl) rfl ?_
  refine run_s (ss_lss rfl rfl) rfl ?_
  refine run_nil ?_
  refine aw_cond rfl (fun q2 => ?_) (fun q2 => ?_)
  ·replace h := h.1 (of_decide_eq_true q2)
   refine aw_seq ?_
   refine aw_gh (gh_to (n := 27) (σ' := []) (env' := []) rfl rfl trivial) ?_
   refine aw_region ?_
   refine run_s (ss_assign rfl) rfl ?_
   refine run_nil ?_
   refine aw_ret ?_
   exact retAF_mk (retv1 rfl (rv_tmp rfl)) rfl rfl ⟨_, (cle_refl _), _, h, rfl⟩
  ·replace h := h.2 (of_decide_eq_false q2)
   refine aw_skip ?_
   refine aw_seq ?_
   refine aw_seq ?_
   refine aw_region ?_
   refine run_s (ss_assign rfl) rfl ?_
   refine run_nil ?_
   refine aw_block ?_
   obtain ⟨H1, m1, q3, h⟩ := h
   refine aw_loop2 (fun (v1_1 : Int) (v5_1 : Int) => ⟨[], [(0, .c (.lst (rows a))), (1, .c (ci v1_1)), (5, .c (ci v5_1))], 27⟩) H1 m1 ⟨left - (a.length : Int), 0, ghe_to (n := 27) rfl rfl ⟨rfl, rfl, rfl, trivial⟩, q3⟩ ?_
   rintro v1_1 v5_1 q3
   replace h := h v1_1 v5_1 q3
   refine aw_seq ?_
   refine aw_seq ?_
   refine aw_region ?_
   refine run_s (ss_move rfl) rfl ?_
   refine run_s (ss_move rfl) rfl ?_
   refine run_s (ss_lenL (f := (fun r => C.lst (ints r))) rfl) rfl ?_
   refine run_s (ss_lss rfl rfl) rfl ?_
   refine run_nil ?_
   refine aw_cond rfl (fun q4 => ?_) (fun q4 => ?_)
   ·replace h := h.1 (of_decide_eq_true q4)
    refine aw_skip ?_
    refine aw_seq ?_
    refine aw_block ?_
    refine aw_seq ?_
    refine aw_region ?_
    refine run_s (ss_move rfl) rfl ?_
    refine run_s (ss_move rfl) rfl ?_
    obtain ⟨q5, h⟩ := h
    refine run_s (ss_idxL rfl rfl q5) rfl ?_
    refine run_s (ss_loadL (f := (fun r => C.lst (ints r))) rfl q5) rfl ?_
    refine run_s (ss_move rfl) rfl ?_
    obtain ⟨q6, h⟩ := h
    refine run_w (ws_call (xs := [.tmp 21, .tmp 22]) (ids := []) rfl rfl rfl rfl (c_laws_szInt64S (el a v5_1) v1_1 q6) rfl ?_ )
    rintro _ rfl
    refine ⟨rfl, ?_⟩
    refine run_s (ss_assign rfl) rfl ?_
    refine run_nil ?_
    refine aw_seq ?_
    refine aw_gh (gh_to (n := 27) (σ' := []) (env' := [(0, .c (.lst (rows a))), (1, .c (ci (szI (el a v5_1) v1_1))), (5, .c (ci v5_1))]) rfl rfl ⟨rfl, rfl, rfl, trivial⟩) ?_
    refine aw_region ?_
    refine run_s (ss_move rfl) rfl ?_
    refine run_s (ss_lss rfl rfl) rfl ?_
    refine run_nil ?_
    refine aw_cond rfl (fun q8 => ?_) (fun q8 => ?_)
    ·replace h := h.1 (of_decide_eq_true q8)
     refine aw_seq ?_
     refine aw_gh (gh_to (n := 27) (σ' := []) (env' := []) rfl rfl trivial) ?_
     refine aw_region ?_
     refine run_s (ss_assign rfl) rfl ?_
     refine run_nil ?_
     refine aw_ret ?_
     exact retAF_mk (retv1 rfl (rv_tmp rfl)) rfl rfl ⟨_, (cle_refl _), _, h, rfl⟩
    ·replace h := h.2 (of_decide_eq_false q8)
     refine aw_skip ?_
     refine aw_region ?_
     refine run_s (ss_move rfl) rfl ?_
     obtain ⟨q9, h⟩ := h
     refine run_s (ss_add rfl rfl q9) rfl ?_
     refine run_s (ss_assign rfl) rfl ?_
     refine run_nil ?_
     exact ⟨szI (el a v5_1) v1_1, v5_1 + 1, ghe_to (n := 27) rfl rfl ⟨rfl, rfl, rfl, trivial⟩, h.1, h.2⟩
   ·replace h := h.2 (of_decide_eq_false q4)
    refine aw_exit ?_
    refine aw_seq ?_
    refine aw_gh (gh_to (n := 27) (σ' := []) (env' := [(1, .c (ci v1_1))]) rfl rfl ⟨rfl, trivial⟩) ?_
    refine aw_region ?_
    refine run_s (ss_move rfl) rfl ?_
    refine run_s (ss_assign rfl) rfl ?_
    refine run_nil ?_
    refine aw_ret ?_
    exact retAF_mk (retv1 rfl (rv_tmp rfl)) rfl rfl ⟨_, (cle_refl _), _, h, rfl⟩

theorem c_laws_szInt64SS (a : List (List Int)) (left : Int) (hp : InS left ∧ huge2 a) : AF Try.prog 20 [.lst (rows a), ci left] (fun R_ => R_ = ci (szII a left)) :=
  (w_laws_szInt64SS a left (fun y0 => y0 = szII a left) (p_laws_szInt64SS a left hp)).mono (by rintro r ⟨_, rfl, rfl⟩; rfl)

set_option maxRecDepth 100000 in
set_option maxHeartbeats 4000000 in
theorem w_laws_eqInt64S (a : List Int) (b : List Int) (Q : Bool → Prop) (h : wp_laws_eqInt64S a b Q) : AF Try.prog 9 [.lst (ints a), .lst (ints b)] (fun R_ => ∃ y0, Q y0 ∧ R_ = cb y0) := by
  refine AF.ofWQ (af_enter (n := 26) Try.func9 rfl (by rfl) rfl (Nat.le_of_ble_eq_true rfl) ?_)
  unfold wp_laws_eqInt64S at h
  refine aw_seq ?_
  refine aw_gh (gh_to (n := 26) (σ' := []) (env' := [(0, .c (.lst (ints a))), (1, .c (.lst (ints b)))]) rfl rfl ⟨rfl, rfl, trivial⟩) ?_
  refine aw_region ?_
  refine run_s (ss_assign rfl) rfl ?_
  refine run_nil ?_
  refine aw_seq ?_
  refine aw_seq ?_
  refine aw_region ?_
  refine run_s (ss_move rfl) rfl ?_
  refine run_s (ss_lenL (f := ci) rfl) rfl ?_
  refine run_s (ss_move rfl) rfl ?_
  refine run_s (ss_lenL (f := ci) rfl) rfl ?_
  refine run_s (ss_neq rfl rfl) rfl ?_
  refine run_nil ?_
  refine aw_cond rfl (fun q1 => ?_) (fun q1 => ?_)
  ·replace h := h.1 (of_decide_eq_false (bnot_t q1))
   refine aw_seq ?_
   refine aw_gh (gh_to (n := 26) (σ' := []) (env' := [(4, .c (cb false))]) rfl rfl ⟨rfl, trivial⟩) ?_
   refine aw_region ?_
   refine run_s (ss_assign rfl) rfl ?_
   refine run_nil ?_
   refine aw_ret ?_
   exact retAF_mk (retv1 rfl (rv_tmp rfl)) rfl rfl ⟨_, (cle_refl _), _, h, rfl⟩
  ·replace h := h.2 (of_decide_eq_true (bnot_f q1))
   refine aw_skip ?_
   refine aw_seq ?_
   refine aw_seq ?_
   refine aw_gh (gh_to (n := 26) (σ' := []) (env' := [(0, .c (.lst (ints a))), (1, .c (.lst (ints b)))]) rfl rfl ⟨rfl, rfl, trivial⟩) ?_
   refine aw_region ?_
   refine run_s (ss_assign rfl) rfl ?_
   refine run_nil ?_
   refine aw_block ?_
   obtain ⟨H1, m1, q2, h⟩ := h
   refine aw_loop1 (fun (v5_1 : Int) => ⟨[], [(0, .c (.lst (ints a))), (1, .c (.lst (ints b))), (5, .c (ci v5_1))], 26⟩) H1 m1 ⟨0, ghe_to (n := 26) rfl rfl ⟨rfl, rfl, rfl, trivial⟩, q2⟩ ?_
   rintro v5_1 q2
   replace h := h v5_1 q2
   refine aw_seq ?_
   refine aw_seq ?_
   refine aw_region ?_
   refine run_s (ss_move rfl) rfl ?_
   refine run_s (ss_move rfl) rfl ?_
   refine run_s (ss_lenL (f := ci) rfl) rfl ?_
   refine run_s (ss_lss rfl rfl) rfl ?_
   refine run_nil ?_
   refine aw_cond rfl (fun q3 => ?_) (fun q3 => ?_)
   ·replace h := h.1 (of_decide_eq_true q3)
    refine aw_skip ?_
    refine aw_seq ?_
    refine aw_block ?_
    refine aw_seq ?_
    refine aw_gh (gh_to (n := 26) (σ' := []) (env' := [(0, .c (.lst (ints a))), (1, .c (.lst (ints b))), (5, .c (ci v5_1))]) rfl rfl ⟨rfl, rfl, rfl, trivial⟩) ?_
    refine aw_regionD (kd := kdl [0, 0, 0, 1, 0, 0, 0, 1, 0]) (ord := [0, 1, 2, 4, 5, 6, 3, 7, 8]) [] mixed (by kernel_rfl) ?_
    refine rd_s rfl rfl trivial (ss_move rfl) rfl ?_
    refine rd_s rfl rfl trivial (ss_move rfl) rfl ?_
    obtain ⟨q4, h⟩ := h
    refine rd_s rfl rfl trivial (ss_idxL rfl rfl q4) rfl ?_
    refine rd_s rfl rfl trivial (ss_move rfl) rfl ?_
    refine rd_s rfl rfl trivial (ss_move rfl) rfl ?_
    obtain ⟨q5, h⟩ := h
    refine rd_s rfl rfl trivial (ss_idxL rfl rfl q5) rfl ?_
    refine rd_l rfl rfl trivial (ss_loadL (f := ci) rfl q4) rfl ?_
    refine rd_l rfl rfl trivial (ss_loadL (f := ci) rfl q5) rfl ?_
    refine rd_s rfl rfl trivial (ss_neq rfl rfl) rfl ?_
    refine rd_nil ?_
    refine aw_cond rfl (fun q6 => ?_) (fun q6 => ?_)
    ·replace h := h.1 (of_decide_eq_false (bnot_t q6))
     refine aw_seq ?_
     refine aw_gh (gh_to (n := 26) (σ' := []) (env' := []) rfl rfl trivial) ?_
     refine aw_region ?_
     refine run_s (ss_assign rfl) rfl ?_
     refine run_nil ?_
     refine aw_ret ?_
     exact retAF_mk (retv1 rfl (rv_tmp rfl)) rfl rfl ⟨_, (cle_refl _), _, h, rfl⟩
    ·replace h := h.2 (of_decide_eq_true (bnot_f q6))
     refine aw_skip ?_
     refine aw_gh (gh_to (n := 26) (σ' := []) (env' := [(0, .c (.lst (ints a))), (1, .c (.lst (ints b))), (5, .c (ci v5_1))]) rfl rfl ⟨rfl, rfl, rfl, trivial⟩) ?_
     refine aw_region ?_
     refine run_s (ss_move rfl) rfl ?_
     obtain ⟨q7, h⟩ := h
     refine run_s (ss_add rfl rfl q7) rfl ?_
     refine run_s (ss_assign rfl) rfl ?_
     refine run_nil ?_
     exact ⟨v5_1 + 1, ghe_to (n := 26) rfl rfl ⟨rfl, rfl, rfl, trivial⟩, h.1, h.2⟩
   ·replace h := h.2 (of_decide_eq_false q3)
    refine aw_exit ?_
    refine aw_seq ?_
    refine aw_gh (gh_to (n := 26) (σ' := []) (env' := []) rfl rfl trivial) ?_
    refine aw_region ?_
    refine run_s (ss_assign rfl) rfl ?_
    refine run_nil ?_
    refine aw_ret ?_
    exact retAF_mk (retv1 rfl (rv_tmp rfl)) rfl rfl ⟨_, (cle_refl _), _, h, rfl⟩

theorem c_laws_eqInt64S (a : List Int) (b : List Int) (hp : small a ∧ small b) : AF Try.prog 9 [.lst (ints a), .lst (ints b)] (fun R_ => R_ = cb (decide (a = b))) :=
  (w_laws_eqInt64S a b (fun y0 => y0 = decide (a = b)) (p_laws_eqInt64S a b hp)).mono (by rintro r ⟨_, rfl, rfl⟩; rfl)

set_option maxRecDepth 100000 in
set_option maxHeartbeats 4000000 in
theorem w_laws_eqInt64SS (a : List (List Int)) (b : List (List Int)) (Q : Bool → Prop) (h : wp_laws_eqInt64SS a b Q) : AF Try.prog 27 [.lst (rows a), .lst (rows b)] (fun R_ => ∃ y0, Q y0 ∧ R_ = cb y0) := by
  refine AF.ofWQ (af_enter (n := 27) Try.func27 rfl (by rfl) rfl (Nat.le_of_ble_eq_true rfl) ?_)
  unfold wp_laws_eqInt64SS at h
  refine aw_seq ?_
  refine aw_gh (gh_to (n := 27) (σ' := []) (env' := [(0, .c (.lst (rows a))), (1, .c (.lst (rows b)))]) rfl rfl ⟨rfl, rfl, trivial⟩) ?_
  refine aw_region ?_
  refine run_s (ss_assign rfl) rfl ?_
  refine run_nil ?_
  refine aw_seq ?_
  refine aw_seq ?_
  refine aw_region ?_
  refine run_s (ss_move rfl) rfl ?_
  refine run_s (ss_lenL (f := (fun r => C.lst (ints r))) rfl) rfl ?_
  refine run_s (ss_move rfl) rfl ?_
  refine run_s (ss_lenL (f := (fun r => C.lst (ints r))) rfl) rfl ?_
  refine run_s (ss_neq rfl rfl) rfl ?_
  refine run_nil ?_
  refine aw_cond rfl (fun q1 => ?_) (fun q1 => ?_)
  ·replace h := h.1 (of_decide_eq_false (bnot_t q1))
   refine aw_seq ?_
   refine aw_gh (gh_to (n := 27) (σ' := []) (env' := [(4, .c (cb false))]) rfl rfl ⟨rfl, trivial⟩) ?_
   refine aw_region ?_
   refine run_s (ss_assign rfl) rfl ?_
   refine run_nil ?_
   refine aw_ret ?_
   exact retAF_mk (retv1 rfl (rv_tmp rfl)) rfl rfl ⟨_, (cle_refl _), _, h, rfl⟩
  ·replace h := h.2 (of_decide_eq_true (bnot_f q1))
   refine aw_skip ?_
   refine aw_seq ?_
   refine aw_seq ?_
   refine aw_gh (gh_to (n := 27) (σ' := []) (env' := [(0, .c (.lst (rows a))), (1, .c (.lst (rows b)))]) rfl rfl ⟨rfl, rfl, trivial⟩) ?_
   refine aw_region ?_
   refine run_s (ss_assign rfl) rfl ?_
   refine run_nil ?_
   refine aw_block ?_
   obtain ⟨H1, m1, q2, h⟩ := h
   refine aw_loop1 (fun (v5_1 : Int) => ⟨[], [(0, .c (.lst (rows a))), (1, .c (.lst (rows b))), (5, .c (ci v5_1))], 27⟩) H1 m1 ⟨0, ghe_to (n := 27) rfl rfl ⟨rfl, rfl, rfl, trivial⟩, q2⟩ ?_
   rintro v5_1 q2
   replace h := h v5_1 q2
   refine aw_seq ?_
   refine aw_seq ?_
   refine aw_region ?_
   refine run_s (ss_move rfl) rfl ?_
   refine run_s (ss_move rfl) rfl ?_
   refine run_s (ss_lenL (f := (fun r => C.lst (ints r))) rfl) rfl ?_
   refine run_s (ss_lss rfl rfl) rfl ?_
   refine run_nil ?_
   refine aw_cond rfl (fun q3 => ?_) (fun q3 => ?_)
   ·replace h := h.1 (of_decide_eq_true q3)
    refine aw_skip ?_
    refine aw_seq ?_
    refine aw_block ?_
    refine aw_seq ?_
    refine aw_gh (gh_to (n := 27) (σ' := []) (env' := [(0, .c (.lst (rows a))), (1, .c (.lst (rows b))), (5, .c (ci v5_1))]) rfl rfl ⟨rfl, rfl, rfl, trivial⟩) ?_
    refine aw_regionD (kd := kdl [0, 0, 0, 1, 0, 0, 0, 1, 2, 0]) (ord := [0, 1, 2, 4, 5, 6, 3, 7, 8, 9]) [] mixed (by kernel_rfl) ?_
    refine rd_s rfl rfl trivial (ss_move rfl) rfl ?_
    refine rd_s rfl rfl trivial (ss_move rfl) rfl ?_
    obtain ⟨q4, h⟩ := h
    refine rd_s rfl rfl trivial (ss_idxL rfl rfl q4) rfl ?_
    refine rd_s rfl rfl trivial (ss_move rfl) rfl ?_
    refine rd_s rfl rfl trivial (ss_move rfl) rfl ?_
    obtain ⟨q5, h⟩ := h
    refine rd_s rfl rfl trivial (ss_idxL rfl rfl q5) rfl ?_
    refine rd_l rfl rfl trivial (ss_loadL (f := (fun r => C.lst (ints r))) rfl q4) rfl ?_
    refine rd_l rfl rfl trivial (ss_loadL (f := (fun r => C.lst (ints r))) rfl q5) rfl ?_
    obtain ⟨q6, h⟩ := h
    refine rd_w rfl rfl trivial rfl rfl (ws_call (xs := [.tmp 20, .tmp 24]) (ids := []) rfl rfl rfl rfl (c_laws_eqInt64S (el a v5_1) (el b v5_1) q6) rfl ?_ )
    rintro _ rfl
    refine ⟨rfl, ?_⟩
    refine rd_s rfl rfl trivial (ss_not rfl) rfl ?_
    refine rd_nil ?_
    refine aw_cond rfl (fun q8 => ?_) (fun q8 => ?_)
    ·replace h := h.1 (of_decide_eq_false (bnot_t q8))
     refine aw_seq ?_
     refine aw_gh (gh_to (n := 27) (σ' := []) (env' := []) rfl rfl trivial) ?_
     refine aw_region ?_
     refine run_s (ss_assign rfl) rfl ?_
     refine run_nil ?_
     refine aw_ret ?_
     exact retAF_mk (retv1 rfl (rv_tmp rfl)) rfl rfl ⟨_, (cle_refl _), _, h, rfl⟩
    ·replace h := h.2 (of_decide_eq_true (bnot_f q8))
     refine aw_skip ?_
     refine aw_gh (gh_to (n := 27) (σ' := []) (env' := [(0, .c (.lst (rows a))), (1, .c (.lst (rows b))), (5, .c (ci v5_1))]) rfl rfl ⟨rfl, rfl, rfl, trivial⟩) ?_
     refine aw_region ?_
     refine run_s (ss_move rfl) rfl ?_
     obtain ⟨q9, h⟩ := h
     refine run_s (ss_add rfl rfl q9) rfl ?_
     refine run_s (ss_assign rfl) rfl ?_
     refine run_nil ?_
     exact ⟨v5_1 + 1, ghe_to (n := 27) rfl rfl ⟨rfl, rfl, rfl, trivial⟩, h.1, h.2⟩
   ·replace h := h.2 (of_decide_eq_false q3)
    refine aw_exit ?_
    refine aw_seq ?_
    refine aw_gh (gh_to (n := 27) (σ' := []) (env' := []) rfl rfl trivial) ?_
    refine aw_region ?_
    refine run_s (ss_assign rfl) rfl ?_
    refine run_nil ?_
    refine aw_ret ?_
    exact retAF_mk (retv1 rfl (rv_tmp rfl)) rfl rfl ⟨_, (cle_refl _), _, h, rfl⟩

theorem c_laws_eqInt64SS (a : List (List Int)) (b : List (List Int)) (hp : small2 a ∧ small2 b) : AF Try.prog 27 [.lst (rows a), .lst (rows b)] (fun R_ => R_ = cb (decide (a = b))) :=
  (w_laws_eqInt64SS a b (fun y0 => y0 = decide (a = b)) (p_laws_eqInt64SS a b hp)).mono (by rintro r ⟨_, rfl, rfl⟩; rfl)

set_option maxRecDepth 100000 in
set_option maxHeartbeats 4000000 in
theorem w_laws_markInt64S (a : List Int) (k : Int) (Q : Int → List Int → Prop) (h : wp_laws_markInt64S a k Q) : AM Try.prog 12 [.own (ints a), ci k] (fun R_ O_ => ∃ y0 w0, Q y0 w0 ∧ R_ = ci y0 ∧ O_ = [.own (ints w0), ci k]) := by
  refine am_enter (n := 19) (m := 2) Try.func12 rfl (by rfl) rfl rfl (Nat.le_of_ble_eq_true rfl) [800] rfl ?_
  unfold wp_laws_markInt64S at h
  refine aw_seq ?_
  refine aw_gh (gh_to (n := 19) (σ' := [(800, ⟨ints a, []⟩)]) (env' := [(0, .ref 800), (1, .c (ci k)), (19, .ref 800), (20, .c (ci k))]) rfl rfl ⟨rfl, rfl, rfl, rfl, trivial⟩) ?_
  refine aw_region ?_
  refine run_s (ss_assign rfl) rfl ?_
  refine run_nil ?_
  refine aw_seq ?_
  refine aw_seq ?_
  refine aw_region ?_
  refine run_s (ss_assign rfl) rfl ?_
  refine run_nil ?_
  refine aw_block ?_
  obtain ⟨H1, m1, q1, h⟩ := h
  refine aw_loop3 (fun (v1_1 : Int) (v5_1 : Int) (o800_1 : List Int) => ⟨[(800, ⟨ints o800_1, []⟩)], [(0, .ref 800), (1, .c (ci v1_1)), (5, .c (ci v5_1)), (19, .ref 800), (20, .c (ci k))], 19⟩) H1 m1 ⟨k, 0, a, ghe_to (n := 19) rfl rfl ⟨rfl, rfl, rfl, rfl, rfl, trivial⟩, q1⟩ ?_
  rintro v1_1 v5_1 o800_1 q1
  replace h := h v1_1 v5_1 o800_1 q1
  refine aw_seq ?_
  refine aw_seq ?_
  refine aw_region ?_
  refine run_s (ss_move rfl) rfl ?_
  refine run_s (ss_move rfl) rfl ?_
  refine run_s (ss_lenR (f := ci) rfl rfl) rfl ?_
  refine run_s (ss_lss rfl rfl) rfl ?_
  refine run_nil ?_
  refine aw_cond rfl (fun q2 => ?_) (fun q2 => ?_)
  ·replace h := h.1 (of_decide_eq_true q2)
   refine aw_skip ?_
   refine aw_seq ?_
   refine aw_block ?_
   refine aw_seq ?_
   refine aw_region ?_
   refine run_s (ss_move rfl) rfl ?_
   refine run_s (ss_move rfl) rfl ?_
   refine run_s (ss_move rfl) rfl ?_
   obtain ⟨q3, h⟩ := h
   refine run_s (ss_idxR (f := ci) rfl rfl rfl q3) rfl ?_
   refine run_w (ws_storeE rfl rfl (map_lt q3) rfl rfl (map_se (f := ci)) rfl ⟨rfl, ?_⟩)
   refine run_nil ?_
   refine aw_gh (gh_to (n := 19) (σ' := [(800, ⟨ints (se o800_1 v5_1 v1_1), []⟩)]) (env' := [(0, .ref 800), (1, .c (ci v1_1)), (5, .c (ci v5_1)), (19, .ref 800), (20, .c (ci k))]) rfl rfl ⟨rfl, rfl, rfl, rfl, rfl, trivial⟩) ?_
   refine aw_region ?_
   refine run_s (ss_move rfl) rfl ?_
   obtain ⟨q4, h⟩ := h
   refine run_s (ss_add rfl rfl q4) rfl ?_
   refine run_s (ss_assign rfl) rfl ?_
   refine run_nil ?_
   refine aw_region ?_
   refine run_s (ss_move rfl) rfl ?_
   obtain ⟨q5, h⟩ := h
   refine run_s (ss_add rfl rfl q5) rfl ?_
   refine run_s (ss_assign rfl) rfl ?_
   refine run_nil ?_
   exact ⟨v1_1 + 1, v5_1 + 1, se o800_1 v5_1 v1_1, ghe_to (n := 19) rfl rfl ⟨rfl, rfl, rfl, rfl, rfl, trivial⟩, h.1, h.2⟩
  ·replace h := h.2 (of_decide_eq_false q2)
   refine aw_exit ?_
   refine aw_seq ?_
   refine aw_gh (gh_to (n := 19) (σ' := [(800, ⟨ints o800_1, []⟩)]) (env' := [(1, .c (ci v1_1)), (19, .ref 800), (20, .c (ci k))]) rfl rfl ⟨rfl, rfl, rfl, trivial⟩) ?_
   refine aw_region ?_
   refine run_s (ss_move rfl) rfl ?_
   refine run_s (ss_assign rfl) rfl ?_
   refine run_nil ?_
   refine aw_ret ?_
   exact retAM_mk (retv1 rfl (rv_tmp rfl)) rfl rfl rfl ⟨_, _, h, rfl, rfl⟩

theorem c_laws_markInt64S (a : List Int) (k : Int) (hp : small a ∧ okK k) : AM Try.prog 12 [.own (ints a), ci k] (fun R_ O_ => R_ = ci (k + (a.length : Int)) ∧ O_ = [.own (ints (mkI k a)), ci k]) :=
  (w_laws_markInt64S a k (fun y0 w0 => y0 = k + (a.length : Int) ∧ w0 = mkI k a) (p_laws_markInt64S a k hp)).mono (by rintro r o ⟨_, _, ⟨rfl, rfl⟩, rfl, rfl⟩; exact ⟨rfl, rfl⟩)

set_option maxRecDepth 100000 in
set_option maxHeartbeats 4000000 in
theorem w_laws_markInt64SS (a : List (List Int)) (k : Int) (Q : Int → List (List Int) → Prop) (h : wp_laws_markInt64SS a k Q) : AM Try.prog 28 [.own (orows a), ci k] (fun R_ O_ => ∃ y0 w0, Q y0 w0 ∧ R_ = ci y0 ∧ O_ = [.own (orows w0), ci k]) := by
  refine am_enter (n := 19) (m := 2) Try.func28 rfl (by rfl) rfl rfl (Nat.le_of_ble_eq_true rfl) [800] rfl ?_
  unfold wp_laws_markInt64SS at h
  refine aw_seq ?_
  refine aw_gh (gh_to (n := 19) (σ' := [(800, ⟨orows a, []⟩)]) (env' := [(0, .ref 800), (1, .c (ci k)), (19, .ref 800), (20, .c (ci k))]) rfl rfl ⟨rfl, rfl, rfl, rfl, trivial⟩) ?_
  refine aw_region ?_
  refine run_s (ss_assign rfl) rfl ?_
  refine run_nil ?_
  refine aw_seq ?_
  refine aw_seq ?_
  refine aw_region ?_
  refine run_s (ss_assign rfl) rfl ?_
  refine run_nil ?_
  refine aw_block ?_
  obtain ⟨H1, m1, q1, h⟩ := h
  refine aw_loop3 (fun (v1_1 : Int) (v5_1 : Int) (o800_1 : List (List Int)) => ⟨[(800, ⟨orows o800_1, []⟩)], [(0, .ref 800), (1, .c (ci v1_1)), (5, .c (ci v5_1)), (19, .ref 800), (20, .c (ci k))], 19⟩) H1 m1 ⟨k, 0, a, ghe_to (n := 19) rfl rfl ⟨rfl, rfl, rfl, rfl, rfl, trivial⟩, q1⟩ ?_
  rintro v1_1 v5_1 o800_1 q1
  replace h := h v1_1 v5_1 o800_1 q1
  refine aw_seq ?_
  refine aw_seq ?_
  refine aw_region ?_
  refine run_s (ss_move rfl) rfl ?_
  refine run_s (ss_move rfl) rfl ?_
  refine run_s (ss_lenR (f := (fun r => C.own (ints r))) rfl rfl) rfl ?_
  refine run_s (ss_lss rfl rfl) rfl ?_
  refine run_nil ?_
  refine aw_cond rfl (fun q2 => ?_) (fun q2 => ?_)
  ·replace h := h.1 (of_decide_eq_true q2)
   refine aw_skip ?_
   refine aw_seq ?_
   refine aw_block ?_
   refine aw_region ?_
   refine run_s (ss_move rfl) rfl ?_
   refine run_s (ss_move rfl) rfl ?_
   obtain ⟨q3, h⟩ := h
   refine run_s (ss_idxR (f := (fun r => C.own (ints r))) rfl rfl rfl q3) rfl ?_
   refine run_gh (gh_open 1001 (id := 800) (j := v5_1.toNat) rfl (map_get (f := (fun r => C.own (ints r))) q3) rfl) ?_
   refine run_s (ss_loadH rfl rfl lk_self rfl) rfl ?_
   refine run_s (ss_move rfl) rfl ?_
   obtain ⟨q4, h⟩ := h
   refine run_w (ws_callM (xs := [.tmp 15, .tmp 16]) (cs := [.own (ints (el o800_1 v5_1)), ci v1_1]) (ids := []) rfl (.inr ⟨rfl, rfl⟩) rfl rfl rfl (c_laws_markInt64S (el o800_1 v5_1) v1_1 q4) rfl rfl ?_ )
   rintro _ _ ⟨rfl, rfl⟩
   refine ⟨rfl, rfl, ?_⟩
   refine run_s (ss_assign rfl) rfl ?_
   refine run_nil ?_
   refine aw_gh (gh_to (n := 19) (σ' := [(1001, ⟨ints (mkI v1_1 (el o800_1 v5_1)), []⟩), (800, ⟨(orows o800_1).set v5_1.toNat .hole, [(v5_1.toNat, .ref 1001)]⟩)]) (env' := [(0, .ref 800), (1, .c (ci (v1_1 + ((el o800_1 v5_1).length : Int)))), (5, .c (ci v5_1)), (19, .ref 800), (20, .c (ci k))]) rfl rfl ⟨rfl, rfl, rfl, rfl, rfl, trivial⟩) ?_
   refine aw_region ?_
   refine run_s (ss_move rfl) rfl ?_
   obtain ⟨q6, h⟩ := h
   refine run_s (ss_add rfl rfl q6) rfl ?_
   refine run_s (ss_assign rfl) rfl ?_
   refine run_nil ?_
   exact ⟨v1_1 + ((el o800_1 v5_1).length : Int), v5_1 + 1, se o800_1 v5_1 (mkI v1_1 (el o800_1 v5_1)), ghe_step (gh_fillA (id := 800) (id2 := 1001) (f := (fun r => C.own (ints r))) (v := mkI v1_1 (el o800_1 v5_1)) rfl lk_self rfl q3 rfl rfl kr_self) (ghe_to (n := 19) rfl rfl ⟨rfl, rfl, rfl, rfl, rfl, trivial⟩), h.1, h.2⟩
  ·replace h := h.2 (of_decide_eq_false q2)
   refine aw_exit ?_
   refine aw_seq ?_
   refine aw_gh (gh_to (n := 19) (σ' := [(800, ⟨orows o800_1, []⟩)]) (env' := [(1, .c (ci v1_1)), (19, .ref 800), (20, .c (ci k))]) rfl rfl ⟨rfl, rfl, rfl, trivial⟩) ?_
   refine aw_region ?_
   refine run_s (ss_move rfl) rfl ?_
   refine run_s (ss_assign rfl) rfl ?_
   refine run_nil ?_
   refine aw_ret ?_
   exact retAM_mk (retv1 rfl (rv_tmp rfl)) rfl rfl rfl ⟨_, _, h, rfl, rfl⟩

theorem c_laws_markInt64SS (a : List (List Int)) (k : Int) (hp : small2 a ∧ okKT k a) : AM Try.prog 28 [.own (orows a), ci k] (fun R_ O_ => R_ = ci (k + tot a) ∧ O_ = [.own (orows (mkII k a)), ci k]) :=
  (w_laws_markInt64SS a k (fun y0 w0 => y0 = k + tot a ∧ w0 = mkII k a) (p_laws_markInt64SS a k hp)).mono (by rintro r o ⟨_, _, ⟨rfl, rfl⟩, rfl, rfl⟩; exact ⟨rfl, rfl⟩)

set_option maxRecDepth 100000 in
set_option maxHeartbeats 4000000 in
theorem w_laws_heldInt64S (a : List Int) (k : Int) (Q : Int → Prop) (h : wp_laws_heldInt64S a k Q) : AF Try.prog 13 [.lst (ints a), ci k] (fun R_ => ∃ y0, Q y0 ∧ R_ = ci y0) := by
  refine AF.ofWQ (af_enter (n := 21) Try.func13 rfl (by rfl) rfl (Nat.le_of_ble_eq_true rfl) ?_)
  unfold wp_laws_heldInt64S at h
  refine aw_seq ?_
  refine aw_gh (gh_to (n := 21) (σ' := []) (env' := [(0, .c (.lst (ints a))), (1, .c (ci k))]) rfl rfl ⟨rfl, rfl, trivial⟩) ?_
  refine aw_region ?_
  refine run_s (ss_assign rfl) rfl ?_
  refine run_nil ?_
  refine aw_seq ?_
  refine aw_seq ?_
  refine aw_region ?_
  refine run_s (ss_assign rfl) rfl ?_
  refine run_nil ?_
  refine aw_block ?_
  obtain ⟨H1, m1, q1, h⟩ := h
  refine aw_loop2 (fun (v1_1 : Int) (v5_1 : Int) => ⟨[], [(0, .c (.lst (ints a))), (1, .c (ci v1_1)), (5, .c (ci v5_1))], 21⟩) H1 m1 ⟨k, 0, ghe_to (n := 21) rfl rfl ⟨rfl, rfl, rfl, trivial⟩, q1⟩ ?_
  rintro v1_1 v5_1 q1
  replace h := h v1_1 v5_1 q1
  refine aw_seq ?_
  refine aw_seq ?_
  refine aw_region ?_
  refine run_s (ss_move rfl) rfl ?_
  refine run_s (ss_move rfl) rfl ?_
  refine run_s (ss_lenL (f := ci) rfl) rfl ?_
  refine run_s (ss_lss rfl rfl) rfl ?_
  refine run_nil ?_
  refine aw_cond rfl (fun q2 => ?_) (fun q2 => ?_)
  ·replace h := h.1 (of_decide_eq_true q2)
   refine aw_skip ?_
   refine aw_seq ?_
   refine aw_block ?_
   refine aw_seq ?_
   refine aw_seq ?_
   refine aw_region ?_
   refine run_s (ss_move rfl) rfl ?_
   refine run_s (ss_move rfl) rfl ?_
   obtain ⟨q3, h⟩ := h
   refine run_s (ss_idxL rfl rfl q3) rfl ?_
   refine run_s (ss_loadL (f := ci) rfl q3) rfl ?_
   refine run_s (ss_move rfl) rfl ?_
   refine run_s (ss_neq rfl rfl) rfl ?_
   refine run_nil ?_
   refine aw_cond rfl (fun q4 => ?_) (fun q4 => ?_)
   ·replace h := h.1 (of_decide_eq_false (bnot_t q4))
    refine aw_seq ?_
    refine aw_gh (gh_to (n := 21) (σ' := []) (env' := []) rfl rfl trivial) ?_
    refine aw_region ?_
    refine run_s (ss_assign rfl) rfl ?_
    refine run_nil ?_
    refine aw_ret ?_
    exact retAF_mk (retv1 rfl (rv_tmp rfl)) rfl rfl ⟨_, (cle_refl _), _, h, rfl⟩
   ·replace h := h.2 (of_decide_eq_true (bnot_f q4))
    refine aw_skip ?_
    refine aw_gh (gh_to (n := 21) (σ' := []) (env' := [(0, .c (.lst (ints a))), (1, .c (ci v1_1)), (5, .c (ci v5_1))]) rfl rfl ⟨rfl, rfl, rfl, trivial⟩) ?_
    refine aw_region ?_
    refine run_s (ss_move rfl) rfl ?_
    obtain ⟨q5, h⟩ := h
    refine run_s (ss_add rfl rfl q5) rfl ?_
    refine run_s (ss_assign rfl) rfl ?_
    refine run_nil ?_
    refine aw_region ?_
    refine run_s (ss_move rfl) rfl ?_
    obtain ⟨q6, h⟩ := h
    refine run_s (ss_add rfl rfl q6) rfl ?_
    refine run_s (ss_assign rfl) rfl ?_
    refine run_nil ?_
    exact ⟨v1_1 + 1, v5_1 + 1, ghe_to (n := 21) rfl rfl ⟨rfl, rfl, rfl, trivial⟩, h.1, h.2⟩
  ·replace h := h.2 (of_decide_eq_false q2)
   refine aw_exit ?_
   refine aw_seq ?_
   refine aw_gh (gh_to (n := 21) (σ' := []) (env' := [(1, .c (ci v1_1))]) rfl rfl ⟨rfl, trivial⟩) ?_
   refine aw_region ?_
   refine run_s (ss_move rfl) rfl ?_
   refine run_s (ss_assign rfl) rfl ?_
   refine run_nil ?_
   refine aw_ret ?_
   exact retAF_mk (retv1 rfl (rv_tmp rfl)) rfl rfl ⟨_, (cle_refl _), _, h, rfl⟩

theorem c_laws_heldInt64S (a : List Int) (k : Int) (hp : small a ∧ okK k) : AF Try.prog 13 [.lst (ints a), ci k] (fun R_ => R_ = ci (heI k a)) :=
  (w_laws_heldInt64S a k (fun y0 => y0 = heI k a) (p_laws_heldInt64S a k hp)).mono (by rintro r ⟨_, rfl, rfl⟩; rfl)

set_option maxRecDepth 100000 in
set_option maxHeartbeats 4000000 in
theorem w_laws_toCycleSet (a : List (List Int)) (Q : List (List Int) → Prop) (h : wp_laws_toCycleSet a Q) : AF Try.prog 16 [.agg [.lst (rows a)]] (fun R_ => ∃ y0, Q y0 ∧ R_ = .agg [.own (orows y0)]) := by
  refine AF.ofWQ (af_enter (n := 9) Try.func16 rfl (by rfl) rfl (Nat.le_of_ble_eq_true rfl) ?_)
  unfold wp_laws_toCycleSet at h
  refine aw_seq ?_
  refine aw_gh (gh_to (n := 9) (σ' := []) (env' := [(0, .c (.agg [.lst (rows a)]))]) rfl rfl ⟨rfl, trivial⟩) ?_
  refine aw_region ?_
  refine run_w (ws_boxR rfl (.inl rfl) rfl ⟨rfl, ?_⟩)
  refine run_w (ws_alloc (id := 2) rfl (Nat.le_of_ble_eq_true rfl) ⟨rfl, ?_⟩)
  refine run_nil ?_
  refine aw_seq ?_
  refine aw_region ?_
  refine run_w (ws_alloc (id := 3) rfl (Nat.le_of_ble_eq_true rfl) ⟨rfl, ?_⟩)
  refine run_nil ?_
  refine aw_seq ?_
  refine aw_region ?_
  refine run_s (ss_field_ptr rfl) rfl ?_
  refine run_s (ss_load_ptr rfl rfl) rfl ?_
  obtain ⟨q1, h⟩ := h
  refine run_w (ws_call (xs := [.tmp 5]) (ids := [6]) rfl rfl rfl rfl (c_laws_toInt64SS a q1) rfl ?_ )
  rintro _ rfl
  refine ⟨rfl, ?_⟩
  refine run_s (ss_field_cell rfl) rfl ?_
  refine run_w (ws_store rfl rfl (Nat.le_of_ble_eq_true rfl) rfl rfl ⟨rfl, ?_⟩)
  refine run_nil ?_
  refine aw_seq ?_
  refine aw_gh (gh_to (n := 9) (σ' := [(6, ⟨orows a, []⟩), (3, ⟨[.hole], [(0, .ref 6)]⟩), (2, ⟨[cnil], []⟩)]) (env' := [(2, .cell 2 0), (3, .cell 3 0)]) rfl rfl ⟨rfl, rfl, trivial⟩) ?_
  refine aw_region ?_
  refine run_s (ss_loadS rfl rfl rfl rfl) rfl ?_
  refine run_w (ws_storeS rfl rfl (Nat.le_of_ble_eq_true rfl) rfl rfl rfl ⟨rfl, ?_⟩)
  refine run_nil ?_
  refine aw_ret ?_
  exact retAF_mk (retv1 rfl (rv_struct rfl rfl rfl)) rfl rfl ⟨_, (cle_refl _), _, h, rfl⟩

theorem c_laws_toCycleSet (a : List (List Int)) (hp : small2 a) : AF Try.prog 16 [.agg [.lst (rows a)]] (fun R_ => R_ = .agg [.own (orows a)]) :=
  (w_laws_toCycleSet a (fun y0 => y0 = a) (p_laws_toCycleSet a hp)).mono (by rintro r ⟨_, rfl, rfl⟩; rfl)

set_option maxRecDepth 100000 in
set_option maxHeartbeats 4000000 in
theorem w_laws_szCycleSet (a : List (List Int)) (left : Int) (Q : Int → Prop) (h : wp_laws_szCycleSet a left Q) : AF Try.prog 14 [.agg [.lst (rows a)], ci left] (fun R_ => ∃ y0, Q y0 ∧ R_ = ci y0) := by
  refine AF.ofWQ (af_enter (n := 12) Try.func14 rfl (by rfl) rfl (Nat.le_of_ble_eq_true rfl) ?_)
  unfold wp_laws_szCycleSet at h
  refine aw_seq ?_
  refine aw_gh (gh_to (n := 12) (σ' := []) (env' := [(0, .c (.agg [.lst (rows a)])), (1, .c (ci left))]) rfl rfl ⟨rfl, rfl, trivial⟩) ?_
  refine aw_region ?_
  refine run_w (ws_boxR rfl (.inl rfl) rfl ⟨rfl, ?_⟩)
  refine run_s (ss_assign rfl) rfl ?_
  refine run_nil ?_
  refine aw_seq ?_
  refine aw_region ?_
  refine run_s (ss_field_ptr rfl) rfl ?_
  refine run_s (ss_load_ptr rfl rfl) rfl ?_
  refine run_s (ss_move rfl) rfl ?_
  obtain ⟨q1, h⟩ := h
  refine run_w (ws_call (xs := [.tmp 6, .tmp 7]) (ids := []) rfl rfl rfl rfl (c_laws_szInt64SS a left q1) rfl ?_ )
  rintro _ rfl
  refine ⟨rfl, ?_⟩
  refine run_s (ss_assign rfl) rfl ?_
  refine run_nil ?_
  refine aw_seq ?_
  refine aw_seq ?_
  refine aw_gh (gh_to (n := 12) (σ' := []) (env' := [(1, .c (ci (szII a left)))]) rfl rfl ⟨rfl, trivial⟩) ?_
  refine aw_region ?_
  refine run_s (ss_move rfl) rfl ?_
  refine run_s (ss_lss rfl rfl) rfl ?_
  refine run_nil ?_
  refine aw_cond rfl (fun q3 => ?_) (fun q3 => ?_)
  ·replace h := h.1 (of_decide_eq_true q3)
   refine aw_seq ?_
   refine aw_region ?_
   refine run_s (ss_assign rfl) rfl ?_
   refine run_nil ?_
   refine aw_ret ?_
   exact retAF_mk (retv1 rfl (rv_tmp rfl)) rfl rfl ⟨_, (cle_refl _), _, h, rfl⟩
  ·replace h := h.2 (of_decide_eq_false q3)
   refine aw_skip ?_
   refine aw_seq ?_
   refine aw_region ?_
   refine run_s (ss_move rfl) rfl ?_
   refine run_s (ss_assign rfl) rfl ?_
   refine run_nil ?_
   refine aw_ret ?_
   exact retAF_mk (retv1 rfl (rv_tmp rfl)) rfl rfl ⟨_, (cle_refl _), _, h, rfl⟩

theorem c_laws_szCycleSet (a : List (List Int)) (left : Int) (hp : InS left ∧ huge2 a) : AF Try.prog 14 [.agg [.lst (rows a)], ci left] (fun R_ => R_ = ci (szII a left)) :=
  (w_laws_szCycleSet a left (fun y0 => y0 = szII a left) (p_laws_szCycleSet a left hp)).mono (by rintro r ⟨_, rfl, rfl⟩; rfl)

set_option maxRecDepth 100000 in
set_option maxHeartbeats 4000000 in
theorem w_laws_eqCycleSet (a : List (List Int)) (b : List (List Int)) (Q : Bool → Prop) (h : wp_laws_eqCycleSet a b Q) : AF Try.prog 18 [.agg [.lst (rows a)], .agg [.lst (rows b)]] (fun R_ => ∃ y0, Q y0 ∧ R_ = cb y0) := by
  refine AF.ofWQ (af_enter (n := 11) Try.func18 rfl (by rfl) rfl (Nat.le_of_ble_eq_true rfl) ?_)
  unfold wp_laws_eqCycleSet at h
  refine aw_seq ?_
  refine aw_gh (gh_to (n := 11) (σ' := []) (env' := [(0, .c (.agg [.lst (rows a)])), (1, .c (.agg [.lst (rows b)]))]) rfl rfl ⟨rfl, rfl, trivial⟩) ?_
  refine aw_region ?_
  refine run_w (ws_boxR rfl (.inl rfl) rfl ⟨rfl, ?_⟩)
  refine run_w (ws_boxR rfl (.inl rfl) rfl ⟨rfl, ?_⟩)
  refine run_s (ss_assign rfl) rfl ?_
  refine run_nil ?_
  refine aw_seq ?_
  refine aw_seq ?_
  refine aw_region ?_
  refine run_s (ss_field_ptr rfl) rfl ?_
  refine run_s (ss_load_ptr rfl rfl) rfl ?_
  refine run_s (ss_field_ptr rfl) rfl ?_
  refine run_s (ss_load_ptr rfl rfl) rfl ?_
  obtain ⟨q1, h⟩ := h
  refine run_w (ws_call (xs := [.tmp 6, .tmp 8]) (ids := []) rfl rfl rfl rfl (c_laws_eqInt64SS a b q1) rfl ?_ )
  rintro _ rfl
  refine ⟨rfl, ?_⟩
  refine run_s (ss_not rfl) rfl ?_
  refine run_nil ?_
  refine aw_cond rfl (fun q3 => ?_) (fun q3 => ?_)
  ·replace h := h.1 (of_decide_eq_false (bnot_t q3))
   refine aw_seq ?_
   refine aw_gh (gh_to (n := 11) (σ' := []) (env' := [(4, .c (cb false))]) rfl rfl ⟨rfl, trivial⟩) ?_
   refine aw_region ?_
   refine run_s (ss_assign rfl) rfl ?_
   refine run_nil ?_
   refine aw_ret ?_
   exact retAF_mk (retv1 rfl (rv_tmp rfl)) rfl rfl ⟨_, (cle_refl _), _, h, rfl⟩
  ·replace h := h.2 (of_decide_eq_true (bnot_f q3))
   refine aw_skip ?_
   refine aw_seq ?_
   refine aw_gh (gh_to (n := 11) (σ' := []) (env' := [(4, .c (cb false))]) rfl rfl ⟨rfl, trivial⟩) ?_
   refine aw_region ?_
   refine run_s (ss_assign rfl) rfl ?_
   refine run_nil ?_
   refine aw_ret ?_
   exact retAF_mk (retv1 rfl (rv_tmp rfl)) rfl rfl ⟨_, (cle_refl _), _, h, rfl⟩

theorem c_laws_eqCycleSet (a : List (List Int)) (b : List (List Int)) (hp : small2 a ∧ small2 b) : AF Try.prog 18 [.agg [.lst (rows a)], .agg [.lst (rows b)]] (fun R_ => R_ = cb (decide (a = b))) :=
  (w_laws_eqCycleSet a b (fun y0 => y0 = decide (a = b)) (p_laws_eqCycleSet a b hp)).mono (by rintro r ⟨_, rfl, rfl⟩; rfl)

set_option maxRecDepth 100000 in
set_option maxHeartbeats 4000000 in
theorem w_laws_markCycleSet (a : List (List Int)) (k : Int) (Q : Int → List (List Int) → Prop) (h : wp_laws_markCycleSet a k Q) : AM Try.prog 19 [.agg [.own (orows a)], ci k] (fun R_ O_ => ∃ y0 w0, Q y0 w0 ∧ R_ = ci y0 ∧ O_ = [.agg [.own (orows w0)], ci k]) := by
  refine am_enter (n := 10) (m := 2) Try.func19 rfl (by rfl) rfl rfl (Nat.le_of_ble_eq_true rfl) [800] rfl ?_
  unfold wp_laws_markCycleSet at h
  refine aw_seq ?_
  refine aw_gh (gh_to (n := 10) (σ' := [(800, ⟨orows a, []⟩)]) (env' := [(0, .agg [.ref 800]), (1, .c (ci k)), (10, .agg [.ref 800]), (11, .c (ci k))]) rfl rfl ⟨rfl, rfl, rfl, rfl, trivial⟩) ?_
  refine aw_region ?_
  refine run_w (ws_boxS (id := 2) rfl rfl rfl (Nat.le_of_ble_eq_true rfl) rfl ⟨rfl, ?_⟩)
  refine run_s (ss_assign rfl) rfl ?_
  refine run_nil ?_
  refine aw_seq ?_
  refine aw_region ?_
  refine run_s (ss_field_cell rfl) rfl ?_
  refine run_s (ss_loadH rfl rfl rfl rfl) rfl ?_
  refine run_s (ss_move rfl) rfl ?_
  obtain ⟨q1, h⟩ := h
  refine run_w (ws_callM (xs := [.tmp 6, .tmp 7]) (cs := [.own (orows a), ci k]) (ids := []) rfl (.inr ⟨rfl, rfl⟩) rfl rfl rfl (c_laws_markInt64SS a k q1) rfl rfl ?_ )
  rintro _ _ ⟨rfl, rfl⟩
  refine ⟨rfl, rfl, ?_⟩
  refine run_s (ss_assign rfl) rfl ?_
  refine run_nil ?_
  refine aw_seq ?_
  refine aw_gh (gh_to (n := 10) (σ' := [(2, ⟨[.hole], [(0, .ref 800)]⟩), (800, ⟨orows (mkII k a), []⟩)]) (env' := [(1, .c (ci (k + tot a))), (4, .c (ci 0)), (10, .agg [.ref 800]), (11, .c (ci k))]) rfl rfl ⟨rfl, rfl, rfl, rfl, trivial⟩) ?_
  refine aw_region ?_
  refine run_s (ss_move rfl) rfl ?_
  refine run_s (ss_assign rfl) rfl ?_
  refine run_nil ?_
  refine aw_ret ?_
  exact retAM_mk (retv1 rfl (rv_tmp rfl)) rfl rfl rfl ⟨_, _, h, rfl, rfl⟩

theorem c_laws_markCycleSet (a : List (List Int)) (k : Int) (hp : small2 a ∧ okKT k a) : AM Try.prog 19 [.agg [.own (orows a)], ci k] (fun R_ O_ => R_ = ci (k + tot a) ∧ O_ = [.agg [.own (orows (mkII k a))], ci k]) :=
  (w_laws_markCycleSet a k (fun y0 w0 => y0 = k + tot a ∧ w0 = mkII k a) (p_laws_markCycleSet a k hp)).mono (by rintro r o ⟨_, _, ⟨rfl, rfl⟩, rfl, rfl⟩; exact ⟨rfl, rfl⟩)

set_option maxRecDepth 100000 in
set_option maxHeartbeats 4000000 in
theorem w_k_IndexFunc_rows (t : List (List Int)) (f_g : Nat) (f_c : List C) (f : List Int → Bool) (f_D : List Int → Prop) (f_h : ∀ x0, f_D x0 → AF Try.prog f_g ([.lst (ints x0)] ++ f_c) (fun R_ => R_ = cb (f x0))) (Q : Int → Prop) (h : wp_k_IndexFunc_rows t f f_D Q) : AF Try.prog 70 [.lst (rows t), .clo f_g f_c] (fun R_ => ∃ y0, Q y0 ∧ R_ = ci y0) := by
  refine AF.ofWQ (af_enter (n := 19) Try.func70 rfl (by rfl) rfl (Nat.le_of_ble_eq_true rfl) ?_)
  unfold wp_k_IndexFunc_rows at h
  refine aw_seq ?_
  refine aw_gh (gh_to (n := 19) (σ' := []) (env' := [(0, .c (.lst (rows t))), (1, .c (.clo f_g f_c))]) rfl rfl ⟨rfl, rfl, trivial⟩) ?_
  refine aw_region ?_
  refine run_s (ss_assign rfl) rfl ?_
  refine run_nil ?_
  refine aw_seq ?_
  refine aw_seq ?_
  refine aw_region ?_
  refine run_s (ss_move rfl) rfl ?_
  refine run_s (ss_lenL (f := (fun r => C.lst (ints r))) rfl) rfl ?_
  refine run_s (ss_move rfl) rfl ?_
  refine run_nil ?_
  refine aw_block ?_
  obtain ⟨H1, m1, q1, h⟩ := h
  refine aw_loop1 (fun (v8_1 : Int) => ⟨[], [(0, .c (.lst (rows t))), (1, .c (.clo f_g f_c)), (7, .c (ci (t.length : Int))), (8, .c (ci v8_1))], 19⟩) H1 m1 ⟨0, ghe_to (n := 19) rfl rfl ⟨rfl, rfl, rfl, rfl, trivial⟩, q1⟩ ?_
  rintro v8_1 q1
  replace h := h v8_1 q1
  refine aw_seq ?_
  refine aw_region ?_
  refine run_s (ss_lss rfl rfl) rfl ?_
  refine run_nil ?_
  refine aw_seq ?_
  refine aw_cond rfl (fun q2 => ?_) (fun q2 => ?_)
  ·replace h := h.1 (of_decide_eq_true q2)
   refine aw_skip ?_
   refine aw_seq ?_
   refine aw_block ?_
   refine aw_seq ?_
   refine aw_region ?_
   refine run_s (ss_move rfl) rfl ?_
   refine run_s (ss_assign rfl) rfl ?_
   refine run_nil ?_
   refine aw_seq ?_
   refine aw_region ?_
   refine run_s (ss_move rfl) rfl ?_
   refine run_s (ss_move rfl) rfl ?_
   refine run_s (ss_move rfl) rfl ?_
   obtain ⟨q3, h⟩ := h
   refine run_s (ss_idxL rfl rfl q3) rfl ?_
   refine run_s (ss_loadL (f := (fun r => C.lst (ints r))) rfl q3) rfl ?_
   obtain ⟨q4, h⟩ := h
   refine run_w (ws_call (xs := [.tmp 15]) (ids := []) rfl rfl rfl rfl (f_h (el t v8_1) q4) rfl ?_ )
   rintro _ rfl
   refine ⟨rfl, ?_⟩
   refine run_nil ?_
   refine aw_cond rfl (fun q5 => ?_) (fun q5 => ?_)
   ·replace h := h.1 (q5)
    refine aw_seq ?_
    refine aw_gh (gh_to (n := 19) (σ' := []) (env' := [(5, .c (ci v8_1))]) rfl rfl ⟨rfl, trivial⟩) ?_
    refine aw_region ?_
    refine run_s (ss_move rfl) rfl ?_
    refine run_s (ss_assign rfl) rfl ?_
    refine run_nil ?_
    refine aw_ret ?_
    exact retAF_mk (retv1 rfl (rv_tmp rfl)) rfl rfl ⟨_, (cle_refl _), _, h, rfl⟩
   ·replace h := h.2 (q5)
    refine aw_skip ?_
    refine aw_gh (gh_to (n := 19) (σ' := []) (env' := [(0, .c (.lst (rows t))), (1, .c (.clo f_g f_c)), (7, .c (ci (t.length : Int))), (8, .c (ci v8_1))]) rfl rfl ⟨rfl, rfl, rfl, rfl, trivial⟩) ?_
    refine aw_region ?_
    obtain ⟨q6, h⟩ := h
    refine run_s (ss_add rfl rfl q6) rfl ?_
    refine run_s (ss_move rfl) rfl ?_
    refine run_nil ?_
    exact ⟨v8_1 + 1, ghe_to (n := 19) rfl rfl ⟨rfl, rfl, rfl, rfl, trivial⟩, h.1, h.2⟩
  ·replace h := h.2 (of_decide_eq_false q2)
   refine aw_exit ?_
   refine aw_seq ?_
   refine aw_gh (gh_to (n := 19) (σ' := []) (env' := []) rfl rfl trivial) ?_
   refine aw_region ?_
   refine run_s (ss_assign rfl) rfl ?_
   refine run_nil ?_
   refine aw_ret ?_
   exact retAF_mk (retv1 rfl (rv_tmp rfl)) rfl rfl ⟨_, (cle_refl _), _, h, rfl⟩

theorem c_k_IndexFunc_rows (t : List (List Int)) (f_g : Nat) (f_c : List C) (f : List Int → Bool) (f_D : List Int → Prop) (f_h : ∀ x0, f_D x0 → AF Try.prog f_g ([.lst (ints x0)] ++ f_c) (fun R_ => R_ = cb (f x0))) (hp : small t ∧ ∀ r_ ∈ t, f_D r_) : AF Try.prog 70 [.lst (rows t), .clo f_g f_c] (fun R_ => R_ = ci (idxF t f)) :=
  (w_k_IndexFunc_rows t f_g f_c f f_D f_h (fun y0 => y0 = idxF t f) (p_k_IndexFunc_rows t f f_D hp)).mono (by rintro r ⟨_, rfl, rfl⟩; rfl)

set_option maxRecDepth 100000 in
set_option maxHeartbeats 4000000 in
theorem w_k_ContainsFunc_rows (t : List (List Int)) (f_g : Nat) (f_c : List C) (f : List Int → Bool) (f_D : List Int → Prop) (f_h : ∀ x0, f_D x0 → AF Try.prog f_g ([.lst (ints x0)] ++ f_c) (fun R_ => R_ = cb (f x0))) (Q : Bool → Prop) (h : wp_k_ContainsFunc_rows t f f_D Q) : AF Try.prog 63 [.lst (rows t), .clo f_g f_c] (fun R_ => ∃ y0, Q y0 ∧ R_ = cb y0) := by
  refine AF.ofWQ (af_enter (n := 9) Try.func63 rfl (by rfl) rfl (Nat.le_of_ble_eq_true rfl) ?_)
  unfold wp_k_ContainsFunc_rows at h
  refine aw_seq ?_
  refine aw_gh (gh_to (n := 9) (σ' := []) (env' := [(0, .c (.lst (rows t))), (1, .c (.clo f_g f_c))]) rfl rfl ⟨rfl, rfl, trivial⟩) ?_
  refine aw_region ?_
  refine run_s (ss_assign rfl) rfl ?_
  refine run_nil ?_
  refine aw_seq ?_
  refine aw_region ?_
  refine run_s (ss_move rfl) rfl ?_
  refine run_s (ss_move rfl) rfl ?_
  obtain ⟨q1, h⟩ := h
  refine run_w (ws_call (xs := [.tmp 5, .tmp 6]) (ids := []) rfl rfl rfl rfl (c_k_IndexFunc_rows t f_g f_c f f_D f_h q1) rfl ?_ )
  rintro _ rfl
  refine ⟨rfl, ?_⟩
  refine run_s (ss_geq rfl rfl) rfl ?_
  refine run_s (ss_assign rfl) rfl ?_
  refine run_nil ?_
  refine aw_ret ?_
  exact retAF_mk (retv1 rfl (rv_tmp rfl)) rfl rfl ⟨_, (cle_refl _), _, h, rfl⟩

theorem c_k_ContainsFunc_rows (t : List (List Int)) (f_g : Nat) (f_c : List C) (f : List Int → Bool) (f_D : List Int → Prop) (f_h : ∀ x0, f_D x0 → AF Try.prog f_g ([.lst (ints x0)] ++ f_c) (fun R_ => R_ = cb (f x0))) (hp : small t ∧ ∀ r_ ∈ t, f_D r_) : AF Try.prog 63 [.lst (rows t), .clo f_g f_c] (fun R_ => R_ = cb (t.any f)) :=
  (w_k_ContainsFunc_rows t f_g f_c f f_D f_h (fun y0 => y0 = t.any f) (p_k_ContainsFunc_rows t f f_D hp)).mono (by rintro r ⟨_, rfl, rfl⟩; rfl)

set_option maxRecDepth 100000 in
set_option maxHeartbeats 4000000 in
theorem w_impl_IsTable_1 (row : List Int) (n : Int) (Q : Bool → Prop) (h : wp_impl_IsTable_1 row n Q) : AF Try.prog 64 [.lst (ints row), .ptr [ci n]] (fun R_ => ∃ y0, Q y0 ∧ R_ = cb y0) := by
  refine AF.ofWQ (af_enter (n := 15) Try.func64 rfl (by rfl) rfl (Nat.le_of_ble_eq_true rfl) ?_)
  unfold wp_impl_IsTable_1 at h
  refine aw_seq ?_
  refine aw_gh (gh_to (n := 15) (σ' := []) (env' := [(0, .c (.lst (ints row))), (1, .c (.ptr [ci n]))]) rfl rfl ⟨rfl, rfl, trivial⟩) ?_
  refine aw_region ?_
  refine run_s (ss_assign rfl) rfl ?_
  refine run_nil ?_
  refine aw_seq ?_
  refine aw_region ?_
  refine run_s (ss_move rfl) rfl ?_
  refine run_s (ss_lenL (f := ci) rfl) rfl ?_
  refine run_s (ss_load_ptr rfl rfl) rfl ?_
  refine run_s (ss_neq rfl rfl) rfl ?_
  refine run_s (ss_move rfl) rfl ?_
  refine run_split (s := 8) rfl (fun q1 => ?_) (fun q1 => ?_)
  ·replace h := h.1 (of_decide_eq_false (bnot_t q1))
   refine run_gf rfl rfl q1 rfl ?_
   refine run_gf rfl rfl q1 rfl ?_
   refine run_gf rfl rfl q1 rfl ?_
   refine run_gf rfl rfl q1 rfl ?_
   refine run_gf rfl rfl q1 rfl ?_
   refine run_s (ss_pickT rfl q1 rfl) rfl ?_
   refine run_s (ss_assign rfl) rfl ?_
   refine run_nil ?_
   refine aw_ret ?_
   exact retAF_mk (retv1 rfl (rv_tmp rfl)) rfl rfl ⟨_, (cle_refl _), _, h, rfl⟩
  ·replace h := h.2 (of_decide_eq_true (bnot_f q1))
   refine run_gt rfl rfl q1 ?_
   refine run_s (ss_move rfl) rfl ?_
   refine run_gt rfl rfl q1 ?_
   refine run_s (ss_load_ptr rfl rfl) rfl ?_
   refine run_gt rfl rfl q1 ?_
   obtain ⟨q2, h⟩ := h
   refine run_s (ss_sub rfl rfl q2) rfl ?_
   refine run_gt rfl rfl q1 ?_
   obtain ⟨q3, h⟩ := h
   refine run_w (ws_call (xs := [.tmp 9, .const (.int .i64 (0)), .tmp 11]) (ids := []) rfl rfl rfl rfl (c_impl_allWithin row 0 (n - 1) q3) rfl ?_ )
   rintro _ rfl
   refine ⟨rfl, ?_⟩
   refine run_gt rfl rfl q1 ?_
   refine run_s (ss_not rfl) rfl ?_
   refine run_s (ss_pickF rfl q1 rfl) rfl ?_
   refine run_s (ss_assign rfl) rfl ?_
   refine run_nil ?_
   refine aw_ret ?_
   exact retAF_mk (retv1 rfl (rv_tmp rfl)) rfl rfl ⟨_, (cle_refl _), _, h, rfl⟩

theorem c_impl_IsTable_1 (row : List Int) (n : Int) (hp : small row ∧ 0 ≤ n ∧ n ≤ 12) : AF Try.prog 64 [.lst (ints row), .ptr [ci n]] (fun R_ => R_ = cb (badRow n row)) :=
  (w_impl_IsTable_1 row n (fun y0 => y0 = badRow n row) (p_impl_IsTable_1 row n hp)).mono (by rintro r ⟨_, rfl, rfl⟩; rfl)

set_option maxRecDepth 100000 in
set_option maxHeartbeats 4000000 in
theorem w_impl_IsTable (t : List (List Int)) (Q : Bool → Prop) (h : wp_impl_IsTable t Q) : AF Try.prog 41 [.lst (rows t)] (fun R_ => ∃ y0, Q y0 ∧ R_ = cb y0) := by
  refine AF.ofWQ (af_enter (n := 14) Try.func41 rfl (by rfl) rfl (Nat.le_of_ble_eq_true rfl) ?_)
  unfold wp_impl_IsTable at h
  refine aw_seq ?_
  refine aw_gh (gh_to (n := 14) (σ' := []) (env' := [(0, .c (.lst (rows t)))]) rfl rfl ⟨rfl, trivial⟩) ?_
  refine aw_region ?_
  refine run_s (ss_assign rfl) rfl ?_
  refine run_nil ?_
  refine aw_seq ?_
  refine aw_region ?_
  refine run_s (ss_move rfl) rfl ?_
  refine run_s (ss_lenL (f := (fun r => C.lst (ints r))) rfl) rfl ?_
  refine run_w (ws_alloc (id := 3) rfl (Nat.le_of_ble_eq_true rfl) ⟨rfl, ?_⟩)
  refine run_w (ws_store rfl rfl (Nat.le_of_ble_eq_true rfl) rfl rfl ⟨rfl, ?_⟩)
  refine run_nil ?_
  refine aw_seq ?_
  refine aw_region ?_
  refine run_s (ss_loadC rfl rfl rfl rfl rfl) rfl ?_
  refine run_w (ws_call (xs := [.tmp 6, .const (.int .i64 (1)), .const (.int .i64 (12))]) (ids := []) rfl rfl rfl rfl (c_impl_within (t.length : Int) 1 12) rfl ?_ )
  rintro _ rfl
  refine ⟨rfl, ?_⟩
  refine run_s (ss_move rfl) rfl ?_
  refine run_split (s := 8) rfl (fun q2 => ?_) (fun q2 => ?_)
  ·replace h := h.1 (q2)
   refine run_gt rfl rfl q2 ?_
   refine run_s (ss_move rfl) rfl ?_
   refine run_gt rfl rfl q2 ?_
   refine run_gh (gh_freeze (id := 3) rfl rfl) ?_
   refine run_s (ss_makeFunc (os := [.tmp 3]) rfl) rfl ?_
   refine run_gt rfl rfl q2 ?_
   obtain ⟨q3, h⟩ := h
   refine run_w (ws_call (xs := [.tmp 9, .tmp 10]) (ids := []) rfl rfl rfl rfl (c_k_ContainsFunc_rows t 64 [.ptr [ci (t.length : Int)]] (fun z0 => badRow (t.length : Int) z0) (fun z0 => small z0 ∧ 0 ≤ (t.length : Int) ∧ (t.length : Int) ≤ 12) (fun z0 hD => c_impl_IsTable_1 z0 (t.length : Int) hD) q3) rfl ?_ )
   rintro _ rfl
   refine ⟨rfl, ?_⟩
   refine run_gt rfl rfl q2 ?_
   refine run_s (ss_not rfl) rfl ?_
   refine run_s (ss_pickT rfl q2 rfl) rfl ?_
   refine run_s (ss_assign rfl) rfl ?_
   refine run_nil ?_
   refine aw_ret ?_
   exact retAF_mk (retv1 rfl (rv_tmp rfl)) rfl rfl ⟨_, (cle_refl _), _, h, rfl⟩
  ·replace h := h.2 (q2)
   refine run_gf rfl rfl q2 rfl ?_
   refine run_gf rfl rfl q2 rfl ?_
   refine run_gf rfl rfl q2 rfl ?_
   refine run_gf rfl rfl q2 rfl ?_
   refine run_s (ss_pickF rfl q2 rfl) rfl ?_
   refine run_s (ss_assign rfl) rfl ?_
   refine run_nil ?_
   refine aw_ret ?_
   exact retAF_mk (retv1 rfl (rv_tmp rfl)) rfl rfl ⟨_, (cle_refl _), _, h, rfl⟩

theorem c_impl_IsTable (t : List (List Int)) (hp : small2 t) : AF Try.prog 41 [.lst (rows t)] (fun R_ => R_ = cb (isTab t)) :=
  (w_impl_IsTable t (fun y0 => y0 = isTab t) (p_impl_IsTable t hp)).mono (by rintro r ⟨_, rfl, rfl⟩; rfl)

set_option maxRecDepth 100000 in
set_option maxHeartbeats 4000000 in
theorem w_impl_squaresOf (c : List (List Int)) (Q : List Int → Prop) (h : wp_impl_squaresOf c Q) : AF Try.prog 54 [.agg [.lst (rows c)]] (fun R_ => ∃ y0, Q y0 ∧ R_ = .own (ints y0)) := by
  refine AF.ofWQ (af_enter (n := 27) Try.func54 rfl (by rfl) rfl (Nat.le_of_ble_eq_true rfl) ?_)
  unfold wp_impl_squaresOf at h
  refine aw_seq ?_
  refine aw_gh (gh_to (n := 27) (σ' := []) (env' := [(0, .c (.agg [.lst (rows c)]))]) rfl rfl ⟨rfl, trivial⟩) ?_
  refine aw_region ?_
  refine run_w (ws_boxR rfl (.inl rfl) rfl ⟨rfl, ?_⟩)
  refine run_s (ss_assign rfl) rfl ?_
  refine run_nil ?_
  refine aw_seq ?_
  refine aw_region ?_
  refine run_s (ss_field_ptr rfl) rfl ?_
  refine run_s (ss_load_ptr rfl rfl) rfl ?_
  refine run_s (ss_lenL (f := (fun r => C.lst (ints r))) rfl) rfl ?_
  obtain ⟨q1, h⟩ := h
  refine run_w (ws_mk (id := 8) ci (0 : Int) rfl rfl rfl q1 (Nat.le_of_ble_eq_true rfl) rfl ⟨rfl, ?_⟩)
  refine run_s (ss_assign rfl) rfl ?_
  refine run_nil ?_
  refine aw_seq ?_
  refine aw_seq ?_
  refine aw_gh (gh_to (n := 27) (σ' := [(8, ⟨ints (List.replicate (c.length : Int).toNat (0 : Int)), []⟩)]) (env' := [(1, .c (.ptr [.lst (rows c)])), (3, .ref 8)]) rfl rfl ⟨rfl, rfl, trivial⟩) ?_
  refine aw_region ?_
  refine run_s (ss_move rfl) rfl ?_
  refine run_s (ss_lenR (f := ci) rfl rfl) rfl ?_
  refine run_s (ss_move rfl) rfl ?_
  refine run_nil ?_
  refine aw_block ?_
  obtain ⟨H1, m1, q2, h⟩ := h
  refine aw_loop2 (fun (v11_1 : Int) (o8_1 : List Int) => ⟨[(8, ⟨ints o8_1, []⟩)], [(1, .c (.ptr [.lst (rows c)])), (3, .ref 8), (10, .c (ci ((List.replicate (c.length : Int).toNat (0 : Int)).length : Int))), (11, .c (ci v11_1))], 27⟩) H1 m1 ⟨0, List.replicate (c.length : Int).toNat (0 : Int), ghe_to (n := 27) rfl rfl ⟨rfl, rfl, rfl, rfl, trivial⟩, q2⟩ ?_
  rintro v11_1 o8_1 q2
  replace h := h v11_1 o8_1 q2
  refine aw_seq ?_
  refine aw_region ?_
  refine run_s (ss_lss rfl rfl) rfl ?_
  refine run_nil ?_
  refine aw_seq ?_
  refine aw_cond rfl (fun q3 => ?_) (fun q3 => ?_)
  ·replace h := h.1 (of_decide_eq_true q3)
   refine aw_skip ?_
   refine aw_seq ?_
   refine aw_block ?_
   refine aw_seq ?_
   refine aw_region ?_
   refine run_s (ss_move rfl) rfl ?_
   refine run_s (ss_assign rfl) rfl ?_
   refine run_nil ?_
   refine aw_region ?_
   refine run_s (ss_move rfl) rfl ?_
   refine run_s (ss_move rfl) rfl ?_
   refine run_s (ss_field_ptr rfl) rfl ?_
   refine run_s (ss_load_ptr rfl rfl) rfl ?_
   refine run_s (ss_move rfl) rfl ?_
   obtain ⟨q4, h⟩ := h
   refine run_s (ss_idxL rfl rfl q4) rfl ?_
   refine run_s (ss_loadL (f := (fun r => C.lst (ints r))) rfl q4) rfl ?_
   refine run_s (ss_move rfl) rfl ?_
   obtain ⟨q5, h⟩ := h
   refine run_s (ss_idxL rfl rfl q5) rfl ?_
   refine run_s (ss_loadL (f := ci) rfl q5) rfl ?_
   obtain ⟨q6, h⟩ := h
   refine run_s (ss_idxR (f := ci) rfl rfl rfl q6) rfl ?_
   refine run_w (ws_storeE rfl rfl (map_lt q6) rfl rfl (map_se (f := ci)) rfl ⟨rfl, ?_⟩)
   refine run_nil ?_
   refine aw_gh (gh_to (n := 27) (σ' := [(8, ⟨ints (se o8_1 v11_1 (el (el c v11_1) v11_1)), []⟩)]) (env' := [(1, .c (.ptr [.lst (rows c)])), (3, .ref 8), (10, .c (ci ((List.replicate (c.length : Int).toNat (0 : Int)).length : Int))), (11, .c (ci v11_1))]) rfl rfl ⟨rfl, rfl, rfl, rfl, trivial⟩) ?_
   refine aw_region ?_
   obtain ⟨q7, h⟩ := h
   refine run_s (ss_add rfl rfl q7) rfl ?_
   refine run_s (ss_move rfl) rfl ?_
   refine run_nil ?_
   exact ⟨v11_1 + 1, se o8_1 v11_1 (el (el c v11_1) v11_1), ghe_to (n := 27) rfl rfl ⟨rfl, rfl, rfl, rfl, trivial⟩, h.1, h.2⟩
  ·replace h := h.2 (of_decide_eq_false q3)
   refine aw_exit ?_
   refine aw_seq ?_
   refine aw_region ?_
   refine run_s (ss_move rfl) rfl ?_
   refine run_s (ss_assign rfl) rfl ?_
   refine run_nil ?_
   refine aw_ret ?_
   exact retAF_mk (retv1 rfl (rv_tmp rfl)) rfl rfl ⟨_, (cle_refl _), _, h, rfl⟩

theorem c_impl_squaresOf (c : List (List Int)) (hp : isTab c = true) : AF Try.prog 54 [.agg [.lst (rows c)]] (fun R_ => R_ = .own (ints (diag c))) :=
  (w_impl_squaresOf c (fun y0 => y0 = diag c) (p_impl_squaresOf c hp)).mono (by rintro r ⟨_, rfl, rfl⟩; rfl)

end Go.Proofs.Ytkmoeodoidpjkaa

/- Contracts of functions that the law FnExactCycleIsomorphism reaches: conditions, plain proofs, walks; no condition. -/
import Derived.Test.YtkmoeodoidpjkaaKECycleIsomorphisma
import Derived.Test.YtkmoeodoidpjkaaPP
namespace Go.Proofs.Ytkmoeodoidpjkaa

def wp_spec_l01Index (list : List Int) (n : Int) (Q : Int → Prop) : Prop :=
 ∃ (H1 : Int → Prop) (m1 : Int → Nat),
 H1 0 ∧
 ∀ (v5_1 : Int), H1 v5_1 →
 ( ((v5_1 < (list.length : Int) →
 (0 ≤ v5_1 ∧ v5_1 < (list.length : Int)) ∧
 ((el list v5_1 = n →
 Q v5_1) ∧
 (¬ (el list v5_1 = n) →
 (InI (v5_1 + 1)) ∧
 (H1 (v5_1 + 1) ∧ m1 (v5_1 + 1) < m1 v5_1)))) ∧
 (¬ (v5_1 < (list.length : Int)) →
 Q (-1))))

def wp_spec_l01Has (list : List Int) (n : Int) (Q : Bool → Prop) : Prop :=
 (small list) ∧
 Q (decide (0 ≤ idxI list n))

def wp_spec_l01Perm (p : List Int) (Q : Bool → Prop) : Prop :=
 (((decide ((1 : Int) ≤ (p.length : Int)) && decide ((p.length : Int) ≤ (12 : Int))) = false →
 Q false) ∧
 ((decide ((1 : Int) ≤ (p.length : Int)) && decide ((p.length : Int) ≤ (12 : Int))) = true →
 ∃ (H1 : Int → Prop) (m1 : Int → Nat),
 H1 0 ∧
 ∀ (v4_1 : Int), H1 v4_1 →
 ( ((v4_1 < (p.length : Int) →
 (small p) ∧
 (((p.contains v4_1) = false →
 Q false) ∧
 ((p.contains v4_1) = true →
 (InI (v4_1 + 1)) ∧
 (H1 (v4_1 + 1) ∧ m1 (v4_1 + 1) < m1 v4_1)))) ∧
 (¬ (v4_1 < (p.length : Int)) →
 Q true)))))

def wp_spec_l01Own (list : List Int) (Q : List Int → Prop) : Prop :=
 ((([] : List Int).length : Int) + (list.length : Int) ≤ 1000000000) ∧
 Q (([] : List Int) ++ list)

def wp_spec_l01Table (t : List (List Int)) (Q : Bool → Prop) : Prop :=
 (((decide ((1 : Int) ≤ (t.length : Int)) && decide ((t.length : Int) ≤ (12 : Int))) = false →
 Q false) ∧
 ((decide ((1 : Int) ≤ (t.length : Int)) && decide ((t.length : Int) ≤ (12 : Int))) = true →
 ∃ (H1 : Int → Prop) (m1 : Int → Nat),
 H1 0 ∧
 ∀ (v4_1 : Int), H1 v4_1 →
 ( ((v4_1 < (t.length : Int) →
 (0 ≤ v4_1 ∧ v4_1 < (t.length : Int)) ∧
 ((¬ (((el t v4_1).length : Int) = (t.length : Int)) →
 Q false) ∧
 (((el t v4_1).length : Int) = (t.length : Int) →
 ∃ (H2 : Int → Prop) (m2 : Int → Nat),
 H2 0 ∧
 ∀ (v5_2 : Int), H2 v5_2 →
 ( ((v5_2 < (t.length : Int) →
 (0 ≤ v4_1 ∧ v4_1 < (t.length : Int)) ∧
 (0 ≤ v5_2 ∧ v5_2 < ((el t v4_1).length : Int)) ∧
 (InI ((t.length : Int) - 1)) ∧
 (((decide ((0 : Int) ≤ (el (el t v4_1) v5_2)) && decide ((el (el t v4_1) v5_2) ≤ ((t.length : Int) - 1))) = false →
 Q false) ∧
 ((decide ((0 : Int) ≤ (el (el t v4_1) v5_2)) && decide ((el (el t v4_1) v5_2) ≤ ((t.length : Int) - 1))) = true →
 (InI (v5_2 + 1)) ∧
 (H2 (v5_2 + 1) ∧ m2 (v5_2 + 1) < m2 v5_2)))) ∧
 (¬ (v5_2 < (t.length : Int)) →
 (InI (v4_1 + 1)) ∧
 (H1 (v4_1 + 1) ∧ m1 (v4_1 + 1) < m1 v4_1))))))) ∧
 (¬ (v4_1 < (t.length : Int)) →
 Q true)))))

def wp_spec_l05Squares (t : List (List Int)) (Q : List Int → Prop) : Prop :=
 ∃ (H1 : Int → List Int → Prop) (m1 : Int → List Int → Nat),
 H1 0 ([] : List Int) ∧
 ∀ (v4_1 : Int) (o5_1 : List Int), H1 v4_1 o5_1 →
 ( ((v4_1 < (t.length : Int) →
 (0 ≤ v4_1 ∧ v4_1 < (t.length : Int)) ∧
 (0 ≤ v4_1 ∧ v4_1 < ((el t v4_1).length : Int)) ∧
 ((o5_1.length : Int) + (([el (el t v4_1) v4_1]).length : Int) ≤ 1000000000) ∧
 (InI (v4_1 + 1)) ∧
 (H1 (v4_1 + 1) (o5_1 ++ ([el (el t v4_1) v4_1])) ∧ m1 (v4_1 + 1) (o5_1 ++ ([el (el t v4_1) v4_1])) < m1 v4_1 o5_1)) ∧
 (¬ (v4_1 < (t.length : Int)) →
 Q o5_1)))

def wp_spec_l05Fault (t : List (List Int)) (Q : List Int → Prop) : Prop :=
 ∃ (H1 : Int → Prop) (m1 : Int → Nat),
 H1 0 ∧
 ∀ (v4_1 : Int), H1 v4_1 →
 ( ((v4_1 < (t.length : Int) →
 ∃ (H2 : Int → Prop) (m2 : Int → Nat),
 H2 0 ∧
 ∀ (v5_2 : Int), H2 v5_2 →
 ( ((v5_2 < (t.length : Int) →
 ∃ (H3 : Int → Prop) (m3 : Int → Nat),
 H3 0 ∧
 ∀ (v6_3 : Int), H3 v6_3 →
 ( ((v6_3 < (t.length : Int) →
 (0 ≤ v4_1 ∧ v4_1 < (t.length : Int)) ∧
 (0 ≤ v4_1 ∧ v4_1 < (t.length : Int)) ∧
 (0 ≤ v5_2 ∧ v5_2 < (t.length : Int)) ∧
 (0 ≤ v5_2 ∧ v5_2 < (t.length : Int)) ∧
 (0 ≤ v5_2 ∧ v5_2 < ((el t v4_1).length : Int)) ∧
 (0 ≤ el (el t v4_1) v5_2 ∧ el (el t v4_1) v5_2 < (t.length : Int)) ∧
 (0 ≤ v6_3 ∧ v6_3 < ((el t v4_1).length : Int)) ∧
 (0 ≤ el (el t v4_1) v6_3 ∧ el (el t v4_1) v6_3 < ((el t (el (el t v4_1) v5_2)).length : Int)) ∧
 (0 ≤ v4_1 ∧ v4_1 < ((el t v5_2).length : Int)) ∧
 (0 ≤ el (el t v5_2) v4_1 ∧ el (el t v5_2) v4_1 < (t.length : Int)) ∧
 (0 ≤ v6_3 ∧ v6_3 < ((el t v5_2).length : Int)) ∧
 (0 ≤ el (el t v5_2) v6_3 ∧ el (el t v5_2) v6_3 < ((el t (el (el t v5_2) v4_1)).length : Int)) ∧
 ((¬ (el (el t (el (el t v4_1) v5_2)) (el (el t v4_1) v6_3) = el (el t (el (el t v5_2) v4_1)) (el (el t v5_2) v6_3)) →
 Q ([v4_1, v5_2, v6_3])) ∧
 (el (el t (el (el t v4_1) v5_2)) (el (el t v4_1) v6_3) = el (el t (el (el t v5_2) v4_1)) (el (el t v5_2) v6_3) →
 (InI (v6_3 + 1)) ∧
 (H3 (v6_3 + 1) ∧ m3 (v6_3 + 1) < m3 v6_3)))) ∧
 (¬ (v6_3 < (t.length : Int)) →
 (InI (v5_2 + 1)) ∧
 (H2 (v5_2 + 1) ∧ m2 (v5_2 + 1) < m2 v5_2))))) ∧
 (¬ (v5_2 < (t.length : Int)) →
 (InI (v4_1 + 1)) ∧
 (H1 (v4_1 + 1) ∧ m1 (v4_1 + 1) < m1 v4_1))))) ∧
 (¬ (v4_1 < (t.length : Int)) →
 Q ([] : List Int))))

def wp_impl_cycleFault (t : List (List Int)) (Q : List Int → Prop) : Prop :=
 ∃ (H1 : Int → Prop) (m1 : Int → Nat),
 H1 0 ∧
 ∀ (v10_1 : Int), H1 v10_1 →
 ( ((v10_1 < (t.length : Int) →
 ∃ (H2 : Int → Prop) (m2 : Int → Nat),
 H2 0 ∧
 ∀ (v14_2 : Int), H2 v14_2 →
 ( ((v14_2 < (t.length : Int) →
 ∃ (H3 : Int → Prop) (m3 : Int → Nat),
 H3 0 ∧
 ∀ (v18_3 : Int), H3 v18_3 →
 ( ((v18_3 < (t.length : Int) →
 (0 ≤ v10_1 ∧ v10_1 < (t.length : Int)) ∧
 (0 ≤ v10_1 ∧ v10_1 < (t.length : Int)) ∧
 (0 ≤ v14_2 ∧ v14_2 < (t.length : Int)) ∧
 (0 ≤ v14_2 ∧ v14_2 < (t.length : Int)) ∧
 (0 ≤ v14_2 ∧ v14_2 < ((el t v10_1).length : Int)) ∧
 (0 ≤ el (el t v10_1) v14_2 ∧ el (el t v10_1) v14_2 < (t.length : Int)) ∧
 (0 ≤ v18_3 ∧ v18_3 < ((el t v10_1).length : Int)) ∧
 (0 ≤ el (el t v10_1) v18_3 ∧ el (el t v10_1) v18_3 < ((el t (el (el t v10_1) v14_2)).length : Int)) ∧
 (0 ≤ v10_1 ∧ v10_1 < ((el t v14_2).length : Int)) ∧
 (0 ≤ el (el t v14_2) v10_1 ∧ el (el t v14_2) v10_1 < (t.length : Int)) ∧
 (0 ≤ v18_3 ∧ v18_3 < ((el t v14_2).length : Int)) ∧
 (0 ≤ el (el t v14_2) v18_3 ∧ el (el t v14_2) v18_3 < ((el t (el (el t v14_2) v10_1)).length : Int)) ∧
 ((¬ (el (el t (el (el t v10_1) v14_2)) (el (el t v10_1) v18_3) = el (el t (el (el t v14_2) v10_1)) (el (el t v14_2) v18_3)) →
 Q ([v10_1, v14_2, v18_3])) ∧
 (el (el t (el (el t v10_1) v14_2)) (el (el t v10_1) v18_3) = el (el t (el (el t v14_2) v10_1)) (el (el t v14_2) v18_3) →
 (InI (v18_3 + 1)) ∧
 (H3 (v18_3 + 1) ∧ m3 (v18_3 + 1) < m3 v18_3)))) ∧
 (¬ (v18_3 < (t.length : Int)) →
 (InI (v14_2 + 1)) ∧
 (H2 (v14_2 + 1) ∧ m2 (v14_2 + 1) < m2 v14_2))))) ∧
 (¬ (v14_2 < (t.length : Int)) →
 (InI (v10_1 + 1)) ∧
 (H1 (v10_1 + 1) ∧ m1 (v10_1 + 1) < m1 v10_1))))) ∧
 (¬ (v10_1 < (t.length : Int)) →
 Q ([]))))

theorem p_spec_l01Index (list : List Int) (n : Int) (hp : small list) : wp_spec_l01Index list n (fun y0 => y0 = idxI list n) := by
  unfold wp_spec_l01Index idxI
  refine ⟨fun i => 0 ≤ i ∧ i ≤ (list.length : Int) ∧ Upto i fun j => (el list j == n) = false, fun i => ((list.length : Int) - i).toNat, ⟨by omega, by omega, upto0⟩, ?_⟩
  rintro i ⟨h0, h1, hI⟩
  dsimp only
  refine ⟨fun hlt => ⟨⟨h0, hlt⟩, fun hf => (idxF_found ⟨h0, hlt⟩ hI (by simpa using hf)).symm, fun ht => ⟨⟨by omega, by omega⟩, ⟨by omega, by omega, upto1 hI (by simpa using ht)⟩, by omega⟩⟩, fun hge => ?_⟩
  exact (idxF_none (by rwa [show i = (list.length : Int) by omega] at hI)).symm
theorem p_spec_l01Has (list : List Int) (n : Int) (hp : small list) : wp_spec_l01Has list n (fun y0 => y0 = list.contains n) := ⟨hp, idxI_has⟩
theorem p_spec_l01Perm (p : List Int) (hp : small p) : wp_spec_l01Perm p (fun y0 => y0 = permB p) := by
  unfold wp_spec_l01Perm permB
  refine ⟨fun h => by rw [h]; rfl, fun h => ?_⟩
  rw [h]
  refine ⟨fun i => 0 ≤ i ∧ i ≤ (p.length : Int) ∧ Upto i fun j => j ∈ p, fun i => ((p.length : Int) - i).toNat, ⟨by omega, by omega, upto0⟩, ?_⟩
  rintro i ⟨h0, h1, hI⟩
  dsimp only
  refine ⟨fun hlt => ⟨hp, fun hf => ?_, fun ht => ⟨⟨by omega, by omega⟩, ⟨by omega, by omega, upto1 hI (List.contains_iff_mem.1 ht)⟩, by omega⟩⟩, fun hge => ?_⟩
  · cases hb : isPerm p with
    | false => rfl
    | true => rw [List.contains_iff_mem.2 (isPerm_all hb ⟨h0, hlt⟩)] at hf; cases hf
  · rw [isPerm_of_all fun x a b => hI x a (by omega)]; rfl
theorem p_spec_l01Own (list : List Int) (hp : small list) : wp_spec_l01Own list (fun y0 => y0 = list) := ⟨by simp; omega, rfl⟩
theorem p_spec_l01Table (t : List (List Int)) (hp : small2 t) : wp_spec_l01Table t (fun y0 => y0 = isTab t) := by
  unfold wp_spec_l01Table
  refine ⟨fun h => by unfold isTab; rw [h]; rfl, fun h => ?_⟩
  simp only [Bool.and_eq_true, decide_eq_true_eq] at h
  have nt : ∀ i, (0 ≤ i ∧ i < (t.length : Int)) → (((el t i).length : Int) ≠ (t.length : Int) ∨ ∃ j, (0 ≤ j ∧ j < (t.length : Int)) ∧ ¬ (0 ≤ el (el t i) j ∧ el (el t i) j < (t.length : Int))) → false = isTab t := by
    intro i hi hn
    cases hb : isTab t with
    | false => rfl
    | true =>
      have := isTab_row hb hi
      rcases hn with hn | ⟨j, hj, hn⟩
      · exact absurd this.1 hn
      · exact absurd (this.2 j hj.1 hj.2) hn
  refine ⟨fun i => 0 ≤ i ∧ i ≤ (t.length : Int) ∧ Upto i fun i => ((el t i).length : Int) = (t.length : Int) ∧ ∀ j, 0 ≤ j → j < (t.length : Int) → 0 ≤ el (el t i) j ∧ el (el t i) j < (t.length : Int), fun i => ((t.length : Int) - i).toNat, ⟨by omega, by omega, upto0⟩, ?_⟩
  rintro i ⟨h0, h1, hI⟩
  dsimp only
  refine ⟨fun hlt => ⟨⟨h0, hlt⟩, fun hf => nt i ⟨h0, hlt⟩ (.inl hf), fun hr => ?_⟩, fun hge => (isTab_mk h fun i a b => hI i a (by omega)).symm⟩
  refine ⟨fun j => 0 ≤ j ∧ j ≤ (t.length : Int) ∧ Upto j fun j => 0 ≤ el (el t i) j ∧ el (el t i) j < (t.length : Int), fun j => ((t.length : Int) - j).toNat, ⟨by omega, by omega, upto0⟩, ?_⟩
  rintro j ⟨j0, j1, jI⟩
  dsimp only
  refine ⟨fun jlt => ⟨⟨h0, hlt⟩, ⟨j0, by omega⟩, ⟨by omega, by omega⟩, fun hf => ?_, fun ht => ?_⟩, fun jge => ⟨⟨by omega, by omega⟩, ⟨by omega, by omega, upto1 hI ⟨hr, fun j a b => jI j a (by omega)⟩⟩, by omega⟩⟩
  · simp only [Bool.and_eq_false_iff, decide_eq_false_iff_not] at hf
    exact nt i ⟨h0, hlt⟩ (.inr ⟨j, ⟨j0, jlt⟩, by omega⟩)
  · simp only [Bool.and_eq_true, decide_eq_true_eq] at ht
    exact ⟨⟨by omega, by omega⟩, ⟨by omega, by omega, upto1 jI ⟨ht.1, by omega⟩⟩, by omega⟩

theorem p_spec_l05Squares (t : List (List Int)) (hp : isTab t = true) : wp_spec_l05Squares t (fun y0 => y0 = diag t) := by
  unfold wp_spec_l05Squares
  have hn := isTab_len hp
  refine ⟨fun i o => 0 ≤ i ∧ i ≤ (t.length : Int) ∧ o.length = i.toNat ∧ Upto i fun x => el o x = el (el t x) x, fun i _ => ((t.length : Int) - i).toNat, ⟨by omega, by omega, by simp, upto0⟩, ?_⟩
  rintro i o ⟨i0, i1, il, iI⟩
  dsimp only
  refine ⟨fun ilt => ?_, fun ige => eq_ran (by omega) fun j a b => iI j a (by omega)⟩
  have hr := isTab_row hp ⟨i0, ilt⟩
  exact ⟨⟨i0, ilt⟩, ⟨i0, by omega⟩, by simp; omega, ⟨by omega, by omega⟩, ⟨by omega, by omega, by simp; omega, app1 (f := fun x => el (el t x) x) (by omega) iI rfl⟩, by omega⟩
theorem p_spec_l05Fault (t : List (List Int)) (hp : isTab t = true) : wp_spec_l05Fault t (fun y0 => y0 = cycF t) := by
  unfold wp_spec_l05Fault cycF
  have hn := isTab_len hp
  have tr := fun (i : Int) (hi : 0 ≤ i ∧ i < (t.length : Int)) => isTab_row hp hi
  refine ⟨fun x => 0 ≤ x ∧ x ≤ (t.length : Int) ∧ Upto x fun a => ∀ b, 0 ≤ b → b < (t.length : Int) → ∀ c, 0 ≤ c → c < (t.length : Int) → cycB t a b c = false, fun x => ((t.length : Int) - x).toNat, ⟨by omega, by omega, upto0⟩, ?_⟩
  rintro x ⟨x0, x1, xI⟩
  dsimp only
  refine ⟨fun xlt => ?_, fun xge => (first3_none fun a h1 h2 => xI a h1 (by omega)).symm⟩
  refine ⟨fun y => 0 ≤ y ∧ y ≤ (t.length : Int) ∧ Upto y fun b => ∀ c, 0 ≤ c → c < (t.length : Int) → cycB t x b c = false, fun y => ((t.length : Int) - y).toNat, ⟨by omega, by omega, upto0⟩, ?_⟩
  rintro y ⟨y0, y1, yI⟩
  dsimp only
  refine ⟨fun ylt => ?_, fun yge => ⟨⟨by omega, by omega⟩, ⟨by omega, by omega, upto1 xI fun b h1 h2 => yI b h1 (by omega)⟩, by omega⟩⟩
  refine ⟨fun z => 0 ≤ z ∧ z ≤ (t.length : Int) ∧ Upto z fun c => cycB t x y c = false, fun z => ((t.length : Int) - z).toNat, ⟨by omega, by omega, upto0⟩, ?_⟩
  rintro z ⟨z0, z1, zI⟩
  dsimp only
  refine ⟨fun zlt => ?_, fun zge => ⟨⟨by omega, by omega⟩, ⟨by omega, by omega, upto1 yI fun c h1 h2 => zI c h1 (by omega)⟩, by omega⟩⟩
  have hx := tr x ⟨x0, xlt⟩
  have hy := tr y ⟨y0, ylt⟩
  have xy := hx.2 y y0 ylt
  have xz := hx.2 z z0 zlt
  have yx := hy.2 x x0 xlt
  have yz := hy.2 z z0 zlt
  have r1 := tr _ xy
  have r2 := tr _ yx
  refine ⟨⟨x0, xlt⟩, ⟨x0, xlt⟩, ⟨y0, ylt⟩, ⟨y0, ylt⟩, ⟨y0, by omega⟩, xy, ⟨z0, by omega⟩, ⟨xz.1, by omega⟩, ⟨x0, by omega⟩, yx, ⟨z0, by omega⟩, ⟨yz.1, by omega⟩, fun h => ?_, fun h => ⟨⟨by omega, by omega⟩, ⟨by omega, by omega, upto1 zI (by simp [cycB, h])⟩, by omega⟩⟩
  exact (first3_found ⟨x0, xlt⟩ ⟨y0, ylt⟩ ⟨z0, zlt⟩ (by simp [cycB, h]) xI yI zI).symm
theorem p_impl_cycleFault (t : List (List Int)) (hp : isTab t = true) : wp_impl_cycleFault t (fun y0 => y0 = cycF t) := p_spec_l05Fault t hp
set_option maxRecDepth 100000 in
set_option maxHeartbeats 4000000 in
theorem w_spec_l01Index (list : List Int) (n : Int) (Q : Int → Prop) (h : wp_spec_l01Index list n Q) : AF Try.prog 52 [.lst (ints list), ci n] (fun R_ => ∃ y0, Q y0 ∧ R_ = ci y0) := by
  refine AF.ofWQ (af_enter (n := 19) Try.func52 rfl (by rfl) rfl (Nat.le_of_ble_eq_true rfl) ?_)
  unfold wp_spec_l01Index at h
  refine aw_seq ?_
  refine aw_gh (gh_to (n := 19) (σ' := []) (env' := [(0, .c (.lst (ints list))), (1, .c (ci n))]) rfl rfl ⟨rfl, rfl, trivial⟩) ?_
  refine aw_region ?_
  refine run_s (ss_assign rfl) rfl ?_
  refine run_nil ?_
  refine aw_seq ?_
  refine aw_seq ?_
  refine aw_region ?_
  refine run_s (ss_assign rfl) rfl ?_
  refine run_nil ?_
  refine aw_block ?_
  obtain ⟨H1, m1, q1, h⟩ := h
  refine aw_loop1 (fun (v5_1 : Int) => ⟨[], [(0, .c (.lst (ints list))), (1, .c (ci n)), (5, .c (ci v5_1))], 19⟩) H1 m1 ⟨0, ghe_to (n := 19) rfl rfl ⟨rfl, rfl, rfl, trivial⟩, q1⟩ ?_
  rintro v5_1 q1
  replace h := h v5_1 q1
  refine aw_seq ?_
  refine aw_seq ?_
  refine aw_region ?_
  refine run_s (ss_move rfl) rfl ?_
  refine run_s (ss_move rfl) rfl ?_
  refine run_s (ss_lenL (f := ci) rfl) rfl ?_
  refine run_s (ss_lss rfl rfl) rfl ?_
  refine run_nil ?_
  refine aw_cond rfl (fun q2 => ?_) (fun q2 => ?_)
  ·replace h := h.1 (of_decide_eq_true q2)
   refine aw_skip ?_
   refine aw_seq ?_
   refine aw_block ?_
   refine aw_seq ?_
   refine aw_region ?_
   refine run_s (ss_move rfl) rfl ?_
   refine run_s (ss_move rfl) rfl ?_
   obtain ⟨q3, h⟩ := h
   refine run_s (ss_idxL rfl rfl q3) rfl ?_
   refine run_s (ss_loadL (f := ci) rfl q3) rfl ?_
   refine run_s (ss_move rfl) rfl ?_
   refine run_s (ss_eql rfl rfl) rfl ?_
   refine run_nil ?_
   refine aw_cond rfl (fun q4 => ?_) (fun q4 => ?_)
   ·replace h := h.1 (of_decide_eq_true q4)
    refine aw_seq ?_
    refine aw_gh (gh_to (n := 19) (σ' := []) (env' := [(5, .c (ci v5_1))]) rfl rfl ⟨rfl, trivial⟩) ?_
    refine aw_region ?_
    refine run_s (ss_move rfl) rfl ?_
    refine run_s (ss_assign rfl) rfl ?_
    refine run_nil ?_
    refine aw_ret ?_
    exact retAF_mk (retv1 rfl (rv_tmp rfl)) rfl rfl ⟨_, (cle_refl _), _, h, rfl⟩
   ·replace h := h.2 (of_decide_eq_false q4)
    refine aw_skip ?_
    refine aw_gh (gh_to (n := 19) (σ' := []) (env' := [(0, .c (.lst (ints list))), (1, .c (ci n)), (5, .c (ci v5_1))]) rfl rfl ⟨rfl, rfl, rfl, trivial⟩) ?_
    refine aw_region ?_
    refine run_s (ss_move rfl) rfl ?_
    obtain ⟨q5, h⟩ := h
    refine run_s (ss_add rfl rfl q5) rfl ?_
    refine run_s (ss_assign rfl) rfl ?_
    refine run_nil ?_
    exact ⟨v5_1 + 1, ghe_to (n := 19) rfl rfl ⟨rfl, rfl, rfl, trivial⟩, h.1, h.2⟩
  ·replace h := h.2 (of_decide_eq_false q2)
   refine aw_exit ?_
   refine aw_seq ?_
   refine aw_gh (gh_to (n := 19) (σ' := []) (env' := []) rfl rfl trivial) ?_
   refine aw_region ?_
   refine run_s (ss_assign rfl) rfl ?_
   refine run_nil ?_
   refine aw_ret ?_
   exact retAF_mk (retv1 rfl (rv_tmp rfl)) rfl rfl ⟨_, (cle_refl _), _, h, rfl⟩

theorem c_spec_l01Index (list : List Int) (n : Int) (hp : small list) : AF Try.prog 52 [.lst (ints list), ci n] (fun R_ => R_ = ci (idxI list n)) :=
  (w_spec_l01Index list n (fun y0 => y0 = idxI list n) (p_spec_l01Index list n hp)).mono (by rintro r ⟨_, rfl, rfl⟩; rfl)

set_option maxRecDepth 100000 in
set_option maxHeartbeats 4000000 in
theorem w_spec_l01Has (list : List Int) (n : Int) (Q : Bool → Prop) (h : wp_spec_l01Has list n Q) : AF Try.prog 57 [.lst (ints list), ci n] (fun R_ => ∃ y0, Q y0 ∧ R_ = cb y0) := by
  refine AF.ofWQ (af_enter (n := 9) Try.func57 rfl (by rfl) rfl (Nat.le_of_ble_eq_true rfl) ?_)
  unfold wp_spec_l01Has at h
  refine aw_seq ?_
  refine aw_gh (gh_to (n := 9) (σ' := []) (env' := [(0, .c (.lst (ints list))), (1, .c (ci n))]) rfl rfl ⟨rfl, rfl, trivial⟩) ?_
  refine aw_region ?_
  refine run_s (ss_assign rfl) rfl ?_
  refine run_nil ?_
  refine aw_seq ?_
  refine aw_region ?_
  refine run_s (ss_move rfl) rfl ?_
  refine run_s (ss_move rfl) rfl ?_
  obtain ⟨q1, h⟩ := h
  refine run_w (ws_call (xs := [.tmp 5, .tmp 6]) (ids := []) rfl rfl rfl rfl (c_spec_l01Index list n q1) rfl ?_ )
  rintro _ rfl
  refine ⟨rfl, ?_⟩
  refine run_s (ss_geq rfl rfl) rfl ?_
  refine run_s (ss_assign rfl) rfl ?_
  refine run_nil ?_
  refine aw_ret ?_
  exact retAF_mk (retv1 rfl (rv_tmp rfl)) rfl rfl ⟨_, (cle_refl _), _, h, rfl⟩

theorem c_spec_l01Has (list : List Int) (n : Int) (hp : small list) : AF Try.prog 57 [.lst (ints list), ci n] (fun R_ => R_ = cb (list.contains n)) :=
  (w_spec_l01Has list n (fun y0 => y0 = list.contains n) (p_spec_l01Has list n hp)).mono (by rintro r ⟨_, rfl, rfl⟩; rfl)

set_option maxRecDepth 100000 in
set_option maxHeartbeats 4000000 in
theorem w_spec_l01Perm (p : List Int) (Q : Bool → Prop) (h : wp_spec_l01Perm p Q) : AF Try.prog 35 [.lst (ints p)] (fun R_ => ∃ y0, Q y0 ∧ R_ = cb y0) := by
  refine AF.ofWQ (af_enter (n := 19) Try.func35 rfl (by rfl) rfl (Nat.le_of_ble_eq_true rfl) ?_)
  unfold wp_spec_l01Perm at h
  refine aw_seq ?_
  refine aw_gh (gh_to (n := 19) (σ' := []) (env' := [(0, .c (.lst (ints p)))]) rfl rfl ⟨rfl, trivial⟩) ?_
  refine aw_region ?_
  refine run_s (ss_assign rfl) rfl ?_
  refine run_nil ?_
  refine aw_seq ?_
  refine aw_region ?_
  refine run_s (ss_move rfl) rfl ?_
  refine run_s (ss_lenL (f := ci) rfl) rfl ?_
  refine run_s (ss_assign rfl) rfl ?_
  refine run_nil ?_
  refine aw_seq ?_
  refine aw_seq ?_
  refine aw_region ?_
  refine run_s (ss_move rfl) rfl ?_
  refine run_w (ws_call (xs := [.tmp 7, .const (.int .i64 (1)), .const (.int .i64 (12))]) (ids := []) rfl rfl rfl rfl (c_spec_l01In (p.length : Int) 1 12) rfl ?_ )
  rintro _ rfl
  refine ⟨rfl, ?_⟩
  refine run_s (ss_not rfl) rfl ?_
  refine run_nil ?_
  refine aw_cond rfl (fun q2 => ?_) (fun q2 => ?_)
  ·replace h := h.1 ((bnot_t q2))
   refine aw_seq ?_
   refine aw_gh (gh_to (n := 19) (σ' := []) (env' := [(2, .c (cb false))]) rfl rfl ⟨rfl, trivial⟩) ?_
   refine aw_region ?_
   refine run_s (ss_assign rfl) rfl ?_
   refine run_nil ?_
   refine aw_ret ?_
   exact retAF_mk (retv1 rfl (rv_tmp rfl)) rfl rfl ⟨_, (cle_refl _), _, h, rfl⟩
  ·replace h := h.2 ((bnot_f q2))
   refine aw_skip ?_
   refine aw_seq ?_
   refine aw_seq ?_
   refine aw_gh (gh_to (n := 19) (σ' := []) (env' := [(0, .c (.lst (ints p))), (3, .c (ci (p.length : Int)))]) rfl rfl ⟨rfl, rfl, trivial⟩) ?_
   refine aw_region ?_
   refine run_s (ss_assign rfl) rfl ?_
   refine run_nil ?_
   refine aw_block ?_
   obtain ⟨H1, m1, q3, h⟩ := h
   refine aw_loop1 (fun (v4_1 : Int) => ⟨[], [(0, .c (.lst (ints p))), (3, .c (ci (p.length : Int))), (4, .c (ci v4_1))], 19⟩) H1 m1 ⟨0, ghe_to (n := 19) rfl rfl ⟨rfl, rfl, rfl, trivial⟩, q3⟩ ?_
   rintro v4_1 q3
   replace h := h v4_1 q3
   refine aw_seq ?_
   refine aw_seq ?_
   refine aw_region ?_
   refine run_s (ss_move rfl) rfl ?_
   refine run_s (ss_move rfl) rfl ?_
   refine run_s (ss_lss rfl rfl) rfl ?_
   refine run_nil ?_
   refine aw_cond rfl (fun q4 => ?_) (fun q4 => ?_)
   ·replace h := h.1 (of_decide_eq_true q4)
    refine aw_skip ?_
    refine aw_seq ?_
    refine aw_block ?_
    refine aw_seq ?_
    refine aw_region ?_
    refine run_s (ss_move rfl) rfl ?_
    refine run_s (ss_move rfl) rfl ?_
    obtain ⟨q5, h⟩ := h
    refine run_w (ws_call (xs := [.tmp 15, .tmp 16]) (ids := []) rfl rfl rfl rfl (c_spec_l01Has p v4_1 q5) rfl ?_ )
    rintro _ rfl
    refine ⟨rfl, ?_⟩
    refine run_s (ss_not rfl) rfl ?_
    refine run_nil ?_
    refine aw_cond rfl (fun q7 => ?_) (fun q7 => ?_)
    ·replace h := h.1 ((bnot_t q7))
     refine aw_seq ?_
     refine aw_gh (gh_to (n := 19) (σ' := []) (env' := []) rfl rfl trivial) ?_
     refine aw_region ?_
     refine run_s (ss_assign rfl) rfl ?_
     refine run_nil ?_
     refine aw_ret ?_
     exact retAF_mk (retv1 rfl (rv_tmp rfl)) rfl rfl ⟨_, (cle_refl _), _, h, rfl⟩
    ·replace h := h.2 ((bnot_f q7))
     refine aw_skip ?_
     refine aw_gh (gh_to (n := 19) (σ' := []) (env' := [(0, .c (.lst (ints p))), (3, .c (ci (p.length : Int))), (4, .c (ci v4_1))]) rfl rfl ⟨rfl, rfl, rfl, trivial⟩) ?_
     refine aw_region ?_
     refine run_s (ss_move rfl) rfl ?_
     obtain ⟨q8, h⟩ := h
     refine run_s (ss_add rfl rfl q8) rfl ?_
     refine run_s (ss_assign rfl) rfl ?_
     refine run_nil ?_
     exact ⟨v4_1 + 1, ghe_to (n := 19) rfl rfl ⟨rfl, rfl, rfl, trivial⟩, h.1, h.2⟩
   ·replace h := h.2 (of_decide_eq_false q4)
    refine aw_exit ?_
    refine aw_seq ?_
    refine aw_gh (gh_to (n := 19) (σ' := []) (env' := []) rfl rfl trivial) ?_
    refine aw_region ?_
    refine run_s (ss_assign rfl) rfl ?_
    refine run_nil ?_
    refine aw_ret ?_
    exact retAF_mk (retv1 rfl (rv_tmp rfl)) rfl rfl ⟨_, (cle_refl _), _, h, rfl⟩

theorem c_spec_l01Perm (p : List Int) (hp : small p) : AF Try.prog 35 [.lst (ints p)] (fun R_ => R_ = cb (permB p)) :=
  (w_spec_l01Perm p (fun y0 => y0 = permB p) (p_spec_l01Perm p hp)).mono (by rintro r ⟨_, rfl, rfl⟩; rfl)

set_option maxRecDepth 100000 in
set_option maxHeartbeats 4000000 in
theorem w_spec_l01Own (list : List Int) (Q : List Int → Prop) (h : wp_spec_l01Own list Q) : AF Try.prog 61 [.lst (ints list)] (fun R_ => ∃ y0, Q y0 ∧ R_ = .own (ints y0)) := by
  refine AF.ofWQ (af_enter (n := 6) Try.func61 rfl (by rfl) rfl (Nat.le_of_ble_eq_true rfl) ?_)
  unfold wp_spec_l01Own at h
  refine aw_seq ?_
  refine aw_gh (gh_to (n := 6) (σ' := []) (env' := [(0, .c (.lst (ints list)))]) rfl rfl ⟨rfl, trivial⟩) ?_
  refine aw_region ?_
  refine run_s (ss_assign rfl) rfl ?_
  refine run_nil ?_
  refine aw_seq ?_
  refine aw_region ?_
  refine run_w (ws_buildSlice (id := 3) (ps := []) rfl rfl (Nat.le_of_ble_eq_true rfl) rfl ⟨rfl, ?_⟩)
  refine run_s (ss_move rfl) rfl ?_
  obtain ⟨q1, h⟩ := h
  refine run_w (ws_appL ci (l := ([] : List Int)) (m := list) rfl rfl rfl (Nat.le_of_ble_eq_true rfl) q1 ⟨rfl, ?_⟩)
  refine run_s (ss_assign rfl) rfl ?_
  refine run_nil ?_
  refine aw_ret ?_
  exact retAF_mk (retv1 rfl (rv_tmp rfl)) rfl rfl ⟨_, (cle_refl _), _, h, rfl⟩

theorem c_spec_l01Own (list : List Int) (hp : small list) : AF Try.prog 61 [.lst (ints list)] (fun R_ => R_ = .own (ints list)) :=
  (w_spec_l01Own list (fun y0 => y0 = list) (p_spec_l01Own list hp)).mono (by rintro r ⟨_, rfl, rfl⟩; rfl)

set_option maxRecDepth 100000 in
set_option maxHeartbeats 4000000 in
theorem w_spec_l01Table (t : List (List Int)) (Q : Bool → Prop) (h : wp_spec_l01Table t Q) : AF Try.prog 34 [.lst (rows t)] (fun R_ => ∃ y0, Q y0 ∧ R_ = cb y0) := by
  refine AF.ofWQ (af_enter (n := 41) Try.func34 rfl (by rfl) rfl (Nat.le_of_ble_eq_true rfl) ?_)
  unfold wp_spec_l01Table at h
  refine aw_seq ?_
  refine aw_gh (gh_to (n := 41) (σ' := []) (env' := [(0, .c (.lst (rows t)))]) rfl rfl ⟨rfl, trivial⟩) ?_
  refine aw_region ?_
  refine run_s (ss_assign rfl) rfl ?_
  refine run_nil ?_
  refine aw_seq ?_
  refine aw_region ?_
  refine run_s (ss_move rfl) rfl ?_
  refine run_s (ss_lenL (f := (fun r => C.lst (ints r))) rfl) rfl ?_
  refine run_s (ss_assign rfl) rfl ?_
  refine run_nil ?_
  refine aw_seq ?_
  refine aw_seq ?_
  refine aw_region ?_
  refine run_s (ss_move rfl) rfl ?_
  refine run_w (ws_call (xs := [.tmp 8, .const (.int .i64 (1)), .const (.int .i64 (12))]) (ids := []) rfl rfl rfl rfl (c_spec_l01In (t.length : Int) 1 12) rfl ?_ )
  rintro _ rfl
  refine ⟨rfl, ?_⟩
  refine run_s (ss_not rfl) rfl ?_
  refine run_nil ?_
  refine aw_cond rfl (fun q2 => ?_) (fun q2 => ?_)
  ·replace h := h.1 ((bnot_t q2))
   refine aw_seq ?_
   refine aw_gh (gh_to (n := 41) (σ' := []) (env' := [(2, .c (cb false))]) rfl rfl ⟨rfl, trivial⟩) ?_
   refine aw_region ?_
   refine run_s (ss_assign rfl) rfl ?_
   refine run_nil ?_
   refine aw_ret ?_
   exact retAF_mk (retv1 rfl (rv_tmp rfl)) rfl rfl ⟨_, (cle_refl _), _, h, rfl⟩
  ·replace h := h.2 ((bnot_f q2))
   refine aw_skip ?_
   refine aw_seq ?_
   refine aw_seq ?_
   refine aw_gh (gh_to (n := 41) (σ' := []) (env' := [(0, .c (.lst (rows t))), (3, .c (ci (t.length : Int)))]) rfl rfl ⟨rfl, rfl, trivial⟩) ?_
   refine aw_region ?_
   refine run_s (ss_assign rfl) rfl ?_
   refine run_nil ?_
   refine aw_block ?_
   obtain ⟨H1, m1, q3, h⟩ := h
   refine aw_loop1 (fun (v4_1 : Int) => ⟨[], [(0, .c (.lst (rows t))), (3, .c (ci (t.length : Int))), (4, .c (ci v4_1))], 41⟩) H1 m1 ⟨0, ghe_to (n := 41) rfl rfl ⟨rfl, rfl, rfl, trivial⟩, q3⟩ ?_
   rintro v4_1 q3
   replace h := h v4_1 q3
   refine aw_seq ?_
   refine aw_seq ?_
   refine aw_region ?_
   refine run_s (ss_move rfl) rfl ?_
   refine run_s (ss_move rfl) rfl ?_
   refine run_s (ss_lenL (f := (fun r => C.lst (ints r))) rfl) rfl ?_
   refine run_s (ss_lss rfl rfl) rfl ?_
   refine run_nil ?_
   refine aw_cond rfl (fun q4 => ?_) (fun q4 => ?_)
   ·replace h := h.1 (of_decide_eq_true q4)
    refine aw_skip ?_
    refine aw_seq ?_
    refine aw_block ?_
    refine aw_seq ?_
    refine aw_seq ?_
    refine aw_region ?_
    refine run_s (ss_move rfl) rfl ?_
    refine run_s (ss_move rfl) rfl ?_
    obtain ⟨q5, h⟩ := h
    refine run_s (ss_idxL rfl rfl q5) rfl ?_
    refine run_s (ss_loadL (f := (fun r => C.lst (ints r))) rfl q5) rfl ?_
    refine run_s (ss_lenL (f := ci) rfl) rfl ?_
    refine run_s (ss_move rfl) rfl ?_
    refine run_s (ss_neq rfl rfl) rfl ?_
    refine run_nil ?_
    refine aw_cond rfl (fun q6 => ?_) (fun q6 => ?_)
    ·replace h := h.1 (of_decide_eq_false (bnot_t q6))
     refine aw_seq ?_
     refine aw_gh (gh_to (n := 41) (σ' := []) (env' := []) rfl rfl trivial) ?_
     refine aw_region ?_
     refine run_s (ss_assign rfl) rfl ?_
     refine run_nil ?_
     refine aw_ret ?_
     exact retAF_mk (retv1 rfl (rv_tmp rfl)) rfl rfl ⟨_, (cle_refl _), _, h, rfl⟩
    ·replace h := h.2 (of_decide_eq_true (bnot_f q6))
     refine aw_skip ?_
     refine aw_seq ?_
     refine aw_gh (gh_to (n := 41) (σ' := []) (env' := [(0, .c (.lst (rows t))), (3, .c (ci (t.length : Int))), (4, .c (ci v4_1))]) rfl rfl ⟨rfl, rfl, rfl, trivial⟩) ?_
     refine aw_region ?_
     refine run_s (ss_assign rfl) rfl ?_
     refine run_nil ?_
     refine aw_block ?_
     obtain ⟨H2, m2, q7, h⟩ := h
     refine aw_loop1 (fun (v5_2 : Int) => ⟨[], [(0, .c (.lst (rows t))), (3, .c (ci (t.length : Int))), (4, .c (ci v4_1)), (5, .c (ci v5_2))], 41⟩) H2 m2 ⟨0, ghe_to (n := 41) rfl rfl ⟨rfl, rfl, rfl, rfl, trivial⟩, q7⟩ ?_
     rintro v5_2 q7
     replace h := h v5_2 q7
     refine aw_seq ?_
     refine aw_seq ?_
     refine aw_region ?_
     refine run_s (ss_move rfl) rfl ?_
     refine run_s (ss_move rfl) rfl ?_
     refine run_s (ss_lenL (f := (fun r => C.lst (ints r))) rfl) rfl ?_
     refine run_s (ss_lss rfl rfl) rfl ?_
     refine run_nil ?_
     refine aw_cond rfl (fun q8 => ?_) (fun q8 => ?_)
     ·replace h := h.1 (of_decide_eq_true q8)
      refine aw_skip ?_
      refine aw_seq ?_
      refine aw_block ?_
      refine aw_seq ?_
      refine aw_region ?_
      refine run_s (ss_move rfl) rfl ?_
      refine run_s (ss_move rfl) rfl ?_
      obtain ⟨q9, h⟩ := h
      refine run_s (ss_idxL rfl rfl q9) rfl ?_
      refine run_s (ss_loadL (f := (fun r => C.lst (ints r))) rfl q9) rfl ?_
      refine run_s (ss_move rfl) rfl ?_
      obtain ⟨q10, h⟩ := h
      refine run_s (ss_idxL rfl rfl q10) rfl ?_
      refine run_s (ss_loadL (f := ci) rfl q10) rfl ?_
      refine run_s (ss_move rfl) rfl ?_
      obtain ⟨q11, h⟩ := h
      refine run_s (ss_sub rfl rfl q11) rfl ?_
      refine run_w (ws_call (xs := [.tmp 36, .const (.int .i64 (0)), .tmp 38]) (ids := []) rfl rfl rfl rfl (c_spec_l01In (el (el t v4_1) v5_2) 0 ((t.length : Int) - 1)) rfl ?_ )
      rintro _ rfl
      refine ⟨rfl, ?_⟩
      refine run_s (ss_not rfl) rfl ?_
      refine run_nil ?_
      refine aw_cond rfl (fun q13 => ?_) (fun q13 => ?_)
      ·replace h := h.1 ((bnot_t q13))
       refine aw_seq ?_
       refine aw_gh (gh_to (n := 41) (σ' := []) (env' := []) rfl rfl trivial) ?_
       refine aw_region ?_
       refine run_s (ss_assign rfl) rfl ?_
       refine run_nil ?_
       refine aw_ret ?_
       exact retAF_mk (retv1 rfl (rv_tmp rfl)) rfl rfl ⟨_, (cle_refl _), _, h, rfl⟩
      ·replace h := h.2 ((bnot_f q13))
       refine aw_skip ?_
       refine aw_gh (gh_to (n := 41) (σ' := []) (env' := [(0, .c (.lst (rows t))), (3, .c (ci (t.length : Int))), (4, .c (ci v4_1)), (5, .c (ci v5_2))]) rfl rfl ⟨rfl, rfl, rfl, rfl, trivial⟩) ?_
       refine aw_region ?_
       refine run_s (ss_move rfl) rfl ?_
       obtain ⟨q14, h⟩ := h
       refine run_s (ss_add rfl rfl q14) rfl ?_
       refine run_s (ss_assign rfl) rfl ?_
       refine run_nil ?_
       exact ⟨v5_2 + 1, ghe_to (n := 41) rfl rfl ⟨rfl, rfl, rfl, rfl, trivial⟩, h.1, h.2⟩
     ·replace h := h.2 (of_decide_eq_false q8)
      refine aw_exit ?_
      refine aw_gh (gh_to (n := 41) (σ' := []) (env' := [(0, .c (.lst (rows t))), (3, .c (ci (t.length : Int))), (4, .c (ci v4_1))]) rfl rfl ⟨rfl, rfl, rfl, trivial⟩) ?_
      refine aw_region ?_
      refine run_s (ss_move rfl) rfl ?_
      obtain ⟨q15, h⟩ := h
      refine run_s (ss_add rfl rfl q15) rfl ?_
      refine run_s (ss_assign rfl) rfl ?_
      refine run_nil ?_
      exact ⟨v4_1 + 1, ghe_to (n := 41) rfl rfl ⟨rfl, rfl, rfl, trivial⟩, h.1, h.2⟩
   ·replace h := h.2 (of_decide_eq_false q4)
    refine aw_exit ?_
    refine aw_seq ?_
    refine aw_gh (gh_to (n := 41) (σ' := []) (env' := []) rfl rfl trivial) ?_
    refine aw_region ?_
    refine run_s (ss_assign rfl) rfl ?_
    refine run_nil ?_
    refine aw_ret ?_
    exact retAF_mk (retv1 rfl (rv_tmp rfl)) rfl rfl ⟨_, (cle_refl _), _, h, rfl⟩

theorem c_spec_l01Table (t : List (List Int)) (hp : small2 t) : AF Try.prog 34 [.lst (rows t)] (fun R_ => R_ = cb (isTab t)) :=
  (w_spec_l01Table t (fun y0 => y0 = isTab t) (p_spec_l01Table t hp)).mono (by rintro r ⟨_, rfl, rfl⟩; rfl)

set_option maxRecDepth 100000 in
set_option maxHeartbeats 4000000 in
theorem w_spec_l05Squares (t : List (List Int)) (Q : List Int → Prop) (h : wp_spec_l05Squares t Q) : AF Try.prog 47 [.lst (rows t)] (fun R_ => ∃ y0, Q y0 ∧ R_ = .own (ints y0)) := by
  refine AF.ofWQ (af_enter (n := 23) Try.func47 rfl (by rfl) rfl (Nat.le_of_ble_eq_true rfl) ?_)
  unfold wp_spec_l05Squares at h
  refine aw_seq ?_
  refine aw_gh (gh_to (n := 23) (σ' := []) (env' := [(0, .c (.lst (rows t)))]) rfl rfl ⟨rfl, trivial⟩) ?_
  refine aw_region ?_
  refine run_s (ss_assign rfl) rfl ?_
  refine run_nil ?_
  refine aw_seq ?_
  refine aw_region ?_
  refine run_w (ws_buildSlice (id := 5) (ps := []) rfl rfl (Nat.le_of_ble_eq_true rfl) rfl ⟨rfl, ?_⟩)
  refine run_s (ss_assign rfl) rfl ?_
  refine run_nil ?_
  refine aw_seq ?_
  refine aw_seq ?_
  refine aw_region ?_
  refine run_s (ss_assign rfl) rfl ?_
  refine run_nil ?_
  refine aw_block ?_
  obtain ⟨H1, m1, q1, h⟩ := h
  refine aw_loop2 (fun (v4_1 : Int) (o5_1 : List Int) => ⟨[(5, ⟨ints o5_1, []⟩)], [(0, .c (.lst (rows t))), (3, .ref 5), (4, .c (ci v4_1))], 23⟩) H1 m1 ⟨0, ([] : List Int), ghe_to (n := 23) rfl rfl ⟨rfl, rfl, rfl, trivial⟩, q1⟩ ?_
  rintro v4_1 o5_1 q1
  replace h := h v4_1 o5_1 q1
  refine aw_seq ?_
  refine aw_seq ?_
  refine aw_region ?_
  refine run_s (ss_move rfl) rfl ?_
  refine run_s (ss_move rfl) rfl ?_
  refine run_s (ss_lenL (f := (fun r => C.lst (ints r))) rfl) rfl ?_
  refine run_s (ss_lss rfl rfl) rfl ?_
  refine run_nil ?_
  refine aw_cond rfl (fun q2 => ?_) (fun q2 => ?_)
  ·replace h := h.1 (of_decide_eq_true q2)
   refine aw_skip ?_
   refine aw_seq ?_
   refine aw_block ?_
   refine aw_region ?_
   refine run_s (ss_move rfl) rfl ?_
   refine run_s (ss_move rfl) rfl ?_
   refine run_s (ss_move rfl) rfl ?_
   obtain ⟨q3, h⟩ := h
   refine run_s (ss_idxL rfl rfl q3) rfl ?_
   refine run_s (ss_loadL (f := (fun r => C.lst (ints r))) rfl q3) rfl ?_
   refine run_s (ss_move rfl) rfl ?_
   obtain ⟨q4, h⟩ := h
   refine run_s (ss_idxL rfl rfl q4) rfl ?_
   refine run_s (ss_loadL (f := ci) rfl q4) rfl ?_
   refine run_w (ws_buildSlice (id := 20) (ps := [(0, .tmp 19)]) rfl rfl (Nat.le_of_ble_eq_true rfl) rfl ⟨rfl, ?_⟩)
   obtain ⟨q5, h⟩ := h
   refine run_w (ws_app1 ci (l := o5_1) (m := [el (el t v4_1) v4_1]) rfl rfl rfl rfl rfl (Nat.le_of_ble_eq_true rfl) q5 ⟨rfl, ?_⟩)
   refine run_s (ss_assign rfl) rfl ?_
   refine run_nil ?_
   refine aw_gh (gh_to (n := 23) (σ' := [(5, ⟨ints (o5_1 ++ ([el (el t v4_1) v4_1])), []⟩)]) (env' := [(0, .c (.lst (rows t))), (3, .ref 5), (4, .c (ci v4_1))]) rfl rfl ⟨rfl, rfl, rfl, trivial⟩) ?_
   refine aw_region ?_
   refine run_s (ss_move rfl) rfl ?_
   obtain ⟨q6, h⟩ := h
   refine run_s (ss_add rfl rfl q6) rfl ?_
   refine run_s (ss_assign rfl) rfl ?_
   refine run_nil ?_
   exact ⟨v4_1 + 1, o5_1 ++ ([el (el t v4_1) v4_1]), ghe_to (n := 23) rfl rfl ⟨rfl, rfl, rfl, trivial⟩, h.1, h.2⟩
  ·replace h := h.2 (of_decide_eq_false q2)
   refine aw_exit ?_
   refine aw_seq ?_
   refine aw_gh (gh_to (n := 23) (σ' := [(5, ⟨ints o5_1, []⟩)]) (env' := [(3, .ref 5)]) rfl rfl ⟨rfl, trivial⟩) ?_
   refine aw_region ?_
   refine run_s (ss_move rfl) rfl ?_
   refine run_s (ss_assign rfl) rfl ?_
   refine run_nil ?_
   refine aw_ret ?_
   exact retAF_mk (retv1 rfl (rv_tmp rfl)) rfl rfl ⟨_, (cle_refl _), _, h, rfl⟩

theorem c_spec_l05Squares (t : List (List Int)) (hp : isTab t = true) : AF Try.prog 47 [.lst (rows t)] (fun R_ => R_ = .own (ints (diag t))) :=
  (w_spec_l05Squares t (fun y0 => y0 = diag t) (p_spec_l05Squares t hp)).mono (by rintro r ⟨_, rfl, rfl⟩; rfl)

set_option maxRecDepth 100000 in
set_option maxHeartbeats 4000000 in
theorem w_spec_l05Fault (t : List (List Int)) (Q : List Int → Prop) (h : wp_spec_l05Fault t Q) : AF Try.prog 48 [.lst (rows t)] (fun R_ => ∃ y0, Q y0 ∧ R_ = .own (ints y0)) := by
  refine AF.ofWQ (af_enter (n := 68) Try.func48 rfl (by rfl) rfl (Nat.le_of_ble_eq_true rfl) ?_)
  unfold wp_spec_l05Fault at h
  refine aw_seq ?_
  refine aw_gh (gh_to (n := 68) (σ' := []) (env' := [(0, .c (.lst (rows t)))]) rfl rfl ⟨rfl, trivial⟩) ?_
  refine aw_region ?_
  refine run_s (ss_assign rfl) rfl ?_
  refine run_nil ?_
  refine aw_seq ?_
  refine aw_region ?_
  refine run_s (ss_move rfl) rfl ?_
  refine run_s (ss_lenL (f := (fun r => C.lst (ints r))) rfl) rfl ?_
  refine run_s (ss_assign rfl) rfl ?_
  refine run_nil ?_
  refine aw_seq ?_
  refine aw_seq ?_
  refine aw_region ?_
  refine run_s (ss_assign rfl) rfl ?_
  refine run_nil ?_
  refine aw_block ?_
  obtain ⟨H1, m1, q1, h⟩ := h
  refine aw_loop1 (fun (v4_1 : Int) => ⟨[], [(0, .c (.lst (rows t))), (3, .c (ci (t.length : Int))), (4, .c (ci v4_1))], 68⟩) H1 m1 ⟨0, ghe_to (n := 68) rfl rfl ⟨rfl, rfl, rfl, trivial⟩, q1⟩ ?_
  rintro v4_1 q1
  replace h := h v4_1 q1
  refine aw_seq ?_
  refine aw_seq ?_
  refine aw_region ?_
  refine run_s (ss_move rfl) rfl ?_
  refine run_s (ss_move rfl) rfl ?_
  refine run_s (ss_lss rfl rfl) rfl ?_
  refine run_nil ?_
  refine aw_cond rfl (fun q2 => ?_) (fun q2 => ?_)
  ·replace h := h.1 (of_decide_eq_true q2)
   refine aw_skip ?_
   refine aw_seq ?_
   refine aw_block ?_
   refine aw_seq ?_
   refine aw_region ?_
   refine run_s (ss_assign rfl) rfl ?_
   refine run_nil ?_
   refine aw_block ?_
   obtain ⟨H2, m2, q3, h⟩ := h
   refine aw_loop1 (fun (v5_2 : Int) => ⟨[], [(0, .c (.lst (rows t))), (3, .c (ci (t.length : Int))), (4, .c (ci v4_1)), (5, .c (ci v5_2))], 68⟩) H2 m2 ⟨0, ghe_to (n := 68) rfl rfl ⟨rfl, rfl, rfl, rfl, trivial⟩, q3⟩ ?_
   rintro v5_2 q3
   replace h := h v5_2 q3
   refine aw_seq ?_
   refine aw_seq ?_
   refine aw_region ?_
   refine run_s (ss_move rfl) rfl ?_
   refine run_s (ss_move rfl) rfl ?_
   refine run_s (ss_lss rfl rfl) rfl ?_
   refine run_nil ?_
   refine aw_cond rfl (fun q4 => ?_) (fun q4 => ?_)
   ·replace h := h.1 (of_decide_eq_true q4)
    refine aw_skip ?_
    refine aw_seq ?_
    refine aw_block ?_
    refine aw_seq ?_
    refine aw_region ?_
    refine run_s (ss_assign rfl) rfl ?_
    refine run_nil ?_
    refine aw_block ?_
    obtain ⟨H3, m3, q5, h⟩ := h
    refine aw_loop1 (fun (v6_3 : Int) => ⟨[], [(0, .c (.lst (rows t))), (3, .c (ci (t.length : Int))), (4, .c (ci v4_1)), (5, .c (ci v5_2)), (6, .c (ci v6_3))], 68⟩) H3 m3 ⟨0, ghe_to (n := 68) rfl rfl ⟨rfl, rfl, rfl, rfl, rfl, trivial⟩, q5⟩ ?_
    rintro v6_3 q5
    replace h := h v6_3 q5
    refine aw_seq ?_
    refine aw_seq ?_
    refine aw_region ?_
    refine run_s (ss_move rfl) rfl ?_
    refine run_s (ss_move rfl) rfl ?_
    refine run_s (ss_lss rfl rfl) rfl ?_
    refine run_nil ?_
    refine aw_cond rfl (fun q6 => ?_) (fun q6 => ?_)
    ·replace h := h.1 (of_decide_eq_true q6)
     refine aw_skip ?_
     refine aw_seq ?_
     refine aw_block ?_
     refine aw_seq ?_
     refine aw_gh (gh_to (n := 68) (σ' := []) (env' := [(0, .c (.lst (rows t))), (3, .c (ci (t.length : Int))), (4, .c (ci v4_1)), (5, .c (ci v5_2)), (6, .c (ci v6_3))]) rfl rfl ⟨rfl, rfl, rfl, rfl, rfl, trivial⟩) ?_
     refine aw_regionD (kd := kdl [0, 0, 0, 0, 1, 0, 0, 1, 0, 1, 0, 0, 0, 1, 0, 0, 1, 0, 1, 0, 0, 0, 0, 1, 0, 0, 1, 0, 1, 0, 0, 0, 1, 0, 0, 1, 0, 1, 0]) (ord := [0, 1, 2, 3, 5, 10, 11, 12, 14, 19, 20, 21, 22, 24, 29, 30, 31, 33, 4, 6, 7, 8, 9, 13, 15, 16, 17, 18, 23, 25, 26, 27, 28, 32, 34, 35, 36, 37, 38]) [] mixed (by kernel_rfl) ?_
     refine rd_s rfl rfl trivial (ss_move rfl) rfl ?_
     refine rd_s rfl rfl trivial (ss_move rfl) rfl ?_
     refine rd_s rfl rfl trivial (ss_move rfl) rfl ?_
     obtain ⟨q7, h⟩ := h
     refine rd_s rfl rfl trivial (ss_idxL rfl rfl q7) rfl ?_
     refine rd_s rfl rfl trivial (ss_move rfl) rfl ?_
     refine rd_s rfl rfl trivial (ss_move rfl) rfl ?_
     refine rd_s rfl rfl trivial (ss_move rfl) rfl ?_
     obtain ⟨q8, h⟩ := h
     refine rd_s rfl rfl trivial (ss_idxL rfl rfl q8) rfl ?_
     refine rd_s rfl rfl trivial (ss_move rfl) rfl ?_
     refine rd_s rfl rfl trivial (ss_move rfl) rfl ?_
     refine rd_s rfl rfl trivial (ss_move rfl) rfl ?_
     refine rd_s rfl rfl trivial (ss_move rfl) rfl ?_
     obtain ⟨q9, h⟩ := h
     refine rd_s rfl rfl trivial (ss_idxL rfl rfl q9) rfl ?_
     refine rd_s rfl rfl trivial (ss_move rfl) rfl ?_
     refine rd_s rfl rfl trivial (ss_move rfl) rfl ?_
     refine rd_s rfl rfl trivial (ss_move rfl) rfl ?_
     obtain ⟨q10, h⟩ := h
     refine rd_s rfl rfl trivial (ss_idxL rfl rfl q10) rfl ?_
     refine rd_s rfl rfl trivial (ss_move rfl) rfl ?_
     refine rd_l rfl rfl trivial (ss_loadL (f := (fun r => C.lst (ints r))) rfl q7) rfl ?_
     obtain ⟨q11, h⟩ := h
     refine rd_s rfl rfl trivial (ss_idxL rfl rfl q11) rfl ?_
     refine rd_l rfl rfl trivial (ss_loadL (f := ci) rfl q11) rfl ?_
     obtain ⟨q12, h⟩ := h
     refine rd_s rfl rfl trivial (ss_idxL rfl rfl q12) rfl ?_
     refine rd_l rfl rfl trivial (ss_loadL (f := (fun r => C.lst (ints r))) rfl q12) rfl ?_
     refine rd_l rfl rfl trivial (ss_loadL (f := (fun r => C.lst (ints r))) rfl q8) rfl ?_
     obtain ⟨q13, h⟩ := h
     refine rd_s rfl rfl trivial (ss_idxL rfl rfl q13) rfl ?_
     refine rd_l rfl rfl trivial (ss_loadL (f := ci) rfl q13) rfl ?_
     obtain ⟨q14, h⟩ := h
     refine rd_s rfl rfl trivial (ss_idxL rfl rfl q14) rfl ?_
     refine rd_l rfl rfl trivial (ss_loadL (f := ci) rfl q14) rfl ?_
     refine rd_l rfl rfl trivial (ss_loadL (f := (fun r => C.lst (ints r))) rfl q9) rfl ?_
     obtain ⟨q15, h⟩ := h
     refine rd_s rfl rfl trivial (ss_idxL rfl rfl q15) rfl ?_
     refine rd_l rfl rfl trivial (ss_loadL (f := ci) rfl q15) rfl ?_
     obtain ⟨q16, h⟩ := h
     refine rd_s rfl rfl trivial (ss_idxL rfl rfl q16) rfl ?_
     refine rd_l rfl rfl trivial (ss_loadL (f := (fun r => C.lst (ints r))) rfl q16) rfl ?_
     refine rd_l rfl rfl trivial (ss_loadL (f := (fun r => C.lst (ints r))) rfl q10) rfl ?_
     obtain ⟨q17, h⟩ := h
     refine rd_s rfl rfl trivial (ss_idxL rfl rfl q17) rfl ?_
     refine rd_l rfl rfl trivial (ss_loadL (f := ci) rfl q17) rfl ?_
     obtain ⟨q18, h⟩ := h
     refine rd_s rfl rfl trivial (ss_idxL rfl rfl q18) rfl ?_
     refine rd_l rfl rfl trivial (ss_loadL (f := ci) rfl q18) rfl ?_
     refine rd_s rfl rfl trivial (ss_neq rfl rfl) rfl ?_
     refine rd_nil ?_
     refine aw_cond rfl (fun q19 => ?_) (fun q19 => ?_)
     ·replace h := h.1 (of_decide_eq_false (bnot_t q19))
      refine aw_seq ?_
      refine aw_gh (gh_to (n := 68) (σ' := []) (env' := [(4, .c (ci v4_1)), (5, .c (ci v5_2)), (6, .c (ci v6_3))]) rfl rfl ⟨rfl, rfl, rfl, trivial⟩) ?_
      refine aw_region ?_
      refine run_s (ss_move rfl) rfl ?_
      refine run_s (ss_move rfl) rfl ?_
      refine run_s (ss_move rfl) rfl ?_
      refine run_w (ws_buildSlice (id := 66) (ps := [(0, .tmp 63), (1, .tmp 64), (2, .tmp 65)]) rfl rfl (Nat.le_of_ble_eq_true rfl) rfl ⟨rfl, ?_⟩)
      refine run_s (ss_assign rfl) rfl ?_
      refine run_nil ?_
      refine aw_ret ?_
      exact retAF_mk (retv1 rfl (rv_tmp rfl)) rfl rfl ⟨_, (cle_refl _), _, h, rfl⟩
     ·replace h := h.2 (of_decide_eq_true (bnot_f q19))
      refine aw_skip ?_
      refine aw_gh (gh_to (n := 68) (σ' := []) (env' := [(0, .c (.lst (rows t))), (3, .c (ci (t.length : Int))), (4, .c (ci v4_1)), (5, .c (ci v5_2)), (6, .c (ci v6_3))]) rfl rfl ⟨rfl, rfl, rfl, rfl, rfl, trivial⟩) ?_
      refine aw_region ?_
      refine run_s (ss_move rfl) rfl ?_
      obtain ⟨q20, h⟩ := h
      refine run_s (ss_add rfl rfl q20) rfl ?_
      refine run_s (ss_assign rfl) rfl ?_
      refine run_nil ?_
      exact ⟨v6_3 + 1, ghe_to (n := 68) rfl rfl ⟨rfl, rfl, rfl, rfl, rfl, trivial⟩, h.1, h.2⟩
    ·replace h := h.2 (of_decide_eq_false q6)
     refine aw_exit ?_
     refine aw_region ?_
     refine run_s (ss_move rfl) rfl ?_
     obtain ⟨q21, h⟩ := h
     refine run_s (ss_add rfl rfl q21) rfl ?_
     refine run_s (ss_assign rfl) rfl ?_
     refine run_nil ?_
     exact ⟨v5_2 + 1, ghe_to (n := 68) rfl rfl ⟨rfl, rfl, rfl, rfl, trivial⟩, h.1, h.2⟩
   ·replace h := h.2 (of_decide_eq_false q4)
    refine aw_exit ?_
    refine aw_region ?_
    refine run_s (ss_move rfl) rfl ?_
    obtain ⟨q22, h⟩ := h
    refine run_s (ss_add rfl rfl q22) rfl ?_
    refine run_s (ss_assign rfl) rfl ?_
    refine run_nil ?_
    exact ⟨v4_1 + 1, ghe_to (n := 68) rfl rfl ⟨rfl, rfl, rfl, trivial⟩, h.1, h.2⟩
  ·replace h := h.2 (of_decide_eq_false q2)
   refine aw_exit ?_
   refine aw_seq ?_
   refine aw_gh (gh_to (n := 68) (σ' := []) (env' := []) rfl rfl trivial) ?_
   refine aw_region ?_
   refine run_w (ws_buildSlice (id := 67) (ps := []) rfl rfl (Nat.le_of_ble_eq_true rfl) rfl ⟨rfl, ?_⟩)
   refine run_s (ss_assign rfl) rfl ?_
   refine run_nil ?_
   refine aw_ret ?_
   exact retAF_mk (retv1 rfl (rv_tmp rfl)) rfl rfl ⟨_, (cle_refl _), _, h, rfl⟩

theorem c_spec_l05Fault (t : List (List Int)) (hp : isTab t = true) : AF Try.prog 48 [.lst (rows t)] (fun R_ => R_ = .own (ints (cycF t))) :=
  (w_spec_l05Fault t (fun y0 => y0 = cycF t) (p_spec_l05Fault t hp)).mono (by rintro r ⟨_, rfl, rfl⟩; rfl)

set_option maxRecDepth 100000 in
set_option maxHeartbeats 4000000 in
theorem w_impl_cycleFault (t : List (List Int)) (Q : List Int → Prop) (h : wp_impl_cycleFault t Q) : AF Try.prog 55 [.lst (rows t)] (fun R_ => ∃ y0, Q y0 ∧ R_ = onil y0) := by
  refine AF.ofWQ (af_enter (n := 67) Try.func55 rfl (by rfl) rfl (Nat.le_of_ble_eq_true rfl) ?_)
  unfold wp_impl_cycleFault at h
  refine aw_seq ?_
  refine aw_gh (gh_to (n := 67) (σ' := []) (env' := [(0, .c (.lst (rows t)))]) rfl rfl ⟨rfl, trivial⟩) ?_
  refine aw_region ?_
  refine run_s (ss_assign rfl) rfl ?_
  refine run_nil ?_
  refine aw_seq ?_
  refine aw_region ?_
  refine run_s (ss_move rfl) rfl ?_
  refine run_s (ss_lenL (f := (fun r => C.lst (ints r))) rfl) rfl ?_
  refine run_s (ss_assign rfl) rfl ?_
  refine run_nil ?_
  refine aw_seq ?_
  refine aw_seq ?_
  refine aw_region ?_
  refine run_s (ss_move rfl) rfl ?_
  refine run_s (ss_move rfl) rfl ?_
  refine run_nil ?_
  refine aw_block ?_
  obtain ⟨H1, m1, q1, h⟩ := h
  refine aw_loop1 (fun (v10_1 : Int) => ⟨[], [(0, .c (.lst (rows t))), (3, .c (ci (t.length : Int))), (9, .c (ci (t.length : Int))), (10, .c (ci v10_1))], 67⟩) H1 m1 ⟨0, ghe_to (n := 67) rfl rfl ⟨rfl, rfl, rfl, rfl, trivial⟩, q1⟩ ?_
  rintro v10_1 q1
  replace h := h v10_1 q1
  refine aw_seq ?_
  refine aw_region ?_
  refine run_s (ss_lss rfl rfl) rfl ?_
  refine run_nil ?_
  refine aw_seq ?_
  refine aw_cond rfl (fun q2 => ?_) (fun q2 => ?_)
  ·replace h := h.1 (of_decide_eq_true q2)
   refine aw_skip ?_
   refine aw_seq ?_
   refine aw_block ?_
   refine aw_seq ?_
   refine aw_region ?_
   refine run_s (ss_move rfl) rfl ?_
   refine run_s (ss_assign rfl) rfl ?_
   refine run_nil ?_
   refine aw_seq ?_
   refine aw_region ?_
   refine run_s (ss_move rfl) rfl ?_
   refine run_s (ss_move rfl) rfl ?_
   refine run_nil ?_
   refine aw_block ?_
   obtain ⟨H2, m2, q3, h⟩ := h
   refine aw_loop1 (fun (v14_2 : Int) => ⟨[], [(0, .c (.lst (rows t))), (3, .c (ci (t.length : Int))), (4, .c (ci v10_1)), (9, .c (ci (t.length : Int))), (10, .c (ci v10_1)), (13, .c (ci (t.length : Int))), (14, .c (ci v14_2))], 67⟩) H2 m2 ⟨0, ghe_to (n := 67) rfl rfl ⟨rfl, rfl, rfl, rfl, rfl, rfl, rfl, trivial⟩, q3⟩ ?_
   rintro v14_2 q3
   replace h := h v14_2 q3
   refine aw_seq ?_
   refine aw_region ?_
   refine run_s (ss_lss rfl rfl) rfl ?_
   refine run_nil ?_
   refine aw_seq ?_
   refine aw_cond rfl (fun q4 => ?_) (fun q4 => ?_)
   ·replace h := h.1 (of_decide_eq_true q4)
    refine aw_skip ?_
    refine aw_seq ?_
    refine aw_block ?_
    refine aw_seq ?_
    refine aw_region ?_
    refine run_s (ss_move rfl) rfl ?_
    refine run_s (ss_assign rfl) rfl ?_
    refine run_nil ?_
    refine aw_seq ?_
    refine aw_region ?_
    refine run_s (ss_move rfl) rfl ?_
    refine run_s (ss_move rfl) rfl ?_
    refine run_nil ?_
    refine aw_block ?_
    obtain ⟨H3, m3, q5, h⟩ := h
    refine aw_loop1 (fun (v18_3 : Int) => ⟨[], [(0, .c (.lst (rows t))), (3, .c (ci (t.length : Int))), (4, .c (ci v10_1)), (5, .c (ci v14_2)), (9, .c (ci (t.length : Int))), (10, .c (ci v10_1)), (13, .c (ci (t.length : Int))), (14, .c (ci v14_2)), (17, .c (ci (t.length : Int))), (18, .c (ci v18_3))], 67⟩) H3 m3 ⟨0, ghe_to (n := 67) rfl rfl ⟨rfl, rfl, rfl, rfl, rfl, rfl, rfl, rfl, rfl, rfl, trivial⟩, q5⟩ ?_
    rintro v18_3 q5
    replace h := h v18_3 q5
    refine aw_seq ?_
    refine aw_region ?_
    refine run_s (ss_lss rfl rfl) rfl ?_
    refine run_nil ?_
    refine aw_seq ?_
    refine aw_cond rfl (fun q6 => ?_) (fun q6 => ?_)
    ·replace h := h.1 (of_decide_eq_true q6)
     refine aw_skip ?_
     refine aw_seq ?_
     refine aw_block ?_
     refine aw_seq ?_
     refine aw_region ?_
     refine run_s (ss_move rfl) rfl ?_
     refine run_s (ss_assign rfl) rfl ?_
     refine run_nil ?_
     refine aw_seq ?_
     refine aw_gh (gh_to (n := 67) (σ' := []) (env' := [(0, .c (.lst (rows t))), (3, .c (ci (t.length : Int))), (4, .c (ci v10_1)), (5, .c (ci v14_2)), (6, .c (ci v18_3)), (9, .c (ci (t.length : Int))), (10, .c (ci v10_1)), (13, .c (ci (t.length : Int))), (14, .c (ci v14_2)), (17, .c (ci (t.length : Int))), (18, .c (ci v18_3))]) rfl rfl ⟨rfl, rfl, rfl, rfl, rfl, rfl, rfl, rfl, rfl, rfl, rfl, trivial⟩) ?_
     refine aw_regionD (kd := kdl [0, 0, 0, 0, 1, 0, 0, 1, 0, 1, 0, 0, 0, 1, 0, 0, 1, 0, 1, 0, 0, 0, 0, 1, 0, 0, 1, 0, 1, 0, 0, 0, 1, 0, 0, 1, 0, 1, 0]) (ord := [0, 1, 2, 3, 5, 10, 11, 12, 14, 19, 20, 21, 22, 24, 29, 30, 31, 33, 4, 6, 7, 8, 9, 13, 15, 16, 17, 18, 23, 25, 26, 27, 28, 32, 34, 35, 36, 37, 38]) [] mixed (by kernel_rfl) ?_
     refine rd_s rfl rfl trivial (ss_move rfl) rfl ?_
     refine rd_s rfl rfl trivial (ss_move rfl) rfl ?_
     refine rd_s rfl rfl trivial (ss_move rfl) rfl ?_
     obtain ⟨q7, h⟩ := h
     refine rd_s rfl rfl trivial (ss_idxL rfl rfl q7) rfl ?_
     refine rd_s rfl rfl trivial (ss_move rfl) rfl ?_
     refine rd_s rfl rfl trivial (ss_move rfl) rfl ?_
     refine rd_s rfl rfl trivial (ss_move rfl) rfl ?_
     obtain ⟨q8, h⟩ := h
     refine rd_s rfl rfl trivial (ss_idxL rfl rfl q8) rfl ?_
     refine rd_s rfl rfl trivial (ss_move rfl) rfl ?_
     refine rd_s rfl rfl trivial (ss_move rfl) rfl ?_
     refine rd_s rfl rfl trivial (ss_move rfl) rfl ?_
     refine rd_s rfl rfl trivial (ss_move rfl) rfl ?_
     obtain ⟨q9, h⟩ := h
     refine rd_s rfl rfl trivial (ss_idxL rfl rfl q9) rfl ?_
     refine rd_s rfl rfl trivial (ss_move rfl) rfl ?_
     refine rd_s rfl rfl trivial (ss_move rfl) rfl ?_
     refine rd_s rfl rfl trivial (ss_move rfl) rfl ?_
     obtain ⟨q10, h⟩ := h
     refine rd_s rfl rfl trivial (ss_idxL rfl rfl q10) rfl ?_
     refine rd_s rfl rfl trivial (ss_move rfl) rfl ?_
     refine rd_l rfl rfl trivial (ss_loadL (f := (fun r => C.lst (ints r))) rfl q7) rfl ?_
     obtain ⟨q11, h⟩ := h
     refine rd_s rfl rfl trivial (ss_idxL rfl rfl q11) rfl ?_
     refine rd_l rfl rfl trivial (ss_loadL (f := ci) rfl q11) rfl ?_
     obtain ⟨q12, h⟩ := h
     refine rd_s rfl rfl trivial (ss_idxL rfl rfl q12) rfl ?_
     refine rd_l rfl rfl trivial (ss_loadL (f := (fun r => C.lst (ints r))) rfl q12) rfl ?_
     refine rd_l rfl rfl trivial (ss_loadL (f := (fun r => C.lst (ints r))) rfl q8) rfl ?_
     obtain ⟨q13, h⟩ := h
     refine rd_s rfl rfl trivial (ss_idxL rfl rfl q13) rfl ?_
     refine rd_l rfl rfl trivial (ss_loadL (f := ci) rfl q13) rfl ?_
     obtain ⟨q14, h⟩ := h
     refine rd_s rfl rfl trivial (ss_idxL rfl rfl q14) rfl ?_
     refine rd_l rfl rfl trivial (ss_loadL (f := ci) rfl q14) rfl ?_
     refine rd_l rfl rfl trivial (ss_loadL (f := (fun r => C.lst (ints r))) rfl q9) rfl ?_
     obtain ⟨q15, h⟩ := h
     refine rd_s rfl rfl trivial (ss_idxL rfl rfl q15) rfl ?_
     refine rd_l rfl rfl trivial (ss_loadL (f := ci) rfl q15) rfl ?_
     obtain ⟨q16, h⟩ := h
     refine rd_s rfl rfl trivial (ss_idxL rfl rfl q16) rfl ?_
     refine rd_l rfl rfl trivial (ss_loadL (f := (fun r => C.lst (ints r))) rfl q16) rfl ?_
     refine rd_l rfl rfl trivial (ss_loadL (f := (fun r => C.lst (ints r))) rfl q10) rfl ?_
     obtain ⟨q17, h⟩ := h
     refine rd_s rfl rfl trivial (ss_idxL rfl rfl q17) rfl ?_
     refine rd_l rfl rfl trivial (ss_loadL (f := ci) rfl q17) rfl ?_
     obtain ⟨q18, h⟩ := h
     refine rd_s rfl rfl trivial (ss_idxL rfl rfl q18) rfl ?_
     refine rd_l rfl rfl trivial (ss_loadL (f := ci) rfl q18) rfl ?_
     refine rd_s rfl rfl trivial (ss_neq rfl rfl) rfl ?_
     refine rd_nil ?_
     refine aw_cond rfl (fun q19 => ?_) (fun q19 => ?_)
     ·replace h := h.1 (of_decide_eq_false (bnot_t q19))
      refine aw_seq ?_
      refine aw_gh (gh_to (n := 67) (σ' := []) (env' := [(4, .c (ci v10_1)), (5, .c (ci v14_2)), (6, .c (ci v18_3))]) rfl rfl ⟨rfl, rfl, rfl, trivial⟩) ?_
      refine aw_region ?_
      refine run_s (ss_move rfl) rfl ?_
      refine run_s (ss_move rfl) rfl ?_
      refine run_s (ss_move rfl) rfl ?_
      refine run_w (ws_buildSlice (id := 63) (ps := [(0, .tmp 60), (1, .tmp 61), (2, .tmp 62)]) rfl rfl (Nat.le_of_ble_eq_true rfl) rfl ⟨rfl, ?_⟩)
      refine run_s (ss_assign rfl) rfl ?_
      refine run_nil ?_
      refine aw_ret ?_
      exact retAF_mk (retv1 rfl (rv_tmp rfl)) rfl rfl ⟨_, (cle_refl _), _, h, rfl⟩
     ·replace h := h.2 (of_decide_eq_true (bnot_f q19))
      refine aw_skip ?_
      refine aw_gh (gh_to (n := 67) (σ' := []) (env' := [(0, .c (.lst (rows t))), (3, .c (ci (t.length : Int))), (4, .c (ci v10_1)), (5, .c (ci v14_2)), (9, .c (ci (t.length : Int))), (10, .c (ci v10_1)), (13, .c (ci (t.length : Int))), (14, .c (ci v14_2)), (17, .c (ci (t.length : Int))), (18, .c (ci v18_3))]) rfl rfl ⟨rfl, rfl, rfl, rfl, rfl, rfl, rfl, rfl, rfl, rfl, trivial⟩) ?_
      refine aw_region ?_
      obtain ⟨q20, h⟩ := h
      refine run_s (ss_add rfl rfl q20) rfl ?_
      refine run_s (ss_move rfl) rfl ?_
      refine run_nil ?_
      exact ⟨v18_3 + 1, ghe_to (n := 67) rfl rfl ⟨rfl, rfl, rfl, rfl, rfl, rfl, rfl, rfl, rfl, rfl, trivial⟩, h.1, h.2⟩
    ·replace h := h.2 (of_decide_eq_false q6)
     refine aw_exit ?_
     refine aw_gh (gh_to (n := 67) (σ' := []) (env' := [(0, .c (.lst (rows t))), (3, .c (ci (t.length : Int))), (4, .c (ci v10_1)), (9, .c (ci (t.length : Int))), (10, .c (ci v10_1)), (13, .c (ci (t.length : Int))), (14, .c (ci v14_2))]) rfl rfl ⟨rfl, rfl, rfl, rfl, rfl, rfl, rfl, trivial⟩) ?_
     refine aw_region ?_
     obtain ⟨q21, h⟩ := h
     refine run_s (ss_add rfl rfl q21) rfl ?_
     refine run_s (ss_move rfl) rfl ?_
     refine run_nil ?_
     exact ⟨v14_2 + 1, ghe_to (n := 67) rfl rfl ⟨rfl, rfl, rfl, rfl, rfl, rfl, rfl, trivial⟩, h.1, h.2⟩
   ·replace h := h.2 (of_decide_eq_false q4)
    refine aw_exit ?_
    refine aw_gh (gh_to (n := 67) (σ' := []) (env' := [(0, .c (.lst (rows t))), (3, .c (ci (t.length : Int))), (9, .c (ci (t.length : Int))), (10, .c (ci v10_1))]) rfl rfl ⟨rfl, rfl, rfl, rfl, trivial⟩) ?_
    refine aw_region ?_
    obtain ⟨q22, h⟩ := h
    refine run_s (ss_add rfl rfl q22) rfl ?_
    refine run_s (ss_move rfl) rfl ?_
    refine run_nil ?_
    exact ⟨v10_1 + 1, ghe_to (n := 67) rfl rfl ⟨rfl, rfl, rfl, rfl, trivial⟩, h.1, h.2⟩
  ·replace h := h.2 (of_decide_eq_false q2)
   refine aw_exit ?_
   refine aw_seq ?_
   refine aw_gh (gh_to (n := 67) (σ' := []) (env' := []) rfl rfl trivial) ?_
   refine aw_region ?_
   refine run_s (ss_assign rfl) rfl ?_
   refine run_nil ?_
   refine aw_ret ?_
   exact retAF_mk (retv1 rfl (rv_tmp rfl)) rfl rfl ⟨_, (cle_refl _), _, h, rfl⟩

theorem c_impl_cycleFault (t : List (List Int)) (hp : isTab t = true) : AF Try.prog 55 [.lst (rows t)] (fun R_ => R_ = onil (cycF t)) :=
  (w_impl_cycleFault t (fun y0 => y0 = cycF t) (p_impl_cycleFault t hp)).mono (by rintro r ⟨_, rfl, rfl⟩; rfl)

def wp_k_Index (s : List Int) (v : Int) (Q : Int → Prop) : Prop :=
 ∃ (H1 : Int → Prop) (m1 : Int → Nat),
 H1 0 ∧
 ∀ (v8_1 : Int), H1 v8_1 →
 ( ((v8_1 < (s.length : Int) →
 (0 ≤ v8_1 ∧ v8_1 < (s.length : Int)) ∧
 ((v = el s v8_1 →
 Q v8_1) ∧
 (¬ (v = el s v8_1) →
 (InI (v8_1 + 1)) ∧
 (H1 (v8_1 + 1) ∧ m1 (v8_1 + 1) < m1 v8_1)))) ∧
 (¬ (v8_1 < (s.length : Int)) →
 Q (-1))))

def wp_k_Clone (s : List Int) (Q : List Int → Prop) : Prop :=
 ∀ (b1 : Bool), (b1 = true → s = []) →
 ((b1 = true →
 Q ([])) ∧
 (b1 = false →
 ((([] : List Int).length : Int) + (s.length : Int) ≤ 1000000000) ∧
 Q (([] : List Int) ++ s)))

def wp_spec_l01Same (a : List Int) (b : List Int) (Q : Bool → Prop) : Prop :=
 ((¬ ((a.length : Int) = (b.length : Int)) →
 Q false) ∧
 ((a.length : Int) = (b.length : Int) →
 ∃ (H1 : Int → Prop) (m1 : Int → Nat),
 H1 0 ∧
 ∀ (v5_1 : Int), H1 v5_1 →
 ( ((v5_1 < (a.length : Int) →
 (0 ≤ v5_1 ∧ v5_1 < (a.length : Int)) ∧
 (0 ≤ v5_1 ∧ v5_1 < (b.length : Int)) ∧
 ((¬ (el a v5_1 = el b v5_1) →
 Q false) ∧
 (el a v5_1 = el b v5_1 →
 (InI (v5_1 + 1)) ∧
 (H1 (v5_1 + 1) ∧ m1 (v5_1 + 1) < m1 v5_1)))) ∧
 (¬ (v5_1 < (a.length : Int)) →
 Q true)))))

def wp_spec_l01Rows (t : List (List Int)) (Q : Bool → Prop) : Prop :=
 ∃ (H1 : Int → Prop) (m1 : Int → Nat),
 H1 0 ∧
 ∀ (v3_1 : Int), H1 v3_1 →
 ( ((v3_1 < (t.length : Int) →
 (0 ≤ v3_1 ∧ v3_1 < (t.length : Int)) ∧
 (small (el t v3_1)) ∧
 (((permB (el t v3_1)) = false →
 Q false) ∧
 ((permB (el t v3_1)) = true →
 (InI (v3_1 + 1)) ∧
 (H1 (v3_1 + 1) ∧ m1 (v3_1 + 1) < m1 v3_1)))) ∧
 (¬ (v3_1 < (t.length : Int)) →
 Q true)))

def wp_impl_permutationRows_1 (row : List Int) (Q : Bool → Prop) : Prop :=
 (small row) ∧
 Q (!((isPerm row)))

def wp_impl_permutationRows (t : List (List Int)) (Q : Bool → Prop) : Prop :=
 (small t ∧ ∀ r_ ∈ t, (fun z0 => small z0) r_) ∧
 Q (!((t.any (fun z0 => !isPerm z0))))

def wp_impl_IsCycleSet (c : List (List Int)) (Q : Bool → Prop) : Prop :=
 (small2 c) ∧
 (((isTab c) = true →
 (small2 c) ∧
 (((c.all isPerm) = true →
 (isTab c = true) ∧
 (small (diag c)) ∧
 (((isPerm (diag c)) = true →
 (((cycF c) = [] →
 (isTab c = true) ∧
 Q true) ∧
 (¬ (cycF c) = [] →
 (isTab c = true) ∧
 Q false))) ∧
 ((isPerm (diag c)) = false →
 Q false))) ∧
 ((c.all isPerm) = false →
 Q false))) ∧
 ((isTab c) = false →
 Q false))

def wp_spec_l05Is (c : List (List Int)) (Q : Bool → Prop) : Prop :=
 (small2 c) ∧
 (((isTab c) = true →
 (small2 c) ∧
 (((c.all permB) = true →
 (isTab c = true) ∧
 (small (diag c)) ∧
 (((permB (diag c)) = true →
 (isTab c = true) ∧
 Q (decide (((cycF c).length : Int) = 0))) ∧
 ((permB (diag c)) = false →
 Q false))) ∧
 ((c.all permB) = false →
 Q false))) ∧
 ((isTab c) = false →
 Q false))

theorem p_k_Index (s : List Int) (v : Int) (hp : small s) : wp_k_Index s v (fun y0 => y0 = idxI s v) := by
  unfold wp_k_Index idxI
  refine ⟨fun i => 0 ≤ i ∧ i ≤ (s.length : Int) ∧ Upto i fun j => (el s j == v) = false, fun i => ((s.length : Int) - i).toNat, ⟨by omega, by omega, upto0⟩, ?_⟩
  rintro i ⟨h0, h1, hI⟩
  dsimp only
  refine ⟨fun hlt => ⟨⟨h0, hlt⟩, fun hf => (idxF_found ⟨h0, hlt⟩ hI (by simp [hf])).symm, fun ht => ⟨⟨by omega, by omega⟩, ⟨by omega, by omega, upto1 hI (by simpa using fun e => ht e.symm)⟩, by omega⟩⟩, fun hge => ?_⟩
  exact (idxF_none (by rwa [show i = (s.length : Int) by omega] at hI)).symm
theorem p_k_Clone (s : List Int) (hp : small s) : wp_k_Clone s (fun y0 => y0 = s) := by
  unfold wp_k_Clone
  exact fun b hb => ⟨fun h => (hb h).symm, fun _ => ⟨by simp; omega, rfl⟩⟩
theorem p_spec_l01Same (a b : List Int) (hp : small a ∧ small b) : wp_spec_l01Same a b (fun y0 => y0 = decide (a = b)) := by
  unfold wp_spec_l01Same
  obtain ⟨ha, hb⟩ := hp
  refine ⟨fun h => (decide_eq_false fun e => h (by rw [e])).symm, fun h => ⟨fun i => 0 ≤ i ∧ i ≤ (a.length : Int) ∧ Upto i fun j => el a j = el b j, fun i => ((a.length : Int) - i).toNat, ⟨by omega, by omega, upto0⟩, ?_⟩⟩
  rintro i ⟨h0, h1, hI⟩
  dsimp only
  refine ⟨fun hlt => ⟨⟨h0, hlt⟩, ⟨h0, by omega⟩, fun hf => (decide_eq_false fun e => hf (by rw [e])).symm, fun ht => ⟨⟨by omega, by omega⟩, ⟨by omega, by omega, upto1 hI ht⟩, by omega⟩⟩, fun hge => ?_⟩
  exact (decide_eq_true (ext_el (by omega) fun j h2 h3 => hI j h2 (by omega))).symm
theorem p_spec_l01Rows (t : List (List Int)) (hp : small2 t) : wp_spec_l01Rows t (fun y0 => y0 = t.all permB) := by
  unfold wp_spec_l01Rows
  obtain ⟨h1, h2⟩ := hp
  refine ⟨fun i => 0 ≤ i ∧ i ≤ (t.length : Int) ∧ Upto i fun j => permB (el t j) = true, fun i => ((t.length : Int) - i).toNat, ⟨by omega, by omega, upto0⟩, ?_⟩
  rintro i ⟨h0, h3, hI⟩
  dsimp only
  refine ⟨fun hlt => ⟨⟨h0, hlt⟩, h2 _ (el_mem ⟨h0, hlt⟩), fun hf => (all_f ⟨h0, hlt⟩ hf).symm, fun ht => ⟨⟨by omega, by omega⟩, ⟨by omega, by omega, upto1 hI ht⟩, by omega⟩⟩, fun hge => ?_⟩
  exact (all_t (by rwa [show i = (t.length : Int) by omega] at hI)).symm
theorem p_impl_permutationRows_1 (row : List Int) (hp : small row) : wp_impl_permutationRows_1 row (fun y0 => y0 = !isPerm row) := ⟨hp, rfl⟩
theorem p_impl_permutationRows (t : List (List Int)) (hp : small2 t) : wp_impl_permutationRows t (fun y0 => y0 = t.all isPerm) := by
  refine ⟨⟨hp.1, hp.2⟩, ?_⟩
  rw [List.not_any_eq_all_not]; simp
theorem isEmpty_iff_nil {l : List Int} : l.isEmpty = decide ((l.length : Int) = 0) := by cases l <;> simp; omega
theorem small_diag {c : List (List Int)} (h : isTab c = true) : small (diag c) := by have := isTab_len h; show ((diag c).length : Int) ≤ 1000000000; simp; omega
theorem p_impl_IsCycleSet (c : List (List Int)) (hp : small2 c) : wp_impl_IsCycleSet c (fun y0 => y0 = isCyc c) := by
  unfold wp_impl_IsCycleSet isCyc
  refine ⟨hp, fun h => ⟨hp, fun h2 => ⟨h, small_diag h, fun h3 => ⟨fun h4 => ⟨h, ?_⟩, fun h4 => ⟨h, ?_⟩⟩, fun h3 => ?_⟩, fun h2 => ?_⟩, fun h => ?_⟩
  · rw [h, h2, h3, h4]; rfl
  · rw [h, h2, h3]; cases e : cycF c with
    | nil => exact absurd e h4
    | cons x l => rfl
  · rw [h, h2, h3]; rfl
  · rw [h, h2]; rfl
  · rw [h]; rfl
theorem permB_diag {c : List (List Int)} (h : isTab c = true) : permB (diag c) = isPerm (diag c) := by
  have := isTab_len h
  unfold permB
  have e1 : decide (1 ≤ ((diag c).length : Int)) = true := decide_eq_true (by simp; omega)
  have e2 : decide (((diag c).length : Int) ≤ 12) = true := decide_eq_true (by simp; omega)
  rw [e1, e2]; rfl
theorem p_spec_l05Is (c : List (List Int)) (hp : small2 c) : wp_spec_l05Is c (fun y0 => y0 = isCyc c) := by
  unfold wp_spec_l05Is isCyc
  refine ⟨hp, fun h => ⟨hp, fun h2 => ⟨h, small_diag h, fun h3 => ⟨h, ?_⟩, fun h3 => ?_⟩, fun h2 => ?_⟩, fun h => ?_⟩
  · rw [isTab_perm h] at h2
    rw [permB_diag h] at h3
    rw [h, h2, h3, isEmpty_iff_nil]; rfl
  · rw [isTab_perm h] at h2
    rw [permB_diag h] at h3
    rw [h, h2, h3]; rfl
  · rw [isTab_perm h] at h2
    rw [h, h2]; rfl
  · rw [h]; rfl
theorem tab_rows {r : List (List Int)} (h : isTab r = true) : ∀ q ∈ r, small q := (isTab_small h).2
set_option maxRecDepth 100000 in
set_option maxHeartbeats 4000000 in
theorem w_k_Index (s : List Int) (v : Int) (Q : Int → Prop) (h : wp_k_Index s v Q) : AF Try.prog 67 [.lst (ints s), ci v] (fun R_ => ∃ y0, Q y0 ∧ R_ = ci y0) := by
  refine AF.ofWQ (af_enter (n := 19) Try.func67 rfl (by rfl) rfl (Nat.le_of_ble_eq_true rfl) ?_)
  unfold wp_k_Index at h
  refine aw_seq ?_
  refine aw_gh (gh_to (n := 19) (σ' := []) (env' := [(0, .c (.lst (ints s))), (1, .c (ci v))]) rfl rfl ⟨rfl, rfl, trivial⟩) ?_
  refine aw_region ?_
  refine run_s (ss_assign rfl) rfl ?_
  refine run_nil ?_
  refine aw_seq ?_
  refine aw_seq ?_
  refine aw_region ?_
  refine run_s (ss_move rfl) rfl ?_
  refine run_s (ss_lenL (f := ci) rfl) rfl ?_
  refine run_s (ss_move rfl) rfl ?_
  refine run_nil ?_
  refine aw_block ?_
  obtain ⟨H1, m1, q1, h⟩ := h
  refine aw_loop1 (fun (v8_1 : Int) => ⟨[], [(0, .c (.lst (ints s))), (1, .c (ci v)), (7, .c (ci (s.length : Int))), (8, .c (ci v8_1))], 19⟩) H1 m1 ⟨0, ghe_to (n := 19) rfl rfl ⟨rfl, rfl, rfl, rfl, trivial⟩, q1⟩ ?_
  rintro v8_1 q1
  replace h := h v8_1 q1
  refine aw_seq ?_
  refine aw_region ?_
  refine run_s (ss_lss rfl rfl) rfl ?_
  refine run_nil ?_
  refine aw_seq ?_
  refine aw_cond rfl (fun q2 => ?_) (fun q2 => ?_)
  ·replace h := h.1 (of_decide_eq_true q2)
   refine aw_skip ?_
   refine aw_seq ?_
   refine aw_block ?_
   refine aw_seq ?_
   refine aw_region ?_
   refine run_s (ss_move rfl) rfl ?_
   refine run_s (ss_assign rfl) rfl ?_
   refine run_nil ?_
   refine aw_seq ?_
   refine aw_region ?_
   refine run_s (ss_move rfl) rfl ?_
   refine run_s (ss_move rfl) rfl ?_
   refine run_s (ss_move rfl) rfl ?_
   obtain ⟨q3, h⟩ := h
   refine run_s (ss_idxL rfl rfl q3) rfl ?_
   refine run_s (ss_loadL (f := ci) rfl q3) rfl ?_
   refine run_s (ss_eql rfl rfl) rfl ?_
   refine run_nil ?_
   refine aw_cond rfl (fun q4 => ?_) (fun q4 => ?_)
   ·replace h := h.1 (of_decide_eq_true q4)
    refine aw_seq ?_
    refine aw_gh (gh_to (n := 19) (σ' := []) (env' := [(5, .c (ci v8_1))]) rfl rfl ⟨rfl, trivial⟩) ?_
    refine aw_region ?_
    refine run_s (ss_move rfl) rfl ?_
    refine run_s (ss_assign rfl) rfl ?_
    refine run_nil ?_
    refine aw_ret ?_
    exact retAF_mk (retv1 rfl (rv_tmp rfl)) rfl rfl ⟨_, (cle_refl _), _, h, rfl⟩
   ·replace h := h.2 (of_decide_eq_false q4)
    refine aw_skip ?_
    refine aw_gh (gh_to (n := 19) (σ' := []) (env' := [(0, .c (.lst (ints s))), (1, .c (ci v)), (7, .c (ci (s.length : Int))), (8, .c (ci v8_1))]) rfl rfl ⟨rfl, rfl, rfl, rfl, trivial⟩) ?_
    refine aw_region ?_
    obtain ⟨q5, h⟩ := h
    refine run_s (ss_add rfl rfl q5) rfl ?_
    refine run_s (ss_move rfl) rfl ?_
    refine run_nil ?_
    exact ⟨v8_1 + 1, ghe_to (n := 19) rfl rfl ⟨rfl, rfl, rfl, rfl, trivial⟩, h.1, h.2⟩
  ·replace h := h.2 (of_decide_eq_false q2)
   refine aw_exit ?_
   refine aw_seq ?_
   refine aw_gh (gh_to (n := 19) (σ' := []) (env' := []) rfl rfl trivial) ?_
   refine aw_region ?_
   refine run_s (ss_assign rfl) rfl ?_
   refine run_nil ?_
   refine aw_ret ?_
   exact retAF_mk (retv1 rfl (rv_tmp rfl)) rfl rfl ⟨_, (cle_refl _), _, h, rfl⟩

theorem c_k_Index (s : List Int) (v : Int) (hp : small s) : AF Try.prog 67 [.lst (ints s), ci v] (fun R_ => R_ = ci (idxI s v)) :=
  (w_k_Index s v (fun y0 => y0 = idxI s v) (p_k_Index s v hp)).mono (by rintro r ⟨_, rfl, rfl⟩; rfl)

set_option maxRecDepth 100000 in
set_option maxHeartbeats 4000000 in
theorem w_k_Clone (s : List Int) (Q : List Int → Prop) (h : wp_k_Clone s Q) : AF Try.prog 26 [.lst (ints s)] (fun R_ => ∃ y0, Q y0 ∧ R_ = .own (ints y0)) := by
  refine AF.ofWQ (af_enter (n := 8) Try.func26 rfl (by rfl) rfl (Nat.le_of_ble_eq_true rfl) ?_)
  unfold wp_k_Clone at h
  refine aw_seq ?_
  refine aw_gh (gh_to (n := 8) (σ' := []) (env' := [(0, .c (.lst (ints s)))]) rfl rfl ⟨rfl, trivial⟩) ?_
  refine aw_region ?_
  refine run_s (ss_assign rfl) rfl ?_
  refine run_nil ?_
  refine aw_seq ?_
  refine aw_seq ?_
  refine aw_region ?_
  refine run_s (ss_move rfl) rfl ?_
  refine run_w (ws_eqlNilL (f := ci) rfl rfl ?_ )
  intro b1 q1
  replace h := h b1 q1
  refine ⟨rfl, ?_⟩
  refine run_nil ?_
  refine aw_cond rfl (fun q2 => ?_) (fun q2 => ?_)
  ·replace h := h.1 (q2)
   refine aw_seq ?_
   refine aw_gh (gh_to (n := 8) (σ' := []) (env' := [(2, .c (cnil))]) rfl rfl ⟨rfl, trivial⟩) ?_
   refine aw_region ?_
   refine run_s (ss_assign rfl) rfl ?_
   refine run_nil ?_
   refine aw_ret ?_
   exact retAF_mk (retv1 rfl (rv_tmp rfl)) rfl rfl ⟨_, cle_nilO, _, h, rfl⟩
  ·replace h := h.2 (q2)
   refine aw_skip ?_
   refine aw_seq ?_
   refine aw_region ?_
   refine run_w (ws_buildSlice (id := 5) (ps := []) rfl rfl (Nat.le_of_ble_eq_true rfl) rfl ⟨rfl, ?_⟩)
   refine run_s (ss_move rfl) rfl ?_
   obtain ⟨q3, h⟩ := h
   refine run_w (ws_appL ci (l := ([] : List Int)) (m := s) rfl rfl rfl (Nat.le_of_ble_eq_true rfl) q3 ⟨rfl, ?_⟩)
   refine run_s (ss_assign rfl) rfl ?_
   refine run_nil ?_
   refine aw_ret ?_
   exact retAF_mk (retv1 rfl (rv_tmp rfl)) rfl rfl ⟨_, (cle_refl _), _, h, rfl⟩

theorem c_k_Clone (s : List Int) (hp : small s) : AF Try.prog 26 [.lst (ints s)] (fun R_ => R_ = .own (ints s)) :=
  (w_k_Clone s (fun y0 => y0 = s) (p_k_Clone s hp)).mono (by rintro r ⟨_, rfl, rfl⟩; rfl)

set_option maxRecDepth 100000 in
set_option maxHeartbeats 4000000 in
theorem w_spec_l01Same (a : List Int) (b : List Int) (Q : Bool → Prop) (h : wp_spec_l01Same a b Q) : AF Try.prog 60 [.lst (ints a), .lst (ints b)] (fun R_ => ∃ y0, Q y0 ∧ R_ = cb y0) := by
  refine AF.ofWQ (af_enter (n := 26) Try.func60 rfl (by rfl) rfl (Nat.le_of_ble_eq_true rfl) ?_)
  unfold wp_spec_l01Same at h
  refine aw_seq ?_
  refine aw_gh (gh_to (n := 26) (σ' := []) (env' := [(0, .c (.lst (ints a))), (1, .c (.lst (ints b)))]) rfl rfl ⟨rfl, rfl, trivial⟩) ?_
  refine aw_region ?_
  refine run_s (ss_assign rfl) rfl ?_
  refine run_nil ?_
  refine aw_seq ?_
  refine aw_seq ?_
  refine aw_region ?_
  refine run_s (ss_move rfl) rfl ?_
  refine run_s (ss_lenL (f := ci) rfl) rfl ?_
  refine run_s (ss_move rfl) rfl ?_
  refine run_s (ss_lenL (f := ci) rfl) rfl ?_
  refine run_s (ss_neq rfl rfl) rfl ?_
  refine run_nil ?_
  refine aw_cond rfl (fun q1 => ?_) (fun q1 => ?_)
  ·replace h := h.1 (of_decide_eq_false (bnot_t q1))
   refine aw_seq ?_
   refine aw_gh (gh_to (n := 26) (σ' := []) (env' := [(4, .c (cb false))]) rfl rfl ⟨rfl, trivial⟩) ?_
   refine aw_region ?_
   refine run_s (ss_assign rfl) rfl ?_
   refine run_nil ?_
   refine aw_ret ?_
   exact retAF_mk (retv1 rfl (rv_tmp rfl)) rfl rfl ⟨_, (cle_refl _), _, h, rfl⟩
  ·replace h := h.2 (of_decide_eq_true (bnot_f q1))
   refine aw_skip ?_
   refine aw_seq ?_
   refine aw_seq ?_
   refine aw_gh (gh_to (n := 26) (σ' := []) (env' := [(0, .c (.lst (ints a))), (1, .c (.lst (ints b)))]) rfl rfl ⟨rfl, rfl, trivial⟩) ?_
   refine aw_region ?_
   refine run_s (ss_assign rfl) rfl ?_
   refine run_nil ?_
   refine aw_block ?_
   obtain ⟨H1, m1, q2, h⟩ := h
   refine aw_loop1 (fun (v5_1 : Int) => ⟨[], [(0, .c (.lst (ints a))), (1, .c (.lst (ints b))), (5, .c (ci v5_1))], 26⟩) H1 m1 ⟨0, ghe_to (n := 26) rfl rfl ⟨rfl, rfl, rfl, trivial⟩, q2⟩ ?_
   rintro v5_1 q2
   replace h := h v5_1 q2
   refine aw_seq ?_
   refine aw_seq ?_
   refine aw_region ?_
   refine run_s (ss_move rfl) rfl ?_
   refine run_s (ss_move rfl) rfl ?_
   refine run_s (ss_lenL (f := ci) rfl) rfl ?_
   refine run_s (ss_lss rfl rfl) rfl ?_
   refine run_nil ?_
   refine aw_cond rfl (fun q3 => ?_) (fun q3 => ?_)
   ·replace h := h.1 (of_decide_eq_true q3)
    refine aw_skip ?_
    refine aw_seq ?_
    refine aw_block ?_
    refine aw_seq ?_
    refine aw_gh (gh_to (n := 26) (σ' := []) (env' := [(0, .c (.lst (ints a))), (1, .c (.lst (ints b))), (5, .c (ci v5_1))]) rfl rfl ⟨rfl, rfl, rfl, trivial⟩) ?_
    refine aw_regionD (kd := kdl [0, 0, 0, 1, 0, 0, 0, 1, 0]) (ord := [0, 1, 2, 4, 5, 6, 3, 7, 8]) [] mixed (by kernel_rfl) ?_
    refine rd_s rfl rfl trivial (ss_move rfl) rfl ?_
    refine rd_s rfl rfl trivial (ss_move rfl) rfl ?_
    obtain ⟨q4, h⟩ := h
    refine rd_s rfl rfl trivial (ss_idxL rfl rfl q4) rfl ?_
    refine rd_s rfl rfl trivial (ss_move rfl) rfl ?_
    refine rd_s rfl rfl trivial (ss_move rfl) rfl ?_
    obtain ⟨q5, h⟩ := h
    refine rd_s rfl rfl trivial (ss_idxL rfl rfl q5) rfl ?_
    refine rd_l rfl rfl trivial (ss_loadL (f := ci) rfl q4) rfl ?_
    refine rd_l rfl rfl trivial (ss_loadL (f := ci) rfl q5) rfl ?_
    refine rd_s rfl rfl trivial (ss_neq rfl rfl) rfl ?_
    refine rd_nil ?_
    refine aw_cond rfl (fun q6 => ?_) (fun q6 => ?_)
    ·replace h := h.1 (of_decide_eq_false (bnot_t q6))
     refine aw_seq ?_
     refine aw_gh (gh_to (n := 26) (σ' := []) (env' := []) rfl rfl trivial) ?_
     refine aw_region ?_
     refine run_s (ss_assign rfl) rfl ?_
     refine run_nil ?_
     refine aw_ret ?_
     exact retAF_mk (retv1 rfl (rv_tmp rfl)) rfl rfl ⟨_, (cle_refl _), _, h, rfl⟩
    ·replace h := h.2 (of_decide_eq_true (bnot_f q6))
     refine aw_skip ?_
     refine aw_gh (gh_to (n := 26) (σ' := []) (env' := [(0, .c (.lst (ints a))), (1, .c (.lst (ints b))), (5, .c (ci v5_1))]) rfl rfl ⟨rfl, rfl, rfl, trivial⟩) ?_
     refine aw_region ?_
     refine run_s (ss_move rfl) rfl ?_
     obtain ⟨q7, h⟩ := h
     refine run_s (ss_add rfl rfl q7) rfl ?_
     refine run_s (ss_assign rfl) rfl ?_
     refine run_nil ?_
     exact ⟨v5_1 + 1, ghe_to (n := 26) rfl rfl ⟨rfl, rfl, rfl, trivial⟩, h.1, h.2⟩
   ·replace h := h.2 (of_decide_eq_false q3)
    refine aw_exit ?_
    refine aw_seq ?_
    refine aw_gh (gh_to (n := 26) (σ' := []) (env' := []) rfl rfl trivial) ?_
    refine aw_region ?_
    refine run_s (ss_assign rfl) rfl ?_
    refine run_nil ?_
    refine aw_ret ?_
    exact retAF_mk (retv1 rfl (rv_tmp rfl)) rfl rfl ⟨_, (cle_refl _), _, h, rfl⟩

theorem c_spec_l01Same (a : List Int) (b : List Int) (hp : small a ∧ small b) : AF Try.prog 60 [.lst (ints a), .lst (ints b)] (fun R_ => R_ = cb (decide (a = b))) :=
  (w_spec_l01Same a b (fun y0 => y0 = decide (a = b)) (p_spec_l01Same a b hp)).mono (by rintro r ⟨_, rfl, rfl⟩; rfl)

set_option maxRecDepth 100000 in
set_option maxHeartbeats 4000000 in
theorem w_spec_l01Rows (t : List (List Int)) (Q : Bool → Prop) (h : wp_spec_l01Rows t Q) : AF Try.prog 46 [.lst (rows t)] (fun R_ => ∃ y0, Q y0 ∧ R_ = cb y0) := by
  refine AF.ofWQ (af_enter (n := 16) Try.func46 rfl (by rfl) rfl (Nat.le_of_ble_eq_true rfl) ?_)
  unfold wp_spec_l01Rows at h
  refine aw_seq ?_
  refine aw_gh (gh_to (n := 16) (σ' := []) (env' := [(0, .c (.lst (rows t)))]) rfl rfl ⟨rfl, trivial⟩) ?_
  refine aw_region ?_
  refine run_s (ss_assign rfl) rfl ?_
  refine run_nil ?_
  refine aw_seq ?_
  refine aw_seq ?_
  refine aw_region ?_
  refine run_s (ss_assign rfl) rfl ?_
  refine run_nil ?_
  refine aw_block ?_
  obtain ⟨H1, m1, q1, h⟩ := h
  refine aw_loop1 (fun (v3_1 : Int) => ⟨[], [(0, .c (.lst (rows t))), (3, .c (ci v3_1))], 16⟩) H1 m1 ⟨0, ghe_to (n := 16) rfl rfl ⟨rfl, rfl, trivial⟩, q1⟩ ?_
  rintro v3_1 q1
  replace h := h v3_1 q1
  refine aw_seq ?_
  refine aw_seq ?_
  refine aw_region ?_
  refine run_s (ss_move rfl) rfl ?_
  refine run_s (ss_move rfl) rfl ?_
  refine run_s (ss_lenL (f := (fun r => C.lst (ints r))) rfl) rfl ?_
  refine run_s (ss_lss rfl rfl) rfl ?_
  refine run_nil ?_
  refine aw_cond rfl (fun q2 => ?_) (fun q2 => ?_)
  ·replace h := h.1 (of_decide_eq_true q2)
   refine aw_skip ?_
   refine aw_seq ?_
   refine aw_block ?_
   refine aw_seq ?_
   refine aw_region ?_
   refine run_s (ss_move rfl) rfl ?_
   refine run_s (ss_move rfl) rfl ?_
   obtain ⟨q3, h⟩ := h
   refine run_s (ss_idxL rfl rfl q3) rfl ?_
   refine run_s (ss_loadL (f := (fun r => C.lst (ints r))) rfl q3) rfl ?_
   obtain ⟨q4, h⟩ := h
   refine run_w (ws_call (xs := [.tmp 13]) (ids := []) rfl rfl rfl rfl (c_spec_l01Perm (el t v3_1) q4) rfl ?_ )
   rintro _ rfl
   refine ⟨rfl, ?_⟩
   refine run_s (ss_not rfl) rfl ?_
   refine run_nil ?_
   refine aw_cond rfl (fun q6 => ?_) (fun q6 => ?_)
   ·replace h := h.1 ((bnot_t q6))
    refine aw_seq ?_
    refine aw_gh (gh_to (n := 16) (σ' := []) (env' := []) rfl rfl trivial) ?_
    refine aw_region ?_
    refine run_s (ss_assign rfl) rfl ?_
    refine run_nil ?_
    refine aw_ret ?_
    exact retAF_mk (retv1 rfl (rv_tmp rfl)) rfl rfl ⟨_, (cle_refl _), _, h, rfl⟩
   ·replace h := h.2 ((bnot_f q6))
    refine aw_skip ?_
    refine aw_gh (gh_to (n := 16) (σ' := []) (env' := [(0, .c (.lst (rows t))), (3, .c (ci v3_1))]) rfl rfl ⟨rfl, rfl, trivial⟩) ?_
    refine aw_region ?_
    refine run_s (ss_move rfl) rfl ?_
    obtain ⟨q7, h⟩ := h
    refine run_s (ss_add rfl rfl q7) rfl ?_
    refine run_s (ss_assign rfl) rfl ?_
    refine run_nil ?_
    exact ⟨v3_1 + 1, ghe_to (n := 16) rfl rfl ⟨rfl, rfl, trivial⟩, h.1, h.2⟩
  ·replace h := h.2 (of_decide_eq_false q2)
   refine aw_exit ?_
   refine aw_seq ?_
   refine aw_gh (gh_to (n := 16) (σ' := []) (env' := []) rfl rfl trivial) ?_
   refine aw_region ?_
   refine run_s (ss_assign rfl) rfl ?_
   refine run_nil ?_
   refine aw_ret ?_
   exact retAF_mk (retv1 rfl (rv_tmp rfl)) rfl rfl ⟨_, (cle_refl _), _, h, rfl⟩

theorem c_spec_l01Rows (t : List (List Int)) (hp : small2 t) : AF Try.prog 46 [.lst (rows t)] (fun R_ => R_ = cb (t.all permB)) :=
  (w_spec_l01Rows t (fun y0 => y0 = t.all permB) (p_spec_l01Rows t hp)).mono (by rintro r ⟨_, rfl, rfl⟩; rfl)

set_option maxRecDepth 100000 in
set_option maxHeartbeats 4000000 in
theorem w_impl_permutationRows_1 (row : List Int) (Q : Bool → Prop) (h : wp_impl_permutationRows_1 row Q) : AF Try.prog 66 [.lst (ints row)] (fun R_ => ∃ y0, Q y0 ∧ R_ = cb y0) := by
  refine AF.ofWQ (af_enter (n := 6) Try.func66 rfl (by rfl) rfl (Nat.le_of_ble_eq_true rfl) ?_)
  unfold wp_impl_permutationRows_1 at h
  refine aw_seq ?_
  refine aw_gh (gh_to (n := 6) (σ' := []) (env' := [(0, .c (.lst (ints row)))]) rfl rfl ⟨rfl, trivial⟩) ?_
  refine aw_region ?_
  refine run_s (ss_assign rfl) rfl ?_
  refine run_nil ?_
  refine aw_seq ?_
  refine aw_region ?_
  refine run_s (ss_move rfl) rfl ?_
  obtain ⟨q1, h⟩ := h
  refine run_w (ws_call (xs := [.tmp 3]) (ids := []) rfl rfl rfl rfl (c_impl_isPermuted row q1) rfl ?_ )
  rintro _ rfl
  refine ⟨rfl, ?_⟩
  refine run_s (ss_not rfl) rfl ?_
  refine run_s (ss_assign rfl) rfl ?_
  refine run_nil ?_
  refine aw_ret ?_
  exact retAF_mk (retv1 rfl (rv_tmp rfl)) rfl rfl ⟨_, (cle_refl _), _, h, rfl⟩

theorem c_impl_permutationRows_1 (row : List Int) (hp : small row) : AF Try.prog 66 [.lst (ints row)] (fun R_ => R_ = cb (!isPerm row)) :=
  (w_impl_permutationRows_1 row (fun y0 => y0 = !isPerm row) (p_impl_permutationRows_1 row hp)).mono (by rintro r ⟨_, rfl, rfl⟩; rfl)

set_option maxRecDepth 100000 in
set_option maxHeartbeats 4000000 in
theorem w_impl_permutationRows (t : List (List Int)) (Q : Bool → Prop) (h : wp_impl_permutationRows t Q) : AF Try.prog 42 [.lst (rows t)] (fun R_ => ∃ y0, Q y0 ∧ R_ = cb y0) := by
  refine AF.ofWQ (af_enter (n := 6) Try.func42 rfl (by rfl) rfl (Nat.le_of_ble_eq_true rfl) ?_)
  unfold wp_impl_permutationRows at h
  refine aw_seq ?_
  refine aw_gh (gh_to (n := 6) (σ' := []) (env' := [(0, .c (.lst (rows t)))]) rfl rfl ⟨rfl, trivial⟩) ?_
  refine aw_region ?_
  refine run_s (ss_assign rfl) rfl ?_
  refine run_nil ?_
  refine aw_seq ?_
  refine aw_region ?_
  refine run_s (ss_move rfl) rfl ?_
  obtain ⟨q1, h⟩ := h
  refine run_w (ws_call (xs := [.tmp 3, .func 66]) (ids := []) rfl rfl rfl rfl (c_k_ContainsFunc_rows t 66 [] (fun z0 => !isPerm z0) (fun z0 => small z0) (fun z0 hD => c_impl_permutationRows_1 z0 hD) q1) rfl ?_ )
  rintro _ rfl
  refine ⟨rfl, ?_⟩
  refine run_s (ss_not rfl) rfl ?_
  refine run_s (ss_assign rfl) rfl ?_
  refine run_nil ?_
  refine aw_ret ?_
  exact retAF_mk (retv1 rfl (rv_tmp rfl)) rfl rfl ⟨_, (cle_refl _), _, h, rfl⟩

theorem c_impl_permutationRows (t : List (List Int)) (hp : small2 t) : AF Try.prog 42 [.lst (rows t)] (fun R_ => R_ = cb (t.all isPerm)) :=
  (w_impl_permutationRows t (fun y0 => y0 = t.all isPerm) (p_impl_permutationRows t hp)).mono (by rintro r ⟨_, rfl, rfl⟩; rfl)

set_option maxRecDepth 100000 in
set_option maxHeartbeats 4000000 in
theorem w_impl_IsCycleSet (c : List (List Int)) (Q : Bool → Prop) (h : wp_impl_IsCycleSet c Q) : AF Try.prog 32 [.agg [.lst (rows c)]] (fun R_ => ∃ y0, Q y0 ∧ R_ = cb y0) := by
  refine AF.ofWQ (af_enter (n := 22) Try.func32 rfl (by rfl) rfl (Nat.le_of_ble_eq_true rfl) ?_)
  unfold wp_impl_IsCycleSet at h
  refine aw_seq ?_
  refine aw_gh (gh_to (n := 22) (σ' := []) (env' := [(0, .c (.agg [.lst (rows c)]))]) rfl rfl ⟨rfl, trivial⟩) ?_
  refine aw_region ?_
  refine run_w (ws_boxR rfl (.inl rfl) rfl ⟨rfl, ?_⟩)
  refine run_s (ss_assign rfl) rfl ?_
  refine run_nil ?_
  refine aw_seq ?_
  refine aw_region ?_
  refine run_s (ss_field_ptr rfl) rfl ?_
  refine run_s (ss_load_ptr rfl rfl) rfl ?_
  obtain ⟨q1, h⟩ := h
  refine run_w (ws_call (xs := [.tmp 4]) (ids := []) rfl rfl rfl rfl (c_impl_IsTable c q1) rfl ?_ )
  rintro _ rfl
  refine ⟨rfl, ?_⟩
  refine run_s (ss_move rfl) rfl ?_
  refine run_split (s := 6) rfl (fun q3 => ?_) (fun q3 => ?_)
  ·replace h := h.1 (q3)
   refine run_gt rfl rfl q3 ?_
   refine run_s (ss_field_ptr rfl) rfl ?_
   refine run_gt rfl rfl q3 ?_
   refine run_s (ss_load_ptr rfl rfl) rfl ?_
   refine run_gt rfl rfl q3 ?_
   obtain ⟨q4, h⟩ := h
   refine run_w (ws_call (xs := [.tmp 8]) (ids := []) rfl rfl rfl rfl (c_impl_permutationRows c q4) rfl ?_ )
   rintro _ rfl
   refine ⟨rfl, ?_⟩
   refine run_s (ss_pickT rfl q3 rfl) rfl ?_
   refine run_s (ss_move rfl) rfl ?_
   refine run_split (s := 11) rfl (fun q6 => ?_) (fun q6 => ?_)
   ·replace h := h.1 (q6)
    refine run_gt rfl rfl q6 ?_
    refine run_s (ss_load_struct rfl (Nat.le_of_ble_eq_true rfl)) rfl ?_
    refine run_gt rfl rfl q6 ?_
    obtain ⟨q7, h⟩ := h
    refine run_w (ws_call (xs := [.tmp 12]) (ids := [13]) rfl rfl rfl rfl (c_impl_squaresOf c q7) rfl ?_ )
    rintro _ rfl
    refine ⟨rfl, ?_⟩
    refine run_gt rfl rfl q6 ?_
    obtain ⟨q9, h⟩ := h
    refine run_w (ws_callR (xs := [.tmp 13]) (cs := [.own (ints (diag c))]) (ids := []) rfl (.inr ⟨rfl, rfl⟩) rfl rfl (fz_cons (fz_own (fz_map (fun _ => rfl) _)) fz_nil) (c_impl_isPermuted (diag c) q9) rfl ?_ )
    rintro _ rfl
    refine ⟨rfl, rfl, ?_⟩
    refine run_s (ss_pickT rfl q6 rfl) rfl ?_
    refine run_s (ss_move rfl) rfl ?_
    refine run_split (s := 16) rfl (fun q11 => ?_) (fun q11 => ?_)
    ·replace h := h.1 (q11)
     refine run_gt rfl rfl q11 ?_
     refine run_s (ss_field_ptr rfl) rfl ?_
     refine run_gt rfl rfl q11 ?_
     refine run_s (ss_load_ptr rfl rfl) rfl ?_
     refine run_gt rfl rfl q11 ?_
     by_cases q12 : (cycF c) = []
     ·replace h := h.1 q12
      obtain ⟨q13, h⟩ := h
      refine run_w (ws_call (xs := [.tmp 18]) (ids := []) rfl rfl rfl rfl (AF.onil_n (c_impl_cycleFault c q13) q12) rfl ?_ )
      rintro _ rfl
      refine ⟨rfl, ?_⟩
      refine run_gt rfl rfl q11 ?_
      refine run_s (ss_eql_nil rfl rfl) rfl ?_
      refine run_s (ss_pickT rfl q11 rfl) rfl ?_
      refine run_s (ss_assign rfl) rfl ?_
      refine run_nil ?_
      refine aw_ret ?_
      exact retAF_mk (retv1 rfl (rv_tmp rfl)) rfl rfl ⟨_, (cle_refl _), _, h, rfl⟩
     ·replace h := h.2 q12
      obtain ⟨q15, h⟩ := h
      refine run_w (ws_call (xs := [.tmp 18]) (ids := [19]) rfl rfl rfl rfl (AF.onil_o (c_impl_cycleFault c q15) q12) rfl ?_ )
      rintro _ rfl
      refine ⟨rfl, ?_⟩
      refine run_gt rfl rfl q11 ?_
      refine run_s (ss_eql_refNil rfl rfl (map_ne q12) rfl) rfl ?_
      refine run_s (ss_pickT rfl q11 rfl) rfl ?_
      refine run_s (ss_assign rfl) rfl ?_
      refine run_nil ?_
      refine aw_ret ?_
      exact retAF_mk (retv1 rfl (rv_tmp rfl)) rfl rfl ⟨_, (cle_refl _), _, h, rfl⟩
    ·replace h := h.2 (q11)
     refine run_gf rfl rfl q11 rfl ?_
     refine run_gf rfl rfl q11 rfl ?_
     refine run_gf rfl rfl q11 rfl ?_
     refine run_gf rfl rfl q11 rfl ?_
     refine run_s (ss_pickF rfl q11 rfl) rfl ?_
     refine run_s (ss_assign rfl) rfl ?_
     refine run_nil ?_
     refine aw_ret ?_
     exact retAF_mk (retv1 rfl (rv_tmp rfl)) rfl rfl ⟨_, (cle_refl _), _, h, rfl⟩
   ·replace h := h.2 (q6)
    refine run_gf rfl rfl q6 rfl ?_
    refine run_gf rfl rfl q6 rfl ?_
    refine run_gf rfl rfl q6 rfl ?_
    refine run_s (ss_pickF rfl q6 rfl) rfl ?_
    refine run_s (ss_move rfl) rfl ?_
    refine run_split (s := 16) rfl (fun q17 => ?_) (fun q17 => ?_)
    ·cases q17
    ·skip
     refine run_gf rfl rfl q17 rfl ?_
     refine run_gf rfl rfl q17 rfl ?_
     refine run_gf rfl rfl q17 rfl ?_
     refine run_gf rfl rfl q17 rfl ?_
     refine run_s (ss_pickF rfl q17 rfl) rfl ?_
     refine run_s (ss_assign rfl) rfl ?_
     refine run_nil ?_
     refine aw_ret ?_
     exact retAF_mk (retv1 rfl (rv_tmp rfl)) rfl rfl ⟨_, (cle_refl _), _, h, rfl⟩
  ·replace h := h.2 (q3)
   refine run_gf rfl rfl q3 rfl ?_
   refine run_gf rfl rfl q3 rfl ?_
   refine run_gf rfl rfl q3 rfl ?_
   refine run_s (ss_pickF rfl q3 rfl) rfl ?_
   refine run_s (ss_move rfl) rfl ?_
   refine run_split (s := 11) rfl (fun q18 => ?_) (fun q18 => ?_)
   ·cases q18
   ·skip
    refine run_gf rfl rfl q18 rfl ?_
    refine run_gf rfl rfl q18 rfl ?_
    refine run_gf rfl rfl q18 rfl ?_
    refine run_s (ss_pickF rfl q18 rfl) rfl ?_
    refine run_s (ss_move rfl) rfl ?_
    refine run_split (s := 16) rfl (fun q19 => ?_) (fun q19 => ?_)
    ·cases q19
    ·skip
     refine run_gf rfl rfl q19 rfl ?_
     refine run_gf rfl rfl q19 rfl ?_
     refine run_gf rfl rfl q19 rfl ?_
     refine run_gf rfl rfl q19 rfl ?_
     refine run_s (ss_pickF rfl q19 rfl) rfl ?_
     refine run_s (ss_assign rfl) rfl ?_
     refine run_nil ?_
     refine aw_ret ?_
     exact retAF_mk (retv1 rfl (rv_tmp rfl)) rfl rfl ⟨_, (cle_refl _), _, h, rfl⟩

theorem c_impl_IsCycleSet (c : List (List Int)) (hp : small2 c) : AF Try.prog 32 [.agg [.lst (rows c)]] (fun R_ => R_ = cb (isCyc c)) :=
  (w_impl_IsCycleSet c (fun y0 => y0 = isCyc c) (p_impl_IsCycleSet c hp)).mono (by rintro r ⟨_, rfl, rfl⟩; rfl)

set_option maxRecDepth 100000 in
set_option maxHeartbeats 4000000 in
theorem w_spec_l05Is (c : List (List Int)) (Q : Bool → Prop) (h : wp_spec_l05Is c Q) : AF Try.prog 29 [.agg [.lst (rows c)]] (fun R_ => ∃ y0, Q y0 ∧ R_ = cb y0) := by
  refine AF.ofWQ (af_enter (n := 24) Try.func29 rfl (by rfl) rfl (Nat.le_of_ble_eq_true rfl) ?_)
  unfold wp_spec_l05Is at h
  refine aw_seq ?_
  refine aw_gh (gh_to (n := 24) (σ' := []) (env' := [(0, .c (.agg [.lst (rows c)]))]) rfl rfl ⟨rfl, trivial⟩) ?_
  refine aw_region ?_
  refine run_w (ws_boxR rfl (.inl rfl) rfl ⟨rfl, ?_⟩)
  refine run_s (ss_assign rfl) rfl ?_
  refine run_nil ?_
  refine aw_seq ?_
  refine aw_region ?_
  refine run_s (ss_field_ptr rfl) rfl ?_
  refine run_s (ss_load_ptr rfl rfl) rfl ?_
  obtain ⟨q1, h⟩ := h
  refine run_w (ws_call (xs := [.tmp 4]) (ids := []) rfl rfl rfl rfl (c_spec_l01Table c q1) rfl ?_ )
  rintro _ rfl
  refine ⟨rfl, ?_⟩
  refine run_s (ss_move rfl) rfl ?_
  refine run_split (s := 6) rfl (fun q3 => ?_) (fun q3 => ?_)
  ·replace h := h.1 (q3)
   refine run_gt rfl rfl q3 ?_
   refine run_s (ss_field_ptr rfl) rfl ?_
   refine run_gt rfl rfl q3 ?_
   refine run_s (ss_load_ptr rfl rfl) rfl ?_
   refine run_gt rfl rfl q3 ?_
   obtain ⟨q4, h⟩ := h
   refine run_w (ws_call (xs := [.tmp 8]) (ids := []) rfl rfl rfl rfl (c_spec_l01Rows c q4) rfl ?_ )
   rintro _ rfl
   refine ⟨rfl, ?_⟩
   refine run_s (ss_pickT rfl q3 rfl) rfl ?_
   refine run_s (ss_move rfl) rfl ?_
   refine run_split (s := 11) rfl (fun q6 => ?_) (fun q6 => ?_)
   ·replace h := h.1 (q6)
    refine run_gt rfl rfl q6 ?_
    refine run_s (ss_field_ptr rfl) rfl ?_
    refine run_gt rfl rfl q6 ?_
    refine run_s (ss_load_ptr rfl rfl) rfl ?_
    refine run_gt rfl rfl q6 ?_
    obtain ⟨q7, h⟩ := h
    refine run_w (ws_call (xs := [.tmp 13]) (ids := [14]) rfl rfl rfl rfl (c_spec_l05Squares c q7) rfl ?_ )
    rintro _ rfl
    refine ⟨rfl, ?_⟩
    refine run_gt rfl rfl q6 ?_
    obtain ⟨q9, h⟩ := h
    refine run_w (ws_callR (xs := [.tmp 14]) (cs := [.own (ints (diag c))]) (ids := []) rfl (.inr ⟨rfl, rfl⟩) rfl rfl (fz_cons (fz_own (fz_map (fun _ => rfl) _)) fz_nil) (c_spec_l01Perm (diag c) q9) rfl ?_ )
    rintro _ rfl
    refine ⟨rfl, rfl, ?_⟩
    refine run_s (ss_pickT rfl q6 rfl) rfl ?_
    refine run_s (ss_move rfl) rfl ?_
    refine run_split (s := 17) rfl (fun q11 => ?_) (fun q11 => ?_)
    ·replace h := h.1 (q11)
     refine run_gt rfl rfl q11 ?_
     refine run_s (ss_field_ptr rfl) rfl ?_
     refine run_gt rfl rfl q11 ?_
     refine run_s (ss_load_ptr rfl rfl) rfl ?_
     refine run_gt rfl rfl q11 ?_
     obtain ⟨q12, h⟩ := h
     refine run_w (ws_call (xs := [.tmp 19]) (ids := [20]) rfl rfl rfl rfl (c_spec_l05Fault c q12) rfl ?_ )
     rintro _ rfl
     refine ⟨rfl, ?_⟩
     refine run_gt rfl rfl q11 ?_
     refine run_s (ss_lenR (f := ci) rfl rfl) rfl ?_
     refine run_gt rfl rfl q11 ?_
     refine run_s (ss_eql rfl rfl) rfl ?_
     refine run_s (ss_pickT rfl q11 rfl) rfl ?_
     refine run_s (ss_assign rfl) rfl ?_
     refine run_nil ?_
     refine aw_ret ?_
     exact retAF_mk (retv1 rfl (rv_tmp rfl)) rfl rfl ⟨_, (cle_refl _), _, h, rfl⟩
    ·replace h := h.2 (q11)
     refine run_gf rfl rfl q11 rfl ?_
     refine run_gf rfl rfl q11 rfl ?_
     refine run_gf rfl rfl q11 rfl ?_
     refine run_gf rfl rfl q11 rfl ?_
     refine run_gf rfl rfl q11 rfl ?_
     refine run_s (ss_pickF rfl q11 rfl) rfl ?_
     refine run_s (ss_assign rfl) rfl ?_
     refine run_nil ?_
     refine aw_ret ?_
     exact retAF_mk (retv1 rfl (rv_tmp rfl)) rfl rfl ⟨_, (cle_refl _), _, h, rfl⟩
   ·replace h := h.2 (q6)
    refine run_gf rfl rfl q6 rfl ?_
    refine run_gf rfl rfl q6 rfl ?_
    refine run_gf rfl rfl q6 rfl ?_
    refine run_gf rfl rfl q6 rfl ?_
    refine run_s (ss_pickF rfl q6 rfl) rfl ?_
    refine run_s (ss_move rfl) rfl ?_
    refine run_split (s := 17) rfl (fun q14 => ?_) (fun q14 => ?_)
    ·cases q14
    ·skip
     refine run_gf rfl rfl q14 rfl ?_
     refine run_gf rfl rfl q14 rfl ?_
     refine run_gf rfl rfl q14 rfl ?_
     refine run_gf rfl rfl q14 rfl ?_
     refine run_gf rfl rfl q14 rfl ?_
     refine run_s (ss_pickF rfl q14 rfl) rfl ?_
     refine run_s (ss_assign rfl) rfl ?_
     refine run_nil ?_
     refine aw_ret ?_
     exact retAF_mk (retv1 rfl (rv_tmp rfl)) rfl rfl ⟨_, (cle_refl _), _, h, rfl⟩
  ·replace h := h.2 (q3)
   refine run_gf rfl rfl q3 rfl ?_
   refine run_gf rfl rfl q3 rfl ?_
   refine run_gf rfl rfl q3 rfl ?_
   refine run_s (ss_pickF rfl q3 rfl) rfl ?_
   refine run_s (ss_move rfl) rfl ?_
   refine run_split (s := 11) rfl (fun q15 => ?_) (fun q15 => ?_)
   ·cases q15
   ·skip
    refine run_gf rfl rfl q15 rfl ?_
    refine run_gf rfl rfl q15 rfl ?_
    refine run_gf rfl rfl q15 rfl ?_
    refine run_gf rfl rfl q15 rfl ?_
    refine run_s (ss_pickF rfl q15 rfl) rfl ?_
    refine run_s (ss_move rfl) rfl ?_
    refine run_split (s := 17) rfl (fun q16 => ?_) (fun q16 => ?_)
    ·cases q16
    ·skip
     refine run_gf rfl rfl q16 rfl ?_
     refine run_gf rfl rfl q16 rfl ?_
     refine run_gf rfl rfl q16 rfl ?_
     refine run_gf rfl rfl q16 rfl ?_
     refine run_gf rfl rfl q16 rfl ?_
     refine run_s (ss_pickF rfl q16 rfl) rfl ?_
     refine run_s (ss_assign rfl) rfl ?_
     refine run_nil ?_
     refine aw_ret ?_
     exact retAF_mk (retv1 rfl (rv_tmp rfl)) rfl rfl ⟨_, (cle_refl _), _, h, rfl⟩

theorem c_spec_l05Is (c : List (List Int)) (hp : small2 c) : AF Try.prog 29 [.agg [.lst (rows c)]] (fun R_ => R_ = cb (isCyc c)) :=
  (w_spec_l05Is c (fun y0 => y0 = isCyc c) (p_spec_l05Is c hp)).mono (by rintro r ⟨_, rfl, rfl⟩; rfl)

def wp_spec_l03Fits (a : List (List (List Int))) (b : List (List (List Int))) (f : List Int) (Q : Bool → Prop) : Prop :=
 (InI ((f.length : Int) - 1)) ∧
 ∃ (H1 : Int → Prop) (m1 : Int → Nat),
 H1 0 ∧
 ∀ (v8_1 : Int), H1 v8_1 →
 ( ((v8_1 < (a.length : Int) →
 ∃ (H2 : Int → Prop) (m2 : Int → Nat),
 H2 0 ∧
 ∀ (v9_2 : Int), H2 v9_2 →
 ( ((v9_2 ≤ (f.length : Int) - 1 →
 ∃ (H3 : Int → Prop) (m3 : Int → Nat),
 H3 0 ∧
 ∀ (v10_3 : Int), H3 v10_3 →
 ( ((v10_3 ≤ (f.length : Int) - 1 →
 (0 ≤ v8_1 ∧ v8_1 < (a.length : Int)) ∧
 (0 ≤ v9_2 ∧ v9_2 < ((el a v8_1).length : Int)) ∧
 (0 ≤ v10_3 ∧ v10_3 < ((el (el a v8_1) v9_2).length : Int)) ∧
 (((f.length : Int) - 1 < el (el (el a v8_1) v9_2) v10_3 →
 (InI (v10_3 + 1)) ∧
 (H3 (v10_3 + 1) ∧ m3 (v10_3 + 1) < m3 v10_3)) ∧
 (¬ ((f.length : Int) - 1 < el (el (el a v8_1) v9_2) v10_3) →
 ((v9_2 < (f.length : Int) - 1 →
 ((v10_3 < (f.length : Int) - 1 →
 ((el (el (el a v8_1) v9_2) v10_3 < (f.length : Int) - 1 →
 (InI (v10_3 + 1)) ∧
 (H3 (v10_3 + 1) ∧ m3 (v10_3 + 1) < m3 v10_3)) ∧
 (¬ (el (el (el a v8_1) v9_2) v10_3 < (f.length : Int) - 1) →
 (0 ≤ el (el (el a v8_1) v9_2) v10_3 ∧ el (el (el a v8_1) v9_2) v10_3 < (f.length : Int)) ∧
 (0 ≤ v8_1 ∧ v8_1 < (b.length : Int)) ∧
 (0 ≤ v9_2 ∧ v9_2 < (f.length : Int)) ∧
 (0 ≤ v10_3 ∧ v10_3 < (f.length : Int)) ∧
 (0 ≤ el f v9_2 ∧ el f v9_2 < ((el b v8_1).length : Int)) ∧
 (0 ≤ el f v10_3 ∧ el f v10_3 < ((el (el b v8_1) (el f v9_2)).length : Int)) ∧
 ((¬ (el f (el (el (el a v8_1) v9_2) v10_3) = el (el (el b v8_1) (el f v9_2)) (el f v10_3)) →
 Q false) ∧
 (el f (el (el (el a v8_1) v9_2) v10_3) = el (el (el b v8_1) (el f v9_2)) (el f v10_3) →
 (InI (v10_3 + 1)) ∧
 (H3 (v10_3 + 1) ∧ m3 (v10_3 + 1) < m3 v10_3)))))) ∧
 (¬ (v10_3 < (f.length : Int) - 1) →
 (0 ≤ el (el (el a v8_1) v9_2) v10_3 ∧ el (el (el a v8_1) v9_2) v10_3 < (f.length : Int)) ∧
 (0 ≤ v8_1 ∧ v8_1 < (b.length : Int)) ∧
 (0 ≤ v9_2 ∧ v9_2 < (f.length : Int)) ∧
 (0 ≤ v10_3 ∧ v10_3 < (f.length : Int)) ∧
 (0 ≤ el f v9_2 ∧ el f v9_2 < ((el b v8_1).length : Int)) ∧
 (0 ≤ el f v10_3 ∧ el f v10_3 < ((el (el b v8_1) (el f v9_2)).length : Int)) ∧
 ((¬ (el f (el (el (el a v8_1) v9_2) v10_3) = el (el (el b v8_1) (el f v9_2)) (el f v10_3)) →
 Q false) ∧
 (el f (el (el (el a v8_1) v9_2) v10_3) = el (el (el b v8_1) (el f v9_2)) (el f v10_3) →
 (InI (v10_3 + 1)) ∧
 (H3 (v10_3 + 1) ∧ m3 (v10_3 + 1) < m3 v10_3)))))) ∧
 (¬ (v9_2 < (f.length : Int) - 1) →
 (0 ≤ el (el (el a v8_1) v9_2) v10_3 ∧ el (el (el a v8_1) v9_2) v10_3 < (f.length : Int)) ∧
 (0 ≤ v8_1 ∧ v8_1 < (b.length : Int)) ∧
 (0 ≤ v9_2 ∧ v9_2 < (f.length : Int)) ∧
 (0 ≤ v10_3 ∧ v10_3 < (f.length : Int)) ∧
 (0 ≤ el f v9_2 ∧ el f v9_2 < ((el b v8_1).length : Int)) ∧
 (0 ≤ el f v10_3 ∧ el f v10_3 < ((el (el b v8_1) (el f v9_2)).length : Int)) ∧
 ((¬ (el f (el (el (el a v8_1) v9_2) v10_3) = el (el (el b v8_1) (el f v9_2)) (el f v10_3)) →
 Q false) ∧
 (el f (el (el (el a v8_1) v9_2) v10_3) = el (el (el b v8_1) (el f v9_2)) (el f v10_3) →
 (InI (v10_3 + 1)) ∧
 (H3 (v10_3 + 1) ∧ m3 (v10_3 + 1) < m3 v10_3)))))))) ∧
 (¬ (v10_3 ≤ (f.length : Int) - 1) →
 (InI (v9_2 + 1)) ∧
 (H2 (v9_2 + 1) ∧ m2 (v9_2 + 1) < m2 v9_2))))) ∧
 (¬ (v9_2 ≤ (f.length : Int) - 1) →
 (InI (v8_1 + 1)) ∧
 (H1 (v8_1 + 1) ∧ m1 (v8_1 + 1) < m1 v8_1))))) ∧
 (¬ (v8_1 < (a.length : Int)) →
 Q true)))

theorem p_spec_l03Fits (a b : List (List (List Int))) (f : List Int) (hp : fitD a b f) : wp_spec_l03Fits a b f (fun y0 => y0 = dec (conA a b f)) := by
  unfold wp_spec_l03Fits
  obtain ⟨hsm, hsf, hbl, hall⟩ := hp
  have small12 : ∀ k, 0 ≤ k → k < (a.length : Int) → (f.length : Int) ≤ 12 := fun k k0 k1 => by
    obtain ⟨h1, _, h3, _⟩ := hall k k0 k1
    have := isTab_len h1; omega
  refine ⟨?_, fun k => 0 ≤ k ∧ k ≤ (a.length : Int) ∧ Upto k fun k => conP (el a k) (el b k) f, fun k => ((a.length : Int) - k).toNat, ⟨by omega, by omega, upto0⟩, ?_⟩
  · have : (f.length : Int) ≤ 1000000000 := hsf
    exact ⟨by omega, by omega⟩
  rintro k ⟨k0, k1, kI⟩
  dsimp only
  refine ⟨fun klt => ?_, fun kge => (dec_t fun k a b => kI k a (by omega)).symm⟩
  have f12 := small12 k k0 klt
  obtain ⟨hta, htb, hfl, hfe, hprev⟩ := hall k k0 klt
  refine ⟨fun x => 0 ≤ x ∧ x ≤ (f.length : Int) ∧ Upto x fun x => ∀ y, 0 ≤ y → y < (f.length : Int) → el (el (el a k) x) y < (f.length : Int) → el f (el (el (el a k) x) y) = el (el (el b k) (el f x)) (el f y), fun x => ((f.length : Int) - x).toNat, ⟨by omega, by omega, upto0⟩, ?_⟩
  rintro x ⟨x0, x1, xI⟩
  dsimp only
  refine ⟨fun xlt => ?_, fun xge => ⟨⟨by omega, by omega⟩, ⟨by omega, by omega, upto1 kI fun x y p q r s t => xI x p (by omega) y r s t⟩, by omega⟩⟩
  refine ⟨fun y => 0 ≤ y ∧ y ≤ (f.length : Int) ∧ Upto y fun y => el (el (el a k) x) y < (f.length : Int) → el f (el (el (el a k) x) y) = el (el (el b k) (el f x)) (el f y), fun y => ((f.length : Int) - y).toNat, ⟨by omega, by omega, upto0⟩, ?_⟩
  rintro y ⟨y0, y1, yI⟩
  dsimp only
  refine ⟨fun ylt => ?_, fun yge => ⟨⟨by omega, by omega⟩, ⟨by omega, by omega, upto1 xI fun y p q => yI y p (by omega)⟩, by omega⟩⟩
  have hx : 0 ≤ x ∧ x < ((el a k).length : Int) := ⟨x0, by omega⟩
  have e := rk_el hta hx (y := y) ⟨y0, by omega⟩
  have l := rk_len hta hx
  have fx := hfe _ (el_mem (l := f) (i := x) ⟨x0, by omega⟩)
  have fy := hfe _ (el_mem (l := f) (i := y) ⟨y0, by omega⟩)
  have ls := rk_len htb fx
  have skip : (el (el (el a k) x) y < (f.length : Int) → el f (el (el (el a k) x) y) = el (el (el b k) (el f x)) (el f y)) → InI (y + 1) ∧ (0 ≤ y + 1 ∧ y + 1 ≤ (f.length : Int) ∧ Upto (y + 1) fun y => el (el (el a k) x) y < (f.length : Int) → el f (el (el (el a k) x) y) = el (el (el b k) (el f x)) (el f y)) ∧ ((f.length : Int) - (y + 1)).toNat < ((f.length : Int) - y).toNat := fun h => ⟨⟨by omega, by omega⟩, ⟨by omega, by omega, upto1 yI h⟩, by omega⟩
  have key : ¬ ((f.length : Int) - 1 < el (el (el a k) x) y) → (0 ≤ el (el (el a k) x) y ∧ el (el (el a k) x) y < (f.length : Int)) ∧ (0 ≤ k ∧ k < (b.length : Int)) ∧ (0 ≤ x ∧ x < (f.length : Int)) ∧ (0 ≤ y ∧ y < (f.length : Int)) ∧ (0 ≤ el f x ∧ el f x < ((el b k).length : Int)) ∧ (0 ≤ el f y ∧ el f y < ((el (el b k) (el f x)).length : Int)) ∧
      (¬ (el f (el (el (el a k) x) y) = el (el (el b k) (el f x)) (el f y)) → false = dec (conA a b f)) ∧ (el f (el (el (el a k) x) y) = el (el (el b k) (el f x)) (el f y) → InI (y + 1) ∧ (0 ≤ y + 1 ∧ y + 1 ≤ (f.length : Int) ∧ Upto (y + 1) fun y => el (el (el a k) x) y < (f.length : Int) → el f (el (el (el a k) x) y) = el (el (el b k) (el f x)) (el f y)) ∧ ((f.length : Int) - (y + 1)).toNat < ((f.length : Int) - y).toNat) := fun h1 =>
    ⟨⟨e.1, by omega⟩, ⟨k0, by omega⟩, ⟨x0, by omega⟩, ⟨y0, by omega⟩, fx, ⟨fy.1, by omega⟩, fun h2 => (dec_f fun hC => h2 (hC k k0 klt x y x0 (by omega) y0 (by omega) (by omega))).symm, fun h2 => skip fun _ => h2⟩
  refine ⟨⟨k0, klt⟩, hx, ⟨y0, by omega⟩, fun h1 => skip fun h => by omega, fun h1 => ⟨fun h2 => ⟨fun h3 => ⟨fun h4 => skip fun _ => hprev x y x0 h2 y0 h3 h4, fun h4 => key h1⟩, fun h3 => key h1⟩, fun h2 => key h1⟩⟩
set_option maxRecDepth 100000 in
set_option maxHeartbeats 4000000 in
theorem w_spec_l03Fits (a : List (List (List Int))) (b : List (List (List Int))) (f : List Int) (Q : Bool → Prop) (h : wp_spec_l03Fits a b f Q) : AF Try.prog 37 [.lst (tabs a), .lst (tabs b), .lst (ints f)] (fun R_ => ∃ y0, Q y0 ∧ R_ = cb y0) := by
  refine AF.ofWQ (af_enter (n := 80) Try.func37 rfl (by rfl) rfl (Nat.le_of_ble_eq_true rfl) ?_)
  unfold wp_spec_l03Fits at h
  refine aw_seq ?_
  refine aw_gh (gh_to (n := 80) (σ' := []) (env' := [(0, .c (.lst (tabs a))), (1, .c (.lst (tabs b))), (2, .c (.lst (ints f)))]) rfl rfl ⟨rfl, rfl, rfl, trivial⟩) ?_
  refine aw_region ?_
  refine run_s (ss_assign rfl) rfl ?_
  refine run_nil ?_
  refine aw_seq ?_
  refine aw_region ?_
  refine run_s (ss_move rfl) rfl ?_
  refine run_s (ss_lenL (f := ci) rfl) rfl ?_
  obtain ⟨q1, h⟩ := h
  refine run_s (ss_sub rfl rfl q1) rfl ?_
  refine run_s (ss_assign rfl) rfl ?_
  refine run_nil ?_
  refine aw_seq ?_
  refine aw_seq ?_
  refine aw_region ?_
  refine run_s (ss_assign rfl) rfl ?_
  refine run_nil ?_
  refine aw_block ?_
  obtain ⟨H1, m1, q2, h⟩ := h
  refine aw_loop1 (fun (v8_1 : Int) => ⟨[], [(0, .c (.lst (tabs a))), (1, .c (.lst (tabs b))), (2, .c (.lst (ints f))), (7, .c (ci ((f.length : Int) - 1))), (8, .c (ci v8_1))], 80⟩) H1 m1 ⟨0, ghe_to (n := 80) rfl rfl ⟨rfl, rfl, rfl, rfl, rfl, trivial⟩, q2⟩ ?_
  rintro v8_1 q2
  replace h := h v8_1 q2
  refine aw_seq ?_
  refine aw_seq ?_
  refine aw_region ?_
  refine run_s (ss_move rfl) rfl ?_
  refine run_s (ss_move rfl) rfl ?_
  refine run_s (ss_lenL (f := (fun r => C.lst (rows r))) rfl) rfl ?_
  refine run_s (ss_lss rfl rfl) rfl ?_
  refine run_nil ?_
  refine aw_cond rfl (fun q3 => ?_) (fun q3 => ?_)
  ·replace h := h.1 (of_decide_eq_true q3)
   refine aw_skip ?_
   refine aw_seq ?_
   refine aw_block ?_
   refine aw_seq ?_
   refine aw_region ?_
   refine run_s (ss_assign rfl) rfl ?_
   refine run_nil ?_
   refine aw_block ?_
   obtain ⟨H2, m2, q4, h⟩ := h
   refine aw_loop1 (fun (v9_2 : Int) => ⟨[], [(0, .c (.lst (tabs a))), (1, .c (.lst (tabs b))), (2, .c (.lst (ints f))), (7, .c (ci ((f.length : Int) - 1))), (8, .c (ci v8_1)), (9, .c (ci v9_2))], 80⟩) H2 m2 ⟨0, ghe_to (n := 80) rfl rfl ⟨rfl, rfl, rfl, rfl, rfl, rfl, trivial⟩, q4⟩ ?_
   rintro v9_2 q4
   replace h := h v9_2 q4
   refine aw_seq ?_
   refine aw_seq ?_
   refine aw_region ?_
   refine run_s (ss_move rfl) rfl ?_
   refine run_s (ss_move rfl) rfl ?_
   refine run_s (ss_leq rfl rfl) rfl ?_
   refine run_nil ?_
   refine aw_cond rfl (fun q5 => ?_) (fun q5 => ?_)
   ·replace h := h.1 (of_decide_eq_true q5)
    refine aw_skip ?_
    refine aw_seq ?_
    refine aw_block ?_
    refine aw_seq ?_
    refine aw_region ?_
    refine run_s (ss_assign rfl) rfl ?_
    refine run_nil ?_
    refine aw_block ?_
    obtain ⟨H3, m3, q6, h⟩ := h
    refine aw_loop1 (fun (v10_3 : Int) => ⟨[], [(0, .c (.lst (tabs a))), (1, .c (.lst (tabs b))), (2, .c (.lst (ints f))), (7, .c (ci ((f.length : Int) - 1))), (8, .c (ci v8_1)), (9, .c (ci v9_2)), (10, .c (ci v10_3))], 80⟩) H3 m3 ⟨0, ghe_to (n := 80) rfl rfl ⟨rfl, rfl, rfl, rfl, rfl, rfl, rfl, trivial⟩, q6⟩ ?_
    rintro v10_3 q6
    replace h := h v10_3 q6
    refine aw_seq ?_
    refine aw_seq ?_
    refine aw_region ?_
    refine run_s (ss_move rfl) rfl ?_
    refine run_s (ss_move rfl) rfl ?_
    refine run_s (ss_leq rfl rfl) rfl ?_
    refine run_nil ?_
    refine aw_cond rfl (fun q7 => ?_) (fun q7 => ?_)
    ·replace h := h.1 (of_decide_eq_true q7)
     refine aw_skip ?_
     refine aw_seq ?_
     refine aw_block ?_
     refine aw_seq ?_
     refine aw_region ?_
     refine run_s (ss_move rfl) rfl ?_
     refine run_s (ss_move rfl) rfl ?_
     obtain ⟨q8, h⟩ := h
     refine run_s (ss_idxL rfl rfl q8) rfl ?_
     refine run_s (ss_loadL (f := (fun r => C.lst (rows r))) rfl q8) rfl ?_
     refine run_s (ss_move rfl) rfl ?_
     obtain ⟨q9, h⟩ := h
     refine run_s (ss_idxL rfl rfl q9) rfl ?_
     refine run_s (ss_loadL (f := (fun r => C.lst (ints r))) rfl q9) rfl ?_
     refine run_s (ss_move rfl) rfl ?_
     obtain ⟨q10, h⟩ := h
     refine run_s (ss_idxL rfl rfl q10) rfl ?_
     refine run_s (ss_loadL (f := ci) rfl q10) rfl ?_
     refine run_s (ss_assign rfl) rfl ?_
     refine run_nil ?_
     refine aw_seq ?_
     refine aw_seq ?_
     refine aw_region ?_
     refine run_s (ss_move rfl) rfl ?_
     refine run_s (ss_move rfl) rfl ?_
     refine run_s (ss_gtr rfl rfl) rfl ?_
     refine run_s (ss_move rfl) rfl ?_
     refine run_split (s := 44) rfl (fun q11 => ?_) (fun q11 => ?_)
     ·replace h := h.1 (of_decide_eq_true q11)
      refine run_gf rfl rfl q11 rfl ?_
      refine run_gf rfl rfl q11 rfl ?_
      refine run_gf rfl rfl q11 rfl ?_
      refine run_gfu rfl rfl q11 rfl ?_
      refine run_gu rfl rfl rfl ?_
      refine run_gu rfl rfl rfl ?_
      refine run_gu rfl rfl rfl ?_
      refine run_gf rfl rfl q11 rfl ?_
      refine run_gfu rfl rfl q11 rfl ?_
      refine run_gu rfl rfl rfl ?_
      refine run_gu rfl rfl rfl ?_
      refine run_gu rfl rfl rfl ?_
      refine run_gf rfl rfl q11 rfl ?_
      refine run_s (ss_pickT rfl q11 rfl) rfl ?_
      refine run_nil ?_
      refine aw_cond rfl (fun q12 => ?_) (fun q12 => ?_)
      ·skip
       refine aw_exit ?_
       refine aw_gh (gh_to (n := 80) (σ' := []) (env' := [(0, .c (.lst (tabs a))), (1, .c (.lst (tabs b))), (2, .c (.lst (ints f))), (7, .c (ci ((f.length : Int) - 1))), (8, .c (ci v8_1)), (9, .c (ci v9_2)), (10, .c (ci v10_3))]) rfl rfl ⟨rfl, rfl, rfl, rfl, rfl, rfl, rfl, trivial⟩) ?_
       refine aw_region ?_
       refine run_s (ss_move rfl) rfl ?_
       obtain ⟨q13, h⟩ := h
       refine run_s (ss_add rfl rfl q13) rfl ?_
       refine run_s (ss_assign rfl) rfl ?_
       refine run_nil ?_
       exact ⟨v10_3 + 1, ghe_to (n := 80) rfl rfl ⟨rfl, rfl, rfl, rfl, rfl, rfl, rfl, trivial⟩, h.1, h.2⟩
      ·cases q12
     ·replace h := h.2 (of_decide_eq_false q11)
      refine run_gt rfl rfl q11 ?_
      refine run_s (ss_move rfl) rfl ?_
      refine run_gt rfl rfl q11 ?_
      refine run_s (ss_move rfl) rfl ?_
      refine run_gt rfl rfl q11 ?_
      refine run_s (ss_lss rfl rfl) rfl ?_
      refine run_gt rfl rfl q11 ?_
      refine run_s (ss_move rfl) rfl ?_
      refine run_split (s := 48) rfl (fun q14 => ?_) (fun q14 => ?_)
      ·replace h := h.1 (of_decide_eq_true q14)
       refine run_gt rfl rfl q14 ?_
       refine run_s (ss_move rfl) rfl ?_
       refine run_gt rfl rfl q14 ?_
       refine run_s (ss_move rfl) rfl ?_
       refine run_gt rfl rfl q14 ?_
       refine run_s (ss_lss rfl rfl) rfl ?_
       refine run_gt rfl rfl q11 ?_
       refine run_s (ss_pickT rfl q14 rfl) rfl ?_
       refine run_gt rfl rfl q11 ?_
       refine run_s (ss_move rfl) rfl ?_
       refine run_split (s := 53) rfl (fun q15 => ?_) (fun q15 => ?_)
       ·replace h := h.1 (of_decide_eq_true q15)
        refine run_gt rfl rfl q15 ?_
        refine run_s (ss_move rfl) rfl ?_
        refine run_gt rfl rfl q15 ?_
        refine run_s (ss_move rfl) rfl ?_
        refine run_gt rfl rfl q15 ?_
        refine run_s (ss_lss rfl rfl) rfl ?_
        refine run_gt rfl rfl q11 ?_
        refine run_s (ss_pickT rfl q15 rfl) rfl ?_
        refine run_s (ss_pickF rfl q11 rfl) rfl ?_
        refine run_nil ?_
        refine aw_cond rfl (fun q16 => ?_) (fun q16 => ?_)
        ·replace h := h.1 (of_decide_eq_true q16)
         refine aw_exit ?_
         refine aw_gh (gh_to (n := 80) (σ' := []) (env' := [(0, .c (.lst (tabs a))), (1, .c (.lst (tabs b))), (2, .c (.lst (ints f))), (7, .c (ci ((f.length : Int) - 1))), (8, .c (ci v8_1)), (9, .c (ci v9_2)), (10, .c (ci v10_3)), (45, .c (ci v9_2)), (46, .c (ci ((f.length : Int) - 1))), (47, .c (cb (decide (v9_2 < (f.length : Int) - 1)))), (48, .c (cb (decide (v9_2 < (f.length : Int) - 1)))), (49, .c (ci v10_3)), (50, .c (ci ((f.length : Int) - 1))), (51, .c (cb (decide (v10_3 < (f.length : Int) - 1)))), (52, .c (cb (decide (v10_3 < (f.length : Int) - 1)))), (53, .c (cb (decide (v10_3 < (f.length : Int) - 1)))), (54, .c (ci (el (el (el a v8_1) v9_2) v10_3))), (55, .c (ci ((f.length : Int) - 1))), (56, .c (cb (decide (el (el (el a v8_1) v9_2) v10_3 < (f.length : Int) - 1)))), (57, .c (cb (decide (el (el (el a v8_1) v9_2) v10_3 < (f.length : Int) - 1))))]) rfl rfl ⟨rfl, rfl, rfl, rfl, rfl, rfl, rfl, rfl, rfl, rfl, rfl, rfl, rfl, rfl, rfl, rfl, rfl, rfl, rfl, rfl, trivial⟩) ?_
         refine aw_region ?_
         refine run_s (ss_move rfl) rfl ?_
         obtain ⟨q17, h⟩ := h
         refine run_s (ss_add rfl rfl q17) rfl ?_
         refine run_s (ss_assign rfl) rfl ?_
         refine run_nil ?_
         exact ⟨v10_3 + 1, ghe_to (n := 80) rfl rfl ⟨rfl, rfl, rfl, rfl, rfl, rfl, rfl, trivial⟩, h.1, h.2⟩
        ·replace h := h.2 (of_decide_eq_false q16)
         refine aw_skip ?_
         refine aw_seq ?_
         refine aw_gh (gh_to (n := 80) (σ' := []) (env' := [(0, .c (.lst (tabs a))), (1, .c (.lst (tabs b))), (2, .c (.lst (ints f))), (7, .c (ci ((f.length : Int) - 1))), (8, .c (ci v8_1)), (9, .c (ci v9_2)), (10, .c (ci v10_3)), (11, .c (ci (el (el (el a v8_1) v9_2) v10_3))), (45, .c (ci v9_2)), (46, .c (ci ((f.length : Int) - 1))), (47, .c (cb (decide (v9_2 < (f.length : Int) - 1)))), (48, .c (cb (decide (v9_2 < (f.length : Int) - 1)))), (49, .c (ci v10_3)), (50, .c (ci ((f.length : Int) - 1))), (51, .c (cb (decide (v10_3 < (f.length : Int) - 1)))), (52, .c (cb (decide (v10_3 < (f.length : Int) - 1)))), (53, .c (cb (decide (v10_3 < (f.length : Int) - 1)))), (54, .c (ci (el (el (el a v8_1) v9_2) v10_3))), (55, .c (ci ((f.length : Int) - 1))), (56, .c (cb (decide (el (el (el a v8_1) v9_2) v10_3 < (f.length : Int) - 1)))), (57, .c (cb (decide (el (el (el a v8_1) v9_2) v10_3 < (f.length : Int) - 1))))]) rfl rfl ⟨rfl, rfl, rfl, rfl, rfl, rfl, rfl, rfl, rfl, rfl, rfl, rfl, rfl, rfl, rfl, rfl, rfl, rfl, rfl, rfl, rfl, trivial⟩) ?_
         refine aw_regionD (kd := kdl [0, 0, 0, 1, 0, 0, 0, 1, 0, 0, 0, 1, 0, 1, 0, 0, 0, 1, 0, 1, 0]) (ord := [0, 1, 2, 4, 5, 6, 8, 9, 10, 14, 15, 16, 3, 7, 11, 12, 13, 17, 18, 19, 20]) [] mixed (by kernel_rfl) ?_
         refine rd_s rfl rfl trivial (ss_move rfl) rfl ?_
         refine rd_s rfl rfl trivial (ss_move rfl) rfl ?_
         obtain ⟨q18, h⟩ := h
         refine rd_s rfl rfl trivial (ss_idxL rfl rfl q18) rfl ?_
         refine rd_s rfl rfl trivial (ss_move rfl) rfl ?_
         refine rd_s rfl rfl trivial (ss_move rfl) rfl ?_
         obtain ⟨q19, h⟩ := h
         refine rd_s rfl rfl trivial (ss_idxL rfl rfl q19) rfl ?_
         refine rd_s rfl rfl trivial (ss_move rfl) rfl ?_
         refine rd_s rfl rfl trivial (ss_move rfl) rfl ?_
         obtain ⟨q20, h⟩ := h
         refine rd_s rfl rfl trivial (ss_idxL rfl rfl q20) rfl ?_
         refine rd_s rfl rfl trivial (ss_move rfl) rfl ?_
         refine rd_s rfl rfl trivial (ss_move rfl) rfl ?_
         obtain ⟨q21, h⟩ := h
         refine rd_s rfl rfl trivial (ss_idxL rfl rfl q21) rfl ?_
         refine rd_l rfl rfl trivial (ss_loadL (f := ci) rfl q18) rfl ?_
         refine rd_l rfl rfl trivial (ss_loadL (f := (fun r => C.lst (rows r))) rfl q19) rfl ?_
         refine rd_l rfl rfl trivial (ss_loadL (f := ci) rfl q20) rfl ?_
         obtain ⟨q22, h⟩ := h
         refine rd_s rfl rfl trivial (ss_idxL rfl rfl q22) rfl ?_
         refine rd_l rfl rfl trivial (ss_loadL (f := (fun r => C.lst (ints r))) rfl q22) rfl ?_
         refine rd_l rfl rfl trivial (ss_loadL (f := ci) rfl q21) rfl ?_
         obtain ⟨q23, h⟩ := h
         refine rd_s rfl rfl trivial (ss_idxL rfl rfl q23) rfl ?_
         refine rd_l rfl rfl trivial (ss_loadL (f := ci) rfl q23) rfl ?_
         refine rd_s rfl rfl trivial (ss_neq rfl rfl) rfl ?_
         refine rd_nil ?_
         refine aw_cond rfl (fun q24 => ?_) (fun q24 => ?_)
         ·replace h := h.1 (of_decide_eq_false (bnot_t q24))
          refine aw_seq ?_
          refine aw_gh (gh_to (n := 80) (σ' := []) (env' := []) rfl rfl trivial) ?_
          refine aw_region ?_
          refine run_s (ss_assign rfl) rfl ?_
          refine run_nil ?_
          refine aw_ret ?_
          exact retAF_mk (retv1 rfl (rv_tmp rfl)) rfl rfl ⟨_, (cle_refl _), _, h, rfl⟩
         ·replace h := h.2 (of_decide_eq_true (bnot_f q24))
          refine aw_skip ?_
          refine aw_gh (gh_to (n := 80) (σ' := []) (env' := [(0, .c (.lst (tabs a))), (1, .c (.lst (tabs b))), (2, .c (.lst (ints f))), (7, .c (ci ((f.length : Int) - 1))), (8, .c (ci v8_1)), (9, .c (ci v9_2)), (10, .c (ci v10_3)), (45, .c (ci v9_2)), (46, .c (ci ((f.length : Int) - 1))), (47, .c (cb (decide (v9_2 < (f.length : Int) - 1)))), (48, .c (cb (decide (v9_2 < (f.length : Int) - 1)))), (49, .c (ci v10_3)), (50, .c (ci ((f.length : Int) - 1))), (51, .c (cb (decide (v10_3 < (f.length : Int) - 1)))), (52, .c (cb (decide (v10_3 < (f.length : Int) - 1)))), (53, .c (cb (decide (v10_3 < (f.length : Int) - 1)))), (54, .c (ci (el (el (el a v8_1) v9_2) v10_3))), (55, .c (ci ((f.length : Int) - 1))), (56, .c (cb (decide (el (el (el a v8_1) v9_2) v10_3 < (f.length : Int) - 1)))), (57, .c (cb (decide (el (el (el a v8_1) v9_2) v10_3 < (f.length : Int) - 1))))]) rfl rfl ⟨rfl, rfl, rfl, rfl, rfl, rfl, rfl, rfl, rfl, rfl, rfl, rfl, rfl, rfl, rfl, rfl, rfl, rfl, rfl, rfl, trivial⟩) ?_
          refine aw_region ?_
          refine run_s (ss_move rfl) rfl ?_
          obtain ⟨q25, h⟩ := h
          refine run_s (ss_add rfl rfl q25) rfl ?_
          refine run_s (ss_assign rfl) rfl ?_
          refine run_nil ?_
          exact ⟨v10_3 + 1, ghe_to (n := 80) rfl rfl ⟨rfl, rfl, rfl, rfl, rfl, rfl, rfl, trivial⟩, h.1, h.2⟩
       ·replace h := h.2 (of_decide_eq_false q15)
        refine run_gf rfl rfl q15 rfl ?_
        refine run_gf rfl rfl q15 rfl ?_
        refine run_gf rfl rfl q15 rfl ?_
        refine run_gt rfl rfl q11 ?_
        refine run_s (ss_pickF rfl q15 rfl) rfl ?_
        refine run_s (ss_pickF rfl q11 rfl) rfl ?_
        refine run_nil ?_
        refine aw_cond rfl (fun q26 => ?_) (fun q26 => ?_)
        ·cases q26
        ·skip
         refine aw_skip ?_
         refine aw_seq ?_
         refine aw_gh (gh_to (n := 80) (σ' := []) (env' := [(0, .c (.lst (tabs a))), (1, .c (.lst (tabs b))), (2, .c (.lst (ints f))), (7, .c (ci ((f.length : Int) - 1))), (8, .c (ci v8_1)), (9, .c (ci v9_2)), (10, .c (ci v10_3)), (11, .c (ci (el (el (el a v8_1) v9_2) v10_3))), (45, .c (ci v9_2)), (46, .c (ci ((f.length : Int) - 1))), (47, .c (cb (decide (v9_2 < (f.length : Int) - 1)))), (48, .c (cb (decide (v9_2 < (f.length : Int) - 1)))), (49, .c (ci v10_3)), (50, .c (ci ((f.length : Int) - 1))), (51, .c (cb (decide (v10_3 < (f.length : Int) - 1)))), (52, .c (cb (decide (v10_3 < (f.length : Int) - 1)))), (53, .c (cb (decide (v10_3 < (f.length : Int) - 1)))), (57, .c (cb false))]) rfl rfl ⟨rfl, rfl, rfl, rfl, rfl, rfl, rfl, rfl, rfl, rfl, rfl, rfl, rfl, rfl, rfl, rfl, rfl, rfl, trivial⟩) ?_
         refine aw_regionD (kd := kdl [0, 0, 0, 1, 0, 0, 0, 1, 0, 0, 0, 1, 0, 1, 0, 0, 0, 1, 0, 1, 0]) (ord := [0, 1, 2, 4, 5, 6, 8, 9, 10, 14, 15, 16, 3, 7, 11, 12, 13, 17, 18, 19, 20]) [] mixed (by kernel_rfl) ?_
         refine rd_s rfl rfl trivial (ss_move rfl) rfl ?_
         refine rd_s rfl rfl trivial (ss_move rfl) rfl ?_
         obtain ⟨q27, h⟩ := h
         refine rd_s rfl rfl trivial (ss_idxL rfl rfl q27) rfl ?_
         refine rd_s rfl rfl trivial (ss_move rfl) rfl ?_
         refine rd_s rfl rfl trivial (ss_move rfl) rfl ?_
         obtain ⟨q28, h⟩ := h
         refine rd_s rfl rfl trivial (ss_idxL rfl rfl q28) rfl ?_
         refine rd_s rfl rfl trivial (ss_move rfl) rfl ?_
         refine rd_s rfl rfl trivial (ss_move rfl) rfl ?_
         obtain ⟨q29, h⟩ := h
         refine rd_s rfl rfl trivial (ss_idxL rfl rfl q29) rfl ?_
         refine rd_s rfl rfl trivial (ss_move rfl) rfl ?_
         refine rd_s rfl rfl trivial (ss_move rfl) rfl ?_
         obtain ⟨q30, h⟩ := h
         refine rd_s rfl rfl trivial (ss_idxL rfl rfl q30) rfl ?_
         refine rd_l rfl rfl trivial (ss_loadL (f := ci) rfl q27) rfl ?_
         refine rd_l rfl rfl trivial (ss_loadL (f := (fun r => C.lst (rows r))) rfl q28) rfl ?_
         refine rd_l rfl rfl trivial (ss_loadL (f := ci) rfl q29) rfl ?_
         obtain ⟨q31, h⟩ := h
         refine rd_s rfl rfl trivial (ss_idxL rfl rfl q31) rfl ?_
         refine rd_l rfl rfl trivial (ss_loadL (f := (fun r => C.lst (ints r))) rfl q31) rfl ?_
         refine rd_l rfl rfl trivial (ss_loadL (f := ci) rfl q30) rfl ?_
         obtain ⟨q32, h⟩ := h
         refine rd_s rfl rfl trivial (ss_idxL rfl rfl q32) rfl ?_
         refine rd_l rfl rfl trivial (ss_loadL (f := ci) rfl q32) rfl ?_
         refine rd_s rfl rfl trivial (ss_neq rfl rfl) rfl ?_
         refine rd_nil ?_
         refine aw_cond rfl (fun q33 => ?_) (fun q33 => ?_)
         ·replace h := h.1 (of_decide_eq_false (bnot_t q33))
          refine aw_seq ?_
          refine aw_gh (gh_to (n := 80) (σ' := []) (env' := []) rfl rfl trivial) ?_
          refine aw_region ?_
          refine run_s (ss_assign rfl) rfl ?_
          refine run_nil ?_
          refine aw_ret ?_
          exact retAF_mk (retv1 rfl (rv_tmp rfl)) rfl rfl ⟨_, (cle_refl _), _, h, rfl⟩
         ·replace h := h.2 (of_decide_eq_true (bnot_f q33))
          refine aw_skip ?_
          refine aw_gh (gh_to (n := 80) (σ' := []) (env' := [(0, .c (.lst (tabs a))), (1, .c (.lst (tabs b))), (2, .c (.lst (ints f))), (7, .c (ci ((f.length : Int) - 1))), (8, .c (ci v8_1)), (9, .c (ci v9_2)), (10, .c (ci v10_3)), (45, .c (ci v9_2)), (46, .c (ci ((f.length : Int) - 1))), (47, .c (cb (decide (v9_2 < (f.length : Int) - 1)))), (48, .c (cb (decide (v9_2 < (f.length : Int) - 1)))), (49, .c (ci v10_3)), (50, .c (ci ((f.length : Int) - 1))), (51, .c (cb (decide (v10_3 < (f.length : Int) - 1)))), (52, .c (cb (decide (v10_3 < (f.length : Int) - 1)))), (53, .c (cb (decide (v10_3 < (f.length : Int) - 1)))), (57, .c (cb false))]) rfl rfl ⟨rfl, rfl, rfl, rfl, rfl, rfl, rfl, rfl, rfl, rfl, rfl, rfl, rfl, rfl, rfl, rfl, rfl, trivial⟩) ?_
          refine aw_region ?_
          refine run_s (ss_move rfl) rfl ?_
          obtain ⟨q34, h⟩ := h
          refine run_s (ss_add rfl rfl q34) rfl ?_
          refine run_s (ss_assign rfl) rfl ?_
          refine run_nil ?_
          exact ⟨v10_3 + 1, ghe_to (n := 80) rfl rfl ⟨rfl, rfl, rfl, rfl, rfl, rfl, rfl, trivial⟩, h.1, h.2⟩
      ·replace h := h.2 (of_decide_eq_false q14)
       refine run_gf rfl rfl q14 rfl ?_
       refine run_gf rfl rfl q14 rfl ?_
       refine run_gf rfl rfl q14 rfl ?_
       refine run_gt rfl rfl q11 ?_
       refine run_s (ss_pickF rfl q14 rfl) rfl ?_
       refine run_gt rfl rfl q11 ?_
       refine run_s (ss_move rfl) rfl ?_
       refine run_split (s := 53) rfl (fun q35 => ?_) (fun q35 => ?_)
       ·cases q35
       ·skip
        refine run_gf rfl rfl q35 rfl ?_
        refine run_gf rfl rfl q35 rfl ?_
        refine run_gf rfl rfl q35 rfl ?_
        refine run_gt rfl rfl q11 ?_
        refine run_s (ss_pickF rfl q35 rfl) rfl ?_
        refine run_s (ss_pickF rfl q11 rfl) rfl ?_
        refine run_nil ?_
        refine aw_cond rfl (fun q36 => ?_) (fun q36 => ?_)
        ·cases q36
        ·skip
         refine aw_skip ?_
         refine aw_seq ?_
         refine aw_gh (gh_to (n := 80) (σ' := []) (env' := [(0, .c (.lst (tabs a))), (1, .c (.lst (tabs b))), (2, .c (.lst (ints f))), (7, .c (ci ((f.length : Int) - 1))), (8, .c (ci v8_1)), (9, .c (ci v9_2)), (10, .c (ci v10_3)), (11, .c (ci (el (el (el a v8_1) v9_2) v10_3))), (45, .c (ci v9_2)), (46, .c (ci ((f.length : Int) - 1))), (47, .c (cb (decide (v9_2 < (f.length : Int) - 1)))), (48, .c (cb (decide (v9_2 < (f.length : Int) - 1)))), (52, .c (cb false)), (53, .c (cb false)), (57, .c (cb false))]) rfl rfl ⟨rfl, rfl, rfl, rfl, rfl, rfl, rfl, rfl, rfl, rfl, rfl, rfl, rfl, rfl, rfl, trivial⟩) ?_
         refine aw_regionD (kd := kdl [0, 0, 0, 1, 0, 0, 0, 1, 0, 0, 0, 1, 0, 1, 0, 0, 0, 1, 0, 1, 0]) (ord := [0, 1, 2, 4, 5, 6, 8, 9, 10, 14, 15, 16, 3, 7, 11, 12, 13, 17, 18, 19, 20]) [] mixed (by kernel_rfl) ?_
         refine rd_s rfl rfl trivial (ss_move rfl) rfl ?_
         refine rd_s rfl rfl trivial (ss_move rfl) rfl ?_
         obtain ⟨q37, h⟩ := h
         refine rd_s rfl rfl trivial (ss_idxL rfl rfl q37) rfl ?_
         refine rd_s rfl rfl trivial (ss_move rfl) rfl ?_
         refine rd_s rfl rfl trivial (ss_move rfl) rfl ?_
         obtain ⟨q38, h⟩ := h
         refine rd_s rfl rfl trivial (ss_idxL rfl rfl q38) rfl ?_
         refine rd_s rfl rfl trivial (ss_move rfl) rfl ?_
         refine rd_s rfl rfl trivial (ss_move rfl) rfl ?_
         obtain ⟨q39, h⟩ := h
         refine rd_s rfl rfl trivial (ss_idxL rfl rfl q39) rfl ?_
         refine rd_s rfl rfl trivial (ss_move rfl) rfl ?_
         refine rd_s rfl rfl trivial (ss_move rfl) rfl ?_
         obtain ⟨q40, h⟩ := h
         refine rd_s rfl rfl trivial (ss_idxL rfl rfl q40) rfl ?_
         refine rd_l rfl rfl trivial (ss_loadL (f := ci) rfl q37) rfl ?_
         refine rd_l rfl rfl trivial (ss_loadL (f := (fun r => C.lst (rows r))) rfl q38) rfl ?_
         refine rd_l rfl rfl trivial (ss_loadL (f := ci) rfl q39) rfl ?_
         obtain ⟨q41, h⟩ := h
         refine rd_s rfl rfl trivial (ss_idxL rfl rfl q41) rfl ?_
         refine rd_l rfl rfl trivial (ss_loadL (f := (fun r => C.lst (ints r))) rfl q41) rfl ?_
         refine rd_l rfl rfl trivial (ss_loadL (f := ci) rfl q40) rfl ?_
         obtain ⟨q42, h⟩ := h
         refine rd_s rfl rfl trivial (ss_idxL rfl rfl q42) rfl ?_
         refine rd_l rfl rfl trivial (ss_loadL (f := ci) rfl q42) rfl ?_
         refine rd_s rfl rfl trivial (ss_neq rfl rfl) rfl ?_
         refine rd_nil ?_
         refine aw_cond rfl (fun q43 => ?_) (fun q43 => ?_)
         ·replace h := h.1 (of_decide_eq_false (bnot_t q43))
          refine aw_seq ?_
          refine aw_gh (gh_to (n := 80) (σ' := []) (env' := []) rfl rfl trivial) ?_
          refine aw_region ?_
          refine run_s (ss_assign rfl) rfl ?_
          refine run_nil ?_
          refine aw_ret ?_
          exact retAF_mk (retv1 rfl (rv_tmp rfl)) rfl rfl ⟨_, (cle_refl _), _, h, rfl⟩
         ·replace h := h.2 (of_decide_eq_true (bnot_f q43))
          refine aw_skip ?_
          refine aw_gh (gh_to (n := 80) (σ' := []) (env' := [(0, .c (.lst (tabs a))), (1, .c (.lst (tabs b))), (2, .c (.lst (ints f))), (7, .c (ci ((f.length : Int) - 1))), (8, .c (ci v8_1)), (9, .c (ci v9_2)), (10, .c (ci v10_3)), (45, .c (ci v9_2)), (46, .c (ci ((f.length : Int) - 1))), (47, .c (cb (decide (v9_2 < (f.length : Int) - 1)))), (48, .c (cb (decide (v9_2 < (f.length : Int) - 1)))), (52, .c (cb false)), (53, .c (cb false)), (57, .c (cb false))]) rfl rfl ⟨rfl, rfl, rfl, rfl, rfl, rfl, rfl, rfl, rfl, rfl, rfl, rfl, rfl, rfl, trivial⟩) ?_
          refine aw_region ?_
          refine run_s (ss_move rfl) rfl ?_
          obtain ⟨q44, h⟩ := h
          refine run_s (ss_add rfl rfl q44) rfl ?_
          refine run_s (ss_assign rfl) rfl ?_
          refine run_nil ?_
          exact ⟨v10_3 + 1, ghe_to (n := 80) rfl rfl ⟨rfl, rfl, rfl, rfl, rfl, rfl, rfl, trivial⟩, h.1, h.2⟩
    ·replace h := h.2 (of_decide_eq_false q7)
     refine aw_exit ?_
     refine aw_region ?_
     refine run_s (ss_move rfl) rfl ?_
     obtain ⟨q45, h⟩ := h
     refine run_s (ss_add rfl rfl q45) rfl ?_
     refine run_s (ss_assign rfl) rfl ?_
     refine run_nil ?_
     exact ⟨v9_2 + 1, ghe_to (n := 80) rfl rfl ⟨rfl, rfl, rfl, rfl, rfl, rfl, trivial⟩, h.1, h.2⟩
   ·replace h := h.2 (of_decide_eq_false q5)
    refine aw_exit ?_
    refine aw_region ?_
    refine run_s (ss_move rfl) rfl ?_
    obtain ⟨q46, h⟩ := h
    refine run_s (ss_add rfl rfl q46) rfl ?_
    refine run_s (ss_assign rfl) rfl ?_
    refine run_nil ?_
    exact ⟨v8_1 + 1, ghe_to (n := 80) rfl rfl ⟨rfl, rfl, rfl, rfl, rfl, trivial⟩, h.1, h.2⟩
  ·replace h := h.2 (of_decide_eq_false q3)
   refine aw_exit ?_
   refine aw_seq ?_
   refine aw_gh (gh_to (n := 80) (σ' := []) (env' := []) rfl rfl trivial) ?_
   refine aw_region ?_
   refine run_s (ss_assign rfl) rfl ?_
   refine run_nil ?_
   refine aw_ret ?_
   exact retAF_mk (retv1 rfl (rv_tmp rfl)) rfl rfl ⟨_, (cle_refl _), _, h, rfl⟩

theorem c_spec_l03Fits (a : List (List (List Int))) (b : List (List (List Int))) (f : List Int) (hp : fitD a b f) : AF Try.prog 37 [.lst (tabs a), .lst (tabs b), .lst (ints f)] (fun R_ => R_ = cb (dec (conA a b f))) :=
  (w_spec_l03Fits a b f (fun y0 => y0 = dec (conA a b f)) (p_spec_l03Fits a b f hp)).mono (by rintro r ⟨_, rfl, rfl⟩; rfl)

def wp_spec_l02Empty (n : Int) (Q : List (List Int) → List (List Int) → Prop) : Prop :=
 ∃ (H1 : Int → List (List Int) → List (List Int) → Prop) (m1 : Int → List (List Int) → List (List Int) → Nat),
 H1 0 ([] : List (List Int)) ([] : List (List Int)) ∧
 ∀ (v4_1 : Int) (o200048_1 : List (List Int)) (o200049_1 : List (List Int)), H1 v4_1 o200048_1 o200049_1 →
 ( ((v4_1 < n →
 (0 ≤ n ∧ n ≤ 1000000000) ∧
 ((o200048_1.length : Int) + (([List.replicate n.toNat (0 : Int)]).length : Int) ≤ 1000000000) ∧
 (0 ≤ n ∧ n ≤ 1000000000) ∧
 ((o200049_1.length : Int) + (([List.replicate n.toNat (0 : Int)]).length : Int) ≤ 1000000000) ∧
 (InI (v4_1 + 1)) ∧
 (H1 (v4_1 + 1) (o200048_1 ++ ([List.replicate n.toNat (0 : Int)])) (o200049_1 ++ ([List.replicate n.toNat (0 : Int)])) ∧ m1 (v4_1 + 1) (o200048_1 ++ ([List.replicate n.toNat (0 : Int)])) (o200049_1 ++ ([List.replicate n.toNat (0 : Int)])) < m1 v4_1 o200048_1 o200049_1)) ∧
 (¬ (v4_1 < n) →
 Q o200048_1 o200049_1)))

def wp_spec_l05Solution (c : List (List Int)) (Q : List (List Int) → List (List Int) → Prop) : Prop :=
 (0 ≤ (c.length : Int) ∧ (c.length : Int) ≤ 1000000) ∧
 ∃ (H1 : Int → List (List Int) → List (List Int) → Prop) (m1 : Int → List (List Int) → List (List Int) → Nat),
 H1 0 (tab (c.length : Int) (fun _ _ => 0)) (tab (c.length : Int) (fun _ _ => 0)) ∧
 ∀ (v5_1 : Int) (o14_1 : List (List Int)) (o1001_1 : List (List Int)), H1 v5_1 o14_1 o1001_1 →
 ( ((v5_1 < (c.length : Int) →
 (0 ≤ v5_1 ∧ v5_1 < (o14_1.length : Int)) ∧
 (0 ≤ v5_1 ∧ v5_1 < (o1001_1.length : Int)) ∧
 ∃ (H2 : Int → List Int → List Int → Prop) (m2 : Int → List Int → List Int → Nat),
 H2 0 (el o14_1 v5_1) (el o1001_1 v5_1) ∧
 ∀ (v8_2 : Int) (o1002_2 : List Int) (o1003_2 : List Int), H2 v8_2 o1002_2 o1003_2 →
 ( ((v8_2 < (c.length : Int) →
 (0 ≤ v5_1 ∧ v5_1 < (c.length : Int)) ∧
 (small (el c v5_1)) ∧
 (0 ≤ v8_2 ∧ v8_2 < (o1002_2.length : Int)) ∧
 (0 ≤ idxI (el c v5_1) v8_2 ∧ idxI (el c v5_1) v8_2 < (c.length : Int)) ∧
 (0 ≤ v5_1 ∧ v5_1 < ((el c (idxI (el c v5_1) v8_2)).length : Int)) ∧
 (0 ≤ v8_2 ∧ v8_2 < (o1003_2.length : Int)) ∧
 (InI (v8_2 + 1)) ∧
 (H2 (v8_2 + 1) (se o1002_2 v8_2 (idxI (el c v5_1) v8_2)) (se o1003_2 v8_2 (el (el c (idxI (el c v5_1) v8_2)) v5_1)) ∧ m2 (v8_2 + 1) (se o1002_2 v8_2 (idxI (el c v5_1) v8_2)) (se o1003_2 v8_2 (el (el c (idxI (el c v5_1) v8_2)) v5_1)) < m2 v8_2 o1002_2 o1003_2)) ∧
 (¬ (v8_2 < (c.length : Int)) →
 (InI (v5_1 + 1)) ∧
 (0 ≤ v5_1 ∧ v5_1 < (o14_1.length : Int)) ∧
 (0 ≤ v5_1 ∧ v5_1 < (o1001_1.length : Int)) ∧
 (H1 (v5_1 + 1) (se o14_1 v5_1 o1002_2) (se o1001_1 v5_1 o1003_2) ∧ m1 (v5_1 + 1) (se o14_1 v5_1 o1002_2) (se o1001_1 v5_1 o1003_2) < m1 v5_1 o14_1 o1001_1))))) ∧
 (¬ (v5_1 < (c.length : Int)) →
 Q o14_1 o1001_1)))

theorem idxL_self {list : List (List Int)} {i : Int} (hi : 0 ≤ i ∧ i < (list.length : Int)) : idxL list (el list i) = i ↔ ∀ j, 0 ≤ j → j < i → el list j ≠ el list i := by
  constructor
  · intro h j j0 j1 e
    have hex : ∃ m : Nat, (m : Int) ≤ j ∧ el list (m : Int) = el list i ∧ ∀ k : Nat, k < m → el list (k : Int) ≠ el list i := by
      have key : ∀ n : Nat, (∃ m : Nat, m ≤ n ∧ el list (m : Int) = el list i) → ∃ m : Nat, m ≤ n ∧ el list (m : Int) = el list i ∧ ∀ k : Nat, k < m → el list (k : Int) ≠ el list i := by
        intro n
        induction n with
        | zero => intro ⟨m, hm, e⟩; exact ⟨m, hm, e, fun k hk => by omega⟩
        | succ n ih =>
          intro ⟨m, hm, e⟩
          by_cases hc : ∃ m : Nat, m ≤ n ∧ el list (m : Int) = el list i
          · obtain ⟨m', a, b, c⟩ := ih hc
            exact ⟨m', by omega, b, c⟩
          · exact ⟨m, hm, e, fun k hk e2 => hc ⟨k, by omega, e2⟩⟩
      obtain ⟨m, a, b, c⟩ := key j.toNat ⟨j.toNat, Nat.le_refl _, by rw [show ((j.toNat : Nat) : Int) = j by omega]; exact e⟩
      exact ⟨m, by omega, b, c⟩
    obtain ⟨m, a, b, c⟩ := hex
    have := idxF_found (t := list) (f := fun own => decide (own = el list i)) (i := (m : Int)) ⟨by omega, by omega⟩ (fun k k0 k1 => by
      have := c k.toNat (by omega)
      rw [show ((k.toNat : Nat) : Int) = k by omega] at this
      exact decide_eq_false this) (decide_eq_true b)
    unfold idxL at h
    omega
  · intro h
    exact idxF_found hi (fun j j0 j1 => decide_eq_false (h j j0 j1)) (decide_eq_true rfl)
theorem p_spec_l02Empty (n : Int) (hp : 0 ≤ n ∧ n ≤ 1000000) : wp_spec_l02Empty n (fun y0 y1 => y0 = tab n (fun _ _ => 0) ∧ y1 = tab n (fun _ _ => 0)) := by
  unfold wp_spec_l02Empty
  have hr : List.replicate n.toNat (0 : Int) = ran n fun _ => 0 := eq_ran (by simp) fun i a b => el_rep ⟨a, by omega⟩
  refine ⟨fun i o q => 0 ≤ i ∧ i ≤ n ∧ (o.length = i.toNat ∧ Upto i fun x => el o x = ran n fun _ => 0) ∧ (q.length = i.toNat ∧ Upto i fun x => el q x = ran n fun _ => 0), fun i _ _ => (n - i).toNat, ⟨by omega, by omega, ⟨by simp, upto0⟩, by simp, upto0⟩, ?_⟩
  rintro i o q ⟨i0, i1, ⟨il, iI⟩, ql, qI⟩
  dsimp only
  refine ⟨fun ilt => ⟨⟨by omega, by omega⟩, by simp; omega, ⟨by omega, by omega⟩, by simp; omega, ⟨by omega, by omega⟩, ⟨by omega, by omega, ⟨by simp; omega, app1 (f := fun _ => ran n fun _ => 0) (by omega) iI hr⟩, by simp; omega, app1 (f := fun _ => ran n fun _ => 0) (by omega) qI hr⟩, by omega⟩, fun ige => ⟨eq_ran (by omega) fun j a b => iI j a (by omega), eq_ran (by omega) fun j a b => qI j a (by omega)⟩⟩
theorem p_spec_l05Solution (c : List (List Int)) (hp : isTab c = true ∧ c.all isPerm = true) : wp_spec_l05Solution c (fun y0 y1 => y0 = cyAT c ∧ y1 = cyBT c) := by
  unfold wp_spec_l05Solution
  obtain ⟨ht, hpm⟩ := hp
  have hn := isTab_len ht
  have e0 : ∀ x, 0 ≤ x → x < (c.length : Int) → el (tab (c.length : Int) (fun _ _ => 0)) x = ran (c.length : Int) fun _ => 0 := fun x a b => by unfold tab; rw [el_ran ⟨a, b⟩]
  have hl0 : ((tab (c.length : Int) (fun _ _ => 0)).length : Int) = (c.length : Int) := len_tab (by omega)
  refine ⟨⟨by omega, by omega⟩, fun x o q => 0 ≤ x ∧ x ≤ (c.length : Int) ∧ ((o.length : Int) = (c.length : Int) ∧ (Upto x fun x => el o x = ran (c.length : Int) (cyA c x)) ∧ ∀ j, x ≤ j → j < (c.length : Int) → ((el o j).length : Int) = (c.length : Int)) ∧ (q.length : Int) = (c.length : Int) ∧ (Upto x fun x => el q x = ran (c.length : Int) (cyB c x)) ∧ ∀ j, x ≤ j → j < (c.length : Int) → ((el q j).length : Int) = (c.length : Int),
    fun x _ _ => ((c.length : Int) - x).toNat, ⟨by omega, by omega, ⟨hl0, upto0, fun j a b => by rw [e0 j (by omega) b]; simp⟩, hl0, upto0, fun j a b => by rw [e0 j (by omega) b]; simp⟩, ?_⟩
  rintro x o q ⟨x0, x1, ⟨ol, oI, oR⟩, ql, qI, qR⟩
  dsimp only
  refine ⟨fun xlt => ⟨⟨x0, by omega⟩, ⟨x0, by omega⟩, ?_⟩, fun xge => ⟨eq_ran (by omega) fun j a b => oI j a (by omega), eq_ran (by omega) fun j a b => qI j a (by omega)⟩⟩
  refine ⟨fun y a b => 0 ≤ y ∧ y ≤ (c.length : Int) ∧ ((a.length : Int) = (c.length : Int) ∧ Upto y fun y => el a y = cyA c x y) ∧ (b.length : Int) = (c.length : Int) ∧ Upto y fun y => el b y = cyB c x y, fun y _ _ => ((c.length : Int) - y).toNat, ⟨by omega, by omega, ⟨oR x (by omega) xlt, upto0⟩, qR x (by omega) xlt, upto0⟩, ?_⟩
  rintro y a b ⟨y0, y1, ⟨al, aI⟩, bl, bI⟩
  dsimp only
  refine ⟨fun ylt => ?_, fun yge => ?_⟩
  · obtain ⟨⟨u1, u2⟩, _⟩ := cy_in ht hpm ⟨x0, xlt⟩ ⟨y0, ylt⟩
    have l := rk_len ht u1
    exact ⟨⟨x0, xlt⟩, tab_rows ht _ (el_mem ⟨x0, xlt⟩), ⟨y0, by omega⟩, u1, ⟨x0, by unfold cyA at l; omega⟩, ⟨y0, by omega⟩, ⟨by omega, by omega⟩, ⟨by omega, by omega, ⟨by simpa using al, fill1 (f := cyA c x) ⟨y0, by omega⟩ aI rfl⟩, by simpa using bl, fill1 (f := cyB c x) ⟨y0, by omega⟩ bI rfl⟩, by omega⟩
  · have ha : a = ran (c.length : Int) (cyA c x) := eq_ran (by omega) fun k u v => aI k u (by omega)
    have hb : b = ran (c.length : Int) (cyB c x) := eq_ran (by omega) fun k u v => bI k u (by omega)
    refine ⟨⟨by omega, by omega⟩, ⟨x0, by omega⟩, ⟨x0, by omega⟩, ⟨by omega, by omega, ⟨by simpa using ol, fill1 (f := fun x => ran (c.length : Int) (cyA c x)) ⟨x0, by omega⟩ oI ha, fun j u v => ?_⟩, by simpa using ql, fill1 (f := fun x => ran (c.length : Int) (cyB c x)) ⟨x0, by omega⟩ qI hb, fun j u v => ?_⟩, by omega⟩
    · rw [el_se_ne x0 (by omega) (by omega)]; exact oR j (by omega) v
    · rw [el_se_ne x0 (by omega) (by omega)]; exact qR j (by omega) v
set_option maxRecDepth 100000 in
set_option maxHeartbeats 4000000 in
theorem w_spec_l02Empty (n : Int) (Q : List (List Int) → List (List Int) → Prop) (h : wp_spec_l02Empty n Q) : AF Try.prog 51 [ci n] (fun R_ => ∃ y0 y1, Q y0 y1 ∧ R_ = .agg [.own (orows y0), .own (orows y1)]) := by
  refine AF.ofWQ (af_enter (n := 26) Try.func51 rfl (by rfl) rfl (Nat.le_of_ble_eq_true rfl) ?_)
  unfold wp_spec_l02Empty at h
  refine aw_seq ?_
  refine aw_gh (gh_to (n := 26) (σ' := []) (env' := [(0, .c (ci n))]) rfl rfl ⟨rfl, trivial⟩) ?_
  refine aw_region ?_
  refine run_w (ws_alloc (id := 2) rfl (Nat.le_of_ble_eq_true rfl) ⟨rfl, ?_⟩)
  refine run_nil ?_
  refine aw_seq ?_
  refine aw_region ?_
  refine run_s (ss_build0) rfl ?_
  refine run_w (ws_alloc (id := 3) rfl (Nat.le_of_ble_eq_true rfl) ⟨rfl, ?_⟩)
  refine run_w (ws_storeN rfl rfl (Nat.le_of_ble_eq_true rfl) rfl rfl rfl rfl ⟨rfl, ?_⟩)
  refine run_nil ?_
  refine aw_seq ?_
  refine aw_seq ?_
  refine aw_region ?_
  refine run_s (ss_assign rfl) rfl ?_
  refine run_nil ?_
  refine aw_block ?_
  obtain ⟨H1, m1, q1, h⟩ := h
  refine aw_loop3 (fun (v4_1 : Int) (o200048_1 : List (List Int)) (o200049_1 : List (List Int)) => ⟨[(200049, ⟨orows o200049_1, []⟩), (200048, ⟨orows o200048_1, []⟩), (3, ⟨[.hole, .hole], [(1, .ref 200049), (0, .ref 200048)]⟩), (2, ⟨[cnil, cnil], []⟩)], [(0, .c (ci n)), (2, .cell 2 0), (3, .cell 3 0), (4, .c (ci v4_1))], 26⟩) H1 m1 ⟨0, ([] : List (List Int)), ([] : List (List Int)), ghe_step (gh_nilH (id0 := 3) (j := 0) (id := 200048) rfl rfl rfl rfl) (ghe_step (gh_nilH (id0 := 3) (j := 1) (id := 200049) rfl rfl rfl rfl) (ghe_to (n := 26) rfl rfl ⟨rfl, rfl, rfl, rfl, trivial⟩)), q1⟩ ?_
  rintro v4_1 o200048_1 o200049_1 q1
  replace h := h v4_1 o200048_1 o200049_1 q1
  refine aw_seq ?_
  refine aw_seq ?_
  refine aw_region ?_
  refine run_s (ss_move rfl) rfl ?_
  refine run_s (ss_move rfl) rfl ?_
  refine run_s (ss_lss rfl rfl) rfl ?_
  refine run_nil ?_
  refine aw_cond rfl (fun q2 => ?_) (fun q2 => ?_)
  ·replace h := h.1 (of_decide_eq_true q2)
   refine aw_skip ?_
   refine aw_seq ?_
   refine aw_block ?_
   refine aw_seq ?_
   refine aw_gh (gh_to (n := 26) (σ' := [(200049, ⟨orows o200049_1, []⟩), (200048, ⟨orows o200048_1, []⟩), (3, ⟨[.hole, .hole], [(1, .ref 200049), (0, .ref 200048)]⟩), (2, ⟨[cnil, cnil], []⟩)]) (env' := [(0, .c (ci n)), (2, .cell 2 0), (3, .cell 3 0), (4, .c (ci v4_1))]) rfl rfl ⟨rfl, rfl, rfl, rfl, trivial⟩) ?_
   refine aw_regionD (kd := kdl [0, 1, 0, 2, 2, 2, 0, 3]) (ord := [0, 2, 1, 3, 4, 5, 6, 7]) [14, 15, 200048] mixed (by kernel_rfl) ?_
   refine rd_s rfl rfl trivial (ss_field_cell rfl) rfl ?_
   refine rd_s rfl rfl trivial (ss_move rfl) rfl ?_
   refine rd_l rfl rfl trivial (ss_loadH rfl rfl rfl rfl) rfl ?_
   obtain ⟨q3, h⟩ := h
   refine rd_w rfl rfl trivial rfl rfl (ws_mk (id := 14) ci (0 : Int) rfl rfl rfl q3 (Nat.le_of_ble_eq_true rfl) rfl ⟨rfl, ?_⟩)
   refine rd_w rfl rfl trivial rfl rfl (ws_buildSlice (id := 15) (ps := [(0, .tmp 14)]) rfl rfl (Nat.le_of_ble_eq_true rfl) rfl ⟨rfl, ?_⟩)
   obtain ⟨q4, h⟩ := h
   refine rd_w rfl rfl trivial rfl rfl (ws_gh (gh_fill (id := 15) (id2 := 14) (j := 0) rfl rfl (Nat.le_of_ble_eq_true rfl) rfl rfl rfl) (ws_app1 (fun r => C.own (ints r)) (l := o200048_1) (m := [List.replicate n.toNat (0 : Int)]) rfl rfl rfl rfl rfl (Nat.le_of_ble_eq_true rfl) q4 ⟨rfl, ?_⟩))
   refine rd_s rfl rfl trivial (ss_field_cell rfl) rfl ?_
   refine rd_f rfl rfl trivial (ws_store rfl rfl (Nat.le_of_ble_eq_true rfl) rfl rfl ⟨rfl, ?_⟩)
   refine rd_nil ?_
   refine aw_gh (gh_to (n := 26) (σ' := [(200049, ⟨orows o200049_1, []⟩), (200048, ⟨orows (o200048_1 ++ ([List.replicate n.toNat (0 : Int)])), []⟩), (3, ⟨[.hole, .hole], [(0, .ref 200048), (1, .ref 200049)]⟩), (2, ⟨[cnil, cnil], []⟩)]) (env' := [(0, .c (ci n)), (2, .cell 2 0), (3, .cell 3 0), (4, .c (ci v4_1))]) rfl rfl ⟨rfl, rfl, rfl, rfl, trivial⟩) ?_
   refine aw_regionD (kd := kdl [0, 1, 0, 2, 2, 2, 0, 3]) (ord := [0, 2, 1, 3, 4, 5, 6, 7]) [21, 22, 200049] mixed (by kernel_rfl) ?_
   refine rd_s rfl rfl trivial (ss_field_cell rfl) rfl ?_
   refine rd_s rfl rfl trivial (ss_move rfl) rfl ?_
   refine rd_l rfl rfl trivial (ss_loadH rfl rfl rfl rfl) rfl ?_
   obtain ⟨q5, h⟩ := h
   refine rd_w rfl rfl trivial rfl rfl (ws_mk (id := 21) ci (0 : Int) rfl rfl rfl q5 (Nat.le_of_ble_eq_true rfl) rfl ⟨rfl, ?_⟩)
   refine rd_w rfl rfl trivial rfl rfl (ws_buildSlice (id := 22) (ps := [(0, .tmp 21)]) rfl rfl (Nat.le_of_ble_eq_true rfl) rfl ⟨rfl, ?_⟩)
   obtain ⟨q6, h⟩ := h
   refine rd_w rfl rfl trivial rfl rfl (ws_gh (gh_fill (id := 22) (id2 := 21) (j := 0) rfl rfl (Nat.le_of_ble_eq_true rfl) rfl rfl rfl) (ws_app1 (fun r => C.own (ints r)) (l := o200049_1) (m := [List.replicate n.toNat (0 : Int)]) rfl rfl rfl rfl rfl (Nat.le_of_ble_eq_true rfl) q6 ⟨rfl, ?_⟩))
   refine rd_s rfl rfl trivial (ss_field_cell rfl) rfl ?_
   refine rd_f rfl rfl trivial (ws_store rfl rfl (Nat.le_of_ble_eq_true rfl) rfl rfl ⟨rfl, ?_⟩)
   refine rd_nil ?_
   refine aw_gh (gh_to (n := 26) (σ' := [(200049, ⟨orows (o200049_1 ++ ([List.replicate n.toNat (0 : Int)])), []⟩), (200048, ⟨orows (o200048_1 ++ ([List.replicate n.toNat (0 : Int)])), []⟩), (3, ⟨[.hole, .hole], [(1, .ref 200049), (0, .ref 200048)]⟩), (2, ⟨[cnil, cnil], []⟩)]) (env' := [(0, .c (ci n)), (2, .cell 2 0), (3, .cell 3 0), (4, .c (ci v4_1))]) rfl rfl ⟨rfl, rfl, rfl, rfl, trivial⟩) ?_
   refine aw_region ?_
   refine run_s (ss_move rfl) rfl ?_
   obtain ⟨q7, h⟩ := h
   refine run_s (ss_add rfl rfl q7) rfl ?_
   refine run_s (ss_assign rfl) rfl ?_
   refine run_nil ?_
   exact ⟨v4_1 + 1, o200048_1 ++ ([List.replicate n.toNat (0 : Int)]), o200049_1 ++ ([List.replicate n.toNat (0 : Int)]), ghe_to (n := 26) rfl rfl ⟨rfl, rfl, rfl, rfl, trivial⟩, h.1, h.2⟩
  ·replace h := h.2 (of_decide_eq_false q2)
   refine aw_exit ?_
   refine aw_seq ?_
   refine aw_gh (gh_to (n := 26) (σ' := [(200049, ⟨orows o200049_1, []⟩), (200048, ⟨orows o200048_1, []⟩), (3, ⟨[.hole, .hole], [(1, .ref 200049), (0, .ref 200048)]⟩), (2, ⟨[cnil, cnil], []⟩)]) (env' := [(2, .cell 2 0), (3, .cell 3 0)]) rfl rfl ⟨rfl, rfl, trivial⟩) ?_
   refine aw_region ?_
   refine run_s (ss_loadS rfl rfl rfl rfl) rfl ?_
   refine run_w (ws_storeN rfl rfl (Nat.le_of_ble_eq_true rfl) rfl rfl rfl rfl ⟨rfl, ?_⟩)
   refine run_nil ?_
   refine aw_ret ?_
   exact retAF_mk (retv1 rfl (rv_struct rfl rfl rfl)) rfl rfl ⟨_, (cle_refl _), _, _, h, rfl⟩

theorem c_spec_l02Empty (n : Int) (hp : 0 ≤ n ∧ n ≤ 1000000) : AF Try.prog 51 [ci n] (fun R_ => R_ = .agg [.own (orows (tab n (fun _ _ => 0))), .own (orows (tab n (fun _ _ => 0)))]) :=
  (w_spec_l02Empty n (fun y0 y1 => y0 = tab n (fun _ _ => 0) ∧ y1 = tab n (fun _ _ => 0)) (p_spec_l02Empty n hp)).mono (by rintro r ⟨_, _, ⟨rfl, rfl⟩, rfl⟩; rfl)

set_option maxRecDepth 100000 in
set_option maxHeartbeats 4000000 in
theorem w_spec_l05Solution (c : List (List Int)) (Q : List (List Int) → List (List Int) → Prop) (h : wp_spec_l05Solution c Q) : AF Try.prog 31 [.agg [.lst (rows c)]] (fun R_ => ∃ y0 y1, Q y0 y1 ∧ R_ = .agg [.own (orows y0), .own (orows y1)]) := by
  refine AF.ofWQ (af_enter (n := 58) Try.func31 rfl (by rfl) rfl (Nat.le_of_ble_eq_true rfl) ?_)
  unfold wp_spec_l05Solution at h
  refine aw_seq ?_
  refine aw_gh (gh_to (n := 58) (σ' := []) (env' := [(0, .c (.agg [.lst (rows c)]))]) rfl rfl ⟨rfl, trivial⟩) ?_
  refine aw_region ?_
  refine run_w (ws_boxR rfl (.inl rfl) rfl ⟨rfl, ?_⟩)
  refine run_w (ws_alloc (id := 2) rfl (Nat.le_of_ble_eq_true rfl) ⟨rfl, ?_⟩)
  refine run_nil ?_
  refine aw_seq ?_
  refine aw_region ?_
  refine run_s (ss_field_ptr rfl) rfl ?_
  refine run_s (ss_load_ptr rfl rfl) rfl ?_
  refine run_s (ss_lenL (f := (fun r => C.lst (ints r))) rfl) rfl ?_
  refine run_s (ss_assign rfl) rfl ?_
  refine run_nil ?_
  refine aw_seq ?_
  refine aw_region ?_
  refine run_s (ss_move rfl) rfl ?_
  obtain ⟨q1, h⟩ := h
  refine run_w (ws_call (xs := [.tmp 13]) (ids := [14, 1001]) rfl rfl rfl rfl (c_spec_l02Empty (c.length : Int) q1) rfl ?_ )
  rintro _ rfl
  refine ⟨rfl, ?_⟩
  refine run_w (ws_alloc (id := 4) rfl (Nat.le_of_ble_eq_true rfl) ⟨rfl, ?_⟩)
  refine run_w (ws_storeN rfl rfl (Nat.le_of_ble_eq_true rfl) rfl rfl rfl rfl ⟨rfl, ?_⟩)
  refine run_nil ?_
  refine aw_seq ?_
  refine aw_seq ?_
  refine aw_gh (gh_to (n := 58) (σ' := [(4, ⟨[.hole, .hole], [(1, .ref 1001), (0, .ref 14)]⟩), (14, ⟨orows (tab (c.length : Int) (fun _ _ => 0)), []⟩), (1001, ⟨orows (tab (c.length : Int) (fun _ _ => 0)), []⟩), (2, ⟨[cnil, cnil], []⟩)]) (env' := [(1, .c (.ptr [.lst (rows c)])), (2, .cell 2 0), (3, .c (ci (c.length : Int))), (4, .cell 4 0)]) rfl rfl ⟨rfl, rfl, rfl, rfl, trivial⟩) ?_
  refine aw_region ?_
  refine run_s (ss_assign rfl) rfl ?_
  refine run_nil ?_
  refine aw_block ?_
  obtain ⟨H1, m1, q3, h⟩ := h
  refine aw_loop3 (fun (v5_1 : Int) (o14_1 : List (List Int)) (o1001_1 : List (List Int)) => ⟨[(4, ⟨[.hole, .hole], [(1, .ref 1001), (0, .ref 14)]⟩), (14, ⟨orows o14_1, []⟩), (1001, ⟨orows o1001_1, []⟩), (2, ⟨[cnil, cnil], []⟩)], [(1, .c (.ptr [.lst (rows c)])), (2, .cell 2 0), (3, .c (ci (c.length : Int))), (4, .cell 4 0), (5, .c (ci v5_1))], 58⟩) H1 m1 ⟨0, tab (c.length : Int) (fun _ _ => 0), tab (c.length : Int) (fun _ _ => 0), ghe_to (n := 58) rfl rfl ⟨rfl, rfl, rfl, rfl, rfl, trivial⟩, q3⟩ ?_
  rintro v5_1 o14_1 o1001_1 q3
  replace h := h v5_1 o14_1 o1001_1 q3
  refine aw_seq ?_
  refine aw_seq ?_
  refine aw_region ?_
  refine run_s (ss_move rfl) rfl ?_
  refine run_s (ss_move rfl) rfl ?_
  refine run_s (ss_lss rfl rfl) rfl ?_
  refine run_nil ?_
  refine aw_cond rfl (fun q4 => ?_) (fun q4 => ?_)
  ·replace h := h.1 (of_decide_eq_true q4)
   refine aw_skip ?_
   refine aw_seq ?_
   refine aw_block ?_
   refine aw_seq ?_
   refine aw_gh (gh_to (n := 58) (σ' := [(4, ⟨[.hole, .hole], [(1, .ref 1001), (0, .ref 14)]⟩), (14, ⟨orows o14_1, []⟩), (1001, ⟨orows o1001_1, []⟩), (2, ⟨[cnil, cnil], []⟩)]) (env' := [(1, .c (.ptr [.lst (rows c)])), (2, .cell 2 0), (3, .c (ci (c.length : Int))), (4, .cell 4 0), (5, .c (ci v5_1))]) rfl rfl ⟨rfl, rfl, rfl, rfl, rfl, trivial⟩) ?_
   refine aw_regionD (kd := kdl [0, 1, 0, 0, 1, 0, 1, 0, 0, 1, 0, 0]) (ord := [0, 2, 5, 7, 1, 3, 4, 10, 6, 8, 9, 11]) [] mixed (by kernel_rfl) ?_
   refine rd_s rfl rfl trivial (ss_field_cell rfl) rfl ?_
   refine rd_s rfl rfl trivial (ss_move rfl) rfl ?_
   refine rd_s rfl rfl trivial (ss_field_cell rfl) rfl ?_
   refine rd_s rfl rfl trivial (ss_move rfl) rfl ?_
   refine rd_l rfl rfl trivial (ss_loadH rfl rfl rfl rfl) rfl ?_
   obtain ⟨q5, h⟩ := h
   refine rd_s rfl rfl trivial (ss_idxR (f := (fun r => C.own (ints r))) rfl rfl rfl q5) rfl ?_
   refine rd_open 1002 (id := 14) (j := v5_1.toNat) rfl (map_get (f := (fun r => C.own (ints r))) q5) rfl rfl rfl ?_
   refine rd_l rfl rfl trivial (ss_loadH rfl rfl lk_self rfl) rfl ?_
   refine rd_s rfl rfl trivial (ss_assign rfl) rfl ?_
   refine rd_l rfl rfl trivial (ss_loadH rfl rfl rfl rfl) rfl ?_
   obtain ⟨q6, h⟩ := h
   refine rd_s rfl rfl trivial (ss_idxR (f := (fun r => C.own (ints r))) rfl rfl rfl q6) rfl ?_
   refine rd_open 1003 (id := 1001) (j := v5_1.toNat) rfl (map_get (f := (fun r => C.own (ints r))) q6) rfl rfl rfl ?_
   refine rd_l rfl rfl trivial (ss_loadH rfl rfl lk_self rfl) rfl ?_
   refine rd_s rfl rfl trivial (ss_assign rfl) rfl ?_
   refine rd_nil ?_
   refine aw_seq ?_
   refine aw_gh (gh_to (n := 58) (σ' := [(1003, ⟨ints (el o1001_1 v5_1), []⟩), (1002, ⟨ints (el o14_1 v5_1), []⟩), (4, ⟨[.hole, .hole], [(1, .ref 1001), (0, .ref 14)]⟩), (14, ⟨(orows o14_1).set v5_1.toNat .hole, [(v5_1.toNat, .ref 1002)]⟩), (1001, ⟨(orows o1001_1).set v5_1.toNat .hole, [(v5_1.toNat, .ref 1003)]⟩), (2, ⟨[cnil, cnil], []⟩)]) (env' := [(1, .c (.ptr [.lst (rows c)])), (2, .cell 2 0), (3, .c (ci (c.length : Int))), (4, .cell 4 0), (5, .c (ci v5_1)), (6, .ref 1002), (7, .ref 1003)]) rfl rfl ⟨rfl, rfl, rfl, rfl, rfl, rfl, rfl, trivial⟩) ?_
   refine aw_region ?_
   refine run_s (ss_assign rfl) rfl ?_
   refine run_nil ?_
   refine aw_block ?_
   obtain ⟨H2, m2, q7, h⟩ := h
   refine aw_loop3 (fun (v8_2 : Int) (o1002_2 : List Int) (o1003_2 : List Int) => ⟨[(1003, ⟨ints o1003_2, []⟩), (1002, ⟨ints o1002_2, []⟩), (4, ⟨[.hole, .hole], [(1, .ref 1001), (0, .ref 14)]⟩), (14, ⟨(orows o14_1).set v5_1.toNat .hole, [(v5_1.toNat, .ref 1002)]⟩), (1001, ⟨(orows o1001_1).set v5_1.toNat .hole, [(v5_1.toNat, .ref 1003)]⟩), (2, ⟨[cnil, cnil], []⟩)], [(1, .c (.ptr [.lst (rows c)])), (2, .cell 2 0), (3, .c (ci (c.length : Int))), (4, .cell 4 0), (5, .c (ci v5_1)), (6, .ref 1002), (7, .ref 1003), (8, .c (ci v8_2))], 58⟩) H2 m2 ⟨0, el o14_1 v5_1, el o1001_1 v5_1, ghe_to (n := 58) rfl rfl ⟨rfl, rfl, rfl, rfl, rfl, rfl, rfl, rfl, trivial⟩, q7⟩ ?_
   rintro v8_2 o1002_2 o1003_2 q7
   replace h := h v8_2 o1002_2 o1003_2 q7
   refine aw_seq ?_
   refine aw_seq ?_
   refine aw_region ?_
   refine run_s (ss_move rfl) rfl ?_
   refine run_s (ss_move rfl) rfl ?_
   refine run_s (ss_lss rfl rfl) rfl ?_
   refine run_nil ?_
   refine aw_cond rfl (fun q8 => ?_) (fun q8 => ?_)
   ·replace h := h.1 (of_decide_eq_true q8)
    refine aw_skip ?_
    refine aw_seq ?_
    refine aw_block ?_
    refine aw_seq ?_
    refine aw_region ?_
    refine run_s (ss_field_ptr rfl) rfl ?_
    refine run_s (ss_load_ptr rfl rfl) rfl ?_
    refine run_s (ss_move rfl) rfl ?_
    obtain ⟨q9, h⟩ := h
    refine run_s (ss_idxL rfl rfl q9) rfl ?_
    refine run_s (ss_loadL (f := (fun r => C.lst (ints r))) rfl q9) rfl ?_
    refine run_s (ss_move rfl) rfl ?_
    obtain ⟨q10, h⟩ := h
    refine run_w (ws_call (xs := [.tmp 39, .tmp 40]) (ids := []) rfl rfl rfl rfl (c_spec_l01Index (el c v5_1) v8_2 q10) rfl ?_ )
    rintro _ rfl
    refine ⟨rfl, ?_⟩
    refine run_s (ss_assign rfl) rfl ?_
    refine run_nil ?_
    refine aw_seq ?_
    refine aw_gh (gh_to (n := 58) (σ' := [(1003, ⟨ints o1003_2, []⟩), (1002, ⟨ints o1002_2, []⟩), (4, ⟨[.hole, .hole], [(1, .ref 1001), (0, .ref 14)]⟩), (14, ⟨(orows o14_1).set v5_1.toNat .hole, [(v5_1.toNat, .ref 1002)]⟩), (1001, ⟨(orows o1001_1).set v5_1.toNat .hole, [(v5_1.toNat, .ref 1003)]⟩), (2, ⟨[cnil, cnil], []⟩)]) (env' := [(1, .c (.ptr [.lst (rows c)])), (2, .cell 2 0), (3, .c (ci (c.length : Int))), (4, .cell 4 0), (5, .c (ci v5_1)), (6, .ref 1002), (7, .ref 1003), (8, .c (ci v8_2)), (9, .c (ci (idxI (el c v5_1) v8_2)))]) rfl rfl ⟨rfl, rfl, rfl, rfl, rfl, rfl, rfl, rfl, rfl, trivial⟩) ?_
    refine aw_region ?_
    refine run_s (ss_move rfl) rfl ?_
    refine run_s (ss_move rfl) rfl ?_
    refine run_s (ss_move rfl) rfl ?_
    obtain ⟨q12, h⟩ := h
    refine run_s (ss_idxR (f := ci) rfl rfl rfl q12) rfl ?_
    refine run_w (ws_storeE rfl rfl (map_lt q12) rfl rfl (map_se (f := ci)) rfl ⟨rfl, ?_⟩)
    refine run_nil ?_
    refine aw_region ?_
    refine run_s (ss_move rfl) rfl ?_
    refine run_s (ss_move rfl) rfl ?_
    refine run_s (ss_field_ptr rfl) rfl ?_
    refine run_s (ss_load_ptr rfl rfl) rfl ?_
    refine run_s (ss_move rfl) rfl ?_
    obtain ⟨q13, h⟩ := h
    refine run_s (ss_idxL rfl rfl q13) rfl ?_
    refine run_s (ss_loadL (f := (fun r => C.lst (ints r))) rfl q13) rfl ?_
    refine run_s (ss_move rfl) rfl ?_
    obtain ⟨q14, h⟩ := h
    refine run_s (ss_idxL rfl rfl q14) rfl ?_
    refine run_s (ss_loadL (f := ci) rfl q14) rfl ?_
    obtain ⟨q15, h⟩ := h
    refine run_s (ss_idxR (f := ci) rfl rfl rfl q15) rfl ?_
    refine run_w (ws_storeE rfl rfl (map_lt q15) rfl rfl (map_se (f := ci)) rfl ⟨rfl, ?_⟩)
    refine run_nil ?_
    refine aw_gh (gh_to (n := 58) (σ' := [(1003, ⟨ints (se o1003_2 v8_2 (el (el c (idxI (el c v5_1) v8_2)) v5_1)), []⟩), (1002, ⟨ints (se o1002_2 v8_2 (idxI (el c v5_1) v8_2)), []⟩), (4, ⟨[.hole, .hole], [(1, .ref 1001), (0, .ref 14)]⟩), (14, ⟨(orows o14_1).set v5_1.toNat .hole, [(v5_1.toNat, .ref 1002)]⟩), (1001, ⟨(orows o1001_1).set v5_1.toNat .hole, [(v5_1.toNat, .ref 1003)]⟩), (2, ⟨[cnil, cnil], []⟩)]) (env' := [(1, .c (.ptr [.lst (rows c)])), (2, .cell 2 0), (3, .c (ci (c.length : Int))), (4, .cell 4 0), (5, .c (ci v5_1)), (6, .ref 1002), (7, .ref 1003), (8, .c (ci v8_2))]) rfl rfl ⟨rfl, rfl, rfl, rfl, rfl, rfl, rfl, rfl, trivial⟩) ?_
    refine aw_region ?_
    refine run_s (ss_move rfl) rfl ?_
    obtain ⟨q16, h⟩ := h
    refine run_s (ss_add rfl rfl q16) rfl ?_
    refine run_s (ss_assign rfl) rfl ?_
    refine run_nil ?_
    exact ⟨v8_2 + 1, se o1002_2 v8_2 (idxI (el c v5_1) v8_2), se o1003_2 v8_2 (el (el c (idxI (el c v5_1) v8_2)) v5_1), ghe_to (n := 58) rfl rfl ⟨rfl, rfl, rfl, rfl, rfl, rfl, rfl, rfl, trivial⟩, h.1, h.2⟩
   ·replace h := h.2 (of_decide_eq_false q8)
    refine aw_exit ?_
    refine aw_gh (gh_to (n := 58) (σ' := [(1003, ⟨ints o1003_2, []⟩), (1002, ⟨ints o1002_2, []⟩), (4, ⟨[.hole, .hole], [(1, .ref 1001), (0, .ref 14)]⟩), (14, ⟨(orows o14_1).set v5_1.toNat .hole, [(v5_1.toNat, .ref 1002)]⟩), (1001, ⟨(orows o1001_1).set v5_1.toNat .hole, [(v5_1.toNat, .ref 1003)]⟩), (2, ⟨[cnil, cnil], []⟩)]) (env' := [(1, .c (.ptr [.lst (rows c)])), (2, .cell 2 0), (3, .c (ci (c.length : Int))), (4, .cell 4 0), (5, .c (ci v5_1))]) rfl rfl ⟨rfl, rfl, rfl, rfl, rfl, trivial⟩) ?_
    refine aw_region ?_
    refine run_s (ss_move rfl) rfl ?_
    obtain ⟨q17, h⟩ := h
    refine run_s (ss_add rfl rfl q17) rfl ?_
    refine run_s (ss_assign rfl) rfl ?_
    refine run_nil ?_
    obtain ⟨q18, h⟩ := h
    obtain ⟨q19, h⟩ := h
    exact ⟨v5_1 + 1, se o14_1 v5_1 o1002_2, se o1001_1 v5_1 o1003_2, ghe_step (gh_fillA (id := 14) (id2 := 1002) (f := (fun r => C.own (ints r))) (v := o1002_2) rfl lk_self rfl q18 rfl rfl kr_self) (ghe_step (gh_fillA (id := 1001) (id2 := 1003) (f := (fun r => C.own (ints r))) (v := o1003_2) rfl lk_self rfl q19 rfl rfl kr_self) (ghe_to (n := 58) rfl rfl ⟨rfl, rfl, rfl, rfl, rfl, trivial⟩)), h.1, h.2⟩
  ·replace h := h.2 (of_decide_eq_false q4)
   refine aw_exit ?_
   refine aw_seq ?_
   refine aw_gh (gh_to (n := 58) (σ' := [(4, ⟨[.hole, .hole], [(1, .ref 1001), (0, .ref 14)]⟩), (14, ⟨orows o14_1, []⟩), (1001, ⟨orows o1001_1, []⟩), (2, ⟨[cnil, cnil], []⟩)]) (env' := [(2, .cell 2 0), (4, .cell 4 0)]) rfl rfl ⟨rfl, rfl, trivial⟩) ?_
   refine aw_region ?_
   refine run_s (ss_loadS rfl rfl rfl rfl) rfl ?_
   refine run_w (ws_storeN rfl rfl (Nat.le_of_ble_eq_true rfl) rfl rfl rfl rfl ⟨rfl, ?_⟩)
   refine run_nil ?_
   refine aw_ret ?_
   exact retAF_mk (retv1 rfl (rv_struct rfl rfl rfl)) rfl rfl ⟨_, (cle_refl _), _, _, h, rfl⟩

theorem c_spec_l05Solution (c : List (List Int)) (hp : isTab c = true ∧ c.all isPerm = true) : AF Try.prog 31 [.agg [.lst (rows c)]] (fun R_ => R_ = .agg [.own (orows (cyAT c)), .own (orows (cyBT c))]) :=
  (w_spec_l05Solution c (fun y0 y1 => y0 = cyAT c ∧ y1 = cyBT c) (p_spec_l05Solution c hp)).mono (by rintro r ⟨_, _, ⟨rfl, rfl⟩, rfl⟩; rfl)

end Go.Proofs.Ytkmoeodoidpjkaa

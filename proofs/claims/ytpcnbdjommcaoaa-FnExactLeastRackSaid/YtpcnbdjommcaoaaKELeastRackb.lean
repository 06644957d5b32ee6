/- Contracts of functions that the law FnExactLeastRack reaches: conditions, plain proofs, walks; no condition. -/
import Derived.Test.YtpcnbdjommcaoaaKELeastRacka
import Derived.Test.YtpcnbdjommcaoaaPm
namespace Go.Proofs.Ytpcnbdjommcaoaa

def wp_k_Clone (s : List Int) (Q : List Int → Prop) : Prop :=
 ∀ (b1 : Bool), (b1 = true → s = []) →
 ((b1 = true →
 Q ([])) ∧
 (b1 = false →
 ((([] : List Int).length : Int) + (s.length : Int) ≤ 1000000000) ∧
 Q (([] : List Int) ++ s)))

def wp_spec_l01Same (a : List Int) (b : List Int) (Q : Bool → Prop) : Prop :=
 ((¬ ((a.length : Int) = (b.length : Int)) →
 Q false) ∧
 ((a.length : Int) = (b.length : Int) →
 ∃ (H1 : Int → Prop) (m1 : Int → Nat),
 H1 0 ∧
 ∀ (v5_1 : Int), H1 v5_1 →
 ( ((v5_1 < (a.length : Int) →
 (0 ≤ v5_1 ∧ v5_1 < (a.length : Int)) ∧
 (0 ≤ v5_1 ∧ v5_1 < (b.length : Int)) ∧
 ((¬ (el a v5_1 = el b v5_1) →
 Q false) ∧
 (el a v5_1 = el b v5_1 →
 (InI (v5_1 + 1)) ∧
 (H1 (v5_1 + 1) ∧ m1 (v5_1 + 1) < m1 v5_1)))) ∧
 (¬ (v5_1 < (a.length : Int)) →
 Q true)))))

def wp_impl_identity (n : Int) (Q : List Int → Prop) : Prop :=
 (0 ≤ n ∧ n ≤ 1000000000) ∧
 ∃ (H1 : Int → List Int → Prop) (m1 : Int → List Int → Nat),
 H1 0 (List.replicate n.toNat (0 : Int)) ∧
 ∀ (v9_1 : Int) (o6_1 : List Int), H1 v9_1 o6_1 →
 ( ((v9_1 < ((List.replicate n.toNat (0 : Int)).length : Int) →
 (0 ≤ v9_1 ∧ v9_1 < (o6_1.length : Int)) ∧
 (InI (v9_1 + 1)) ∧
 (H1 (v9_1 + 1) (se o6_1 v9_1 v9_1) ∧ m1 (v9_1 + 1) (se o6_1 v9_1 v9_1) < m1 v9_1 o6_1)) ∧
 (¬ (v9_1 < ((List.replicate n.toNat (0 : Int)).length : Int)) →
 Q o6_1)))

def wp_spec_l01Back (p : List Int) (Q : List Int → Prop) : Prop :=
 (0 ≤ (p.length : Int) ∧ (p.length : Int) ≤ 1000000000) ∧
 ∃ (H1 : Int → List Int → Prop) (m1 : Int → List Int → Nat),
 H1 0 (List.replicate (p.length : Int).toNat (0 : Int)) ∧
 ∀ (v4_1 : Int) (o7_1 : List Int), H1 v4_1 o7_1 →
 ( ((v4_1 < (p.length : Int) →
 (0 ≤ v4_1 ∧ v4_1 < (p.length : Int)) ∧
 (0 ≤ el p v4_1 ∧ el p v4_1 < (o7_1.length : Int)) ∧
 (InI (v4_1 + 1)) ∧
 (H1 (v4_1 + 1) (se o7_1 (el p v4_1) v4_1) ∧ m1 (v4_1 + 1) (se o7_1 (el p v4_1) v4_1) < m1 v4_1 o7_1)) ∧
 (¬ (v4_1 < (p.length : Int)) →
 Q o7_1)))

def wp_impl_inverse (p : List Int) (Q : List Int → Prop) : Prop :=
 (0 ≤ (p.length : Int) ∧ (p.length : Int) ≤ 1000000000) ∧
 ∃ (H1 : Int → List Int → Prop) (m1 : Int → List Int → Nat),
 H1 0 (List.replicate (p.length : Int).toNat (0 : Int)) ∧
 ∀ (v11_1 : Int) (o8_1 : List Int), H1 v11_1 o8_1 →
 ( ((v11_1 < (p.length : Int) →
 (0 ≤ v11_1 ∧ v11_1 < (p.length : Int)) ∧
 (0 ≤ el p v11_1 ∧ el p v11_1 < (o8_1.length : Int)) ∧
 (InI (v11_1 + 1)) ∧
 (H1 (v11_1 + 1) (se o8_1 (el p v11_1) v11_1) ∧ m1 (v11_1 + 1) (se o8_1 (el p v11_1) v11_1) < m1 v11_1 o8_1)) ∧
 (¬ (v11_1 < (p.length : Int)) →
 Q o8_1)))

def wp_impl_permutationRows_1 (row : List Int) (Q : Bool → Prop) : Prop :=
 (small row) ∧
 Q (!((isPerm row)))

def wp_impl_permutationRows (t : List (List Int)) (Q : Bool → Prop) : Prop :=
 (small t ∧ ∀ r_ ∈ t, (fun z0 => small z0) r_) ∧
 Q (!((t.any (fun z0 => !isPerm z0))))

def wp_impl_rackFault (t : List (List Int)) (Q : List Int → Prop) : Prop :=
 ∃ (H1 : Int → Prop) (m1 : Int → Nat),
 H1 0 ∧
 ∀ (v10_1 : Int), H1 v10_1 →
 ( ((v10_1 < (t.length : Int) →
 ∃ (H2 : Int → Prop) (m2 : Int → Nat),
 H2 0 ∧
 ∀ (v14_2 : Int), H2 v14_2 →
 ( ((v14_2 < (t.length : Int) →
 ∃ (H3 : Int → Prop) (m3 : Int → Nat),
 H3 0 ∧
 ∀ (v18_3 : Int), H3 v18_3 →
 ( ((v18_3 < (t.length : Int) →
 (0 ≤ v10_1 ∧ v10_1 < (t.length : Int)) ∧
 (0 ≤ v14_2 ∧ v14_2 < (t.length : Int)) ∧
 (0 ≤ v10_1 ∧ v10_1 < (t.length : Int)) ∧
 (0 ≤ v10_1 ∧ v10_1 < (t.length : Int)) ∧
 (0 ≤ v18_3 ∧ v18_3 < ((el t v14_2).length : Int)) ∧
 (0 ≤ el (el t v14_2) v18_3 ∧ el (el t v14_2) v18_3 < ((el t v10_1).length : Int)) ∧
 (0 ≤ v14_2 ∧ v14_2 < ((el t v10_1).length : Int)) ∧
 (0 ≤ el (el t v10_1) v14_2 ∧ el (el t v10_1) v14_2 < (t.length : Int)) ∧
 (0 ≤ v18_3 ∧ v18_3 < ((el t v10_1).length : Int)) ∧
 (0 ≤ el (el t v10_1) v18_3 ∧ el (el t v10_1) v18_3 < ((el t (el (el t v10_1) v14_2)).length : Int)) ∧
 ((¬ (el (el t v10_1) (el (el t v14_2) v18_3) = el (el t (el (el t v10_1) v14_2)) (el (el t v10_1) v18_3)) →
 Q ([v10_1, v14_2, v18_3])) ∧
 (el (el t v10_1) (el (el t v14_2) v18_3) = el (el t (el (el t v10_1) v14_2)) (el (el t v10_1) v18_3) →
 (InI (v18_3 + 1)) ∧
 (H3 (v18_3 + 1) ∧ m3 (v18_3 + 1) < m3 v18_3)))) ∧
 (¬ (v18_3 < (t.length : Int)) →
 (InI (v14_2 + 1)) ∧
 (H2 (v14_2 + 1) ∧ m2 (v14_2 + 1) < m2 v14_2))))) ∧
 (¬ (v14_2 < (t.length : Int)) →
 (InI (v10_1 + 1)) ∧
 (H1 (v10_1 + 1) ∧ m1 (v10_1 + 1) < m1 v10_1))))) ∧
 (¬ (v10_1 < (t.length : Int)) →
 Q ([]))))

def wp_spec_l03Fault (t : List (List Int)) (Q : List Int → Prop) : Prop :=
 ∃ (H1 : Int → Prop) (m1 : Int → Nat),
 H1 0 ∧
 ∀ (v4_1 : Int), H1 v4_1 →
 ( ((v4_1 < (t.length : Int) →
 ∃ (H2 : Int → Prop) (m2 : Int → Nat),
 H2 0 ∧
 ∀ (v5_2 : Int), H2 v5_2 →
 ( ((v5_2 < (t.length : Int) →
 ∃ (H3 : Int → Prop) (m3 : Int → Nat),
 H3 0 ∧
 ∀ (v6_3 : Int), H3 v6_3 →
 ( ((v6_3 < (t.length : Int) →
 (0 ≤ v4_1 ∧ v4_1 < (t.length : Int)) ∧
 (0 ≤ v5_2 ∧ v5_2 < (t.length : Int)) ∧
 (0 ≤ v4_1 ∧ v4_1 < (t.length : Int)) ∧
 (0 ≤ v4_1 ∧ v4_1 < (t.length : Int)) ∧
 (0 ≤ v6_3 ∧ v6_3 < ((el t v5_2).length : Int)) ∧
 (0 ≤ el (el t v5_2) v6_3 ∧ el (el t v5_2) v6_3 < ((el t v4_1).length : Int)) ∧
 (0 ≤ v5_2 ∧ v5_2 < ((el t v4_1).length : Int)) ∧
 (0 ≤ el (el t v4_1) v5_2 ∧ el (el t v4_1) v5_2 < (t.length : Int)) ∧
 (0 ≤ v6_3 ∧ v6_3 < ((el t v4_1).length : Int)) ∧
 (0 ≤ el (el t v4_1) v6_3 ∧ el (el t v4_1) v6_3 < ((el t (el (el t v4_1) v5_2)).length : Int)) ∧
 ((¬ (el (el t v4_1) (el (el t v5_2) v6_3) = el (el t (el (el t v4_1) v5_2)) (el (el t v4_1) v6_3)) →
 Q ([v4_1, v5_2, v6_3])) ∧
 (el (el t v4_1) (el (el t v5_2) v6_3) = el (el t (el (el t v4_1) v5_2)) (el (el t v4_1) v6_3) →
 (InI (v6_3 + 1)) ∧
 (H3 (v6_3 + 1) ∧ m3 (v6_3 + 1) < m3 v6_3)))) ∧
 (¬ (v6_3 < (t.length : Int)) →
 (InI (v5_2 + 1)) ∧
 (H2 (v5_2 + 1) ∧ m2 (v5_2 + 1) < m2 v5_2))))) ∧
 (¬ (v5_2 < (t.length : Int)) →
 (InI (v4_1 + 1)) ∧
 (H1 (v4_1 + 1) ∧ m1 (v4_1 + 1) < m1 v4_1))))) ∧
 (¬ (v4_1 < (t.length : Int)) →
 Q ([]))))

def wp_impl_IsRack (r : List (List Int)) (Q : Bool → Prop) : Prop :=
 (small2 r) ∧
 (((isTab r) = true →
 (small2 r) ∧
 (((r.all isPerm) = true →
 (((rackF r) = [] →
 (isTab r = true) ∧
 Q true) ∧
 (¬ (rackF r) = [] →
 (isTab r = true) ∧
 Q false))) ∧
 ((r.all isPerm) = false →
 Q false))) ∧
 ((isTab r) = false →
 Q false))

def wp_spec_l03Is (r : List (List Int)) (Q : Bool → Prop) : Prop :=
 (small2 r) ∧
 (((isTab r) = false →
 Q false) ∧
 ((isTab r) = true →
 ∃ (H1 : Int → Prop) (m1 : Int → Nat),
 H1 0 ∧
 ∀ (v3_1 : Int), H1 v3_1 →
 ( ((v3_1 < (r.length : Int) →
 (0 ≤ v3_1 ∧ v3_1 < (r.length : Int)) ∧
 (small (el r v3_1)) ∧
 (((permB (el r v3_1)) = false →
 Q false) ∧
 ((permB (el r v3_1)) = true →
 (InI (v3_1 + 1)) ∧
 (H1 (v3_1 + 1) ∧ m1 (v3_1 + 1) < m1 v3_1)))) ∧
 (¬ (v3_1 < (r.length : Int)) →
 (isTab r = true) ∧
 Q (decide (((rackF r).length : Int) = 0)))))))

theorem p_k_Clone (s : List Int) (hp : small s) : wp_k_Clone s (fun y0 => y0 = s) := by
  unfold wp_k_Clone
  exact fun b hb => ⟨fun h => (hb h).symm, fun _ => ⟨by simp; omega, rfl⟩⟩
theorem p_spec_l01Same (a b : List Int) (hp : small a ∧ small b) : wp_spec_l01Same a b (fun y0 => y0 = decide (a = b)) := by
  unfold wp_spec_l01Same
  obtain ⟨ha, hb⟩ := hp
  refine ⟨fun h => (decide_eq_false fun e => h (by rw [e])).symm, fun h => ⟨fun i => 0 ≤ i ∧ i ≤ (a.length : Int) ∧ Upto i fun j => el a j = el b j, fun i => ((a.length : Int) - i).toNat, ⟨by omega, by omega, upto0⟩, ?_⟩⟩
  rintro i ⟨h0, h1, hI⟩
  dsimp only
  refine ⟨fun hlt => ⟨⟨h0, hlt⟩, ⟨h0, by omega⟩, fun hf => (decide_eq_false fun e => hf (by rw [e])).symm, fun ht => ⟨⟨by omega, by omega⟩, ⟨by omega, by omega, upto1 hI ht⟩, by omega⟩⟩, fun hge => ?_⟩
  exact (decide_eq_true (ext_el (by omega) fun j h2 h3 => hI j h2 (by omega))).symm
theorem p_impl_identity (n : Int) (hp : 0 ≤ n ∧ n ≤ 1000000) : wp_impl_identity n (fun y0 => y0 = unitI n) := by
  unfold wp_impl_identity
  simp only [List.length_replicate]
  refine ⟨⟨by omega, by omega⟩, fun i o => 0 ≤ i ∧ i ≤ n ∧ o.length = n.toNat ∧ Upto i fun j => el o j = j, fun i _ => (n - i).toNat, ⟨by omega, by omega, by simp, upto0⟩, ?_⟩
  rintro i o ⟨h0, h1, hl, hI⟩
  dsimp only
  exact ⟨fun hlt => by
    refine ⟨?_, ?_⟩ <;> first
      | exact ⟨by omega, by omega⟩
      | exact ⟨⟨by omega, by omega⟩, ⟨by omega, by omega, by simp [hl], fill1 (f := fun j => j) ⟨h0, by omega⟩ hI rfl⟩, by omega⟩
      | exact ⟨⟨by omega, by omega⟩, ⟨by omega, by omega⟩, ⟨by omega, by omega, by simp [hl], fill1 (f := fun j => j) ⟨h0, by omega⟩ hI rfl⟩, by omega⟩, fun hge => eq_ran (f := id) hl fun j h2 h3 => hI j h2 (by omega)⟩
theorem p_spec_l01Back (p : List Int) (hp : small p ∧ isPerm p = true) : wp_spec_l01Back p (fun y0 => y0 = backI p) := by
  unfold wp_spec_l01Back
  obtain ⟨h1, h2⟩ := hp
  refine ⟨⟨by omega, h1⟩, fun i o => 0 ≤ i ∧ i ≤ (p.length : Int) ∧ o.length = p.length ∧ Upto i fun j => el o (el p j) = j, fun i _ => ((p.length : Int) - i).toNat, ⟨by omega, by omega, by simp, upto0⟩, ?_⟩
  rintro i o ⟨h0, h3, hl, hI⟩
  dsimp only
  refine ⟨fun hlt => ?_, fun hge => backI_uniq h2 hl fun j a b => hI j a (by omega)⟩
  have hb := isPerm_el h2 ⟨h0, hlt⟩
  refine ⟨⟨h0, hlt⟩, ⟨hb.1, by omega⟩, ⟨by omega, by omega⟩, ⟨by omega, by omega, by simp [hl], upto1 (fun j a b => ?_) (by rw [el_se_same ⟨hb.1, by omega⟩])⟩, by omega⟩
  have hj := isPerm_el h2 (i := j) ⟨a, by omega⟩
  rw [el_se_ne hb.1 hj.1 fun e => by have := isPerm_inj h2 ⟨h0, hlt⟩ ⟨a, by omega⟩ e; omega]
  exact hI j a b
theorem p_impl_inverse (p : List Int) (hp : small p ∧ isPerm p = true) : wp_impl_inverse p (fun y0 => y0 = backI p) := p_spec_l01Back p hp
theorem p_impl_permutationRows_1 (row : List Int) (hp : small row) : wp_impl_permutationRows_1 row (fun y0 => y0 = !isPerm row) := ⟨hp, rfl⟩
theorem p_impl_permutationRows (t : List (List Int)) (hp : small2 t) : wp_impl_permutationRows t (fun y0 => y0 = t.all isPerm) := by
  refine ⟨⟨hp.1, hp.2⟩, ?_⟩
  rw [List.not_any_eq_all_not]; simp
theorem p_spec_l03Fault (t : List (List Int)) (hp : isTab t = true) : wp_spec_l03Fault t (fun y0 => y0 = rackF t) := by
  unfold wp_spec_l03Fault rackF
  have hn := isTab_len hp
  have tr := fun (i : Int) (hi : 0 ≤ i ∧ i < (t.length : Int)) => isTab_row hp hi
  refine ⟨fun x => 0 ≤ x ∧ x ≤ (t.length : Int) ∧ Upto x fun a => ∀ b, 0 ≤ b → b < (t.length : Int) → ∀ c, 0 ≤ c → c < (t.length : Int) → rackB t a b c = false, fun x => ((t.length : Int) - x).toNat, ⟨by omega, by omega, upto0⟩, ?_⟩
  rintro x ⟨x0, x1, xI⟩
  dsimp only
  refine ⟨fun xlt => ?_, fun xge => (first3_none fun a h1 h2 => xI a h1 (by omega)).symm⟩
  refine ⟨fun y => 0 ≤ y ∧ y ≤ (t.length : Int) ∧ Upto y fun b => ∀ c, 0 ≤ c → c < (t.length : Int) → rackB t x b c = false, fun y => ((t.length : Int) - y).toNat, ⟨by omega, by omega, upto0⟩, ?_⟩
  rintro y ⟨y0, y1, yI⟩
  dsimp only
  refine ⟨fun ylt => ?_, fun yge => ⟨⟨by omega, by omega⟩, ⟨by omega, by omega, upto1 xI fun b h1 h2 => yI b h1 (by omega)⟩, by omega⟩⟩
  refine ⟨fun z => 0 ≤ z ∧ z ≤ (t.length : Int) ∧ Upto z fun c => rackB t x y c = false, fun z => ((t.length : Int) - z).toNat, ⟨by omega, by omega, upto0⟩, ?_⟩
  rintro z ⟨z0, z1, zI⟩
  dsimp only
  refine ⟨fun zlt => ?_, fun zge => ⟨⟨by omega, by omega⟩, ⟨by omega, by omega, upto1 yI fun c h1 h2 => zI c h1 (by omega)⟩, by omega⟩⟩
  have hx := tr x ⟨x0, xlt⟩
  have hy := tr y ⟨y0, ylt⟩
  have xy := hx.2 y y0 ylt
  have xz := hx.2 z z0 zlt
  have yz := hy.2 z z0 zlt
  have r1 := tr _ xy
  refine ⟨⟨x0, xlt⟩, ⟨y0, ylt⟩, ⟨x0, xlt⟩, ⟨x0, xlt⟩, ⟨z0, by omega⟩, ⟨yz.1, by omega⟩, ⟨y0, by omega⟩, xy, ⟨z0, by omega⟩, ⟨xz.1, by omega⟩, fun h => ?_, fun h => ⟨⟨by omega, by omega⟩, ⟨by omega, by omega, upto1 zI (by simp [rackB, h])⟩, by omega⟩⟩
  exact (first3_found ⟨x0, xlt⟩ ⟨y0, ylt⟩ ⟨z0, zlt⟩ (by simp [rackB, h]) xI yI zI).symm
theorem p_impl_rackFault (t : List (List Int)) (hp : isTab t = true) : wp_impl_rackFault t (fun y0 => y0 = rackF t) := p_spec_l03Fault t hp
theorem isEmpty_iff_nil {l : List Int} : l.isEmpty = decide ((l.length : Int) = 0) := by cases l <;> simp; omega
theorem p_impl_IsRack (r : List (List Int)) (hp : small2 r) : wp_impl_IsRack r (fun y0 => y0 = isRk r) := by
  unfold wp_impl_IsRack isRk
  refine ⟨hp, fun h => ⟨hp, fun h2 => ⟨fun h3 => ⟨h, ?_⟩, fun h3 => ⟨h, ?_⟩⟩, fun h2 => ?_⟩, fun h => ?_⟩
  · rw [h, h2, h3]; rfl
  · rw [h, h2]; cases e : rackF r with
    | nil => exact absurd e h3
    | cons x l => rfl
  · rw [h, h2]; rfl
  · rw [h]; rfl
theorem p_spec_l03Is (r : List (List Int)) (hp : small2 r) : wp_spec_l03Is r (fun y0 => y0 = isRk r) := by
  unfold wp_spec_l03Is isRk
  refine ⟨hp, fun h => by rw [h]; rfl, fun h => ?_⟩
  rw [h, ← isTab_perm h, isEmpty_iff_nil]
  refine ⟨fun i => 0 ≤ i ∧ i ≤ (r.length : Int) ∧ Upto i fun j => permB (el r j) = true, fun i => ((r.length : Int) - i).toNat, ⟨by omega, by omega, upto0⟩, ?_⟩
  rintro i ⟨h0, h3, hI⟩
  dsimp only
  refine ⟨fun hlt => ⟨⟨h0, hlt⟩, hp.2 _ (el_mem ⟨h0, hlt⟩), fun hf => by rw [all_f ⟨h0, hlt⟩ hf]; rfl, fun ht => ⟨⟨by have := isTab_len h; omega, by have := isTab_len h; omega⟩, ⟨by omega, by omega, upto1 hI ht⟩, by omega⟩⟩, fun hge => ⟨rfl, ?_⟩⟩
  rw [all_t (by rwa [show i = (r.length : Int) by omega] at hI)]; rfl
set_option maxRecDepth 100000 in
set_option maxHeartbeats 4000000 in
theorem w_k_Clone (s : List Int) (Q : List Int → Prop) (h : wp_k_Clone s Q) : AF Try.prog 52 [.lst (ints s)] (fun R_ => ∃ y0, Q y0 ∧ R_ = .own (ints y0)) := by
  refine AF.ofWQ (af_enter (n := 8) Try.func52 rfl (by rfl) rfl (Nat.le_of_ble_eq_true rfl) ?_)
  unfold wp_k_Clone at h
  refine aw_seq ?_
  refine aw_gh (gh_to (n := 8) (σ' := []) (env' := [(0, .c (.lst (ints s)))]) rfl rfl ⟨rfl, trivial⟩) ?_
  refine aw_region ?_
  refine run_s (ss_assign rfl) rfl ?_
  refine run_nil ?_
  refine aw_seq ?_
  refine aw_seq ?_
  refine aw_region ?_
  refine run_s (ss_move rfl) rfl ?_
  refine run_w (ws_eqlNilL (f := ci) rfl rfl ?_ )
  intro b1 q1
  replace h := h b1 q1
  refine ⟨rfl, ?_⟩
  refine run_nil ?_
  refine aw_cond rfl (fun q2 => ?_) (fun q2 => ?_)
  ·replace h := h.1 (q2)
   refine aw_seq ?_
   refine aw_gh (gh_to (n := 8) (σ' := []) (env' := [(2, .c (cnil))]) rfl rfl ⟨rfl, trivial⟩) ?_
   refine aw_region ?_
   refine run_s (ss_assign rfl) rfl ?_
   refine run_nil ?_
   refine aw_ret ?_
   exact retAF_mk (retv1 rfl (rv_tmp rfl)) rfl rfl ⟨_, cle_nilO, _, h, rfl⟩
  ·replace h := h.2 (q2)
   refine aw_skip ?_
   refine aw_seq ?_
   refine aw_region ?_
   refine run_w (ws_buildSlice (id := 5) (ps := []) rfl rfl (Nat.le_of_ble_eq_true rfl) rfl ⟨rfl, ?_⟩)
   refine run_s (ss_move rfl) rfl ?_
   obtain ⟨q3, h⟩ := h
   refine run_w (ws_appL ci (l := ([] : List Int)) (m := s) rfl rfl rfl (Nat.le_of_ble_eq_true rfl) q3 ⟨rfl, ?_⟩)
   refine run_s (ss_assign rfl) rfl ?_
   refine run_nil ?_
   refine aw_ret ?_
   exact retAF_mk (retv1 rfl (rv_tmp rfl)) rfl rfl ⟨_, (cle_refl _), _, h, rfl⟩

theorem c_k_Clone (s : List Int) (hp : small s) : AF Try.prog 52 [.lst (ints s)] (fun R_ => R_ = .own (ints s)) :=
  (w_k_Clone s (fun y0 => y0 = s) (p_k_Clone s hp)).mono (by rintro r ⟨_, rfl, rfl⟩; rfl)

set_option maxRecDepth 100000 in
set_option maxHeartbeats 4000000 in
theorem w_spec_l01Same (a : List Int) (b : List Int) (Q : Bool → Prop) (h : wp_spec_l01Same a b Q) : AF Try.prog 61 [.lst (ints a), .lst (ints b)] (fun R_ => ∃ y0, Q y0 ∧ R_ = cb y0) := by
  refine AF.ofWQ (af_enter (n := 26) Try.func61 rfl (by rfl) rfl (Nat.le_of_ble_eq_true rfl) ?_)
  unfold wp_spec_l01Same at h
  refine aw_seq ?_
  refine aw_gh (gh_to (n := 26) (σ' := []) (env' := [(0, .c (.lst (ints a))), (1, .c (.lst (ints b)))]) rfl rfl ⟨rfl, rfl, trivial⟩) ?_
  refine aw_region ?_
  refine run_s (ss_assign rfl) rfl ?_
  refine run_nil ?_
  refine aw_seq ?_
  refine aw_seq ?_
  refine aw_region ?_
  refine run_s (ss_move rfl) rfl ?_
  refine run_s (ss_lenL (f := ci) rfl) rfl ?_
  refine run_s (ss_move rfl) rfl ?_
  refine run_s (ss_lenL (f := ci) rfl) rfl ?_
  refine run_s (ss_neq rfl rfl) rfl ?_
  refine run_nil ?_
  refine aw_cond rfl (fun q1 => ?_) (fun q1 => ?_)
  ·replace h := h.1 (of_decide_eq_false (bnot_t q1))
   refine aw_seq ?_
   refine aw_gh (gh_to (n := 26) (σ' := []) (env' := [(4, .c (cb false))]) rfl rfl ⟨rfl, trivial⟩) ?_
   refine aw_region ?_
   refine run_s (ss_assign rfl) rfl ?_
   refine run_nil ?_
   refine aw_ret ?_
   exact retAF_mk (retv1 rfl (rv_tmp rfl)) rfl rfl ⟨_, (cle_refl _), _, h, rfl⟩
  ·replace h := h.2 (of_decide_eq_true (bnot_f q1))
   refine aw_skip ?_
   refine aw_seq ?_
   refine aw_seq ?_
   refine aw_gh (gh_to (n := 26) (σ' := []) (env' := [(0, .c (.lst (ints a))), (1, .c (.lst (ints b)))]) rfl rfl ⟨rfl, rfl, trivial⟩) ?_
   refine aw_region ?_
   refine run_s (ss_assign rfl) rfl ?_
   refine run_nil ?_
   refine aw_block ?_
   obtain ⟨H1, m1, q2, h⟩ := h
   refine aw_loop1 (fun (v5_1 : Int) => ⟨[], [(0, .c (.lst (ints a))), (1, .c (.lst (ints b))), (5, .c (ci v5_1))], 26⟩) H1 m1 ⟨0, ghe_to (n := 26) rfl rfl ⟨rfl, rfl, rfl, trivial⟩, q2⟩ ?_
   rintro v5_1 q2
   replace h := h v5_1 q2
   refine aw_seq ?_
   refine aw_seq ?_
   refine aw_region ?_
   refine run_s (ss_move rfl) rfl ?_
   refine run_s (ss_move rfl) rfl ?_
   refine run_s (ss_lenL (f := ci) rfl) rfl ?_
   refine run_s (ss_lss rfl rfl) rfl ?_
   refine run_nil ?_
   refine aw_cond rfl (fun q3 => ?_) (fun q3 => ?_)
   ·replace h := h.1 (of_decide_eq_true q3)
    refine aw_skip ?_
    refine aw_seq ?_
    refine aw_block ?_
    refine aw_seq ?_
    refine aw_gh (gh_to (n := 26) (σ' := []) (env' := [(0, .c (.lst (ints a))), (1, .c (.lst (ints b))), (5, .c (ci v5_1))]) rfl rfl ⟨rfl, rfl, rfl, trivial⟩) ?_
    refine aw_regionD (kd := kdl [0, 0, 0, 1, 0, 0, 0, 1, 0]) (ord := [0, 1, 2, 4, 5, 6, 3, 7, 8]) [] mixed (by kernel_rfl) ?_
    refine rd_s rfl rfl trivial (ss_move rfl) rfl ?_
    refine rd_s rfl rfl trivial (ss_move rfl) rfl ?_
    obtain ⟨q4, h⟩ := h
    refine rd_s rfl rfl trivial (ss_idxL rfl rfl q4) rfl ?_
    refine rd_s rfl rfl trivial (ss_move rfl) rfl ?_
    refine rd_s rfl rfl trivial (ss_move rfl) rfl ?_
    obtain ⟨q5, h⟩ := h
    refine rd_s rfl rfl trivial (ss_idxL rfl rfl q5) rfl ?_
    refine rd_l rfl rfl trivial (ss_loadL (f := ci) rfl q4) rfl ?_
    refine rd_l rfl rfl trivial (ss_loadL (f := ci) rfl q5) rfl ?_
    refine rd_s rfl rfl trivial (ss_neq rfl rfl) rfl ?_
    refine rd_nil ?_
    refine aw_cond rfl (fun q6 => ?_) (fun q6 => ?_)
    ·replace h := h.1 (of_decide_eq_false (bnot_t q6))
     refine aw_seq ?_
     refine aw_gh (gh_to (n := 26) (σ' := []) (env' := []) rfl rfl trivial) ?_
     refine aw_region ?_
     refine run_s (ss_assign rfl) rfl ?_
     refine run_nil ?_
     refine aw_ret ?_
     exact retAF_mk (retv1 rfl (rv_tmp rfl)) rfl rfl ⟨_, (cle_refl _), _, h, rfl⟩
    ·replace h := h.2 (of_decide_eq_true (bnot_f q6))
     refine aw_skip ?_
     refine aw_gh (gh_to (n := 26) (σ' := []) (env' := [(0, .c (.lst (ints a))), (1, .c (.lst (ints b))), (5, .c (ci v5_1))]) rfl rfl ⟨rfl, rfl, rfl, trivial⟩) ?_
     refine aw_region ?_
     refine run_s (ss_move rfl) rfl ?_
     obtain ⟨q7, h⟩ := h
     refine run_s (ss_add rfl rfl q7) rfl ?_
     refine run_s (ss_assign rfl) rfl ?_
     refine run_nil ?_
     exact ⟨v5_1 + 1, ghe_to (n := 26) rfl rfl ⟨rfl, rfl, rfl, trivial⟩, h.1, h.2⟩
   ·replace h := h.2 (of_decide_eq_false q3)
    refine aw_exit ?_
    refine aw_seq ?_
    refine aw_gh (gh_to (n := 26) (σ' := []) (env' := []) rfl rfl trivial) ?_
    refine aw_region ?_
    refine run_s (ss_assign rfl) rfl ?_
    refine run_nil ?_
    refine aw_ret ?_
    exact retAF_mk (retv1 rfl (rv_tmp rfl)) rfl rfl ⟨_, (cle_refl _), _, h, rfl⟩

theorem c_spec_l01Same (a : List Int) (b : List Int) (hp : small a ∧ small b) : AF Try.prog 61 [.lst (ints a), .lst (ints b)] (fun R_ => R_ = cb (decide (a = b))) :=
  (w_spec_l01Same a b (fun y0 => y0 = decide (a = b)) (p_spec_l01Same a b hp)).mono (by rintro r ⟨_, rfl, rfl⟩; rfl)

set_option maxRecDepth 100000 in
set_option maxHeartbeats 4000000 in
theorem w_impl_identity (n : Int) (Q : List Int → Prop) (h : wp_impl_identity n Q) : AF Try.prog 78 [ci n] (fun R_ => ∃ y0, Q y0 ∧ R_ = .own (ints y0)) := by
  refine AF.ofWQ (af_enter (n := 18) Try.func78 rfl (by rfl) rfl (Nat.le_of_ble_eq_true rfl) ?_)
  unfold wp_impl_identity at h
  refine aw_seq ?_
  refine aw_gh (gh_to (n := 18) (σ' := []) (env' := [(0, .c (ci n))]) rfl rfl ⟨rfl, trivial⟩) ?_
  refine aw_region ?_
  refine run_s (ss_assign rfl) rfl ?_
  refine run_nil ?_
  refine aw_seq ?_
  refine aw_region ?_
  refine run_s (ss_move rfl) rfl ?_
  obtain ⟨q1, h⟩ := h
  refine run_w (ws_mk (id := 6) ci (0 : Int) rfl rfl rfl q1 (Nat.le_of_ble_eq_true rfl) rfl ⟨rfl, ?_⟩)
  refine run_s (ss_assign rfl) rfl ?_
  refine run_nil ?_
  refine aw_seq ?_
  refine aw_seq ?_
  refine aw_region ?_
  refine run_s (ss_move rfl) rfl ?_
  refine run_s (ss_lenR (f := ci) rfl rfl) rfl ?_
  refine run_s (ss_move rfl) rfl ?_
  refine run_nil ?_
  refine aw_block ?_
  obtain ⟨H1, m1, q2, h⟩ := h
  refine aw_loop2 (fun (v9_1 : Int) (o6_1 : List Int) => ⟨[(6, ⟨ints o6_1, []⟩)], [(3, .ref 6), (8, .c (ci ((List.replicate n.toNat (0 : Int)).length : Int))), (9, .c (ci v9_1))], 18⟩) H1 m1 ⟨0, List.replicate n.toNat (0 : Int), ghe_to (n := 18) rfl rfl ⟨rfl, rfl, rfl, trivial⟩, q2⟩ ?_
  rintro v9_1 o6_1 q2
  replace h := h v9_1 o6_1 q2
  refine aw_seq ?_
  refine aw_region ?_
  refine run_s (ss_lss rfl rfl) rfl ?_
  refine run_nil ?_
  refine aw_seq ?_
  refine aw_cond rfl (fun q3 => ?_) (fun q3 => ?_)
  ·replace h := h.1 (of_decide_eq_true q3)
   refine aw_skip ?_
   refine aw_seq ?_
   refine aw_block ?_
   refine aw_seq ?_
   refine aw_region ?_
   refine run_s (ss_move rfl) rfl ?_
   refine run_s (ss_assign rfl) rfl ?_
   refine run_nil ?_
   refine aw_region ?_
   refine run_s (ss_move rfl) rfl ?_
   refine run_s (ss_move rfl) rfl ?_
   refine run_s (ss_move rfl) rfl ?_
   obtain ⟨q4, h⟩ := h
   refine run_s (ss_idxR (f := ci) rfl rfl rfl q4) rfl ?_
   refine run_w (ws_storeE rfl rfl (map_lt q4) rfl rfl (map_se (f := ci)) rfl ⟨rfl, ?_⟩)
   refine run_nil ?_
   refine aw_gh (gh_to (n := 18) (σ' := [(6, ⟨ints (se o6_1 v9_1 v9_1), []⟩)]) (env' := [(3, .ref 6), (8, .c (ci ((List.replicate n.toNat (0 : Int)).length : Int))), (9, .c (ci v9_1))]) rfl rfl ⟨rfl, rfl, rfl, trivial⟩) ?_
   refine aw_region ?_
   obtain ⟨q5, h⟩ := h
   refine run_s (ss_add rfl rfl q5) rfl ?_
   refine run_s (ss_move rfl) rfl ?_
   refine run_nil ?_
   exact ⟨v9_1 + 1, se o6_1 v9_1 v9_1, ghe_to (n := 18) rfl rfl ⟨rfl, rfl, rfl, trivial⟩, h.1, h.2⟩
  ·replace h := h.2 (of_decide_eq_false q3)
   refine aw_exit ?_
   refine aw_seq ?_
   refine aw_region ?_
   refine run_s (ss_move rfl) rfl ?_
   refine run_s (ss_assign rfl) rfl ?_
   refine run_nil ?_
   refine aw_ret ?_
   exact retAF_mk (retv1 rfl (rv_tmp rfl)) rfl rfl ⟨_, (cle_refl _), _, h, rfl⟩

theorem c_impl_identity (n : Int) (hp : 0 ≤ n ∧ n ≤ 1000000) : AF Try.prog 78 [ci n] (fun R_ => R_ = .own (ints (unitI n))) :=
  (w_impl_identity n (fun y0 => y0 = unitI n) (p_impl_identity n hp)).mono (by rintro r ⟨_, rfl, rfl⟩; rfl)

set_option maxRecDepth 100000 in
set_option maxHeartbeats 4000000 in
theorem w_impl_inverse (p : List Int) (Q : List Int → Prop) (h : wp_impl_inverse p Q) : AF Try.prog 112 [.lst (ints p)] (fun R_ => ∃ y0, Q y0 ∧ R_ = .own (ints y0)) := by
  refine AF.ofWQ (af_enter (n := 22) Try.func112 rfl (by rfl) rfl (Nat.le_of_ble_eq_true rfl) ?_)
  unfold wp_impl_inverse at h
  refine aw_seq ?_
  refine aw_gh (gh_to (n := 22) (σ' := []) (env' := [(0, .c (.lst (ints p)))]) rfl rfl ⟨rfl, trivial⟩) ?_
  refine aw_region ?_
  refine run_s (ss_assign rfl) rfl ?_
  refine run_nil ?_
  refine aw_seq ?_
  refine aw_region ?_
  refine run_s (ss_move rfl) rfl ?_
  refine run_s (ss_lenL (f := ci) rfl) rfl ?_
  obtain ⟨q1, h⟩ := h
  refine run_w (ws_mk (id := 8) ci (0 : Int) rfl rfl rfl q1 (Nat.le_of_ble_eq_true rfl) rfl ⟨rfl, ?_⟩)
  refine run_s (ss_assign rfl) rfl ?_
  refine run_nil ?_
  refine aw_seq ?_
  refine aw_seq ?_
  refine aw_region ?_
  refine run_s (ss_move rfl) rfl ?_
  refine run_s (ss_lenL (f := ci) rfl) rfl ?_
  refine run_s (ss_move rfl) rfl ?_
  refine run_nil ?_
  refine aw_block ?_
  obtain ⟨H1, m1, q2, h⟩ := h
  refine aw_loop2 (fun (v11_1 : Int) (o8_1 : List Int) => ⟨[(8, ⟨ints o8_1, []⟩)], [(3, .ref 8), (9, .c (.lst (ints p))), (10, .c (ci (p.length : Int))), (11, .c (ci v11_1))], 22⟩) H1 m1 ⟨0, List.replicate (p.length : Int).toNat (0 : Int), ghe_to (n := 22) rfl rfl ⟨rfl, rfl, rfl, rfl, trivial⟩, q2⟩ ?_
  rintro v11_1 o8_1 q2
  replace h := h v11_1 o8_1 q2
  refine aw_seq ?_
  refine aw_region ?_
  refine run_s (ss_lss rfl rfl) rfl ?_
  refine run_nil ?_
  refine aw_seq ?_
  refine aw_cond rfl (fun q3 => ?_) (fun q3 => ?_)
  ·replace h := h.1 (of_decide_eq_true q3)
   refine aw_skip ?_
   refine aw_seq ?_
   refine aw_block ?_
   refine aw_seq ?_
   refine aw_region ?_
   refine run_s (ss_move rfl) rfl ?_
   obtain ⟨q4, h⟩ := h
   refine run_s (ss_idxL rfl rfl q4) rfl ?_
   refine run_s (ss_loadL (f := ci) rfl q4) rfl ?_
   refine run_s (ss_assign rfl) rfl ?_
   refine run_s (ss_assign rfl) rfl ?_
   refine run_nil ?_
   refine aw_region ?_
   refine run_s (ss_move rfl) rfl ?_
   refine run_s (ss_move rfl) rfl ?_
   refine run_s (ss_move rfl) rfl ?_
   obtain ⟨q5, h⟩ := h
   refine run_s (ss_idxR (f := ci) rfl rfl rfl q5) rfl ?_
   refine run_w (ws_storeE rfl rfl (map_lt q5) rfl rfl (map_se (f := ci)) rfl ⟨rfl, ?_⟩)
   refine run_nil ?_
   refine aw_gh (gh_to (n := 22) (σ' := [(8, ⟨ints (se o8_1 (el p v11_1) v11_1), []⟩)]) (env' := [(3, .ref 8), (9, .c (.lst (ints p))), (10, .c (ci (p.length : Int))), (11, .c (ci v11_1))]) rfl rfl ⟨rfl, rfl, rfl, rfl, trivial⟩) ?_
   refine aw_region ?_
   obtain ⟨q6, h⟩ := h
   refine run_s (ss_add rfl rfl q6) rfl ?_
   refine run_s (ss_move rfl) rfl ?_
   refine run_nil ?_
   exact ⟨v11_1 + 1, se o8_1 (el p v11_1) v11_1, ghe_to (n := 22) rfl rfl ⟨rfl, rfl, rfl, rfl, trivial⟩, h.1, h.2⟩
  ·replace h := h.2 (of_decide_eq_false q3)
   refine aw_exit ?_
   refine aw_seq ?_
   refine aw_region ?_
   refine run_s (ss_move rfl) rfl ?_
   refine run_s (ss_assign rfl) rfl ?_
   refine run_nil ?_
   refine aw_ret ?_
   exact retAF_mk (retv1 rfl (rv_tmp rfl)) rfl rfl ⟨_, (cle_refl _), _, h, rfl⟩

theorem c_impl_inverse (p : List Int) (hp : small p ∧ isPerm p = true) : AF Try.prog 112 [.lst (ints p)] (fun R_ => R_ = .own (ints (backI p))) :=
  (w_impl_inverse p (fun y0 => y0 = backI p) (p_impl_inverse p hp)).mono (by rintro r ⟨_, rfl, rfl⟩; rfl)

set_option maxRecDepth 100000 in
set_option maxHeartbeats 4000000 in
theorem w_impl_permutationRows_1 (row : List Int) (Q : Bool → Prop) (h : wp_impl_permutationRows_1 row Q) : AF Try.prog 124 [.lst (ints row)] (fun R_ => ∃ y0, Q y0 ∧ R_ = cb y0) := by
  refine AF.ofWQ (af_enter (n := 6) Try.func124 rfl (by rfl) rfl (Nat.le_of_ble_eq_true rfl) ?_)
  unfold wp_impl_permutationRows_1 at h
  refine aw_seq ?_
  refine aw_gh (gh_to (n := 6) (σ' := []) (env' := [(0, .c (.lst (ints row)))]) rfl rfl ⟨rfl, trivial⟩) ?_
  refine aw_region ?_
  refine run_s (ss_assign rfl) rfl ?_
  refine run_nil ?_
  refine aw_seq ?_
  refine aw_region ?_
  refine run_s (ss_move rfl) rfl ?_
  obtain ⟨q1, h⟩ := h
  refine run_w (ws_call (xs := [.tmp 3]) (ids := []) rfl rfl rfl rfl (c_impl_isPermuted row q1) rfl ?_ )
  rintro _ rfl
  refine ⟨rfl, ?_⟩
  refine run_s (ss_not rfl) rfl ?_
  refine run_s (ss_assign rfl) rfl ?_
  refine run_nil ?_
  refine aw_ret ?_
  exact retAF_mk (retv1 rfl (rv_tmp rfl)) rfl rfl ⟨_, (cle_refl _), _, h, rfl⟩

theorem c_impl_permutationRows_1 (row : List Int) (hp : small row) : AF Try.prog 124 [.lst (ints row)] (fun R_ => R_ = cb (!isPerm row)) :=
  (w_impl_permutationRows_1 row (fun y0 => y0 = !isPerm row) (p_impl_permutationRows_1 row hp)).mono (by rintro r ⟨_, rfl, rfl⟩; rfl)

set_option maxRecDepth 100000 in
set_option maxHeartbeats 4000000 in
theorem w_impl_permutationRows (t : List (List Int)) (Q : Bool → Prop) (h : wp_impl_permutationRows t Q) : AF Try.prog 75 [.lst (rows t)] (fun R_ => ∃ y0, Q y0 ∧ R_ = cb y0) := by
  refine AF.ofWQ (af_enter (n := 6) Try.func75 rfl (by rfl) rfl (Nat.le_of_ble_eq_true rfl) ?_)
  unfold wp_impl_permutationRows at h
  refine aw_seq ?_
  refine aw_gh (gh_to (n := 6) (σ' := []) (env' := [(0, .c (.lst (rows t)))]) rfl rfl ⟨rfl, trivial⟩) ?_
  refine aw_region ?_
  refine run_s (ss_assign rfl) rfl ?_
  refine run_nil ?_
  refine aw_seq ?_
  refine aw_region ?_
  refine run_s (ss_move rfl) rfl ?_
  obtain ⟨q1, h⟩ := h
  refine run_w (ws_call (xs := [.tmp 3, .func 124]) (ids := []) rfl rfl rfl rfl (c_k_ContainsFunc_rows t 124 [] (fun z0 => !isPerm z0) (fun z0 => small z0) (fun z0 hD => c_impl_permutationRows_1 z0 hD) q1) rfl ?_ )
  rintro _ rfl
  refine ⟨rfl, ?_⟩
  refine run_s (ss_not rfl) rfl ?_
  refine run_s (ss_assign rfl) rfl ?_
  refine run_nil ?_
  refine aw_ret ?_
  exact retAF_mk (retv1 rfl (rv_tmp rfl)) rfl rfl ⟨_, (cle_refl _), _, h, rfl⟩

theorem c_impl_permutationRows (t : List (List Int)) (hp : small2 t) : AF Try.prog 75 [.lst (rows t)] (fun R_ => R_ = cb (t.all isPerm)) :=
  (w_impl_permutationRows t (fun y0 => y0 = t.all isPerm) (p_impl_permutationRows t hp)).mono (by rintro r ⟨_, rfl, rfl⟩; rfl)

set_option maxRecDepth 100000 in
set_option maxHeartbeats 4000000 in
theorem w_impl_rackFault (t : List (List Int)) (Q : List Int → Prop) (h : wp_impl_rackFault t Q) : AF Try.prog 76 [.lst (rows t)] (fun R_ => ∃ y0, Q y0 ∧ R_ = onil y0) := by
  refine AF.ofWQ (af_enter (n := 61) Try.func76 rfl (by rfl) rfl (Nat.le_of_ble_eq_true rfl) ?_)
  unfold wp_impl_rackFault at h
  refine aw_seq ?_
  refine aw_gh (gh_to (n := 61) (σ' := []) (env' := [(0, .c (.lst (rows t)))]) rfl rfl ⟨rfl, trivial⟩) ?_
  refine aw_region ?_
  refine run_s (ss_assign rfl) rfl ?_
  refine run_nil ?_
  refine aw_seq ?_
  refine aw_region ?_
  refine run_s (ss_move rfl) rfl ?_
  refine run_s (ss_lenL (f := (fun r => C.lst (ints r))) rfl) rfl ?_
  refine run_s (ss_assign rfl) rfl ?_
  refine run_nil ?_
  refine aw_seq ?_
  refine aw_seq ?_
  refine aw_region ?_
  refine run_s (ss_move rfl) rfl ?_
  refine run_s (ss_move rfl) rfl ?_
  refine run_nil ?_
  refine aw_block ?_
  obtain ⟨H1, m1, q1, h⟩ := h
  refine aw_loop1 (fun (v10_1 : Int) => ⟨[], [(0, .c (.lst (rows t))), (3, .c (ci (t.length : Int))), (9, .c (ci (t.length : Int))), (10, .c (ci v10_1))], 61⟩) H1 m1 ⟨0, ghe_to (n := 61) rfl rfl ⟨rfl, rfl, rfl, rfl, trivial⟩, q1⟩ ?_
  rintro v10_1 q1
  replace h := h v10_1 q1
  refine aw_seq ?_
  refine aw_region ?_
  refine run_s (ss_lss rfl rfl) rfl ?_
  refine run_nil ?_
  refine aw_seq ?_
  refine aw_cond rfl (fun q2 => ?_) (fun q2 => ?_)
  ·replace h := h.1 (of_decide_eq_true q2)
   refine aw_skip ?_
   refine aw_seq ?_
   refine aw_block ?_
   refine aw_seq ?_
   refine aw_region ?_
   refine run_s (ss_move rfl) rfl ?_
   refine run_s (ss_assign rfl) rfl ?_
   refine run_nil ?_
   refine aw_seq ?_
   refine aw_region ?_
   refine run_s (ss_move rfl) rfl ?_
   refine run_s (ss_move rfl) rfl ?_
   refine run_nil ?_
   refine aw_block ?_
   obtain ⟨H2, m2, q3, h⟩ := h
   refine aw_loop1 (fun (v14_2 : Int) => ⟨[], [(0, .c (.lst (rows t))), (3, .c (ci (t.length : Int))), (4, .c (ci v10_1)), (9, .c (ci (t.length : Int))), (10, .c (ci v10_1)), (13, .c (ci (t.length : Int))), (14, .c (ci v14_2))], 61⟩) H2 m2 ⟨0, ghe_to (n := 61) rfl rfl ⟨rfl, rfl, rfl, rfl, rfl, rfl, rfl, trivial⟩, q3⟩ ?_
   rintro v14_2 q3
   replace h := h v14_2 q3
   refine aw_seq ?_
   refine aw_region ?_
   refine run_s (ss_lss rfl rfl) rfl ?_
   refine run_nil ?_
   refine aw_seq ?_
   refine aw_cond rfl (fun q4 => ?_) (fun q4 => ?_)
   ·replace h := h.1 (of_decide_eq_true q4)
    refine aw_skip ?_
    refine aw_seq ?_
    refine aw_block ?_
    refine aw_seq ?_
    refine aw_region ?_
    refine run_s (ss_move rfl) rfl ?_
    refine run_s (ss_assign rfl) rfl ?_
    refine run_nil ?_
    refine aw_seq ?_
    refine aw_region ?_
    refine run_s (ss_move rfl) rfl ?_
    refine run_s (ss_move rfl) rfl ?_
    refine run_nil ?_
    refine aw_block ?_
    obtain ⟨H3, m3, q5, h⟩ := h
    refine aw_loop1 (fun (v18_3 : Int) => ⟨[], [(0, .c (.lst (rows t))), (3, .c (ci (t.length : Int))), (4, .c (ci v10_1)), (5, .c (ci v14_2)), (9, .c (ci (t.length : Int))), (10, .c (ci v10_1)), (13, .c (ci (t.length : Int))), (14, .c (ci v14_2)), (17, .c (ci (t.length : Int))), (18, .c (ci v18_3))], 61⟩) H3 m3 ⟨0, ghe_to (n := 61) rfl rfl ⟨rfl, rfl, rfl, rfl, rfl, rfl, rfl, rfl, rfl, rfl, trivial⟩, q5⟩ ?_
    rintro v18_3 q5
    replace h := h v18_3 q5
    refine aw_seq ?_
    refine aw_region ?_
    refine run_s (ss_lss rfl rfl) rfl ?_
    refine run_nil ?_
    refine aw_seq ?_
    refine aw_cond rfl (fun q6 => ?_) (fun q6 => ?_)
    ·replace h := h.1 (of_decide_eq_true q6)
     refine aw_skip ?_
     refine aw_seq ?_
     refine aw_block ?_
     refine aw_seq ?_
     refine aw_region ?_
     refine run_s (ss_move rfl) rfl ?_
     refine run_s (ss_assign rfl) rfl ?_
     refine run_nil ?_
     refine aw_seq ?_
     refine aw_gh (gh_to (n := 61) (σ' := []) (env' := [(0, .c (.lst (rows t))), (3, .c (ci (t.length : Int))), (4, .c (ci v10_1)), (5, .c (ci v14_2)), (6, .c (ci v18_3)), (9, .c (ci (t.length : Int))), (10, .c (ci v10_1)), (13, .c (ci (t.length : Int))), (14, .c (ci v14_2)), (17, .c (ci (t.length : Int))), (18, .c (ci v18_3))]) rfl rfl ⟨rfl, rfl, rfl, rfl, rfl, rfl, rfl, rfl, rfl, rfl, rfl, trivial⟩) ?_
     refine aw_regionD (kd := kdl [0, 0, 0, 1, 0, 0, 0, 1, 0, 0, 1, 0, 1, 0, 0, 0, 0, 1, 0, 0, 1, 0, 1, 0, 0, 0, 1, 0, 0, 1, 0, 1, 0]) (ord := [0, 1, 2, 4, 5, 6, 8, 13, 14, 15, 16, 18, 23, 24, 25, 27, 3, 7, 9, 10, 11, 12, 17, 19, 20, 21, 22, 26, 28, 29, 30, 31, 32]) [] mixed (by kernel_rfl) ?_
     refine rd_s rfl rfl trivial (ss_move rfl) rfl ?_
     refine rd_s rfl rfl trivial (ss_move rfl) rfl ?_
     obtain ⟨q7, h⟩ := h
     refine rd_s rfl rfl trivial (ss_idxL rfl rfl q7) rfl ?_
     refine rd_s rfl rfl trivial (ss_move rfl) rfl ?_
     refine rd_s rfl rfl trivial (ss_move rfl) rfl ?_
     obtain ⟨q8, h⟩ := h
     refine rd_s rfl rfl trivial (ss_idxL rfl rfl q8) rfl ?_
     refine rd_s rfl rfl trivial (ss_move rfl) rfl ?_
     refine rd_s rfl rfl trivial (ss_move rfl) rfl ?_
     refine rd_s rfl rfl trivial (ss_move rfl) rfl ?_
     refine rd_s rfl rfl trivial (ss_move rfl) rfl ?_
     obtain ⟨q9, h⟩ := h
     refine rd_s rfl rfl trivial (ss_idxL rfl rfl q9) rfl ?_
     refine rd_s rfl rfl trivial (ss_move rfl) rfl ?_
     refine rd_s rfl rfl trivial (ss_move rfl) rfl ?_
     refine rd_s rfl rfl trivial (ss_move rfl) rfl ?_
     obtain ⟨q10, h⟩ := h
     refine rd_s rfl rfl trivial (ss_idxL rfl rfl q10) rfl ?_
     refine rd_s rfl rfl trivial (ss_move rfl) rfl ?_
     refine rd_l rfl rfl trivial (ss_loadL (f := (fun r => C.lst (ints r))) rfl q7) rfl ?_
     refine rd_l rfl rfl trivial (ss_loadL (f := (fun r => C.lst (ints r))) rfl q8) rfl ?_
     obtain ⟨q11, h⟩ := h
     refine rd_s rfl rfl trivial (ss_idxL rfl rfl q11) rfl ?_
     refine rd_l rfl rfl trivial (ss_loadL (f := ci) rfl q11) rfl ?_
     obtain ⟨q12, h⟩ := h
     refine rd_s rfl rfl trivial (ss_idxL rfl rfl q12) rfl ?_
     refine rd_l rfl rfl trivial (ss_loadL (f := ci) rfl q12) rfl ?_
     refine rd_l rfl rfl trivial (ss_loadL (f := (fun r => C.lst (ints r))) rfl q9) rfl ?_
     obtain ⟨q13, h⟩ := h
     refine rd_s rfl rfl trivial (ss_idxL rfl rfl q13) rfl ?_
     refine rd_l rfl rfl trivial (ss_loadL (f := ci) rfl q13) rfl ?_
     obtain ⟨q14, h⟩ := h
     refine rd_s rfl rfl trivial (ss_idxL rfl rfl q14) rfl ?_
     refine rd_l rfl rfl trivial (ss_loadL (f := (fun r => C.lst (ints r))) rfl q14) rfl ?_
     refine rd_l rfl rfl trivial (ss_loadL (f := (fun r => C.lst (ints r))) rfl q10) rfl ?_
     obtain ⟨q15, h⟩ := h
     refine rd_s rfl rfl trivial (ss_idxL rfl rfl q15) rfl ?_
     refine rd_l rfl rfl trivial (ss_loadL (f := ci) rfl q15) rfl ?_
     obtain ⟨q16, h⟩ := h
     refine rd_s rfl rfl trivial (ss_idxL rfl rfl q16) rfl ?_
     refine rd_l rfl rfl trivial (ss_loadL (f := ci) rfl q16) rfl ?_
     refine rd_s rfl rfl trivial (ss_neq rfl rfl) rfl ?_
     refine rd_nil ?_
     refine aw_cond rfl (fun q17 => ?_) (fun q17 => ?_)
     ·replace h := h.1 (of_decide_eq_false (bnot_t q17))
      refine aw_seq ?_
      refine aw_gh (gh_to (n := 61) (σ' := []) (env' := [(4, .c (ci v10_1)), (5, .c (ci v14_2)), (6, .c (ci v18_3))]) rfl rfl ⟨rfl, rfl, rfl, trivial⟩) ?_
      refine aw_region ?_
      refine run_s (ss_move rfl) rfl ?_
      refine run_s (ss_move rfl) rfl ?_
      refine run_s (ss_move rfl) rfl ?_
      refine run_w (ws_buildSlice (id := 57) (ps := [(0, .tmp 54), (1, .tmp 55), (2, .tmp 56)]) rfl rfl (Nat.le_of_ble_eq_true rfl) rfl ⟨rfl, ?_⟩)
      refine run_s (ss_assign rfl) rfl ?_
      refine run_nil ?_
      refine aw_ret ?_
      exact retAF_mk (retv1 rfl (rv_tmp rfl)) rfl rfl ⟨_, (cle_refl _), _, h, rfl⟩
     ·replace h := h.2 (of_decide_eq_true (bnot_f q17))
      refine aw_skip ?_
      refine aw_gh (gh_to (n := 61) (σ' := []) (env' := [(0, .c (.lst (rows t))), (3, .c (ci (t.length : Int))), (4, .c (ci v10_1)), (5, .c (ci v14_2)), (9, .c (ci (t.length : Int))), (10, .c (ci v10_1)), (13, .c (ci (t.length : Int))), (14, .c (ci v14_2)), (17, .c (ci (t.length : Int))), (18, .c (ci v18_3))]) rfl rfl ⟨rfl, rfl, rfl, rfl, rfl, rfl, rfl, rfl, rfl, rfl, trivial⟩) ?_
      refine aw_region ?_
      obtain ⟨q18, h⟩ := h
      refine run_s (ss_add rfl rfl q18) rfl ?_
      refine run_s (ss_move rfl) rfl ?_
      refine run_nil ?_
      exact ⟨v18_3 + 1, ghe_to (n := 61) rfl rfl ⟨rfl, rfl, rfl, rfl, rfl, rfl, rfl, rfl, rfl, rfl, trivial⟩, h.1, h.2⟩
    ·replace h := h.2 (of_decide_eq_false q6)
     refine aw_exit ?_
     refine aw_gh (gh_to (n := 61) (σ' := []) (env' := [(0, .c (.lst (rows t))), (3, .c (ci (t.length : Int))), (4, .c (ci v10_1)), (9, .c (ci (t.length : Int))), (10, .c (ci v10_1)), (13, .c (ci (t.length : Int))), (14, .c (ci v14_2))]) rfl rfl ⟨rfl, rfl, rfl, rfl, rfl, rfl, rfl, trivial⟩) ?_
     refine aw_region ?_
     obtain ⟨q19, h⟩ := h
     refine run_s (ss_add rfl rfl q19) rfl ?_
     refine run_s (ss_move rfl) rfl ?_
     refine run_nil ?_
     exact ⟨v14_2 + 1, ghe_to (n := 61) rfl rfl ⟨rfl, rfl, rfl, rfl, rfl, rfl, rfl, trivial⟩, h.1, h.2⟩
   ·replace h := h.2 (of_decide_eq_false q4)
    refine aw_exit ?_
    refine aw_gh (gh_to (n := 61) (σ' := []) (env' := [(0, .c (.lst (rows t))), (3, .c (ci (t.length : Int))), (9, .c (ci (t.length : Int))), (10, .c (ci v10_1))]) rfl rfl ⟨rfl, rfl, rfl, rfl, trivial⟩) ?_
    refine aw_region ?_
    obtain ⟨q20, h⟩ := h
    refine run_s (ss_add rfl rfl q20) rfl ?_
    refine run_s (ss_move rfl) rfl ?_
    refine run_nil ?_
    exact ⟨v10_1 + 1, ghe_to (n := 61) rfl rfl ⟨rfl, rfl, rfl, rfl, trivial⟩, h.1, h.2⟩
  ·replace h := h.2 (of_decide_eq_false q2)
   refine aw_exit ?_
   refine aw_seq ?_
   refine aw_gh (gh_to (n := 61) (σ' := []) (env' := []) rfl rfl trivial) ?_
   refine aw_region ?_
   refine run_s (ss_assign rfl) rfl ?_
   refine run_nil ?_
   refine aw_ret ?_
   exact retAF_mk (retv1 rfl (rv_tmp rfl)) rfl rfl ⟨_, (cle_refl _), _, h, rfl⟩

theorem c_impl_rackFault (t : List (List Int)) (hp : isTab t = true) : AF Try.prog 76 [.lst (rows t)] (fun R_ => R_ = onil (rackF t)) :=
  (w_impl_rackFault t (fun y0 => y0 = rackF t) (p_impl_rackFault t hp)).mono (by rintro r ⟨_, rfl, rfl⟩; rfl)

set_option maxRecDepth 100000 in
set_option maxHeartbeats 4000000 in
theorem w_spec_l03Fault (t : List (List Int)) (Q : List Int → Prop) (h : wp_spec_l03Fault t Q) : AF Try.prog 72 [.lst (rows t)] (fun R_ => ∃ y0, Q y0 ∧ R_ = .own (ints y0)) := by
  refine AF.ofWQ (af_enter (n := 61) Try.func72 rfl (by rfl) rfl (Nat.le_of_ble_eq_true rfl) ?_)
  unfold wp_spec_l03Fault at h
  refine aw_seq ?_
  refine aw_gh (gh_to (n := 61) (σ' := []) (env' := [(0, .c (.lst (rows t)))]) rfl rfl ⟨rfl, trivial⟩) ?_
  refine aw_region ?_
  refine run_s (ss_assign rfl) rfl ?_
  refine run_nil ?_
  refine aw_seq ?_
  refine aw_region ?_
  refine run_s (ss_move rfl) rfl ?_
  refine run_s (ss_lenL (f := (fun r => C.lst (ints r))) rfl) rfl ?_
  refine run_s (ss_assign rfl) rfl ?_
  refine run_nil ?_
  refine aw_seq ?_
  refine aw_seq ?_
  refine aw_region ?_
  refine run_s (ss_assign rfl) rfl ?_
  refine run_nil ?_
  refine aw_block ?_
  obtain ⟨H1, m1, q1, h⟩ := h
  refine aw_loop1 (fun (v4_1 : Int) => ⟨[], [(0, .c (.lst (rows t))), (3, .c (ci (t.length : Int))), (4, .c (ci v4_1))], 61⟩) H1 m1 ⟨0, ghe_to (n := 61) rfl rfl ⟨rfl, rfl, rfl, trivial⟩, q1⟩ ?_
  rintro v4_1 q1
  replace h := h v4_1 q1
  refine aw_seq ?_
  refine aw_seq ?_
  refine aw_region ?_
  refine run_s (ss_move rfl) rfl ?_
  refine run_s (ss_move rfl) rfl ?_
  refine run_s (ss_lss rfl rfl) rfl ?_
  refine run_nil ?_
  refine aw_cond rfl (fun q2 => ?_) (fun q2 => ?_)
  ·replace h := h.1 (of_decide_eq_true q2)
   refine aw_skip ?_
   refine aw_seq ?_
   refine aw_block ?_
   refine aw_seq ?_
   refine aw_region ?_
   refine run_s (ss_assign rfl) rfl ?_
   refine run_nil ?_
   refine aw_block ?_
   obtain ⟨H2, m2, q3, h⟩ := h
   refine aw_loop1 (fun (v5_2 : Int) => ⟨[], [(0, .c (.lst (rows t))), (3, .c (ci (t.length : Int))), (4, .c (ci v4_1)), (5, .c (ci v5_2))], 61⟩) H2 m2 ⟨0, ghe_to (n := 61) rfl rfl ⟨rfl, rfl, rfl, rfl, trivial⟩, q3⟩ ?_
   rintro v5_2 q3
   replace h := h v5_2 q3
   refine aw_seq ?_
   refine aw_seq ?_
   refine aw_region ?_
   refine run_s (ss_move rfl) rfl ?_
   refine run_s (ss_move rfl) rfl ?_
   refine run_s (ss_lss rfl rfl) rfl ?_
   refine run_nil ?_
   refine aw_cond rfl (fun q4 => ?_) (fun q4 => ?_)
   ·replace h := h.1 (of_decide_eq_true q4)
    refine aw_skip ?_
    refine aw_seq ?_
    refine aw_block ?_
    refine aw_seq ?_
    refine aw_region ?_
    refine run_s (ss_assign rfl) rfl ?_
    refine run_nil ?_
    refine aw_block ?_
    obtain ⟨H3, m3, q5, h⟩ := h
    refine aw_loop1 (fun (v6_3 : Int) => ⟨[], [(0, .c (.lst (rows t))), (3, .c (ci (t.length : Int))), (4, .c (ci v4_1)), (5, .c (ci v5_2)), (6, .c (ci v6_3))], 61⟩) H3 m3 ⟨0, ghe_to (n := 61) rfl rfl ⟨rfl, rfl, rfl, rfl, rfl, trivial⟩, q5⟩ ?_
    rintro v6_3 q5
    replace h := h v6_3 q5
    refine aw_seq ?_
    refine aw_seq ?_
    refine aw_region ?_
    refine run_s (ss_move rfl) rfl ?_
    refine run_s (ss_move rfl) rfl ?_
    refine run_s (ss_lss rfl rfl) rfl ?_
    refine run_nil ?_
    refine aw_cond rfl (fun q6 => ?_) (fun q6 => ?_)
    ·replace h := h.1 (of_decide_eq_true q6)
     refine aw_skip ?_
     refine aw_seq ?_
     refine aw_block ?_
     refine aw_seq ?_
     refine aw_gh (gh_to (n := 61) (σ' := []) (env' := [(0, .c (.lst (rows t))), (3, .c (ci (t.length : Int))), (4, .c (ci v4_1)), (5, .c (ci v5_2)), (6, .c (ci v6_3))]) rfl rfl ⟨rfl, rfl, rfl, rfl, rfl, trivial⟩) ?_
     refine aw_regionD (kd := kdl [0, 0, 0, 1, 0, 0, 0, 1, 0, 0, 1, 0, 1, 0, 0, 0, 0, 1, 0, 0, 1, 0, 1, 0, 0, 0, 1, 0, 0, 1, 0, 1, 0]) (ord := [0, 1, 2, 4, 5, 6, 8, 13, 14, 15, 16, 18, 23, 24, 25, 27, 3, 7, 9, 10, 11, 12, 17, 19, 20, 21, 22, 26, 28, 29, 30, 31, 32]) [] mixed (by kernel_rfl) ?_
     refine rd_s rfl rfl trivial (ss_move rfl) rfl ?_
     refine rd_s rfl rfl trivial (ss_move rfl) rfl ?_
     obtain ⟨q7, h⟩ := h
     refine rd_s rfl rfl trivial (ss_idxL rfl rfl q7) rfl ?_
     refine rd_s rfl rfl trivial (ss_move rfl) rfl ?_
     refine rd_s rfl rfl trivial (ss_move rfl) rfl ?_
     obtain ⟨q8, h⟩ := h
     refine rd_s rfl rfl trivial (ss_idxL rfl rfl q8) rfl ?_
     refine rd_s rfl rfl trivial (ss_move rfl) rfl ?_
     refine rd_s rfl rfl trivial (ss_move rfl) rfl ?_
     refine rd_s rfl rfl trivial (ss_move rfl) rfl ?_
     refine rd_s rfl rfl trivial (ss_move rfl) rfl ?_
     obtain ⟨q9, h⟩ := h
     refine rd_s rfl rfl trivial (ss_idxL rfl rfl q9) rfl ?_
     refine rd_s rfl rfl trivial (ss_move rfl) rfl ?_
     refine rd_s rfl rfl trivial (ss_move rfl) rfl ?_
     refine rd_s rfl rfl trivial (ss_move rfl) rfl ?_
     obtain ⟨q10, h⟩ := h
     refine rd_s rfl rfl trivial (ss_idxL rfl rfl q10) rfl ?_
     refine rd_s rfl rfl trivial (ss_move rfl) rfl ?_
     refine rd_l rfl rfl trivial (ss_loadL (f := (fun r => C.lst (ints r))) rfl q7) rfl ?_
     refine rd_l rfl rfl trivial (ss_loadL (f := (fun r => C.lst (ints r))) rfl q8) rfl ?_
     obtain ⟨q11, h⟩ := h
     refine rd_s rfl rfl trivial (ss_idxL rfl rfl q11) rfl ?_
     refine rd_l rfl rfl trivial (ss_loadL (f := ci) rfl q11) rfl ?_
     obtain ⟨q12, h⟩ := h
     refine rd_s rfl rfl trivial (ss_idxL rfl rfl q12) rfl ?_
     refine rd_l rfl rfl trivial (ss_loadL (f := ci) rfl q12) rfl ?_
     refine rd_l rfl rfl trivial (ss_loadL (f := (fun r => C.lst (ints r))) rfl q9) rfl ?_
     obtain ⟨q13, h⟩ := h
     refine rd_s rfl rfl trivial (ss_idxL rfl rfl q13) rfl ?_
     refine rd_l rfl rfl trivial (ss_loadL (f := ci) rfl q13) rfl ?_
     obtain ⟨q14, h⟩ := h
     refine rd_s rfl rfl trivial (ss_idxL rfl rfl q14) rfl ?_
     refine rd_l rfl rfl trivial (ss_loadL (f := (fun r => C.lst (ints r))) rfl q14) rfl ?_
     refine rd_l rfl rfl trivial (ss_loadL (f := (fun r => C.lst (ints r))) rfl q10) rfl ?_
     obtain ⟨q15, h⟩ := h
     refine rd_s rfl rfl trivial (ss_idxL rfl rfl q15) rfl ?_
     refine rd_l rfl rfl trivial (ss_loadL (f := ci) rfl q15) rfl ?_
     obtain ⟨q16, h⟩ := h
     refine rd_s rfl rfl trivial (ss_idxL rfl rfl q16) rfl ?_
     refine rd_l rfl rfl trivial (ss_loadL (f := ci) rfl q16) rfl ?_
     refine rd_s rfl rfl trivial (ss_neq rfl rfl) rfl ?_
     refine rd_nil ?_
     refine aw_cond rfl (fun q17 => ?_) (fun q17 => ?_)
     ·replace h := h.1 (of_decide_eq_false (bnot_t q17))
      refine aw_seq ?_
      refine aw_gh (gh_to (n := 61) (σ' := []) (env' := [(4, .c (ci v4_1)), (5, .c (ci v5_2)), (6, .c (ci v6_3))]) rfl rfl ⟨rfl, rfl, rfl, trivial⟩) ?_
      refine aw_region ?_
      refine run_s (ss_move rfl) rfl ?_
      refine run_s (ss_move rfl) rfl ?_
      refine run_s (ss_move rfl) rfl ?_
      refine run_w (ws_buildSlice (id := 60) (ps := [(0, .tmp 57), (1, .tmp 58), (2, .tmp 59)]) rfl rfl (Nat.le_of_ble_eq_true rfl) rfl ⟨rfl, ?_⟩)
      refine run_s (ss_assign rfl) rfl ?_
      refine run_nil ?_
      refine aw_ret ?_
      exact retAF_mk (retv1 rfl (rv_tmp rfl)) rfl rfl ⟨_, (cle_refl _), _, h, rfl⟩
     ·replace h := h.2 (of_decide_eq_true (bnot_f q17))
      refine aw_skip ?_
      refine aw_gh (gh_to (n := 61) (σ' := []) (env' := [(0, .c (.lst (rows t))), (3, .c (ci (t.length : Int))), (4, .c (ci v4_1)), (5, .c (ci v5_2)), (6, .c (ci v6_3))]) rfl rfl ⟨rfl, rfl, rfl, rfl, rfl, trivial⟩) ?_
      refine aw_region ?_
      refine run_s (ss_move rfl) rfl ?_
      obtain ⟨q18, h⟩ := h
      refine run_s (ss_add rfl rfl q18) rfl ?_
      refine run_s (ss_assign rfl) rfl ?_
      refine run_nil ?_
      exact ⟨v6_3 + 1, ghe_to (n := 61) rfl rfl ⟨rfl, rfl, rfl, rfl, rfl, trivial⟩, h.1, h.2⟩
    ·replace h := h.2 (of_decide_eq_false q6)
     refine aw_exit ?_
     refine aw_region ?_
     refine run_s (ss_move rfl) rfl ?_
     obtain ⟨q19, h⟩ := h
     refine run_s (ss_add rfl rfl q19) rfl ?_
     refine run_s (ss_assign rfl) rfl ?_
     refine run_nil ?_
     exact ⟨v5_2 + 1, ghe_to (n := 61) rfl rfl ⟨rfl, rfl, rfl, rfl, trivial⟩, h.1, h.2⟩
   ·replace h := h.2 (of_decide_eq_false q4)
    refine aw_exit ?_
    refine aw_region ?_
    refine run_s (ss_move rfl) rfl ?_
    obtain ⟨q20, h⟩ := h
    refine run_s (ss_add rfl rfl q20) rfl ?_
    refine run_s (ss_assign rfl) rfl ?_
    refine run_nil ?_
    exact ⟨v4_1 + 1, ghe_to (n := 61) rfl rfl ⟨rfl, rfl, rfl, trivial⟩, h.1, h.2⟩
  ·replace h := h.2 (of_decide_eq_false q2)
   refine aw_exit ?_
   refine aw_seq ?_
   refine aw_gh (gh_to (n := 61) (σ' := []) (env' := []) rfl rfl trivial) ?_
   refine aw_region ?_
   refine run_s (ss_assign rfl) rfl ?_
   refine run_nil ?_
   refine aw_ret ?_
   exact retAF_mk (retv1 rfl (rv_tmp rfl)) rfl rfl ⟨_, cle_nilO, _, h, rfl⟩

theorem c_spec_l03Fault (t : List (List Int)) (hp : isTab t = true) : AF Try.prog 72 [.lst (rows t)] (fun R_ => R_ = .own (ints (rackF t))) :=
  (w_spec_l03Fault t (fun y0 => y0 = rackF t) (p_spec_l03Fault t hp)).mono (by rintro r ⟨_, rfl, rfl⟩; rfl)

set_option maxRecDepth 100000 in
set_option maxHeartbeats 4000000 in
theorem w_impl_IsRack (r : List (List Int)) (Q : Bool → Prop) (h : wp_impl_IsRack r Q) : AF Try.prog 42 [.agg [.lst (rows r)]] (fun R_ => ∃ y0, Q y0 ∧ R_ = cb y0) := by
  refine AF.ofWQ (af_enter (n := 17) Try.func42 rfl (by rfl) rfl (Nat.le_of_ble_eq_true rfl) ?_)
  unfold wp_impl_IsRack at h
  refine aw_seq ?_
  refine aw_gh (gh_to (n := 17) (σ' := []) (env' := [(0, .c (.agg [.lst (rows r)]))]) rfl rfl ⟨rfl, trivial⟩) ?_
  refine aw_region ?_
  refine run_w (ws_boxR rfl (.inl rfl) rfl ⟨rfl, ?_⟩)
  refine run_s (ss_assign rfl) rfl ?_
  refine run_nil ?_
  refine aw_seq ?_
  refine aw_region ?_
  refine run_s (ss_field_ptr rfl) rfl ?_
  refine run_s (ss_load_ptr rfl rfl) rfl ?_
  obtain ⟨q1, h⟩ := h
  refine run_w (ws_call (xs := [.tmp 4]) (ids := []) rfl rfl rfl rfl (c_impl_IsTable r q1) rfl ?_ )
  rintro _ rfl
  refine ⟨rfl, ?_⟩
  refine run_s (ss_move rfl) rfl ?_
  refine run_split (s := 6) rfl (fun q3 => ?_) (fun q3 => ?_)
  ·replace h := h.1 (q3)
   refine run_gt rfl rfl q3 ?_
   refine run_s (ss_field_ptr rfl) rfl ?_
   refine run_gt rfl rfl q3 ?_
   refine run_s (ss_load_ptr rfl rfl) rfl ?_
   refine run_gt rfl rfl q3 ?_
   obtain ⟨q4, h⟩ := h
   refine run_w (ws_call (xs := [.tmp 8]) (ids := []) rfl rfl rfl rfl (c_impl_permutationRows r q4) rfl ?_ )
   rintro _ rfl
   refine ⟨rfl, ?_⟩
   refine run_s (ss_pickT rfl q3 rfl) rfl ?_
   refine run_s (ss_move rfl) rfl ?_
   refine run_split (s := 11) rfl (fun q6 => ?_) (fun q6 => ?_)
   ·replace h := h.1 (q6)
    refine run_gt rfl rfl q6 ?_
    refine run_s (ss_field_ptr rfl) rfl ?_
    refine run_gt rfl rfl q6 ?_
    refine run_s (ss_load_ptr rfl rfl) rfl ?_
    refine run_gt rfl rfl q6 ?_
    by_cases q7 : (rackF r) = []
    ·replace h := h.1 q7
     obtain ⟨q8, h⟩ := h
     refine run_w (ws_call (xs := [.tmp 13]) (ids := []) rfl rfl rfl rfl (AF.onil_n (c_impl_rackFault r q8) q7) rfl ?_ )
     rintro _ rfl
     refine ⟨rfl, ?_⟩
     refine run_gt rfl rfl q6 ?_
     refine run_s (ss_eql_nil rfl rfl) rfl ?_
     refine run_s (ss_pickT rfl q6 rfl) rfl ?_
     refine run_s (ss_assign rfl) rfl ?_
     refine run_nil ?_
     refine aw_ret ?_
     exact retAF_mk (retv1 rfl (rv_tmp rfl)) rfl rfl ⟨_, (cle_refl _), _, h, rfl⟩
    ·replace h := h.2 q7
     obtain ⟨q10, h⟩ := h
     refine run_w (ws_call (xs := [.tmp 13]) (ids := [14]) rfl rfl rfl rfl (AF.onil_o (c_impl_rackFault r q10) q7) rfl ?_ )
     rintro _ rfl
     refine ⟨rfl, ?_⟩
     refine run_gt rfl rfl q6 ?_
     refine run_s (ss_eql_refNil rfl rfl (map_ne q7) rfl) rfl ?_
     refine run_s (ss_pickT rfl q6 rfl) rfl ?_
     refine run_s (ss_assign rfl) rfl ?_
     refine run_nil ?_
     refine aw_ret ?_
     exact retAF_mk (retv1 rfl (rv_tmp rfl)) rfl rfl ⟨_, (cle_refl _), _, h, rfl⟩
   ·replace h := h.2 (q6)
    refine run_gf rfl rfl q6 rfl ?_
    refine run_gf rfl rfl q6 rfl ?_
    refine run_gf rfl rfl q6 rfl ?_
    refine run_gf rfl rfl q6 rfl ?_
    refine run_s (ss_pickF rfl q6 rfl) rfl ?_
    refine run_s (ss_assign rfl) rfl ?_
    refine run_nil ?_
    refine aw_ret ?_
    exact retAF_mk (retv1 rfl (rv_tmp rfl)) rfl rfl ⟨_, (cle_refl _), _, h, rfl⟩
  ·replace h := h.2 (q3)
   refine run_gf rfl rfl q3 rfl ?_
   refine run_gf rfl rfl q3 rfl ?_
   refine run_gf rfl rfl q3 rfl ?_
   refine run_s (ss_pickF rfl q3 rfl) rfl ?_
   refine run_s (ss_move rfl) rfl ?_
   refine run_split (s := 11) rfl (fun q12 => ?_) (fun q12 => ?_)
   ·cases q12
   ·skip
    refine run_gf rfl rfl q12 rfl ?_
    refine run_gf rfl rfl q12 rfl ?_
    refine run_gf rfl rfl q12 rfl ?_
    refine run_gf rfl rfl q12 rfl ?_
    refine run_s (ss_pickF rfl q12 rfl) rfl ?_
    refine run_s (ss_assign rfl) rfl ?_
    refine run_nil ?_
    refine aw_ret ?_
    exact retAF_mk (retv1 rfl (rv_tmp rfl)) rfl rfl ⟨_, (cle_refl _), _, h, rfl⟩

theorem c_impl_IsRack (r : List (List Int)) (hp : small2 r) : AF Try.prog 42 [.agg [.lst (rows r)]] (fun R_ => R_ = cb (isRk r)) :=
  (w_impl_IsRack r (fun y0 => y0 = isRk r) (p_impl_IsRack r hp)).mono (by rintro r ⟨_, rfl, rfl⟩; rfl)

set_option maxRecDepth 100000 in
set_option maxHeartbeats 4000000 in
theorem w_spec_l03Is (r : List (List Int)) (Q : Bool → Prop) (h : wp_spec_l03Is r Q) : AF Try.prog 39 [.agg [.lst (rows r)]] (fun R_ => ∃ y0, Q y0 ∧ R_ = cb y0) := by
  refine AF.ofWQ (af_enter (n := 27) Try.func39 rfl (by rfl) rfl (Nat.le_of_ble_eq_true rfl) ?_)
  unfold wp_spec_l03Is at h
  refine aw_seq ?_
  refine aw_gh (gh_to (n := 27) (σ' := []) (env' := [(0, .c (.agg [.lst (rows r)]))]) rfl rfl ⟨rfl, trivial⟩) ?_
  refine aw_region ?_
  refine run_w (ws_boxR rfl (.inl rfl) rfl ⟨rfl, ?_⟩)
  refine run_s (ss_assign rfl) rfl ?_
  refine run_nil ?_
  refine aw_seq ?_
  refine aw_seq ?_
  refine aw_region ?_
  refine run_s (ss_field_ptr rfl) rfl ?_
  refine run_s (ss_load_ptr rfl rfl) rfl ?_
  obtain ⟨q1, h⟩ := h
  refine run_w (ws_call (xs := [.tmp 5]) (ids := []) rfl rfl rfl rfl (c_spec_l01Table r q1) rfl ?_ )
  rintro _ rfl
  refine ⟨rfl, ?_⟩
  refine run_s (ss_not rfl) rfl ?_
  refine run_nil ?_
  refine aw_cond rfl (fun q3 => ?_) (fun q3 => ?_)
  ·replace h := h.1 ((bnot_t q3))
   refine aw_seq ?_
   refine aw_gh (gh_to (n := 27) (σ' := []) (env' := [(2, .c (cb false))]) rfl rfl ⟨rfl, trivial⟩) ?_
   refine aw_region ?_
   refine run_s (ss_assign rfl) rfl ?_
   refine run_nil ?_
   refine aw_ret ?_
   exact retAF_mk (retv1 rfl (rv_tmp rfl)) rfl rfl ⟨_, (cle_refl _), _, h, rfl⟩
  ·replace h := h.2 ((bnot_f q3))
   refine aw_skip ?_
   refine aw_seq ?_
   refine aw_seq ?_
   refine aw_gh (gh_to (n := 27) (σ' := []) (env' := [(1, .c (.ptr [.lst (rows r)]))]) rfl rfl ⟨rfl, trivial⟩) ?_
   refine aw_region ?_
   refine run_s (ss_assign rfl) rfl ?_
   refine run_nil ?_
   refine aw_block ?_
   obtain ⟨H1, m1, q4, h⟩ := h
   refine aw_loop1 (fun (v3_1 : Int) => ⟨[], [(1, .c (.ptr [.lst (rows r)])), (3, .c (ci v3_1))], 27⟩) H1 m1 ⟨0, ghe_to (n := 27) rfl rfl ⟨rfl, rfl, trivial⟩, q4⟩ ?_
   rintro v3_1 q4
   replace h := h v3_1 q4
   refine aw_seq ?_
   refine aw_seq ?_
   refine aw_region ?_
   refine run_s (ss_move rfl) rfl ?_
   refine run_s (ss_field_ptr rfl) rfl ?_
   refine run_s (ss_load_ptr rfl rfl) rfl ?_
   refine run_s (ss_lenL (f := (fun r => C.lst (ints r))) rfl) rfl ?_
   refine run_s (ss_lss rfl rfl) rfl ?_
   refine run_nil ?_
   refine aw_cond rfl (fun q5 => ?_) (fun q5 => ?_)
   ·replace h := h.1 (of_decide_eq_true q5)
    refine aw_skip ?_
    refine aw_seq ?_
    refine aw_block ?_
    refine aw_seq ?_
    refine aw_region ?_
    refine run_s (ss_field_ptr rfl) rfl ?_
    refine run_s (ss_load_ptr rfl rfl) rfl ?_
    refine run_s (ss_move rfl) rfl ?_
    obtain ⟨q6, h⟩ := h
    refine run_s (ss_idxL rfl rfl q6) rfl ?_
    refine run_s (ss_loadL (f := (fun r => C.lst (ints r))) rfl q6) rfl ?_
    obtain ⟨q7, h⟩ := h
    refine run_w (ws_call (xs := [.tmp 19]) (ids := []) rfl rfl rfl rfl (c_spec_l01Perm (el r v3_1) q7) rfl ?_ )
    rintro _ rfl
    refine ⟨rfl, ?_⟩
    refine run_s (ss_not rfl) rfl ?_
    refine run_nil ?_
    refine aw_cond rfl (fun q9 => ?_) (fun q9 => ?_)
    ·replace h := h.1 ((bnot_t q9))
     refine aw_seq ?_
     refine aw_gh (gh_to (n := 27) (σ' := []) (env' := []) rfl rfl trivial) ?_
     refine aw_region ?_
     refine run_s (ss_assign rfl) rfl ?_
     refine run_nil ?_
     refine aw_ret ?_
     exact retAF_mk (retv1 rfl (rv_tmp rfl)) rfl rfl ⟨_, (cle_refl _), _, h, rfl⟩
    ·replace h := h.2 ((bnot_f q9))
     refine aw_skip ?_
     refine aw_gh (gh_to (n := 27) (σ' := []) (env' := [(1, .c (.ptr [.lst (rows r)])), (3, .c (ci v3_1))]) rfl rfl ⟨rfl, rfl, trivial⟩) ?_
     refine aw_region ?_
     refine run_s (ss_move rfl) rfl ?_
     obtain ⟨q10, h⟩ := h
     refine run_s (ss_add rfl rfl q10) rfl ?_
     refine run_s (ss_assign rfl) rfl ?_
     refine run_nil ?_
     exact ⟨v3_1 + 1, ghe_to (n := 27) rfl rfl ⟨rfl, rfl, trivial⟩, h.1, h.2⟩
   ·replace h := h.2 (of_decide_eq_false q5)
    refine aw_exit ?_
    refine aw_seq ?_
    refine aw_region ?_
    refine run_s (ss_field_ptr rfl) rfl ?_
    refine run_s (ss_load_ptr rfl rfl) rfl ?_
    obtain ⟨q11, h⟩ := h
    refine run_w (ws_call (xs := [.tmp 23]) (ids := [24]) rfl rfl rfl rfl (c_spec_l03Fault r q11) rfl ?_ )
    rintro _ rfl
    refine ⟨rfl, ?_⟩
    refine run_s (ss_lenR (f := ci) rfl rfl) rfl ?_
    refine run_s (ss_eql rfl rfl) rfl ?_
    refine run_s (ss_assign rfl) rfl ?_
    refine run_nil ?_
    refine aw_ret ?_
    exact retAF_mk (retv1 rfl (rv_tmp rfl)) rfl rfl ⟨_, (cle_refl _), _, h, rfl⟩

theorem c_spec_l03Is (r : List (List Int)) (hp : small2 r) : AF Try.prog 39 [.agg [.lst (rows r)]] (fun R_ => R_ = cb (isRk r)) :=
  (w_spec_l03Is r (fun y0 => y0 = isRk r) (p_spec_l03Is r hp)).mono (by rintro r ⟨_, rfl, rfl⟩; rfl)

def wp_spec_l01Own2 (lists : List (List Int)) (Q : List (List Int) → Prop) : Prop :=
 ∃ (H1 : Int → List (List Int) → Prop) (m1 : Int → List (List Int) → Nat),
 H1 0 ([] : List (List Int)) ∧
 ∀ (v4_1 : Int) (o5_1 : List (List Int)), H1 v4_1 o5_1 →
 ( ((v4_1 < (lists.length : Int) →
 (0 ≤ v4_1 ∧ v4_1 < (lists.length : Int)) ∧
 (small (el lists v4_1)) ∧
 ((o5_1.length : Int) + (([(el lists v4_1)]).length : Int) ≤ 1000000000) ∧
 (InI (v4_1 + 1)) ∧
 (H1 (v4_1 + 1) (o5_1 ++ ([(el lists v4_1)])) ∧ m1 (v4_1 + 1) (o5_1 ++ ([(el lists v4_1)])) < m1 v4_1 o5_1)) ∧
 (¬ (v4_1 < (lists.length : Int)) →
 Q o5_1)))

theorem p_spec_l01Own2 (lists : List (List Int)) (hp : small2 lists) : wp_spec_l01Own2 lists (fun y0 => y0 = lists) := by
  unfold wp_spec_l01Own2
  have h1 := hp.1
  refine ⟨fun i o => 0 ≤ i ∧ i ≤ (lists.length : Int) ∧ o.length = i.toNat ∧ Upto i fun x => el o x = el lists x, fun i _ => ((lists.length : Int) - i).toNat, ⟨by omega, by omega, by simp, upto0⟩, ?_⟩
  rintro i o ⟨i0, i1, il, iI⟩
  dsimp only
  exact ⟨fun ilt => ⟨⟨i0, ilt⟩, hp.2 _ (el_mem ⟨i0, ilt⟩), by simp; omega, ⟨by omega, by omega⟩, ⟨by omega, by omega, by simp; omega, app1 (f := fun x => el lists x) (by omega) iI rfl⟩, by omega⟩, fun ige => ext_el (by omega) fun j a b => iI j a (by omega)⟩
set_option maxRecDepth 100000 in
set_option maxHeartbeats 4000000 in
theorem w_spec_l01Own2 (lists : List (List Int)) (Q : List (List Int) → Prop) (h : wp_spec_l01Own2 lists Q) : AF Try.prog 80 [.lst (rows lists)] (fun R_ => ∃ y0, Q y0 ∧ R_ = .own (orows y0)) := by
  refine AF.ofWQ (af_enter (n := 21) Try.func80 rfl (by rfl) rfl (Nat.le_of_ble_eq_true rfl) ?_)
  unfold wp_spec_l01Own2 at h
  refine aw_seq ?_
  refine aw_gh (gh_to (n := 21) (σ' := []) (env' := [(0, .c (.lst (rows lists)))]) rfl rfl ⟨rfl, trivial⟩) ?_
  refine aw_region ?_
  refine run_s (ss_assign rfl) rfl ?_
  refine run_nil ?_
  refine aw_seq ?_
  refine aw_region ?_
  refine run_w (ws_buildSlice (id := 5) (ps := []) rfl rfl (Nat.le_of_ble_eq_true rfl) rfl ⟨rfl, ?_⟩)
  refine run_s (ss_assign rfl) rfl ?_
  refine run_nil ?_
  refine aw_seq ?_
  refine aw_seq ?_
  refine aw_region ?_
  refine run_s (ss_assign rfl) rfl ?_
  refine run_nil ?_
  refine aw_block ?_
  obtain ⟨H1, m1, q1, h⟩ := h
  refine aw_loop2 (fun (v4_1 : Int) (o5_1 : List (List Int)) => ⟨[(5, ⟨orows o5_1, []⟩)], [(0, .c (.lst (rows lists))), (3, .ref 5), (4, .c (ci v4_1))], 21⟩) H1 m1 ⟨0, ([] : List (List Int)), ghe_to (n := 21) rfl rfl ⟨rfl, rfl, rfl, trivial⟩, q1⟩ ?_
  rintro v4_1 o5_1 q1
  replace h := h v4_1 o5_1 q1
  refine aw_seq ?_
  refine aw_seq ?_
  refine aw_region ?_
  refine run_s (ss_move rfl) rfl ?_
  refine run_s (ss_move rfl) rfl ?_
  refine run_s (ss_lenL (f := (fun r => C.lst (ints r))) rfl) rfl ?_
  refine run_s (ss_lss rfl rfl) rfl ?_
  refine run_nil ?_
  refine aw_cond rfl (fun q2 => ?_) (fun q2 => ?_)
  ·replace h := h.1 (of_decide_eq_true q2)
   refine aw_skip ?_
   refine aw_seq ?_
   refine aw_block ?_
   refine aw_region ?_
   refine run_s (ss_move rfl) rfl ?_
   refine run_s (ss_move rfl) rfl ?_
   refine run_s (ss_move rfl) rfl ?_
   obtain ⟨q3, h⟩ := h
   refine run_s (ss_idxL rfl rfl q3) rfl ?_
   refine run_s (ss_loadL (f := (fun r => C.lst (ints r))) rfl q3) rfl ?_
   obtain ⟨q4, h⟩ := h
   refine run_w (ws_call (xs := [.tmp 16]) (ids := [17]) rfl rfl rfl rfl (c_spec_l01Own (el lists v4_1) q4) rfl ?_ )
   rintro _ rfl
   refine ⟨rfl, ?_⟩
   refine run_w (ws_buildSlice (id := 18) (ps := [(0, .tmp 17)]) rfl rfl (Nat.le_of_ble_eq_true rfl) rfl ⟨rfl, ?_⟩)
   refine run_gh (gh_fill (id := 18) (id2 := 17) (j := 0) rfl rfl (Nat.le_of_ble_eq_true rfl) rfl rfl rfl) ?_
   obtain ⟨q6, h⟩ := h
   refine run_w (ws_app1 (fun r => C.own (ints r)) (l := o5_1) (m := [(el lists v4_1)]) rfl rfl rfl rfl rfl (Nat.le_of_ble_eq_true rfl) q6 ⟨rfl, ?_⟩)
   refine run_s (ss_assign rfl) rfl ?_
   refine run_nil ?_
   refine aw_gh (gh_to (n := 21) (σ' := [(5, ⟨orows (o5_1 ++ ([(el lists v4_1)])), []⟩)]) (env' := [(0, .c (.lst (rows lists))), (3, .ref 5), (4, .c (ci v4_1))]) rfl rfl ⟨rfl, rfl, rfl, trivial⟩) ?_
   refine aw_region ?_
   refine run_s (ss_move rfl) rfl ?_
   obtain ⟨q7, h⟩ := h
   refine run_s (ss_add rfl rfl q7) rfl ?_
   refine run_s (ss_assign rfl) rfl ?_
   refine run_nil ?_
   exact ⟨v4_1 + 1, o5_1 ++ ([(el lists v4_1)]), ghe_to (n := 21) rfl rfl ⟨rfl, rfl, rfl, trivial⟩, h.1, h.2⟩
  ·replace h := h.2 (of_decide_eq_false q2)
   refine aw_exit ?_
   refine aw_seq ?_
   refine aw_gh (gh_to (n := 21) (σ' := [(5, ⟨orows o5_1, []⟩)]) (env' := [(3, .ref 5)]) rfl rfl ⟨rfl, trivial⟩) ?_
   refine aw_region ?_
   refine run_s (ss_move rfl) rfl ?_
   refine run_s (ss_assign rfl) rfl ?_
   refine run_nil ?_
   refine aw_ret ?_
   exact retAF_mk (retv1 rfl (rv_tmp rfl)) rfl rfl ⟨_, (cle_refl _), _, h, rfl⟩

theorem c_spec_l01Own2 (lists : List (List Int)) (hp : small2 lists) : AF Try.prog 80 [.lst (rows lists)] (fun R_ => R_ = .own (orows lists)) :=
  (w_spec_l01Own2 lists (fun y0 => y0 = lists) (p_spec_l01Own2 lists hp)).mono (by rintro r ⟨_, rfl, rfl⟩; rfl)

def wp_spec_l01Grow (n : Int) (start : List Int) (list : List (List Int)) (Q : List (List Int) → Prop) : Prop :=
 (((start.length : Int) = n →
 ((list.length : Int) + (([start]).length : Int) ≤ 1000000000) ∧
 Q (list ++ ([start]))) ∧
 (¬ ((start.length : Int) = n) →
 ∃ (H1 : Int → List (List Int) → Prop) (m1 : Int → List (List Int) → Nat),
 H1 0 list ∧
 ∀ (v7_1 : Int) (o801_1 : List (List Int)), H1 v7_1 o801_1 →
 ( ((v7_1 < n →
 (small start) ∧
 (((start.contains v7_1) = false →
 (small start) ∧
 ((start.length : Int) + (([v7_1]).length : Int) ≤ 1000000000) ∧
 ((n - ((start ++ ([v7_1])).length : Int)).toNat < (n - (start.length : Int)).toNat) ∧
 (((start ++ ([v7_1])).length : Int) ≤ n ∧ n ≤ 8 ∧ ((o801_1 ++ growL n (start ++ ([v7_1]))).length : Int) ≤ 100000000) ∧
 (InI (v7_1 + 1)) ∧
 (H1 (v7_1 + 1) (o801_1 ++ growL n (start ++ ([v7_1]))) ∧ m1 (v7_1 + 1) (o801_1 ++ growL n (start ++ ([v7_1]))) < m1 v7_1 o801_1)) ∧
 ((start.contains v7_1) = true →
 (InI (v7_1 + 1)) ∧
 (H1 (v7_1 + 1) o801_1 ∧ m1 (v7_1 + 1) o801_1 < m1 v7_1 o801_1)))) ∧
 (¬ (v7_1 < n) →
 Q o801_1)))))

def wp_spec_l01Perms (n : Int) (Q : List (List Int) → Prop) : Prop :=
 ((([] : List Int).length : Int) ≤ n ∧ n ≤ 8 ∧ ((([] : List (List Int)) ++ growL n ([] : List Int)).length : Int) ≤ 100000000) ∧
 Q (([] : List (List Int)) ++ growL n ([] : List Int))

def wp_spec_l03Image (t : List (List Int)) (p : List Int) (Q : List (List Int) → Prop) : Prop :=
 (small2 t) ∧
 ∃ (H1 : Int → List (List Int) → Prop) (m1 : Int → List (List Int) → Nat),
 H1 0 t ∧
 ∀ (v6_1 : Int) (o9_1 : List (List Int)), H1 v6_1 o9_1 →
 ( ((v6_1 < (t.length : Int) →
 ∃ (H2 : Int → List (List Int) → Prop) (m2 : Int → List (List Int) → Nat),
 H2 0 o9_1 ∧
 ∀ (v7_2 : Int) (o9_2 : List (List Int)), H2 v7_2 o9_2 →
 ( ((v7_2 < (t.length : Int) →
 (0 ≤ v6_1 ∧ v6_1 < (p.length : Int)) ∧
 (0 ≤ v7_2 ∧ v7_2 < (p.length : Int)) ∧
 (0 ≤ v6_1 ∧ v6_1 < (t.length : Int)) ∧
 (0 ≤ el p v6_1 ∧ el p v6_1 < (o9_2.length : Int)) ∧
 (0 ≤ v7_2 ∧ v7_2 < ((el t v6_1).length : Int)) ∧
 (0 ≤ el (el t v6_1) v7_2 ∧ el (el t v6_1) v7_2 < (p.length : Int)) ∧
 (0 ≤ el p v7_2 ∧ el p v7_2 < ((el o9_2 (el p v6_1)).length : Int)) ∧
 (InI (v7_2 + 1)) ∧
 (H2 (v7_2 + 1) (se o9_2 (el p v6_1) (se (el o9_2 (el p v6_1)) (el p v7_2) (el p (el (el t v6_1) v7_2)))) ∧ m2 (v7_2 + 1) (se o9_2 (el p v6_1) (se (el o9_2 (el p v6_1)) (el p v7_2) (el p (el (el t v6_1) v7_2)))) < m2 v7_2 o9_2)) ∧
 (¬ (v7_2 < (t.length : Int)) →
 (InI (v6_1 + 1)) ∧
 (H1 (v6_1 + 1) o9_2 ∧ m1 (v6_1 + 1) o9_2 < m1 v6_1 o9_1))))) ∧
 (¬ (v6_1 < (t.length : Int)) →
 Q o9_1)))

theorem p_spec_l01Grow (n : Int) (start : List Int) (list : List (List Int)) (hp : (start.length : Int) ≤ n ∧ n ≤ 8 ∧ ((list ++ growL n start).length : Int) ≤ 100000000) : wp_spec_l01Grow n start list (fun y0 => y0 = list ++ growL n start) := by
  obtain ⟨h1, h2, h3⟩ := hp
  refine ⟨fun e => ?_, fun e => ?_⟩
  · rw [growL_end e] at h3 ⊢
    exact ⟨by rw [List.length_append] at h3; omega, rfl⟩
  · have hs : small start := by show (start.length : Int) ≤ _; omega
    have hlt : (start.length : Int) < n := by omega
    refine ⟨fun x o => (0 ≤ x ∧ x ≤ n) ∧ o = list ++ growT n start x, fun x _ => (n - x).toNat, ⟨⟨by omega, by omega⟩, by rw [growT_zero, List.append_nil]⟩, ?_⟩
    rintro x o ⟨⟨x0, x1⟩, rfl⟩
    dsimp only
    refine ⟨fun xn => ⟨hs, fun hc => ?_, fun hc => ?_⟩, fun xn => by rw [growL_step hlt, show x = n by omega]⟩
    · refine ⟨hs, by rw [List.length_singleton]; omega, by simp; omega, ⟨by simp; omega, h2, ?_⟩, ⟨by omega, by omega⟩, ⟨⟨by omega, by omega⟩, ?_⟩, by omega⟩
      · have := growT_len (n := n) (s := start) (x := x + 1) (y := n) ⟨by omega, by omega⟩
        rw [growT_succ x0, hc] at this
        rw [growL_step hlt] at h3
        simp at this h3 ⊢; omega
      · rw [growT_succ x0, hc]; simp
    · exact ⟨⟨by omega, by omega⟩, ⟨⟨by omega, by omega⟩, by rw [growT_succ x0, hc]; simp⟩, by omega⟩
theorem p_spec_l01Perms (n : Int) (hp : 0 ≤ n ∧ n ≤ 8) : wp_spec_l01Perms n (fun y0 => y0 = growL n []) := by
  have := growL_len8 hp
  refine ⟨⟨by simp; omega, hp.2, by rw [List.nil_append]; omega⟩, by rw [List.nil_append]⟩
theorem p_spec_l03Image (t : List (List Int)) (p : List Int) (hp : isTab t = true ∧ (p.length : Int) = (t.length : Int) ∧ ∀ z_ ∈ p, 0 ≤ z_ ∧ z_ < (t.length : Int)) : wp_spec_l03Image t p (fun y0 => isTab y0 = true ∧ y0.length = t.length ∧ (isPerm p = true → ∀ u_ v_ : Int, (0 ≤ u_ ∧ u_ < (t.length : Int)) → (0 ≤ v_ ∧ v_ < (t.length : Int)) → el (el y0 (el p u_)) (el p v_) = el p (el (el t u_) v_))) := by
  obtain ⟨ht, hl, hr⟩ := hp
  have hn := isTab_len ht
  have pe : ∀ {x : Int}, 0 ≤ x → x < (t.length : Int) → 0 ≤ el p x ∧ el p x < (t.length : Int) := fun h1 h2 => hr _ (el_mem ⟨h1, by omega⟩)
  refine ⟨isTab_small ht, fun x o => (0 ≤ x ∧ x ≤ (t.length : Int)) ∧ isTab o = true ∧ o.length = t.length ∧ (isPerm p = true → ∀ u v : Int, (0 ≤ u ∧ u < x) → (0 ≤ v ∧ v < (t.length : Int)) → el (el o (el p u)) (el p v) = el p (el (el t u) v)), fun x _ => ((t.length : Int) - x).toNat, ⟨⟨by omega, by omega⟩, ht, rfl, fun _ u v hu => by omega⟩, ?_⟩
  rintro x o ⟨⟨x0, x1⟩, ho, hol, hv⟩
  dsimp only
  refine ⟨fun xlt => ?_, fun xge => ⟨ho, hol, fun hP u v hu => hv hP u v ⟨hu.1, by omega⟩⟩⟩
  refine ⟨fun y o => (0 ≤ y ∧ y ≤ (t.length : Int)) ∧ isTab o = true ∧ o.length = t.length ∧ (isPerm p = true → ∀ u v : Int, (0 ≤ u ∧ u < (t.length : Int)) → (0 ≤ v ∧ v < (t.length : Int)) → (u < x ∨ (u = x ∧ v < y)) → el (el o (el p u)) (el p v) = el p (el (el t u) v)), fun y _ => ((t.length : Int) - y).toNat, ⟨⟨by omega, by omega⟩, ho, hol, fun hP u v hu hv2 hc => hv hP u v ⟨hu.1, by omega⟩ hv2⟩, ?_⟩
  rintro y w ⟨⟨y0, y1⟩, hw, hwl, hv⟩
  dsimp only
  refine ⟨fun ylt => ?_, fun yge => ⟨⟨by omega, by omega⟩, ⟨⟨by omega, by omega⟩, hw, hwl, fun hP u v hu hv2 => hv hP u v ⟨hu.1, by omega⟩ hv2 (by omega)⟩, by omega⟩⟩
  have a := pe x0 xlt
  have b := pe y0 ylt
  have lx := rk_len ht ⟨x0, xlt⟩
  have v := rk_el ht (x := x) (y := y) ⟨x0, xlt⟩ ⟨y0, ylt⟩
  have c := pe v.1 v.2
  have lw := rk_len hw (x := el p x) ⟨a.1, by omega⟩
  refine ⟨⟨x0, by omega⟩, ⟨y0, by omega⟩, ⟨x0, xlt⟩, ⟨a.1, by omega⟩, ⟨y0, by omega⟩, ⟨v.1, by omega⟩, ⟨b.1, by omega⟩, ⟨by omega, by omega⟩, ⟨⟨by omega, by omega⟩, isTab_se hw ⟨a.1, by omega⟩ ⟨b.1, by omega⟩ ⟨c.1, by omega⟩, by simpa using hwl, fun hP u z hu hz hc => ?_⟩, by omega⟩
  have pu := pe hu.1 hu.2
  have pz := pe hz.1 hz.2
  by_cases e : u = x
  · subst e
    rw [el_se_same ⟨a.1, by omega⟩]
    by_cases e2 : z = y
    · subst e2; rw [el_se_same ⟨b.1, by omega⟩]
    · rw [el_se_ne b.1 pz.1 (fun e3 => e2 (isPerm_inj hP ⟨hz.1, by omega⟩ ⟨y0, by omega⟩ e3.symm))]
      exact hv hP u z hu hz (.inr ⟨rfl, by omega⟩)
  · rw [el_se_ne a.1 pu.1 (fun e3 => e (isPerm_inj hP ⟨hu.1, by omega⟩ ⟨x0, by omega⟩ e3.symm))]
    exact hv hP u z hu hz (.inl (by omega))
set_option maxRecDepth 100000 in
set_option maxHeartbeats 4000000 in
theorem w_spec_l01Grow (n : Int) (start : List Int) (list : List (List Int)) (Q : List (List Int) → Prop) (hrec : ∀ (n' : Int) (start' : List Int) (list' : List (List Int)), (n' - (start'.length : Int)).toNat < (n - (start.length : Int)).toNat → ((start'.length : Int) ≤ n' ∧ n' ≤ 8 ∧ ((list' ++ growL n' start').length : Int) ≤ 100000000) → AM Try.prog 105 [ci n', .own (ints start'), .own (orows list')] (fun R_ O_ => R_ = .own (orows (list' ++ growL n' start')) ∧ O_ = [ci n', .hole, .hole])) (h : wp_spec_l01Grow n start list Q) : AM Try.prog 105 [ci n, .own (ints start), .own (orows list)] (fun R_ O_ => ∃ y0, Q y0 ∧ R_ = .own (orows y0) ∧ O_ = [ci n, .hole, .hole]) := by
  refine am_enter (n := 34) (m := 3) Try.func105 rfl (by rfl) rfl rfl (Nat.le_of_ble_eq_true rfl) [800, 801] rfl ?_
  unfold wp_spec_l01Grow at h
  refine aw_gh (gh_to (n := 34) (σ' := [(800, ⟨ints start, []⟩), (801, ⟨orows list, []⟩)]) (env' := [(0, .c (ci n)), (1, .ref 800), (2, .ref 801), (34, .c (ci n))]) rfl rfl ⟨rfl, rfl, rfl, rfl, trivial⟩) ?_
  refine aw_seq ?_
  refine aw_gh (gh_to (n := 34) (σ' := [(800, ⟨ints start, []⟩), (801, ⟨orows list, []⟩)]) (env' := [(0, .c (ci n)), (1, .ref 800), (2, .ref 801), (34, .c (ci n))]) rfl rfl ⟨rfl, rfl, rfl, rfl, trivial⟩) ?_
  refine aw_region ?_
  refine run_s (ss_assign rfl) rfl ?_
  refine run_nil ?_
  refine aw_seq ?_
  refine aw_seq ?_
  refine aw_region ?_
  refine run_s (ss_move rfl) rfl ?_
  refine run_s (ss_lenR (f := ci) rfl rfl) rfl ?_
  refine run_s (ss_move rfl) rfl ?_
  refine run_s (ss_eql rfl rfl) rfl ?_
  refine run_nil ?_
  refine aw_cond rfl (fun q1 => ?_) (fun q1 => ?_)
  ·replace h := h.1 (of_decide_eq_true q1)
   refine aw_seq ?_
   refine aw_region ?_
   refine run_s (ss_move rfl) rfl ?_
   refine run_s (ss_move rfl) rfl ?_
   refine run_w (ws_buildSlice (id := 14) (ps := [(0, .tmp 13)]) rfl rfl (Nat.le_of_ble_eq_true rfl) rfl ⟨rfl, ?_⟩)
   refine run_gh (gh_fill (id := 14) (id2 := 800) (j := 0) rfl rfl (Nat.le_of_ble_eq_true rfl) rfl rfl rfl) ?_
   obtain ⟨q2, h⟩ := h
   refine run_w (ws_app1 (fun r => C.own (ints r)) (l := list) (m := [start]) rfl rfl rfl rfl rfl (Nat.le_of_ble_eq_true rfl) q2 ⟨rfl, ?_⟩)
   refine run_s (ss_assign rfl) rfl ?_
   refine run_nil ?_
   refine aw_ret ?_
   exact retAM_mk (retv1 rfl (rv_tmp rfl)) rfl rfl rfl ⟨_, h, rfl, rfl⟩
  ·replace h := h.2 (of_decide_eq_false q1)
   refine aw_skip ?_
   refine aw_seq ?_
   refine aw_seq ?_
   refine aw_gh (gh_to (n := 34) (σ' := [(800, ⟨ints start, []⟩), (801, ⟨orows list, []⟩)]) (env' := [(0, .c (ci n)), (1, .ref 800), (2, .ref 801), (34, .c (ci n))]) rfl rfl ⟨rfl, rfl, rfl, rfl, trivial⟩) ?_
   refine aw_region ?_
   refine run_s (ss_assign rfl) rfl ?_
   refine run_nil ?_
   refine aw_block ?_
   obtain ⟨H1, m1, q3, h⟩ := h
   refine aw_loop2 (fun (v7_1 : Int) (o801_1 : List (List Int)) => ⟨[(800, ⟨ints start, []⟩), (801, ⟨orows o801_1, []⟩)], [(0, .c (ci n)), (1, .ref 800), (2, .ref 801), (7, .c (ci v7_1)), (34, .c (ci n))], 34⟩) H1 m1 ⟨0, list, ghe_to (n := 34) rfl rfl ⟨rfl, rfl, rfl, rfl, rfl, trivial⟩, q3⟩ ?_
   rintro v7_1 o801_1 q3
   replace h := h v7_1 o801_1 q3
   refine aw_seq ?_
   refine aw_seq ?_
   refine aw_region ?_
   refine run_s (ss_move rfl) rfl ?_
   refine run_s (ss_move rfl) rfl ?_
   refine run_s (ss_lss rfl rfl) rfl ?_
   refine run_nil ?_
   refine aw_cond rfl (fun q4 => ?_) (fun q4 => ?_)
   ·replace h := h.1 (of_decide_eq_true q4)
    refine aw_skip ?_
    refine aw_seq ?_
    refine aw_block ?_
    refine aw_seq ?_
    refine aw_region ?_
    refine run_s (ss_move rfl) rfl ?_
    refine run_s (ss_move rfl) rfl ?_
    obtain ⟨q5, h⟩ := h
    refine run_w (ws_callR (xs := [.tmp 21, .tmp 22]) (cs := [.own (ints start), ci v7_1]) (ids := []) rfl (.inr ⟨rfl, rfl⟩) rfl rfl (fz_cons (fz_own (fz_map (fun _ => rfl) _)) (fz_cons rfl fz_nil)) (c_spec_l01Has start v7_1 q5) rfl ?_ )
    rintro _ rfl
    refine ⟨rfl, rfl, ?_⟩
    refine run_s (ss_not rfl) rfl ?_
    refine run_nil ?_
    refine aw_cond rfl (fun q7 => ?_) (fun q7 => ?_)
    ·replace h := h.1 ((bnot_t q7))
     refine aw_gh (gh_to (n := 34) (σ' := [(800, ⟨ints start, []⟩), (801, ⟨orows o801_1, []⟩)]) (env' := [(0, .c (ci n)), (1, .ref 800), (2, .ref 801), (7, .c (ci v7_1)), (34, .c (ci n))]) rfl rfl ⟨rfl, rfl, rfl, rfl, rfl, trivial⟩) ?_
     refine aw_region ?_
     refine run_s (ss_move rfl) rfl ?_
     refine run_s (ss_move rfl) rfl ?_
     obtain ⟨q8, h⟩ := h
     refine run_w (ws_callR (xs := [.tmp 26]) (cs := [.own (ints start)]) (ids := [27]) rfl (.inr ⟨rfl, rfl⟩) rfl rfl (fz_cons (fz_own (fz_map (fun _ => rfl) _)) fz_nil) (c_spec_l01Own start q8) rfl ?_ )
     rintro _ rfl
     refine ⟨(slf_own (slfL_map (f := ci) (fun _ => rfl) _)), rfl, ?_⟩
     refine run_s (ss_move rfl) rfl ?_
     refine run_w (ws_buildSlice (id := 29) (ps := [(0, .tmp 28)]) rfl rfl (Nat.le_of_ble_eq_true rfl) rfl ⟨rfl, ?_⟩)
     obtain ⟨q10, h⟩ := h
     refine run_w (ws_app1 ci (l := start) (m := [v7_1]) rfl rfl rfl rfl rfl (Nat.le_of_ble_eq_true rfl) q10 ⟨rfl, ?_⟩)
     refine run_s (ss_move rfl) rfl ?_
     obtain ⟨q11, h⟩ := h
     obtain ⟨q12, h⟩ := h
     refine run_w (ws_callC (xs := [.tmp 25, .tmp 30, .tmp 31]) (cs := [ci n, .own (ints (start ++ ([v7_1]))), .own (orows o801_1)]) (ids := [32]) rfl rfl rfl rfl (hrec n (start ++ ([v7_1])) o801_1 q11 q12) rfl ?_ )
     rintro _ _ ⟨rfl, rfl⟩
     refine ⟨rfl, ?_⟩
     refine run_s (ss_assign rfl) rfl ?_
     refine run_nil ?_
     refine aw_gh (gh_to (n := 34) (σ' := [(32, ⟨orows (o801_1 ++ growL n (start ++ ([v7_1]))), []⟩), (800, ⟨ints start, []⟩)]) (env' := [(0, .c (ci n)), (1, .ref 800), (2, .ref 32), (7, .c (ci v7_1)), (34, .c (ci n))]) rfl rfl ⟨rfl, rfl, rfl, rfl, rfl, trivial⟩) ?_
     refine aw_region ?_
     refine run_s (ss_move rfl) rfl ?_
     obtain ⟨q14, h⟩ := h
     refine run_s (ss_add rfl rfl q14) rfl ?_
     refine run_s (ss_assign rfl) rfl ?_
     refine run_nil ?_
     exact ⟨v7_1 + 1, o801_1 ++ growL n (start ++ ([v7_1])), ghe_step (gh_ren (a := 32) (b := 801) rfl rfl) (ghe_step (gh_to (n := 34) (σ' := [(801, ⟨orows (o801_1 ++ growL n (start ++ ([v7_1]))), []⟩), (800, ⟨ints start, []⟩)]) (env' := [(0, .c (ci n)), (1, .ref 800), (2, .ref 801), (7, .c (ci (v7_1 + 1))), (34, .c (ci n))]) rfl rfl ⟨rfl, rfl, rfl, rfl, rfl, trivial⟩) (ghe_step (gh_sort _) (ghe_to (n := 34) rfl rfl ⟨rfl, rfl, rfl, rfl, rfl, trivial⟩))), h.1, h.2⟩
    ·replace h := h.2 ((bnot_f q7))
     refine aw_skip ?_
     refine aw_gh (gh_to (n := 34) (σ' := [(800, ⟨ints start, []⟩), (801, ⟨orows o801_1, []⟩)]) (env' := [(0, .c (ci n)), (1, .ref 800), (2, .ref 801), (7, .c (ci v7_1)), (34, .c (ci n))]) rfl rfl ⟨rfl, rfl, rfl, rfl, rfl, trivial⟩) ?_
     refine aw_region ?_
     refine run_s (ss_move rfl) rfl ?_
     obtain ⟨q15, h⟩ := h
     refine run_s (ss_add rfl rfl q15) rfl ?_
     refine run_s (ss_assign rfl) rfl ?_
     refine run_nil ?_
     exact ⟨v7_1 + 1, o801_1, ghe_to (n := 34) rfl rfl ⟨rfl, rfl, rfl, rfl, rfl, trivial⟩, h.1, h.2⟩
   ·replace h := h.2 (of_decide_eq_false q4)
    refine aw_exit ?_
    refine aw_seq ?_
    refine aw_gh (gh_to (n := 34) (σ' := [(800, ⟨ints start, []⟩), (801, ⟨orows o801_1, []⟩)]) (env' := [(2, .ref 801), (34, .c (ci n))]) rfl rfl ⟨rfl, rfl, trivial⟩) ?_
    refine aw_region ?_
    refine run_s (ss_move rfl) rfl ?_
    refine run_s (ss_assign rfl) rfl ?_
    refine run_nil ?_
    refine aw_ret ?_
    exact retAM_mk (retv1 rfl (rv_tmp rfl)) rfl rfl rfl ⟨_, h, rfl, rfl⟩

theorem c_spec_l01Grow : ∀ (n : Int) (start : List Int) (list : List (List Int)), ((start.length : Int) ≤ n ∧ n ≤ 8 ∧ ((list ++ growL n start).length : Int) ≤ 100000000) → AM Try.prog 105 [ci n, .own (ints start), .own (orows list)] (fun R_ O_ => R_ = .own (orows (list ++ growL n start)) ∧ O_ = [ci n, .hole, .hole]) := by
  have key : ∀ (k_ : Nat) (n : Int) (start : List Int) (list : List (List Int)), (n - (start.length : Int)).toNat ≤ k_ → ((start.length : Int) ≤ n ∧ n ≤ 8 ∧ ((list ++ growL n start).length : Int) ≤ 100000000) → AM Try.prog 105 [ci n, .own (ints start), .own (orows list)] (fun R_ O_ => R_ = .own (orows (list ++ growL n start)) ∧ O_ = [ci n, .hole, .hole]) := by
    intro k_; induction k_ with
    | zero => intro n start list hn hp; exact (w_spec_l01Grow n start list (fun y0 => y0 = list ++ growL n start) (fun _ _ _ hlt => absurd hlt (by omega)) (p_spec_l01Grow n start list hp)).mono (by rintro r o ⟨_, rfl, rfl, rfl⟩; exact ⟨rfl, rfl⟩)
    | succ k_ ih => intro n start list hn hp; exact (w_spec_l01Grow n start list (fun y0 => y0 = list ++ growL n start) (fun n' start' list' hlt => ih n' start' list' (by omega)) (p_spec_l01Grow n start list hp)).mono (by rintro r o ⟨_, rfl, rfl, rfl⟩; exact ⟨rfl, rfl⟩)
  exact fun n start list => key _ n start list (Nat.le_refl _)

set_option maxRecDepth 100000 in
set_option maxHeartbeats 4000000 in
theorem w_spec_l01Perms (n : Int) (Q : List (List Int) → Prop) (h : wp_spec_l01Perms n Q) : AF Try.prog 58 [ci n] (fun R_ => ∃ y0, Q y0 ∧ R_ = .own (orows y0)) := by
  refine AF.ofWQ (af_enter (n := 7) Try.func58 rfl (by rfl) rfl (Nat.le_of_ble_eq_true rfl) ?_)
  unfold wp_spec_l01Perms at h
  refine aw_seq ?_
  refine aw_gh (gh_to (n := 7) (σ' := []) (env' := [(0, .c (ci n))]) rfl rfl ⟨rfl, trivial⟩) ?_
  refine aw_region ?_
  refine run_s (ss_assign rfl) rfl ?_
  refine run_nil ?_
  refine aw_seq ?_
  refine aw_region ?_
  refine run_s (ss_move rfl) rfl ?_
  refine run_w (ws_buildSlice (id := 4) (ps := []) rfl rfl (Nat.le_of_ble_eq_true rfl) rfl ⟨rfl, ?_⟩)
  refine run_w (ws_buildSlice (id := 5) (ps := []) rfl rfl (Nat.le_of_ble_eq_true rfl) rfl ⟨rfl, ?_⟩)
  obtain ⟨q1, h⟩ := h
  refine run_w (ws_callC (xs := [.tmp 3, .tmp 4, .tmp 5]) (cs := [ci n, .own (ints ([] : List Int)), .own (orows ([] : List (List Int)))]) (ids := [6]) rfl rfl rfl rfl (c_spec_l01Grow n ([] : List Int) ([] : List (List Int)) q1) rfl ?_ )
  rintro _ _ ⟨rfl, rfl⟩
  refine ⟨rfl, ?_⟩
  refine run_s (ss_assign rfl) rfl ?_
  refine run_nil ?_
  refine aw_ret ?_
  exact retAF_mk (retv1 rfl (rv_tmp rfl)) rfl rfl ⟨_, (cle_refl _), _, h, rfl⟩

theorem c_spec_l01Perms (n : Int) (hp : 0 ≤ n ∧ n ≤ 8) : AF Try.prog 58 [ci n] (fun R_ => R_ = .own (orows (growL n []))) :=
  (w_spec_l01Perms n (fun y0 => y0 = growL n []) (p_spec_l01Perms n hp)).mono (by rintro r ⟨_, rfl, rfl⟩; rfl)

set_option maxRecDepth 100000 in
set_option maxHeartbeats 4000000 in
theorem w_spec_l03Image (t : List (List Int)) (p : List Int) (Q : List (List Int) → Prop) (h : wp_spec_l03Image t p Q) : AF Try.prog 91 [.lst (rows t), .lst (ints p)] (fun R_ => ∃ y0, Q y0 ∧ R_ = .own (orows y0)) := by
  refine AF.ofWQ (af_enter (n := 45) Try.func91 rfl (by rfl) rfl (Nat.le_of_ble_eq_true rfl) ?_)
  unfold wp_spec_l03Image at h
  refine aw_seq ?_
  refine aw_gh (gh_to (n := 45) (σ' := []) (env' := [(0, .c (.lst (rows t))), (1, .c (.lst (ints p)))]) rfl rfl ⟨rfl, rfl, trivial⟩) ?_
  refine aw_region ?_
  refine run_s (ss_assign rfl) rfl ?_
  refine run_nil ?_
  refine aw_seq ?_
  refine aw_region ?_
  refine run_s (ss_move rfl) rfl ?_
  obtain ⟨q1, h⟩ := h
  refine run_w (ws_call (xs := [.tmp 8]) (ids := [9]) rfl rfl rfl rfl (c_spec_l01Own2 t q1) rfl ?_ )
  rintro _ rfl
  refine ⟨rfl, ?_⟩
  refine run_s (ss_assign rfl) rfl ?_
  refine run_nil ?_
  refine aw_seq ?_
  refine aw_seq ?_
  refine aw_region ?_
  refine run_s (ss_assign rfl) rfl ?_
  refine run_nil ?_
  refine aw_block ?_
  obtain ⟨H1, m1, q3, h⟩ := h
  refine aw_loop2 (fun (v6_1 : Int) (o9_1 : List (List Int)) => ⟨[(9, ⟨orows o9_1, []⟩)], [(0, .c (.lst (rows t))), (1, .c (.lst (ints p))), (5, .ref 9), (6, .c (ci v6_1))], 45⟩) H1 m1 ⟨0, t, ghe_to (n := 45) rfl rfl ⟨rfl, rfl, rfl, rfl, trivial⟩, q3⟩ ?_
  rintro v6_1 o9_1 q3
  replace h := h v6_1 o9_1 q3
  refine aw_seq ?_
  refine aw_seq ?_
  refine aw_region ?_
  refine run_s (ss_move rfl) rfl ?_
  refine run_s (ss_move rfl) rfl ?_
  refine run_s (ss_lenL (f := (fun r => C.lst (ints r))) rfl) rfl ?_
  refine run_s (ss_lss rfl rfl) rfl ?_
  refine run_nil ?_
  refine aw_cond rfl (fun q4 => ?_) (fun q4 => ?_)
  ·replace h := h.1 (of_decide_eq_true q4)
   refine aw_skip ?_
   refine aw_seq ?_
   refine aw_block ?_
   refine aw_seq ?_
   refine aw_gh (gh_to (n := 45) (σ' := [(9, ⟨orows o9_1, []⟩)]) (env' := [(0, .c (.lst (rows t))), (1, .c (.lst (ints p))), (5, .ref 9), (6, .c (ci v6_1))]) rfl rfl ⟨rfl, rfl, rfl, rfl, trivial⟩) ?_
   refine aw_region ?_
   refine run_s (ss_assign rfl) rfl ?_
   refine run_nil ?_
   refine aw_block ?_
   obtain ⟨H2, m2, q5, h⟩ := h
   refine aw_loop2 (fun (v7_2 : Int) (o9_2 : List (List Int)) => ⟨[(9, ⟨orows o9_2, []⟩)], [(0, .c (.lst (rows t))), (1, .c (.lst (ints p))), (5, .ref 9), (6, .c (ci v6_1)), (7, .c (ci v7_2))], 45⟩) H2 m2 ⟨0, o9_1, ghe_to (n := 45) rfl rfl ⟨rfl, rfl, rfl, rfl, rfl, trivial⟩, q5⟩ ?_
   rintro v7_2 o9_2 q5
   replace h := h v7_2 o9_2 q5
   refine aw_seq ?_
   refine aw_seq ?_
   refine aw_region ?_
   refine run_s (ss_move rfl) rfl ?_
   refine run_s (ss_move rfl) rfl ?_
   refine run_s (ss_lenL (f := (fun r => C.lst (ints r))) rfl) rfl ?_
   refine run_s (ss_lss rfl rfl) rfl ?_
   refine run_nil ?_
   refine aw_cond rfl (fun q6 => ?_) (fun q6 => ?_)
   ·replace h := h.1 (of_decide_eq_true q6)
    refine aw_skip ?_
    refine aw_seq ?_
    refine aw_block ?_
    refine aw_gh (gh_to (n := 45) (σ' := [(9, ⟨orows o9_2, []⟩)]) (env' := [(0, .c (.lst (rows t))), (1, .c (.lst (ints p))), (5, .ref 9), (6, .c (ci v6_1)), (7, .c (ci v7_2))]) rfl rfl ⟨rfl, rfl, rfl, rfl, rfl, trivial⟩) ?_
    refine aw_regionD (kd := kdl [0, 0, 0, 0, 1, 0, 1, 0, 0, 0, 1, 0, 0, 0, 0, 1, 0, 0, 1, 0, 1, 0, 3]) (ord := [0, 1, 2, 3, 7, 8, 9, 11, 12, 13, 14, 16, 4, 5, 6, 10, 15, 17, 18, 19, 20, 21, 22]) [] mixed (by kernel_rfl) ?_
    refine rd_s rfl rfl trivial (ss_move rfl) rfl ?_
    refine rd_s rfl rfl trivial (ss_move rfl) rfl ?_
    refine rd_s rfl rfl trivial (ss_move rfl) rfl ?_
    obtain ⟨q7, h⟩ := h
    refine rd_s rfl rfl trivial (ss_idxL rfl rfl q7) rfl ?_
    refine rd_s rfl rfl trivial (ss_move rfl) rfl ?_
    refine rd_s rfl rfl trivial (ss_move rfl) rfl ?_
    obtain ⟨q8, h⟩ := h
    refine rd_s rfl rfl trivial (ss_idxL rfl rfl q8) rfl ?_
    refine rd_s rfl rfl trivial (ss_move rfl) rfl ?_
    refine rd_s rfl rfl trivial (ss_move rfl) rfl ?_
    refine rd_s rfl rfl trivial (ss_move rfl) rfl ?_
    obtain ⟨q9, h⟩ := h
    refine rd_s rfl rfl trivial (ss_idxL rfl rfl q9) rfl ?_
    refine rd_s rfl rfl trivial (ss_move rfl) rfl ?_
    refine rd_l rfl rfl trivial (ss_loadL (f := ci) rfl q7) rfl ?_
    obtain ⟨q10, h⟩ := h
    refine rd_s rfl rfl trivial (ss_idxR (f := (fun r => C.own (ints r))) rfl rfl rfl q10) rfl ?_
    refine rd_open 1001 (id := 9) (j := (el p v6_1).toNat) rfl (map_get (f := (fun r => C.own (ints r))) q10) rfl rfl rfl ?_
    refine rd_l rfl rfl trivial (ss_loadH rfl rfl lk_self rfl) rfl ?_
    refine rd_l rfl rfl trivial (ss_loadL (f := ci) rfl q8) rfl ?_
    refine rd_l rfl rfl trivial (ss_loadL (f := (fun r => C.lst (ints r))) rfl q9) rfl ?_
    obtain ⟨q11, h⟩ := h
    refine rd_s rfl rfl trivial (ss_idxL rfl rfl q11) rfl ?_
    refine rd_l rfl rfl trivial (ss_loadL (f := ci) rfl q11) rfl ?_
    obtain ⟨q12, h⟩ := h
    refine rd_s rfl rfl trivial (ss_idxL rfl rfl q12) rfl ?_
    refine rd_l rfl rfl trivial (ss_loadL (f := ci) rfl q12) rfl ?_
    obtain ⟨q13, h⟩ := h
    refine rd_s rfl rfl trivial (ss_idxR (f := ci) rfl rfl rfl q13) rfl ?_
    refine rd_f rfl rfl trivial (ws_storeE rfl rfl (map_lt q13) rfl rfl (map_se (f := ci)) rfl ⟨rfl, ?_⟩)
    refine rd_nil ?_
    refine aw_gh (gh_to (n := 45) (σ' := [(1001, ⟨ints (se (el o9_2 (el p v6_1)) (el p v7_2) (el p (el (el t v6_1) v7_2))), []⟩), (9, ⟨(orows o9_2).set (el p v6_1).toNat .hole, [((el p v6_1).toNat, .ref 1001)]⟩)]) (env' := [(0, .c (.lst (rows t))), (1, .c (.lst (ints p))), (5, .ref 9), (6, .c (ci v6_1)), (7, .c (ci v7_2))]) rfl rfl ⟨rfl, rfl, rfl, rfl, rfl, trivial⟩) ?_
    refine aw_region ?_
    refine run_s (ss_move rfl) rfl ?_
    obtain ⟨q14, h⟩ := h
    refine run_s (ss_add rfl rfl q14) rfl ?_
    refine run_s (ss_assign rfl) rfl ?_
    refine run_nil ?_
    exact ⟨v7_2 + 1, se o9_2 (el p v6_1) (se (el o9_2 (el p v6_1)) (el p v7_2) (el p (el (el t v6_1) v7_2))), ghe_step (gh_fillA (id := 9) (id2 := 1001) (f := (fun r => C.own (ints r))) (v := se (el o9_2 (el p v6_1)) (el p v7_2) (el p (el (el t v6_1) v7_2))) rfl lk_self rfl q10 rfl rfl kr_self) (ghe_to (n := 45) rfl rfl ⟨rfl, rfl, rfl, rfl, rfl, trivial⟩), h.1, h.2⟩
   ·replace h := h.2 (of_decide_eq_false q6)
    refine aw_exit ?_
    refine aw_gh (gh_to (n := 45) (σ' := [(9, ⟨orows o9_2, []⟩)]) (env' := [(0, .c (.lst (rows t))), (1, .c (.lst (ints p))), (5, .ref 9), (6, .c (ci v6_1))]) rfl rfl ⟨rfl, rfl, rfl, rfl, trivial⟩) ?_
    refine aw_region ?_
    refine run_s (ss_move rfl) rfl ?_
    obtain ⟨q15, h⟩ := h
    refine run_s (ss_add rfl rfl q15) rfl ?_
    refine run_s (ss_assign rfl) rfl ?_
    refine run_nil ?_
    exact ⟨v6_1 + 1, o9_2, ghe_to (n := 45) rfl rfl ⟨rfl, rfl, rfl, rfl, trivial⟩, h.1, h.2⟩
  ·replace h := h.2 (of_decide_eq_false q4)
   refine aw_exit ?_
   refine aw_seq ?_
   refine aw_gh (gh_to (n := 45) (σ' := [(9, ⟨orows o9_1, []⟩)]) (env' := [(5, .ref 9)]) rfl rfl ⟨rfl, trivial⟩) ?_
   refine aw_region ?_
   refine run_s (ss_move rfl) rfl ?_
   refine run_s (ss_assign rfl) rfl ?_
   refine run_nil ?_
   refine aw_ret ?_
   exact retAF_mk (retv1 rfl (rv_tmp rfl)) rfl rfl ⟨_, (cle_refl _), _, h, rfl⟩

theorem c_spec_l03Image (t : List (List Int)) (p : List Int) (hp : isTab t = true ∧ (p.length : Int) = (t.length : Int) ∧ ∀ z_ ∈ p, 0 ≤ z_ ∧ z_ < (t.length : Int)) : AF Try.prog 91 [.lst (rows t), .lst (ints p)] (fun R_ => ∃ y0, (isTab y0 = true ∧ y0.length = t.length ∧ (isPerm p = true → ∀ u_ v_ : Int, (0 ≤ u_ ∧ u_ < (t.length : Int)) → (0 ≤ v_ ∧ v_ < (t.length : Int)) → el (el y0 (el p u_)) (el p v_) = el p (el (el t u_) v_))) ∧ R_ = .own (orows y0)) :=
  w_spec_l03Image t p (fun y0 => isTab y0 = true ∧ y0.length = t.length ∧ (isPerm p = true → ∀ u_ v_ : Int, (0 ≤ u_ ∧ u_ < (t.length : Int)) → (0 ≤ v_ ∧ v_ < (t.length : Int)) → el (el y0 (el p u_)) (el p v_) = el p (el (el t u_) v_))) (p_spec_l03Image t p hp)

end Go.Proofs.Ytpcnbdjommcaoaa

/- Contracts of functions that the law FnRackMaps reaches: conditions, plain proofs, walks; no condition. -/
import Derived.Test.YtjolbldlhjfciaaKRackMapsa
import Derived.Test.YtjolbldlhjfciaaPP
namespace Go.Proofs.Ytjolbldlhjfciaa

def wp_k_Index (s : List Int) (v : Int) (Q : Int → Prop) : Prop :=
 ∃ (H1 : Int → Prop) (m1 : Int → Nat),
 H1 0 ∧
 ∀ (v8_1 : Int), H1 v8_1 →
 ( ((v8_1 < (s.length : Int) →
 (0 ≤ v8_1 ∧ v8_1 < (s.length : Int)) ∧
 ((v = el s v8_1 →
 Q v8_1) ∧
 (¬ (v = el s v8_1) →
 (InI (v8_1 + 1)) ∧
 (H1 (v8_1 + 1) ∧ m1 (v8_1 + 1) < m1 v8_1)))) ∧
 (¬ (v8_1 < (s.length : Int)) →
 Q (-1))))

def wp_k_Clone (s : List Int) (Q : List Int → Prop) : Prop :=
 ∀ (b1 : Bool), (b1 = true → s = []) →
 ((b1 = true →
 Q ([])) ∧
 (b1 = false →
 ((([] : List Int).length : Int) + (s.length : Int) ≤ 1000000000) ∧
 Q (([] : List Int) ++ s)))

def wp_spec_l01Same (a : List Int) (b : List Int) (Q : Bool → Prop) : Prop :=
 ((¬ ((a.length : Int) = (b.length : Int)) →
 Q false) ∧
 ((a.length : Int) = (b.length : Int) →
 ∃ (H1 : Int → Prop) (m1 : Int → Nat),
 H1 0 ∧
 ∀ (v5_1 : Int), H1 v5_1 →
 ( ((v5_1 < (a.length : Int) →
 (0 ≤ v5_1 ∧ v5_1 < (a.length : Int)) ∧
 (0 ≤ v5_1 ∧ v5_1 < (b.length : Int)) ∧
 ((¬ (el a v5_1 = el b v5_1) →
 Q false) ∧
 (el a v5_1 = el b v5_1 →
 (InI (v5_1 + 1)) ∧
 (H1 (v5_1 + 1) ∧ m1 (v5_1 + 1) < m1 v5_1)))) ∧
 (¬ (v5_1 < (a.length : Int)) →
 Q true)))))

def wp_spec_l01Then (p : List Int) (q : List Int) (Q : List Int → Prop) : Prop :=
 ∃ (H1 : Int → List Int → Prop) (m1 : Int → List Int → Nat),
 H1 0 ([] : List Int) ∧
 ∀ (v6_1 : Int) (o7_1 : List Int), H1 v6_1 o7_1 →
 ( ((v6_1 < (p.length : Int) →
 (0 ≤ v6_1 ∧ v6_1 < (p.length : Int)) ∧
 (0 ≤ el p v6_1 ∧ el p v6_1 < (q.length : Int)) ∧
 ((o7_1.length : Int) + (([el q (el p v6_1)]).length : Int) ≤ 1000000000) ∧
 (InI (v6_1 + 1)) ∧
 (H1 (v6_1 + 1) (o7_1 ++ ([el q (el p v6_1)])) ∧ m1 (v6_1 + 1) (o7_1 ++ ([el q (el p v6_1)])) < m1 v6_1 o7_1)) ∧
 (¬ (v6_1 < (p.length : Int)) →
 Q o7_1)))

def wp_spec_l01Back (p : List Int) (Q : List Int → Prop) : Prop :=
 (0 ≤ (p.length : Int) ∧ (p.length : Int) ≤ 1000000000) ∧
 ∃ (H1 : Int → List Int → Prop) (m1 : Int → List Int → Nat),
 H1 0 (List.replicate (p.length : Int).toNat (0 : Int)) ∧
 ∀ (v4_1 : Int) (o7_1 : List Int), H1 v4_1 o7_1 →
 ( ((v4_1 < (p.length : Int) →
 (0 ≤ v4_1 ∧ v4_1 < (p.length : Int)) ∧
 (0 ≤ el p v4_1 ∧ el p v4_1 < (o7_1.length : Int)) ∧
 (InI (v4_1 + 1)) ∧
 (H1 (v4_1 + 1) (se o7_1 (el p v4_1) v4_1) ∧ m1 (v4_1 + 1) (se o7_1 (el p v4_1) v4_1) < m1 v4_1 o7_1)) ∧
 (¬ (v4_1 < (p.length : Int)) →
 Q o7_1)))

def wp_impl_permutationRows_1 (row : List Int) (Q : Bool → Prop) : Prop :=
 (small row) ∧
 Q (!((isPerm row)))

def wp_impl_permutationRows (t : List (List Int)) (Q : Bool → Prop) : Prop :=
 (small t ∧ ∀ r_ ∈ t, (fun z0 => small z0) r_) ∧
 Q (!((t.any (fun z0 => !isPerm z0))))

def wp_impl_rackFault (t : List (List Int)) (Q : List Int → Prop) : Prop :=
 ∃ (H1 : Int → Prop) (m1 : Int → Nat),
 H1 0 ∧
 ∀ (v10_1 : Int), H1 v10_1 →
 ( ((v10_1 < (t.length : Int) →
 ∃ (H2 : Int → Prop) (m2 : Int → Nat),
 H2 0 ∧
 ∀ (v14_2 : Int), H2 v14_2 →
 ( ((v14_2 < (t.length : Int) →
 ∃ (H3 : Int → Prop) (m3 : Int → Nat),
 H3 0 ∧
 ∀ (v18_3 : Int), H3 v18_3 →
 ( ((v18_3 < (t.length : Int) →
 (0 ≤ v10_1 ∧ v10_1 < (t.length : Int)) ∧
 (0 ≤ v14_2 ∧ v14_2 < (t.length : Int)) ∧
 (0 ≤ v10_1 ∧ v10_1 < (t.length : Int)) ∧
 (0 ≤ v10_1 ∧ v10_1 < (t.length : Int)) ∧
 (0 ≤ v18_3 ∧ v18_3 < ((el t v14_2).length : Int)) ∧
 (0 ≤ el (el t v14_2) v18_3 ∧ el (el t v14_2) v18_3 < ((el t v10_1).length : Int)) ∧
 (0 ≤ v14_2 ∧ v14_2 < ((el t v10_1).length : Int)) ∧
 (0 ≤ el (el t v10_1) v14_2 ∧ el (el t v10_1) v14_2 < (t.length : Int)) ∧
 (0 ≤ v18_3 ∧ v18_3 < ((el t v10_1).length : Int)) ∧
 (0 ≤ el (el t v10_1) v18_3 ∧ el (el t v10_1) v18_3 < ((el t (el (el t v10_1) v14_2)).length : Int)) ∧
 ((¬ (el (el t v10_1) (el (el t v14_2) v18_3) = el (el t (el (el t v10_1) v14_2)) (el (el t v10_1) v18_3)) →
 Q ([v10_1, v14_2, v18_3])) ∧
 (el (el t v10_1) (el (el t v14_2) v18_3) = el (el t (el (el t v10_1) v14_2)) (el (el t v10_1) v18_3) →
 (InI (v18_3 + 1)) ∧
 (H3 (v18_3 + 1) ∧ m3 (v18_3 + 1) < m3 v18_3)))) ∧
 (¬ (v18_3 < (t.length : Int)) →
 (InI (v14_2 + 1)) ∧
 (H2 (v14_2 + 1) ∧ m2 (v14_2 + 1) < m2 v14_2))))) ∧
 (¬ (v14_2 < (t.length : Int)) →
 (InI (v10_1 + 1)) ∧
 (H1 (v10_1 + 1) ∧ m1 (v10_1 + 1) < m1 v10_1))))) ∧
 (¬ (v10_1 < (t.length : Int)) →
 Q ([]))))

def wp_spec_l03Fault (t : List (List Int)) (Q : List Int → Prop) : Prop :=
 ∃ (H1 : Int → Prop) (m1 : Int → Nat),
 H1 0 ∧
 ∀ (v4_1 : Int), H1 v4_1 →
 ( ((v4_1 < (t.length : Int) →
 ∃ (H2 : Int → Prop) (m2 : Int → Nat),
 H2 0 ∧
 ∀ (v5_2 : Int), H2 v5_2 →
 ( ((v5_2 < (t.length : Int) →
 ∃ (H3 : Int → Prop) (m3 : Int → Nat),
 H3 0 ∧
 ∀ (v6_3 : Int), H3 v6_3 →
 ( ((v6_3 < (t.length : Int) →
 (0 ≤ v4_1 ∧ v4_1 < (t.length : Int)) ∧
 (0 ≤ v5_2 ∧ v5_2 < (t.length : Int)) ∧
 (0 ≤ v4_1 ∧ v4_1 < (t.length : Int)) ∧
 (0 ≤ v4_1 ∧ v4_1 < (t.length : Int)) ∧
 (0 ≤ v6_3 ∧ v6_3 < ((el t v5_2).length : Int)) ∧
 (0 ≤ el (el t v5_2) v6_3 ∧ el (el t v5_2) v6_3 < ((el t v4_1).length : Int)) ∧
 (0 ≤ v5_2 ∧ v5_2 < ((el t v4_1).length : Int)) ∧
 (0 ≤ el (el t v4_1) v5_2 ∧ el (el t v4_1) v5_2 < (t.length : Int)) ∧
 (0 ≤ v6_3 ∧ v6_3 < ((el t v4_1).length : Int)) ∧
 (0 ≤ el (el t v4_1) v6_3 ∧ el (el t v4_1) v6_3 < ((el t (el (el t v4_1) v5_2)).length : Int)) ∧
 ((¬ (el (el t v4_1) (el (el t v5_2) v6_3) = el (el t (el (el t v4_1) v5_2)) (el (el t v4_1) v6_3)) →
 Q ([v4_1, v5_2, v6_3])) ∧
 (el (el t v4_1) (el (el t v5_2) v6_3) = el (el t (el (el t v4_1) v5_2)) (el (el t v4_1) v6_3) →
 (InI (v6_3 + 1)) ∧
 (H3 (v6_3 + 1) ∧ m3 (v6_3 + 1) < m3 v6_3)))) ∧
 (¬ (v6_3 < (t.length : Int)) →
 (InI (v5_2 + 1)) ∧
 (H2 (v5_2 + 1) ∧ m2 (v5_2 + 1) < m2 v5_2))))) ∧
 (¬ (v5_2 < (t.length : Int)) →
 (InI (v4_1 + 1)) ∧
 (H1 (v4_1 + 1) ∧ m1 (v4_1 + 1) < m1 v4_1))))) ∧
 (¬ (v4_1 < (t.length : Int)) →
 Q ([]))))

def wp_impl_IsRack (r : List (List Int)) (Q : Bool → Prop) : Prop :=
 (small2 r) ∧
 (((isTab r) = true →
 (small2 r) ∧
 (((r.all isPerm) = true →
 (((rackF r) = [] →
 (isTab r = true) ∧
 Q true) ∧
 (¬ (rackF r) = [] →
 (isTab r = true) ∧
 Q false))) ∧
 ((r.all isPerm) = false →
 Q false))) ∧
 ((isTab r) = false →
 Q false))

def wp_spec_l03Is (r : List (List Int)) (Q : Bool → Prop) : Prop :=
 (small2 r) ∧
 (((isTab r) = false →
 Q false) ∧
 ((isTab r) = true →
 ∃ (H1 : Int → Prop) (m1 : Int → Nat),
 H1 0 ∧
 ∀ (v3_1 : Int), H1 v3_1 →
 ( ((v3_1 < (r.length : Int) →
 (0 ≤ v3_1 ∧ v3_1 < (r.length : Int)) ∧
 (small (el r v3_1)) ∧
 (((permB (el r v3_1)) = false →
 Q false) ∧
 ((permB (el r v3_1)) = true →
 (InI (v3_1 + 1)) ∧
 (H1 (v3_1 + 1) ∧ m1 (v3_1 + 1) < m1 v3_1)))) ∧
 (¬ (v3_1 < (r.length : Int)) →
 (isTab r = true) ∧
 Q (decide (((rackF r).length : Int) = 0)))))))

theorem p_k_Index (s : List Int) (v : Int) (hp : small s) : wp_k_Index s v (fun y0 => y0 = idxI s v) := by
  unfold wp_k_Index idxI
  refine ⟨fun i => 0 ≤ i ∧ i ≤ (s.length : Int) ∧ Upto i fun j => (el s j == v) = false, fun i => ((s.length : Int) - i).toNat, ⟨by omega, by omega, upto0⟩, ?_⟩
  rintro i ⟨h0, h1, hI⟩
  dsimp only
  refine ⟨fun hlt => ⟨⟨h0, hlt⟩, fun hf => (idxF_found ⟨h0, hlt⟩ hI (by simp [hf])).symm, fun ht => ⟨⟨by omega, by omega⟩, ⟨by omega, by omega, upto1 hI (by simpa using fun e => ht e.symm)⟩, by omega⟩⟩, fun hge => ?_⟩
  exact (idxF_none (by rwa [show i = (s.length : Int) by omega] at hI)).symm
theorem p_k_Clone (s : List Int) (hp : small s) : wp_k_Clone s (fun y0 => y0 = s) := by
  unfold wp_k_Clone
  exact fun b hb => ⟨fun h => (hb h).symm, fun _ => ⟨by simp; omega, rfl⟩⟩
theorem p_spec_l01Same (a b : List Int) (hp : small a ∧ small b) : wp_spec_l01Same a b (fun y0 => y0 = decide (a = b)) := by
  unfold wp_spec_l01Same
  obtain ⟨ha, hb⟩ := hp
  refine ⟨fun h => (decide_eq_false fun e => h (by rw [e])).symm, fun h => ⟨fun i => 0 ≤ i ∧ i ≤ (a.length : Int) ∧ Upto i fun j => el a j = el b j, fun i => ((a.length : Int) - i).toNat, ⟨by omega, by omega, upto0⟩, ?_⟩⟩
  rintro i ⟨h0, h1, hI⟩
  dsimp only
  refine ⟨fun hlt => ⟨⟨h0, hlt⟩, ⟨h0, by omega⟩, fun hf => (decide_eq_false fun e => hf (by rw [e])).symm, fun ht => ⟨⟨by omega, by omega⟩, ⟨by omega, by omega, upto1 hI ht⟩, by omega⟩⟩, fun hge => ?_⟩
  exact (decide_eq_true (ext_el (by omega) fun j h2 h3 => hI j h2 (by omega))).symm
theorem p_spec_l01Then (p q : List Int) (hp : small p ∧ ∀ x_ ∈ p, 0 ≤ x_ ∧ x_ < (q.length : Int)) : wp_spec_l01Then p q (fun y0 => y0 = p.map (el q)) := by
  unfold wp_spec_l01Then
  obtain ⟨h1, h2⟩ := hp
  refine ⟨fun i o => 0 ≤ i ∧ i ≤ (p.length : Int) ∧ o.length = i.toNat ∧ Upto i fun x => el o x = el q (el p x), fun i _ => ((p.length : Int) - i).toNat, ⟨by omega, by omega, by simp, upto0⟩, ?_⟩
  rintro i o ⟨i0, i1, il, iI⟩
  dsimp only
  refine ⟨fun ilt => ⟨⟨i0, ilt⟩, h2 _ (el_mem ⟨i0, ilt⟩), by simp; omega, ⟨by omega, by omega⟩, ⟨by omega, by omega, by simp; omega, app1 (f := fun x => el q (el p x)) (by omega) iI rfl⟩, by omega⟩, fun ige => ext_el (by simp; omega) fun j a b => ?_⟩
  rw [el_map ⟨a, by omega⟩]; exact iI j a (by omega)
theorem p_spec_l01Back (p : List Int) (hp : small p ∧ isPerm p = true) : wp_spec_l01Back p (fun y0 => y0 = backI p) := by
  unfold wp_spec_l01Back
  obtain ⟨h1, h2⟩ := hp
  refine ⟨⟨by omega, h1⟩, fun i o => 0 ≤ i ∧ i ≤ (p.length : Int) ∧ o.length = p.length ∧ Upto i fun j => el o (el p j) = j, fun i _ => ((p.length : Int) - i).toNat, ⟨by omega, by omega, by simp, upto0⟩, ?_⟩
  rintro i o ⟨h0, h3, hl, hI⟩
  dsimp only
  refine ⟨fun hlt => ?_, fun hge => backI_uniq h2 hl fun j a b => hI j a (by omega)⟩
  have hb := isPerm_el h2 ⟨h0, hlt⟩
  refine ⟨⟨h0, hlt⟩, ⟨hb.1, by omega⟩, ⟨by omega, by omega⟩, ⟨by omega, by omega, by simp [hl], upto1 (fun j a b => ?_) (by rw [el_se_same ⟨hb.1, by omega⟩])⟩, by omega⟩
  have hj := isPerm_el h2 (i := j) ⟨a, by omega⟩
  rw [el_se_ne hb.1 hj.1 fun e => by have := isPerm_inj h2 ⟨h0, hlt⟩ ⟨a, by omega⟩ e; omega]
  exact hI j a b
theorem p_impl_permutationRows_1 (row : List Int) (hp : small row) : wp_impl_permutationRows_1 row (fun y0 => y0 = !isPerm row) := ⟨hp, rfl⟩
theorem p_impl_permutationRows (t : List (List Int)) (hp : small2 t) : wp_impl_permutationRows t (fun y0 => y0 = t.all isPerm) := by
  refine ⟨⟨hp.1, hp.2⟩, ?_⟩
  rw [List.not_any_eq_all_not]; simp
theorem p_spec_l03Fault (t : List (List Int)) (hp : isTab t = true) : wp_spec_l03Fault t (fun y0 => y0 = rackF t) := by
  unfold wp_spec_l03Fault rackF
  have hn := isTab_len hp
  have tr := fun (i : Int) (hi : 0 ≤ i ∧ i < (t.length : Int)) => isTab_row hp hi
  refine ⟨fun x => 0 ≤ x ∧ x ≤ (t.length : Int) ∧ Upto x fun a => ∀ b, 0 ≤ b → b < (t.length : Int) → ∀ c, 0 ≤ c → c < (t.length : Int) → rackB t a b c = false, fun x => ((t.length : Int) - x).toNat, ⟨by omega, by omega, upto0⟩, ?_⟩
  rintro x ⟨x0, x1, xI⟩
  dsimp only
  refine ⟨fun xlt => ?_, fun xge => (first3_none fun a h1 h2 => xI a h1 (by omega)).symm⟩
  refine ⟨fun y => 0 ≤ y ∧ y ≤ (t.length : Int) ∧ Upto y fun b => ∀ c, 0 ≤ c → c < (t.length : Int) → rackB t x b c = false, fun y => ((t.length : Int) - y).toNat, ⟨by omega, by omega, upto0⟩, ?_⟩
  rintro y ⟨y0, y1, yI⟩
  dsimp only
  refine ⟨fun ylt => ?_, fun yge => ⟨⟨by omega, by omega⟩, ⟨by omega, by omega, upto1 xI fun b h1 h2 => yI b h1 (by omega)⟩, by omega⟩⟩
  refine ⟨fun z => 0 ≤ z ∧ z ≤ (t.length : Int) ∧ Upto z fun c => rackB t x y c = false, fun z => ((t.length : Int) - z).toNat, ⟨by omega, by omega, upto0⟩, ?_⟩
  rintro z ⟨z0, z1, zI⟩
  dsimp only
  refine ⟨fun zlt => ?_, fun zge => ⟨⟨by omega, by omega⟩, ⟨by omega, by omega, upto1 yI fun c h1 h2 => zI c h1 (by omega)⟩, by omega⟩⟩
  have hx := tr x ⟨x0, xlt⟩
  have hy := tr y ⟨y0, ylt⟩
  have xy := hx.2 y y0 ylt
  have xz := hx.2 z z0 zlt
  have yz := hy.2 z z0 zlt
  have r1 := tr _ xy
  refine ⟨⟨x0, xlt⟩, ⟨y0, ylt⟩, ⟨x0, xlt⟩, ⟨x0, xlt⟩, ⟨z0, by omega⟩, ⟨yz.1, by omega⟩, ⟨y0, by omega⟩, xy, ⟨z0, by omega⟩, ⟨xz.1, by omega⟩, fun h => ?_, fun h => ⟨⟨by omega, by omega⟩, ⟨by omega, by omega, upto1 zI (by simp [rackB, h])⟩, by omega⟩⟩
  exact (first3_found ⟨x0, xlt⟩ ⟨y0, ylt⟩ ⟨z0, zlt⟩ (by simp [rackB, h]) xI yI zI).symm
theorem p_impl_rackFault (t : List (List Int)) (hp : isTab t = true) : wp_impl_rackFault t (fun y0 => y0 = rackF t) := p_spec_l03Fault t hp
theorem isEmpty_iff_nil {l : List Int} : l.isEmpty = decide ((l.length : Int) = 0) := by cases l <;> simp; omega
theorem p_impl_IsRack (r : List (List Int)) (hp : small2 r) : wp_impl_IsRack r (fun y0 => y0 = isRk r) := by
  unfold wp_impl_IsRack isRk
  refine ⟨hp, fun h => ⟨hp, fun h2 => ⟨fun h3 => ⟨h, ?_⟩, fun h3 => ⟨h, ?_⟩⟩, fun h2 => ?_⟩, fun h => ?_⟩
  · rw [h, h2, h3]; rfl
  · rw [h, h2]; cases e : rackF r with
    | nil => exact absurd e h3
    | cons x l => rfl
  · rw [h, h2]; rfl
  · rw [h]; rfl
theorem p_spec_l03Is (r : List (List Int)) (hp : small2 r) : wp_spec_l03Is r (fun y0 => y0 = isRk r) := by
  unfold wp_spec_l03Is isRk
  refine ⟨hp, fun h => by rw [h]; rfl, fun h => ?_⟩
  rw [h, ← isTab_perm h, isEmpty_iff_nil]
  refine ⟨fun i => 0 ≤ i ∧ i ≤ (r.length : Int) ∧ Upto i fun j => permB (el r j) = true, fun i => ((r.length : Int) - i).toNat, ⟨by omega, by omega, upto0⟩, ?_⟩
  rintro i ⟨h0, h3, hI⟩
  dsimp only
  refine ⟨fun hlt => ⟨⟨h0, hlt⟩, hp.2 _ (el_mem ⟨h0, hlt⟩), fun hf => by rw [all_f ⟨h0, hlt⟩ hf]; rfl, fun ht => ⟨⟨by have := isTab_len h; omega, by have := isTab_len h; omega⟩, ⟨by omega, by omega, upto1 hI ht⟩, by omega⟩⟩, fun hge => ⟨rfl, ?_⟩⟩
  rw [all_t (by rwa [show i = (r.length : Int) by omega] at hI)]; rfl
set_option maxRecDepth 100000 in
set_option maxHeartbeats 4000000 in
theorem w_k_Index (s : List Int) (v : Int) (Q : Int → Prop) (h : wp_k_Index s v Q) : AF Try.prog 48 [.lst (ints s), ci v] (fun R_ => ∃ y0, Q y0 ∧ R_ = ci y0) := by
  refine AF.ofWQ (af_enter (n := 19) Try.func48 rfl (by rfl) rfl (Nat.le_of_ble_eq_true rfl) ?_)
  unfold wp_k_Index at h
  refine aw_seq ?_
  refine aw_gh (gh_to (n := 19) (σ' := []) (env' := [(0, .c (.lst (ints s))), (1, .c (ci v))]) rfl rfl ⟨rfl, rfl, trivial⟩) ?_
  refine aw_region ?_
  refine run_s (ss_assign rfl) rfl ?_
  refine run_nil ?_
  refine aw_seq ?_
  refine aw_seq ?_
  refine aw_region ?_
  refine run_s (ss_move rfl) rfl ?_
  refine run_s (ss_lenL (f := ci) rfl) rfl ?_
  refine run_s (ss_move rfl) rfl ?_
  refine run_nil ?_
  refine aw_block ?_
  obtain ⟨H1, m1, q1, h⟩ := h
  refine aw_loop1 (fun (v8_1 : Int) => ⟨[], [(0, .c (.lst (ints s))), (1, .c (ci v)), (7, .c (ci (s.length : Int))), (8, .c (ci v8_1))], 19⟩) H1 m1 ⟨0, ghe_to (n := 19) rfl rfl ⟨rfl, rfl, rfl, rfl, trivial⟩, q1⟩ ?_
  rintro v8_1 q1
  replace h := h v8_1 q1
  refine aw_seq ?_
  refine aw_region ?_
  refine run_s (ss_lss rfl rfl) rfl ?_
  refine run_nil ?_
  refine aw_seq ?_
  refine aw_cond rfl (fun q2 => ?_) (fun q2 => ?_)
  ·replace h := h.1 (of_decide_eq_true q2)
   refine aw_skip ?_
   refine aw_seq ?_
   refine aw_block ?_
   refine aw_seq ?_
   refine aw_region ?_
   refine run_s (ss_move rfl) rfl ?_
   refine run_s (ss_assign rfl) rfl ?_
   refine run_nil ?_
   refine aw_seq ?_
   refine aw_region ?_
   refine run_s (ss_move rfl) rfl ?_
   refine run_s (ss_move rfl) rfl ?_
   refine run_s (ss_move rfl) rfl ?_
   obtain ⟨q3, h⟩ := h
   refine run_s (ss_idxL rfl rfl q3) rfl ?_
   refine run_s (ss_loadL (f := ci) rfl q3) rfl ?_
   refine run_s (ss_eql rfl rfl) rfl ?_
   refine run_nil ?_
   refine aw_cond rfl (fun q4 => ?_) (fun q4 => ?_)
   ·replace h := h.1 (of_decide_eq_true q4)
    refine aw_seq ?_
    refine aw_gh (gh_to (n := 19) (σ' := []) (env' := [(5, .c (ci v8_1))]) rfl rfl ⟨rfl, trivial⟩) ?_
    refine aw_region ?_
    refine run_s (ss_move rfl) rfl ?_
    refine run_s (ss_assign rfl) rfl ?_
    refine run_nil ?_
    refine aw_ret ?_
    exact retAF_mk (retv1 rfl (rv_tmp rfl)) rfl rfl ⟨_, (cle_refl _), _, h, rfl⟩
   ·replace h := h.2 (of_decide_eq_false q4)
    refine aw_skip ?_
    refine aw_gh (gh_to (n := 19) (σ' := []) (env' := [(0, .c (.lst (ints s))), (1, .c (ci v)), (7, .c (ci (s.length : Int))), (8, .c (ci v8_1))]) rfl rfl ⟨rfl, rfl, rfl, rfl, trivial⟩) ?_
    refine aw_region ?_
    obtain ⟨q5, h⟩ := h
    refine run_s (ss_add rfl rfl q5) rfl ?_
    refine run_s (ss_move rfl) rfl ?_
    refine run_nil ?_
    exact ⟨v8_1 + 1, ghe_to (n := 19) rfl rfl ⟨rfl, rfl, rfl, rfl, trivial⟩, h.1, h.2⟩
  ·replace h := h.2 (of_decide_eq_false q2)
   refine aw_exit ?_
   refine aw_seq ?_
   refine aw_gh (gh_to (n := 19) (σ' := []) (env' := []) rfl rfl trivial) ?_
   refine aw_region ?_
   refine run_s (ss_assign rfl) rfl ?_
   refine run_nil ?_
   refine aw_ret ?_
   exact retAF_mk (retv1 rfl (rv_tmp rfl)) rfl rfl ⟨_, (cle_refl _), _, h, rfl⟩

theorem c_k_Index (s : List Int) (v : Int) (hp : small s) : AF Try.prog 48 [.lst (ints s), ci v] (fun R_ => R_ = ci (idxI s v)) :=
  (w_k_Index s v (fun y0 => y0 = idxI s v) (p_k_Index s v hp)).mono (by rintro r ⟨_, rfl, rfl⟩; rfl)

set_option maxRecDepth 100000 in
set_option maxHeartbeats 4000000 in
theorem w_k_Clone (s : List Int) (Q : List Int → Prop) (h : wp_k_Clone s Q) : AF Try.prog 29 [.lst (ints s)] (fun R_ => ∃ y0, Q y0 ∧ R_ = .own (ints y0)) := by
  refine AF.ofWQ (af_enter (n := 8) Try.func29 rfl (by rfl) rfl (Nat.le_of_ble_eq_true rfl) ?_)
  unfold wp_k_Clone at h
  refine aw_seq ?_
  refine aw_gh (gh_to (n := 8) (σ' := []) (env' := [(0, .c (.lst (ints s)))]) rfl rfl ⟨rfl, trivial⟩) ?_
  refine aw_region ?_
  refine run_s (ss_assign rfl) rfl ?_
  refine run_nil ?_
  refine aw_seq ?_
  refine aw_seq ?_
  refine aw_region ?_
  refine run_s (ss_move rfl) rfl ?_
  refine run_w (ws_eqlNilL (f := ci) rfl rfl ?_ )
  intro b1 q1
  replace h := h b1 q1
  refine ⟨rfl, ?_⟩
  refine run_nil ?_
  refine aw_cond rfl (fun q2 => ?_) (fun q2 => ?_)
  ·replace h := h.1 (q2)
   refine aw_seq ?_
   refine aw_gh (gh_to (n := 8) (σ' := []) (env' := [(2, .c (cnil))]) rfl rfl ⟨rfl, trivial⟩) ?_
   refine aw_region ?_
   refine run_s (ss_assign rfl) rfl ?_
   refine run_nil ?_
   refine aw_ret ?_
   exact retAF_mk (retv1 rfl (rv_tmp rfl)) rfl rfl ⟨_, cle_nilO, _, h, rfl⟩
  ·replace h := h.2 (q2)
   refine aw_skip ?_
   refine aw_seq ?_
   refine aw_region ?_
   refine run_w (ws_buildSlice (id := 5) (ps := []) rfl rfl (Nat.le_of_ble_eq_true rfl) rfl ⟨rfl, ?_⟩)
   refine run_s (ss_move rfl) rfl ?_
   obtain ⟨q3, h⟩ := h
   refine run_w (ws_appL ci (l := ([] : List Int)) (m := s) rfl rfl rfl (Nat.le_of_ble_eq_true rfl) q3 ⟨rfl, ?_⟩)
   refine run_s (ss_assign rfl) rfl ?_
   refine run_nil ?_
   refine aw_ret ?_
   exact retAF_mk (retv1 rfl (rv_tmp rfl)) rfl rfl ⟨_, (cle_refl _), _, h, rfl⟩

theorem c_k_Clone (s : List Int) (hp : small s) : AF Try.prog 29 [.lst (ints s)] (fun R_ => R_ = .own (ints s)) :=
  (w_k_Clone s (fun y0 => y0 = s) (p_k_Clone s hp)).mono (by rintro r ⟨_, rfl, rfl⟩; rfl)

set_option maxRecDepth 100000 in
set_option maxHeartbeats 4000000 in
theorem w_spec_l01Same (a : List Int) (b : List Int) (Q : Bool → Prop) (h : wp_spec_l01Same a b Q) : AF Try.prog 56 [.lst (ints a), .lst (ints b)] (fun R_ => ∃ y0, Q y0 ∧ R_ = cb y0) := by
  refine AF.ofWQ (af_enter (n := 26) Try.func56 rfl (by rfl) rfl (Nat.le_of_ble_eq_true rfl) ?_)
  unfold wp_spec_l01Same at h
  refine aw_seq ?_
  refine aw_gh (gh_to (n := 26) (σ' := []) (env' := [(0, .c (.lst (ints a))), (1, .c (.lst (ints b)))]) rfl rfl ⟨rfl, rfl, trivial⟩) ?_
  refine aw_region ?_
  refine run_s (ss_assign rfl) rfl ?_
  refine run_nil ?_
  refine aw_seq ?_
  refine aw_seq ?_
  refine aw_region ?_
  refine run_s (ss_move rfl) rfl ?_
  refine run_s (ss_lenL (f := ci) rfl) rfl ?_
  refine run_s (ss_move rfl) rfl ?_
  refine run_s (ss_lenL (f := ci) rfl) rfl ?_
  refine run_s (ss_neq rfl rfl) rfl ?_
  refine run_nil ?_
  refine aw_cond rfl (fun q1 => ?_) (fun q1 => ?_)
  ·replace h := h.1 (of_decide_eq_false (bnot_t q1))
   refine aw_seq ?_
   refine aw_gh (gh_to (n := 26) (σ' := []) (env' := [(4, .c (cb false))]) rfl rfl ⟨rfl, trivial⟩) ?_
   refine aw_region ?_
   refine run_s (ss_assign rfl) rfl ?_
   refine run_nil ?_
   refine aw_ret ?_
   exact retAF_mk (retv1 rfl (rv_tmp rfl)) rfl rfl ⟨_, (cle_refl _), _, h, rfl⟩
  ·replace h := h.2 (of_decide_eq_true (bnot_f q1))
   refine aw_skip ?_
   refine aw_seq ?_
   refine aw_seq ?_
   refine aw_gh (gh_to (n := 26) (σ' := []) (env' := [(0, .c (.lst (ints a))), (1, .c (.lst (ints b)))]) rfl rfl ⟨rfl, rfl, trivial⟩) ?_
   refine aw_region ?_
   refine run_s (ss_assign rfl) rfl ?_
   refine run_nil ?_
   refine aw_block ?_
   obtain ⟨H1, m1, q2, h⟩ := h
   refine aw_loop1 (fun (v5_1 : Int) => ⟨[], [(0, .c (.lst (ints a))), (1, .c (.lst (ints b))), (5, .c (ci v5_1))], 26⟩) H1 m1 ⟨0, ghe_to (n := 26) rfl rfl ⟨rfl, rfl, rfl, trivial⟩, q2⟩ ?_
   rintro v5_1 q2
   replace h := h v5_1 q2
   refine aw_seq ?_
   refine aw_seq ?_
   refine aw_region ?_
   refine run_s (ss_move rfl) rfl ?_
   refine run_s (ss_move rfl) rfl ?_
   refine run_s (ss_lenL (f := ci) rfl) rfl ?_
   refine run_s (ss_lss rfl rfl) rfl ?_
   refine run_nil ?_
   refine aw_cond rfl (fun q3 => ?_) (fun q3 => ?_)
   ·replace h := h.1 (of_decide_eq_true q3)
    refine aw_skip ?_
    refine aw_seq ?_
    refine aw_block ?_
    refine aw_seq ?_
    refine aw_gh (gh_to (n := 26) (σ' := []) (env' := [(0, .c (.lst (ints a))), (1, .c (.lst (ints b))), (5, .c (ci v5_1))]) rfl rfl ⟨rfl, rfl, rfl, trivial⟩) ?_
    refine aw_regionD (kd := kdl [0, 0, 0, 1, 0, 0, 0, 1, 0]) (ord := [0, 1, 2, 4, 5, 6, 3, 7, 8]) [] mixed (by kernel_rfl) ?_
    refine rd_s rfl rfl trivial (ss_move rfl) rfl ?_
    refine rd_s rfl rfl trivial (ss_move rfl) rfl ?_
    obtain ⟨q4, h⟩ := h
    refine rd_s rfl rfl trivial (ss_idxL rfl rfl q4) rfl ?_
    refine rd_s rfl rfl trivial (ss_move rfl) rfl ?_
    refine rd_s rfl rfl trivial (ss_move rfl) rfl ?_
    obtain ⟨q5, h⟩ := h
    refine rd_s rfl rfl trivial (ss_idxL rfl rfl q5) rfl ?_
    refine rd_l rfl rfl trivial (ss_loadL (f := ci) rfl q4) rfl ?_
    refine rd_l rfl rfl trivial (ss_loadL (f := ci) rfl q5) rfl ?_
    refine rd_s rfl rfl trivial (ss_neq rfl rfl) rfl ?_
    refine rd_nil ?_
    refine aw_cond rfl (fun q6 => ?_) (fun q6 => ?_)
    ·replace h := h.1 (of_decide_eq_false (bnot_t q6))
     refine aw_seq ?_
     refine aw_gh (gh_to (n := 26) (σ' := []) (env' := []) rfl rfl trivial) ?_
     refine aw_region ?_
     refine run_s (ss_assign rfl) rfl ?_
     refine run_nil ?_
     refine aw_ret ?_
     exact retAF_mk (retv1 rfl (rv_tmp rfl)) rfl rfl ⟨_, (cle_refl _), _, h, rfl⟩
    ·replace h := h.2 (of_decide_eq_true (bnot_f q6))
     refine aw_skip ?_
     refine aw_gh (gh_to (n := 26) (σ' := []) (env' := [(0, .c (.lst (ints a))), (1, .c (.lst (ints b))), (5, .c (ci v5_1))]) rfl rfl ⟨rfl, rfl, rfl, trivial⟩) ?_
     refine aw_region ?_
     refine run_s (ss_move rfl) rfl ?_
     obtain ⟨q7, h⟩ := h
     refine run_s (ss_add rfl rfl q7) rfl ?_
     refine run_s (ss_assign rfl) rfl ?_
     refine run_nil ?_
     exact ⟨v5_1 + 1, ghe_to (n := 26) rfl rfl ⟨rfl, rfl, rfl, trivial⟩, h.1, h.2⟩
   ·replace h := h.2 (of_decide_eq_false q3)
    refine aw_exit ?_
    refine aw_seq ?_
    refine aw_gh (gh_to (n := 26) (σ' := []) (env' := []) rfl rfl trivial) ?_
    refine aw_region ?_
    refine run_s (ss_assign rfl) rfl ?_
    refine run_nil ?_
    refine aw_ret ?_
    exact retAF_mk (retv1 rfl (rv_tmp rfl)) rfl rfl ⟨_, (cle_refl _), _, h, rfl⟩

theorem c_spec_l01Same (a : List Int) (b : List Int) (hp : small a ∧ small b) : AF Try.prog 56 [.lst (ints a), .lst (ints b)] (fun R_ => R_ = cb (decide (a = b))) :=
  (w_spec_l01Same a b (fun y0 => y0 = decide (a = b)) (p_spec_l01Same a b hp)).mono (by rintro r ⟨_, rfl, rfl⟩; rfl)

set_option maxRecDepth 100000 in
set_option maxHeartbeats 4000000 in
theorem w_spec_l01Then (p : List Int) (q : List Int) (Q : List Int → Prop) (h : wp_spec_l01Then p q Q) : AF Try.prog 54 [.lst (ints p), .lst (ints q)] (fun R_ => ∃ y0, Q y0 ∧ R_ = .own (ints y0)) := by
  refine AF.ofWQ (af_enter (n := 25) Try.func54 rfl (by rfl) rfl (Nat.le_of_ble_eq_true rfl) ?_)
  unfold wp_spec_l01Then at h
  refine aw_seq ?_
  refine aw_gh (gh_to (n := 25) (σ' := []) (env' := [(0, .c (.lst (ints p))), (1, .c (.lst (ints q)))]) rfl rfl ⟨rfl, rfl, trivial⟩) ?_
  refine aw_region ?_
  refine run_s (ss_assign rfl) rfl ?_
  refine run_nil ?_
  refine aw_seq ?_
  refine aw_region ?_
  refine run_w (ws_buildSlice (id := 7) (ps := []) rfl rfl (Nat.le_of_ble_eq_true rfl) rfl ⟨rfl, ?_⟩)
  refine run_s (ss_assign rfl) rfl ?_
  refine run_nil ?_
  refine aw_seq ?_
  refine aw_seq ?_
  refine aw_region ?_
  refine run_s (ss_assign rfl) rfl ?_
  refine run_nil ?_
  refine aw_block ?_
  obtain ⟨H1, m1, q1, h⟩ := h
  refine aw_loop2 (fun (v6_1 : Int) (o7_1 : List Int) => ⟨[(7, ⟨ints o7_1, []⟩)], [(0, .c (.lst (ints p))), (1, .c (.lst (ints q))), (5, .ref 7), (6, .c (ci v6_1))], 25⟩) H1 m1 ⟨0, ([] : List Int), ghe_to (n := 25) rfl rfl ⟨rfl, rfl, rfl, rfl, trivial⟩, q1⟩ ?_
  rintro v6_1 o7_1 q1
  replace h := h v6_1 o7_1 q1
  refine aw_seq ?_
  refine aw_seq ?_
  refine aw_region ?_
  refine run_s (ss_move rfl) rfl ?_
  refine run_s (ss_move rfl) rfl ?_
  refine run_s (ss_lenL (f := ci) rfl) rfl ?_
  refine run_s (ss_lss rfl rfl) rfl ?_
  refine run_nil ?_
  refine aw_cond rfl (fun q2 => ?_) (fun q2 => ?_)
  ·replace h := h.1 (of_decide_eq_true q2)
   refine aw_skip ?_
   refine aw_seq ?_
   refine aw_block ?_
   refine aw_region ?_
   refine run_s (ss_move rfl) rfl ?_
   refine run_s (ss_move rfl) rfl ?_
   refine run_s (ss_move rfl) rfl ?_
   refine run_s (ss_move rfl) rfl ?_
   obtain ⟨q3, h⟩ := h
   refine run_s (ss_idxL rfl rfl q3) rfl ?_
   refine run_s (ss_loadL (f := ci) rfl q3) rfl ?_
   obtain ⟨q4, h⟩ := h
   refine run_s (ss_idxL rfl rfl q4) rfl ?_
   refine run_s (ss_loadL (f := ci) rfl q4) rfl ?_
   refine run_w (ws_buildSlice (id := 22) (ps := [(0, .tmp 21)]) rfl rfl (Nat.le_of_ble_eq_true rfl) rfl ⟨rfl, ?_⟩)
   obtain ⟨q5, h⟩ := h
   refine run_w (ws_app1 ci (l := o7_1) (m := [el q (el p v6_1)]) rfl rfl rfl rfl rfl (Nat.le_of_ble_eq_true rfl) q5 ⟨rfl, ?_⟩)
   refine run_s (ss_assign rfl) rfl ?_
   refine run_nil ?_
   refine aw_gh (gh_to (n := 25) (σ' := [(7, ⟨ints (o7_1 ++ ([el q (el p v6_1)])), []⟩)]) (env' := [(0, .c (.lst (ints p))), (1, .c (.lst (ints q))), (5, .ref 7), (6, .c (ci v6_1))]) rfl rfl ⟨rfl, rfl, rfl, rfl, trivial⟩) ?_
   refine aw_region ?_
   refine run_s (ss_move rfl) rfl ?_
   obtain ⟨q6, h⟩ := h
   refine run_s (ss_add rfl rfl q6) rfl ?_
   refine run_s (ss_assign rfl) rfl ?_
   refine run_nil ?_
   exact ⟨v6_1 + 1, o7_1 ++ ([el q (el p v6_1)]), ghe_to (n := 25) rfl rfl ⟨rfl, rfl, rfl, rfl, trivial⟩, h.1, h.2⟩
  ·replace h := h.2 (of_decide_eq_false q2)
   refine aw_exit ?_
   refine aw_seq ?_
   refine aw_gh (gh_to (n := 25) (σ' := [(7, ⟨ints o7_1, []⟩)]) (env' := [(5, .ref 7)]) rfl rfl ⟨rfl, trivial⟩) ?_
   refine aw_region ?_
   refine run_s (ss_move rfl) rfl ?_
   refine run_s (ss_assign rfl) rfl ?_
   refine run_nil ?_
   refine aw_ret ?_
   exact retAF_mk (retv1 rfl (rv_tmp rfl)) rfl rfl ⟨_, (cle_refl _), _, h, rfl⟩

theorem c_spec_l01Then (p : List Int) (q : List Int) (hp : small p ∧ ∀ x_ ∈ p, 0 ≤ x_ ∧ x_ < (q.length : Int)) : AF Try.prog 54 [.lst (ints p), .lst (ints q)] (fun R_ => R_ = .own (ints (p.map (el q)))) :=
  (w_spec_l01Then p q (fun y0 => y0 = p.map (el q)) (p_spec_l01Then p q hp)).mono (by rintro r ⟨_, rfl, rfl⟩; rfl)

set_option maxRecDepth 100000 in
set_option maxHeartbeats 4000000 in
theorem w_spec_l01Back (p : List Int) (Q : List Int → Prop) (h : wp_spec_l01Back p Q) : AF Try.prog 55 [.lst (ints p)] (fun R_ => ∃ y0, Q y0 ∧ R_ = .own (ints y0)) := by
  refine AF.ofWQ (af_enter (n := 22) Try.func55 rfl (by rfl) rfl (Nat.le_of_ble_eq_true rfl) ?_)
  unfold wp_spec_l01Back at h
  refine aw_seq ?_
  refine aw_gh (gh_to (n := 22) (σ' := []) (env' := [(0, .c (.lst (ints p)))]) rfl rfl ⟨rfl, trivial⟩) ?_
  refine aw_region ?_
  refine run_s (ss_assign rfl) rfl ?_
  refine run_nil ?_
  refine aw_seq ?_
  refine aw_region ?_
  refine run_s (ss_move rfl) rfl ?_
  refine run_s (ss_lenL (f := ci) rfl) rfl ?_
  obtain ⟨q1, h⟩ := h
  refine run_w (ws_mk (id := 7) ci (0 : Int) rfl rfl rfl q1 (Nat.le_of_ble_eq_true rfl) rfl ⟨rfl, ?_⟩)
  refine run_s (ss_assign rfl) rfl ?_
  refine run_nil ?_
  refine aw_seq ?_
  refine aw_seq ?_
  refine aw_gh (gh_to (n := 22) (σ' := [(7, ⟨ints (List.replicate (p.length : Int).toNat (0 : Int)), []⟩)]) (env' := [(0, .c (.lst (ints p))), (3, .ref 7)]) rfl rfl ⟨rfl, rfl, trivial⟩) ?_
  refine aw_region ?_
  refine run_s (ss_assign rfl) rfl ?_
  refine run_nil ?_
  refine aw_block ?_
  obtain ⟨H1, m1, q2, h⟩ := h
  refine aw_loop2 (fun (v4_1 : Int) (o7_1 : List Int) => ⟨[(7, ⟨ints o7_1, []⟩)], [(0, .c (.lst (ints p))), (3, .ref 7), (4, .c (ci v4_1))], 22⟩) H1 m1 ⟨0, List.replicate (p.length : Int).toNat (0 : Int), ghe_to (n := 22) rfl rfl ⟨rfl, rfl, rfl, trivial⟩, q2⟩ ?_
  rintro v4_1 o7_1 q2
  replace h := h v4_1 o7_1 q2
  refine aw_seq ?_
  refine aw_seq ?_
  refine aw_region ?_
  refine run_s (ss_move rfl) rfl ?_
  refine run_s (ss_move rfl) rfl ?_
  refine run_s (ss_lenL (f := ci) rfl) rfl ?_
  refine run_s (ss_lss rfl rfl) rfl ?_
  refine run_nil ?_
  refine aw_cond rfl (fun q3 => ?_) (fun q3 => ?_)
  ·replace h := h.1 (of_decide_eq_true q3)
   refine aw_skip ?_
   refine aw_seq ?_
   refine aw_block ?_
   refine aw_region ?_
   refine run_s (ss_move rfl) rfl ?_
   refine run_s (ss_move rfl) rfl ?_
   refine run_s (ss_move rfl) rfl ?_
   obtain ⟨q4, h⟩ := h
   refine run_s (ss_idxL rfl rfl q4) rfl ?_
   refine run_s (ss_loadL (f := ci) rfl q4) rfl ?_
   refine run_s (ss_move rfl) rfl ?_
   obtain ⟨q5, h⟩ := h
   refine run_s (ss_idxR (f := ci) rfl rfl rfl q5) rfl ?_
   refine run_w (ws_storeE rfl rfl (map_lt q5) rfl rfl (map_se (f := ci)) rfl ⟨rfl, ?_⟩)
   refine run_nil ?_
   refine aw_gh (gh_to (n := 22) (σ' := [(7, ⟨ints (se o7_1 (el p v4_1) v4_1), []⟩)]) (env' := [(0, .c (.lst (ints p))), (3, .ref 7), (4, .c (ci v4_1))]) rfl rfl ⟨rfl, rfl, rfl, trivial⟩) ?_
   refine aw_region ?_
   refine run_s (ss_move rfl) rfl ?_
   obtain ⟨q6, h⟩ := h
   refine run_s (ss_add rfl rfl q6) rfl ?_
   refine run_s (ss_assign rfl) rfl ?_
   refine run_nil ?_
   exact ⟨v4_1 + 1, se o7_1 (el p v4_1) v4_1, ghe_to (n := 22) rfl rfl ⟨rfl, rfl, rfl, trivial⟩, h.1, h.2⟩
  ·replace h := h.2 (of_decide_eq_false q3)
   refine aw_exit ?_
   refine aw_seq ?_
   refine aw_gh (gh_to (n := 22) (σ' := [(7, ⟨ints o7_1, []⟩)]) (env' := [(3, .ref 7)]) rfl rfl ⟨rfl, trivial⟩) ?_
   refine aw_region ?_
   refine run_s (ss_move rfl) rfl ?_
   refine run_s (ss_assign rfl) rfl ?_
   refine run_nil ?_
   refine aw_ret ?_
   exact retAF_mk (retv1 rfl (rv_tmp rfl)) rfl rfl ⟨_, (cle_refl _), _, h, rfl⟩

theorem c_spec_l01Back (p : List Int) (hp : small p ∧ isPerm p = true) : AF Try.prog 55 [.lst (ints p)] (fun R_ => R_ = .own (ints (backI p))) :=
  (w_spec_l01Back p (fun y0 => y0 = backI p) (p_spec_l01Back p hp)).mono (by rintro r ⟨_, rfl, rfl⟩; rfl)

set_option maxRecDepth 100000 in
set_option maxHeartbeats 4000000 in
theorem w_impl_permutationRows_1 (row : List Int) (Q : Bool → Prop) (h : wp_impl_permutationRows_1 row Q) : AF Try.prog 44 [.lst (ints row)] (fun R_ => ∃ y0, Q y0 ∧ R_ = cb y0) := by
  refine AF.ofWQ (af_enter (n := 6) Try.func44 rfl (by rfl) rfl (Nat.le_of_ble_eq_true rfl) ?_)
  unfold wp_impl_permutationRows_1 at h
  refine aw_seq ?_
  refine aw_gh (gh_to (n := 6) (σ' := []) (env' := [(0, .c (.lst (ints row)))]) rfl rfl ⟨rfl, trivial⟩) ?_
  refine aw_region ?_
  refine run_s (ss_assign rfl) rfl ?_
  refine run_nil ?_
  refine aw_seq ?_
  refine aw_region ?_
  refine run_s (ss_move rfl) rfl ?_
  obtain ⟨q1, h⟩ := h
  refine run_w (ws_call (xs := [.tmp 3]) (ids := []) rfl rfl rfl rfl (c_impl_isPermuted row q1) rfl ?_ )
  rintro _ rfl
  refine ⟨rfl, ?_⟩
  refine run_s (ss_not rfl) rfl ?_
  refine run_s (ss_assign rfl) rfl ?_
  refine run_nil ?_
  refine aw_ret ?_
  exact retAF_mk (retv1 rfl (rv_tmp rfl)) rfl rfl ⟨_, (cle_refl _), _, h, rfl⟩

theorem c_impl_permutationRows_1 (row : List Int) (hp : small row) : AF Try.prog 44 [.lst (ints row)] (fun R_ => R_ = cb (!isPerm row)) :=
  (w_impl_permutationRows_1 row (fun y0 => y0 = !isPerm row) (p_impl_permutationRows_1 row hp)).mono (by rintro r ⟨_, rfl, rfl⟩; rfl)

set_option maxRecDepth 100000 in
set_option maxHeartbeats 4000000 in
theorem w_impl_permutationRows (t : List (List Int)) (Q : Bool → Prop) (h : wp_impl_permutationRows t Q) : AF Try.prog 27 [.lst (rows t)] (fun R_ => ∃ y0, Q y0 ∧ R_ = cb y0) := by
  refine AF.ofWQ (af_enter (n := 6) Try.func27 rfl (by rfl) rfl (Nat.le_of_ble_eq_true rfl) ?_)
  unfold wp_impl_permutationRows at h
  refine aw_seq ?_
  refine aw_gh (gh_to (n := 6) (σ' := []) (env' := [(0, .c (.lst (rows t)))]) rfl rfl ⟨rfl, trivial⟩) ?_
  refine aw_region ?_
  refine run_s (ss_assign rfl) rfl ?_
  refine run_nil ?_
  refine aw_seq ?_
  refine aw_region ?_
  refine run_s (ss_move rfl) rfl ?_
  obtain ⟨q1, h⟩ := h
  refine run_w (ws_call (xs := [.tmp 3, .func 44]) (ids := []) rfl rfl rfl rfl (c_k_ContainsFunc_rows t 44 [] (fun z0 => !isPerm z0) (fun z0 => small z0) (fun z0 hD => c_impl_permutationRows_1 z0 hD) q1) rfl ?_ )
  rintro _ rfl
  refine ⟨rfl, ?_⟩
  refine run_s (ss_not rfl) rfl ?_
  refine run_s (ss_assign rfl) rfl ?_
  refine run_nil ?_
  refine aw_ret ?_
  exact retAF_mk (retv1 rfl (rv_tmp rfl)) rfl rfl ⟨_, (cle_refl _), _, h, rfl⟩

theorem c_impl_permutationRows (t : List (List Int)) (hp : small2 t) : AF Try.prog 27 [.lst (rows t)] (fun R_ => R_ = cb (t.all isPerm)) :=
  (w_impl_permutationRows t (fun y0 => y0 = t.all isPerm) (p_impl_permutationRows t hp)).mono (by rintro r ⟨_, rfl, rfl⟩; rfl)

set_option maxRecDepth 100000 in
set_option maxHeartbeats 4000000 in
theorem w_impl_rackFault (t : List (List Int)) (Q : List Int → Prop) (h : wp_impl_rackFault t Q) : AF Try.prog 28 [.lst (rows t)] (fun R_ => ∃ y0, Q y0 ∧ R_ = onil y0) := by
  refine AF.ofWQ (af_enter (n := 61) Try.func28 rfl (by rfl) rfl (Nat.le_of_ble_eq_true rfl) ?_)
  unfold wp_impl_rackFault at h
  refine aw_seq ?_
  refine aw_gh (gh_to (n := 61) (σ' := []) (env' := [(0, .c (.lst (rows t)))]) rfl rfl ⟨rfl, trivial⟩) ?_
  refine aw_region ?_
  refine run_s (ss_assign rfl) rfl ?_
  refine run_nil ?_
  refine aw_seq ?_
  refine aw_region ?_
  refine run_s (ss_move rfl) rfl ?_
  refine run_s (ss_lenL (f := (fun r => C.lst (ints r))) rfl) rfl ?_
  refine run_s (ss_assign rfl) rfl ?_
  refine run_nil ?_
  refine aw_seq ?_
  refine aw_seq ?_
  refine aw_region ?_
  refine run_s (ss_move rfl) rfl ?_
  refine run_s (ss_move rfl) rfl ?_
  refine run_nil ?_
  refine aw_block ?_
  obtain ⟨H1, m1, q1, h⟩ := h
  refine aw_loop1 (fun (v10_1 : Int) => ⟨[], [(0, .c (.lst (rows t))), (3, .c (ci (t.length : Int))), (9, .c (ci (t.length : Int))), (10, .c (ci v10_1))], 61⟩) H1 m1 ⟨0, ghe_to (n := 61) rfl rfl ⟨rfl, rfl, rfl, rfl, trivial⟩, q1⟩ ?_
  rintro v10_1 q1
  replace h := h v10_1 q1
  refine aw_seq ?_
  refine aw_region ?_
  refine run_s (ss_lss rfl rfl) rfl ?_
  refine run_nil ?_
  refine aw_seq ?_
  refine aw_cond rfl (fun q2 => ?_) (fun q2 => ?_)
  ·replace h := h.1 (of_decide_eq_true q2)
   refine aw_skip ?_
   refine aw_seq ?_
   refine aw_block ?_
   refine aw_seq ?_
   refine aw_region ?_
   refine run_s (ss_move rfl) rfl ?_
   refine run_s (ss_assign rfl) rfl ?_
   refine run_nil ?_
   refine aw_seq ?_
   refine aw_region ?_
   refine run_s (ss_move rfl) rfl ?_
   refine run_s (ss_move rfl) rfl ?_
   refine run_nil ?_
   refine aw_block ?_
   obtain ⟨H2, m2, q3, h⟩ := h
   refine aw_loop1 (fun (v14_2 : Int) => ⟨[], [(0, .c (.lst (rows t))), (3, .c (ci (t.length : Int))), (4, .c (ci v10_1)), (9, .c (ci (t.length : Int))), (10, .c (ci v10_1)), (13, .c (ci (t.length : Int))), (14, .c (ci v14_2))], 61⟩) H2 m2 ⟨0, ghe_to (n := 61) rfl rfl ⟨rfl, rfl, rfl, rfl, rfl, rfl, rfl, trivial⟩, q3⟩ ?_
   rintro v14_2 q3
   replace h := h v14_2 q3
   refine aw_seq ?_
   refine aw_region ?_
   refine run_s (ss_lss rfl rfl) rfl ?_
   refine run_nil ?_
   refine aw_seq ?_
   refine aw_cond rfl (fun q4 => ?_) (fun q4 => ?_)
   ·replace h := h.1 (of_decide_eq_true q4)
    refine aw_skip ?_
    refine aw_seq ?_
    refine aw_block ?_
    refine aw_seq ?_
    refine aw_region ?_
    refine run_s (ss_move rfl) rfl ?_
    refine run_s (ss_assign rfl) rfl ?_
    refine run_nil ?_
    refine aw_seq ?_
    refine aw_region ?_
    refine run_s (ss_move rfl) rfl ?_
    refine run_s (ss_move rfl) rfl ?_
    refine run_nil ?_
    refine aw_block ?_
    obtain ⟨H3, m3, q5, h⟩ := h
    refine aw_loop1 (fun (v18_3 : Int) => ⟨[], [(0, .c (.lst (rows t))), (3, .c (ci (t.length : Int))), (4, .c (ci v10_1)), (5, .c (ci v14_2)), (9, .c (ci (t.length : Int))), (10, .c (ci v10_1)), (13, .c (ci (t.length : Int))), (14, .c (ci v14_2)), (17, .c (ci (t.length : Int))), (18, .c (ci v18_3))], 61⟩) H3 m3 ⟨0, ghe_to (n := 61) rfl rfl ⟨rfl, rfl, rfl, rfl, rfl, rfl, rfl, rfl, rfl, rfl, trivial⟩, q5⟩ ?_
    rintro v18_3 q5
    replace h := h v18_3 q5
    refine aw_seq ?_
    refine aw_region ?_
    refine run_s (ss_lss rfl rfl) rfl ?_
    refine run_nil ?_
    refine aw_seq ?_
    refine aw_cond rfl (fun q6 => ?_) (fun q6 => ?_)
    ·replace h := h.1 (of_decide_eq_true q6)
     refine aw_skip ?_
     refine aw_seq ?_
     refine aw_block ?_
     refine aw_seq ?_
     refine aw_region ?_
     refine run_s (ss_move rfl) rfl ?_
     refine run_s (ss_assign rfl) rfl ?_
     refine run_nil ?_
     refine aw_seq ?_
     refine aw_gh (gh_to (n := 61) (σ' := []) (env' := [(0, .c (.lst (rows t))), (3, .c (ci (t.length : Int))), (4, .c (ci v10_1)), (5, .c (ci v14_2)), (6, .c (ci v18_3)), (9, .c (ci (t.length : Int))), (10, .c (ci v10_1)), (13, .c (ci (t.length : Int))), (14, .c (ci v14_2)), (17, .c (ci (t.length : Int))), (18, .c (ci v18_3))]) rfl rfl ⟨rfl, rfl, rfl, rfl, rfl, rfl, rfl, rfl, rfl, rfl, rfl, trivial⟩) ?_
     refine aw_regionD (kd := kdl [0, 0, 0, 1, 0, 0, 0, 1, 0, 0, 1, 0, 1, 0, 0, 0, 0, 1, 0, 0, 1, 0, 1, 0, 0, 0, 1, 0, 0, 1, 0, 1, 0]) (ord := [0, 1, 2, 4, 5, 6, 8, 13, 14, 15, 16, 18, 23, 24, 25, 27, 3, 7, 9, 10, 11, 12, 17, 19, 20, 21, 22, 26, 28, 29, 30, 31, 32]) [] mixed (by kernel_rfl) ?_
     refine rd_s rfl rfl trivial (ss_move rfl) rfl ?_
     refine rd_s rfl rfl trivial (ss_move rfl) rfl ?_
     obtain ⟨q7, h⟩ := h
     refine rd_s rfl rfl trivial (ss_idxL rfl rfl q7) rfl ?_
     refine rd_s rfl rfl trivial (ss_move rfl) rfl ?_
     refine rd_s rfl rfl trivial (ss_move rfl) rfl ?_
     obtain ⟨q8, h⟩ := h
     refine rd_s rfl rfl trivial (ss_idxL rfl rfl q8) rfl ?_
     refine rd_s rfl rfl trivial (ss_move rfl) rfl ?_
     refine rd_s rfl rfl trivial (ss_move rfl) rfl ?_
     refine rd_s rfl rfl trivial (ss_move rfl) rfl ?_
     refine rd_s rfl rfl trivial (ss_move rfl) rfl ?_
     obtain ⟨q9, h⟩ := h
     refine rd_s rfl rfl trivial (ss_idxL rfl rfl q9) rfl ?_
     refine rd_s rfl rfl trivial (ss_move rfl) rfl ?_
     refine rd_s rfl rfl trivial (ss_move rfl) rfl ?_
     refine rd_s rfl rfl trivial (ss_move rfl) rfl ?_
     obtain ⟨q10, h⟩ := h
     refine rd_s rfl rfl trivial (ss_idxL rfl rfl q10) rfl ?_
     refine rd_s rfl rfl trivial (ss_move rfl) rfl ?_
     refine rd_l rfl rfl trivial (ss_loadL (f := (fun r => C.lst (ints r))) rfl q7) rfl ?_
     refine rd_l rfl rfl trivial (ss_loadL (f := (fun r => C.lst (ints r))) rfl q8) rfl ?_
     obtain ⟨q11, h⟩ := h
     refine rd_s rfl rfl trivial (ss_idxL rfl rfl q11) rfl ?_
     refine rd_l rfl rfl trivial (ss_loadL (f := ci) rfl q11) rfl ?_
     obtain ⟨q12, h⟩ := h
     refine rd_s rfl rfl trivial (ss_idxL rfl rfl q12) rfl ?_
     refine rd_l rfl rfl trivial (ss_loadL (f := ci) rfl q12) rfl ?_
     refine rd_l rfl rfl trivial (ss_loadL (f := (fun r => C.lst (ints r))) rfl q9) rfl ?_
     obtain ⟨q13, h⟩ := h
     refine rd_s rfl rfl trivial (ss_idxL rfl rfl q13) rfl ?_
     refine rd_l rfl rfl trivial (ss_loadL (f := ci) rfl q13) rfl ?_
     obtain ⟨q14, h⟩ := h
     refine rd_s rfl rfl trivial (ss_idxL rfl rfl q14) rfl ?_
     refine rd_l rfl rfl trivial (ss_loadL (f := (fun r => C.lst (ints r))) rfl q14) rfl ?_
     refine rd_l rfl rfl trivial (ss_loadL (f := (fun r => C.lst (ints r))) rfl q10) rfl ?_
     obtain ⟨q15, h⟩ := h
     refine rd_s rfl rfl trivial (ss_idxL rfl rfl q15) rfl ?_
     refine rd_l rfl rfl trivial (ss_loadL (f := ci) rfl q15) rfl ?_
     obtain ⟨q16, h⟩ := h
     refine rd_s rfl rfl trivial (ss_idxL rfl rfl q16) rfl ?_
     refine rd_l rfl rfl trivial (ss_loadL (f := ci) rfl q16) rfl ?_
     refine rd_s rfl rfl trivial (ss_neq rfl rfl) rfl ?_
     refine rd_nil ?_
     refine aw_cond rfl (fun q17 => ?_) (fun q17 => ?_)
     ·replace h := h.1 (of_decide_eq_false (bnot_t q17))
      refine aw_seq ?_
      refine aw_gh (gh_to (n := 61) (σ' := []) (env' := [(4, .c (ci v10_1)), (5, .c (ci v14_2)), (6, .c (ci v18_3))]) rfl rfl ⟨rfl, rfl, rfl, trivial⟩) ?_
      refine aw_region ?_
      refine run_s (ss_move rfl) rfl ?_
      refine run_s (ss_move rfl) rfl ?_
      refine run_s (ss_move rfl) rfl ?_
      refine run_w (ws_buildSlice (id := 57) (ps := [(0, .tmp 54), (1, .tmp 55), (2, .tmp 56)]) rfl rfl (Nat.le_of_ble_eq_true rfl) rfl ⟨rfl, ?_⟩)
      refine run_s (ss_assign rfl) rfl ?_
      refine run_nil ?_
      refine aw_ret ?_
      exact retAF_mk (retv1 rfl (rv_tmp rfl)) rfl rfl ⟨_, (cle_refl _), _, h, rfl⟩
     ·replace h := h.2 (of_decide_eq_true (bnot_f q17))
      refine aw_skip ?_
      refine aw_gh (gh_to (n := 61) (σ' := []) (env' := [(0, .c (.lst (rows t))), (3, .c (ci (t.length : Int))), (4, .c (ci v10_1)), (5, .c (ci v14_2)), (9, .c (ci (t.length : Int))), (10, .c (ci v10_1)), (13, .c (ci (t.length : Int))), (14, .c (ci v14_2)), (17, .c (ci (t.length : Int))), (18, .c (ci v18_3))]) rfl rfl ⟨rfl, rfl, rfl, rfl, rfl, rfl, rfl, rfl, rfl, rfl, trivial⟩) ?_
      refine aw_region ?_
      obtain ⟨q18, h⟩ := h
      refine run_s (ss_add rfl rfl q18) rfl ?_
      refine run_s (ss_move rfl) rfl ?_
      refine run_nil ?_
      exact ⟨v18_3 + 1, ghe_to (n := 61) rfl rfl ⟨rfl, rfl, rfl, rfl, rfl, rfl, rfl, rfl, rfl, rfl, trivial⟩, h.1, h.2⟩
    ·replace h := h.2 (of_decide_eq_false q6)
     refine aw_exit ?_
     refine aw_gh (gh_to (n := 61) (σ' := []) (env' := [(0, .c (.lst (rows t))), (3, .c (ci (t.length : Int))), (4, .c (ci v10_1)), (9, .c (ci (t.length : Int))), (10, .c (ci v10_1)), (13, .c (ci (t.length : Int))), (14, .c (ci v14_2))]) rfl rfl ⟨rfl, rfl, rfl, rfl, rfl, rfl, rfl, trivial⟩) ?_
     refine aw_region ?_
     obtain ⟨q19, h⟩ := h
     refine run_s (ss_add rfl rfl q19) rfl ?_
     refine run_s (ss_move rfl) rfl ?_
     refine run_nil ?_
     exact ⟨v14_2 + 1, ghe_to (n := 61) rfl rfl ⟨rfl, rfl, rfl, rfl, rfl, rfl, rfl, trivial⟩, h.1, h.2⟩
   ·replace h := h.2 (of_decide_eq_false q4)
    refine aw_exit ?_
    refine aw_gh (gh_to (n := 61) (σ' := []) (env' := [(0, .c (.lst (rows t))), (3, .c (ci (t.length : Int))), (9, .c (ci (t.length : Int))), (10, .c (ci v10_1))]) rfl rfl ⟨rfl, rfl, rfl, rfl, trivial⟩) ?_
    refine aw_region ?_
    obtain ⟨q20, h⟩ := h
    refine run_s (ss_add rfl rfl q20) rfl ?_
    refine run_s (ss_move rfl) rfl ?_
    refine run_nil ?_
    exact ⟨v10_1 + 1, ghe_to (n := 61) rfl rfl ⟨rfl, rfl, rfl, rfl, trivial⟩, h.1, h.2⟩
  ·replace h := h.2 (of_decide_eq_false q2)
   refine aw_exit ?_
   refine aw_seq ?_
   refine aw_gh (gh_to (n := 61) (σ' := []) (env' := []) rfl rfl trivial) ?_
   refine aw_region ?_
   refine run_s (ss_assign rfl) rfl ?_
   refine run_nil ?_
   refine aw_ret ?_
   exact retAF_mk (retv1 rfl (rv_tmp rfl)) rfl rfl ⟨_, (cle_refl _), _, h, rfl⟩

theorem c_impl_rackFault (t : List (List Int)) (hp : isTab t = true) : AF Try.prog 28 [.lst (rows t)] (fun R_ => R_ = onil (rackF t)) :=
  (w_impl_rackFault t (fun y0 => y0 = rackF t) (p_impl_rackFault t hp)).mono (by rintro r ⟨_, rfl, rfl⟩; rfl)

set_option maxRecDepth 100000 in
set_option maxHeartbeats 4000000 in
theorem w_spec_l03Fault (t : List (List Int)) (Q : List Int → Prop) (h : wp_spec_l03Fault t Q) : AF Try.prog 32 [.lst (rows t)] (fun R_ => ∃ y0, Q y0 ∧ R_ = .own (ints y0)) := by
  refine AF.ofWQ (af_enter (n := 61) Try.func32 rfl (by rfl) rfl (Nat.le_of_ble_eq_true rfl) ?_)
  unfold wp_spec_l03Fault at h
  refine aw_seq ?_
  refine aw_gh (gh_to (n := 61) (σ' := []) (env' := [(0, .c (.lst (rows t)))]) rfl rfl ⟨rfl, trivial⟩) ?_
  refine aw_region ?_
  refine run_s (ss_assign rfl) rfl ?_
  refine run_nil ?_
  refine aw_seq ?_
  refine aw_region ?_
  refine run_s (ss_move rfl) rfl ?_
  refine run_s (ss_lenL (f := (fun r => C.lst (ints r))) rfl) rfl ?_
  refine run_s (ss_assign rfl) rfl ?_
  refine run_nil ?_
  refine aw_seq ?_
  refine aw_seq ?_
  refine aw_region ?_
  refine run_s (ss_assign rfl) rfl ?_
  refine run_nil ?_
  refine aw_block ?_
  obtain ⟨H1, m1, q1, h⟩ := h
  refine aw_loop1 (fun (v4_1 : Int) => ⟨[], [(0, .c (.lst (rows t))), (3, .c (ci (t.length : Int))), (4, .c (ci v4_1))], 61⟩) H1 m1 ⟨0, ghe_to (n := 61) rfl rfl ⟨rfl, rfl, rfl, trivial⟩, q1⟩ ?_
  rintro v4_1 q1
  replace h := h v4_1 q1
  refine aw_seq ?_
  refine aw_seq ?_
  refine aw_region ?_
  refine run_s (ss_move rfl) rfl ?_
  refine run_s (ss_move rfl) rfl ?_
  refine run_s (ss_lss rfl rfl) rfl ?_
  refine run_nil ?_
  refine aw_cond rfl (fun q2 => ?_) (fun q2 => ?_)
  ·replace h := h.1 (of_decide_eq_true q2)
   refine aw_skip ?_
   refine aw_seq ?_
   refine aw_block ?_
   refine aw_seq ?_
   refine aw_region ?_
   refine run_s (ss_assign rfl) rfl ?_
   refine run_nil ?_
   refine aw_block ?_
   obtain ⟨H2, m2, q3, h⟩ := h
   refine aw_loop1 (fun (v5_2 : Int) => ⟨[], [(0, .c (.lst (rows t))), (3, .c (ci (t.length : Int))), (4, .c (ci v4_1)), (5, .c (ci v5_2))], 61⟩) H2 m2 ⟨0, ghe_to (n := 61) rfl rfl ⟨rfl, rfl, rfl, rfl, trivial⟩, q3⟩ ?_
   rintro v5_2 q3
   replace h := h v5_2 q3
   refine aw_seq ?_
   refine aw_seq ?_
   refine aw_region ?_
   refine run_s (ss_move rfl) rfl ?_
   refine run_s (ss_move rfl) rfl ?_
   refine run_s (ss_lss rfl rfl) rfl ?_
   refine run_nil ?_
   refine aw_cond rfl (fun q4 => ?_) (fun q4 => ?_)
   ·replace h := h.1 (of_decide_eq_true q4)
    refine aw_skip ?_
    refine aw_seq ?_
    refine aw_block ?_
    refine aw_seq ?_
    refine aw_region ?_
    refine run_s (ss_assign rfl) rfl ?_
    refine run_nil ?_
    refine aw_block ?_
    obtain ⟨H3, m3, q5, h⟩ := h
    refine aw_loop1 (fun (v6_3 : Int) => ⟨[], [(0, .c (.lst (rows t))), (3, .c (ci (t.length : Int))), (4, .c (ci v4_1)), (5, .c (ci v5_2)), (6, .c (ci v6_3))], 61⟩) H3 m3 ⟨0, ghe_to (n := 61) rfl rfl ⟨rfl, rfl, rfl, rfl, rfl, trivial⟩, q5⟩ ?_
    rintro v6_3 q5
    replace h := h v6_3 q5
    refine aw_seq ?_
    refine aw_seq ?_
    refine aw_region ?_
    refine run_s (ss_move rfl) rfl ?_
    refine run_s (ss_move rfl) rfl ?_
    refine run_s (ss_lss rfl rfl) rfl ?_
    refine run_nil ?_
    refine aw_cond rfl (fun q6 => ?_) (fun q6 => ?_)
    ·replace h := h.1 (of_decide_eq_true q6)
     refine aw_skip ?_
     refine aw_seq ?_
     refine aw_block ?_
     refine aw_seq ?_
     refine aw_gh (gh_to (n := 61) (σ' := []) (env' := [(0, .c (.lst (rows t))), (3, .c (ci (t.length : Int))), (4, .c (ci v4_1)), (5, .c (ci v5_2)), (6, .c (ci v6_3))]) rfl rfl ⟨rfl, rfl, rfl, rfl, rfl, trivial⟩) ?_
     refine aw_regionD (kd := kdl [0, 0, 0, 1, 0, 0, 0, 1, 0, 0, 1, 0, 1, 0, 0, 0, 0, 1, 0, 0, 1, 0, 1, 0, 0, 0, 1, 0, 0, 1, 0, 1, 0]) (ord := [0, 1, 2, 4, 5, 6, 8, 13, 14, 15, 16, 18, 23, 24, 25, 27, 3, 7, 9, 10, 11, 12, 17, 19, 20, 21, 22, 26, 28, 29, 30, 31, 32]) [] mixed (by kernel_rfl) ?_
     refine rd_s rfl rfl trivial (ss_move rfl) rfl ?_
     refine rd_s rfl rfl trivial (ss_move rfl) rfl ?_
     obtain ⟨q7, h⟩ := h
     refine rd_s rfl rfl trivial (ss_idxL rfl rfl q7) rfl ?_
     refine rd_s rfl rfl trivial (ss_move rfl) rfl ?_
     refine rd_s rfl rfl trivial (ss_move rfl) rfl ?_
     obtain ⟨q8, h⟩ := h
     refine rd_s rfl rfl trivial (ss_idxL rfl rfl q8) rfl ?_
     refine rd_s rfl rfl trivial (ss_move rfl) rfl ?_
     refine rd_s rfl rfl trivial (ss_move rfl) rfl ?_
     refine rd_s rfl rfl trivial (ss_move rfl) rfl ?_
     refine rd_s rfl rfl trivial (ss_move rfl) rfl ?_
     obtain ⟨q9, h⟩ := h
     refine rd_s rfl rfl trivial (ss_idxL rfl rfl q9) rfl ?_
     refine rd_s rfl rfl trivial (ss_move rfl) rfl ?_
     refine rd_s rfl rfl trivial (ss_move rfl) rfl ?_
     refine rd_s rfl rfl trivial (ss_move rfl) rfl ?_
     obtain ⟨q10, h⟩ := h
     refine rd_s rfl rfl trivial (ss_idxL rfl rfl q10) rfl ?_
     refine rd_s rfl rfl trivial (ss_move rfl) rfl ?_
     refine rd_l rfl rfl trivial (ss_loadL (f := (fun r => C.lst (ints r))) rfl q7) rfl ?_
     refine rd_l rfl rfl trivial (ss_loadL (f := (fun r => C.lst (ints r))) rfl q8) rfl ?_
     obtain ⟨q11, h⟩ := h
     refine rd_s rfl rfl trivial (ss_idxL rfl rfl q11) rfl ?_
     refine rd_l rfl rfl trivial (ss_loadL (f := ci) rfl q11) rfl ?_
     obtain ⟨q12, h⟩ := h
     refine rd_s rfl rfl trivial (ss_idxL rfl rfl q12) rfl ?_
     refine rd_l rfl rfl trivial (ss_loadL (f := ci) rfl q12) rfl ?_
     refine rd_l rfl rfl trivial (ss_loadL (f := (fun r => C.lst (ints r))) rfl q9) rfl ?_
     obtain ⟨q13, h⟩ := h
     refine rd_s rfl rfl trivial (ss_idxL rfl rfl q13) rfl ?_
     refine rd_l rfl rfl trivial (ss_loadL (f := ci) rfl q13) rfl ?_
     obtain ⟨q14, h⟩ := h
     refine rd_s rfl rfl trivial (ss_idxL rfl rfl q14) rfl ?_
     refine rd_l rfl rfl trivial (ss_loadL (f := (fun r => C.lst (ints r))) rfl q14) rfl ?_
     refine rd_l rfl rfl trivial (ss_loadL (f := (fun r => C.lst (ints r))) rfl q10) rfl ?_
     obtain ⟨q15, h⟩ := h
     refine rd_s rfl rfl trivial (ss_idxL rfl rfl q15) rfl ?_
     refine rd_l rfl rfl trivial (ss_loadL (f := ci) rfl q15) rfl ?_
     obtain ⟨q16, h⟩ := h
     refine rd_s rfl rfl trivial (ss_idxL rfl rfl q16) rfl ?_
     refine rd_l rfl rfl trivial (ss_loadL (f := ci) rfl q16) rfl ?_
     refine rd_s rfl rfl trivial (ss_neq rfl rfl) rfl ?_
     refine rd_nil ?_
     refine aw_cond rfl (fun q17 => ?_) (fun q17 => ?_)
     ·replace h := h.1 (of_decide_eq_false (bnot_t q17))
      refine aw_seq ?_
      refine aw_gh (gh_to (n := 61) (σ' := []) (env' := [(4, .c (ci v4_1)), (5, .c (ci v5_2)), (6, .c (ci v6_3))]) rfl rfl ⟨rfl, rfl, rfl, trivial⟩) ?_
      refine aw_region ?_
      refine run_s (ss_move rfl) rfl ?_
      refine run_s (ss_move rfl) rfl ?_
      refine run_s (ss_move rfl) rfl ?_
      refine run_w (ws_buildSlice (id := 60) (ps := [(0, .tmp 57), (1, .tmp 58), (2, .tmp 59)]) rfl rfl (Nat.le_of_ble_eq_true rfl) rfl ⟨rfl, ?_⟩)
      refine run_s (ss_assign rfl) rfl ?_
      refine run_nil ?_
      refine aw_ret ?_
      exact retAF_mk (retv1 rfl (rv_tmp rfl)) rfl rfl ⟨_, (cle_refl _), _, h, rfl⟩
     ·replace h := h.2 (of_decide_eq_true (bnot_f q17))
      refine aw_skip ?_
      refine aw_gh (gh_to (n := 61) (σ' := []) (env' := [(0, .c (.lst (rows t))), (3, .c (ci (t.length : Int))), (4, .c (ci v4_1)), (5, .c (ci v5_2)), (6, .c (ci v6_3))]) rfl rfl ⟨rfl, rfl, rfl, rfl, rfl, trivial⟩) ?_
      refine aw_region ?_
      refine run_s (ss_move rfl) rfl ?_
      obtain ⟨q18, h⟩ := h
      refine run_s (ss_add rfl rfl q18) rfl ?_
      refine run_s (ss_assign rfl) rfl ?_
      refine run_nil ?_
      exact ⟨v6_3 + 1, ghe_to (n := 61) rfl rfl ⟨rfl, rfl, rfl, rfl, rfl, trivial⟩, h.1, h.2⟩
    ·replace h := h.2 (of_decide_eq_false q6)
     refine aw_exit ?_
     refine aw_region ?_
     refine run_s (ss_move rfl) rfl ?_
     obtain ⟨q19, h⟩ := h
     refine run_s (ss_add rfl rfl q19) rfl ?_
     refine run_s (ss_assign rfl) rfl ?_
     refine run_nil ?_
     exact ⟨v5_2 + 1, ghe_to (n := 61) rfl rfl ⟨rfl, rfl, rfl, rfl, trivial⟩, h.1, h.2⟩
   ·replace h := h.2 (of_decide_eq_false q4)
    refine aw_exit ?_
    refine aw_region ?_
    refine run_s (ss_move rfl) rfl ?_
    obtain ⟨q20, h⟩ := h
    refine run_s (ss_add rfl rfl q20) rfl ?_
    refine run_s (ss_assign rfl) rfl ?_
    refine run_nil ?_
    exact ⟨v4_1 + 1, ghe_to (n := 61) rfl rfl ⟨rfl, rfl, rfl, trivial⟩, h.1, h.2⟩
  ·replace h := h.2 (of_decide_eq_false q2)
   refine aw_exit ?_
   refine aw_seq ?_
   refine aw_gh (gh_to (n := 61) (σ' := []) (env' := []) rfl rfl trivial) ?_
   refine aw_region ?_
   refine run_s (ss_assign rfl) rfl ?_
   refine run_nil ?_
   refine aw_ret ?_
   exact retAF_mk (retv1 rfl (rv_tmp rfl)) rfl rfl ⟨_, cle_nilO, _, h, rfl⟩

theorem c_spec_l03Fault (t : List (List Int)) (hp : isTab t = true) : AF Try.prog 32 [.lst (rows t)] (fun R_ => R_ = .own (ints (rackF t))) :=
  (w_spec_l03Fault t (fun y0 => y0 = rackF t) (p_spec_l03Fault t hp)).mono (by rintro r ⟨_, rfl, rfl⟩; rfl)

set_option maxRecDepth 100000 in
set_option maxHeartbeats 4000000 in
theorem w_impl_IsRack (r : List (List Int)) (Q : Bool → Prop) (h : wp_impl_IsRack r Q) : AF Try.prog 14 [.agg [.lst (rows r)]] (fun R_ => ∃ y0, Q y0 ∧ R_ = cb y0) := by
  refine AF.ofWQ (af_enter (n := 17) Try.func14 rfl (by rfl) rfl (Nat.le_of_ble_eq_true rfl) ?_)
  unfold wp_impl_IsRack at h
  refine aw_seq ?_
  refine aw_gh (gh_to (n := 17) (σ' := []) (env' := [(0, .c (.agg [.lst (rows r)]))]) rfl rfl ⟨rfl, trivial⟩) ?_
  refine aw_region ?_
  refine run_w (ws_boxR rfl (.inl rfl) rfl ⟨rfl, ?_⟩)
  refine run_s (ss_assign rfl) rfl ?_
  refine run_nil ?_
  refine aw_seq ?_
  refine aw_region ?_
  refine run_s (ss_field_ptr rfl) rfl ?_
  refine run_s (ss_load_ptr rfl rfl) rfl ?_
  obtain ⟨q1, h⟩ := h
  refine run_w (ws_call (xs := [.tmp 4]) (ids := []) rfl rfl rfl rfl (c_impl_IsTable r q1) rfl ?_ )
  rintro _ rfl
  refine ⟨rfl, ?_⟩
  refine run_s (ss_move rfl) rfl ?_
  refine run_split (s := 6) rfl (fun q3 => ?_) (fun q3 => ?_)
  ·replace h := h.1 (q3)
   refine run_gt rfl rfl q3 ?_
   refine run_s (ss_field_ptr rfl) rfl ?_
   refine run_gt rfl rfl q3 ?_
   refine run_s (ss_load_ptr rfl rfl) rfl ?_
   refine run_gt rfl rfl q3 ?_
   obtain ⟨q4, h⟩ := h
   refine run_w (ws_call (xs := [.tmp 8]) (ids := []) rfl rfl rfl rfl (c_impl_permutationRows r q4) rfl ?_ )
   rintro _ rfl
   refine ⟨rfl, ?_⟩
   refine run_s (ss_pickT rfl q3 rfl) rfl ?_
   refine run_s (ss_move rfl) rfl ?_
   refine run_split (s := 11) rfl (fun q6 => ?_) (fun q6 => ?_)
   ·replace h := h.1 (q6)
    refine run_gt rfl rfl q6 ?_
    refine run_s (ss_field_ptr rfl) rfl ?_
    refine run_gt rfl rfl q6 ?_
    refine run_s (ss_load_ptr rfl rfl) rfl ?_
    refine run_gt rfl rfl q6 ?_
    by_cases q7 : (rackF r) = []
    ·replace h := h.1 q7
     obtain ⟨q8, h⟩ := h
     refine run_w (ws_call (xs := [.tmp 13]) (ids := []) rfl rfl rfl rfl (AF.onil_n (c_impl_rackFault r q8) q7) rfl ?_ )
     rintro _ rfl
     refine ⟨rfl, ?_⟩
     refine run_gt rfl rfl q6 ?_
     refine run_s (ss_eql_nil rfl rfl) rfl ?_
     refine run_s (ss_pickT rfl q6 rfl) rfl ?_
     refine run_s (ss_assign rfl) rfl ?_
     refine run_nil ?_
     refine aw_ret ?_
     exact retAF_mk (retv1 rfl (rv_tmp rfl)) rfl rfl ⟨_, (cle_refl _), _, h, rfl⟩
    ·replace h := h.2 q7
     obtain ⟨q10, h⟩ := h
     refine run_w (ws_call (xs := [.tmp 13]) (ids := [14]) rfl rfl rfl rfl (AF.onil_o (c_impl_rackFault r q10) q7) rfl ?_ )
     rintro _ rfl
     refine ⟨rfl, ?_⟩
     refine run_gt rfl rfl q6 ?_
     refine run_s (ss_eql_refNil rfl rfl (map_ne q7) rfl) rfl ?_
     refine run_s (ss_pickT rfl q6 rfl) rfl ?_
     refine run_s (ss_assign rfl) rfl ?_
     refine run_nil ?_
     refine aw_ret ?_
     exact retAF_mk (retv1 rfl (rv_tmp rfl)) rfl rfl ⟨_, (cle_refl _), _, h, rfl⟩
   ·replace h := h.2 (q6)
    refine run_gf rfl rfl q6 rfl ?_
    refine run_gf rfl rfl q6 rfl ?_
    refine run_gf rfl rfl q6 rfl ?_
    refine run_gf rfl rfl q6 rfl ?_
    refine run_s (ss_pickF rfl q6 rfl) rfl ?_
    refine run_s (ss_assign rfl) rfl ?_
    refine run_nil ?_
    refine aw_ret ?_
    exact retAF_mk (retv1 rfl (rv_tmp rfl)) rfl rfl ⟨_, (cle_refl _), _, h, rfl⟩
  ·replace h := h.2 (q3)
   refine run_gf rfl rfl q3 rfl ?_
   refine run_gf rfl rfl q3 rfl ?_
   refine run_gf rfl rfl q3 rfl ?_
   refine run_s (ss_pickF rfl q3 rfl) rfl ?_
   refine run_s (ss_move rfl) rfl ?_
   refine run_split (s := 11) rfl (fun q12 => ?_) (fun q12 => ?_)
   ·cases q12
   ·skip
    refine run_gf rfl rfl q12 rfl ?_
    refine run_gf rfl rfl q12 rfl ?_
    refine run_gf rfl rfl q12 rfl ?_
    refine run_gf rfl rfl q12 rfl ?_
    refine run_s (ss_pickF rfl q12 rfl) rfl ?_
    refine run_s (ss_assign rfl) rfl ?_
    refine run_nil ?_
    refine aw_ret ?_
    exact retAF_mk (retv1 rfl (rv_tmp rfl)) rfl rfl ⟨_, (cle_refl _), _, h, rfl⟩

theorem c_impl_IsRack (r : List (List Int)) (hp : small2 r) : AF Try.prog 14 [.agg [.lst (rows r)]] (fun R_ => R_ = cb (isRk r)) :=
  (w_impl_IsRack r (fun y0 => y0 = isRk r) (p_impl_IsRack r hp)).mono (by rintro r ⟨_, rfl, rfl⟩; rfl)

set_option maxRecDepth 100000 in
set_option maxHeartbeats 4000000 in
theorem w_spec_l03Is (r : List (List Int)) (Q : Bool → Prop) (h : wp_spec_l03Is r Q) : AF Try.prog 16 [.agg [.lst (rows r)]] (fun R_ => ∃ y0, Q y0 ∧ R_ = cb y0) := by
  refine AF.ofWQ (af_enter (n := 27) Try.func16 rfl (by rfl) rfl (Nat.le_of_ble_eq_true rfl) ?_)
  unfold wp_spec_l03Is at h
  refine aw_seq ?_
  refine aw_gh (gh_to (n := 27) (σ' := []) (env' := [(0, .c (.agg [.lst (rows r)]))]) rfl rfl ⟨rfl, trivial⟩) ?_
  refine aw_region ?_
  refine run_w (ws_boxR rfl (.inl rfl) rfl ⟨rfl, ?_⟩)
  refine run_s (ss_assign rfl) rfl ?_
  refine run_nil ?_
  refine aw_seq ?_
  refine aw_seq ?_
  refine aw_region ?_
  refine run_s (ss_field_ptr rfl) rfl ?_
  refine run_s (ss_load_ptr rfl rfl) rfl ?_
  obtain ⟨q1, h⟩ := h
  refine run_w (ws_call (xs := [.tmp 5]) (ids := []) rfl rfl rfl rfl (c_spec_l01Table r q1) rfl ?_ )
  rintro _ rfl
  refine ⟨rfl, ?_⟩
  refine run_s (ss_not rfl) rfl ?_
  refine run_nil ?_
  refine aw_cond rfl (fun q3 => ?_) (fun q3 => ?_)
  ·replace h := h.1 ((bnot_t q3))
   refine aw_seq ?_
   refine aw_gh (gh_to (n := 27) (σ' := []) (env' := [(2, .c (cb false))]) rfl rfl ⟨rfl, trivial⟩) ?_
   refine aw_region ?_
   refine run_s (ss_assign rfl) rfl ?_
   refine run_nil ?_
   refine aw_ret ?_
   exact retAF_mk (retv1 rfl (rv_tmp rfl)) rfl rfl ⟨_, (cle_refl _), _, h, rfl⟩
  ·replace h := h.2 ((bnot_f q3))
   refine aw_skip ?_
   refine aw_seq ?_
   refine aw_seq ?_
   refine aw_gh (gh_to (n := 27) (σ' := []) (env' := [(1, .c (.ptr [.lst (rows r)]))]) rfl rfl ⟨rfl, trivial⟩) ?_
   refine aw_region ?_
   refine run_s (ss_assign rfl) rfl ?_
   refine run_nil ?_
   refine aw_block ?_
   obtain ⟨H1, m1, q4, h⟩ := h
   refine aw_loop1 (fun (v3_1 : Int) => ⟨[], [(1, .c (.ptr [.lst (rows r)])), (3, .c (ci v3_1))], 27⟩) H1 m1 ⟨0, ghe_to (n := 27) rfl rfl ⟨rfl, rfl, trivial⟩, q4⟩ ?_
   rintro v3_1 q4
   replace h := h v3_1 q4
   refine aw_seq ?_
   refine aw_seq ?_
   refine aw_region ?_
   refine run_s (ss_move rfl) rfl ?_
   refine run_s (ss_field_ptr rfl) rfl ?_
   refine run_s (ss_load_ptr rfl rfl) rfl ?_
   refine run_s (ss_lenL (f := (fun r => C.lst (ints r))) rfl) rfl ?_
   refine run_s (ss_lss rfl rfl) rfl ?_
   refine run_nil ?_
   refine aw_cond rfl (fun q5 => ?_) (fun q5 => ?_)
   ·replace h := h.1 (of_decide_eq_true q5)
    refine aw_skip ?_
    refine aw_seq ?_
    refine aw_block ?_
    refine aw_seq ?_
    refine aw_region ?_
    refine run_s (ss_field_ptr rfl) rfl ?_
    refine run_s (ss_load_ptr rfl rfl) rfl ?_
    refine run_s (ss_move rfl) rfl ?_
    obtain ⟨q6, h⟩ := h
    refine run_s (ss_idxL rfl rfl q6) rfl ?_
    refine run_s (ss_loadL (f := (fun r => C.lst (ints r))) rfl q6) rfl ?_
    obtain ⟨q7, h⟩ := h
    refine run_w (ws_call (xs := [.tmp 19]) (ids := []) rfl rfl rfl rfl (c_spec_l01Perm (el r v3_1) q7) rfl ?_ )
    rintro _ rfl
    refine ⟨rfl, ?_⟩
    refine run_s (ss_not rfl) rfl ?_
    refine run_nil ?_
    refine aw_cond rfl (fun q9 => ?_) (fun q9 => ?_)
    ·replace h := h.1 ((bnot_t q9))
     refine aw_seq ?_
     refine aw_gh (gh_to (n := 27) (σ' := []) (env' := []) rfl rfl trivial) ?_
     refine aw_region ?_
     refine run_s (ss_assign rfl) rfl ?_
     refine run_nil ?_
     refine aw_ret ?_
     exact retAF_mk (retv1 rfl (rv_tmp rfl)) rfl rfl ⟨_, (cle_refl _), _, h, rfl⟩
    ·replace h := h.2 ((bnot_f q9))
     refine aw_skip ?_
     refine aw_gh (gh_to (n := 27) (σ' := []) (env' := [(1, .c (.ptr [.lst (rows r)])), (3, .c (ci v3_1))]) rfl rfl ⟨rfl, rfl, trivial⟩) ?_
     refine aw_region ?_
     refine run_s (ss_move rfl) rfl ?_
     obtain ⟨q10, h⟩ := h
     refine run_s (ss_add rfl rfl q10) rfl ?_
     refine run_s (ss_assign rfl) rfl ?_
     refine run_nil ?_
     exact ⟨v3_1 + 1, ghe_to (n := 27) rfl rfl ⟨rfl, rfl, trivial⟩, h.1, h.2⟩
   ·replace h := h.2 (of_decide_eq_false q5)
    refine aw_exit ?_
    refine aw_seq ?_
    refine aw_region ?_
    refine run_s (ss_field_ptr rfl) rfl ?_
    refine run_s (ss_load_ptr rfl rfl) rfl ?_
    obtain ⟨q11, h⟩ := h
    refine run_w (ws_call (xs := [.tmp 23]) (ids := [24]) rfl rfl rfl rfl (c_spec_l03Fault r q11) rfl ?_ )
    rintro _ rfl
    refine ⟨rfl, ?_⟩
    refine run_s (ss_lenR (f := ci) rfl rfl) rfl ?_
    refine run_s (ss_eql rfl rfl) rfl ?_
    refine run_s (ss_assign rfl) rfl ?_
    refine run_nil ?_
    refine aw_ret ?_
    exact retAF_mk (retv1 rfl (rv_tmp rfl)) rfl rfl ⟨_, (cle_refl _), _, h, rfl⟩

theorem c_spec_l03Is (r : List (List Int)) (hp : small2 r) : AF Try.prog 16 [.agg [.lst (rows r)]] (fun R_ => R_ = cb (isRk r)) :=
  (w_spec_l03Is r (fun y0 => y0 = isRk r) (p_spec_l03Is r hp)).mono (by rintro r ⟨_, rfl, rfl⟩; rfl)

end Go.Proofs.Ytjolbldlhjfciaa

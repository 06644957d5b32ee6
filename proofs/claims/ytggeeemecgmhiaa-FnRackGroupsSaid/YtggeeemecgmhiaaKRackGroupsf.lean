/- Contracts of functions that the law FnRackGroups reaches: conditions, plain proofs, walks; no condition. -/
import Derived.Test.YtggeeemecgmhiaaKRackGroupse
import Derived.Test.YtggeeemecgmhiaaPP
namespace Go.Proofs.Ytggeeemecgmhiaa

def wp_impl_IsLatinRack (r : List (List Int)) (Q : Bool → Int → Prop) : Prop :=
 (small2 r) ∧
 (((isRk r) = false →
 Q false 1) ∧
 ((isRk r) = true →
 (isTab r = true) ∧
 (small2 (trnT r)) ∧
 Q ((trnT r).all isPerm) 0))

def wp_impl_IsMedialRack (r : List (List Int)) (Q : Bool → Int → Prop) : Prop :=
 (small2 r) ∧
 (((isRk r) = false →
 Q false 1) ∧
 ((isRk r) = true →
 ∃ (H1 : Int → Prop) (m1 : Int → Nat),
 H1 0 ∧
 ∀ (v16_1 : Int), H1 v16_1 →
 ( ((v16_1 < (r.length : Int) →
 ∃ (H2 : Int → Prop) (m2 : Int → Nat),
 H2 0 ∧
 ∀ (v21_2 : Int), H2 v21_2 →
 ( ((v21_2 < (r.length : Int) →
 ∃ (H3 : Int → Prop) (m3 : Int → Nat),
 H3 0 ∧
 ∀ (v26_3 : Int), H3 v26_3 →
 ( ((v26_3 < (r.length : Int) →
 ∃ (H4 : Int → Prop) (m4 : Int → Nat),
 H4 0 ∧
 ∀ (v31_4 : Int), H4 v31_4 →
 ( ((v31_4 < (r.length : Int) →
 (0 ≤ v16_1 ∧ v16_1 < (r.length : Int)) ∧
 (0 ≤ v26_3 ∧ v26_3 < (r.length : Int)) ∧
 (0 ≤ v16_1 ∧ v16_1 < (r.length : Int)) ∧
 (0 ≤ v21_2 ∧ v21_2 < (r.length : Int)) ∧
 (0 ≤ v21_2 ∧ v21_2 < ((el r v16_1).length : Int)) ∧
 (0 ≤ el (el r v16_1) v21_2 ∧ el (el r v16_1) v21_2 < (r.length : Int)) ∧
 (0 ≤ v31_4 ∧ v31_4 < ((el r v26_3).length : Int)) ∧
 (0 ≤ el (el r v26_3) v31_4 ∧ el (el r v26_3) v31_4 < ((el r (el (el r v16_1) v21_2)).length : Int)) ∧
 (0 ≤ v26_3 ∧ v26_3 < ((el r v16_1).length : Int)) ∧
 (0 ≤ el (el r v16_1) v26_3 ∧ el (el r v16_1) v26_3 < (r.length : Int)) ∧
 (0 ≤ v31_4 ∧ v31_4 < ((el r v21_2).length : Int)) ∧
 (0 ≤ el (el r v21_2) v31_4 ∧ el (el r v21_2) v31_4 < ((el r (el (el r v16_1) v26_3)).length : Int)) ∧
 ((¬ (el (el r (el (el r v16_1) v21_2)) (el (el r v26_3) v31_4) = el (el r (el (el r v16_1) v26_3)) (el (el r v21_2) v31_4)) →
 Q false 0) ∧
 (el (el r (el (el r v16_1) v21_2)) (el (el r v26_3) v31_4) = el (el r (el (el r v16_1) v26_3)) (el (el r v21_2) v31_4) →
 (InI (v31_4 + 1)) ∧
 (H4 (v31_4 + 1) ∧ m4 (v31_4 + 1) < m4 v31_4)))) ∧
 (¬ (v31_4 < (r.length : Int)) →
 (InI (v26_3 + 1)) ∧
 (H3 (v26_3 + 1) ∧ m3 (v26_3 + 1) < m3 v26_3))))) ∧
 (¬ (v26_3 < (r.length : Int)) →
 (InI (v21_2 + 1)) ∧
 (H2 (v21_2 + 1) ∧ m2 (v21_2 + 1) < m2 v21_2))))) ∧
 (¬ (v21_2 < (r.length : Int)) →
 (InI (v16_1 + 1)) ∧
 (H1 (v16_1 + 1) ∧ m1 (v16_1 + 1) < m1 v16_1))))) ∧
 (¬ (v16_1 < (r.length : Int)) →
 Q true 0)))))

def wp_spec_IsMedialRack (r : List (List Int)) (Q : Bool → Int → Prop) : Prop :=
 (small2 r) ∧
 (((isRk r) = false →
 Q false 1) ∧
 ((isRk r) = true →
 ∃ (H1 : Int → Prop) (m1 : Int → Nat),
 H1 0 ∧
 ∀ (v5_1 : Int), H1 v5_1 →
 ( ((v5_1 < (r.length : Int) →
 ∃ (H2 : Int → Prop) (m2 : Int → Nat),
 H2 0 ∧
 ∀ (v6_2 : Int), H2 v6_2 →
 ( ((v6_2 < (r.length : Int) →
 ∃ (H3 : Int → Prop) (m3 : Int → Nat),
 H3 0 ∧
 ∀ (v7_3 : Int), H3 v7_3 →
 ( ((v7_3 < (r.length : Int) →
 ∃ (H4 : Int → Prop) (m4 : Int → Nat),
 H4 0 ∧
 ∀ (v8_4 : Int), H4 v8_4 →
 ( ((v8_4 < (r.length : Int) →
 (0 ≤ v5_1 ∧ v5_1 < (r.length : Int)) ∧
 (0 ≤ v7_3 ∧ v7_3 < (r.length : Int)) ∧
 (0 ≤ v5_1 ∧ v5_1 < (r.length : Int)) ∧
 (0 ≤ v6_2 ∧ v6_2 < (r.length : Int)) ∧
 (0 ≤ v6_2 ∧ v6_2 < ((el r v5_1).length : Int)) ∧
 (0 ≤ el (el r v5_1) v6_2 ∧ el (el r v5_1) v6_2 < (r.length : Int)) ∧
 (0 ≤ v8_4 ∧ v8_4 < ((el r v7_3).length : Int)) ∧
 (0 ≤ el (el r v7_3) v8_4 ∧ el (el r v7_3) v8_4 < ((el r (el (el r v5_1) v6_2)).length : Int)) ∧
 (0 ≤ v7_3 ∧ v7_3 < ((el r v5_1).length : Int)) ∧
 (0 ≤ el (el r v5_1) v7_3 ∧ el (el r v5_1) v7_3 < (r.length : Int)) ∧
 (0 ≤ v8_4 ∧ v8_4 < ((el r v6_2).length : Int)) ∧
 (0 ≤ el (el r v6_2) v8_4 ∧ el (el r v6_2) v8_4 < ((el r (el (el r v5_1) v7_3)).length : Int)) ∧
 ((¬ (el (el r (el (el r v5_1) v6_2)) (el (el r v7_3) v8_4) = el (el r (el (el r v5_1) v7_3)) (el (el r v6_2) v8_4)) →
 Q false 0) ∧
 (el (el r (el (el r v5_1) v6_2)) (el (el r v7_3) v8_4) = el (el r (el (el r v5_1) v7_3)) (el (el r v6_2) v8_4) →
 (InI (v8_4 + 1)) ∧
 (H4 (v8_4 + 1) ∧ m4 (v8_4 + 1) < m4 v8_4)))) ∧
 (¬ (v8_4 < (r.length : Int)) →
 (InI (v7_3 + 1)) ∧
 (H3 (v7_3 + 1) ∧ m3 (v7_3 + 1) < m3 v7_3))))) ∧
 (¬ (v7_3 < (r.length : Int)) →
 (InI (v6_2 + 1)) ∧
 (H2 (v6_2 + 1) ∧ m2 (v6_2 + 1) < m2 v6_2))))) ∧
 (¬ (v6_2 < (r.length : Int)) →
 (InI (v5_1 + 1)) ∧
 (H1 (v5_1 + 1) ∧ m1 (v5_1 + 1) < m1 v5_1))))) ∧
 (¬ (v5_1 < (r.length : Int)) →
 Q true 0)))))

def wp_spec_DrawIsRack (code : List Int) (Q : List (List Int) → Prop) : Prop :=
 (small code ∧ bytes code) ∧
 ∀ (r1_0 : List Int) (r1_1 : Int) (r1_2 : Int), (r1_0 = code ∧ okS code r1_1 r1_2) →
 (okS r1_0 r1_1 r1_2 ∧ 1 ≤ (7 : Int) ∧ (7 : Int) ≤ 12) ∧
 ∀ (r2_0 : List (List Int)) (o2_0 : List Int) (o2_1 : Int) (o2_2 : Int), (drT (7 : Int) r2_0 ∧ o2_0 = r1_0 ∧ okS r1_0 o2_1 o2_2) →
 Q r2_0

def wp_spec_DrawInnerOrder (code : List Int) (Q : List (List Int) → Prop) : Prop :=
 (small code ∧ bytes code) ∧
 ∀ (r1_0 : List (List Int)), (drT 7 r1_0) →
 Q r1_0

def MedW (t : List (List Int)) (x y z w : Int) : Prop := el (el t (el (el t x) y)) (el (el t z) w) = el (el t (el (el t x) z)) (el (el t y) w)
def MedZ (t : List (List Int)) (x y z : Int) : Prop := ∀ w, (0 ≤ w ∧ w < (t.length : Int)) → MedW t x y z w
def MedY (t : List (List Int)) (x y : Int) : Prop := ∀ z, (0 ≤ z ∧ z < (t.length : Int)) → MedZ t x y z
def MedX (t : List (List Int)) (x : Int) : Prop := ∀ y, (0 ≤ y ∧ y < (t.length : Int)) → MedY t x y
theorem p_impl_IsMedialRack (r : List (List Int)) (hp : small2 r) : wp_impl_IsMedialRack r (fun y0 y1 => y0 = (isRk r && medB r) ∧ y1 = rkE r) := by
  unfold wp_impl_IsMedialRack
  refine ⟨hp, fun h => ⟨by rw [h]; rfl, by unfold rkE; rw [h]; rfl⟩, fun h => ?_⟩
  have hn := isTab_len (isRk_tab h)
  have n12 : (r.length : Int) ≤ 12 := hn.2
  have cell : ∀ {x y : Int}, (0 ≤ x ∧ x < (r.length : Int)) → (0 ≤ y ∧ y < (r.length : Int)) → y < ((el r x).length : Int) ∧ 0 ≤ el (el r x) y ∧ el (el r x) y < (r.length : Int) := fun hx hy => by
    have := isTab_row (isRk_tab h) hx
    exact ⟨by omega, this.2 _ hy.1 hy.2⟩
  refine ⟨fun x => (0 ≤ x ∧ x ≤ (r.length : Int)) ∧ ∀ x', (0 ≤ x' ∧ x' < x) → MedX r x', fun x => ((r.length : Int) - x).toNat, ⟨⟨by omega, by omega⟩, fun _ _ => by omega⟩, ?_⟩
  rintro x ⟨⟨x0, x1⟩, hX⟩
  dsimp only
  refine ⟨fun xlt => ?_, fun xge => ⟨?_, by unfold rkE; rw [h]; rfl⟩⟩
  · refine ⟨fun y => (0 ≤ y ∧ y ≤ (r.length : Int)) ∧ ∀ y', (0 ≤ y' ∧ y' < y) → MedY r x y', fun y => ((r.length : Int) - y).toNat, ⟨⟨by omega, by omega⟩, fun _ _ => by omega⟩, ?_⟩
    rintro y ⟨⟨y0, y1⟩, hY⟩
    dsimp only
    refine ⟨fun ylt => ?_, fun yge => ⟨⟨by omega, by omega⟩, ⟨⟨by omega, by omega⟩, fun x' hx' => ?_⟩, by omega⟩⟩
    · refine ⟨fun z => (0 ≤ z ∧ z ≤ (r.length : Int)) ∧ ∀ z', (0 ≤ z' ∧ z' < z) → MedZ r x y z', fun z => ((r.length : Int) - z).toNat, ⟨⟨by omega, by omega⟩, fun _ _ => by omega⟩, ?_⟩
      rintro z ⟨⟨z0, z1⟩, hZ⟩
      dsimp only
      refine ⟨fun zlt => ?_, fun zge => ⟨⟨by omega, by omega⟩, ⟨⟨by omega, by omega⟩, fun y' hy' => ?_⟩, by omega⟩⟩
      · refine ⟨fun w => (0 ≤ w ∧ w ≤ (r.length : Int)) ∧ ∀ w', (0 ≤ w' ∧ w' < w) → MedW r x y z w', fun w => ((r.length : Int) - w).toNat, ⟨⟨by omega, by omega⟩, fun _ _ => by omega⟩, ?_⟩
        rintro w ⟨⟨w0, w1⟩, hW⟩
        dsimp only
        refine ⟨fun wlt => ?_, fun wge => ⟨⟨by omega, by omega⟩, ⟨⟨by omega, by omega⟩, fun z' hz' => ?_⟩, by omega⟩⟩
        · have hx : 0 ≤ x ∧ x < (r.length : Int) := ⟨x0, xlt⟩
          have hy : 0 ≤ y ∧ y < (r.length : Int) := ⟨y0, ylt⟩
          have hz : 0 ≤ z ∧ z < (r.length : Int) := ⟨z0, zlt⟩
          have hw : 0 ≤ w ∧ w < (r.length : Int) := ⟨w0, wlt⟩
          have c1 := cell hx hy
          have c2 := cell hz hw
          have c3 := cell hx hz
          have c4 := cell hy hw
          have d1 := cell c1.2 c2.2
          have d2 := cell c3.2 c4.2
          refine ⟨hx, hz, hx, hy, ⟨y0, c1.1⟩, c1.2, ⟨w0, c2.1⟩, ⟨c2.2.1, d1.1⟩, ⟨z0, c3.1⟩, c3.2, ⟨w0, c4.1⟩, ⟨c4.2.1, d2.1⟩, fun hne => ⟨?_, by unfold rkE; rw [h]; rfl⟩, fun he => ⟨⟨by omega, by omega⟩, ⟨⟨by omega, by omega⟩, fun w' hw' => ?_⟩, by omega⟩⟩
          · have : ¬ MedP r := fun g => hne (g x y z w hx hy hz hw)
            unfold medB; rw [dec_f this]; simp
          · by_cases e : w' = w
            · subst e; exact he
            · exact hW w' ⟨hw'.1, by omega⟩
        · by_cases e : z' = z
          · subst e; exact fun w' hw' => hW w' ⟨hw'.1, by omega⟩
          · exact hZ z' ⟨hz'.1, by omega⟩
      · by_cases e : y' = y
        · subst e; exact fun z' hz' => hZ z' ⟨hz'.1, by omega⟩
        · exact hY y' ⟨hy'.1, by omega⟩
    · by_cases e : x' = x
      · subst e; exact fun y' hy' => hY y' ⟨hy'.1, by omega⟩
      · exact hX x' ⟨hx'.1, by omega⟩
  · have : MedP r := fun x' y' z' w' hx hy hz hw => hX x' ⟨hx.1, by omega⟩ y' hy z' hz w' hw
    unfold medB; rw [h, dec_t this]; rfl
theorem p_spec_IsMedialRack (r : List (List Int)) (hp : small2 r) : wp_spec_IsMedialRack r (fun y0 y1 => y0 = (isRk r && medB r) ∧ y1 = rkE r) := by
  unfold wp_spec_IsMedialRack
  refine ⟨hp, fun h => ⟨by rw [h]; rfl, by unfold rkE; rw [h]; rfl⟩, fun h => ?_⟩
  have hn := isTab_len (isRk_tab h)
  have n12 : (r.length : Int) ≤ 12 := hn.2
  have cell : ∀ {x y : Int}, (0 ≤ x ∧ x < (r.length : Int)) → (0 ≤ y ∧ y < (r.length : Int)) → y < ((el r x).length : Int) ∧ 0 ≤ el (el r x) y ∧ el (el r x) y < (r.length : Int) := fun hx hy => by
    have := isTab_row (isRk_tab h) hx
    exact ⟨by omega, this.2 _ hy.1 hy.2⟩
  refine ⟨fun x => (0 ≤ x ∧ x ≤ (r.length : Int)) ∧ ∀ x', (0 ≤ x' ∧ x' < x) → MedX r x', fun x => ((r.length : Int) - x).toNat, ⟨⟨by omega, by omega⟩, fun _ _ => by omega⟩, ?_⟩
  rintro x ⟨⟨x0, x1⟩, hX⟩
  dsimp only
  refine ⟨fun xlt => ?_, fun xge => ⟨?_, by unfold rkE; rw [h]; rfl⟩⟩
  · refine ⟨fun y => (0 ≤ y ∧ y ≤ (r.length : Int)) ∧ ∀ y', (0 ≤ y' ∧ y' < y) → MedY r x y', fun y => ((r.length : Int) - y).toNat, ⟨⟨by omega, by omega⟩, fun _ _ => by omega⟩, ?_⟩
    rintro y ⟨⟨y0, y1⟩, hY⟩
    dsimp only
    refine ⟨fun ylt => ?_, fun yge => ⟨⟨by omega, by omega⟩, ⟨⟨by omega, by omega⟩, fun x' hx' => ?_⟩, by omega⟩⟩
    · refine ⟨fun z => (0 ≤ z ∧ z ≤ (r.length : Int)) ∧ ∀ z', (0 ≤ z' ∧ z' < z) → MedZ r x y z', fun z => ((r.length : Int) - z).toNat, ⟨⟨by omega, by omega⟩, fun _ _ => by omega⟩, ?_⟩
      rintro z ⟨⟨z0, z1⟩, hZ⟩
      dsimp only
      refine ⟨fun zlt => ?_, fun zge => ⟨⟨by omega, by omega⟩, ⟨⟨by omega, by omega⟩, fun y' hy' => ?_⟩, by omega⟩⟩
      · refine ⟨fun w => (0 ≤ w ∧ w ≤ (r.length : Int)) ∧ ∀ w', (0 ≤ w' ∧ w' < w) → MedW r x y z w', fun w => ((r.length : Int) - w).toNat, ⟨⟨by omega, by omega⟩, fun _ _ => by omega⟩, ?_⟩
        rintro w ⟨⟨w0, w1⟩, hW⟩
        dsimp only
        refine ⟨fun wlt => ?_, fun wge => ⟨⟨by omega, by omega⟩, ⟨⟨by omega, by omega⟩, fun z' hz' => ?_⟩, by omega⟩⟩
        · have hx : 0 ≤ x ∧ x < (r.length : Int) := ⟨x0, xlt⟩
          have hy : 0 ≤ y ∧ y < (r.length : Int) := ⟨y0, ylt⟩
          have hz : 0 ≤ z ∧ z < (r.length : Int) := ⟨z0, zlt⟩
          have hw : 0 ≤ w ∧ w < (r.length : Int) := ⟨w0, wlt⟩
          have c1 := cell hx hy
          have c2 := cell hz hw
          have c3 := cell hx hz
          have c4 := cell hy hw
          have d1 := cell c1.2 c2.2
          have d2 := cell c3.2 c4.2
          refine ⟨hx, hz, hx, hy, ⟨y0, c1.1⟩, c1.2, ⟨w0, c2.1⟩, ⟨c2.2.1, d1.1⟩, ⟨z0, c3.1⟩, c3.2, ⟨w0, c4.1⟩, ⟨c4.2.1, d2.1⟩, fun hne => ⟨?_, by unfold rkE; rw [h]; rfl⟩, fun he => ⟨⟨by omega, by omega⟩, ⟨⟨by omega, by omega⟩, fun w' hw' => ?_⟩, by omega⟩⟩
          · have : ¬ MedP r := fun g => hne (g x y z w hx hy hz hw)
            unfold medB; rw [dec_f this]; simp
          · by_cases e : w' = w
            · subst e; exact he
            · exact hW w' ⟨hw'.1, by omega⟩
        · by_cases e : z' = z
          · subst e; exact fun w' hw' => hW w' ⟨hw'.1, by omega⟩
          · exact hZ z' ⟨hz'.1, by omega⟩
      · by_cases e : y' = y
        · subst e; exact fun z' hz' => hZ z' ⟨hz'.1, by omega⟩
        · exact hY y' ⟨hy'.1, by omega⟩
    · by_cases e : x' = x
      · subst e; exact fun y' hy' => hY y' ⟨hy'.1, by omega⟩
      · exact hX x' ⟨hx'.1, by omega⟩
  · have : MedP r := fun x' y' z' w' hx hy hz hw => hX x' ⟨hx.1, by omega⟩ y' hy z' hz w' hw
    unfold medB; rw [h, dec_t this]; rfl
theorem p_impl_IsLatinRack (r : List (List Int)) (hp : small2 r) : wp_impl_IsLatinRack r (fun y0 y1 => y0 = (isRk r && (trnT r).all isPerm) ∧ y1 = rkE r) := by
  unfold wp_impl_IsLatinRack
  refine ⟨hp, fun h => ⟨by rw [h]; rfl, by unfold rkE; rw [h]; rfl⟩, fun h => ⟨isRk_tab h, ?_, by rw [h]; rfl, by unfold rkE; rw [h]; rfl⟩⟩
  have hn := isTab_len (isRk_tab h)
  have ht : ((trnT r).length : Int) = (r.length : Int) := len_tab (by omega)
  refine ⟨by show (_ : Int) ≤ 1000000000; omega, fun q hq => ?_⟩
  obtain ⟨i, hi, rfl⟩ := mem_el hq
  have : ((el (trnT r) i).length : Int) = (r.length : Int) := by unfold trnT tab; rw [el_ran ⟨hi.1, by omega⟩]; simp
  show (_ : Int) ≤ 1000000000; omega
theorem p_spec_DrawIsRack (code : List Int) (hp : small code ∧ bytes code) : wp_spec_DrawIsRack code (fun y0 => drT 7 y0) := by
  refine ⟨hp, ?_⟩
  rintro c a h ⟨rfl, hs⟩
  exact ⟨⟨hs, by omega, by omega⟩, fun t c2 a2 h2 ⟨ht, _⟩ => ht⟩
theorem p_spec_DrawInnerOrder (code : List Int) (hp : small code ∧ bytes code) : wp_spec_DrawInnerOrder code (fun y0 => drT 7 y0) := ⟨hp, fun _ ht => ht⟩
set_option maxRecDepth 100000 in
set_option maxHeartbeats 4000000 in
theorem w_impl_IsLatinRack (r : List (List Int)) (Q : Bool → Int → Prop) (h : wp_impl_IsLatinRack r Q) : AF Try.prog 27 [.agg [.lst (rows r)]] (fun R_ => ∃ y0 y1, Q y0 y1 ∧ R_ = .tup [cb y0, ci y1]) := by
  refine AF.ofWQ (af_enter (n := 11) Try.func27 rfl (by rfl) rfl (Nat.le_of_ble_eq_true rfl) ?_)
  unfold wp_impl_IsLatinRack at h
  refine aw_seq ?_
  refine aw_gh (gh_to (n := 11) (σ' := []) (env' := [(0, .c (.agg [.lst (rows r)]))]) rfl rfl ⟨rfl, trivial⟩) ?_
  refine aw_region ?_
  refine run_w (ws_boxR rfl (.inl rfl) rfl ⟨rfl, ?_⟩)
  refine run_s (ss_assign rfl) rfl ?_
  refine run_s (ss_assign rfl) rfl ?_
  refine run_nil ?_
  refine aw_seq ?_
  refine aw_seq ?_
  refine aw_region ?_
  refine run_s (ss_load_struct rfl (Nat.le_of_ble_eq_true rfl)) rfl ?_
  obtain ⟨q1, h⟩ := h
  refine run_w (ws_call (xs := [.tmp 4]) (ids := []) rfl rfl rfl rfl (c_impl_IsRack r q1) rfl ?_ )
  rintro _ rfl
  refine ⟨rfl, ?_⟩
  refine run_s (ss_not rfl) rfl ?_
  refine run_nil ?_
  refine aw_cond rfl (fun q3 => ?_) (fun q3 => ?_)
  ·replace h := h.1 ((bnot_t q3))
   refine aw_seq ?_
   refine aw_gh (gh_to (n := 11) (σ' := []) (env' := [(2, .c (cb false)), (3, .c (ci 0))]) rfl rfl ⟨rfl, rfl, trivial⟩) ?_
   refine aw_region ?_
   refine run_s (ss_assign rfl) rfl ?_
   refine run_s (ss_assign rfl) rfl ?_
   refine run_nil ?_
   refine aw_ret ?_
   exact retAF_mk (retv2 rfl (rv_tmp rfl) (rv_tmp rfl)) rfl rfl ⟨_, (cle_refl _), _, _, h, rfl⟩
  ·replace h := h.2 ((bnot_f q3))
   refine aw_skip ?_
   refine aw_seq ?_
   refine aw_region ?_
   refine run_s (ss_field_ptr rfl) rfl ?_
   refine run_s (ss_load_ptr rfl rfl) rfl ?_
   obtain ⟨q4, h⟩ := h
   refine run_w (ws_call (xs := [.tmp 8]) (ids := [9]) rfl rfl rfl rfl (c_impl_transposed r q4) rfl ?_ )
   rintro _ rfl
   refine ⟨rfl, ?_⟩
   obtain ⟨q6, h⟩ := h
   refine run_w (ws_callR (xs := [.tmp 9]) (cs := [.own (orows (trnT r))]) (ids := []) rfl (.inr ⟨rfl, rfl⟩) rfl rfl (fz_cons (fz_own (fz_map (fun _ => (fz_own (fz_map (fun _ => rfl) _))) _)) fz_nil) (c_impl_permutationRows (trnT r) q6) rfl ?_ )
   rintro _ rfl
   refine ⟨rfl, rfl, ?_⟩
   refine run_s (ss_assign rfl) rfl ?_
   refine run_s (ss_assign rfl) rfl ?_
   refine run_nil ?_
   refine aw_ret ?_
   exact retAF_mk (retv2 rfl (rv_tmp rfl) (rv_tmp rfl)) rfl rfl ⟨_, (cle_refl _), _, _, h, rfl⟩

theorem c_impl_IsLatinRack (r : List (List Int)) (hp : small2 r) : AF Try.prog 27 [.agg [.lst (rows r)]] (fun R_ => R_ = .tup [cb (isRk r && (trnT r).all isPerm), ci (rkE r)]) :=
  (w_impl_IsLatinRack r (fun y0 y1 => y0 = (isRk r && (trnT r).all isPerm) ∧ y1 = rkE r) (p_impl_IsLatinRack r hp)).mono (by rintro r ⟨_, _, ⟨rfl, rfl⟩, rfl⟩; rfl)

set_option maxRecDepth 100000 in
set_option maxHeartbeats 4000000 in
theorem w_impl_IsMedialRack (r : List (List Int)) (Q : Bool → Int → Prop) (h : wp_impl_IsMedialRack r Q) : AF Try.prog 29 [.agg [.lst (rows r)]] (fun R_ => ∃ y0 y1, Q y0 y1 ∧ R_ = .tup [cb y0, ci y1]) := by
  refine AF.ofWQ (af_enter (n := 77) Try.func29 rfl (by rfl) rfl (Nat.le_of_ble_eq_true rfl) ?_)
  unfold wp_impl_IsMedialRack at h
  refine aw_seq ?_
  refine aw_gh (gh_to (n := 77) (σ' := []) (env' := [(0, .c (.agg [.lst (rows r)]))]) rfl rfl ⟨rfl, trivial⟩) ?_
  refine aw_region ?_
  refine run_w (ws_boxR rfl (.inl rfl) rfl ⟨rfl, ?_⟩)
  refine run_s (ss_assign rfl) rfl ?_
  refine run_s (ss_assign rfl) rfl ?_
  refine run_nil ?_
  refine aw_seq ?_
  refine aw_seq ?_
  refine aw_region ?_
  refine run_s (ss_load_struct rfl (Nat.le_of_ble_eq_true rfl)) rfl ?_
  obtain ⟨q1, h⟩ := h
  refine run_w (ws_call (xs := [.tmp 9]) (ids := []) rfl rfl rfl rfl (c_impl_IsRack r q1) rfl ?_ )
  rintro _ rfl
  refine ⟨rfl, ?_⟩
  refine run_s (ss_not rfl) rfl ?_
  refine run_nil ?_
  refine aw_cond rfl (fun q3 => ?_) (fun q3 => ?_)
  ·replace h := h.1 ((bnot_t q3))
   refine aw_seq ?_
   refine aw_gh (gh_to (n := 77) (σ' := []) (env' := [(2, .c (cb false)), (3, .c (ci 0))]) rfl rfl ⟨rfl, rfl, trivial⟩) ?_
   refine aw_region ?_
   refine run_s (ss_assign rfl) rfl ?_
   refine run_s (ss_assign rfl) rfl ?_
   refine run_nil ?_
   refine aw_ret ?_
   exact retAF_mk (retv2 rfl (rv_tmp rfl) (rv_tmp rfl)) rfl rfl ⟨_, (cle_refl _), _, _, h, rfl⟩
  ·replace h := h.2 ((bnot_f q3))
   refine aw_skip ?_
   refine aw_seq ?_
   refine aw_gh (gh_to (n := 77) (σ' := []) (env' := [(1, .c (.ptr [.lst (rows r)]))]) rfl rfl ⟨rfl, trivial⟩) ?_
   refine aw_region ?_
   refine run_s (ss_field_ptr rfl) rfl ?_
   refine run_s (ss_load_ptr rfl rfl) rfl ?_
   refine run_s (ss_assign rfl) rfl ?_
   refine run_nil ?_
   refine aw_seq ?_
   refine aw_seq ?_
   refine aw_region ?_
   refine run_s (ss_move rfl) rfl ?_
   refine run_s (ss_lenL (f := (fun r => C.lst (ints r))) rfl) rfl ?_
   refine run_s (ss_move rfl) rfl ?_
   refine run_nil ?_
   refine aw_block ?_
   obtain ⟨H1, m1, q4, h⟩ := h
   refine aw_loop1 (fun (v16_1 : Int) => ⟨[], [(4, .c (.lst (rows r))), (15, .c (ci (r.length : Int))), (16, .c (ci v16_1))], 77⟩) H1 m1 ⟨0, ghe_to (n := 77) rfl rfl ⟨rfl, rfl, rfl, trivial⟩, q4⟩ ?_
   rintro v16_1 q4
   replace h := h v16_1 q4
   refine aw_seq ?_
   refine aw_region ?_
   refine run_s (ss_lss rfl rfl) rfl ?_
   refine run_nil ?_
   refine aw_seq ?_
   refine aw_cond rfl (fun q5 => ?_) (fun q5 => ?_)
   ·replace h := h.1 (of_decide_eq_true q5)
    refine aw_skip ?_
    refine aw_seq ?_
    refine aw_block ?_
    refine aw_seq ?_
    refine aw_region ?_
    refine run_s (ss_move rfl) rfl ?_
    refine run_s (ss_assign rfl) rfl ?_
    refine run_nil ?_
    refine aw_seq ?_
    refine aw_region ?_
    refine run_s (ss_move rfl) rfl ?_
    refine run_s (ss_lenL (f := (fun r => C.lst (ints r))) rfl) rfl ?_
    refine run_s (ss_move rfl) rfl ?_
    refine run_nil ?_
    refine aw_block ?_
    obtain ⟨H2, m2, q6, h⟩ := h
    refine aw_loop1 (fun (v21_2 : Int) => ⟨[], [(4, .c (.lst (rows r))), (5, .c (ci v16_1)), (15, .c (ci (r.length : Int))), (16, .c (ci v16_1)), (20, .c (ci (r.length : Int))), (21, .c (ci v21_2))], 77⟩) H2 m2 ⟨0, ghe_to (n := 77) rfl rfl ⟨rfl, rfl, rfl, rfl, rfl, rfl, trivial⟩, q6⟩ ?_
    rintro v21_2 q6
    replace h := h v21_2 q6
    refine aw_seq ?_
    refine aw_region ?_
    refine run_s (ss_lss rfl rfl) rfl ?_
    refine run_nil ?_
    refine aw_seq ?_
    refine aw_cond rfl (fun q7 => ?_) (fun q7 => ?_)
    ·replace h := h.1 (of_decide_eq_true q7)
     refine aw_skip ?_
     refine aw_seq ?_
     refine aw_block ?_
     refine aw_seq ?_
     refine aw_region ?_
     refine run_s (ss_move rfl) rfl ?_
     refine run_s (ss_assign rfl) rfl ?_
     refine run_nil ?_
     refine aw_seq ?_
     refine aw_region ?_
     refine run_s (ss_move rfl) rfl ?_
     refine run_s (ss_lenL (f := (fun r => C.lst (ints r))) rfl) rfl ?_
     refine run_s (ss_move rfl) rfl ?_
     refine run_nil ?_
     refine aw_block ?_
     obtain ⟨H3, m3, q8, h⟩ := h
     refine aw_loop1 (fun (v26_3 : Int) => ⟨[], [(4, .c (.lst (rows r))), (5, .c (ci v16_1)), (6, .c (ci v21_2)), (15, .c (ci (r.length : Int))), (16, .c (ci v16_1)), (20, .c (ci (r.length : Int))), (21, .c (ci v21_2)), (25, .c (ci (r.length : Int))), (26, .c (ci v26_3))], 77⟩) H3 m3 ⟨0, ghe_to (n := 77) rfl rfl ⟨rfl, rfl, rfl, rfl, rfl, rfl, rfl, rfl, rfl, trivial⟩, q8⟩ ?_
     rintro v26_3 q8
     replace h := h v26_3 q8
     refine aw_seq ?_
     refine aw_region ?_
     refine run_s (ss_lss rfl rfl) rfl ?_
     refine run_nil ?_
     refine aw_seq ?_
     refine aw_cond rfl (fun q9 => ?_) (fun q9 => ?_)
     ·replace h := h.1 (of_decide_eq_true q9)
      refine aw_skip ?_
      refine aw_seq ?_
      refine aw_block ?_
      refine aw_seq ?_
      refine aw_region ?_
      refine run_s (ss_move rfl) rfl ?_
      refine run_s (ss_assign rfl) rfl ?_
      refine run_nil ?_
      refine aw_seq ?_
      refine aw_region ?_
      refine run_s (ss_move rfl) rfl ?_
      refine run_s (ss_lenL (f := (fun r => C.lst (ints r))) rfl) rfl ?_
      refine run_s (ss_move rfl) rfl ?_
      refine run_nil ?_
      refine aw_block ?_
      obtain ⟨H4, m4, q10, h⟩ := h
      refine aw_loop1 (fun (v31_4 : Int) => ⟨[], [(4, .c (.lst (rows r))), (5, .c (ci v16_1)), (6, .c (ci v21_2)), (7, .c (ci v26_3)), (15, .c (ci (r.length : Int))), (16, .c (ci v16_1)), (20, .c (ci (r.length : Int))), (21, .c (ci v21_2)), (25, .c (ci (r.length : Int))), (26, .c (ci v26_3)), (30, .c (ci (r.length : Int))), (31, .c (ci v31_4))], 77⟩) H4 m4 ⟨0, ghe_to (n := 77) rfl rfl ⟨rfl, rfl, rfl, rfl, rfl, rfl, rfl, rfl, rfl, rfl, rfl, rfl, trivial⟩, q10⟩ ?_
      rintro v31_4 q10
      replace h := h v31_4 q10
      refine aw_seq ?_
      refine aw_region ?_
      refine run_s (ss_lss rfl rfl) rfl ?_
      refine run_nil ?_
      refine aw_seq ?_
      refine aw_cond rfl (fun q11 => ?_) (fun q11 => ?_)
      ·replace h := h.1 (of_decide_eq_true q11)
       refine aw_skip ?_
       refine aw_seq ?_
       refine aw_block ?_
       refine aw_seq ?_
       refine aw_region ?_
       refine run_s (ss_move rfl) rfl ?_
       refine run_s (ss_assign rfl) rfl ?_
       refine run_nil ?_
       refine aw_seq ?_
       refine aw_gh (gh_to (n := 77) (σ' := []) (env' := [(4, .c (.lst (rows r))), (5, .c (ci v16_1)), (6, .c (ci v21_2)), (7, .c (ci v26_3)), (8, .c (ci v31_4)), (15, .c (ci (r.length : Int))), (16, .c (ci v16_1)), (20, .c (ci (r.length : Int))), (21, .c (ci v21_2)), (25, .c (ci (r.length : Int))), (26, .c (ci v26_3)), (30, .c (ci (r.length : Int))), (31, .c (ci v31_4))]) rfl rfl ⟨rfl, rfl, rfl, rfl, rfl, rfl, rfl, rfl, rfl, rfl, rfl, rfl, rfl, trivial⟩) ?_
       refine aw_regionD (kd := kdl [0, 0, 0, 0, 1, 0, 0, 1, 0, 1, 0, 0, 0, 1, 0, 0, 1, 0, 1, 0, 0, 0, 0, 1, 0, 0, 1, 0, 1, 0, 0, 0, 1, 0, 0, 1, 0, 1, 0]) (ord := [0, 1, 2, 3, 5, 10, 11, 12, 14, 19, 20, 21, 22, 24, 29, 30, 31, 33, 4, 6, 7, 8, 9, 13, 15, 16, 17, 18, 23, 25, 26, 27, 28, 32, 34, 35, 36, 37, 38]) [] mixed (by kernel_rfl) ?_
       refine rd_s rfl rfl trivial (ss_move rfl) rfl ?_
       refine rd_s rfl rfl trivial (ss_move rfl) rfl ?_
       refine rd_s rfl rfl trivial (ss_move rfl) rfl ?_
       obtain ⟨q12, h⟩ := h
       refine rd_s rfl rfl trivial (ss_idxL rfl rfl q12) rfl ?_
       refine rd_s rfl rfl trivial (ss_move rfl) rfl ?_
       refine rd_s rfl rfl trivial (ss_move rfl) rfl ?_
       refine rd_s rfl rfl trivial (ss_move rfl) rfl ?_
       obtain ⟨q13, h⟩ := h
       refine rd_s rfl rfl trivial (ss_idxL rfl rfl q13) rfl ?_
       refine rd_s rfl rfl trivial (ss_move rfl) rfl ?_
       refine rd_s rfl rfl trivial (ss_move rfl) rfl ?_
       refine rd_s rfl rfl trivial (ss_move rfl) rfl ?_
       refine rd_s rfl rfl trivial (ss_move rfl) rfl ?_
       obtain ⟨q14, h⟩ := h
       refine rd_s rfl rfl trivial (ss_idxL rfl rfl q14) rfl ?_
       refine rd_s rfl rfl trivial (ss_move rfl) rfl ?_
       refine rd_s rfl rfl trivial (ss_move rfl) rfl ?_
       refine rd_s rfl rfl trivial (ss_move rfl) rfl ?_
       obtain ⟨q15, h⟩ := h
       refine rd_s rfl rfl trivial (ss_idxL rfl rfl q15) rfl ?_
       refine rd_s rfl rfl trivial (ss_move rfl) rfl ?_
       refine rd_l rfl rfl trivial (ss_loadL (f := (fun r => C.lst (ints r))) rfl q12) rfl ?_
       obtain ⟨q16, h⟩ := h
       refine rd_s rfl rfl trivial (ss_idxL rfl rfl q16) rfl ?_
       refine rd_l rfl rfl trivial (ss_loadL (f := ci) rfl q16) rfl ?_
       obtain ⟨q17, h⟩ := h
       refine rd_s rfl rfl trivial (ss_idxL rfl rfl q17) rfl ?_
       refine rd_l rfl rfl trivial (ss_loadL (f := (fun r => C.lst (ints r))) rfl q17) rfl ?_
       refine rd_l rfl rfl trivial (ss_loadL (f := (fun r => C.lst (ints r))) rfl q13) rfl ?_
       obtain ⟨q18, h⟩ := h
       refine rd_s rfl rfl trivial (ss_idxL rfl rfl q18) rfl ?_
       refine rd_l rfl rfl trivial (ss_loadL (f := ci) rfl q18) rfl ?_
       obtain ⟨q19, h⟩ := h
       refine rd_s rfl rfl trivial (ss_idxL rfl rfl q19) rfl ?_
       refine rd_l rfl rfl trivial (ss_loadL (f := ci) rfl q19) rfl ?_
       refine rd_l rfl rfl trivial (ss_loadL (f := (fun r => C.lst (ints r))) rfl q14) rfl ?_
       obtain ⟨q20, h⟩ := h
       refine rd_s rfl rfl trivial (ss_idxL rfl rfl q20) rfl ?_
       refine rd_l rfl rfl trivial (ss_loadL (f := ci) rfl q20) rfl ?_
       obtain ⟨q21, h⟩ := h
       refine rd_s rfl rfl trivial (ss_idxL rfl rfl q21) rfl ?_
       refine rd_l rfl rfl trivial (ss_loadL (f := (fun r => C.lst (ints r))) rfl q21) rfl ?_
       refine rd_l rfl rfl trivial (ss_loadL (f := (fun r => C.lst (ints r))) rfl q15) rfl ?_
       obtain ⟨q22, h⟩ := h
       refine rd_s rfl rfl trivial (ss_idxL rfl rfl q22) rfl ?_
       refine rd_l rfl rfl trivial (ss_loadL (f := ci) rfl q22) rfl ?_
       obtain ⟨q23, h⟩ := h
       refine rd_s rfl rfl trivial (ss_idxL rfl rfl q23) rfl ?_
       refine rd_l rfl rfl trivial (ss_loadL (f := ci) rfl q23) rfl ?_
       refine rd_s rfl rfl trivial (ss_neq rfl rfl) rfl ?_
       refine rd_nil ?_
       refine aw_cond rfl (fun q24 => ?_) (fun q24 => ?_)
       ·replace h := h.1 (of_decide_eq_false (bnot_t q24))
        refine aw_seq ?_
        refine aw_gh (gh_to (n := 77) (σ' := []) (env' := []) rfl rfl trivial) ?_
        refine aw_region ?_
        refine run_s (ss_assign rfl) rfl ?_
        refine run_s (ss_assign rfl) rfl ?_
        refine run_nil ?_
        refine aw_ret ?_
        exact retAF_mk (retv2 rfl (rv_tmp rfl) (rv_tmp rfl)) rfl rfl ⟨_, (cle_refl _), _, _, h, rfl⟩
       ·replace h := h.2 (of_decide_eq_true (bnot_f q24))
        refine aw_skip ?_
        refine aw_gh (gh_to (n := 77) (σ' := []) (env' := [(4, .c (.lst (rows r))), (5, .c (ci v16_1)), (6, .c (ci v21_2)), (7, .c (ci v26_3)), (15, .c (ci (r.length : Int))), (16, .c (ci v16_1)), (20, .c (ci (r.length : Int))), (21, .c (ci v21_2)), (25, .c (ci (r.length : Int))), (26, .c (ci v26_3)), (30, .c (ci (r.length : Int))), (31, .c (ci v31_4))]) rfl rfl ⟨rfl, rfl, rfl, rfl, rfl, rfl, rfl, rfl, rfl, rfl, rfl, rfl, trivial⟩) ?_
        refine aw_region ?_
        obtain ⟨q25, h⟩ := h
        refine run_s (ss_add rfl rfl q25) rfl ?_
        refine run_s (ss_move rfl) rfl ?_
        refine run_nil ?_
        exact ⟨v31_4 + 1, ghe_to (n := 77) rfl rfl ⟨rfl, rfl, rfl, rfl, rfl, rfl, rfl, rfl, rfl, rfl, rfl, rfl, trivial⟩, h.1, h.2⟩
      ·replace h := h.2 (of_decide_eq_false q11)
       refine aw_exit ?_
       refine aw_gh (gh_to (n := 77) (σ' := []) (env' := [(4, .c (.lst (rows r))), (5, .c (ci v16_1)), (6, .c (ci v21_2)), (15, .c (ci (r.length : Int))), (16, .c (ci v16_1)), (20, .c (ci (r.length : Int))), (21, .c (ci v21_2)), (25, .c (ci (r.length : Int))), (26, .c (ci v26_3))]) rfl rfl ⟨rfl, rfl, rfl, rfl, rfl, rfl, rfl, rfl, rfl, trivial⟩) ?_
       refine aw_region ?_
       obtain ⟨q26, h⟩ := h
       refine run_s (ss_add rfl rfl q26) rfl ?_
       refine run_s (ss_move rfl) rfl ?_
       refine run_nil ?_
       exact ⟨v26_3 + 1, ghe_to (n := 77) rfl rfl ⟨rfl, rfl, rfl, rfl, rfl, rfl, rfl, rfl, rfl, trivial⟩, h.1, h.2⟩
     ·replace h := h.2 (of_decide_eq_false q9)
      refine aw_exit ?_
      refine aw_gh (gh_to (n := 77) (σ' := []) (env' := [(4, .c (.lst (rows r))), (5, .c (ci v16_1)), (15, .c (ci (r.length : Int))), (16, .c (ci v16_1)), (20, .c (ci (r.length : Int))), (21, .c (ci v21_2))]) rfl rfl ⟨rfl, rfl, rfl, rfl, rfl, rfl, trivial⟩) ?_
      refine aw_region ?_
      obtain ⟨q27, h⟩ := h
      refine run_s (ss_add rfl rfl q27) rfl ?_
      refine run_s (ss_move rfl) rfl ?_
      refine run_nil ?_
      exact ⟨v21_2 + 1, ghe_to (n := 77) rfl rfl ⟨rfl, rfl, rfl, rfl, rfl, rfl, trivial⟩, h.1, h.2⟩
    ·replace h := h.2 (of_decide_eq_false q7)
     refine aw_exit ?_
     refine aw_gh (gh_to (n := 77) (σ' := []) (env' := [(4, .c (.lst (rows r))), (15, .c (ci (r.length : Int))), (16, .c (ci v16_1))]) rfl rfl ⟨rfl, rfl, rfl, trivial⟩) ?_
     refine aw_region ?_
     obtain ⟨q28, h⟩ := h
     refine run_s (ss_add rfl rfl q28) rfl ?_
     refine run_s (ss_move rfl) rfl ?_
     refine run_nil ?_
     exact ⟨v16_1 + 1, ghe_to (n := 77) rfl rfl ⟨rfl, rfl, rfl, trivial⟩, h.1, h.2⟩
   ·replace h := h.2 (of_decide_eq_false q5)
    refine aw_exit ?_
    refine aw_seq ?_
    refine aw_region ?_
    refine run_s (ss_assign rfl) rfl ?_
    refine run_s (ss_assign rfl) rfl ?_
    refine run_nil ?_
    refine aw_ret ?_
    exact retAF_mk (retv2 rfl (rv_tmp rfl) (rv_tmp rfl)) rfl rfl ⟨_, (cle_refl _), _, _, h, rfl⟩

theorem c_impl_IsMedialRack (r : List (List Int)) (hp : small2 r) : AF Try.prog 29 [.agg [.lst (rows r)]] (fun R_ => R_ = .tup [cb (isRk r && medB r), ci (rkE r)]) :=
  (w_impl_IsMedialRack r (fun y0 y1 => y0 = (isRk r && medB r) ∧ y1 = rkE r) (p_impl_IsMedialRack r hp)).mono (by rintro r ⟨_, _, ⟨rfl, rfl⟩, rfl⟩; rfl)

set_option maxRecDepth 100000 in
set_option maxHeartbeats 4000000 in
theorem w_spec_IsMedialRack (r : List (List Int)) (Q : Bool → Int → Prop) (h : wp_spec_IsMedialRack r Q) : AF Try.prog 30 [.agg [.lst (rows r)]] (fun R_ => ∃ y0 y1, Q y0 y1 ∧ R_ = .tup [cb y0, ci y1]) := by
  refine AF.ofWQ (af_enter (n := 77) Try.func30 rfl (by rfl) rfl (Nat.le_of_ble_eq_true rfl) ?_)
  unfold wp_spec_IsMedialRack at h
  refine aw_seq ?_
  refine aw_gh (gh_to (n := 77) (σ' := []) (env' := [(0, .c (.agg [.lst (rows r)]))]) rfl rfl ⟨rfl, trivial⟩) ?_
  refine aw_region ?_
  refine run_w (ws_boxR rfl (.inl rfl) rfl ⟨rfl, ?_⟩)
  refine run_s (ss_assign rfl) rfl ?_
  refine run_s (ss_assign rfl) rfl ?_
  refine run_nil ?_
  refine aw_seq ?_
  refine aw_seq ?_
  refine aw_region ?_
  refine run_s (ss_load_struct rfl (Nat.le_of_ble_eq_true rfl)) rfl ?_
  obtain ⟨q1, h⟩ := h
  refine run_w (ws_call (xs := [.tmp 9]) (ids := []) rfl rfl rfl rfl (c_spec_l03Is r q1) rfl ?_ )
  rintro _ rfl
  refine ⟨rfl, ?_⟩
  refine run_s (ss_not rfl) rfl ?_
  refine run_nil ?_
  refine aw_cond rfl (fun q3 => ?_) (fun q3 => ?_)
  ·replace h := h.1 ((bnot_t q3))
   refine aw_seq ?_
   refine aw_gh (gh_to (n := 77) (σ' := []) (env' := [(2, .c (cb false)), (3, .c (ci 0))]) rfl rfl ⟨rfl, rfl, trivial⟩) ?_
   refine aw_region ?_
   refine run_s (ss_assign rfl) rfl ?_
   refine run_s (ss_assign rfl) rfl ?_
   refine run_nil ?_
   refine aw_ret ?_
   exact retAF_mk (retv2 rfl (rv_tmp rfl) (rv_tmp rfl)) rfl rfl ⟨_, (cle_refl _), _, _, h, rfl⟩
  ·replace h := h.2 ((bnot_f q3))
   refine aw_skip ?_
   refine aw_seq ?_
   refine aw_gh (gh_to (n := 77) (σ' := []) (env' := [(1, .c (.ptr [.lst (rows r)]))]) rfl rfl ⟨rfl, trivial⟩) ?_
   refine aw_region ?_
   refine run_s (ss_field_ptr rfl) rfl ?_
   refine run_s (ss_load_ptr rfl rfl) rfl ?_
   refine run_s (ss_assign rfl) rfl ?_
   refine run_nil ?_
   refine aw_seq ?_
   refine aw_seq ?_
   refine aw_region ?_
   refine run_s (ss_assign rfl) rfl ?_
   refine run_nil ?_
   refine aw_block ?_
   obtain ⟨H1, m1, q4, h⟩ := h
   refine aw_loop1 (fun (v5_1 : Int) => ⟨[], [(4, .c (.lst (rows r))), (5, .c (ci v5_1))], 77⟩) H1 m1 ⟨0, ghe_to (n := 77) rfl rfl ⟨rfl, rfl, trivial⟩, q4⟩ ?_
   rintro v5_1 q4
   replace h := h v5_1 q4
   refine aw_seq ?_
   refine aw_seq ?_
   refine aw_region ?_
   refine run_s (ss_move rfl) rfl ?_
   refine run_s (ss_move rfl) rfl ?_
   refine run_s (ss_lenL (f := (fun r => C.lst (ints r))) rfl) rfl ?_
   refine run_s (ss_lss rfl rfl) rfl ?_
   refine run_nil ?_
   refine aw_cond rfl (fun q5 => ?_) (fun q5 => ?_)
   ·replace h := h.1 (of_decide_eq_true q5)
    refine aw_skip ?_
    refine aw_seq ?_
    refine aw_block ?_
    refine aw_seq ?_
    refine aw_gh (gh_to (n := 77) (σ' := []) (env' := [(4, .c (.lst (rows r))), (5, .c (ci v5_1))]) rfl rfl ⟨rfl, rfl, trivial⟩) ?_
    refine aw_region ?_
    refine run_s (ss_assign rfl) rfl ?_
    refine run_nil ?_
    refine aw_block ?_
    obtain ⟨H2, m2, q6, h⟩ := h
    refine aw_loop1 (fun (v6_2 : Int) => ⟨[], [(4, .c (.lst (rows r))), (5, .c (ci v5_1)), (6, .c (ci v6_2))], 77⟩) H2 m2 ⟨0, ghe_to (n := 77) rfl rfl ⟨rfl, rfl, rfl, trivial⟩, q6⟩ ?_
    rintro v6_2 q6
    replace h := h v6_2 q6
    refine aw_seq ?_
    refine aw_seq ?_
    refine aw_region ?_
    refine run_s (ss_move rfl) rfl ?_
    refine run_s (ss_move rfl) rfl ?_
    refine run_s (ss_lenL (f := (fun r => C.lst (ints r))) rfl) rfl ?_
    refine run_s (ss_lss rfl rfl) rfl ?_
    refine run_nil ?_
    refine aw_cond rfl (fun q7 => ?_) (fun q7 => ?_)
    ·replace h := h.1 (of_decide_eq_true q7)
     refine aw_skip ?_
     refine aw_seq ?_
     refine aw_block ?_
     refine aw_seq ?_
     refine aw_gh (gh_to (n := 77) (σ' := []) (env' := [(4, .c (.lst (rows r))), (5, .c (ci v5_1)), (6, .c (ci v6_2))]) rfl rfl ⟨rfl, rfl, rfl, trivial⟩) ?_
     refine aw_region ?_
     refine run_s (ss_assign rfl) rfl ?_
     refine run_nil ?_
     refine aw_block ?_
     obtain ⟨H3, m3, q8, h⟩ := h
     refine aw_loop1 (fun (v7_3 : Int) => ⟨[], [(4, .c (.lst (rows r))), (5, .c (ci v5_1)), (6, .c (ci v6_2)), (7, .c (ci v7_3))], 77⟩) H3 m3 ⟨0, ghe_to (n := 77) rfl rfl ⟨rfl, rfl, rfl, rfl, trivial⟩, q8⟩ ?_
     rintro v7_3 q8
     replace h := h v7_3 q8
     refine aw_seq ?_
     refine aw_seq ?_
     refine aw_region ?_
     refine run_s (ss_move rfl) rfl ?_
     refine run_s (ss_move rfl) rfl ?_
     refine run_s (ss_lenL (f := (fun r => C.lst (ints r))) rfl) rfl ?_
     refine run_s (ss_lss rfl rfl) rfl ?_
     refine run_nil ?_
     refine aw_cond rfl (fun q9 => ?_) (fun q9 => ?_)
     ·replace h := h.1 (of_decide_eq_true q9)
      refine aw_skip ?_
      refine aw_seq ?_
      refine aw_block ?_
      refine aw_seq ?_
      refine aw_gh (gh_to (n := 77) (σ' := []) (env' := [(4, .c (.lst (rows r))), (5, .c (ci v5_1)), (6, .c (ci v6_2)), (7, .c (ci v7_3))]) rfl rfl ⟨rfl, rfl, rfl, rfl, trivial⟩) ?_
      refine aw_region ?_
      refine run_s (ss_assign rfl) rfl ?_
      refine run_nil ?_
      refine aw_block ?_
      obtain ⟨H4, m4, q10, h⟩ := h
      refine aw_loop1 (fun (v8_4 : Int) => ⟨[], [(4, .c (.lst (rows r))), (5, .c (ci v5_1)), (6, .c (ci v6_2)), (7, .c (ci v7_3)), (8, .c (ci v8_4))], 77⟩) H4 m4 ⟨0, ghe_to (n := 77) rfl rfl ⟨rfl, rfl, rfl, rfl, rfl, trivial⟩, q10⟩ ?_
      rintro v8_4 q10
      replace h := h v8_4 q10
      refine aw_seq ?_
      refine aw_seq ?_
      refine aw_region ?_
      refine run_s (ss_move rfl) rfl ?_
      refine run_s (ss_move rfl) rfl ?_
      refine run_s (ss_lenL (f := (fun r => C.lst (ints r))) rfl) rfl ?_
      refine run_s (ss_lss rfl rfl) rfl ?_
      refine run_nil ?_
      refine aw_cond rfl (fun q11 => ?_) (fun q11 => ?_)
      ·replace h := h.1 (of_decide_eq_true q11)
       refine aw_skip ?_
       refine aw_seq ?_
       refine aw_block ?_
       refine aw_seq ?_
       refine aw_gh (gh_to (n := 77) (σ' := []) (env' := [(4, .c (.lst (rows r))), (5, .c (ci v5_1)), (6, .c (ci v6_2)), (7, .c (ci v7_3)), (8, .c (ci v8_4))]) rfl rfl ⟨rfl, rfl, rfl, rfl, rfl, trivial⟩) ?_
       refine aw_regionD (kd := kdl [0, 0, 0, 0, 1, 0, 0, 1, 0, 1, 0, 0, 0, 1, 0, 0, 1, 0, 1, 0, 0, 0, 0, 1, 0, 0, 1, 0, 1, 0, 0, 0, 1, 0, 0, 1, 0, 1, 0]) (ord := [0, 1, 2, 3, 5, 10, 11, 12, 14, 19, 20, 21, 22, 24, 29, 30, 31, 33, 4, 6, 7, 8, 9, 13, 15, 16, 17, 18, 23, 25, 26, 27, 28, 32, 34, 35, 36, 37, 38]) [] mixed (by kernel_rfl) ?_
       refine rd_s rfl rfl trivial (ss_move rfl) rfl ?_
       refine rd_s rfl rfl trivial (ss_move rfl) rfl ?_
       refine rd_s rfl rfl trivial (ss_move rfl) rfl ?_
       obtain ⟨q12, h⟩ := h
       refine rd_s rfl rfl trivial (ss_idxL rfl rfl q12) rfl ?_
       refine rd_s rfl rfl trivial (ss_move rfl) rfl ?_
       refine rd_s rfl rfl trivial (ss_move rfl) rfl ?_
       refine rd_s rfl rfl trivial (ss_move rfl) rfl ?_
       obtain ⟨q13, h⟩ := h
       refine rd_s rfl rfl trivial (ss_idxL rfl rfl q13) rfl ?_
       refine rd_s rfl rfl trivial (ss_move rfl) rfl ?_
       refine rd_s rfl rfl trivial (ss_move rfl) rfl ?_
       refine rd_s rfl rfl trivial (ss_move rfl) rfl ?_
       refine rd_s rfl rfl trivial (ss_move rfl) rfl ?_
       obtain ⟨q14, h⟩ := h
       refine rd_s rfl rfl trivial (ss_idxL rfl rfl q14) rfl ?_
       refine rd_s rfl rfl trivial (ss_move rfl) rfl ?_
       refine rd_s rfl rfl trivial (ss_move rfl) rfl ?_
       refine rd_s rfl rfl trivial (ss_move rfl) rfl ?_
       obtain ⟨q15, h⟩ := h
       refine rd_s rfl rfl trivial (ss_idxL rfl rfl q15) rfl ?_
       refine rd_s rfl rfl trivial (ss_move rfl) rfl ?_
       refine rd_l rfl rfl trivial (ss_loadL (f := (fun r => C.lst (ints r))) rfl q12) rfl ?_
       obtain ⟨q16, h⟩ := h
       refine rd_s rfl rfl trivial (ss_idxL rfl rfl q16) rfl ?_
       refine rd_l rfl rfl trivial (ss_loadL (f := ci) rfl q16) rfl ?_
       obtain ⟨q17, h⟩ := h
       refine rd_s rfl rfl trivial (ss_idxL rfl rfl q17) rfl ?_
       refine rd_l rfl rfl trivial (ss_loadL (f := (fun r => C.lst (ints r))) rfl q17) rfl ?_
       refine rd_l rfl rfl trivial (ss_loadL (f := (fun r => C.lst (ints r))) rfl q13) rfl ?_
       obtain ⟨q18, h⟩ := h
       refine rd_s rfl rfl trivial (ss_idxL rfl rfl q18) rfl ?_
       refine rd_l rfl rfl trivial (ss_loadL (f := ci) rfl q18) rfl ?_
       obtain ⟨q19, h⟩ := h
       refine rd_s rfl rfl trivial (ss_idxL rfl rfl q19) rfl ?_
       refine rd_l rfl rfl trivial (ss_loadL (f := ci) rfl q19) rfl ?_
       refine rd_l rfl rfl trivial (ss_loadL (f := (fun r => C.lst (ints r))) rfl q14) rfl ?_
       obtain ⟨q20, h⟩ := h
       refine rd_s rfl rfl trivial (ss_idxL rfl rfl q20) rfl ?_
       refine rd_l rfl rfl trivial (ss_loadL (f := ci) rfl q20) rfl ?_
       obtain ⟨q21, h⟩ := h
       refine rd_s rfl rfl trivial (ss_idxL rfl rfl q21) rfl ?_
       refine rd_l rfl rfl trivial (ss_loadL (f := (fun r => C.lst (ints r))) rfl q21) rfl ?_
       refine rd_l rfl rfl trivial (ss_loadL (f := (fun r => C.lst (ints r))) rfl q15) rfl ?_
       obtain ⟨q22, h⟩ := h
       refine rd_s rfl rfl trivial (ss_idxL rfl rfl q22) rfl ?_
       refine rd_l rfl rfl trivial (ss_loadL (f := ci) rfl q22) rfl ?_
       obtain ⟨q23, h⟩ := h
       refine rd_s rfl rfl trivial (ss_idxL rfl rfl q23) rfl ?_
       refine rd_l rfl rfl trivial (ss_loadL (f := ci) rfl q23) rfl ?_
       refine rd_s rfl rfl trivial (ss_neq rfl rfl) rfl ?_
       refine rd_nil ?_
       refine aw_cond rfl (fun q24 => ?_) (fun q24 => ?_)
       ·replace h := h.1 (of_decide_eq_false (bnot_t q24))
        refine aw_seq ?_
        refine aw_gh (gh_to (n := 77) (σ' := []) (env' := []) rfl rfl trivial) ?_
        refine aw_region ?_
        refine run_s (ss_assign rfl) rfl ?_
        refine run_s (ss_assign rfl) rfl ?_
        refine run_nil ?_
        refine aw_ret ?_
        exact retAF_mk (retv2 rfl (rv_tmp rfl) (rv_tmp rfl)) rfl rfl ⟨_, (cle_refl _), _, _, h, rfl⟩
       ·replace h := h.2 (of_decide_eq_true (bnot_f q24))
        refine aw_skip ?_
        refine aw_gh (gh_to (n := 77) (σ' := []) (env' := [(4, .c (.lst (rows r))), (5, .c (ci v5_1)), (6, .c (ci v6_2)), (7, .c (ci v7_3)), (8, .c (ci v8_4))]) rfl rfl ⟨rfl, rfl, rfl, rfl, rfl, trivial⟩) ?_
        refine aw_region ?_
        refine run_s (ss_move rfl) rfl ?_
        obtain ⟨q25, h⟩ := h
        refine run_s (ss_add rfl rfl q25) rfl ?_
        refine run_s (ss_assign rfl) rfl ?_
        refine run_nil ?_
        exact ⟨v8_4 + 1, ghe_to (n := 77) rfl rfl ⟨rfl, rfl, rfl, rfl, rfl, trivial⟩, h.1, h.2⟩
      ·replace h := h.2 (of_decide_eq_false q11)
       refine aw_exit ?_
       refine aw_gh (gh_to (n := 77) (σ' := []) (env' := [(4, .c (.lst (rows r))), (5, .c (ci v5_1)), (6, .c (ci v6_2)), (7, .c (ci v7_3))]) rfl rfl ⟨rfl, rfl, rfl, rfl, trivial⟩) ?_
       refine aw_region ?_
       refine run_s (ss_move rfl) rfl ?_
       obtain ⟨q26, h⟩ := h
       refine run_s (ss_add rfl rfl q26) rfl ?_
       refine run_s (ss_assign rfl) rfl ?_
       refine run_nil ?_
       exact ⟨v7_3 + 1, ghe_to (n := 77) rfl rfl ⟨rfl, rfl, rfl, rfl, trivial⟩, h.1, h.2⟩
     ·replace h := h.2 (of_decide_eq_false q9)
      refine aw_exit ?_
      refine aw_gh (gh_to (n := 77) (σ' := []) (env' := [(4, .c (.lst (rows r))), (5, .c (ci v5_1)), (6, .c (ci v6_2))]) rfl rfl ⟨rfl, rfl, rfl, trivial⟩) ?_
      refine aw_region ?_
      refine run_s (ss_move rfl) rfl ?_
      obtain ⟨q27, h⟩ := h
      refine run_s (ss_add rfl rfl q27) rfl ?_
      refine run_s (ss_assign rfl) rfl ?_
      refine run_nil ?_
      exact ⟨v6_2 + 1, ghe_to (n := 77) rfl rfl ⟨rfl, rfl, rfl, trivial⟩, h.1, h.2⟩
    ·replace h := h.2 (of_decide_eq_false q7)
     refine aw_exit ?_
     refine aw_gh (gh_to (n := 77) (σ' := []) (env' := [(4, .c (.lst (rows r))), (5, .c (ci v5_1))]) rfl rfl ⟨rfl, rfl, trivial⟩) ?_
     refine aw_region ?_
     refine run_s (ss_move rfl) rfl ?_
     obtain ⟨q28, h⟩ := h
     refine run_s (ss_add rfl rfl q28) rfl ?_
     refine run_s (ss_assign rfl) rfl ?_
     refine run_nil ?_
     exact ⟨v5_1 + 1, ghe_to (n := 77) rfl rfl ⟨rfl, rfl, trivial⟩, h.1, h.2⟩
   ·replace h := h.2 (of_decide_eq_false q5)
    refine aw_exit ?_
    refine aw_seq ?_
    refine aw_gh (gh_to (n := 77) (σ' := []) (env' := []) rfl rfl trivial) ?_
    refine aw_region ?_
    refine run_s (ss_assign rfl) rfl ?_
    refine run_s (ss_assign rfl) rfl ?_
    refine run_nil ?_
    refine aw_ret ?_
    exact retAF_mk (retv2 rfl (rv_tmp rfl) (rv_tmp rfl)) rfl rfl ⟨_, (cle_refl _), _, _, h, rfl⟩

theorem c_spec_IsMedialRack (r : List (List Int)) (hp : small2 r) : AF Try.prog 30 [.agg [.lst (rows r)]] (fun R_ => R_ = .tup [cb (isRk r && medB r), ci (rkE r)]) :=
  (w_spec_IsMedialRack r (fun y0 y1 => y0 = (isRk r && medB r) ∧ y1 = rkE r) (p_spec_IsMedialRack r hp)).mono (by rintro r ⟨_, _, ⟨rfl, rfl⟩, rfl⟩; rfl)

set_option maxRecDepth 100000 in
set_option maxHeartbeats 4000000 in
theorem w_spec_DrawIsRack (code : List Int) (Q : List (List Int) → Prop) (h : wp_spec_DrawIsRack code Q) : AF Try.prog 66 [.lst (bys code)] (fun R_ => ∃ y0, Q y0 ∧ R_ = .agg [.own (orows y0)]) := by
  refine AF.ofWQ (af_enter (n := 6) Try.func66 rfl (by rfl) rfl (Nat.le_of_ble_eq_true rfl) ?_)
  unfold wp_spec_DrawIsRack at h
  refine aw_seq ?_
  refine aw_gh (gh_to (n := 6) (σ' := []) (env' := [(0, .c (.lst (bys code)))]) rfl rfl ⟨rfl, trivial⟩) ?_
  refine aw_region ?_
  refine run_w (ws_alloc (id := 2) rfl (Nat.le_of_ble_eq_true rfl) ⟨rfl, ?_⟩)
  refine run_nil ?_
  refine aw_seq ?_
  refine aw_region ?_
  refine run_s (ss_move rfl) rfl ?_
  obtain ⟨q1, h⟩ := h
  refine run_w (ws_call (xs := [.tmp 3]) (ids := [4]) rfl rfl rfl rfl (c_spec_l01From code q1) rfl ?_ )
  rintro _ ⟨r1_0, r1_1, r1_2, q2, rfl⟩
  replace h := h r1_0 r1_1 r1_2 q2
  refine ⟨rfl, ?_⟩
  obtain ⟨q3, h⟩ := h
  refine run_w (ws_callM (xs := [.tmp 4, .const (.int .i64 (7))]) (cs := [.obox [.lst (bys r1_0), ci r1_1, cu r1_2], ci 7]) (ids := [5]) rfl (.inr ⟨rfl, rfl⟩) rfl rfl rfl (c_spec_l03DrawAny r1_0 r1_1 r1_2 7 q3) rfl rfl ?_ )
  rintro _ _ ⟨r2_0, o2_0, o2_1, o2_2, q4, rfl, rfl⟩
  replace h := h r2_0 o2_0 o2_1 o2_2 q4
  refine ⟨rfl, rfl, ?_⟩
  refine run_w (ws_storeS rfl rfl (Nat.le_of_ble_eq_true rfl) rfl rfl rfl ⟨rfl, ?_⟩)
  refine run_nil ?_
  refine aw_ret ?_
  exact retAF_mk (retv1 rfl (rv_struct rfl rfl rfl)) rfl rfl ⟨_, (cle_refl _), _, h, rfl⟩

theorem c_spec_DrawIsRack (code : List Int) (hp : small code ∧ bytes code) : AF Try.prog 66 [.lst (bys code)] (fun R_ => ∃ y0, (drT 7 y0) ∧ R_ = .agg [.own (orows y0)]) :=
  w_spec_DrawIsRack code (fun y0 => drT 7 y0) (p_spec_DrawIsRack code hp)

set_option maxRecDepth 100000 in
set_option maxHeartbeats 4000000 in
theorem w_spec_DrawInnerOrder (code : List Int) (Q : List (List Int) → Prop) (h : wp_spec_DrawInnerOrder code Q) : AF Try.prog 22 [.lst (bys code)] (fun R_ => ∃ y0, Q y0 ∧ R_ = .agg [.own (orows y0)]) := by
  refine AF.ofWQ (af_enter (n := 5) Try.func22 rfl (by rfl) rfl (Nat.le_of_ble_eq_true rfl) ?_)
  unfold wp_spec_DrawInnerOrder at h
  refine aw_seq ?_
  refine aw_gh (gh_to (n := 5) (σ' := []) (env' := [(0, .c (.lst (bys code)))]) rfl rfl ⟨rfl, trivial⟩) ?_
  refine aw_region ?_
  refine run_w (ws_alloc (id := 2) rfl (Nat.le_of_ble_eq_true rfl) ⟨rfl, ?_⟩)
  refine run_nil ?_
  refine aw_seq ?_
  refine aw_region ?_
  refine run_s (ss_move rfl) rfl ?_
  obtain ⟨q1, h⟩ := h
  refine run_w (ws_call (xs := [.tmp 3]) (ids := [4]) rfl rfl rfl rfl (c_spec_DrawIsRack code q1) rfl ?_ )
  rintro _ ⟨r1_0, q2, rfl⟩
  replace h := h r1_0 q2
  refine ⟨rfl, ?_⟩
  refine run_w (ws_storeS rfl rfl (Nat.le_of_ble_eq_true rfl) rfl rfl rfl ⟨rfl, ?_⟩)
  refine run_nil ?_
  refine aw_ret ?_
  exact retAF_mk (retv1 rfl (rv_struct rfl rfl rfl)) rfl rfl ⟨_, (cle_refl _), _, h, rfl⟩

theorem c_spec_DrawInnerOrder (code : List Int) (hp : small code ∧ bytes code) : AF Try.prog 22 [.lst (bys code)] (fun R_ => ∃ y0, (drT 7 y0) ∧ R_ = .agg [.own (orows y0)]) :=
  w_spec_DrawInnerOrder code (fun y0 => drT 7 y0) (p_spec_DrawInnerOrder code hp)

def wp_laws_FnRackGroups (code : List Int) (Q : Bool → Prop) : Prop :=
 ((4096 < (code.length : Int) →
 Q true) ∧
 (¬ (4096 < (code.length : Int)) →
 (small code ∧ bytes code) ∧
 ∀ (r1_0 : List (List Int)), (drT 7 r1_0) →
 (small2 r1_0) ∧
 (small2 r1_0) ∧
 ((¬ (InoE r1_0 = InoE r1_0) →
 Q false) ∧
 (InoE r1_0 = InoE r1_0 →
 ((¬ (InoV r1_0 = InoV r1_0) →
 Q false) ∧
 (InoV r1_0 = InoV r1_0 →
 (small2 r1_0) ∧
 (small2 r1_0) ∧
 (small2 r1_0) ∧
 (small2 r1_0) ∧
 (small2 r1_0) ∧
 (small2 r1_0) ∧
 ((¬ (rkE r1_0 = rkE r1_0) →
 Q false) ∧
 (rkE r1_0 = rkE r1_0 →
 ((((isRk r1_0 && medB r1_0) == (isRk r1_0 && medB r1_0)) = false →
 Q false) ∧
 (((isRk r1_0 && medB r1_0) == (isRk r1_0 && medB r1_0)) = true →
 (small2 r1_0) ∧
 (((isRk r1_0) = false →
 ((InoE r1_0 = 1 →
 ((rkE r1_0 = InoE r1_0 →
 ((rkE r1_0 = InoE r1_0 →
 ((rkE r1_0 = InoE r1_0 →
 Q (decide (rkE r1_0 = InoE r1_0))) ∧
 (¬ (rkE r1_0 = InoE r1_0) →
 Q false))) ∧
 (¬ (rkE r1_0 = InoE r1_0) →
 Q false))) ∧
 (¬ (rkE r1_0 = InoE r1_0) →
 Q false))) ∧
 (¬ (InoE r1_0 = 1) →
 Q false))) ∧
 ((isRk r1_0) = true →
 ((¬ (rkE r1_0 = 0) →
 Q false) ∧
 (rkE r1_0 = 0 →
 ((¬ (rkE r1_0 = 0) →
 Q false) ∧
 (rkE r1_0 = 0 →
 ((¬ (rkE r1_0 = 0) →
 Q false) ∧
 (rkE r1_0 = 0 →
 ((¬ (rkE r1_0 = 0) →
 Q false) ∧
 (rkE r1_0 = 0 →
 ((¬ (((RorT r1_0).length : Int) = (r1_0.length : Int)) →
 Q false) ∧
 (((RorT r1_0).length : Int) = (r1_0.length : Int) →
 (small (RorT r1_0) ∧ ∀ z_ ∈ (RorT r1_0), z_ ≤ 1000000000) ∧
 ((((RcoB r1_0) == (decide (mostI (RorT r1_0) = 1))) = false →
 Q false) ∧
 (((RcoB r1_0) == (decide (mostI (RorT r1_0) = 1))) = true →
 (((isRk r1_0 && (trnT r1_0).all isPerm) = true →
 (((RcoB r1_0) = false →
 Q false) ∧
 ((RcoB r1_0) = true →
 (((isRk r1_0 && decide (r1_0.Nodup)) = false →
 Q false) ∧
 ((isRk r1_0 && decide (r1_0.Nodup)) = true →
 ((¬ (InoE r1_0 = 0) →
 Q (decide (InoE r1_0 = 3))) ∧
 (InoE r1_0 = 0 →
 ∃ (H1 : Int → Prop) (m1 : Int → Nat),
 H1 0 ∧
 ∀ (v20_1 : Int), H1 v20_1 →
 ( (small (RorT r1_0) ∧ ∀ z_ ∈ (RorT r1_0), z_ ≤ 1000000000) ∧
 ((v20_1 < mostI (RorT r1_0) →
 ∃ (H2 : Int → Int → Prop) (m2 : Int → Int → Nat),
 H2 0 0 ∧
 ∀ (v21_2 : Int) (v22_2 : Int), H2 v21_2 v22_2 →
 ( ((v22_2 < ((RorT r1_0).length : Int) →
 (0 ≤ v22_2 ∧ v22_2 < ((RorT r1_0).length : Int)) ∧
 ((el (RorT r1_0) v22_2 = v20_1 →
 (InI (v21_2 + 1)) ∧
 (InI (v22_2 + 1)) ∧
 (H2 (v21_2 + 1) (v22_2 + 1) ∧ m2 (v21_2 + 1) (v22_2 + 1) < m2 v21_2 v22_2)) ∧
 (¬ (el (RorT r1_0) v22_2 = v20_1) →
 (InI (v22_2 + 1)) ∧
 (H2 v21_2 (v22_2 + 1) ∧ m2 v21_2 (v22_2 + 1) < m2 v21_2 v22_2)))) ∧
 (¬ (v22_2 < ((RorT r1_0).length : Int)) →
 ((v21_2 = 0 →
 Q false) ∧
 (¬ (v21_2 = 0) →
 ((0 : Int) ≤ InoV r1_0 ∧ (0 : Int) < v21_2) ∧
 ((¬ ((InoV r1_0) % v21_2 = 0) →
 Q false) ∧
 ((InoV r1_0) % v21_2 = 0 →
 (InI (v20_1 + 1)) ∧
 (H1 (v20_1 + 1) ∧ m1 (v20_1 + 1) < m1 v20_1))))))))) ∧
 (¬ (v20_1 < mostI (RorT r1_0)) →
 Q true)))))))))) ∧
 ((isRk r1_0 && (trnT r1_0).all isPerm) = false →
 ((¬ (InoE r1_0 = 0) →
 Q (decide (InoE r1_0 = 3))) ∧
 (InoE r1_0 = 0 →
 ∃ (H3 : Int → Prop) (m3 : Int → Nat),
 H3 0 ∧
 ∀ (v20_1 : Int), H3 v20_1 →
 ( (small (RorT r1_0) ∧ ∀ z_ ∈ (RorT r1_0), z_ ≤ 1000000000) ∧
 ((v20_1 < mostI (RorT r1_0) →
 ∃ (H4 : Int → Int → Prop) (m4 : Int → Int → Nat),
 H4 0 0 ∧
 ∀ (v21_2 : Int) (v22_2 : Int), H4 v21_2 v22_2 →
 ( ((v22_2 < ((RorT r1_0).length : Int) →
 (0 ≤ v22_2 ∧ v22_2 < ((RorT r1_0).length : Int)) ∧
 ((el (RorT r1_0) v22_2 = v20_1 →
 (InI (v21_2 + 1)) ∧
 (InI (v22_2 + 1)) ∧
 (H4 (v21_2 + 1) (v22_2 + 1) ∧ m4 (v21_2 + 1) (v22_2 + 1) < m4 v21_2 v22_2)) ∧
 (¬ (el (RorT r1_0) v22_2 = v20_1) →
 (InI (v22_2 + 1)) ∧
 (H4 v21_2 (v22_2 + 1) ∧ m4 v21_2 (v22_2 + 1) < m4 v21_2 v22_2)))) ∧
 (¬ (v22_2 < ((RorT r1_0).length : Int)) →
 ((v21_2 = 0 →
 Q false) ∧
 (¬ (v21_2 = 0) →
 ((0 : Int) ≤ InoV r1_0 ∧ (0 : Int) < v21_2) ∧
 ((¬ ((InoV r1_0) % v21_2 = 0) →
 Q false) ∧
 ((InoV r1_0) % v21_2 = 0 →
 (InI (v20_1 + 1)) ∧
 (H3 (v20_1 + 1) ∧ m3 (v20_1 + 1) < m3 v20_1))))))))) ∧
 (¬ (v20_1 < mostI (RorT r1_0)) →
 Q true)))))))))))))))))))))))))))))))

@[reducible] def fine2 (t : List (List Int)) : Prop := small2 t ∧ tot t ≤ 1000000000
theorem drT_small {m : Int} {t : List (List Int)} (hm : m ≤ 1000) (h : drT m t) : small2 t := ⟨by show (_ : Int) ≤ _; have := h.1; omega, fun q hq => by show (_ : Int) ≤ _; have := (h.2 q hq).1; omega⟩
theorem bytes_of {code : List Int} (hp : code.length ≤ 9223372036854775807 ∧ ∀ z_ ∈ code, 0 ≤ z_ ∧ z_ ≤ 255) (h : ¬ (4096 < (code.length : Int))) : small code ∧ bytes code :=
  ⟨by show (_ : Int) ≤ _; omega, fun i i0 i1 => hp.2 _ (el_mem ⟨i0, i1⟩)⟩
theorem rkE_t {t : List (List Int)} (h : isRk t = true) : rkE t = 0 := by unfold rkE; rw [h]; rfl
def rgT (r : List (List Int)) (Q : Bool → Prop) : Prop :=
  ((¬ (InoE r = 0) →
   Q (decide (InoE r = 3))) ∧
  (InoE r = 0 →
   ∃ (H1 : Int → Prop) (m1 : Int → Nat),
   H1 0 ∧
   ∀ (v20_1 : Int), H1 v20_1 →
   ( (small (RorT r) ∧ ∀ z_ ∈ (RorT r), z_ ≤ 1000000000) ∧
    ((v20_1 < mostI (RorT r) →
     ∃ (H2 : Int → Int → Prop) (m2 : Int → Int → Nat),
     H2 0 0 ∧
     ∀ (v21_2 : Int) (v22_2 : Int), H2 v21_2 v22_2 →
     ( ((v22_2 < ((RorT r).length : Int) →
       (0 ≤ v22_2 ∧ v22_2 < ((RorT r).length : Int)) ∧
       ((el (RorT r) v22_2 = v20_1 →
        (InI (v21_2 + 1)) ∧
        (InI (v22_2 + 1)) ∧
        (H2 (v21_2 + 1) (v22_2 + 1) ∧ m2 (v21_2 + 1) (v22_2 + 1) < m2 v21_2 v22_2)) ∧
       (¬ (el (RorT r) v22_2 = v20_1) →
        (InI (v22_2 + 1)) ∧
        (H2 v21_2 (v22_2 + 1) ∧ m2 v21_2 (v22_2 + 1) < m2 v21_2 v22_2)))) ∧
      (¬ (v22_2 < ((RorT r).length : Int)) →
       ((v21_2 = 0 →
        Q false) ∧
       (¬ (v21_2 = 0) →
        ((0 : Int) ≤ InoV r ∧ (0 : Int) < v21_2) ∧
        ((¬ ((InoV r) % v21_2 = 0) →
         Q false) ∧
        ((InoV r) % v21_2 = 0 →
         (InI (v20_1 + 1)) ∧
         (H1 (v20_1 + 1) ∧ m1 (v20_1 + 1) < m1 v20_1))))))))) ∧
    (¬ (v20_1 < mostI (RorT r)) →
     Q true)))))
theorem ino_facts {r : List (List Int)} (h : isRk r = true) (h0 : InoE r = 0) : InoV r = grpN (r.length : Int) r := by unfold InoV; rw [if_pos h0]
theorem ino_three {r : List (List Int)} (h : isRk r = true) (h0 : ¬ InoE r = 0) : InoE r = 3 := by
  unfold InoE at h0 ⊢
  rw [if_pos h] at h0 ⊢
  split
  · rfl
  · rename_i g; rw [if_neg g] at h0; exact absurd rfl h0
theorem ino_one {r : List (List Int)} (h : isRk r = false) : InoE r = 1 := by unfold InoE; rw [h]; rfl
theorem rg_ok {r : List (List Int)} (h : isRk r = true) : rgT r (fun y0 => y0 = true) := by
  refine ⟨fun h0 => decide_eq_true (ino_three h h0), fun h0 => ?_⟩
  have hn := isTab_len (isRk_tab h)
  have hl := ror_len h
  have hv := ino_facts h h0
  have hN : 0 ≤ grpN (r.length : Int) r := by unfold grpN; omega
  have hm : mostI (RorT r) ≤ 12 := most_le (by omega) fun x hx => by have := ror_val h hx; omega
  refine ⟨fun k => 0 ≤ k ∧ k ≤ 12, fun k => (13 - k).toNat, ⟨by omega, by omega⟩, ?_⟩
  rintro k ⟨k0, k1⟩
  refine ⟨⟨by show (_ : Int) ≤ 1000000000; omega, fun z hz => by have := ror_val h hz; omega⟩, fun klt => ?_, fun _ => rfl⟩
  refine ⟨fun c x => (0 ≤ x ∧ x ≤ (r.length : Int)) ∧ c = ((labL (RorT r) k x).length : Int), fun _ x => ((r.length : Int) - x).toNat, ⟨⟨by omega, by omega⟩, by simp [labL, ran]⟩, ?_⟩
  rintro c x ⟨⟨x0, x1⟩, rfl⟩
  dsimp only
  have hs := labL_succ (l := RorT r) (k := k) x0
  have hb := labL_le (l := RorT r) (k := k) x0
  refine ⟨fun xlt => ⟨⟨x0, xlt⟩, fun e => ?_, fun e => ?_⟩, fun xge => ?_⟩
  · rw [if_pos e] at hs
    exact ⟨⟨by omega, by omega⟩, ⟨by omega, by omega⟩, ⟨⟨by omega, by omega⟩, hs.symm⟩, by omega⟩
  · rw [if_neg e] at hs
    exact ⟨⟨by omega, by omega⟩, ⟨⟨by omega, by omega⟩, by omega⟩, by omega⟩
  · have ex : x = (r.length : Int) := by omega
    subst ex
    obtain ⟨g1, g2⟩ := lab_div h ⟨k0, klt⟩
    rw [hv]
    exact ⟨fun e => absurd e g1, fun _ => ⟨⟨hN, by omega⟩, fun e => absurd g2 e, fun _ => ⟨⟨by omega, by omega⟩, ⟨by omega, by omega⟩, by omega⟩⟩⟩
theorem p_laws_FnRackGroups (code : List Int) (hp : code.length ≤ 9223372036854775807 ∧ ∀ z_ ∈ code, 0 ≤ z_ ∧ z_ ≤ 255) : wp_laws_FnRackGroups code (fun y0 => y0 = true) := by
  unfold wp_laws_FnRackGroups
  refine ⟨fun _ => rfl, fun hc => ?_⟩
  have hb := bytes_of hp hc
  refine ⟨hb, fun r hr => ?_⟩
  have hs : small2 r := drT_small (by omega) hr
  refine ⟨hs, hs, fun k => absurd rfl k, fun _ => ⟨fun k => absurd rfl k, fun _ => ⟨hs, hs, hs, hs, hs, hs, fun k => absurd rfl k, fun _ => ⟨fun k => absurd k (by simp), fun _ => ⟨hs, fun h => ?_, fun h => ?_⟩⟩⟩⟩⟩
  · have e1 := ino_one h
    have e2 : rkE r = InoE r := by rw [e1]; unfold rkE; rw [h]; rfl
    exact ⟨fun _ => ⟨fun _ => ⟨fun _ => ⟨fun _ => decide_eq_true e2, fun k => absurd e2 k⟩, fun k => absurd e2 k⟩, fun k => absurd e2 k⟩, fun k => absurd e1 k⟩
  · have e0 := rkE_t h
    have hl := ror_len h
    have hn := isTab_len (isRk_tab h)
    refine ⟨fun k => absurd e0 k, fun _ => ⟨fun k => absurd e0 k, fun _ => ⟨fun k => absurd e0 k, fun _ => ⟨fun k => absurd e0 k, fun _ => ⟨fun k => absurd hl k, fun _ => ⟨⟨by show (_ : Int) ≤ 1000000000; omega, fun z hz => by have := ror_val h hz; omega⟩, fun k => absurd k (by rw [ror_most h]; simp), fun _ => ⟨fun hlat => ?_, fun _ => rg_ok h⟩⟩⟩⟩⟩⟩⟩
    rw [h, Bool.true_and] at hlat
    obtain ⟨g1, g2⟩ := lat_facts h hlat
    have e3 : (isRk r && decide (r.Nodup)) = true := by rw [h, decide_eq_true g2]; rfl
    exact ⟨fun k => absurd k (by rw [g1]; simp), fun _ => ⟨fun k => absurd k (by rw [e3]; simp), fun _ => rg_ok h⟩⟩

set_option maxRecDepth 100000 in
set_option maxHeartbeats 4000000 in
theorem w_laws_FnRackGroups (code : List Int) (Q : Bool → Prop) (h : wp_laws_FnRackGroups code Q) : AF Try.prog 5 [.lst (bys code)] (fun R_ => ∃ y0, Q y0 ∧ R_ = cb y0) := by
  refine AF.ofWQ (af_enter (n := 180) Try.func5 rfl (by rfl) rfl (Nat.le_of_ble_eq_true rfl) ?_)
  unfold wp_laws_FnRackGroups at h
  refine aw_seq ?_
  refine aw_gh (gh_to (n := 180) (σ' := []) (env' := [(0, .c (.lst (bys code)))]) rfl rfl ⟨rfl, trivial⟩) ?_
  refine aw_region ?_
  refine run_s (ss_assign rfl) rfl ?_
  refine run_nil ?_
  refine aw_seq ?_
  refine aw_seq ?_
  refine aw_region ?_
  refine run_s (ss_move rfl) rfl ?_
  refine run_w (ws_call (xs := [.tmp 23]) (ids := []) rfl rfl rfl rfl (c_laws_big code) rfl ?_ )
  rintro _ rfl
  refine ⟨rfl, ?_⟩
  refine run_nil ?_
  refine aw_cond rfl (fun q2 => ?_) (fun q2 => ?_)
  ·replace h := h.1 (of_decide_eq_true q2)
   refine aw_seq ?_
   refine aw_gh (gh_to (n := 180) (σ' := []) (env' := [(2, .c (cb false))]) rfl rfl ⟨rfl, trivial⟩) ?_
   refine aw_region ?_
   refine run_s (ss_assign rfl) rfl ?_
   refine run_nil ?_
   refine aw_ret ?_
   exact retAF_mk (retv1 rfl (rv_tmp rfl)) rfl rfl ⟨_, (cle_refl _), _, h, rfl⟩
  ·replace h := h.2 (of_decide_eq_false q2)
   refine aw_skip ?_
   refine aw_seq ?_
   refine aw_region ?_
   refine run_s (ss_move rfl) rfl ?_
   obtain ⟨q3, h⟩ := h
   refine run_w (ws_call (xs := [.tmp 25]) (ids := [26]) rfl rfl rfl rfl (c_spec_DrawInnerOrder code q3) rfl ?_ )
   rintro _ ⟨r1_0, q4, rfl⟩
   replace h := h r1_0 q4
   refine ⟨rfl, ?_⟩
   refine run_w (ws_alloc (id := 3) rfl (Nat.le_of_ble_eq_true rfl) ⟨rfl, ?_⟩)
   refine run_w (ws_storeS rfl rfl (Nat.le_of_ble_eq_true rfl) rfl rfl rfl ⟨rfl, ?_⟩)
   refine run_nil ?_
   refine aw_gh (gh_to (n := 180) (σ' := [(3, ⟨[.hole], [(0, .ref 26)]⟩), (26, ⟨orows r1_0, []⟩)]) (env' := [(3, .cell 3 0)]) rfl rfl ⟨rfl, trivial⟩) ?_
   refine aw_gh (gh_frzE (id := 26) (fun r => C.lst (ints r)) rfl (fun _ => (fz_own (fz_map (fun _ => rfl) _)))) ?_
   refine aw_gh (gh_fillc (id := 3) (j := 0) rfl rfl (Nat.le_of_ble_eq_true rfl)) ?_
   refine aw_gh (gh_to (n := 180) (σ' := [(3, ⟨[.lst (rows r1_0)], []⟩)]) (env' := [(3, .cell 3 0)]) rfl rfl ⟨rfl, trivial⟩) ?_
   refine aw_seq ?_
   refine aw_region ?_
   refine run_s (ss_loadS rfl rfl rfl rfl) rfl ?_
   obtain ⟨q5, h⟩ := h
   refine run_w (ws_call (xs := [.tmp 28]) (ids := []) rfl rfl rfl rfl (c_impl_InnerOrder r1_0 q5) rfl ?_ )
   rintro _ rfl
   refine ⟨rfl, ?_⟩
   refine run_s (ss_move rfl) rfl ?_
   refine run_s (ss_extract rfl rfl) rfl ?_
   refine run_s (ss_extract rfl rfl) rfl ?_
   refine run_s (ss_assign rfl) rfl ?_
   refine run_s (ss_assign rfl) rfl ?_
   refine run_nil ?_
   refine aw_seq ?_
   refine aw_seq ?_
   refine aw_region ?_
   refine run_s (ss_loadS rfl rfl rfl rfl) rfl ?_
   obtain ⟨q7, h⟩ := h
   refine run_w (ws_call (xs := [.tmp 33]) (ids := []) rfl rfl rfl rfl (c_spec_InnerOrder r1_0 q7) rfl ?_ )
   rintro _ rfl
   refine ⟨rfl, ?_⟩
   refine run_s (ss_move rfl) rfl ?_
   refine run_s (ss_extract rfl rfl) rfl ?_
   refine run_s (ss_extract rfl rfl) rfl ?_
   refine run_s (ss_assign rfl) rfl ?_
   refine run_s (ss_assign rfl) rfl ?_
   refine run_nil ?_
   refine aw_seq ?_
   refine aw_region ?_
   refine run_s (ss_move rfl) rfl ?_
   refine run_s (ss_move rfl) rfl ?_
   refine run_s (ss_neq rfl rfl) rfl ?_
   refine run_s (ss_move rfl) rfl ?_
   refine run_split (s := 40) rfl (fun q9 => ?_) (fun q9 => ?_)
   ·replace h := h.1 (of_decide_eq_false (bnot_t q9))
    refine run_gf rfl rfl q9 rfl ?_
    refine run_gf rfl rfl q9 rfl ?_
    refine run_gf rfl rfl q9 rfl ?_
    refine run_s (ss_pickT rfl q9 rfl) rfl ?_
    refine run_nil ?_
    refine aw_cond rfl (fun q10 => ?_) (fun q10 => ?_)
    ·skip
     refine aw_seq ?_
     refine aw_gh (gh_to (n := 180) (σ' := [(3, ⟨[.lst (rows r1_0)], []⟩)]) (env' := []) rfl rfl trivial) ?_
     refine aw_region ?_
     refine run_s (ss_assign rfl) rfl ?_
     refine run_nil ?_
     refine aw_ret ?_
     exact retAF_mk (retv1 rfl (rv_tmp rfl)) rfl rfl ⟨_, (cle_refl _), _, h, rfl⟩
    ·cases q10
   ·replace h := h.2 (of_decide_eq_true (bnot_f q9))
    refine run_gt rfl rfl q9 ?_
    refine run_s (ss_move rfl) rfl ?_
    refine run_gt rfl rfl q9 ?_
    refine run_s (ss_move rfl) rfl ?_
    refine run_gt rfl rfl q9 ?_
    refine run_s (ss_neq rfl rfl) rfl ?_
    refine run_s (ss_pickF rfl q9 rfl) rfl ?_
    refine run_nil ?_
    refine aw_cond rfl (fun q11 => ?_) (fun q11 => ?_)
    ·replace h := h.1 (of_decide_eq_false (bnot_t q11))
     refine aw_seq ?_
     refine aw_gh (gh_to (n := 180) (σ' := [(3, ⟨[.lst (rows r1_0)], []⟩)]) (env' := []) rfl rfl trivial) ?_
     refine aw_region ?_
     refine run_s (ss_assign rfl) rfl ?_
     refine run_nil ?_
     refine aw_ret ?_
     exact retAF_mk (retv1 rfl (rv_tmp rfl)) rfl rfl ⟨_, (cle_refl _), _, h, rfl⟩
    ·replace h := h.2 (of_decide_eq_true (bnot_f q11))
     refine aw_skip ?_
     refine aw_seq ?_
     refine aw_region ?_
     refine run_s (ss_loadS rfl rfl rfl rfl) rfl ?_
     obtain ⟨q12, h⟩ := h
     refine run_w (ws_call (xs := [.tmp 46]) (ids := [47]) rfl rfl rfl rfl (c_impl_RackOrbits r1_0 q12) rfl ?_ )
     rintro _ rfl
     refine ⟨rfl, ?_⟩
     refine run_s (ss_move rfl) rfl ?_
     refine run_s (ss_extract rfl rfl) rfl ?_
     refine run_s (ss_extract rfl rfl) rfl ?_
     refine run_s (ss_assign rfl) rfl ?_
     refine run_s (ss_assign rfl) rfl ?_
     refine run_nil ?_
     refine aw_gh (gh_to (n := 180) (σ' := [(47, ⟨ints (RorT r1_0), []⟩), (3, ⟨[.lst (rows r1_0)], []⟩)]) (env' := [(3, .cell 3 0), (4, .c (ci (InoV r1_0))), (5, .c (ci (InoE r1_0))), (8, .ref 47), (9, .c (ci (rkE r1_0)))]) rfl rfl ⟨rfl, rfl, rfl, rfl, rfl, trivial⟩) ?_
     refine aw_gh (gh_frzE (id := 47) ci rfl (fun _ => rfl)) ?_
     refine aw_gh (gh_to (n := 180) (σ' := [(3, ⟨[.lst (rows r1_0)], []⟩)]) (env' := [(3, .cell 3 0), (4, .c (ci (InoV r1_0))), (5, .c (ci (InoE r1_0))), (8, .c (.lst (ints (RorT r1_0)))), (9, .c (ci (rkE r1_0)))]) rfl rfl ⟨rfl, rfl, rfl, rfl, rfl, trivial⟩) ?_
     refine aw_seq ?_
     refine aw_region ?_
     refine run_s (ss_loadS rfl rfl rfl rfl) rfl ?_
     obtain ⟨q14, h⟩ := h
     refine run_w (ws_call (xs := [.tmp 51]) (ids := []) rfl rfl rfl rfl (c_impl_IsConnectedRack r1_0 q14) rfl ?_ )
     rintro _ rfl
     refine ⟨rfl, ?_⟩
     refine run_s (ss_move rfl) rfl ?_
     refine run_s (ss_extract rfl rfl) rfl ?_
     refine run_s (ss_extract rfl rfl) rfl ?_
     refine run_s (ss_assign rfl) rfl ?_
     refine run_s (ss_assign rfl) rfl ?_
     refine run_nil ?_
     refine aw_seq ?_
     refine aw_region ?_
     refine run_s (ss_loadS rfl rfl rfl rfl) rfl ?_
     obtain ⟨q16, h⟩ := h
     refine run_w (ws_call (xs := [.tmp 56]) (ids := []) rfl rfl rfl rfl (c_impl_IsLatinRack r1_0 q16) rfl ?_ )
     rintro _ rfl
     refine ⟨rfl, ?_⟩
     refine run_s (ss_move rfl) rfl ?_
     refine run_s (ss_extract rfl rfl) rfl ?_
     refine run_s (ss_extract rfl rfl) rfl ?_
     refine run_s (ss_assign rfl) rfl ?_
     refine run_s (ss_assign rfl) rfl ?_
     refine run_nil ?_
     refine aw_seq ?_
     refine aw_region ?_
     refine run_s (ss_loadS rfl rfl rfl rfl) rfl ?_
     obtain ⟨q18, h⟩ := h
     refine run_w (ws_call (xs := [.tmp 61]) (ids := []) rfl rfl rfl rfl (c_impl_IsFaithfulRack r1_0 q18) rfl ?_ )
     rintro _ rfl
     refine ⟨rfl, ?_⟩
     refine run_s (ss_move rfl) rfl ?_
     refine run_s (ss_extract rfl rfl) rfl ?_
     refine run_s (ss_extract rfl rfl) rfl ?_
     refine run_s (ss_assign rfl) rfl ?_
     refine run_s (ss_assign rfl) rfl ?_
     refine run_nil ?_
     refine aw_seq ?_
     refine aw_region ?_
     refine run_s (ss_loadS rfl rfl rfl rfl) rfl ?_
     obtain ⟨q20, h⟩ := h
     refine run_w (ws_call (xs := [.tmp 66]) (ids := []) rfl rfl rfl rfl (c_impl_IsMedialRack r1_0 q20) rfl ?_ )
     rintro _ rfl
     refine ⟨rfl, ?_⟩
     refine run_s (ss_move rfl) rfl ?_
     refine run_s (ss_extract rfl rfl) rfl ?_
     refine run_s (ss_extract rfl rfl) rfl ?_
     refine run_s (ss_assign rfl) rfl ?_
     refine run_s (ss_assign rfl) rfl ?_
     refine run_nil ?_
     refine aw_seq ?_
     refine aw_seq ?_
     refine aw_region ?_
     refine run_s (ss_loadS rfl rfl rfl rfl) rfl ?_
     obtain ⟨q22, h⟩ := h
     refine run_w (ws_call (xs := [.tmp 71]) (ids := []) rfl rfl rfl rfl (c_spec_IsMedialRack r1_0 q22) rfl ?_ )
     rintro _ rfl
     refine ⟨rfl, ?_⟩
     refine run_s (ss_move rfl) rfl ?_
     refine run_s (ss_extract rfl rfl) rfl ?_
     refine run_s (ss_extract rfl rfl) rfl ?_
     refine run_s (ss_assign rfl) rfl ?_
     refine run_s (ss_assign rfl) rfl ?_
     refine run_nil ?_
     refine aw_seq ?_
     refine aw_region ?_
     refine run_s (ss_move rfl) rfl ?_
     refine run_s (ss_move rfl) rfl ?_
     refine run_s (ss_neq rfl rfl) rfl ?_
     refine run_s (ss_move rfl) rfl ?_
     refine run_split (s := 78) rfl (fun q24 => ?_) (fun q24 => ?_)
     ·replace h := h.1 (of_decide_eq_false (bnot_t q24))
      refine run_gf rfl rfl q24 rfl ?_
      refine run_gf rfl rfl q24 rfl ?_
      refine run_gf rfl rfl q24 rfl ?_
      refine run_s (ss_pickT rfl q24 rfl) rfl ?_
      refine run_nil ?_
      refine aw_cond rfl (fun q25 => ?_) (fun q25 => ?_)
      ·skip
       refine aw_seq ?_
       refine aw_gh (gh_to (n := 180) (σ' := [(3, ⟨[.lst (rows r1_0)], []⟩)]) (env' := []) rfl rfl trivial) ?_
       refine aw_region ?_
       refine run_s (ss_assign rfl) rfl ?_
       refine run_nil ?_
       refine aw_ret ?_
       exact retAF_mk (retv1 rfl (rv_tmp rfl)) rfl rfl ⟨_, (cle_refl _), _, h, rfl⟩
      ·cases q25
     ·replace h := h.2 (of_decide_eq_true (bnot_f q24))
      refine run_gt rfl rfl q24 ?_
      refine run_s (ss_move rfl) rfl ?_
      refine run_gt rfl rfl q24 ?_
      refine run_s (ss_move rfl) rfl ?_
      refine run_gt rfl rfl q24 ?_
      refine run_s (ss_neqB rfl rfl) rfl ?_
      refine run_s (ss_pickF rfl q24 rfl) rfl ?_
      refine run_nil ?_
      refine aw_cond rfl (fun q26 => ?_) (fun q26 => ?_)
      ·replace h := h.1 ((bnot_t q26))
       refine aw_seq ?_
       refine aw_gh (gh_to (n := 180) (σ' := [(3, ⟨[.lst (rows r1_0)], []⟩)]) (env' := []) rfl rfl trivial) ?_
       refine aw_region ?_
       refine run_s (ss_assign rfl) rfl ?_
       refine run_nil ?_
       refine aw_ret ?_
       exact retAF_mk (retv1 rfl (rv_tmp rfl)) rfl rfl ⟨_, (cle_refl _), _, h, rfl⟩
      ·replace h := h.2 ((bnot_f q26))
       refine aw_skip ?_
       refine aw_seq ?_
       refine aw_seq ?_
       refine aw_region ?_
       refine run_s (ss_loadS rfl rfl rfl rfl) rfl ?_
       obtain ⟨q27, h⟩ := h
       refine run_w (ws_call (xs := [.tmp 83]) (ids := []) rfl rfl rfl rfl (c_spec_IsRack r1_0 q27) rfl ?_ )
       rintro _ rfl
       refine ⟨rfl, ?_⟩
       refine run_s (ss_not rfl) rfl ?_
       refine run_nil ?_
       refine aw_cond rfl (fun q29 => ?_) (fun q29 => ?_)
       ·replace h := h.1 ((bnot_t q29))
        refine aw_seq ?_
        refine aw_gh (gh_to (n := 180) (σ' := [(3, ⟨[.lst (rows r1_0)], []⟩)]) (env' := [(5, .c (ci (InoE r1_0))), (9, .c (ci (rkE r1_0))), (11, .c (ci (rkE r1_0))), (13, .c (ci (rkE r1_0))), (15, .c (ci (rkE r1_0)))]) rfl rfl ⟨rfl, rfl, rfl, rfl, rfl, trivial⟩) ?_
        refine aw_region ?_
        refine run_s (ss_move rfl) rfl ?_
        refine run_s (ss_eql rfl rfl) rfl ?_
        refine run_s (ss_move rfl) rfl ?_
        refine run_split (s := 88) rfl (fun q30 => ?_) (fun q30 => ?_)
        ·replace h := h.1 (of_decide_eq_true q30)
         refine run_gt rfl rfl q30 ?_
         refine run_s (ss_move rfl) rfl ?_
         refine run_gt rfl rfl q30 ?_
         refine run_s (ss_move rfl) rfl ?_
         refine run_gt rfl rfl q30 ?_
         refine run_s (ss_eql rfl rfl) rfl ?_
         refine run_s (ss_pickT rfl q30 rfl) rfl ?_
         refine run_s (ss_move rfl) rfl ?_
         refine run_split (s := 93) rfl (fun q31 => ?_) (fun q31 => ?_)
         ·replace h := h.1 (of_decide_eq_true q31)
          refine run_gt rfl rfl q31 ?_
          refine run_s (ss_move rfl) rfl ?_
          refine run_gt rfl rfl q31 ?_
          refine run_s (ss_move rfl) rfl ?_
          refine run_gt rfl rfl q31 ?_
          refine run_s (ss_eql rfl rfl) rfl ?_
          refine run_s (ss_pickT rfl q31 rfl) rfl ?_
          refine run_s (ss_move rfl) rfl ?_
          refine run_split (s := 98) rfl (fun q32 => ?_) (fun q32 => ?_)
          ·replace h := h.1 (of_decide_eq_true q32)
           refine run_gt rfl rfl q32 ?_
           refine run_s (ss_move rfl) rfl ?_
           refine run_gt rfl rfl q32 ?_
           refine run_s (ss_move rfl) rfl ?_
           refine run_gt rfl rfl q32 ?_
           refine run_s (ss_eql rfl rfl) rfl ?_
           refine run_s (ss_pickT rfl q32 rfl) rfl ?_
           refine run_s (ss_move rfl) rfl ?_
           refine run_split (s := 103) rfl (fun q33 => ?_) (fun q33 => ?_)
           ·replace h := h.1 (of_decide_eq_true q33)
            refine run_gt rfl rfl q33 ?_
            refine run_s (ss_move rfl) rfl ?_
            refine run_gt rfl rfl q33 ?_
            refine run_s (ss_move rfl) rfl ?_
            refine run_gt rfl rfl q33 ?_
            refine run_s (ss_eql rfl rfl) rfl ?_
            refine run_s (ss_pickT rfl q33 rfl) rfl ?_
            refine run_s (ss_assign rfl) rfl ?_
            refine run_nil ?_
            refine aw_ret ?_
            exact retAF_mk (retv1 rfl (rv_tmp rfl)) rfl rfl ⟨_, (cle_refl _), _, h, rfl⟩
           ·replace h := h.2 (of_decide_eq_false q33)
            refine run_gf rfl rfl q33 rfl ?_
            refine run_gf rfl rfl q33 rfl ?_
            refine run_gf rfl rfl q33 rfl ?_
            refine run_s (ss_pickF rfl q33 rfl) rfl ?_
            refine run_s (ss_assign rfl) rfl ?_
            refine run_nil ?_
            refine aw_ret ?_
            exact retAF_mk (retv1 rfl (rv_tmp rfl)) rfl rfl ⟨_, (cle_refl _), _, h, rfl⟩
          ·replace h := h.2 (of_decide_eq_false q32)
           refine run_gf rfl rfl q32 rfl ?_
           refine run_gf rfl rfl q32 rfl ?_
           refine run_gf rfl rfl q32 rfl ?_
           refine run_s (ss_pickF rfl q32 rfl) rfl ?_
           refine run_s (ss_move rfl) rfl ?_
           refine run_split (s := 103) rfl (fun q34 => ?_) (fun q34 => ?_)
           ·cases q34
           ·skip
            refine run_gf rfl rfl q34 rfl ?_
            refine run_gf rfl rfl q34 rfl ?_
            refine run_gf rfl rfl q34 rfl ?_
            refine run_s (ss_pickF rfl q34 rfl) rfl ?_
            refine run_s (ss_assign rfl) rfl ?_
            refine run_nil ?_
            refine aw_ret ?_
            exact retAF_mk (retv1 rfl (rv_tmp rfl)) rfl rfl ⟨_, (cle_refl _), _, h, rfl⟩
         ·replace h := h.2 (of_decide_eq_false q31)
          refine run_gf rfl rfl q31 rfl ?_
          refine run_gf rfl rfl q31 rfl ?_
          refine run_gf rfl rfl q31 rfl ?_
          refine run_s (ss_pickF rfl q31 rfl) rfl ?_
          refine run_s (ss_move rfl) rfl ?_
          refine run_split (s := 98) rfl (fun q35 => ?_) (fun q35 => ?_)
          ·cases q35
          ·skip
           refine run_gf rfl rfl q35 rfl ?_
           refine run_gf rfl rfl q35 rfl ?_
           refine run_gf rfl rfl q35 rfl ?_
           refine run_s (ss_pickF rfl q35 rfl) rfl ?_
           refine run_s (ss_move rfl) rfl ?_
           refine run_split (s := 103) rfl (fun q36 => ?_) (fun q36 => ?_)
           ·cases q36
           ·skip
            refine run_gf rfl rfl q36 rfl ?_
            refine run_gf rfl rfl q36 rfl ?_
            refine run_gf rfl rfl q36 rfl ?_
            refine run_s (ss_pickF rfl q36 rfl) rfl ?_
            refine run_s (ss_assign rfl) rfl ?_
            refine run_nil ?_
            refine aw_ret ?_
            exact retAF_mk (retv1 rfl (rv_tmp rfl)) rfl rfl ⟨_, (cle_refl _), _, h, rfl⟩
        ·replace h := h.2 (of_decide_eq_false q30)
         refine run_gf rfl rfl q30 rfl ?_
         refine run_gf rfl rfl q30 rfl ?_
         refine run_gf rfl rfl q30 rfl ?_
         refine run_s (ss_pickF rfl q30 rfl) rfl ?_
         refine run_s (ss_move rfl) rfl ?_
         refine run_split (s := 93) rfl (fun q37 => ?_) (fun q37 => ?_)
         ·cases q37
         ·skip
          refine run_gf rfl rfl q37 rfl ?_
          refine run_gf rfl rfl q37 rfl ?_
          refine run_gf rfl rfl q37 rfl ?_
          refine run_s (ss_pickF rfl q37 rfl) rfl ?_
          refine run_s (ss_move rfl) rfl ?_
          refine run_split (s := 98) rfl (fun q38 => ?_) (fun q38 => ?_)
          ·cases q38
          ·skip
           refine run_gf rfl rfl q38 rfl ?_
           refine run_gf rfl rfl q38 rfl ?_
           refine run_gf rfl rfl q38 rfl ?_
           refine run_s (ss_pickF rfl q38 rfl) rfl ?_
           refine run_s (ss_move rfl) rfl ?_
           refine run_split (s := 103) rfl (fun q39 => ?_) (fun q39 => ?_)
           ·cases q39
           ·skip
            refine run_gf rfl rfl q39 rfl ?_
            refine run_gf rfl rfl q39 rfl ?_
            refine run_gf rfl rfl q39 rfl ?_
            refine run_s (ss_pickF rfl q39 rfl) rfl ?_
            refine run_s (ss_assign rfl) rfl ?_
            refine run_nil ?_
            refine aw_ret ?_
            exact retAF_mk (retv1 rfl (rv_tmp rfl)) rfl rfl ⟨_, (cle_refl _), _, h, rfl⟩
       ·replace h := h.2 ((bnot_f q29))
        refine aw_skip ?_
        refine aw_seq ?_
        refine aw_seq ?_
        refine aw_region ?_
        refine run_s (ss_move rfl) rfl ?_
        refine run_s (ss_neq rfl rfl) rfl ?_
        refine run_s (ss_move rfl) rfl ?_
        refine run_split (s := 110) rfl (fun q40 => ?_) (fun q40 => ?_)
        ·replace h := h.1 (of_decide_eq_false (bnot_t q40))
         refine run_gf rfl rfl q40 rfl ?_
         refine run_gf rfl rfl q40 rfl ?_
         refine run_s (ss_pickT rfl q40 rfl) rfl ?_
         refine run_s (ss_move rfl) rfl ?_
         refine run_split (s := 114) rfl (fun q41 => ?_) (fun q41 => ?_)
         ·skip
          refine run_gf rfl rfl q41 rfl ?_
          refine run_gf rfl rfl q41 rfl ?_
          refine run_s (ss_pickT rfl q41 rfl) rfl ?_
          refine run_s (ss_move rfl) rfl ?_
          refine run_split (s := 118) rfl (fun q42 => ?_) (fun q42 => ?_)
          ·skip
           refine run_gf rfl rfl q42 rfl ?_
           refine run_gf rfl rfl q42 rfl ?_
           refine run_s (ss_pickT rfl q42 rfl) rfl ?_
           refine run_s (ss_move rfl) rfl ?_
           refine run_split (s := 122) rfl (fun q43 => ?_) (fun q43 => ?_)
           ·skip
            refine run_gf rfl rfl q43 rfl ?_
            refine run_gf rfl rfl q43 rfl ?_
            refine run_gf rfl rfl q43 rfl ?_
            refine run_gf rfl rfl q43 rfl ?_
            refine run_gf rfl rfl q43 rfl ?_
            refine run_gf rfl rfl q43 rfl ?_
            refine run_s (ss_pickT rfl q43 rfl) rfl ?_
            refine run_s (ss_move rfl) rfl ?_
            refine run_split (s := 130) rfl (fun q44 => ?_) (fun q44 => ?_)
            ·skip
             refine run_gf rfl rfl q44 rfl ?_
             refine run_gf rfl rfl q44 rfl ?_
             refine run_gf rfl rfl q44 rfl ?_
             refine run_gf rfl rfl q44 rfl ?_
             refine run_gf rfl rfl q44 rfl ?_
             refine run_s (ss_pickT rfl q44 rfl) rfl ?_
             refine run_s (ss_move rfl) rfl ?_
             refine run_split (s := 137) rfl (fun q45 => ?_) (fun q45 => ?_)
             ·skip
              refine run_gf rfl rfl q45 rfl ?_
              refine run_gfu rfl rfl q45 rfl ?_
              refine run_gu rfl rfl rfl ?_
              refine run_gu rfl rfl rfl ?_
              refine run_gu rfl rfl rfl ?_
              refine run_gu rfl rfl rfl ?_
              refine run_gu rfl rfl rfl ?_
              refine run_gu rfl rfl rfl ?_
              refine run_gf rfl rfl q45 rfl ?_
              refine run_s (ss_pickT rfl q45 rfl) rfl ?_
              refine run_nil ?_
              refine aw_cond rfl (fun q46 => ?_) (fun q46 => ?_)
              ·skip
               refine aw_seq ?_
               refine aw_gh (gh_to (n := 180) (σ' := [(3, ⟨[.lst (rows r1_0)], []⟩)]) (env' := []) rfl rfl trivial) ?_
               refine aw_region ?_
               refine run_s (ss_assign rfl) rfl ?_
               refine run_nil ?_
               refine aw_ret ?_
               exact retAF_mk (retv1 rfl (rv_tmp rfl)) rfl rfl ⟨_, (cle_refl _), _, h, rfl⟩
              ·cases q46
             ·cases q45
            ·cases q44
           ·cases q43
          ·cases q42
         ·cases q41
        ·replace h := h.2 (of_decide_eq_true (bnot_f q40))
         refine run_gt rfl rfl q40 ?_
         refine run_s (ss_move rfl) rfl ?_
         refine run_gt rfl rfl q40 ?_
         refine run_s (ss_neq rfl rfl) rfl ?_
         refine run_s (ss_pickF rfl q40 rfl) rfl ?_
         refine run_s (ss_move rfl) rfl ?_
         refine run_split (s := 114) rfl (fun q47 => ?_) (fun q47 => ?_)
         ·replace h := h.1 (of_decide_eq_false (bnot_t q47))
          refine run_gf rfl rfl q47 rfl ?_
          refine run_gf rfl rfl q47 rfl ?_
          refine run_s (ss_pickT rfl q47 rfl) rfl ?_
          refine run_s (ss_move rfl) rfl ?_
          refine run_split (s := 118) rfl (fun q48 => ?_) (fun q48 => ?_)
          ·skip
           refine run_gf rfl rfl q48 rfl ?_
           refine run_gf rfl rfl q48 rfl ?_
           refine run_s (ss_pickT rfl q48 rfl) rfl ?_
           refine run_s (ss_move rfl) rfl ?_
           refine run_split (s := 122) rfl (fun q49 => ?_) (fun q49 => ?_)
           ·skip
            refine run_gf rfl rfl q49 rfl ?_
            refine run_gf rfl rfl q49 rfl ?_
            refine run_gf rfl rfl q49 rfl ?_
            refine run_gf rfl rfl q49 rfl ?_
            refine run_gf rfl rfl q49 rfl ?_
            refine run_gf rfl rfl q49 rfl ?_
            refine run_s (ss_pickT rfl q49 rfl) rfl ?_
            refine run_s (ss_move rfl) rfl ?_
            refine run_split (s := 130) rfl (fun q50 => ?_) (fun q50 => ?_)
            ·skip
             refine run_gf rfl rfl q50 rfl ?_
             refine run_gf rfl rfl q50 rfl ?_
             refine run_gf rfl rfl q50 rfl ?_
             refine run_gf rfl rfl q50 rfl ?_
             refine run_gf rfl rfl q50 rfl ?_
             refine run_s (ss_pickT rfl q50 rfl) rfl ?_
             refine run_s (ss_move rfl) rfl ?_
             refine run_split (s := 137) rfl (fun q51 => ?_) (fun q51 => ?_)
             ·skip
              refine run_gf rfl rfl q51 rfl ?_
              refine run_gfu rfl rfl q51 rfl ?_
              refine run_gu rfl rfl rfl ?_
              refine run_gu rfl rfl rfl ?_
              refine run_gu rfl rfl rfl ?_
              refine run_gu rfl rfl rfl ?_
              refine run_gu rfl rfl rfl ?_
              refine run_gu rfl rfl rfl ?_
              refine run_gf rfl rfl q51 rfl ?_
              refine run_s (ss_pickT rfl q51 rfl) rfl ?_
              refine run_nil ?_
              refine aw_cond rfl (fun q52 => ?_) (fun q52 => ?_)
              ·skip
               refine aw_seq ?_
               refine aw_gh (gh_to (n := 180) (σ' := [(3, ⟨[.lst (rows r1_0)], []⟩)]) (env' := []) rfl rfl trivial) ?_
               refine aw_region ?_
               refine run_s (ss_assign rfl) rfl ?_
               refine run_nil ?_
               refine aw_ret ?_
               exact retAF_mk (retv1 rfl (rv_tmp rfl)) rfl rfl ⟨_, (cle_refl _), _, h, rfl⟩
              ·cases q52
             ·cases q51
            ·cases q50
           ·cases q49
          ·cases q48
         ·replace h := h.2 (of_decide_eq_true (bnot_f q47))
          refine run_gt rfl rfl q47 ?_
          refine run_s (ss_move rfl) rfl ?_
          refine run_gt rfl rfl q47 ?_
          refine run_s (ss_neq rfl rfl) rfl ?_
          refine run_s (ss_pickF rfl q47 rfl) rfl ?_
          refine run_s (ss_move rfl) rfl ?_
          refine run_split (s := 118) rfl (fun q53 => ?_) (fun q53 => ?_)
          ·replace h := h.1 (of_decide_eq_false (bnot_t q53))
           refine run_gf rfl rfl q53 rfl ?_
           refine run_gf rfl rfl q53 rfl ?_
           refine run_s (ss_pickT rfl q53 rfl) rfl ?_
           refine run_s (ss_move rfl) rfl ?_
           refine run_split (s := 122) rfl (fun q54 => ?_) (fun q54 => ?_)
           ·skip
            refine run_gf rfl rfl q54 rfl ?_
            refine run_gf rfl rfl q54 rfl ?_
            refine run_gf rfl rfl q54 rfl ?_
            refine run_gf rfl rfl q54 rfl ?_
            refine run_gf rfl rfl q54 rfl ?_
            refine run_gf rfl rfl q54 rfl ?_
            refine run_s (ss_pickT rfl q54 rfl) rfl ?_
            refine run_s (ss_move rfl) rfl ?_
            refine run_split (s := 130) rfl (fun q55 => ?_) (fun q55 => ?_)
            ·skip
             refine run_gf rfl rfl q55 rfl ?_
             refine run_gf rfl rfl q55 rfl ?_
             refine run_gf rfl rfl q55 rfl ?_
             refine run_gf rfl rfl q55 rfl ?_
             refine run_gf rfl rfl q55 rfl ?_
             refine run_s (ss_pickT rfl q55 rfl) rfl ?_
             refine run_s (ss_move rfl) rfl ?_
             refine run_split (s := 137) rfl (fun q56 => ?_) (fun q56 => ?_)
             ·skip
              refine run_gf rfl rfl q56 rfl ?_
              refine run_gfu rfl rfl q56 rfl ?_
              refine run_gu rfl rfl rfl ?_
              refine run_gu rfl rfl rfl ?_
              refine run_gu rfl rfl rfl ?_
              refine run_gu rfl rfl rfl ?_
              refine run_gu rfl rfl rfl ?_
              refine run_gu rfl rfl rfl ?_
              refine run_gf rfl rfl q56 rfl ?_
              refine run_s (ss_pickT rfl q56 rfl) rfl ?_
              refine run_nil ?_
              refine aw_cond rfl (fun q57 => ?_) (fun q57 => ?_)
              ·skip
               refine aw_seq ?_
               refine aw_gh (gh_to (n := 180) (σ' := [(3, ⟨[.lst (rows r1_0)], []⟩)]) (env' := []) rfl rfl trivial) ?_
               refine aw_region ?_
               refine run_s (ss_assign rfl) rfl ?_
               refine run_nil ?_
               refine aw_ret ?_
               exact retAF_mk (retv1 rfl (rv_tmp rfl)) rfl rfl ⟨_, (cle_refl _), _, h, rfl⟩
              ·cases q57
             ·cases q56
            ·cases q55
           ·cases q54
          ·replace h := h.2 (of_decide_eq_true (bnot_f q53))
           refine run_gt rfl rfl q53 ?_
           refine run_s (ss_move rfl) rfl ?_
           refine run_gt rfl rfl q53 ?_
           refine run_s (ss_neq rfl rfl) rfl ?_
           refine run_s (ss_pickF rfl q53 rfl) rfl ?_
           refine run_s (ss_move rfl) rfl ?_
           refine run_split (s := 122) rfl (fun q58 => ?_) (fun q58 => ?_)
           ·replace h := h.1 (of_decide_eq_false (bnot_t q58))
            refine run_gf rfl rfl q58 rfl ?_
            refine run_gf rfl rfl q58 rfl ?_
            refine run_gf rfl rfl q58 rfl ?_
            refine run_gf rfl rfl q58 rfl ?_
            refine run_gf rfl rfl q58 rfl ?_
            refine run_gf rfl rfl q58 rfl ?_
            refine run_s (ss_pickT rfl q58 rfl) rfl ?_
            refine run_s (ss_move rfl) rfl ?_
            refine run_split (s := 130) rfl (fun q59 => ?_) (fun q59 => ?_)
            ·skip
             refine run_gf rfl rfl q59 rfl ?_
             refine run_gf rfl rfl q59 rfl ?_
             refine run_gf rfl rfl q59 rfl ?_
             refine run_gf rfl rfl q59 rfl ?_
             refine run_gf rfl rfl q59 rfl ?_
             refine run_s (ss_pickT rfl q59 rfl) rfl ?_
             refine run_s (ss_move rfl) rfl ?_
             refine run_split (s := 137) rfl (fun q60 => ?_) (fun q60 => ?_)
             ·skip
              refine run_gf rfl rfl q60 rfl ?_
              refine run_gfu rfl rfl q60 rfl ?_
              refine run_gu rfl rfl rfl ?_
              refine run_gu rfl rfl rfl ?_
              refine run_gu rfl rfl rfl ?_
              refine run_gu rfl rfl rfl ?_
              refine run_gu rfl rfl rfl ?_
              refine run_gu rfl rfl rfl ?_
              refine run_gf rfl rfl q60 rfl ?_
              refine run_s (ss_pickT rfl q60 rfl) rfl ?_
              refine run_nil ?_
              refine aw_cond rfl (fun q61 => ?_) (fun q61 => ?_)
              ·skip
               refine aw_seq ?_
               refine aw_gh (gh_to (n := 180) (σ' := [(3, ⟨[.lst (rows r1_0)], []⟩)]) (env' := []) rfl rfl trivial) ?_
               refine aw_region ?_
               refine run_s (ss_assign rfl) rfl ?_
               refine run_nil ?_
               refine aw_ret ?_
               exact retAF_mk (retv1 rfl (rv_tmp rfl)) rfl rfl ⟨_, (cle_refl _), _, h, rfl⟩
              ·cases q61
             ·cases q60
            ·cases q59
           ·replace h := h.2 (of_decide_eq_true (bnot_f q58))
            refine run_gt rfl rfl q58 ?_
            refine run_s (ss_move rfl) rfl ?_
            refine run_gt rfl rfl q58 ?_
            refine run_s (ss_lenL (f := ci) rfl) rfl ?_
            refine run_gt rfl rfl q58 ?_
            refine run_s (ss_field_cell rfl) rfl ?_
            refine run_gt rfl rfl q58 ?_
            refine run_s (ss_loadC rfl rfl rfl rfl rfl) rfl ?_
            refine run_gt rfl rfl q58 ?_
            refine run_s (ss_lenL (f := (fun r => C.lst (ints r))) rfl) rfl ?_
            refine run_gt rfl rfl q58 ?_
            refine run_s (ss_neq rfl rfl) rfl ?_
            refine run_s (ss_pickF rfl q58 rfl) rfl ?_
            refine run_s (ss_move rfl) rfl ?_
            refine run_split (s := 130) rfl (fun q62 => ?_) (fun q62 => ?_)
            ·replace h := h.1 (of_decide_eq_false (bnot_t q62))
             refine run_gf rfl rfl q62 rfl ?_
             refine run_gf rfl rfl q62 rfl ?_
             refine run_gf rfl rfl q62 rfl ?_
             refine run_gf rfl rfl q62 rfl ?_
             refine run_gf rfl rfl q62 rfl ?_
             refine run_s (ss_pickT rfl q62 rfl) rfl ?_
             refine run_s (ss_move rfl) rfl ?_
             refine run_split (s := 137) rfl (fun q63 => ?_) (fun q63 => ?_)
             ·skip
              refine run_gf rfl rfl q63 rfl ?_
              refine run_gfu rfl rfl q63 rfl ?_
              refine run_gu rfl rfl rfl ?_
              refine run_gu rfl rfl rfl ?_
              refine run_gu rfl rfl rfl ?_
              refine run_gu rfl rfl rfl ?_
              refine run_gu rfl rfl rfl ?_
              refine run_gu rfl rfl rfl ?_
              refine run_gf rfl rfl q63 rfl ?_
              refine run_s (ss_pickT rfl q63 rfl) rfl ?_
              refine run_nil ?_
              refine aw_cond rfl (fun q64 => ?_) (fun q64 => ?_)
              ·skip
               refine aw_seq ?_
               refine aw_gh (gh_to (n := 180) (σ' := [(3, ⟨[.lst (rows r1_0)], []⟩)]) (env' := []) rfl rfl trivial) ?_
               refine aw_region ?_
               refine run_s (ss_assign rfl) rfl ?_
               refine run_nil ?_
               refine aw_ret ?_
               exact retAF_mk (retv1 rfl (rv_tmp rfl)) rfl rfl ⟨_, (cle_refl _), _, h, rfl⟩
              ·cases q64
             ·cases q63
            ·replace h := h.2 (of_decide_eq_true (bnot_f q62))
             refine run_gt rfl rfl q62 ?_
             refine run_s (ss_move rfl) rfl ?_
             refine run_gt rfl rfl q62 ?_
             refine run_s (ss_move rfl) rfl ?_
             refine run_gt rfl rfl q62 ?_
             obtain ⟨q65, h⟩ := h
             refine run_w (ws_call (xs := [.tmp 132]) (ids := []) rfl rfl rfl rfl (c_laws_most9 (RorT r1_0) q65) rfl ?_ )
             rintro _ rfl
             refine ⟨rfl, ?_⟩
             refine run_gt rfl rfl q62 ?_
             refine run_s (ss_eql rfl rfl) rfl ?_
             refine run_gt rfl rfl q62 ?_
             refine run_s (ss_neqB rfl rfl) rfl ?_
             refine run_s (ss_pickF rfl q62 rfl) rfl ?_
             refine run_s (ss_move rfl) rfl ?_
             refine run_split (s := 137) rfl (fun q67 => ?_) (fun q67 => ?_)
             ·replace h := h.1 ((bnot_t q67))
              refine run_gf rfl rfl q67 rfl ?_
              refine run_gfu rfl rfl q67 rfl ?_
              refine run_gu rfl rfl rfl ?_
              refine run_gu rfl rfl rfl ?_
              refine run_gu rfl rfl rfl ?_
              refine run_gu rfl rfl rfl ?_
              refine run_gu rfl rfl rfl ?_
              refine run_gu rfl rfl rfl ?_
              refine run_gf rfl rfl q67 rfl ?_
              refine run_s (ss_pickT rfl q67 rfl) rfl ?_
              refine run_nil ?_
              refine aw_cond rfl (fun q68 => ?_) (fun q68 => ?_)
              ·skip
               refine aw_seq ?_
               refine aw_gh (gh_to (n := 180) (σ' := [(3, ⟨[.lst (rows r1_0)], []⟩)]) (env' := []) rfl rfl trivial) ?_
               refine aw_region ?_
               refine run_s (ss_assign rfl) rfl ?_
               refine run_nil ?_
               refine aw_ret ?_
               exact retAF_mk (retv1 rfl (rv_tmp rfl)) rfl rfl ⟨_, (cle_refl _), _, h, rfl⟩
              ·cases q68
             ·replace h := h.2 ((bnot_f q67))
              refine run_gt rfl rfl q67 ?_
              refine run_s (ss_move rfl) rfl ?_
              refine run_gt rfl rfl q67 ?_
              refine run_s (ss_move rfl) rfl ?_
              refine run_split (s := 139) rfl (fun q69 => ?_) (fun q69 => ?_)
              ·replace h := h.1 (q69)
               refine run_gt rfl rfl q69 ?_
               refine run_s (ss_move rfl) rfl ?_
               refine run_gt rfl rfl q69 ?_
               refine run_s (ss_not rfl) rfl ?_
               refine run_gt rfl rfl q69 ?_
               refine run_s (ss_move rfl) rfl ?_
               refine run_split (s := 142) rfl (fun q70 => ?_) (fun q70 => ?_)
               ·replace h := h.1 ((bnot_t q70))
                refine run_gf rfl rfl q70 rfl ?_
                refine run_gf rfl rfl q70 rfl ?_
                refine run_gt rfl rfl q69 ?_
                refine run_s (ss_pickT rfl q70 rfl) rfl ?_
                refine run_gt rfl rfl q67 ?_
                refine run_s (ss_pickT rfl q69 rfl) rfl ?_
                refine run_s (ss_pickF rfl q67 rfl) rfl ?_
                refine run_nil ?_
                refine aw_cond rfl (fun q71 => ?_) (fun q71 => ?_)
                ·skip
                 refine aw_seq ?_
                 refine aw_gh (gh_to (n := 180) (σ' := [(3, ⟨[.lst (rows r1_0)], []⟩)]) (env' := []) rfl rfl trivial) ?_
                 refine aw_region ?_
                 refine run_s (ss_assign rfl) rfl ?_
                 refine run_nil ?_
                 refine aw_ret ?_
                 exact retAF_mk (retv1 rfl (rv_tmp rfl)) rfl rfl ⟨_, (cle_refl _), _, h, rfl⟩
                ·cases q71
               ·replace h := h.2 ((bnot_f q70))
                refine run_gt rfl rfl q70 ?_
                refine run_s (ss_move rfl) rfl ?_
                refine run_gt rfl rfl q70 ?_
                refine run_s (ss_not rfl) rfl ?_
                refine run_gt rfl rfl q69 ?_
                refine run_s (ss_pickF rfl q70 rfl) rfl ?_
                refine run_gt rfl rfl q67 ?_
                refine run_s (ss_pickT rfl q69 rfl) rfl ?_
                refine run_s (ss_pickF rfl q67 rfl) rfl ?_
                refine run_nil ?_
                refine aw_cond rfl (fun q72 => ?_) (fun q72 => ?_)
                ·replace h := h.1 ((bnot_t q72))
                 refine aw_seq ?_
                 refine aw_gh (gh_to (n := 180) (σ' := [(3, ⟨[.lst (rows r1_0)], []⟩)]) (env' := []) rfl rfl trivial) ?_
                 refine aw_region ?_
                 refine run_s (ss_assign rfl) rfl ?_
                 refine run_nil ?_
                 refine aw_ret ?_
                 exact retAF_mk (retv1 rfl (rv_tmp rfl)) rfl rfl ⟨_, (cle_refl _), _, h, rfl⟩
                ·replace h := h.2 ((bnot_f q72))
                 refine aw_skip ?_
                 refine aw_seq ?_
                 refine aw_seq ?_
                 refine aw_gh (gh_to (n := 180) (σ' := [(3, ⟨[.lst (rows r1_0)], []⟩)]) (env' := [(4, .c (ci (InoV r1_0))), (5, .c (ci (InoE r1_0))), (8, .c (.lst (ints (RorT r1_0))))]) rfl rfl ⟨rfl, rfl, rfl, trivial⟩) ?_
                 refine aw_region ?_
                 refine run_s (ss_move rfl) rfl ?_
                 refine run_s (ss_neq rfl rfl) rfl ?_
                 refine run_nil ?_
                 refine aw_cond rfl (fun q73 => ?_) (fun q73 => ?_)
                 ·replace h := h.1 (of_decide_eq_false (bnot_t q73))
                  refine aw_seq ?_
                  refine aw_region ?_
                  refine run_s (ss_move rfl) rfl ?_
                  refine run_s (ss_eql rfl rfl) rfl ?_
                  refine run_s (ss_assign rfl) rfl ?_
                  refine run_nil ?_
                  refine aw_ret ?_
                  exact retAF_mk (retv1 rfl (rv_tmp rfl)) rfl rfl ⟨_, (cle_refl _), _, h, rfl⟩
                 ·replace h := h.2 (of_decide_eq_true (bnot_f q73))
                  refine aw_skip ?_
                  refine aw_seq ?_
                  refine aw_seq ?_
                  refine aw_region ?_
                  refine run_s (ss_assign rfl) rfl ?_
                  refine run_nil ?_
                  refine aw_block ?_
                  refine aw_gh (gh_freeze (id := 3) rfl rfl) ?_
                  obtain ⟨H1, m1, q74, h⟩ := h
                  refine aw_loop1 (fun (v20_1 : Int) => ⟨[], [(4, .c (ci (InoV r1_0))), (8, .c (.lst (ints (RorT r1_0)))), (20, .c (ci v20_1))], 180⟩) H1 m1 ⟨0, ghe_to (n := 180) rfl rfl ⟨rfl, rfl, rfl, trivial⟩, q74⟩ ?_
                  rintro v20_1 q74
                  replace h := h v20_1 q74
                  refine aw_seq ?_
                  refine aw_seq ?_
                  refine aw_region ?_
                  refine run_s (ss_move rfl) rfl ?_
                  refine run_s (ss_move rfl) rfl ?_
                  obtain ⟨q75, h⟩ := h
                  refine run_w (ws_call (xs := [.tmp 153]) (ids := []) rfl rfl rfl rfl (c_laws_most9 (RorT r1_0) q75) rfl ?_ )
                  rintro _ rfl
                  refine ⟨rfl, ?_⟩
                  refine run_s (ss_lss rfl rfl) rfl ?_
                  refine run_nil ?_
                  refine aw_cond rfl (fun q77 => ?_) (fun q77 => ?_)
                  ·replace h := h.1 (of_decide_eq_true q77)
                   refine aw_skip ?_
                   refine aw_seq ?_
                   refine aw_block ?_
                   refine aw_seq ?_
                   refine aw_region ?_
                   refine run_s (ss_assign rfl) rfl ?_
                   refine run_nil ?_
                   refine aw_seq ?_
                   refine aw_seq ?_
                   refine aw_region ?_
                   refine run_s (ss_assign rfl) rfl ?_
                   refine run_nil ?_
                   refine aw_block ?_
                   obtain ⟨H2, m2, q78, h⟩ := h
                   refine aw_loop2 (fun (v21_2 : Int) (v22_2 : Int) => ⟨[], [(4, .c (ci (InoV r1_0))), (8, .c (.lst (ints (RorT r1_0)))), (20, .c (ci v20_1)), (21, .c (ci v21_2)), (22, .c (ci v22_2))], 180⟩) H2 m2 ⟨0, 0, ghe_to (n := 180) rfl rfl ⟨rfl, rfl, rfl, rfl, rfl, trivial⟩, q78⟩ ?_
                   rintro v21_2 v22_2 q78
                   replace h := h v21_2 v22_2 q78
                   refine aw_seq ?_
                   refine aw_seq ?_
                   refine aw_region ?_
                   refine run_s (ss_move rfl) rfl ?_
                   refine run_s (ss_move rfl) rfl ?_
                   refine run_s (ss_lenL (f := ci) rfl) rfl ?_
                   refine run_s (ss_lss rfl rfl) rfl ?_
                   refine run_nil ?_
                   refine aw_cond rfl (fun q79 => ?_) (fun q79 => ?_)
                   ·replace h := h.1 (of_decide_eq_true q79)
                    refine aw_skip ?_
                    refine aw_seq ?_
                    refine aw_block ?_
                    refine aw_seq ?_
                    refine aw_region ?_
                    refine run_s (ss_move rfl) rfl ?_
                    refine run_s (ss_move rfl) rfl ?_
                    obtain ⟨q80, h⟩ := h
                    refine run_s (ss_idxL rfl rfl q80) rfl ?_
                    refine run_s (ss_loadL (f := ci) rfl q80) rfl ?_
                    refine run_s (ss_move rfl) rfl ?_
                    refine run_s (ss_eql rfl rfl) rfl ?_
                    refine run_nil ?_
                    refine aw_cond rfl (fun q81 => ?_) (fun q81 => ?_)
                    ·replace h := h.1 (of_decide_eq_true q81)
                     refine aw_gh (gh_to (n := 180) (σ' := []) (env' := [(4, .c (ci (InoV r1_0))), (8, .c (.lst (ints (RorT r1_0)))), (20, .c (ci v20_1)), (21, .c (ci v21_2)), (22, .c (ci v22_2))]) rfl rfl ⟨rfl, rfl, rfl, rfl, rfl, trivial⟩) ?_
                     refine aw_region ?_
                     refine run_s (ss_move rfl) rfl ?_
                     obtain ⟨q82, h⟩ := h
                     refine run_s (ss_add rfl rfl q82) rfl ?_
                     refine run_s (ss_assign rfl) rfl ?_
                     refine run_nil ?_
                     refine aw_region ?_
                     refine run_s (ss_move rfl) rfl ?_
                     obtain ⟨q83, h⟩ := h
                     refine run_s (ss_add rfl rfl q83) rfl ?_
                     refine run_s (ss_assign rfl) rfl ?_
                     refine run_nil ?_
                     exact ⟨v21_2 + 1, v22_2 + 1, ghe_to (n := 180) rfl rfl ⟨rfl, rfl, rfl, rfl, rfl, trivial⟩, h.1, h.2⟩
                    ·replace h := h.2 (of_decide_eq_false q81)
                     refine aw_skip ?_
                     refine aw_gh (gh_to (n := 180) (σ' := []) (env' := [(4, .c (ci (InoV r1_0))), (8, .c (.lst (ints (RorT r1_0)))), (20, .c (ci v20_1)), (21, .c (ci v21_2)), (22, .c (ci v22_2))]) rfl rfl ⟨rfl, rfl, rfl, rfl, rfl, trivial⟩) ?_
                     refine aw_region ?_
                     refine run_s (ss_move rfl) rfl ?_
                     obtain ⟨q84, h⟩ := h
                     refine run_s (ss_add rfl rfl q84) rfl ?_
                     refine run_s (ss_assign rfl) rfl ?_
                     refine run_nil ?_
                     exact ⟨v21_2, v22_2 + 1, ghe_to (n := 180) rfl rfl ⟨rfl, rfl, rfl, rfl, rfl, trivial⟩, h.1, h.2⟩
                   ·replace h := h.2 (of_decide_eq_false q79)
                    refine aw_exit ?_
                    refine aw_seq ?_
                    refine aw_region ?_
                    refine run_s (ss_move rfl) rfl ?_
                    refine run_s (ss_eql rfl rfl) rfl ?_
                    refine run_s (ss_move rfl) rfl ?_
                    refine run_split (s := 174) rfl (fun q85 => ?_) (fun q85 => ?_)
                    ·replace h := h.1 (of_decide_eq_true q85)
                     refine run_gf rfl rfl q85 rfl ?_
                     refine run_gf rfl rfl q85 rfl ?_
                     refine run_gf rfl rfl q85 rfl ?_
                     refine run_gf rfl rfl q85 rfl ?_
                     refine run_s (ss_pickT rfl q85 rfl) rfl ?_
                     refine run_nil ?_
                     refine aw_cond rfl (fun q86 => ?_) (fun q86 => ?_)
                     ·skip
                      refine aw_seq ?_
                      refine aw_gh (gh_to (n := 180) (σ' := []) (env' := []) rfl rfl trivial) ?_
                      refine aw_region ?_
                      refine run_s (ss_assign rfl) rfl ?_
                      refine run_nil ?_
                      refine aw_ret ?_
                      exact retAF_mk (retv1 rfl (rv_tmp rfl)) rfl rfl ⟨_, (cle_refl _), _, h, rfl⟩
                     ·cases q86
                    ·replace h := h.2 (of_decide_eq_false q85)
                     refine run_gt rfl rfl q85 ?_
                     refine run_s (ss_move rfl) rfl ?_
                     refine run_gt rfl rfl q85 ?_
                     refine run_s (ss_move rfl) rfl ?_
                     refine run_gt rfl rfl q85 ?_
                     obtain ⟨q87, h⟩ := h
                     refine run_s (ss_rem rfl rfl q87) rfl ?_
                     refine run_gt rfl rfl q85 ?_
                     refine run_s (ss_neq rfl rfl) rfl ?_
                     refine run_s (ss_pickF rfl q85 rfl) rfl ?_
                     refine run_nil ?_
                     refine aw_cond rfl (fun q88 => ?_) (fun q88 => ?_)
                     ·replace h := h.1 (of_decide_eq_false (bnot_t q88))
                      refine aw_seq ?_
                      refine aw_gh (gh_to (n := 180) (σ' := []) (env' := []) rfl rfl trivial) ?_
                      refine aw_region ?_
                      refine run_s (ss_assign rfl) rfl ?_
                      refine run_nil ?_
                      refine aw_ret ?_
                      exact retAF_mk (retv1 rfl (rv_tmp rfl)) rfl rfl ⟨_, (cle_refl _), _, h, rfl⟩
                     ·replace h := h.2 (of_decide_eq_true (bnot_f q88))
                      refine aw_skip ?_
                      refine aw_gh (gh_to (n := 180) (σ' := []) (env' := [(4, .c (ci (InoV r1_0))), (8, .c (.lst (ints (RorT r1_0)))), (20, .c (ci v20_1)), (175, .c (ci (InoV r1_0))), (176, .c (ci v21_2)), (177, .c (ci ((InoV r1_0) % v21_2))), (178, .c (cb (!(decide ((InoV r1_0) % v21_2 = 0)))))]) rfl rfl ⟨rfl, rfl, rfl, rfl, rfl, rfl, rfl, trivial⟩) ?_
                      refine aw_region ?_
                      refine run_s (ss_move rfl) rfl ?_
                      obtain ⟨q89, h⟩ := h
                      refine run_s (ss_add rfl rfl q89) rfl ?_
                      refine run_s (ss_assign rfl) rfl ?_
                      refine run_nil ?_
                      exact ⟨v20_1 + 1, ghe_to (n := 180) rfl rfl ⟨rfl, rfl, rfl, trivial⟩, h.1, h.2⟩
                  ·replace h := h.2 (of_decide_eq_false q77)
                   refine aw_exit ?_
                   refine aw_seq ?_
                   refine aw_gh (gh_to (n := 180) (σ' := []) (env' := []) rfl rfl trivial) ?_
                   refine aw_region ?_
                   refine run_s (ss_assign rfl) rfl ?_
                   refine run_nil ?_
                   refine aw_ret ?_
                   exact retAF_mk (retv1 rfl (rv_tmp rfl)) rfl rfl ⟨_, (cle_refl _), _, h, rfl⟩
              ·replace h := h.2 (q69)
               refine run_gf rfl rfl q69 rfl ?_
               refine run_gf rfl rfl q69 rfl ?_
               refine run_gfu rfl rfl q69 rfl ?_
               refine run_gu rfl rfl rfl ?_
               refine run_gu rfl rfl rfl ?_
               refine run_gf rfl rfl q69 rfl ?_
               refine run_gt rfl rfl q67 ?_
               refine run_s (ss_pickF rfl q69 rfl) rfl ?_
               refine run_s (ss_pickF rfl q67 rfl) rfl ?_
               refine run_nil ?_
               refine aw_cond rfl (fun q90 => ?_) (fun q90 => ?_)
               ·cases q90
               ·skip
                refine aw_skip ?_
                refine aw_seq ?_
                refine aw_seq ?_
                refine aw_gh (gh_to (n := 180) (σ' := [(3, ⟨[.lst (rows r1_0)], []⟩)]) (env' := [(4, .c (ci (InoV r1_0))), (5, .c (ci (InoE r1_0))), (8, .c (.lst (ints (RorT r1_0))))]) rfl rfl ⟨rfl, rfl, rfl, trivial⟩) ?_
                refine aw_region ?_
                refine run_s (ss_move rfl) rfl ?_
                refine run_s (ss_neq rfl rfl) rfl ?_
                refine run_nil ?_
                refine aw_cond rfl (fun q91 => ?_) (fun q91 => ?_)
                ·replace h := h.1 (of_decide_eq_false (bnot_t q91))
                 refine aw_seq ?_
                 refine aw_region ?_
                 refine run_s (ss_move rfl) rfl ?_
                 refine run_s (ss_eql rfl rfl) rfl ?_
                 refine run_s (ss_assign rfl) rfl ?_
                 refine run_nil ?_
                 refine aw_ret ?_
                 exact retAF_mk (retv1 rfl (rv_tmp rfl)) rfl rfl ⟨_, (cle_refl _), _, h, rfl⟩
                ·replace h := h.2 (of_decide_eq_true (bnot_f q91))
                 refine aw_skip ?_
                 refine aw_seq ?_
                 refine aw_seq ?_
                 refine aw_region ?_
                 refine run_s (ss_assign rfl) rfl ?_
                 refine run_nil ?_
                 refine aw_block ?_
                 refine aw_gh (gh_freeze (id := 3) rfl rfl) ?_
                 obtain ⟨H3, m3, q92, h⟩ := h
                 refine aw_loop1 (fun (v20_1 : Int) => ⟨[], [(4, .c (ci (InoV r1_0))), (8, .c (.lst (ints (RorT r1_0)))), (20, .c (ci v20_1))], 180⟩) H3 m3 ⟨0, ghe_to (n := 180) rfl rfl ⟨rfl, rfl, rfl, trivial⟩, q92⟩ ?_
                 rintro v20_1 q92
                 replace h := h v20_1 q92
                 refine aw_seq ?_
                 refine aw_seq ?_
                 refine aw_region ?_
                 refine run_s (ss_move rfl) rfl ?_
                 refine run_s (ss_move rfl) rfl ?_
                 obtain ⟨q93, h⟩ := h
                 refine run_w (ws_call (xs := [.tmp 153]) (ids := []) rfl rfl rfl rfl (c_laws_most9 (RorT r1_0) q93) rfl ?_ )
                 rintro _ rfl
                 refine ⟨rfl, ?_⟩
                 refine run_s (ss_lss rfl rfl) rfl ?_
                 refine run_nil ?_
                 refine aw_cond rfl (fun q95 => ?_) (fun q95 => ?_)
                 ·replace h := h.1 (of_decide_eq_true q95)
                  refine aw_skip ?_
                  refine aw_seq ?_
                  refine aw_block ?_
                  refine aw_seq ?_
                  refine aw_region ?_
                  refine run_s (ss_assign rfl) rfl ?_
                  refine run_nil ?_
                  refine aw_seq ?_
                  refine aw_seq ?_
                  refine aw_region ?_
                  refine run_s (ss_assign rfl) rfl ?_
                  refine run_nil ?_
                  refine aw_block ?_
                  obtain ⟨H4, m4, q96, h⟩ := h
                  refine aw_loop2 (fun (v21_2 : Int) (v22_2 : Int) => ⟨[], [(4, .c (ci (InoV r1_0))), (8, .c (.lst (ints (RorT r1_0)))), (20, .c (ci v20_1)), (21, .c (ci v21_2)), (22, .c (ci v22_2))], 180⟩) H4 m4 ⟨0, 0, ghe_to (n := 180) rfl rfl ⟨rfl, rfl, rfl, rfl, rfl, trivial⟩, q96⟩ ?_
                  rintro v21_2 v22_2 q96
                  replace h := h v21_2 v22_2 q96
                  refine aw_seq ?_
                  refine aw_seq ?_
                  refine aw_region ?_
                  refine run_s (ss_move rfl) rfl ?_
                  refine run_s (ss_move rfl) rfl ?_
                  refine run_s (ss_lenL (f := ci) rfl) rfl ?_
                  refine run_s (ss_lss rfl rfl) rfl ?_
                  refine run_nil ?_
                  refine aw_cond rfl (fun q97 => ?_) (fun q97 => ?_)
                  ·replace h := h.1 (of_decide_eq_true q97)
                   refine aw_skip ?_
                   refine aw_seq ?_
                   refine aw_block ?_
                   refine aw_seq ?_
                   refine aw_region ?_
                   refine run_s (ss_move rfl) rfl ?_
                   refine run_s (ss_move rfl) rfl ?_
                   obtain ⟨q98, h⟩ := h
                   refine run_s (ss_idxL rfl rfl q98) rfl ?_
                   refine run_s (ss_loadL (f := ci) rfl q98) rfl ?_
                   refine run_s (ss_move rfl) rfl ?_
                   refine run_s (ss_eql rfl rfl) rfl ?_
                   refine run_nil ?_
                   refine aw_cond rfl (fun q99 => ?_) (fun q99 => ?_)
                   ·replace h := h.1 (of_decide_eq_true q99)
                    refine aw_gh (gh_to (n := 180) (σ' := []) (env' := [(4, .c (ci (InoV r1_0))), (8, .c (.lst (ints (RorT r1_0)))), (20, .c (ci v20_1)), (21, .c (ci v21_2)), (22, .c (ci v22_2))]) rfl rfl ⟨rfl, rfl, rfl, rfl, rfl, trivial⟩) ?_
                    refine aw_region ?_
                    refine run_s (ss_move rfl) rfl ?_
                    obtain ⟨q100, h⟩ := h
                    refine run_s (ss_add rfl rfl q100) rfl ?_
                    refine run_s (ss_assign rfl) rfl ?_
                    refine run_nil ?_
                    refine aw_region ?_
                    refine run_s (ss_move rfl) rfl ?_
                    obtain ⟨q101, h⟩ := h
                    refine run_s (ss_add rfl rfl q101) rfl ?_
                    refine run_s (ss_assign rfl) rfl ?_
                    refine run_nil ?_
                    exact ⟨v21_2 + 1, v22_2 + 1, ghe_to (n := 180) rfl rfl ⟨rfl, rfl, rfl, rfl, rfl, trivial⟩, h.1, h.2⟩
                   ·replace h := h.2 (of_decide_eq_false q99)
                    refine aw_skip ?_
                    refine aw_gh (gh_to (n := 180) (σ' := []) (env' := [(4, .c (ci (InoV r1_0))), (8, .c (.lst (ints (RorT r1_0)))), (20, .c (ci v20_1)), (21, .c (ci v21_2)), (22, .c (ci v22_2))]) rfl rfl ⟨rfl, rfl, rfl, rfl, rfl, trivial⟩) ?_
                    refine aw_region ?_
                    refine run_s (ss_move rfl) rfl ?_
                    obtain ⟨q102, h⟩ := h
                    refine run_s (ss_add rfl rfl q102) rfl ?_
                    refine run_s (ss_assign rfl) rfl ?_
                    refine run_nil ?_
                    exact ⟨v21_2, v22_2 + 1, ghe_to (n := 180) rfl rfl ⟨rfl, rfl, rfl, rfl, rfl, trivial⟩, h.1, h.2⟩
                  ·replace h := h.2 (of_decide_eq_false q97)
                   refine aw_exit ?_
                   refine aw_seq ?_
                   refine aw_region ?_
                   refine run_s (ss_move rfl) rfl ?_
                   refine run_s (ss_eql rfl rfl) rfl ?_
                   refine run_s (ss_move rfl) rfl ?_
                   refine run_split (s := 174) rfl (fun q103 => ?_) (fun q103 => ?_)
                   ·replace h := h.1 (of_decide_eq_true q103)
                    refine run_gf rfl rfl q103 rfl ?_
                    refine run_gf rfl rfl q103 rfl ?_
                    refine run_gf rfl rfl q103 rfl ?_
                    refine run_gf rfl rfl q103 rfl ?_
                    refine run_s (ss_pickT rfl q103 rfl) rfl ?_
                    refine run_nil ?_
                    refine aw_cond rfl (fun q104 => ?_) (fun q104 => ?_)
                    ·skip
                     refine aw_seq ?_
                     refine aw_gh (gh_to (n := 180) (σ' := []) (env' := []) rfl rfl trivial) ?_
                     refine aw_region ?_
                     refine run_s (ss_assign rfl) rfl ?_
                     refine run_nil ?_
                     refine aw_ret ?_
                     exact retAF_mk (retv1 rfl (rv_tmp rfl)) rfl rfl ⟨_, (cle_refl _), _, h, rfl⟩
                    ·cases q104
                   ·replace h := h.2 (of_decide_eq_false q103)
                    refine run_gt rfl rfl q103 ?_
                    refine run_s (ss_move rfl) rfl ?_
                    refine run_gt rfl rfl q103 ?_
                    refine run_s (ss_move rfl) rfl ?_
                    refine run_gt rfl rfl q103 ?_
                    obtain ⟨q105, h⟩ := h
                    refine run_s (ss_rem rfl rfl q105) rfl ?_
                    refine run_gt rfl rfl q103 ?_
                    refine run_s (ss_neq rfl rfl) rfl ?_
                    refine run_s (ss_pickF rfl q103 rfl) rfl ?_
                    refine run_nil ?_
                    refine aw_cond rfl (fun q106 => ?_) (fun q106 => ?_)
                    ·replace h := h.1 (of_decide_eq_false (bnot_t q106))
                     refine aw_seq ?_
                     refine aw_gh (gh_to (n := 180) (σ' := []) (env' := []) rfl rfl trivial) ?_
                     refine aw_region ?_
                     refine run_s (ss_assign rfl) rfl ?_
                     refine run_nil ?_
                     refine aw_ret ?_
                     exact retAF_mk (retv1 rfl (rv_tmp rfl)) rfl rfl ⟨_, (cle_refl _), _, h, rfl⟩
                    ·replace h := h.2 (of_decide_eq_true (bnot_f q106))
                     refine aw_skip ?_
                     refine aw_gh (gh_to (n := 180) (σ' := []) (env' := [(4, .c (ci (InoV r1_0))), (8, .c (.lst (ints (RorT r1_0)))), (20, .c (ci v20_1)), (175, .c (ci (InoV r1_0))), (176, .c (ci v21_2)), (177, .c (ci ((InoV r1_0) % v21_2))), (178, .c (cb (!(decide ((InoV r1_0) % v21_2 = 0)))))]) rfl rfl ⟨rfl, rfl, rfl, rfl, rfl, rfl, rfl, trivial⟩) ?_
                     refine aw_region ?_
                     refine run_s (ss_move rfl) rfl ?_
                     obtain ⟨q107, h⟩ := h
                     refine run_s (ss_add rfl rfl q107) rfl ?_
                     refine run_s (ss_assign rfl) rfl ?_
                     refine run_nil ?_
                     exact ⟨v20_1 + 1, ghe_to (n := 180) rfl rfl ⟨rfl, rfl, rfl, trivial⟩, h.1, h.2⟩
                 ·replace h := h.2 (of_decide_eq_false q95)
                  refine aw_exit ?_
                  refine aw_seq ?_
                  refine aw_gh (gh_to (n := 180) (σ' := []) (env' := []) rfl rfl trivial) ?_
                  refine aw_region ?_
                  refine run_s (ss_assign rfl) rfl ?_
                  refine run_nil ?_
                  refine aw_ret ?_
                  exact retAF_mk (retv1 rfl (rv_tmp rfl)) rfl rfl ⟨_, (cle_refl _), _, h, rfl⟩

theorem c_laws_FnRackGroups (code : List Int) (hp : code.length ≤ 9223372036854775807 ∧ ∀ z_ ∈ code, 0 ≤ z_ ∧ z_ ≤ 255) : AF Try.prog 5 [.lst (bys code)] (fun R_ => R_ = cb true) :=
  (w_laws_FnRackGroups code (fun y0 => y0 = true) (p_laws_FnRackGroups code hp)).mono (by rintro r ⟨_, rfl, rfl⟩; rfl)

end Go.Proofs.Ytggeeemecgmhiaa

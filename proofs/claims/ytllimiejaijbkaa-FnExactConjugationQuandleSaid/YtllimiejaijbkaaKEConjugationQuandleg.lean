/- Contracts of functions that the law FnExactConjugationQuandle reaches: conditions, plain proofs, walks; no condition. -/
import Derived.Test.YtllimiejaijbkaaKEConjugationQuandlef
import Derived.Test.YtllimiejaijbkaaPg
namespace Go.Proofs.Ytllimiejaijbkaa

def wp_spec_l04Find (lists : List (List Int)) (list : List Int) (Q : Int → Prop) : Prop :=
 ∃ (H1 : Int → Prop) (m1 : Int → Nat),
 H1 0 ∧
 ∀ (v5_1 : Int), H1 v5_1 →
 ( ((v5_1 < (lists.length : Int) →
   (0 ≤ v5_1 ∧ v5_1 < (lists.length : Int)) ∧
   (small (el lists v5_1) ∧ small list) ∧
   (((el lists v5_1) = list →
    Q v5_1) ∧
   (¬ ((el lists v5_1) = list) →
    (InI (v5_1 + 1)) ∧
    (H1 (v5_1 + 1) ∧ m1 (v5_1 + 1) < m1 v5_1)))) ∧
  (¬ (v5_1 < (lists.length : Int)) →
   Q (-1))))

def wp_impl_listIndex_1 (own : List Int) (list : List Int) (Q : Bool → Prop) : Prop :=
 (small own ∧ small list) ∧
 Q (decide (own = list))

def wp_impl_listIndex (lists : List (List Int)) (list : List Int) (Q : Int → Prop) : Prop :=
 (small lists ∧ ∀ r_ ∈ lists, (fun z0 => small z0 ∧ small list) r_) ∧
 Q (idxF lists (fun z0 => decide (z0 = list)))

def wp_impl_conjugate (y : List Int) (x : List Int) (Q : List Int → Prop) : Prop :=
 (small x ∧ isPerm x = true) ∧
 (small (backI x) ∧ ∀ x_ ∈ (backI x), 0 ≤ x_ ∧ x_ < (y.length : Int)) ∧
 (small ((backI x).map (el y)) ∧ ∀ x_ ∈ ((backI x).map (el y)), 0 ≤ x_ ∧ x_ < (x.length : Int)) ∧
 Q (((backI x).map (el y)).map (el x))

def wp_spec_l04Conjugate (x : List Int) (y : List Int) (Q : List Int → Prop) : Prop :=
 (small x ∧ isPerm x = true) ∧
 (small (backI x) ∧ ∀ x_ ∈ (backI x), 0 ≤ x_ ∧ x_ < (y.length : Int)) ∧
 (small ((backI x).map (el y)) ∧ ∀ x_ ∈ ((backI x).map (el y)), 0 ≤ x_ ∧ x_ < (x.length : Int)) ∧
 Q (((backI x).map (el y)).map (el x))

def wp_spec_l04List (list : List (List Int)) (Q : Bool → Prop) : Prop :=
 ∃ (H1 : Int → Prop) (m1 : Int → Nat),
 H1 0 ∧
 ∀ (v3_1 : Int), H1 v3_1 →
 ( ((v3_1 < (list.length : Int) →
   (0 ≤ v3_1 ∧ v3_1 < (list.length : Int)) ∧
   (small (el list v3_1)) ∧
   (((permB (el list v3_1)) = false →
    Q false) ∧
   ((permB (el list v3_1)) = true →
    (0 ≤ v3_1 ∧ v3_1 < (list.length : Int)) ∧
    ((0 : Int) ≤ 0 ∧ 0 < (list.length : Int)) ∧
    ((¬ (((el list v3_1).length : Int) = ((el list 0).length : Int)) →
     Q false) ∧
    (((el list v3_1).length : Int) = ((el list 0).length : Int) →
     (0 ≤ v3_1 ∧ v3_1 < (list.length : Int)) ∧
     (small2 list ∧ small (el list v3_1)) ∧
     ((¬ (idxL list (el list v3_1) = v3_1) →
      Q false) ∧
     (idxL list (el list v3_1) = v3_1 →
      (InI (v3_1 + 1)) ∧
      (H1 (v3_1 + 1) ∧ m1 (v3_1 + 1) < m1 v3_1)))))))) ∧
  (¬ (v3_1 < (list.length : Int)) →
   Q (decide (0 < (list.length : Int))))))

def wp_spec_l04Conjugation (list : List (List Int)) (Q : List (List Int) → Prop) : Prop :=
 ∃ (H1 : Int → List (List Int) → Prop) (m1 : Int → List (List Int) → Nat),
 H1 0 ([] : List (List Int)) ∧
 ∀ (v4_1 : Int) (o7_1 : List (List Int)), H1 v4_1 o7_1 →
 ( ((v4_1 < (list.length : Int) →
   ∃ (H2 : Int → List Int → Prop) (m2 : Int → List Int → Nat),
   H2 0 ([] : List Int) ∧
   ∀ (v6_2 : Int) (o14_2 : List Int), H2 v6_2 o14_2 →
   ( ((v6_2 < (list.length : Int) →
     (0 ≤ v4_1 ∧ v4_1 < (list.length : Int)) ∧
     (0 ≤ v6_2 ∧ v6_2 < (list.length : Int)) ∧
     (cjD (el list v4_1) (el list v6_2)) ∧
     (small2 list ∧ small (conjI (el list v4_1) (el list v6_2))) ∧
     ((o14_2.length : Int) + (([idxL list (conjI (el list v4_1) (el list v6_2))]).length : Int) ≤ 1000000000) ∧
     (InI (v6_2 + 1)) ∧
     (H2 (v6_2 + 1) (o14_2 ++ ([idxL list (conjI (el list v4_1) (el list v6_2))])) ∧ m2 (v6_2 + 1) (o14_2 ++ ([idxL list (conjI (el list v4_1) (el list v6_2))])) < m2 v6_2 o14_2)) ∧
    (¬ (v6_2 < (list.length : Int)) →
     ((o7_1.length : Int) + (([o14_2]).length : Int) ≤ 1000000000) ∧
     (InI (v4_1 + 1)) ∧
     (H1 (v4_1 + 1) (o7_1 ++ ([o14_2])) ∧ m1 (v4_1 + 1) (o7_1 ++ ([o14_2])) < m1 v4_1 o7_1))))) ∧
  (¬ (v4_1 < (list.length : Int)) →
   Q o7_1)))

def wp_impl_ConjugationQuandle_1 (x : Int) (y : Int) (list : List (List Int)) (Q : Int → Prop) : Prop :=
 (0 ≤ y ∧ y < (list.length : Int)) ∧
 (0 ≤ x ∧ x < (list.length : Int)) ∧
 (cjD (el list x) (el list y)) ∧
 (small2 list ∧ small (conjI (el list x) (el list y))) ∧
 Q (idxL list (conjI (el list x) (el list y)))

def wp_spec_ConjugationQuandle (list : List (List Int)) (Q : List (List Int) → Int → Prop) : Prop :=
 (small2 list) ∧
 (((dec (GoodL list)) = false →
  Q ([]) 1) ∧
 ((dec (GoodL list)) = true →
  ((12 < (list.length : Int) →
   Q ([]) 3) ∧
  (¬ (12 < (list.length : Int)) →
   (GoodL list ∧ (list.length : Int) ≤ 12) ∧
   (small2 (cjT list)) ∧
   (((isTab (cjT list)) = false →
    Q ([]) 5) ∧
   ((isTab (cjT list)) = true →
    Q (cjT list) 0))))))

def wp_impl_ConjugationQuandle (list : List (List Int)) (Q : List (List Int) → Int → Prop) : Prop :=
 (((list.length : Int) = 0 →
  Q ([]) 1) ∧
 (¬ ((list.length : Int) = 0) →
  ∃ (H1 : Int → Prop) (m1 : Int → Nat),
  H1 0 ∧
  ∀ (v13_1 : Int), H1 v13_1 →
  ( ((v13_1 < (list.length : Int) →
    (0 ≤ v13_1 ∧ v13_1 < (list.length : Int)) ∧
    (small (el list v13_1)) ∧
    (((permB (el list v13_1)) = false →
     Q ([]) 1) ∧
    ((permB (el list v13_1)) = true →
     ((0 : Int) ≤ 0 ∧ 0 < (list.length : Int)) ∧
     ((¬ (((el list v13_1).length : Int) = ((el list 0).length : Int)) →
      Q ([]) 1) ∧
     (((el list v13_1).length : Int) = ((el list 0).length : Int) →
      ((0 : Int) ≤ 0 ∧ 0 ≤ v13_1 ∧ v13_1 ≤ (list.length : Int)) ∧
      (small2 (sl list 0 v13_1) ∧ small (el list v13_1)) ∧
      ((0 ≤ idxL (sl list 0 v13_1) (el list v13_1) →
       Q ([]) 1) ∧
      (¬ (0 ≤ idxL (sl list 0 v13_1) (el list v13_1)) →
       (InI (v13_1 + 1)) ∧
       (H1 (v13_1 + 1) ∧ m1 (v13_1 + 1) < m1 v13_1)))))))) ∧
   (¬ (v13_1 < (list.length : Int)) →
    ((12 < (list.length : Int) →
     Q ([]) 3) ∧
    (¬ (12 < (list.length : Int)) →
     (0 ≤ (list.length : Int) ∧ (list.length : Int) ≤ 1000000 ∧ ∀ x_ y_, 0 ≤ x_ → x_ < (list.length : Int) → 0 ≤ y_ → y_ < (list.length : Int) → (fun z0 z1 => GoodL list ∧ (list.length : Int) ≤ 12 ∧ 0 ≤ z0 ∧ z0 < (list.length : Int) ∧ 0 ≤ z1 ∧ z1 < (list.length : Int)) x_ y_ ∧ InI ((fun z0 z1 => cjV list z0 z1) x_ y_)) ∧
     (small2 (tab (list.length : Int) (fun z0 z1 => cjV list z0 z1))) ∧
     (((isTab (tab (list.length : Int) (fun z0 z1 => cjV list z0 z1))) = false →
      Q ([]) 5) ∧
     ((isTab (tab (list.length : Int) (fun z0 z1 => cjV list z0 z1))) = true →
      Q (tab (list.length : Int) (fun z0 z1 => cjV list z0 z1)) 0)))))))))


theorem p_spec_l04Find (lists : List (List Int)) (list : List Int) (hp : small2 lists ∧ small list) : wp_spec_l04Find lists list (fun y0 => y0 = idxL lists list) := by
  unfold wp_spec_l04Find idxL
  have h1 := hp.1.1
  refine ⟨fun i => 0 ≤ i ∧ i ≤ (lists.length : Int) ∧ Upto i fun j => decide (el lists j = list) = false, fun i => ((lists.length : Int) - i).toNat, ⟨by omega, by omega, upto0⟩, ?_⟩
  rintro i ⟨i0, i1, hI⟩
  dsimp only
  refine ⟨fun hlt => ⟨⟨i0, hlt⟩, ⟨hp.1.2 _ (el_mem ⟨i0, hlt⟩), hp.2⟩, fun hf => (idxF_found ⟨i0, hlt⟩ hI (decide_eq_true hf)).symm, fun ht => ⟨⟨by omega, by omega⟩, ⟨by omega, by omega, upto1 hI (decide_eq_false ht)⟩, by omega⟩⟩, fun hge => ?_⟩
  exact (idxF_none (by rwa [show i = (lists.length : Int) by omega] at hI)).symm
theorem p_impl_listIndex_1 (own list : List Int) (hp : small own ∧ small list) : wp_impl_listIndex_1 own list (fun y0 => y0 = decide (own = list)) := ⟨hp, rfl⟩
theorem p_impl_listIndex (lists : List (List Int)) (list : List Int) (hp : small2 lists ∧ small list) : wp_impl_listIndex lists list (fun y0 => y0 = idxL lists list) := ⟨⟨hp.1.1, fun r hr => ⟨hp.1.2 r hr, hp.2⟩⟩, rfl⟩
theorem cj_pre {x y : List Int} (hp : cjD x y) : (small x ∧ isPerm x = true) ∧ (small (backI x) ∧ ∀ x_ ∈ backI x, 0 ≤ x_ ∧ x_ < (y.length : Int)) ∧ (small ((backI x).map (el y)) ∧ ∀ x_ ∈ (backI x).map (el y), 0 ≤ x_ ∧ x_ < (x.length : Int)) := by
  obtain ⟨h1, h2, h3, h4⟩ := hp
  have hb := isPerm_backI h2
  have hs : (x.length : Int) ≤ 1000000000 := h1
  have key : ∀ z ∈ backI x, 0 ≤ z ∧ z < (y.length : Int) := fun z hz => by
    have := (isPerm_iff.1 hb).2 z hz
    simp at this; omega
  refine ⟨⟨h1, h2⟩, ⟨by show _ ≤ (1000000000 : Int); simp; omega, key⟩, by show _ ≤ (1000000000 : Int); simp; omega, fun z hz => ?_⟩
  obtain ⟨w, hw, rfl⟩ := List.mem_map.1 hz
  have := isPerm_el h4 (key w hw)
  omega
theorem p_impl_conjugate (y x : List Int) (hp : cjD x y) : wp_impl_conjugate y x (fun y0 => y0 = conjI x y) := ⟨(cj_pre hp).1, (cj_pre hp).2.1, (cj_pre hp).2.2, rfl⟩
theorem p_spec_l04Conjugate (x y : List Int) (hp : cjD x y) : wp_spec_l04Conjugate x y (fun y0 => y0 = conjI x y) := ⟨(cj_pre hp).1, (cj_pre hp).2.1, (cj_pre hp).2.2, rfl⟩
theorem idxL_self {list : List (List Int)} {i : Int} (hi : 0 ≤ i ∧ i < (list.length : Int)) : idxL list (el list i) = i ↔ ∀ j, 0 ≤ j → j < i → el list j ≠ el list i := by
  constructor
  · intro h j j0 j1 e
    have hex : ∃ m : Nat, (m : Int) ≤ j ∧ el list (m : Int) = el list i ∧ ∀ k : Nat, k < m → el list (k : Int) ≠ el list i := by
      have key : ∀ n : Nat, (∃ m : Nat, m ≤ n ∧ el list (m : Int) = el list i) → ∃ m : Nat, m ≤ n ∧ el list (m : Int) = el list i ∧ ∀ k : Nat, k < m → el list (k : Int) ≠ el list i := by
        intro n
        induction n with
        | zero => intro ⟨m, hm, e⟩; exact ⟨m, hm, e, fun k hk => by omega⟩
        | succ n ih =>
          intro ⟨m, hm, e⟩
          by_cases hc : ∃ m : Nat, m ≤ n ∧ el list (m : Int) = el list i
          · obtain ⟨m', a, b, c⟩ := ih hc
            exact ⟨m', by omega, b, c⟩
          · exact ⟨m, hm, e, fun k hk e2 => hc ⟨k, by omega, e2⟩⟩
      obtain ⟨m, a, b, c⟩ := key j.toNat ⟨j.toNat, Nat.le_refl _, by rw [show ((j.toNat : Nat) : Int) = j by omega]; exact e⟩
      exact ⟨m, by omega, b, c⟩
    obtain ⟨m, a, b, c⟩ := hex
    have := idxF_found (t := list) (f := fun own => decide (own = el list i)) (i := (m : Int)) ⟨by omega, by omega⟩ (fun k k0 k1 => by
      have := c k.toNat (by omega)
      rw [show ((k.toNat : Nat) : Int) = k by omega] at this
      exact decide_eq_false this) (decide_eq_true b)
    unfold idxL at h
    omega
  · intro h
    exact idxF_found hi (fun j j0 j1 => decide_eq_false (h j j0 j1)) (decide_eq_true rfl)
theorem p_spec_l04List (list : List (List Int)) (hp : small2 list) : wp_spec_l04List list (fun y0 => y0 = dec (GoodL list)) := by
  unfold wp_spec_l04List
  have hs := hp.1
  refine ⟨fun i => 0 ≤ i ∧ i ≤ (list.length : Int) ∧ Upto i fun i => permB (el list i) = true ∧ ((el list i).length : Int) = ((el list 0).length : Int) ∧ ∀ j, 0 ≤ j → j < i → el list j ≠ el list i, fun i => ((list.length : Int) - i).toNat, ⟨by omega, by omega, upto0⟩, ?_⟩
  rintro i ⟨i0, i1, iI⟩
  dsimp only
  refine ⟨fun ilt => ⟨⟨i0, ilt⟩, hp.2 _ (el_mem ⟨i0, ilt⟩), fun h1 => ?_, fun h1 => ⟨⟨i0, ilt⟩, ⟨by omega, by omega⟩, fun h2 => ?_, fun h2 => ⟨⟨i0, ilt⟩, ⟨hp, hp.2 _ (el_mem ⟨i0, ilt⟩)⟩, fun h3 => ?_, fun h3 => ⟨⟨by omega, by omega⟩, ⟨by omega, by omega, upto1 iI ⟨h1, h2, (idxL_self ⟨i0, ilt⟩).1 h3⟩⟩, by omega⟩⟩⟩⟩, fun ige => ?_⟩
  · exact (dec_f fun hG => by rw [(hG.2 i i0 ilt).1] at h1; cases h1).symm
  · exact (dec_f fun hG => h2 (hG.2 i i0 ilt).2.1).symm
  · exact (dec_f fun hG => h3 ((idxL_self ⟨i0, ilt⟩).2 (hG.2 i i0 ilt).2.2)).symm
  · rw [Bool.eq_iff_iff, decide_eq_true_eq, dec_iff]
    exact ⟨fun h => ⟨by omega, fun j a b => iI j a (by omega)⟩, fun h => by have := h.1; omega⟩
theorem good_cj {list : List (List Int)} (h : GoodL list) {x y : Int} (hx : 0 ≤ x ∧ x < (list.length : Int)) (hy : 0 ≤ y ∧ y < (list.length : Int)) : cjD (el list x) (el list y) := by
  obtain ⟨a1, a2, _⟩ := h.2 x hx.1 hx.2
  obtain ⟨b1, b2, _⟩ := h.2 y hy.1 hy.2
  have := permB_len a1
  exact ⟨by show _ ≤ (1000000000 : Int); omega, permB_isPerm a1, by omega, permB_isPerm b1⟩
theorem small_cj {x y : List Int} (h : small x) : small (conjI x y) := by
  have : (x.length : Int) ≤ 1000000000 := h
  show _ ≤ (1000000000 : Int); simp [conjI]; omega
theorem good_small2 {list : List (List Int)} (h : GoodL list) (h2 : (list.length : Int) ≤ 12) : small2 list := ⟨by show _ ≤ (1000000000 : Int); omega, fun r hr => by
  obtain ⟨i, hi, rfl⟩ := mem_el hr
  have := permB_len (h.2 i hi.1 hi.2).1
  show _ ≤ (1000000000 : Int); omega⟩
theorem idxL_in {lists : List (List Int)} {list : List Int} : -1 ≤ idxL lists list ∧ idxL lists list < (lists.length : Int) ∨ idxL lists list = -1 := by
  unfold idxL idxF
  split
  · rename_i h
    have : lists.findIdx (fun own => decide (own = list)) < lists.length := List.findIdx_lt_length_of_exists (by simpa using h)
    left; omega
  · right; rfl
theorem p_spec_l04Conjugation (list : List (List Int)) (hp : GoodL list ∧ (list.length : Int) ≤ 12) : wp_spec_l04Conjugation list (fun y0 => y0 = cjT list) := by
  unfold wp_spec_l04Conjugation
  obtain ⟨hG, hl⟩ := hp
  have hs2 := good_small2 hG hl
  refine ⟨fun i o => 0 ≤ i ∧ i ≤ (list.length : Int) ∧ o.length = i.toNat ∧ Upto i fun x => el o x = ran (list.length : Int) (cjV list x), fun i _ => ((list.length : Int) - i).toNat, ⟨by omega, by omega, by simp, upto0⟩, ?_⟩
  rintro x o ⟨i0, i1, il, iI⟩
  dsimp only
  refine ⟨fun ilt => ?_, fun ige => eq_ran (by omega) fun j a b => iI j a (by omega)⟩
  refine ⟨fun y q => 0 ≤ y ∧ y ≤ (list.length : Int) ∧ q.length = y.toNat ∧ Upto y fun y => el q y = cjV list x y, fun y _ => ((list.length : Int) - y).toNat, ⟨by omega, by omega, by simp, upto0⟩, ?_⟩
  rintro y q ⟨j0, j1, jl, jI⟩
  dsimp only
  refine ⟨fun jlt => ?_, fun jge => ?_⟩
  · have hc := good_cj hG (x := x) (y := y) ⟨i0, ilt⟩ ⟨j0, jlt⟩
    exact ⟨⟨i0, ilt⟩, ⟨j0, jlt⟩, hc, ⟨hs2, small_cj hc.1⟩, by simp; omega, ⟨by omega, by omega⟩, ⟨by omega, by omega, by simp; omega, app1 (f := cjV list x) (by omega) jI rfl⟩, by omega⟩
  · have hq : q = ran (list.length : Int) (cjV list x) := eq_ran (by omega) fun k u v => jI k u (by omega)
    exact ⟨by simp; omega, ⟨by omega, by omega⟩, ⟨by omega, by omega, by simp; omega, app1 (f := fun x => ran (list.length : Int) (cjV list x)) (by omega) iI hq⟩, by omega⟩
theorem p_impl_ConjugationQuandle_1 (x y : Int) (list : List (List Int)) (hp : GoodL list ∧ (list.length : Int) ≤ 12 ∧ 0 ≤ x ∧ x < (list.length : Int) ∧ 0 ≤ y ∧ y < (list.length : Int)) : wp_impl_ConjugationQuandle_1 x y list (fun y0 => y0 = cjV list x y) := by
  obtain ⟨hG, hl, x0, x1, y0, y1⟩ := hp
  have hc := good_cj hG (x := x) (y := y) ⟨x0, x1⟩ ⟨y0, y1⟩
  exact ⟨⟨y0, y1⟩, ⟨x0, x1⟩, hc, ⟨good_small2 hG hl, small_cj hc.1⟩, rfl⟩
theorem cjq1 {l : List (List Int)} (h : dec (GoodL l) = false) : [] = CjqT l ∧ 1 = CjqE l := by
  have e : CjqE l = 1 := by unfold CjqE; rw [h]; rfl
  exact ⟨by unfold CjqT; rw [e]; rfl, e.symm⟩
theorem cjq3 {l : List (List Int)} (h : dec (GoodL l) = true) (h2 : (12 : Int) < (l.length : Int)) : [] = CjqT l ∧ 3 = CjqE l := by
  have e : CjqE l = 3 := by unfold CjqE; rw [h, if_pos h2]; rfl
  exact ⟨by unfold CjqT; rw [e]; rfl, e.symm⟩
theorem cjq5 {l : List (List Int)} (h : dec (GoodL l) = true) (h2 : ¬ (12 : Int) < (l.length : Int)) (h3 : isTab (cjT l) = false) : [] = CjqT l ∧ 5 = CjqE l := by
  have e : CjqE l = 5 := by unfold CjqE; rw [h, if_neg h2, h3]; rfl
  exact ⟨by unfold CjqT; rw [e]; rfl, e.symm⟩
theorem cjq0 {l : List (List Int)} (h : dec (GoodL l) = true) (h2 : ¬ (12 : Int) < (l.length : Int)) (h3 : isTab (cjT l) = true) : cjT l = CjqT l ∧ 0 = CjqE l := by
  have e : CjqE l = 0 := by unfold CjqE; rw [h, if_neg h2, h3]; rfl
  exact ⟨by unfold CjqT; rw [e]; rfl, e.symm⟩
theorem p_spec_ConjugationQuandle (list : List (List Int)) (hp : small2 list) : wp_spec_ConjugationQuandle list (fun y0 y1 => y0 = CjqT list ∧ y1 = CjqE list) := by
  unfold wp_spec_ConjugationQuandle
  exact ⟨hp, fun h => cjq1 h, fun h => ⟨fun h2 => cjq3 h h2, fun h2 => ⟨⟨dec_iff.1 h, by omega⟩, small2_tab' (by omega), fun h3 => cjq5 h h2 h3, fun h3 => cjq0 h h2 h3⟩⟩⟩
theorem p_impl_ConjugationQuandle (list : List (List Int)) (hp : small2 list) : wp_impl_ConjugationQuandle list (fun y0 y1 => y0 = CjqT list ∧ y1 = CjqE list) := by
  unfold wp_impl_ConjugationQuandle
  have hs := hp.1
  refine ⟨fun h => cjq1 (dec_f fun hG => by have := hG.1; omega), fun h => ?_⟩
  refine ⟨fun i => 0 ≤ i ∧ i ≤ (list.length : Int) ∧ Upto i fun i => permB (el list i) = true ∧ ((el list i).length : Int) = ((el list 0).length : Int) ∧ ∀ j, 0 ≤ j → j < i → el list j ≠ el list i, fun i => ((list.length : Int) - i).toNat, ⟨by omega, by omega, upto0⟩, ?_⟩
  rintro i ⟨i0, i1, iI⟩
  dsimp only
  refine ⟨fun ilt => ⟨⟨i0, ilt⟩, hp.2 _ (el_mem ⟨i0, ilt⟩), fun h1 => ?_, fun h1 => ⟨⟨by omega, by omega⟩, fun h2 => ?_, fun h2 => ⟨⟨by omega, by omega, by omega⟩, ⟨⟨?_, ?_⟩, hp.2 _ (el_mem ⟨i0, ilt⟩)⟩, fun h3 => ?_, fun h3 => ⟨⟨by omega, by omega⟩, ⟨by omega, by omega, upto1 iI ⟨h1, h2, ?_⟩⟩, by omega⟩⟩⟩⟩, fun ige => ?_⟩
  · exact cjq1 (dec_f fun hG => by rw [(hG.2 i i0 ilt).1] at h1; cases h1)
  · exact cjq1 (dec_f fun hG => h2 (hG.2 i i0 ilt).2.1)
  · have := length_sl (l := list) (a := 0) (b := i) ⟨by omega, by omega, by omega⟩
    show _ ≤ (1000000000 : Int); omega
  · exact fun r hr => hp.2 r (List.mem_of_mem_take (List.mem_of_mem_drop hr))
  · have hsl := length_sl (l := list) (a := 0) (b := i) ⟨by omega, by omega, by omega⟩
    have h4 : (sl list 0 i).any (fun own => decide (own = el list i)) = true := by rw [← idxF_nonneg]; exact decide_eq_true h3
    obtain ⟨j, hj, e⟩ := any_el.1 h4
    rw [el_sl (by omega) hj.1 (by omega), Int.zero_add, decide_eq_true_eq] at e
    exact cjq1 (dec_f fun hG => (hG.2 i i0 ilt).2.2 j hj.1 (by omega) e)
  · intro j j0 j1 e
    have hsl := length_sl (l := list) (a := 0) (b := i) ⟨by omega, by omega, by omega⟩
    have h4 : decide (0 ≤ idxL (sl list 0 i) (el list i)) = true := by
      unfold idxL
      rw [idxF_nonneg]
      exact any_t (i := j) ⟨j0, by omega⟩ (by rw [el_sl (by omega) j0 (by omega), Int.zero_add]; exact decide_eq_true e)
    exact h3 (of_decide_eq_true h4)
  · have hG : GoodL list := ⟨by omega, fun j a b => iI j a (by omega)⟩
    have hd := dec_t hG
    refine ⟨fun h2 => cjq3 hd h2, fun h2 => ⟨⟨by omega, by omega, fun x y x0 x1 y0 y1 => ⟨⟨hG, by omega, x0, x1, y0, y1⟩, ?_⟩⟩, small2_tab' (by omega), fun h3 => cjq5 hd h2 h3, fun h3 => cjq0 hd h2 h3⟩⟩
    rcases idxL_in (lists := list) (list := conjI (el list x) (el list y)) with h5 | h5
    · constructor <;> (try dsimp only) <;> (unfold cjV; omega)
    · constructor <;> (try dsimp only) <;> (unfold cjV; omega)
theorem cyc_permB {c : List (List Int)} (h : isCyc c = true) {i : Int} (hi : 0 ≤ i ∧ i < (c.length : Int)) : permB (el c i) = true := by
  have := isTab_perm (isCyc_tab h)
  rw [isCyc_perm h] at this
  exact all_el.1 this i hi.1 hi.2
theorem res1 {r : List (List Int)} {l : List Int} (h : isRk r = false) : [] = ResT r l ∧ 1 = ResE r l := by
  have e : ResE r l = 1 := by unfold ResE; rw [h]; rfl
  exact ⟨by unfold ResT; rw [e]; rfl, e.symm⟩
theorem res2 {r : List (List Int)} {l : List Int} (h : isRk r = true) (h2 : ((l.all fun z_ => decide (0 ≤ z_) && decide (z_ ≤ (r.length : Int) - 1)) && incB l) = false) : [] = ResT r l ∧ 2 = ResE r l := by
  have e : ResE r l = 2 := by unfold ResE; rw [h, h2]; rfl
  exact ⟨by unfold ResT; rw [e]; rfl, e.symm⟩
theorem res5 {r : List (List Int)} {l : List Int} (h : isRk r = true) (h2 : ((l.all fun z_ => decide (0 ≤ z_) && decide (z_ ≤ (r.length : Int) - 1)) && incB l) = true) (h3 : (decide (1 ≤ (l.length : Int)) && dec (SubP r l)) = false) : [] = ResT r l ∧ 5 = ResE r l := by
  have e : ResE r l = 5 := by unfold ResE; rw [h, h2, h3]; rfl
  exact ⟨by unfold ResT; rw [e]; rfl, e.symm⟩
theorem res0 {r : List (List Int)} {l : List Int} (h : isRk r = true) (h2 : ((l.all fun z_ => decide (0 ≤ z_) && decide (z_ ≤ (r.length : Int) - 1)) && incB l) = true) (h3 : (decide (1 ≤ (l.length : Int)) && dec (SubP r l)) = true) : tab (l.length : Int) (resV r l) = ResT r l ∧ 0 = ResE r l := by
  have e : ResE r l = 0 := by unfold ResE; rw [h, h2, h3]; rfl
  exact ⟨by unfold ResT; rw [e]; rfl, e.symm⟩
theorem res_el {r : List (List Int)} {l : List Int} (h : (l.all fun z_ => decide (0 ≤ z_) && decide (z_ ≤ (r.length : Int) - 1)) = true) : ∀ x ∈ l, 0 ≤ x ∧ x < (r.length : Int) := fun x hx => by
  have := List.all_eq_true.1 h x hx
  simp only [Bool.and_eq_true, decide_eq_true_eq] at this
  omega
theorem inc_nodup {l : List Int} (h : incB l = true) : l.Nodup := nodup_el.2 fun i j i0 ij jl e => by
  have := inc_lt (incB_iff.1 h) (j - i).toNat i i0 (by omega)
  rw [show i + (((j - i).toNat : Nat) : Int) = j by omega] at this
  omega
theorem res_len {r : List (List Int)} {l : List Int} (hr : isTab r = true) (h1 : ∀ x ∈ l, 0 ≤ x ∧ x < (r.length : Int)) (h2 : incB l = true) : (l.length : Int) ≤ 12 := by
  have := nodup_len_ran (n := (r.length : Int)) (by omega) (inc_nodup h2) h1
  have := isTab_len hr
  omega
theorem idxI_neg {l : List Int} {x : Int} (h : ¬ x ∈ l) : idxI l x = -1 := by
  have : decide (0 ≤ idxI l x) = false := by rw [idxI_has, Bool.eq_false_iff]; exact fun h2 => h (List.contains_iff_mem.1 h2)
  have h2 := of_decide_eq_false this
  unfold idxI idxF at h2 ⊢
  split at h2
  · omega
  · rename_i h3; rw [if_neg h3]
theorem res_tab {r : List (List Int)} {l : List Int} (hr : isTab r = true) (h1 : ∀ x ∈ l, 0 ≤ x ∧ x < (r.length : Int)) (h2 : incB l = true) : isTab (tab (l.length : Int) (resV r l)) = (decide (1 ≤ (l.length : Int)) && dec (SubP r l)) := by
  have h12 := res_len hr h1 h2
  by_cases h0 : 1 ≤ (l.length : Int)
  · rw [decide_eq_true h0, Bool.true_and, Bool.eq_iff_iff, isTab_tab_iff ⟨h0, h12⟩, dec_iff]
    constructor
    · intro h x hx y hy
      obtain ⟨i, hi, rfl⟩ := mem_el hx
      obtain ⟨j, hj, rfl⟩ := mem_el hy
      have := (h i j hi.1 hi.2 hj.1 hj.2).1
      apply Classical.byContradiction
      intro hn
      have e := idxI_neg hn
      unfold resV at this
      omega
    · intro h x y x0 x1 y0 y1
      exact (idxI_spec (h _ (el_mem ⟨x0, x1⟩) _ (el_mem ⟨y0, y1⟩))).1
  · rw [decide_eq_false h0, Bool.false_and]
    have : (l.length : Int) = 0 := by omega
    rw [this]; rfl
theorem quo1 {r : List (List Int)} {c : List Int} (h : (isRk r && partB (r.length : Int) c) = false) : [] = QuoT r c ∧ 1 = QuoE r c := by
  have e : QuoE r c = 1 := by unfold QuoE; rw [h]; rfl
  exact ⟨by unfold QuoT; rw [e]; rfl, e.symm⟩
theorem quo5 {r : List (List Int)} {c : List Int} (h : (isRk r && partB (r.length : Int) c) = true) (h2 : dec (CongP r c) = false) : [] = QuoT r c ∧ 5 = QuoE r c := by
  have e : QuoE r c = 5 := by unfold QuoE; rw [h, h2]; rfl
  exact ⟨by unfold QuoT; rw [e]; rfl, e.symm⟩
theorem quo0 {r : List (List Int)} {c : List Int} (h : (isRk r && partB (r.length : Int) c) = true) (h2 : dec (CongP r c) = true) : quoT r c = QuoT r c ∧ 0 = QuoE r c := by
  have e : QuoE r c = 0 := by unfold QuoE; rw [h, h2]; rfl
  exact ⟨by unfold QuoT; rw [e]; rfl, e.symm⟩
set_option maxRecDepth 100000 in
set_option maxHeartbeats 1000000 in
theorem w_spec_l04Find (lists : List (List Int)) (list : List Int) (Q : Int → Prop) (h : wp_spec_l04Find lists list Q) : AF Try.prog 109 [.lst (rows lists), .lst (ints list)] (fun R_ => ∃ y0, Q y0 ∧ R_ = ci y0) := by
  refine AF.ofWQ (af_enter (n := 19) Try.func109 rfl (by rfl) rfl (Nat.le_of_ble_eq_true rfl) ?_)
  unfold wp_spec_l04Find at h
  refine aw_seq ?_
  refine aw_gh (gh_to (n := 19) (σ' := []) (env' := [(0, .c (.lst (rows lists))), (1, .c (.lst (ints list)))]) rfl rfl ⟨rfl, rfl, trivial⟩) ?_
  refine aw_region ?_
  refine run_s (ss_assign rfl) rfl ?_
  refine run_nil ?_
  refine aw_seq ?_
  refine aw_seq ?_
  refine aw_region ?_
  refine run_s (ss_assign rfl) rfl ?_
  refine run_nil ?_
  refine aw_block ?_
  obtain ⟨H1, m1, q1, h⟩ := h
  refine aw_loop1 (fun (v5_1 : Int) => ⟨[], [(0, .c (.lst (rows lists))), (1, .c (.lst (ints list))), (5, .c (ci v5_1))], 19⟩) H1 m1 ⟨0, ghe_to (n := 19) rfl rfl ⟨rfl, rfl, rfl, trivial⟩, q1⟩ ?_
  rintro v5_1 q1
  replace h := h v5_1 q1
  refine aw_seq ?_
  refine aw_seq ?_
  refine aw_region ?_
  refine run_s (ss_move rfl) rfl ?_
  refine run_s (ss_move rfl) rfl ?_
  refine run_s (ss_lenL (f := (fun r => C.lst (ints r))) rfl) rfl ?_
  refine run_s (ss_lss rfl rfl) rfl ?_
  refine run_nil ?_
  refine aw_cond rfl (fun q2 => ?_) (fun q2 => ?_)
  · replace h := h.1 (of_decide_eq_true q2)
    refine aw_skip ?_
    refine aw_seq ?_
    refine aw_block ?_
    refine aw_seq ?_
    refine aw_region ?_
    refine run_s (ss_move rfl) rfl ?_
    refine run_s (ss_move rfl) rfl ?_
    obtain ⟨q3, h⟩ := h
    refine run_s (ss_idxL rfl rfl q3) rfl ?_
    refine run_s (ss_loadL (f := (fun r => C.lst (ints r))) rfl q3) rfl ?_
    refine run_s (ss_move rfl) rfl ?_
    obtain ⟨q4, h⟩ := h
    refine run_w (ws_call (xs := [.tmp 15, .tmp 16]) (ids := []) rfl rfl rfl rfl (c_spec_l01Same (el lists v5_1) list q4) rfl ?_ )
    rintro _ rfl
    refine ⟨rfl, ?_⟩
    refine run_nil ?_
    refine aw_cond rfl (fun q6 => ?_) (fun q6 => ?_)
    · replace h := h.1 (of_decide_eq_true q6)
      refine aw_seq ?_
      refine aw_gh (gh_to (n := 19) (σ' := []) (env' := [(5, .c (ci v5_1))]) rfl rfl ⟨rfl, trivial⟩) ?_
      refine aw_region ?_
      refine run_s (ss_move rfl) rfl ?_
      refine run_s (ss_assign rfl) rfl ?_
      refine run_nil ?_
      refine aw_ret ?_
      exact retAF_mk (retv1 rfl (rv_tmp rfl)) rfl rfl ⟨_, (cle_refl _), _, h, rfl⟩
    · replace h := h.2 (of_decide_eq_false q6)
      refine aw_skip ?_
      refine aw_gh (gh_to (n := 19) (σ' := []) (env' := [(0, .c (.lst (rows lists))), (1, .c (.lst (ints list))), (5, .c (ci v5_1))]) rfl rfl ⟨rfl, rfl, rfl, trivial⟩) ?_
      refine aw_region ?_
      refine run_s (ss_move rfl) rfl ?_
      obtain ⟨q7, h⟩ := h
      refine run_s (ss_add rfl rfl q7) rfl ?_
      refine run_s (ss_assign rfl) rfl ?_
      refine run_nil ?_
      exact ⟨v5_1 + 1, ghe_to (n := 19) rfl rfl ⟨rfl, rfl, rfl, trivial⟩, h.1, h.2⟩
  · replace h := h.2 (of_decide_eq_false q2)
    refine aw_exit ?_
    refine aw_seq ?_
    refine aw_gh (gh_to (n := 19) (σ' := []) (env' := []) rfl rfl trivial) ?_
    refine aw_region ?_
    refine run_s (ss_assign rfl) rfl ?_
    refine run_nil ?_
    refine aw_ret ?_
    exact retAF_mk (retv1 rfl (rv_tmp rfl)) rfl rfl ⟨_, (cle_refl _), _, h, rfl⟩

theorem c_spec_l04Find (lists : List (List Int)) (list : List Int) (hp : small2 lists ∧ small list) : AF Try.prog 109 [.lst (rows lists), .lst (ints list)] (fun R_ => R_ = ci (idxL lists list)) :=
  (w_spec_l04Find lists list (fun y0 => y0 = idxL lists list) (p_spec_l04Find lists list hp)).mono (by rintro r ⟨_, rfl, rfl⟩; rfl)

set_option maxRecDepth 100000 in
set_option maxHeartbeats 1000000 in
theorem w_impl_listIndex_1 (own : List Int) (list : List Int) (Q : Bool → Prop) (h : wp_impl_listIndex_1 own list Q) : AF Try.prog 115 [.lst (ints own), .ptr [.lst (ints list)]] (fun R_ => ∃ y0, Q y0 ∧ R_ = cb y0) := by
  refine AF.ofWQ (af_enter (n := 7) Try.func115 rfl (by rfl) rfl (Nat.le_of_ble_eq_true rfl) ?_)
  unfold wp_impl_listIndex_1 at h
  refine aw_seq ?_
  refine aw_gh (gh_to (n := 7) (σ' := []) (env' := [(0, .c (.lst (ints own))), (1, .c (.ptr [.lst (ints list)]))]) rfl rfl ⟨rfl, rfl, trivial⟩) ?_
  refine aw_region ?_
  refine run_s (ss_assign rfl) rfl ?_
  refine run_nil ?_
  refine aw_seq ?_
  refine aw_region ?_
  refine run_s (ss_move rfl) rfl ?_
  refine run_s (ss_load_ptr rfl rfl) rfl ?_
  obtain ⟨q1, h⟩ := h
  refine run_w (ws_call (xs := [.tmp 4, .tmp 5]) (ids := []) rfl rfl rfl rfl (c_k_Equal own list q1) rfl ?_ )
  rintro _ rfl
  refine ⟨rfl, ?_⟩
  refine run_s (ss_assign rfl) rfl ?_
  refine run_nil ?_
  refine aw_ret ?_
  exact retAF_mk (retv1 rfl (rv_tmp rfl)) rfl rfl ⟨_, (cle_refl _), _, h, rfl⟩

theorem c_impl_listIndex_1 (own : List Int) (list : List Int) (hp : small own ∧ small list) : AF Try.prog 115 [.lst (ints own), .ptr [.lst (ints list)]] (fun R_ => R_ = cb (decide (own = list))) :=
  (w_impl_listIndex_1 own list (fun y0 => y0 = decide (own = list)) (p_impl_listIndex_1 own list hp)).mono (by rintro r ⟨_, rfl, rfl⟩; rfl)

set_option maxRecDepth 100000 in
set_option maxHeartbeats 1000000 in
theorem w_impl_listIndex (lists : List (List Int)) (list : List Int) (Q : Int → Prop) (h : wp_impl_listIndex lists list Q) : AF Try.prog 65 [.lst (rows lists), .lst (ints list)] (fun R_ => ∃ y0, Q y0 ∧ R_ = ci y0) := by
  refine AF.ofWQ (af_enter (n := 8) Try.func65 rfl (by rfl) rfl (Nat.le_of_ble_eq_true rfl) ?_)
  unfold wp_impl_listIndex at h
  refine aw_seq ?_
  refine aw_gh (gh_to (n := 8) (σ' := []) (env' := [(0, .c (.lst (rows lists))), (1, .c (.lst (ints list)))]) rfl rfl ⟨rfl, rfl, trivial⟩) ?_
  refine aw_region ?_
  refine run_w (ws_boxR rfl (.inr rfl) rfl ⟨rfl, ?_⟩)
  refine run_s (ss_assign rfl) rfl ?_
  refine run_nil ?_
  refine aw_seq ?_
  refine aw_region ?_
  refine run_s (ss_move rfl) rfl ?_
  refine run_s (ss_makeFunc (os := [.tmp 3]) rfl) rfl ?_
  obtain ⟨q1, h⟩ := h
  refine run_w (ws_call (xs := [.tmp 5, .tmp 6]) (ids := []) rfl rfl rfl rfl (c_k_IndexFunc_rows lists 115 [.ptr [.lst (ints list)]] (fun z0 => decide (z0 = list)) (fun z0 => small z0 ∧ small list) (fun z0 hD => c_impl_listIndex_1 z0 list hD) q1) rfl ?_ )
  rintro _ rfl
  refine ⟨rfl, ?_⟩
  refine run_s (ss_assign rfl) rfl ?_
  refine run_nil ?_
  refine aw_ret ?_
  exact retAF_mk (retv1 rfl (rv_tmp rfl)) rfl rfl ⟨_, (cle_refl _), _, h, rfl⟩

theorem c_impl_listIndex (lists : List (List Int)) (list : List Int) (hp : small2 lists ∧ small list) : AF Try.prog 65 [.lst (rows lists), .lst (ints list)] (fun R_ => R_ = ci (idxL lists list)) :=
  (w_impl_listIndex lists list (fun y0 => y0 = idxL lists list) (p_impl_listIndex lists list hp)).mono (by rintro r ⟨_, rfl, rfl⟩; rfl)

set_option maxRecDepth 100000 in
set_option maxHeartbeats 1000000 in
theorem w_impl_conjugate (y : List Int) (x : List Int) (Q : List Int → Prop) (h : wp_impl_conjugate y x Q) : AF Try.prog 68 [.lst (ints y), .lst (ints x)] (fun R_ => ∃ y0, Q y0 ∧ R_ = .own (ints y0)) := by
  refine AF.ofWQ (af_enter (n := 11) Try.func68 rfl (by rfl) rfl (Nat.le_of_ble_eq_true rfl) ?_)
  unfold wp_impl_conjugate at h
  refine aw_seq ?_
  refine aw_gh (gh_to (n := 11) (σ' := []) (env' := [(0, .c (.lst (ints y))), (1, .c (.lst (ints x)))]) rfl rfl ⟨rfl, rfl, trivial⟩) ?_
  refine aw_region ?_
  refine run_s (ss_assign rfl) rfl ?_
  refine run_nil ?_
  refine aw_seq ?_
  refine aw_region ?_
  refine run_s (ss_move rfl) rfl ?_
  obtain ⟨q1, h⟩ := h
  refine run_w (ws_call (xs := [.tmp 5]) (ids := [6]) rfl rfl rfl rfl (c_impl_inverse x q1) rfl ?_ )
  rintro _ rfl
  refine ⟨rfl, ?_⟩
  refine run_s (ss_move rfl) rfl ?_
  obtain ⟨q3, h⟩ := h
  refine run_w (ws_callR (xs := [.tmp 6, .tmp 7]) (cs := [.own (ints (backI x)), .lst (ints y)]) (ids := [8]) rfl (.inr ⟨rfl, rfl⟩) rfl rfl (fz_cons (fz_own (fz_map (fun _ => rfl) _)) (fz_cons rfl fz_nil)) (c_impl_then (backI x) y q3) rfl ?_ )
  rintro _ rfl
  refine ⟨(slf_own (slfL_map (f := ci) (fun _ => rfl) _)), rfl, ?_⟩
  refine run_s (ss_move rfl) rfl ?_
  obtain ⟨q5, h⟩ := h
  refine run_w (ws_callR (xs := [.tmp 8, .tmp 9]) (cs := [.own (ints ((backI x).map (el y))), .lst (ints x)]) (ids := [10]) rfl (.inr ⟨rfl, rfl⟩) rfl rfl (fz_cons (fz_own (fz_map (fun _ => rfl) _)) (fz_cons rfl fz_nil)) (c_impl_then ((backI x).map (el y)) x q5) rfl ?_ )
  rintro _ rfl
  refine ⟨(slf_own (slfL_map (f := ci) (fun _ => rfl) _)), rfl, ?_⟩
  refine run_s (ss_assign rfl) rfl ?_
  refine run_nil ?_
  refine aw_ret ?_
  exact retAF_mk (retv1 rfl (rv_tmp rfl)) rfl rfl ⟨_, (cle_refl _), _, h, rfl⟩

theorem c_impl_conjugate (y : List Int) (x : List Int) (hp : cjD x y) : AF Try.prog 68 [.lst (ints y), .lst (ints x)] (fun R_ => R_ = .own (ints (conjI x y))) :=
  (w_impl_conjugate y x (fun y0 => y0 = conjI x y) (p_impl_conjugate y x hp)).mono (by rintro r ⟨_, rfl, rfl⟩; rfl)

set_option maxRecDepth 100000 in
set_option maxHeartbeats 1000000 in
theorem w_spec_l04Conjugate (x : List Int) (y : List Int) (Q : List Int → Prop) (h : wp_spec_l04Conjugate x y Q) : AF Try.prog 110 [.lst (ints x), .lst (ints y)] (fun R_ => ∃ y0, Q y0 ∧ R_ = .own (ints y0)) := by
  refine AF.ofWQ (af_enter (n := 11) Try.func110 rfl (by rfl) rfl (Nat.le_of_ble_eq_true rfl) ?_)
  unfold wp_spec_l04Conjugate at h
  refine aw_seq ?_
  refine aw_gh (gh_to (n := 11) (σ' := []) (env' := [(0, .c (.lst (ints x))), (1, .c (.lst (ints y)))]) rfl rfl ⟨rfl, rfl, trivial⟩) ?_
  refine aw_region ?_
  refine run_s (ss_assign rfl) rfl ?_
  refine run_nil ?_
  refine aw_seq ?_
  refine aw_region ?_
  refine run_s (ss_move rfl) rfl ?_
  obtain ⟨q1, h⟩ := h
  refine run_w (ws_call (xs := [.tmp 5]) (ids := [6]) rfl rfl rfl rfl (c_spec_l01Back x q1) rfl ?_ )
  rintro _ rfl
  refine ⟨rfl, ?_⟩
  refine run_s (ss_move rfl) rfl ?_
  obtain ⟨q3, h⟩ := h
  refine run_w (ws_callR (xs := [.tmp 6, .tmp 7]) (cs := [.own (ints (backI x)), .lst (ints y)]) (ids := [8]) rfl (.inr ⟨rfl, rfl⟩) rfl rfl (fz_cons (fz_own (fz_map (fun _ => rfl) _)) (fz_cons rfl fz_nil)) (c_spec_l01Then (backI x) y q3) rfl ?_ )
  rintro _ rfl
  refine ⟨(slf_own (slfL_map (f := ci) (fun _ => rfl) _)), rfl, ?_⟩
  refine run_s (ss_move rfl) rfl ?_
  obtain ⟨q5, h⟩ := h
  refine run_w (ws_callR (xs := [.tmp 8, .tmp 9]) (cs := [.own (ints ((backI x).map (el y))), .lst (ints x)]) (ids := [10]) rfl (.inr ⟨rfl, rfl⟩) rfl rfl (fz_cons (fz_own (fz_map (fun _ => rfl) _)) (fz_cons rfl fz_nil)) (c_spec_l01Then ((backI x).map (el y)) x q5) rfl ?_ )
  rintro _ rfl
  refine ⟨(slf_own (slfL_map (f := ci) (fun _ => rfl) _)), rfl, ?_⟩
  refine run_s (ss_assign rfl) rfl ?_
  refine run_nil ?_
  refine aw_ret ?_
  exact retAF_mk (retv1 rfl (rv_tmp rfl)) rfl rfl ⟨_, (cle_refl _), _, h, rfl⟩

theorem c_spec_l04Conjugate (x : List Int) (y : List Int) (hp : cjD x y) : AF Try.prog 110 [.lst (ints x), .lst (ints y)] (fun R_ => R_ = .own (ints (conjI x y))) :=
  (w_spec_l04Conjugate x y (fun y0 => y0 = conjI x y) (p_spec_l04Conjugate x y hp)).mono (by rintro r ⟨_, rfl, rfl⟩; rfl)

set_option maxRecDepth 100000 in
set_option maxHeartbeats 1000000 in
theorem w_spec_l04List (list : List (List Int)) (Q : Bool → Prop) (h : wp_spec_l04List list Q) : AF Try.prog 61 [.lst (rows list)] (fun R_ => ∃ y0, Q y0 ∧ R_ = cb y0) := by
  refine AF.ofWQ (af_enter (n := 41) Try.func61 rfl (by rfl) rfl (Nat.le_of_ble_eq_true rfl) ?_)
  unfold wp_spec_l04List at h
  refine aw_seq ?_
  refine aw_gh (gh_to (n := 41) (σ' := []) (env' := [(0, .c (.lst (rows list)))]) rfl rfl ⟨rfl, trivial⟩) ?_
  refine aw_region ?_
  refine run_s (ss_assign rfl) rfl ?_
  refine run_nil ?_
  refine aw_seq ?_
  refine aw_seq ?_
  refine aw_region ?_
  refine run_s (ss_assign rfl) rfl ?_
  refine run_nil ?_
  refine aw_block ?_
  obtain ⟨H1, m1, q1, h⟩ := h
  refine aw_loop1 (fun (v3_1 : Int) => ⟨[], [(0, .c (.lst (rows list))), (3, .c (ci v3_1))], 41⟩) H1 m1 ⟨0, ghe_to (n := 41) rfl rfl ⟨rfl, rfl, trivial⟩, q1⟩ ?_
  rintro v3_1 q1
  replace h := h v3_1 q1
  refine aw_seq ?_
  refine aw_seq ?_
  refine aw_region ?_
  refine run_s (ss_move rfl) rfl ?_
  refine run_s (ss_move rfl) rfl ?_
  refine run_s (ss_lenL (f := (fun r => C.lst (ints r))) rfl) rfl ?_
  refine run_s (ss_lss rfl rfl) rfl ?_
  refine run_nil ?_
  refine aw_cond rfl (fun q2 => ?_) (fun q2 => ?_)
  · replace h := h.1 (of_decide_eq_true q2)
    refine aw_skip ?_
    refine aw_seq ?_
    refine aw_block ?_
    refine aw_seq ?_
    refine aw_gh (gh_to (n := 41) (σ' := []) (env' := [(0, .c (.lst (rows list))), (3, .c (ci v3_1))]) rfl rfl ⟨rfl, rfl, trivial⟩) ?_
    refine aw_regionD (kd := kdl [0, 0, 0, 1, 2, 0, 0, 0, 0, 0, 1, 0, 0, 0, 1, 0, 0, 0, 0, 0, 0, 0, 0, 1, 2, 0, 0, 0]) (ord := [0, 1, 2, 3, 4, 5, 6, 7, 8, 9, 12, 13, 10, 11, 14, 15, 16, 17, 18, 19, 20, 21, 22, 25, 23, 24, 26, 27]) [] mixed (by kernel_rfl) ?_
    refine rd_s rfl rfl trivial (ss_move rfl) rfl ?_
    refine rd_s rfl rfl trivial (ss_move rfl) rfl ?_
    obtain ⟨q3, h⟩ := h
    refine rd_s rfl rfl trivial (ss_idxL rfl rfl q3) rfl ?_
    refine rd_l rfl rfl trivial (ss_loadL (f := (fun r => C.lst (ints r))) rfl q3) rfl ?_
    obtain ⟨q4, h⟩ := h
    refine rd_w rfl rfl trivial rfl rfl (ws_call (xs := [.tmp 13]) (ids := []) rfl rfl rfl rfl (c_spec_l01Perm (el list v3_1) q4) rfl ?_ )
    rintro _ rfl
    refine ⟨rfl, ?_⟩
    refine rd_s rfl rfl trivial (ss_not rfl) rfl ?_
    refine rd_s rfl rfl trivial (ss_move rfl) rfl ?_
    refine rd_split (s := 16) rfl (fun q6 => ?_) (fun q6 => ?_)
    · replace h := h.1 ((bnot_t q6))
      refine rd_no rfl rfl rfl q6 rfl ?_
      refine rd_no rfl rfl rfl q6 rfl ?_
      refine rd_no rfl rfl rfl q6 rfl ?_
      refine rd_no rfl rfl rfl q6 rfl ?_
      refine rd_no rfl rfl rfl q6 rfl ?_
      refine rd_no rfl rfl rfl q6 rfl ?_
      refine rd_no rfl rfl rfl q6 rfl ?_
      refine rd_no rfl rfl rfl q6 rfl ?_
      refine rd_no rfl rfl rfl q6 rfl ?_
      refine rd_no rfl rfl rfl q6 rfl ?_
      refine rd_s rfl rfl trivial (ss_pickT rfl q6 rfl) rfl ?_
      refine rd_s rfl rfl trivial (ss_move rfl) rfl ?_
      refine rd_split (s := 28) rfl (fun q7 => ?_) (fun q7 => ?_)
      · skip
        refine rd_no rfl rfl rfl q7 rfl ?_
        refine rd_no rfl rfl rfl q7 rfl ?_
        refine rd_no rfl rfl rfl q7 rfl ?_
        refine rd_no rfl rfl rfl q7 rfl ?_
        refine rd_no rfl rfl rfl q7 rfl ?_
        refine rd_no rfl rfl rfl q7 rfl ?_
        refine rd_no rfl rfl rfl q7 rfl ?_
        refine rd_no rfl rfl rfl q7 rfl ?_
        refine rd_s rfl rfl trivial (ss_pickT rfl q7 rfl) rfl ?_
        refine rd_nil ?_
        refine aw_cond rfl (fun q8 => ?_) (fun q8 => ?_)
        · skip
          refine aw_seq ?_
          refine aw_gh (gh_to (n := 41) (σ' := []) (env' := []) rfl rfl trivial) ?_
          refine aw_region ?_
          refine run_s (ss_assign rfl) rfl ?_
          refine run_nil ?_
          refine aw_ret ?_
          exact retAF_mk (retv1 rfl (rv_tmp rfl)) rfl rfl ⟨_, (cle_refl _), _, h, rfl⟩
        · cases q8
      · cases q7
    · replace h := h.2 ((bnot_f q6))
      refine rd_s rfl rfl ⟨_, _, rfl, rfl, q6⟩ (ss_move rfl) rfl ?_
      refine rd_s rfl rfl ⟨_, _, rfl, rfl, q6⟩ (ss_move rfl) rfl ?_
      obtain ⟨q9, h⟩ := h
      refine rd_s rfl rfl ⟨_, _, rfl, rfl, q6⟩ (ss_idxL rfl rfl q9) rfl ?_
      refine rd_s rfl rfl ⟨_, _, rfl, rfl, q6⟩ (ss_move rfl) rfl ?_
      obtain ⟨q10, h⟩ := h
      refine rd_s rfl rfl ⟨_, _, rfl, rfl, q6⟩ (ss_idxL rfl rfl q10) rfl ?_
      refine rd_l rfl rfl ⟨_, _, rfl, rfl, q6⟩ (ss_loadL (f := (fun r => C.lst (ints r))) rfl q9) rfl ?_
      refine rd_s rfl rfl ⟨_, _, rfl, rfl, q6⟩ (ss_lenL (f := ci) rfl) rfl ?_
      refine rd_l rfl rfl ⟨_, _, rfl, rfl, q6⟩ (ss_loadL (f := (fun r => C.lst (ints r))) rfl q10) rfl ?_
      refine rd_s rfl rfl ⟨_, _, rfl, rfl, q6⟩ (ss_lenL (f := ci) rfl) rfl ?_
      refine rd_s rfl rfl ⟨_, _, rfl, rfl, q6⟩ (ss_neq rfl rfl) rfl ?_
      refine rd_s rfl rfl trivial (ss_pickF rfl q6 rfl) rfl ?_
      refine rd_s rfl rfl trivial (ss_move rfl) rfl ?_
      refine rd_split (s := 28) rfl (fun q11 => ?_) (fun q11 => ?_)
      · replace h := h.1 (of_decide_eq_false (bnot_t q11))
        refine rd_no rfl rfl rfl q11 rfl ?_
        refine rd_no rfl rfl rfl q11 rfl ?_
        refine rd_no rfl rfl rfl q11 rfl ?_
        refine rd_no rfl rfl rfl q11 rfl ?_
        refine rd_no rfl rfl rfl q11 rfl ?_
        refine rd_no rfl rfl rfl q11 rfl ?_
        refine rd_no rfl rfl rfl q11 rfl ?_
        refine rd_no rfl rfl rfl q11 rfl ?_
        refine rd_s rfl rfl trivial (ss_pickT rfl q11 rfl) rfl ?_
        refine rd_nil ?_
        refine aw_cond rfl (fun q12 => ?_) (fun q12 => ?_)
        · skip
          refine aw_seq ?_
          refine aw_gh (gh_to (n := 41) (σ' := []) (env' := []) rfl rfl trivial) ?_
          refine aw_region ?_
          refine run_s (ss_assign rfl) rfl ?_
          refine run_nil ?_
          refine aw_ret ?_
          exact retAF_mk (retv1 rfl (rv_tmp rfl)) rfl rfl ⟨_, (cle_refl _), _, h, rfl⟩
        · cases q12
      · replace h := h.2 (of_decide_eq_true (bnot_f q11))
        refine rd_s rfl rfl ⟨_, _, rfl, rfl, q11⟩ (ss_move rfl) rfl ?_
        refine rd_s rfl rfl ⟨_, _, rfl, rfl, q11⟩ (ss_move rfl) rfl ?_
        refine rd_s rfl rfl ⟨_, _, rfl, rfl, q11⟩ (ss_move rfl) rfl ?_
        obtain ⟨q13, h⟩ := h
        refine rd_s rfl rfl ⟨_, _, rfl, rfl, q11⟩ (ss_idxL rfl rfl q13) rfl ?_
        refine rd_s rfl rfl ⟨_, _, rfl, rfl, q11⟩ (ss_move rfl) rfl ?_
        refine rd_l rfl rfl ⟨_, _, rfl, rfl, q11⟩ (ss_loadL (f := (fun r => C.lst (ints r))) rfl q13) rfl ?_
        obtain ⟨q14, h⟩ := h
        refine rd_w rfl rfl ⟨_, _, rfl, rfl, q11⟩ rfl rfl (ws_call (xs := [.tmp 29, .tmp 33]) (ids := []) rfl rfl rfl rfl (c_spec_l04Find list (el list v3_1) q14) rfl ?_ )
        rintro _ rfl
        refine ⟨rfl, ?_⟩
        refine rd_s rfl rfl ⟨_, _, rfl, rfl, q11⟩ (ss_neq rfl rfl) rfl ?_
        refine rd_s rfl rfl trivial (ss_pickF rfl q11 rfl) rfl ?_
        refine rd_nil ?_
        refine aw_cond rfl (fun q16 => ?_) (fun q16 => ?_)
        · replace h := h.1 (of_decide_eq_false (bnot_t q16))
          refine aw_seq ?_
          refine aw_gh (gh_to (n := 41) (σ' := []) (env' := []) rfl rfl trivial) ?_
          refine aw_region ?_
          refine run_s (ss_assign rfl) rfl ?_
          refine run_nil ?_
          refine aw_ret ?_
          exact retAF_mk (retv1 rfl (rv_tmp rfl)) rfl rfl ⟨_, (cle_refl _), _, h, rfl⟩
        · replace h := h.2 (of_decide_eq_true (bnot_f q16))
          refine aw_skip ?_
          refine aw_gh (gh_to (n := 41) (σ' := []) (env' := [(0, .c (.lst (rows list))), (3, .c (ci v3_1)), (17, .c (.lst (rows list))), (18, .c (ci v3_1)), (19, .c (.ptr ((rows list).drop v3_1.toNat))), (20, .c (.lst (ints (el list v3_1)))), (21, .c (ci ((el list v3_1).length : Int))), (22, .c (.lst (rows list))), (23, .c (.ptr ((rows list).drop (0 : Int).toNat))), (24, .c (.lst (ints (el list 0)))), (25, .c (ci ((el list 0).length : Int))), (26, .c (cb (!(decide (((el list v3_1).length : Int) = ((el list 0).length : Int)))))), (29, .c (.lst (rows list))), (30, .c (.lst (rows list))), (31, .c (ci v3_1)), (32, .c (.ptr ((rows list).drop v3_1.toNat))), (33, .c (.lst (ints (el list v3_1)))), (34, .c (ci (idxL list (el list v3_1)))), (35, .c (ci v3_1)), (36, .c (cb (!(decide (idxL list (el list v3_1) = v3_1)))))]) rfl rfl ⟨rfl, rfl, rfl, rfl, rfl, rfl, rfl, rfl, rfl, rfl, rfl, rfl, rfl, rfl, rfl, rfl, rfl, rfl, rfl, rfl, trivial⟩) ?_
          refine aw_region ?_
          refine run_s (ss_move rfl) rfl ?_
          obtain ⟨q17, h⟩ := h
          refine run_s (ss_add rfl rfl q17) rfl ?_
          refine run_s (ss_assign rfl) rfl ?_
          refine run_nil ?_
          exact ⟨v3_1 + 1, ghe_to (n := 41) rfl rfl ⟨rfl, rfl, trivial⟩, h.1, h.2⟩
  · replace h := h.2 (of_decide_eq_false q2)
    refine aw_exit ?_
    refine aw_seq ?_
    refine aw_region ?_
    refine run_s (ss_move rfl) rfl ?_
    refine run_s (ss_lenL (f := (fun r => C.lst (ints r))) rfl) rfl ?_
    refine run_s (ss_gtr rfl rfl) rfl ?_
    refine run_s (ss_assign rfl) rfl ?_
    refine run_nil ?_
    refine aw_ret ?_
    exact retAF_mk (retv1 rfl (rv_tmp rfl)) rfl rfl ⟨_, (cle_refl _), _, h, rfl⟩

theorem c_spec_l04List (list : List (List Int)) (hp : small2 list) : AF Try.prog 61 [.lst (rows list)] (fun R_ => R_ = cb (dec (GoodL list))) :=
  (w_spec_l04List list (fun y0 => y0 = dec (GoodL list)) (p_spec_l04List list hp)).mono (by rintro r ⟨_, rfl, rfl⟩; rfl)

set_option maxRecDepth 100000 in
set_option maxHeartbeats 1000000 in
theorem w_spec_l04Conjugation (list : List (List Int)) (Q : List (List Int) → Prop) (h : wp_spec_l04Conjugation list Q) : AF Try.prog 62 [.lst (rows list)] (fun R_ => ∃ y0, Q y0 ∧ R_ = .own (orows y0)) := by
  refine AF.ofWQ (af_enter (n := 40) Try.func62 rfl (by rfl) rfl (Nat.le_of_ble_eq_true rfl) ?_)
  unfold wp_spec_l04Conjugation at h
  refine aw_seq ?_
  refine aw_gh (gh_to (n := 40) (σ' := []) (env' := [(0, .c (.lst (rows list)))]) rfl rfl ⟨rfl, trivial⟩) ?_
  refine aw_region ?_
  refine run_s (ss_assign rfl) rfl ?_
  refine run_nil ?_
  refine aw_seq ?_
  refine aw_region ?_
  refine run_w (ws_buildSlice (id := 7) (ps := []) rfl rfl (Nat.le_of_ble_eq_true rfl) rfl ⟨rfl, ?_⟩)
  refine run_s (ss_assign rfl) rfl ?_
  refine run_nil ?_
  refine aw_seq ?_
  refine aw_seq ?_
  refine aw_region ?_
  refine run_s (ss_assign rfl) rfl ?_
  refine run_nil ?_
  refine aw_block ?_
  obtain ⟨H1, m1, q1, h⟩ := h
  refine aw_loop2 (fun (v4_1 : Int) (o7_1 : List (List Int)) => ⟨[(7, ⟨orows o7_1, []⟩)], [(0, .c (.lst (rows list))), (3, .ref 7), (4, .c (ci v4_1))], 40⟩) H1 m1 ⟨0, ([] : List (List Int)), ghe_to (n := 40) rfl rfl ⟨rfl, rfl, rfl, trivial⟩, q1⟩ ?_
  rintro v4_1 o7_1 q1
  replace h := h v4_1 o7_1 q1
  refine aw_seq ?_
  refine aw_seq ?_
  refine aw_region ?_
  refine run_s (ss_move rfl) rfl ?_
  refine run_s (ss_move rfl) rfl ?_
  refine run_s (ss_lenL (f := (fun r => C.lst (ints r))) rfl) rfl ?_
  refine run_s (ss_lss rfl rfl) rfl ?_
  refine run_nil ?_
  refine aw_cond rfl (fun q2 => ?_) (fun q2 => ?_)
  · replace h := h.1 (of_decide_eq_true q2)
    refine aw_skip ?_
    refine aw_seq ?_
    refine aw_block ?_
    refine aw_seq ?_
    refine aw_region ?_
    refine run_w (ws_buildSlice (id := 14) (ps := []) rfl rfl (Nat.le_of_ble_eq_true rfl) rfl ⟨rfl, ?_⟩)
    refine run_s (ss_assign rfl) rfl ?_
    refine run_nil ?_
    refine aw_seq ?_
    refine aw_seq ?_
    refine aw_gh (gh_to (n := 40) (σ' := [(14, ⟨ints ([] : List Int), []⟩), (7, ⟨orows o7_1, []⟩)]) (env' := [(0, .c (.lst (rows list))), (3, .ref 7), (4, .c (ci v4_1)), (5, .ref 14)]) rfl rfl ⟨rfl, rfl, rfl, rfl, trivial⟩) ?_
    refine aw_region ?_
    refine run_s (ss_assign rfl) rfl ?_
    refine run_nil ?_
    refine aw_block ?_
    obtain ⟨H2, m2, q3, h⟩ := h
    refine aw_loop2 (fun (v6_2 : Int) (o14_2 : List Int) => ⟨[(14, ⟨ints o14_2, []⟩), (7, ⟨orows o7_1, []⟩)], [(0, .c (.lst (rows list))), (3, .ref 7), (4, .c (ci v4_1)), (5, .ref 14), (6, .c (ci v6_2))], 40⟩) H2 m2 ⟨0, ([] : List Int), ghe_to (n := 40) rfl rfl ⟨rfl, rfl, rfl, rfl, rfl, trivial⟩, q3⟩ ?_
    rintro v6_2 o14_2 q3
    replace h := h v6_2 o14_2 q3
    refine aw_seq ?_
    refine aw_seq ?_
    refine aw_region ?_
    refine run_s (ss_move rfl) rfl ?_
    refine run_s (ss_move rfl) rfl ?_
    refine run_s (ss_lenL (f := (fun r => C.lst (ints r))) rfl) rfl ?_
    refine run_s (ss_lss rfl rfl) rfl ?_
    refine run_nil ?_
    refine aw_cond rfl (fun q4 => ?_) (fun q4 => ?_)
    · replace h := h.1 (of_decide_eq_true q4)
      refine aw_skip ?_
      refine aw_seq ?_
      refine aw_block ?_
      refine aw_gh (gh_to (n := 40) (σ' := [(14, ⟨ints o14_2, []⟩), (7, ⟨orows o7_1, []⟩)]) (env' := [(0, .c (.lst (rows list))), (3, .ref 7), (4, .c (ci v4_1)), (5, .ref 14), (6, .c (ci v6_2))]) rfl rfl ⟨rfl, rfl, rfl, rfl, rfl, trivial⟩) ?_
      refine aw_regionD (kd := kdl [0, 0, 0, 0, 0, 1, 0, 0, 0, 1, 2, 2, 2, 2, 0]) (ord := [0, 1, 2, 3, 4, 6, 7, 8, 5, 9, 10, 11, 12, 13, 14]) [14, 33] mixed (by kernel_rfl) ?_
      refine rd_s rfl rfl trivial (ss_move rfl) rfl ?_
      refine rd_s rfl rfl trivial (ss_move rfl) rfl ?_
      refine rd_s rfl rfl trivial (ss_move rfl) rfl ?_
      refine rd_s rfl rfl trivial (ss_move rfl) rfl ?_
      obtain ⟨q5, h⟩ := h
      refine rd_s rfl rfl trivial (ss_idxL rfl rfl q5) rfl ?_
      refine rd_s rfl rfl trivial (ss_move rfl) rfl ?_
      refine rd_s rfl rfl trivial (ss_move rfl) rfl ?_
      obtain ⟨q6, h⟩ := h
      refine rd_s rfl rfl trivial (ss_idxL rfl rfl q6) rfl ?_
      refine rd_l rfl rfl trivial (ss_loadL (f := (fun r => C.lst (ints r))) rfl q5) rfl ?_
      refine rd_l rfl rfl trivial (ss_loadL (f := (fun r => C.lst (ints r))) rfl q6) rfl ?_
      obtain ⟨q7, h⟩ := h
      refine rd_w rfl rfl trivial rfl rfl (ws_call (xs := [.tmp 26, .tmp 30]) (ids := [31]) rfl rfl rfl rfl (c_spec_l04Conjugate (el list v4_1) (el list v6_2) q7) rfl ?_ )
      rintro _ rfl
      refine ⟨rfl, ?_⟩
      obtain ⟨q9, h⟩ := h
      refine rd_w rfl rfl trivial rfl rfl (ws_callR (xs := [.tmp 22, .tmp 31]) (cs := [.lst (rows list), .own (ints (conjI (el list v4_1) (el list v6_2)))]) (ids := []) rfl (.inr ⟨rfl, rfl⟩) rfl rfl (fz_cons rfl (fz_cons (fz_own (fz_map (fun _ => rfl) _)) fz_nil)) (c_spec_l04Find list (conjI (el list v4_1) (el list v6_2)) q9) rfl ?_ )
      rintro _ rfl
      refine ⟨rfl, rfl, ?_⟩
      refine rd_w rfl rfl trivial rfl rfl (ws_buildSlice (id := 33) (ps := [(0, .tmp 32)]) rfl rfl (Nat.le_of_ble_eq_true rfl) rfl ⟨rfl, ?_⟩)
      obtain ⟨q11, h⟩ := h
      refine rd_w rfl rfl trivial rfl rfl (ws_app1 ci (l := o14_2) (m := [idxL list (conjI (el list v4_1) (el list v6_2))]) rfl rfl rfl rfl rfl (Nat.le_of_ble_eq_true rfl) q11 ⟨rfl, ?_⟩)
      refine rd_s rfl rfl trivial (ss_assign rfl) rfl ?_
      refine rd_nil ?_
      refine aw_gh (gh_to (n := 40) (σ' := [(31, ⟨ints (conjI (el list v4_1) (el list v6_2)), []⟩), (14, ⟨ints (o14_2 ++ ([idxL list (conjI (el list v4_1) (el list v6_2))])), []⟩), (7, ⟨orows o7_1, []⟩)]) (env' := [(0, .c (.lst (rows list))), (3, .ref 7), (4, .c (ci v4_1)), (5, .ref 14), (6, .c (ci v6_2))]) rfl rfl ⟨rfl, rfl, rfl, rfl, rfl, trivial⟩) ?_
      refine aw_region ?_
      refine run_s (ss_move rfl) rfl ?_
      obtain ⟨q12, h⟩ := h
      refine run_s (ss_add rfl rfl q12) rfl ?_
      refine run_s (ss_assign rfl) rfl ?_
      refine run_nil ?_
      exact ⟨v6_2 + 1, o14_2 ++ ([idxL list (conjI (el list v4_1) (el list v6_2))]), ghe_step (gh_frzE (id := 31) ci rfl (fun _ => rfl)) (ghe_to (n := 40) rfl rfl ⟨rfl, rfl, rfl, rfl, rfl, trivial⟩), h.1, h.2⟩
    · replace h := h.2 (of_decide_eq_false q4)
      refine aw_exit ?_
      refine aw_region ?_
      refine run_s (ss_move rfl) rfl ?_
      refine run_s (ss_move rfl) rfl ?_
      refine run_w (ws_buildSlice (id := 37) (ps := [(0, .tmp 36)]) rfl rfl (Nat.le_of_ble_eq_true rfl) rfl ⟨rfl, ?_⟩)
      refine run_gh (gh_fill (id := 37) (id2 := 14) (j := 0) rfl rfl (Nat.le_of_ble_eq_true rfl) rfl rfl rfl) ?_
      obtain ⟨q13, h⟩ := h
      refine run_w (ws_app1 (fun r => C.own (ints r)) (l := o7_1) (m := [o14_2]) rfl rfl rfl rfl rfl (Nat.le_of_ble_eq_true rfl) q13 ⟨rfl, ?_⟩)
      refine run_s (ss_assign rfl) rfl ?_
      refine run_nil ?_
      refine aw_gh (gh_to (n := 40) (σ' := [(7, ⟨orows (o7_1 ++ ([o14_2])), []⟩)]) (env' := [(0, .c (.lst (rows list))), (3, .ref 7), (4, .c (ci v4_1))]) rfl rfl ⟨rfl, rfl, rfl, trivial⟩) ?_
      refine aw_region ?_
      refine run_s (ss_move rfl) rfl ?_
      obtain ⟨q14, h⟩ := h
      refine run_s (ss_add rfl rfl q14) rfl ?_
      refine run_s (ss_assign rfl) rfl ?_
      refine run_nil ?_
      exact ⟨v4_1 + 1, o7_1 ++ ([o14_2]), ghe_to (n := 40) rfl rfl ⟨rfl, rfl, rfl, trivial⟩, h.1, h.2⟩
  · replace h := h.2 (of_decide_eq_false q2)
    refine aw_exit ?_
    refine aw_seq ?_
    refine aw_gh (gh_to (n := 40) (σ' := [(7, ⟨orows o7_1, []⟩)]) (env' := [(3, .ref 7)]) rfl rfl ⟨rfl, trivial⟩) ?_
    refine aw_region ?_
    refine run_s (ss_move rfl) rfl ?_
    refine run_s (ss_assign rfl) rfl ?_
    refine run_nil ?_
    refine aw_ret ?_
    exact retAF_mk (retv1 rfl (rv_tmp rfl)) rfl rfl ⟨_, (cle_refl _), _, h, rfl⟩

theorem c_spec_l04Conjugation (list : List (List Int)) (hp : GoodL list ∧ (list.length : Int) ≤ 12) : AF Try.prog 62 [.lst (rows list)] (fun R_ => R_ = .own (orows (cjT list))) :=
  (w_spec_l04Conjugation list (fun y0 => y0 = cjT list) (p_spec_l04Conjugation list hp)).mono (by rintro r ⟨_, rfl, rfl⟩; rfl)

set_option maxRecDepth 100000 in
set_option maxHeartbeats 1000000 in
theorem w_impl_ConjugationQuandle_1 (x : Int) (y : Int) (list : List (List Int)) (Q : Int → Prop) (h : wp_impl_ConjugationQuandle_1 x y list Q) : AF Try.prog 67 [ci x, ci y, .ptr [.lst (rows list)]] (fun R_ => ∃ y0, Q y0 ∧ R_ = ci y0) := by
  refine AF.ofWQ (af_enter (n := 17) Try.func67 rfl (by rfl) rfl (Nat.le_of_ble_eq_true rfl) ?_)
  unfold wp_impl_ConjugationQuandle_1 at h
  refine aw_seq ?_
  refine aw_gh (gh_to (n := 17) (σ' := []) (env' := [(0, .c (ci x)), (1, .c (ci y)), (2, .c (.ptr [.lst (rows list)]))]) rfl rfl ⟨rfl, rfl, rfl, trivial⟩) ?_
  refine aw_region ?_
  refine run_s (ss_assign rfl) rfl ?_
  refine run_nil ?_
  refine aw_seq ?_
  refine aw_gh (gh_to (n := 17) (σ' := []) (env' := [(0, .c (ci x)), (1, .c (ci y)), (2, .c (.ptr [.lst (rows list)])), (5, .c (ci 0))]) rfl rfl ⟨rfl, rfl, rfl, rfl, trivial⟩) ?_
  refine aw_regionD (kd := kdl [1, 1, 0, 0, 1, 1, 0, 0, 1, 2, 2, 0]) (ord := [2, 6, 0, 1, 3, 4, 5, 7, 8, 9, 10, 11]) [] mixed (by kernel_rfl) ?_
  refine rd_s rfl rfl trivial (ss_move rfl) rfl ?_
  refine rd_s rfl rfl trivial (ss_move rfl) rfl ?_
  refine rd_l rfl rfl trivial (ss_load_ptr rfl rfl) rfl ?_
  refine rd_l rfl rfl trivial (ss_load_ptr rfl rfl) rfl ?_
  obtain ⟨q1, h⟩ := h
  refine rd_s rfl rfl trivial (ss_idxL rfl rfl q1) rfl ?_
  refine rd_l rfl rfl trivial (ss_loadL (f := (fun r => C.lst (ints r))) rfl q1) rfl ?_
  refine rd_l rfl rfl trivial (ss_load_ptr rfl rfl) rfl ?_
  obtain ⟨q2, h⟩ := h
  refine rd_s rfl rfl trivial (ss_idxL rfl rfl q2) rfl ?_
  refine rd_l rfl rfl trivial (ss_loadL (f := (fun r => C.lst (ints r))) rfl q2) rfl ?_
  obtain ⟨q3, h⟩ := h
  refine rd_w rfl rfl trivial rfl rfl (ws_call (xs := [.tmp 10, .tmp 14]) (ids := [15]) rfl rfl rfl rfl (c_impl_conjugate (el list y) (el list x) q3) rfl ?_ )
  rintro _ rfl
  refine ⟨rfl, ?_⟩
  obtain ⟨q5, h⟩ := h
  refine rd_w rfl rfl trivial rfl rfl (ws_callR (xs := [.tmp 6, .tmp 15]) (cs := [.lst (rows list), .own (ints (conjI (el list x) (el list y)))]) (ids := []) rfl (.inr ⟨rfl, rfl⟩) rfl rfl (fz_cons rfl (fz_cons (fz_own (fz_map (fun _ => rfl) _)) fz_nil)) (c_impl_listIndex list (conjI (el list x) (el list y)) q5) rfl ?_ )
  rintro _ rfl
  refine ⟨rfl, rfl, ?_⟩
  refine rd_s rfl rfl trivial (ss_assign rfl) rfl ?_
  refine rd_nil ?_
  refine aw_ret ?_
  exact retAF_mk (retv1 rfl (rv_tmp rfl)) rfl rfl ⟨_, (cle_refl _), _, h, rfl⟩

theorem c_impl_ConjugationQuandle_1 (x : Int) (y : Int) (list : List (List Int)) (hp : GoodL list ∧ (list.length : Int) ≤ 12 ∧ 0 ≤ x ∧ x < (list.length : Int) ∧ 0 ≤ y ∧ y < (list.length : Int)) : AF Try.prog 67 [ci x, ci y, .ptr [.lst (rows list)]] (fun R_ => R_ = ci (cjV list x y)) :=
  (w_impl_ConjugationQuandle_1 x y list (fun y0 => y0 = cjV list x y) (p_impl_ConjugationQuandle_1 x y list hp)).mono (by rintro r ⟨_, rfl, rfl⟩; rfl)

set_option maxRecDepth 100000 in
set_option maxHeartbeats 1000000 in
theorem w_spec_ConjugationQuandle (list : List (List Int)) (Q : List (List Int) → Int → Prop) (h : wp_spec_ConjugationQuandle list Q) : AF Try.prog 16 [.lst (rows list)] (fun R_ => ∃ y0 y1, Q y0 y1 ∧ R_ = .tup [.agg [.own (orows y0)], ci y1]) := by
  refine AF.ofWQ (af_enter (n := 24) Try.func16 rfl (by rfl) rfl (Nat.le_of_ble_eq_true rfl) ?_)
  unfold wp_spec_ConjugationQuandle at h
  refine aw_seq ?_
  refine aw_gh (gh_to (n := 24) (σ' := []) (env' := [(0, .c (.lst (rows list)))]) rfl rfl ⟨rfl, trivial⟩) ?_
  refine aw_region ?_
  refine run_w (ws_alloc (id := 2) rfl (Nat.le_of_ble_eq_true rfl) ⟨rfl, ?_⟩)
  refine run_s (ss_assign rfl) rfl ?_
  refine run_nil ?_
  refine aw_seq ?_
  refine aw_block ?_
  refine aw_seq ?_
  refine aw_region ?_
  refine run_s (ss_move rfl) rfl ?_
  obtain ⟨q1, h⟩ := h
  refine run_w (ws_call (xs := [.tmp 6]) (ids := []) rfl rfl rfl rfl (c_spec_l04List list q1) rfl ?_ )
  rintro _ rfl
  refine ⟨rfl, ?_⟩
  refine run_s (ss_not rfl) rfl ?_
  refine run_s (ss_assign rfl) rfl ?_
  refine run_nil ?_
  refine aw_cond rfl (fun q3 => ?_) (fun q3 => ?_)
  · replace h := h.1 ((bnot_t q3))
    refine aw_seq ?_
    refine aw_gh (gh_to (n := 24) (σ' := [(2, ⟨[cnil], []⟩)]) (env' := [(2, .cell 2 0), (3, .c (ci 0))]) rfl rfl ⟨rfl, rfl, trivial⟩) ?_
    refine aw_region ?_
    refine run_s (ss_build0) rfl ?_
    refine run_w (ws_storeS rfl rfl (Nat.le_of_ble_eq_true rfl) rfl rfl rfl ⟨rfl, ?_⟩)
    refine run_s (ss_assign rfl) rfl ?_
    refine run_nil ?_
    refine aw_ret ?_
    exact retAF_mk (retv2 rfl (rv_struct rfl rfl rfl) (rv_tmp rfl)) rfl rfl ⟨_, (cle_tup (cleL_cons (cle_agg (cleL_cons cle_nilO cleL_nil)) (cleL_cons (cle_refl _) cleL_nil))), _, _, h, rfl⟩
  · replace h := h.2 ((bnot_f q3))
    refine aw_seq ?_
    refine aw_region ?_
    refine run_s (ss_move rfl) rfl ?_
    refine run_s (ss_lenL (f := (fun r => C.lst (ints r))) rfl) rfl ?_
    refine run_s (ss_gtr rfl rfl) rfl ?_
    refine run_s (ss_assign rfl) rfl ?_
    refine run_nil ?_
    refine aw_cond rfl (fun q4 => ?_) (fun q4 => ?_)
    · replace h := h.1 (of_decide_eq_true q4)
      refine aw_seq ?_
      refine aw_gh (gh_to (n := 24) (σ' := [(2, ⟨[cnil], []⟩)]) (env' := [(2, .cell 2 0), (3, .c (ci 0))]) rfl rfl ⟨rfl, rfl, trivial⟩) ?_
      refine aw_region ?_
      refine run_s (ss_build0) rfl ?_
      refine run_w (ws_storeS rfl rfl (Nat.le_of_ble_eq_true rfl) rfl rfl rfl ⟨rfl, ?_⟩)
      refine run_s (ss_assign rfl) rfl ?_
      refine run_nil ?_
      refine aw_ret ?_
      exact retAF_mk (retv2 rfl (rv_struct rfl rfl rfl) (rv_tmp rfl)) rfl rfl ⟨_, (cle_tup (cleL_cons (cle_agg (cleL_cons cle_nilO cleL_nil)) (cleL_cons (cle_refl _) cleL_nil))), _, _, h, rfl⟩
    · replace h := h.2 (of_decide_eq_false q4)
      refine aw_skip ?_
      refine aw_seq ?_
      refine aw_gh (gh_to (n := 24) (σ' := [(2, ⟨[cnil], []⟩)]) (env' := [(0, .c (.lst (rows list))), (2, .cell 2 0)]) rfl rfl ⟨rfl, rfl, trivial⟩) ?_
      refine aw_region ?_
      refine run_s (ss_move rfl) rfl ?_
      obtain ⟨q5, h⟩ := h
      refine run_w (ws_call (xs := [.tmp 15]) (ids := [16]) rfl rfl rfl rfl (c_spec_l04Conjugation list q5) rfl ?_ )
      rintro _ rfl
      refine ⟨rfl, ?_⟩
      refine run_s (ss_build (ps := [(0, .tmp 16)]) rfl rfl) rfl ?_
      refine run_w (ws_alloc (id := 4) rfl (Nat.le_of_ble_eq_true rfl) ⟨rfl, ?_⟩)
      refine run_w (ws_storeS rfl rfl (Nat.le_of_ble_eq_true rfl) rfl rfl rfl ⟨rfl, ?_⟩)
      refine run_nil ?_
      refine aw_seq ?_
      refine aw_seq ?_
      refine aw_region ?_
      refine run_s (ss_field_cell rfl) rfl ?_
      refine run_s (ss_loadH rfl rfl rfl rfl) rfl ?_
      obtain ⟨q7, h⟩ := h
      refine run_w (ws_callR (xs := [.tmp 19]) (cs := [.own (orows (cjT list))]) (ids := []) rfl (.inr ⟨rfl, rfl⟩) rfl rfl (fz_cons (fz_own (fz_map (fun _ => (fz_own (fz_map (fun _ => rfl) _))) _)) fz_nil) (c_spec_l01Table (cjT list) q7) rfl ?_ )
      rintro _ rfl
      refine ⟨rfl, rfl, ?_⟩
      refine run_s (ss_not rfl) rfl ?_
      refine run_nil ?_
      refine aw_cond rfl (fun q9 => ?_) (fun q9 => ?_)
      · replace h := h.1 ((bnot_t q9))
        refine aw_seq ?_
        refine aw_gh (gh_to (n := 24) (σ' := [(4, ⟨[.hole], [(0, .ref 16)]⟩), (16, ⟨orows (cjT list), []⟩), (2, ⟨[cnil], []⟩)]) (env' := [(2, .cell 2 0)]) rfl rfl ⟨rfl, trivial⟩) ?_
        refine aw_region ?_
        refine run_s (ss_build0) rfl ?_
        refine run_w (ws_storeS rfl rfl (Nat.le_of_ble_eq_true rfl) rfl rfl rfl ⟨rfl, ?_⟩)
        refine run_s (ss_assign rfl) rfl ?_
        refine run_nil ?_
        refine aw_ret ?_
        exact retAF_mk (retv2 rfl (rv_struct rfl rfl rfl) (rv_tmp rfl)) rfl rfl ⟨_, (cle_tup (cleL_cons (cle_agg (cleL_cons cle_nilO cleL_nil)) (cleL_cons (cle_refl _) cleL_nil))), _, _, h, rfl⟩
      · replace h := h.2 ((bnot_f q9))
        refine aw_skip ?_
        refine aw_seq ?_
        refine aw_gh (gh_to (n := 24) (σ' := [(4, ⟨[.hole], [(0, .ref 16)]⟩), (16, ⟨orows (cjT list), []⟩), (2, ⟨[cnil], []⟩)]) (env' := [(2, .cell 2 0), (4, .cell 4 0)]) rfl rfl ⟨rfl, rfl, trivial⟩) ?_
        refine aw_region ?_
        refine run_s (ss_loadS rfl rfl rfl rfl) rfl ?_
        refine run_w (ws_storeS rfl rfl (Nat.le_of_ble_eq_true rfl) rfl rfl rfl ⟨rfl, ?_⟩)
        refine run_s (ss_assign rfl) rfl ?_
        refine run_nil ?_
        refine aw_ret ?_
        exact retAF_mk (retv2 rfl (rv_struct rfl rfl rfl) (rv_tmp rfl)) rfl rfl ⟨_, (cle_refl _), _, _, h, rfl⟩

theorem c_spec_ConjugationQuandle (list : List (List Int)) (hp : small2 list) : AF Try.prog 16 [.lst (rows list)] (fun R_ => R_ = .tup [.agg [.own (orows (CjqT list))], ci (CjqE list)]) :=
  (w_spec_ConjugationQuandle list (fun y0 y1 => y0 = CjqT list ∧ y1 = CjqE list) (p_spec_ConjugationQuandle list hp)).mono (by rintro r ⟨_, _, ⟨rfl, rfl⟩, rfl⟩; rfl)

set_option maxRecDepth 100000 in
set_option maxHeartbeats 1000000 in
theorem w_impl_ConjugationQuandle (list : List (List Int)) (Q : List (List Int) → Int → Prop) (h : wp_impl_ConjugationQuandle list Q) : AF Try.prog 18 [.lst (rows list)] (fun R_ => ∃ y0 y1, Q y0 y1 ∧ R_ = .tup [.agg [.own (orows y0)], ci y1]) := by
  refine AF.ofWQ (af_enter (n := 54) Try.func18 rfl (by rfl) rfl (Nat.le_of_ble_eq_true rfl) ?_)
  unfold wp_impl_ConjugationQuandle at h
  refine aw_seq ?_
  refine aw_gh (gh_to (n := 54) (σ' := []) (env' := [(0, .c (.lst (rows list)))]) rfl rfl ⟨rfl, trivial⟩) ?_
  refine aw_region ?_
  refine run_w (ws_boxR rfl (.inr rfl) rfl ⟨rfl, ?_⟩)
  refine run_w (ws_alloc (id := 2) rfl (Nat.le_of_ble_eq_true rfl) ⟨rfl, ?_⟩)
  refine run_s (ss_assign rfl) rfl ?_
  refine run_nil ?_
  refine aw_seq ?_
  refine aw_seq ?_
  refine aw_region ?_
  refine run_s (ss_load_ptr rfl rfl) rfl ?_
  refine run_s (ss_lenL (f := (fun r => C.lst (ints r))) rfl) rfl ?_
  refine run_s (ss_eql rfl rfl) rfl ?_
  refine run_nil ?_
  refine aw_cond rfl (fun q1 => ?_) (fun q1 => ?_)
  · replace h := h.1 (of_decide_eq_true q1)
    refine aw_seq ?_
    refine aw_gh (gh_to (n := 54) (σ' := [(2, ⟨[cnil], []⟩)]) (env' := [(2, .cell 2 0), (3, .c (ci 0))]) rfl rfl ⟨rfl, rfl, trivial⟩) ?_
    refine aw_region ?_
    refine run_s (ss_build0) rfl ?_
    refine run_w (ws_storeS rfl rfl (Nat.le_of_ble_eq_true rfl) rfl rfl rfl ⟨rfl, ?_⟩)
    refine run_s (ss_assign rfl) rfl ?_
    refine run_nil ?_
    refine aw_ret ?_
    exact retAF_mk (retv2 rfl (rv_struct rfl rfl rfl) (rv_tmp rfl)) rfl rfl ⟨_, (cle_tup (cleL_cons (cle_agg (cleL_cons cle_nilO cleL_nil)) (cleL_cons (cle_refl _) cleL_nil))), _, _, h, rfl⟩
  · replace h := h.2 (of_decide_eq_false q1)
    refine aw_skip ?_
    refine aw_seq ?_
    refine aw_seq ?_
    refine aw_region ?_
    refine run_s (ss_load_ptr rfl rfl) rfl ?_
    refine run_s (ss_lenL (f := (fun r => C.lst (ints r))) rfl) rfl ?_
    refine run_s (ss_move rfl) rfl ?_
    refine run_nil ?_
    refine aw_block ?_
    obtain ⟨H1, m1, q2, h⟩ := h
    refine aw_loop1 (fun (v13_1 : Int) => ⟨[(2, ⟨[cnil], []⟩)], [(1, .c (.ptr [.lst (rows list)])), (2, .cell 2 0), (11, .c (.lst (rows list))), (12, .c (ci (list.length : Int))), (13, .c (ci v13_1))], 54⟩) H1 m1 ⟨0, ghe_to (n := 54) rfl rfl ⟨rfl, rfl, rfl, rfl, rfl, trivial⟩, q2⟩ ?_
    rintro v13_1 q2
    replace h := h v13_1 q2
    refine aw_seq ?_
    refine aw_region ?_
    refine run_s (ss_lss rfl rfl) rfl ?_
    refine run_nil ?_
    refine aw_seq ?_
    refine aw_cond rfl (fun q3 => ?_) (fun q3 => ?_)
    · replace h := h.1 (of_decide_eq_true q3)
      refine aw_skip ?_
      refine aw_seq ?_
      refine aw_block ?_
      refine aw_seq ?_
      refine aw_region ?_
      refine run_s (ss_move rfl) rfl ?_
      obtain ⟨q4, h⟩ := h
      refine run_s (ss_idxL rfl rfl q4) rfl ?_
      refine run_s (ss_loadL (f := (fun r => C.lst (ints r))) rfl q4) rfl ?_
      refine run_s (ss_assign rfl) rfl ?_
      refine run_s (ss_assign rfl) rfl ?_
      refine run_nil ?_
      refine aw_seq ?_
      refine aw_region ?_
      refine run_s (ss_move rfl) rfl ?_
      obtain ⟨q5, h⟩ := h
      refine run_w (ws_call (xs := [.tmp 18]) (ids := []) rfl rfl rfl rfl (c_impl_IsPermutation (el list v13_1) q5) rfl ?_ )
      rintro _ rfl
      refine ⟨rfl, ?_⟩
      refine run_s (ss_not rfl) rfl ?_
      refine run_s (ss_move rfl) rfl ?_
      refine run_split (s := 21) rfl (fun q7 => ?_) (fun q7 => ?_)
      · replace h := h.1 ((bnot_t q7))
        refine run_gf rfl rfl q7 rfl ?_
        refine run_gf rfl rfl q7 rfl ?_
        refine run_gf rfl rfl q7 rfl ?_
        refine run_gf rfl rfl q7 rfl ?_
        refine run_gf rfl rfl q7 rfl ?_
        refine run_gf rfl rfl q7 rfl ?_
        refine run_gf rfl rfl q7 rfl ?_
        refine run_s (ss_pickT rfl q7 rfl) rfl ?_
        refine run_s (ss_move rfl) rfl ?_
        refine run_split (s := 30) rfl (fun q8 => ?_) (fun q8 => ?_)
        · skip
          refine run_gf rfl rfl q8 rfl ?_
          refine run_gf rfl rfl q8 rfl ?_
          refine run_gf rfl rfl q8 rfl ?_
          refine run_gf rfl rfl q8 rfl ?_
          refine run_gf rfl rfl q8 rfl ?_
          refine run_gf rfl rfl q8 rfl ?_
          refine run_s (ss_pickT rfl q8 rfl) rfl ?_
          refine run_nil ?_
          refine aw_cond rfl (fun q9 => ?_) (fun q9 => ?_)
          · skip
            refine aw_seq ?_
            refine aw_gh (gh_to (n := 54) (σ' := [(2, ⟨[cnil], []⟩)]) (env' := [(2, .cell 2 0)]) rfl rfl ⟨rfl, trivial⟩) ?_
            refine aw_region ?_
            refine run_s (ss_build0) rfl ?_
            refine run_w (ws_storeS rfl rfl (Nat.le_of_ble_eq_true rfl) rfl rfl rfl ⟨rfl, ?_⟩)
            refine run_s (ss_assign rfl) rfl ?_
            refine run_nil ?_
            refine aw_ret ?_
            exact retAF_mk (retv2 rfl (rv_struct rfl rfl rfl) (rv_tmp rfl)) rfl rfl ⟨_, (cle_tup (cleL_cons (cle_agg (cleL_cons cle_nilO cleL_nil)) (cleL_cons (cle_refl _) cleL_nil))), _, _, h, rfl⟩
          · cases q9
        · cases q8
      · replace h := h.2 ((bnot_f q7))
        refine run_gt rfl rfl q7 ?_
        refine run_s (ss_move rfl) rfl ?_
        refine run_gt rfl rfl q7 ?_
        refine run_s (ss_lenL (f := ci) rfl) rfl ?_
        refine run_gt rfl rfl q7 ?_
        refine run_s (ss_load_ptr rfl rfl) rfl ?_
        refine run_gt rfl rfl q7 ?_
        obtain ⟨q10, h⟩ := h
        refine run_s (ss_idxL rfl rfl q10) rfl ?_
        refine run_gt rfl rfl q7 ?_
        refine run_s (ss_loadL (f := (fun r => C.lst (ints r))) rfl q10) rfl ?_
        refine run_gt rfl rfl q7 ?_
        refine run_s (ss_lenL (f := ci) rfl) rfl ?_
        refine run_gt rfl rfl q7 ?_
        refine run_s (ss_neq rfl rfl) rfl ?_
        refine run_s (ss_pickF rfl q7 rfl) rfl ?_
        refine run_s (ss_move rfl) rfl ?_
        refine run_split (s := 30) rfl (fun q11 => ?_) (fun q11 => ?_)
        · replace h := h.1 (of_decide_eq_false (bnot_t q11))
          refine run_gf rfl rfl q11 rfl ?_
          refine run_gf rfl rfl q11 rfl ?_
          refine run_gf rfl rfl q11 rfl ?_
          refine run_gf rfl rfl q11 rfl ?_
          refine run_gf rfl rfl q11 rfl ?_
          refine run_gf rfl rfl q11 rfl ?_
          refine run_s (ss_pickT rfl q11 rfl) rfl ?_
          refine run_nil ?_
          refine aw_cond rfl (fun q12 => ?_) (fun q12 => ?_)
          · skip
            refine aw_seq ?_
            refine aw_gh (gh_to (n := 54) (σ' := [(2, ⟨[cnil], []⟩)]) (env' := [(2, .cell 2 0)]) rfl rfl ⟨rfl, trivial⟩) ?_
            refine aw_region ?_
            refine run_s (ss_build0) rfl ?_
            refine run_w (ws_storeS rfl rfl (Nat.le_of_ble_eq_true rfl) rfl rfl rfl ⟨rfl, ?_⟩)
            refine run_s (ss_assign rfl) rfl ?_
            refine run_nil ?_
            refine aw_ret ?_
            exact retAF_mk (retv2 rfl (rv_struct rfl rfl rfl) (rv_tmp rfl)) rfl rfl ⟨_, (cle_tup (cleL_cons (cle_agg (cleL_cons cle_nilO cleL_nil)) (cleL_cons (cle_refl _) cleL_nil))), _, _, h, rfl⟩
          · cases q12
        · replace h := h.2 (of_decide_eq_true (bnot_f q11))
          refine run_gt rfl rfl q11 ?_
          refine run_s (ss_load_ptr rfl rfl) rfl ?_
          refine run_gt rfl rfl q11 ?_
          refine run_s (ss_move rfl) rfl ?_
          refine run_gt rfl rfl q11 ?_
          obtain ⟨q13, h⟩ := h
          refine run_s (ss_slL (f := (fun r => C.lst (ints r))) rfl rfl ⟨_, rfl⟩ q13) rfl ?_
          refine run_gt rfl rfl q11 ?_
          refine run_s (ss_move rfl) rfl ?_
          refine run_gt rfl rfl q11 ?_
          obtain ⟨q14, h⟩ := h
          refine run_w (ws_call (xs := [.tmp 33, .tmp 34]) (ids := []) rfl rfl rfl rfl (c_impl_listIndex (sl list 0 v13_1) (el list v13_1) q14) rfl ?_ )
          rintro _ rfl
          refine ⟨rfl, ?_⟩
          refine run_gt rfl rfl q11 ?_
          refine run_s (ss_geq rfl rfl) rfl ?_
          refine run_s (ss_pickF rfl q11 rfl) rfl ?_
          refine run_nil ?_
          refine aw_cond rfl (fun q16 => ?_) (fun q16 => ?_)
          · replace h := h.1 (of_decide_eq_true q16)
            refine aw_seq ?_
            refine aw_gh (gh_to (n := 54) (σ' := [(2, ⟨[cnil], []⟩)]) (env' := [(2, .cell 2 0)]) rfl rfl ⟨rfl, trivial⟩) ?_
            refine aw_region ?_
            refine run_s (ss_build0) rfl ?_
            refine run_w (ws_storeS rfl rfl (Nat.le_of_ble_eq_true rfl) rfl rfl rfl ⟨rfl, ?_⟩)
            refine run_s (ss_assign rfl) rfl ?_
            refine run_nil ?_
            refine aw_ret ?_
            exact retAF_mk (retv2 rfl (rv_struct rfl rfl rfl) (rv_tmp rfl)) rfl rfl ⟨_, (cle_tup (cleL_cons (cle_agg (cleL_cons cle_nilO cleL_nil)) (cleL_cons (cle_refl _) cleL_nil))), _, _, h, rfl⟩
          · replace h := h.2 (of_decide_eq_false q16)
            refine aw_skip ?_
            refine aw_gh (gh_to (n := 54) (σ' := [(2, ⟨[cnil], []⟩)]) (env' := [(1, .c (.ptr [.lst (rows list)])), (2, .cell 2 0), (11, .c (.lst (rows list))), (12, .c (ci (list.length : Int))), (13, .c (ci v13_1)), (22, .c (.lst (ints (el list v13_1)))), (23, .c (ci ((el list v13_1).length : Int))), (24, .c (.lst (rows list))), (25, .c (.ptr ((rows list).drop (0 : Int).toNat))), (26, .c (.lst (ints (el list 0)))), (27, .c (ci ((el list 0).length : Int))), (28, .c (cb (!(decide (((el list v13_1).length : Int) = ((el list 0).length : Int)))))), (31, .c (.lst (rows list))), (32, .c (ci v13_1)), (33, .c (.lst (rows (sl list 0 v13_1)))), (34, .c (.lst (ints (el list v13_1)))), (35, .c (ci (idxL (sl list 0 v13_1) (el list v13_1)))), (36, .c (cb (decide (0 ≤ idxL (sl list 0 v13_1) (el list v13_1)))))]) rfl rfl ⟨rfl, rfl, rfl, rfl, rfl, rfl, rfl, rfl, rfl, rfl, rfl, rfl, rfl, rfl, rfl, rfl, rfl, rfl, trivial⟩) ?_
            refine aw_region ?_
            obtain ⟨q17, h⟩ := h
            refine run_s (ss_add rfl rfl q17) rfl ?_
            refine run_s (ss_move rfl) rfl ?_
            refine run_nil ?_
            exact ⟨v13_1 + 1, ghe_to (n := 54) rfl rfl ⟨rfl, rfl, rfl, rfl, rfl, trivial⟩, h.1, h.2⟩
    · replace h := h.2 (of_decide_eq_false q3)
      refine aw_exit ?_
      refine aw_seq ?_
      refine aw_seq ?_
      refine aw_region ?_
      refine run_s (ss_load_ptr rfl rfl) rfl ?_
      refine run_s (ss_lenL (f := (fun r => C.lst (ints r))) rfl) rfl ?_
      refine run_s (ss_gtr rfl rfl) rfl ?_
      refine run_nil ?_
      refine aw_cond rfl (fun q18 => ?_) (fun q18 => ?_)
      · replace h := h.1 (of_decide_eq_true q18)
        refine aw_seq ?_
        refine aw_gh (gh_to (n := 54) (σ' := [(2, ⟨[cnil], []⟩)]) (env' := [(2, .cell 2 0)]) rfl rfl ⟨rfl, trivial⟩) ?_
        refine aw_region ?_
        refine run_s (ss_build0) rfl ?_
        refine run_w (ws_storeS rfl rfl (Nat.le_of_ble_eq_true rfl) rfl rfl rfl ⟨rfl, ?_⟩)
        refine run_s (ss_assign rfl) rfl ?_
        refine run_nil ?_
        refine aw_ret ?_
        exact retAF_mk (retv2 rfl (rv_struct rfl rfl rfl) (rv_tmp rfl)) rfl rfl ⟨_, (cle_tup (cleL_cons (cle_agg (cleL_cons cle_nilO cleL_nil)) (cleL_cons (cle_refl _) cleL_nil))), _, _, h, rfl⟩
      · replace h := h.2 (of_decide_eq_false q18)
        refine aw_skip ?_
        refine aw_seq ?_
        refine aw_region ?_
        refine run_s (ss_load_ptr rfl rfl) rfl ?_
        refine run_s (ss_lenL (f := (fun r => C.lst (ints r))) rfl) rfl ?_
        refine run_s (ss_makeFunc (os := [.tmp 1]) rfl) rfl ?_
        obtain ⟨q19, h⟩ := h
        refine run_w (ws_call (xs := [.tmp 45, .tmp 46]) (ids := [47]) rfl rfl rfl rfl (c_impl_rackBy (list.length : Int) 67 [.ptr [.lst (rows list)]] (fun z0 z1 => cjV list z0 z1) (fun z0 z1 => GoodL list ∧ (list.length : Int) ≤ 12 ∧ 0 ≤ z0 ∧ z0 < (list.length : Int) ∧ 0 ≤ z1 ∧ z1 < (list.length : Int)) (fun z0 z1 hD => c_impl_ConjugationQuandle_1 z0 z1 list hD) q19) rfl ?_ )
        rintro _ rfl
        refine ⟨rfl, ?_⟩
        refine run_w (ws_alloc (id := 6) rfl (Nat.le_of_ble_eq_true rfl) ⟨rfl, ?_⟩)
        refine run_w (ws_storeS rfl rfl (Nat.le_of_ble_eq_true rfl) rfl rfl rfl ⟨rfl, ?_⟩)
        refine run_nil ?_
        refine aw_seq ?_
        refine aw_seq ?_
        refine aw_gh (gh_to (n := 54) (σ' := [(6, ⟨[.hole], [(0, .ref 47)]⟩), (47, ⟨orows (tab (list.length : Int) (fun z0 z1 => cjV list z0 z1)), []⟩), (2, ⟨[cnil], []⟩)]) (env' := [(2, .cell 2 0), (6, .cell 6 0)]) rfl rfl ⟨rfl, rfl, trivial⟩) ?_
        refine aw_region ?_
        refine run_s (ss_field_cell rfl) rfl ?_
        refine run_s (ss_loadH rfl rfl rfl rfl) rfl ?_
        obtain ⟨q21, h⟩ := h
        refine run_w (ws_callR (xs := [.tmp 49]) (cs := [.own (orows (tab (list.length : Int) (fun z0 z1 => cjV list z0 z1)))]) (ids := []) rfl (.inr ⟨rfl, rfl⟩) rfl rfl (fz_cons (fz_own (fz_map (fun _ => (fz_own (fz_map (fun _ => rfl) _))) _)) fz_nil) (c_impl_IsTable (tab (list.length : Int) (fun z0 z1 => cjV list z0 z1)) q21) rfl ?_ )
        rintro _ rfl
        refine ⟨rfl, rfl, ?_⟩
        refine run_s (ss_not rfl) rfl ?_
        refine run_nil ?_
        refine aw_cond rfl (fun q23 => ?_) (fun q23 => ?_)
        · replace h := h.1 ((bnot_t q23))
          refine aw_seq ?_
          refine aw_gh (gh_to (n := 54) (σ' := [(6, ⟨[.hole], [(0, .ref 47)]⟩), (47, ⟨orows (tab (list.length : Int) (fun z0 z1 => cjV list z0 z1)), []⟩), (2, ⟨[cnil], []⟩)]) (env' := [(2, .cell 2 0)]) rfl rfl ⟨rfl, trivial⟩) ?_
          refine aw_region ?_
          refine run_s (ss_build0) rfl ?_
          refine run_w (ws_storeS rfl rfl (Nat.le_of_ble_eq_true rfl) rfl rfl rfl ⟨rfl, ?_⟩)
          refine run_s (ss_assign rfl) rfl ?_
          refine run_nil ?_
          refine aw_ret ?_
          exact retAF_mk (retv2 rfl (rv_struct rfl rfl rfl) (rv_tmp rfl)) rfl rfl ⟨_, (cle_tup (cleL_cons (cle_agg (cleL_cons cle_nilO cleL_nil)) (cleL_cons (cle_refl _) cleL_nil))), _, _, h, rfl⟩
        · replace h := h.2 ((bnot_f q23))
          refine aw_skip ?_
          refine aw_seq ?_
          refine aw_region ?_
          refine run_s (ss_loadS rfl rfl rfl rfl) rfl ?_
          refine run_w (ws_storeS rfl rfl (Nat.le_of_ble_eq_true rfl) rfl rfl rfl ⟨rfl, ?_⟩)
          refine run_s (ss_assign rfl) rfl ?_
          refine run_nil ?_
          refine aw_ret ?_
          exact retAF_mk (retv2 rfl (rv_struct rfl rfl rfl) (rv_tmp rfl)) rfl rfl ⟨_, (cle_refl _), _, _, h, rfl⟩

theorem c_impl_ConjugationQuandle (list : List (List Int)) (hp : small2 list) : AF Try.prog 18 [.lst (rows list)] (fun R_ => R_ = .tup [.agg [.own (orows (CjqT list))], ci (CjqE list)]) :=
  (w_impl_ConjugationQuandle list (fun y0 y1 => y0 = CjqT list ∧ y1 = CjqE list) (p_impl_ConjugationQuandle list hp)).mono (by rintro r ⟨_, _, ⟨rfl, rfl⟩, rfl⟩; rfl)

end Go.Proofs.Ytllimiejaijbkaa

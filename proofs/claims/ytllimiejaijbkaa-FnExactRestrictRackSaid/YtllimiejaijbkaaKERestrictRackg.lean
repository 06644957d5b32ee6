/- Contracts of functions that the law FnExactRestrictRack reaches: conditions, plain proofs, walks; no condition. -/
import Derived.Test.YtllimiejaijbkaaKERestrictRackf
import Derived.Test.YtllimiejaijbkaaPg
namespace Go.Proofs.Ytllimiejaijbkaa

def wp_impl_RestrictRack_1 (x : Int) (y : Int) (list : List Int) (r : List (List Int)) (Q : Int → Prop) : Prop :=
 (0 ≤ x ∧ x < (list.length : Int)) ∧
 (0 ≤ el list x ∧ el list x < (r.length : Int)) ∧
 (0 ≤ y ∧ y < (list.length : Int)) ∧
 (0 ≤ el list y ∧ el list y < ((el r (el list x)).length : Int)) ∧
 (small list) ∧
 Q (idxI list (el (el r (el list x)) (el list y)))

def wp_spec_RestrictRack (r : List (List Int)) (list : List Int) (Q : List (List Int) → Int → Prop) : Prop :=
 (small2 r) ∧
 (((isRk r) = false →
  Q ([]) 1) ∧
 ((isRk r) = true →
  (small list ∧ 0 ≤ (r.length : Int) ∧ (r.length : Int) ≤ 1000000000) ∧
  (((list.all (fun z_ => decide (0 ≤ z_) && decide (z_ ≤ (r.length : Int) - 1))) = false →
   Q ([]) 2) ∧
  ((list.all (fun z_ => decide (0 ≤ z_) && decide (z_ ≤ (r.length : Int) - 1))) = true →
   ∃ (H1 : Int → Prop) (m1 : Int → Nat),
   H1 1 ∧
   ∀ (v6_1 : Int), H1 v6_1 →
   ( ((v6_1 < (list.length : Int) →
     (0 ≤ v6_1 ∧ v6_1 < (list.length : Int)) ∧
     (InI (v6_1 - 1)) ∧
     (0 ≤ v6_1 - 1 ∧ v6_1 - 1 < (list.length : Int)) ∧
     ((el list v6_1 ≤ el list (v6_1 - 1) →
      Q ([]) 2) ∧
     (¬ (el list v6_1 ≤ el list (v6_1 - 1)) →
      (InI (v6_1 + 1)) ∧
      (H1 (v6_1 + 1) ∧ m1 (v6_1 + 1) < m1 v6_1)))) ∧
    (¬ (v6_1 < (list.length : Int)) →
     ∃ (H2 : Int → List (List Int) → Prop) (m2 : Int → List (List Int) → Nat),
     H2 0 ([] : List (List Int)) ∧
     ∀ (v8_2 : Int) (o200112_2 : List (List Int)), H2 v8_2 o200112_2 →
     ( ((v8_2 < (list.length : Int) →
       ∃ (H3 : Int → List Int → Prop) (m3 : Int → List Int → Nat),
       H3 0 ([] : List Int) ∧
       ∀ (v10_3 : Int) (o46_3 : List Int), H3 v10_3 o46_3 →
       ( ((v10_3 < (list.length : Int) →
         (0 ≤ v8_2 ∧ v8_2 < (list.length : Int)) ∧
         (0 ≤ v10_3 ∧ v10_3 < (list.length : Int)) ∧
         (0 ≤ el list v8_2 ∧ el list v8_2 < (r.length : Int)) ∧
         (0 ≤ el list v10_3 ∧ el list v10_3 < ((el r (el list v8_2)).length : Int)) ∧
         (small list) ∧
         ((o46_3.length : Int) + (([idxI list (el (el r (el list v8_2)) (el list v10_3))]).length : Int) ≤ 1000000000) ∧
         (InI (v10_3 + 1)) ∧
         (H3 (v10_3 + 1) (o46_3 ++ ([idxI list (el (el r (el list v8_2)) (el list v10_3))])) ∧ m3 (v10_3 + 1) (o46_3 ++ ([idxI list (el (el r (el list v8_2)) (el list v10_3))])) < m3 v10_3 o46_3)) ∧
        (¬ (v10_3 < (list.length : Int)) →
         ((o200112_2.length : Int) + (([o46_3]).length : Int) ≤ 1000000000) ∧
         (InI (v8_2 + 1)) ∧
         (H2 (v8_2 + 1) (o200112_2 ++ ([o46_3])) ∧ m2 (v8_2 + 1) (o200112_2 ++ ([o46_3])) < m2 v8_2 o200112_2))))) ∧
      (¬ (v8_2 < (list.length : Int)) →
       (small2 o200112_2) ∧
       (((isTab o200112_2) = false →
        Q ([]) 5) ∧
       ((isTab o200112_2) = true →
        Q o200112_2 0))))))))))))

def wp_impl_RestrictRack (r : List (List Int)) (list : List Int) (Q : List (List Int) → Int → Prop) : Prop :=
 (small2 r) ∧
 (((isRk r) = false →
  Q ([]) 1) ∧
 ((isRk r) = true →
  (small list ∧ 0 ≤ (r.length : Int) ∧ (r.length : Int) ≤ 1000000000) ∧
  (((list.all (fun z_ => decide (0 ≤ z_) && decide (z_ ≤ (r.length : Int) - 1))) = false →
   Q ([]) 2) ∧
  ((list.all (fun z_ => decide (0 ≤ z_) && decide (z_ ≤ (r.length : Int) - 1))) = true →
   (small list) ∧
   (((incB list) = false →
    Q ([]) 2) ∧
   ((incB list) = true →
    (((list.length : Int) = 0 →
     Q ([]) 5) ∧
    (¬ ((list.length : Int) = 0) →
     (isTab r = true ∧ small list ∧ ∀ x_ ∈ list, 0 ≤ x_ ∧ x_ < (r.length : Int)) ∧
     (((dec (SubP r list)) = false →
      Q ([]) 5) ∧
     ((dec (SubP r list)) = true →
      (0 ≤ (list.length : Int) ∧ (list.length : Int) ≤ 1000000 ∧ ∀ x_ y_, 0 ≤ x_ → x_ < (list.length : Int) → 0 ≤ y_ → y_ < (list.length : Int) → (fun z0 z1 => isTab r = true ∧ small list ∧ (∀ x_ ∈ list, 0 ≤ x_ ∧ x_ < (r.length : Int)) ∧ 0 ≤ z0 ∧ z0 < (list.length : Int) ∧ 0 ≤ z1 ∧ z1 < (list.length : Int)) x_ y_ ∧ InI ((fun z0 z1 => resV r list z0 z1) x_ y_)) ∧
      Q (tab (list.length : Int) (fun z0 z1 => resV r list z0 z1)) 0))))))))))


theorem cj_pre {x y : List Int} (hp : cjD x y) : (small x ∧ isPerm x = true) ∧ (small (backI x) ∧ ∀ x_ ∈ backI x, 0 ≤ x_ ∧ x_ < (y.length : Int)) ∧ (small ((backI x).map (el y)) ∧ ∀ x_ ∈ (backI x).map (el y), 0 ≤ x_ ∧ x_ < (x.length : Int)) := by
  obtain ⟨h1, h2, h3, h4⟩ := hp
  have hb := isPerm_backI h2
  have hs : (x.length : Int) ≤ 1000000000 := h1
  have key : ∀ z ∈ backI x, 0 ≤ z ∧ z < (y.length : Int) := fun z hz => by
    have := (isPerm_iff.1 hb).2 z hz
    simp at this; omega
  refine ⟨⟨h1, h2⟩, ⟨by show _ ≤ (1000000000 : Int); simp; omega, key⟩, by show _ ≤ (1000000000 : Int); simp; omega, fun z hz => ?_⟩
  obtain ⟨w, hw, rfl⟩ := List.mem_map.1 hz
  have := isPerm_el h4 (key w hw)
  omega
theorem idxL_self {list : List (List Int)} {i : Int} (hi : 0 ≤ i ∧ i < (list.length : Int)) : idxL list (el list i) = i ↔ ∀ j, 0 ≤ j → j < i → el list j ≠ el list i := by
  constructor
  · intro h j j0 j1 e
    have hex : ∃ m : Nat, (m : Int) ≤ j ∧ el list (m : Int) = el list i ∧ ∀ k : Nat, k < m → el list (k : Int) ≠ el list i := by
      have key : ∀ n : Nat, (∃ m : Nat, m ≤ n ∧ el list (m : Int) = el list i) → ∃ m : Nat, m ≤ n ∧ el list (m : Int) = el list i ∧ ∀ k : Nat, k < m → el list (k : Int) ≠ el list i := by
        intro n
        induction n with
        | zero => intro ⟨m, hm, e⟩; exact ⟨m, hm, e, fun k hk => by omega⟩
        | succ n ih =>
          intro ⟨m, hm, e⟩
          by_cases hc : ∃ m : Nat, m ≤ n ∧ el list (m : Int) = el list i
          · obtain ⟨m', a, b, c⟩ := ih hc
            exact ⟨m', by omega, b, c⟩
          · exact ⟨m, hm, e, fun k hk e2 => hc ⟨k, by omega, e2⟩⟩
      obtain ⟨m, a, b, c⟩ := key j.toNat ⟨j.toNat, Nat.le_refl _, by rw [show ((j.toNat : Nat) : Int) = j by omega]; exact e⟩
      exact ⟨m, by omega, b, c⟩
    obtain ⟨m, a, b, c⟩ := hex
    have := idxF_found (t := list) (f := fun own => decide (own = el list i)) (i := (m : Int)) ⟨by omega, by omega⟩ (fun k k0 k1 => by
      have := c k.toNat (by omega)
      rw [show ((k.toNat : Nat) : Int) = k by omega] at this
      exact decide_eq_false this) (decide_eq_true b)
    unfold idxL at h
    omega
  · intro h
    exact idxF_found hi (fun j j0 j1 => decide_eq_false (h j j0 j1)) (decide_eq_true rfl)
theorem good_cj {list : List (List Int)} (h : GoodL list) {x y : Int} (hx : 0 ≤ x ∧ x < (list.length : Int)) (hy : 0 ≤ y ∧ y < (list.length : Int)) : cjD (el list x) (el list y) := by
  obtain ⟨a1, a2, _⟩ := h.2 x hx.1 hx.2
  obtain ⟨b1, b2, _⟩ := h.2 y hy.1 hy.2
  have := permB_len a1
  exact ⟨by show _ ≤ (1000000000 : Int); omega, permB_isPerm a1, by omega, permB_isPerm b1⟩
theorem small_cj {x y : List Int} (h : small x) : small (conjI x y) := by
  have : (x.length : Int) ≤ 1000000000 := h
  show _ ≤ (1000000000 : Int); simp [conjI]; omega
theorem good_small2 {list : List (List Int)} (h : GoodL list) (h2 : (list.length : Int) ≤ 12) : small2 list := ⟨by show _ ≤ (1000000000 : Int); omega, fun r hr => by
  obtain ⟨i, hi, rfl⟩ := mem_el hr
  have := permB_len (h.2 i hi.1 hi.2).1
  show _ ≤ (1000000000 : Int); omega⟩
theorem idxL_in {lists : List (List Int)} {list : List Int} : -1 ≤ idxL lists list ∧ idxL lists list < (lists.length : Int) ∨ idxL lists list = -1 := by
  unfold idxL idxF
  split
  · rename_i h
    have : lists.findIdx (fun own => decide (own = list)) < lists.length := List.findIdx_lt_length_of_exists (by simpa using h)
    left; omega
  · right; rfl
theorem cjq1 {l : List (List Int)} (h : dec (GoodL l) = false) : [] = CjqT l ∧ 1 = CjqE l := by
  have e : CjqE l = 1 := by unfold CjqE; rw [h]; rfl
  exact ⟨by unfold CjqT; rw [e]; rfl, e.symm⟩
theorem cjq3 {l : List (List Int)} (h : dec (GoodL l) = true) (h2 : (12 : Int) < (l.length : Int)) : [] = CjqT l ∧ 3 = CjqE l := by
  have e : CjqE l = 3 := by unfold CjqE; rw [h, if_pos h2]; rfl
  exact ⟨by unfold CjqT; rw [e]; rfl, e.symm⟩
theorem cjq5 {l : List (List Int)} (h : dec (GoodL l) = true) (h2 : ¬ (12 : Int) < (l.length : Int)) (h3 : isTab (cjT l) = false) : [] = CjqT l ∧ 5 = CjqE l := by
  have e : CjqE l = 5 := by unfold CjqE; rw [h, if_neg h2, h3]; rfl
  exact ⟨by unfold CjqT; rw [e]; rfl, e.symm⟩
theorem cjq0 {l : List (List Int)} (h : dec (GoodL l) = true) (h2 : ¬ (12 : Int) < (l.length : Int)) (h3 : isTab (cjT l) = true) : cjT l = CjqT l ∧ 0 = CjqE l := by
  have e : CjqE l = 0 := by unfold CjqE; rw [h, if_neg h2, h3]; rfl
  exact ⟨by unfold CjqT; rw [e]; rfl, e.symm⟩
theorem p_impl_RestrictRack_1 (x y : Int) (list : List Int) (r : List (List Int)) (hp : isTab r = true ∧ small list ∧ (∀ x_ ∈ list, 0 ≤ x_ ∧ x_ < (r.length : Int)) ∧ 0 ≤ x ∧ x < (list.length : Int) ∧ 0 ≤ y ∧ y < (list.length : Int)) : wp_impl_RestrictRack_1 x y list r (fun y0 => y0 = resV r list x y) := by
  obtain ⟨h1, h2, h3, x0, x1, y0, y1⟩ := hp
  have hx := h3 _ (el_mem (l := list) (i := x) ⟨x0, x1⟩)
  have hy := h3 _ (el_mem (l := list) (i := y) ⟨y0, y1⟩)
  have l := rk_len h1 hx
  exact ⟨⟨x0, x1⟩, hx, ⟨y0, y1⟩, ⟨hy.1, by omega⟩, h2, rfl⟩
theorem cyc_permB {c : List (List Int)} (h : isCyc c = true) {i : Int} (hi : 0 ≤ i ∧ i < (c.length : Int)) : permB (el c i) = true := by
  have := isTab_perm (isCyc_tab h)
  rw [isCyc_perm h] at this
  exact all_el.1 this i hi.1 hi.2
theorem res1 {r : List (List Int)} {l : List Int} (h : isRk r = false) : [] = ResT r l ∧ 1 = ResE r l := by
  have e : ResE r l = 1 := by unfold ResE; rw [h]; rfl
  exact ⟨by unfold ResT; rw [e]; rfl, e.symm⟩
theorem res2 {r : List (List Int)} {l : List Int} (h : isRk r = true) (h2 : ((l.all fun z_ => decide (0 ≤ z_) && decide (z_ ≤ (r.length : Int) - 1)) && incB l) = false) : [] = ResT r l ∧ 2 = ResE r l := by
  have e : ResE r l = 2 := by unfold ResE; rw [h, h2]; rfl
  exact ⟨by unfold ResT; rw [e]; rfl, e.symm⟩
theorem res5 {r : List (List Int)} {l : List Int} (h : isRk r = true) (h2 : ((l.all fun z_ => decide (0 ≤ z_) && decide (z_ ≤ (r.length : Int) - 1)) && incB l) = true) (h3 : (decide (1 ≤ (l.length : Int)) && dec (SubP r l)) = false) : [] = ResT r l ∧ 5 = ResE r l := by
  have e : ResE r l = 5 := by unfold ResE; rw [h, h2, h3]; rfl
  exact ⟨by unfold ResT; rw [e]; rfl, e.symm⟩
theorem res0 {r : List (List Int)} {l : List Int} (h : isRk r = true) (h2 : ((l.all fun z_ => decide (0 ≤ z_) && decide (z_ ≤ (r.length : Int) - 1)) && incB l) = true) (h3 : (decide (1 ≤ (l.length : Int)) && dec (SubP r l)) = true) : tab (l.length : Int) (resV r l) = ResT r l ∧ 0 = ResE r l := by
  have e : ResE r l = 0 := by unfold ResE; rw [h, h2, h3]; rfl
  exact ⟨by unfold ResT; rw [e]; rfl, e.symm⟩
theorem res_el {r : List (List Int)} {l : List Int} (h : (l.all fun z_ => decide (0 ≤ z_) && decide (z_ ≤ (r.length : Int) - 1)) = true) : ∀ x ∈ l, 0 ≤ x ∧ x < (r.length : Int) := fun x hx => by
  have := List.all_eq_true.1 h x hx
  simp only [Bool.and_eq_true, decide_eq_true_eq] at this
  omega
theorem inc_nodup {l : List Int} (h : incB l = true) : l.Nodup := nodup_el.2 fun i j i0 ij jl e => by
  have := inc_lt (incB_iff.1 h) (j - i).toNat i i0 (by omega)
  rw [show i + (((j - i).toNat : Nat) : Int) = j by omega] at this
  omega
theorem res_len {r : List (List Int)} {l : List Int} (hr : isTab r = true) (h1 : ∀ x ∈ l, 0 ≤ x ∧ x < (r.length : Int)) (h2 : incB l = true) : (l.length : Int) ≤ 12 := by
  have := nodup_len_ran (n := (r.length : Int)) (by omega) (inc_nodup h2) h1
  have := isTab_len hr
  omega
theorem idxI_neg {l : List Int} {x : Int} (h : ¬ x ∈ l) : idxI l x = -1 := by
  have : decide (0 ≤ idxI l x) = false := by rw [idxI_has, Bool.eq_false_iff]; exact fun h2 => h (List.contains_iff_mem.1 h2)
  have h2 := of_decide_eq_false this
  unfold idxI idxF at h2 ⊢
  split at h2
  · omega
  · rename_i h3; rw [if_neg h3]
theorem res_tab {r : List (List Int)} {l : List Int} (hr : isTab r = true) (h1 : ∀ x ∈ l, 0 ≤ x ∧ x < (r.length : Int)) (h2 : incB l = true) : isTab (tab (l.length : Int) (resV r l)) = (decide (1 ≤ (l.length : Int)) && dec (SubP r l)) := by
  have h12 := res_len hr h1 h2
  by_cases h0 : 1 ≤ (l.length : Int)
  · rw [decide_eq_true h0, Bool.true_and, Bool.eq_iff_iff, isTab_tab_iff ⟨h0, h12⟩, dec_iff]
    constructor
    · intro h x hx y hy
      obtain ⟨i, hi, rfl⟩ := mem_el hx
      obtain ⟨j, hj, rfl⟩ := mem_el hy
      have := (h i j hi.1 hi.2 hj.1 hj.2).1
      apply Classical.byContradiction
      intro hn
      have e := idxI_neg hn
      unfold resV at this
      omega
    · intro h x y x0 x1 y0 y1
      exact (idxI_spec (h _ (el_mem ⟨x0, x1⟩) _ (el_mem ⟨y0, y1⟩))).1
  · rw [decide_eq_false h0, Bool.false_and]
    have : (l.length : Int) = 0 := by omega
    rw [this]; rfl
theorem p_impl_RestrictRack (r : List (List Int)) (list : List Int) (hp : small2 r ∧ small list) : wp_impl_RestrictRack r list (fun y0 y1 => y0 = ResT r list ∧ y1 = ResE r list) := by
  unfold wp_impl_RestrictRack
  refine ⟨hp.1, fun h => res1 h, fun h => ?_⟩
  have hr := isRk_tab h
  have hn := isTab_len hr
  refine ⟨⟨hp.2, by omega, by omega⟩, fun h1 => res2 h (by rw [h1]; rfl), fun h1 => ⟨hp.2, fun h2 => res2 h (by rw [h1, h2]; rfl), fun h2 => ?_⟩⟩
  have h12 : ((list.all fun z_ => decide (0 ≤ z_) && decide (z_ ≤ (r.length : Int) - 1)) && incB list) = true := by rw [h1, h2]; rfl
  have he := res_el h1
  have hl := res_len hr he h2
  refine ⟨fun h3 => res5 h h12 (by rw [decide_eq_false (by omega)]; rfl), fun h3 => ⟨⟨hr, hp.2, he⟩, fun h4 => res5 h h12 (by rw [h4]; exact Bool.and_false _), fun h4 => ?_⟩⟩
  have h34 : (decide (1 ≤ (list.length : Int)) && dec (SubP r list)) = true := by rw [h4, decide_eq_true (by omega)]; rfl
  refine ⟨⟨by omega, by omega, fun x y x0 x1 y0 y1 => ⟨⟨hr, hp.2, he, x0, x1, y0, y1⟩, ?_⟩⟩, res0 h h12 h34⟩
  have := (idxI_spec (dec_iff.1 h4 _ (el_mem (l := list) (i := x) ⟨x0, x1⟩) _ (el_mem (l := list) (i := y) ⟨y0, y1⟩))).1
  constructor <;> (try dsimp only) <;> (unfold resV; omega)
theorem p_spec_RestrictRack (r : List (List Int)) (list : List Int) (hp : small2 r ∧ small list) : wp_spec_RestrictRack r list (fun y0 y1 => y0 = ResT r list ∧ y1 = ResE r list) := by
  unfold wp_spec_RestrictRack
  have hs : (list.length : Int) ≤ 1000000000 := hp.2
  refine ⟨hp.1, fun h => res1 h, fun h => ?_⟩
  have hr := isRk_tab h
  have hn := isTab_len hr
  refine ⟨⟨hp.2, by omega, by omega⟩, fun h1 => res2 h (by rw [h1]; rfl), fun h1 => ?_⟩
  have he := res_el h1
  refine ⟨fun i => 1 ≤ i ∧ (i ≤ (list.length : Int) ∨ i = 1) ∧ ∀ j, 0 ≤ j → j + 1 < i → el list j < el list (j + 1), fun i => ((list.length : Int) - i).toNat, ⟨by omega, by omega, fun j _ _ => by omega⟩, ?_⟩
  rintro i ⟨i0, i1, hI⟩
  dsimp only
  refine ⟨fun hlt => ⟨⟨by omega, hlt⟩, ⟨by omega, by omega⟩, ⟨by omega, by omega⟩, fun hf => res2 h ?_, fun ht => ⟨⟨by omega, by omega⟩, ⟨by omega, by omega, fun j a b => ?_⟩, by omega⟩⟩, fun hge => ?_⟩
  · have : incB list = false := by
      rw [Bool.eq_false_iff]; intro hc
      have := incB_iff.1 hc (i - 1) (by omega) (by omega)
      rw [show i - 1 + 1 = i by omega] at this
      omega
    rw [this]; exact Bool.and_false _
  · by_cases e : j + 1 = i
    · have e2 : j = i - 1 := by omega
      subst e2
      rw [show i - 1 + 1 = i by omega]; omega
    · exact hI j a (by omega)
  · have h2 : incB list = true := incB_iff.2 fun j a b => hI j a (by omega)
    have h12 : ((list.all fun z_ => decide (0 ≤ z_) && decide (z_ ≤ (r.length : Int) - 1)) && incB list) = true := by rw [h1, h2]; rfl
    have hl := res_len hr he h2
    refine ⟨fun x o => 0 ≤ x ∧ x ≤ (list.length : Int) ∧ o.length = x.toNat ∧ Upto x fun x => el o x = ran (list.length : Int) (resV r list x), fun x _ => ((list.length : Int) - x).toNat, ⟨by omega, by omega, by simp, upto0⟩, ?_⟩
    rintro x o ⟨x0, x1, xl, xI⟩
    dsimp only
    refine ⟨fun xlt => ?_, fun xge => ?_⟩
    · refine ⟨fun y q => 0 ≤ y ∧ y ≤ (list.length : Int) ∧ q.length = y.toNat ∧ Upto y fun y => el q y = resV r list x y, fun y _ => ((list.length : Int) - y).toNat, ⟨by omega, by omega, by simp, upto0⟩, ?_⟩
      rintro y q ⟨y0, y1, yl, yI⟩
      dsimp only
      refine ⟨fun ylt => ?_, fun yge => ?_⟩
      · have hx := he _ (el_mem (l := list) (i := x) ⟨x0, xlt⟩)
        have hy := he _ (el_mem (l := list) (i := y) ⟨y0, ylt⟩)
        have l := rk_len hr hx
        exact ⟨⟨x0, xlt⟩, ⟨y0, ylt⟩, hx, ⟨hy.1, by omega⟩, hp.2, by simp; omega, ⟨by omega, by omega⟩, ⟨by omega, by omega, by simp; omega, app1 (f := resV r list x) (by omega) yI rfl⟩, by omega⟩
      · have hq : q = ran (list.length : Int) (resV r list x) := eq_ran (by omega) fun k u v => yI k u (by omega)
        exact ⟨by simp; omega, ⟨by omega, by omega⟩, ⟨by omega, by omega, by simp; omega, app1 (f := fun x => ran (list.length : Int) (resV r list x)) (by omega) xI hq⟩, by omega⟩
    · have ho : o = tab (list.length : Int) (resV r list) := eq_ran (by omega) fun k u v => xI k u (by omega)
      subst ho
      rw [res_tab hr he h2]
      exact ⟨small2_tab' (by omega), fun h3 => res5 h h12 h3, fun h3 => res0 h h12 h3⟩
theorem quo1 {r : List (List Int)} {c : List Int} (h : (isRk r && partB (r.length : Int) c) = false) : [] = QuoT r c ∧ 1 = QuoE r c := by
  have e : QuoE r c = 1 := by unfold QuoE; rw [h]; rfl
  exact ⟨by unfold QuoT; rw [e]; rfl, e.symm⟩
theorem quo5 {r : List (List Int)} {c : List Int} (h : (isRk r && partB (r.length : Int) c) = true) (h2 : dec (CongP r c) = false) : [] = QuoT r c ∧ 5 = QuoE r c := by
  have e : QuoE r c = 5 := by unfold QuoE; rw [h, h2]; rfl
  exact ⟨by unfold QuoT; rw [e]; rfl, e.symm⟩
theorem quo0 {r : List (List Int)} {c : List Int} (h : (isRk r && partB (r.length : Int) c) = true) (h2 : dec (CongP r c) = true) : quoT r c = QuoT r c ∧ 0 = QuoE r c := by
  have e : QuoE r c = 0 := by unfold QuoE; rw [h, h2]; rfl
  exact ⟨by unfold QuoT; rw [e]; rfl, e.symm⟩
set_option maxRecDepth 100000 in
set_option maxHeartbeats 1000000 in
theorem w_impl_RestrictRack_1 (x : Int) (y : Int) (list : List Int) (r : List (List Int)) (Q : Int → Prop) (h : wp_impl_RestrictRack_1 x y list r Q) : AF Try.prog 93 [ci x, ci y, .ptr [.lst (ints list)], .ptr [.lst (rows r)]] (fun R_ => ∃ y0, Q y0 ∧ R_ = ci y0) := by
  refine AF.ofWQ (af_enter (n := 23) Try.func93 rfl (by rfl) rfl (Nat.le_of_ble_eq_true rfl) ?_)
  unfold wp_impl_RestrictRack_1 at h
  refine aw_seq ?_
  refine aw_gh (gh_to (n := 23) (σ' := []) (env' := [(0, .c (ci x)), (1, .c (ci y)), (2, .c (.ptr [.lst (ints list)])), (3, .c (.ptr [.lst (rows r)]))]) rfl rfl ⟨rfl, rfl, rfl, rfl, trivial⟩) ?_
  refine aw_region ?_
  refine run_s (ss_assign rfl) rfl ?_
  refine run_nil ?_
  refine aw_seq ?_
  refine aw_gh (gh_to (n := 23) (σ' := []) (env' := [(0, .c (ci x)), (1, .c (ci y)), (2, .c (.ptr [.lst (ints list)])), (3, .c (.ptr [.lst (rows r)])), (6, .c (ci 0))]) rfl rfl ⟨rfl, rfl, rfl, rfl, rfl, trivial⟩) ?_
  refine aw_regionD (kd := kdl [1, 0, 1, 1, 0, 0, 1, 0, 1, 1, 0, 0, 1, 0, 1, 2, 0]) (ord := [1, 4, 10, 0, 2, 3, 5, 6, 7, 8, 9, 11, 12, 13, 14, 15, 16]) [] mixed (by kernel_rfl) ?_
  refine rd_s rfl rfl trivial (ss_field_ptr rfl) rfl ?_
  refine rd_s rfl rfl trivial (ss_move rfl) rfl ?_
  refine rd_s rfl rfl trivial (ss_move rfl) rfl ?_
  refine rd_l rfl rfl trivial (ss_load_ptr rfl rfl) rfl ?_
  refine rd_l rfl rfl trivial (ss_load_ptr rfl rfl) rfl ?_
  refine rd_l rfl rfl trivial (ss_load_ptr rfl rfl) rfl ?_
  obtain ⟨q1, h⟩ := h
  refine rd_s rfl rfl trivial (ss_idxL rfl rfl q1) rfl ?_
  refine rd_l rfl rfl trivial (ss_loadL (f := ci) rfl q1) rfl ?_
  obtain ⟨q2, h⟩ := h
  refine rd_s rfl rfl trivial (ss_idxL rfl rfl q2) rfl ?_
  refine rd_l rfl rfl trivial (ss_loadL (f := (fun r => C.lst (ints r))) rfl q2) rfl ?_
  refine rd_l rfl rfl trivial (ss_load_ptr rfl rfl) rfl ?_
  obtain ⟨q3, h⟩ := h
  refine rd_s rfl rfl trivial (ss_idxL rfl rfl q3) rfl ?_
  refine rd_l rfl rfl trivial (ss_loadL (f := ci) rfl q3) rfl ?_
  obtain ⟨q4, h⟩ := h
  refine rd_s rfl rfl trivial (ss_idxL rfl rfl q4) rfl ?_
  refine rd_l rfl rfl trivial (ss_loadL (f := ci) rfl q4) rfl ?_
  obtain ⟨q5, h⟩ := h
  refine rd_w rfl rfl trivial rfl rfl (ws_call (xs := [.tmp 7, .tmp 21]) (ids := []) rfl rfl rfl rfl (c_k_Index list (el (el r (el list x)) (el list y)) q5) rfl ?_ )
  rintro _ rfl
  refine ⟨rfl, ?_⟩
  refine rd_s rfl rfl trivial (ss_assign rfl) rfl ?_
  refine rd_nil ?_
  refine aw_ret ?_
  exact retAF_mk (retv1 rfl (rv_tmp rfl)) rfl rfl ⟨_, (cle_refl _), _, h, rfl⟩

theorem c_impl_RestrictRack_1 (x : Int) (y : Int) (list : List Int) (r : List (List Int)) (hp : isTab r = true ∧ small list ∧ (∀ x_ ∈ list, 0 ≤ x_ ∧ x_ < (r.length : Int)) ∧ 0 ≤ x ∧ x < (list.length : Int) ∧ 0 ≤ y ∧ y < (list.length : Int)) : AF Try.prog 93 [ci x, ci y, .ptr [.lst (ints list)], .ptr [.lst (rows r)]] (fun R_ => R_ = ci (resV r list x y)) :=
  (w_impl_RestrictRack_1 x y list r (fun y0 => y0 = resV r list x y) (p_impl_RestrictRack_1 x y list r hp)).mono (by rintro r ⟨_, rfl, rfl⟩; rfl)

set_option maxRecDepth 100000 in
set_option maxHeartbeats 1000000 in
theorem w_spec_RestrictRack (r : List (List Int)) (list : List Int) (Q : List (List Int) → Int → Prop) (h : wp_spec_RestrictRack r list Q) : AF Try.prog 48 [.agg [.lst (rows r)], .lst (ints list)] (fun R_ => ∃ y0 y1, Q y0 y1 ∧ R_ = .tup [.agg [.own (orows y0)], ci y1]) := by
  refine AF.ofWQ (af_enter (n := 84) Try.func48 rfl (by rfl) rfl (Nat.le_of_ble_eq_true rfl) ?_)
  unfold wp_spec_RestrictRack at h
  refine aw_seq ?_
  refine aw_gh (gh_to (n := 84) (σ' := []) (env' := [(0, .c (.agg [.lst (rows r)])), (1, .c (.lst (ints list)))]) rfl rfl ⟨rfl, rfl, trivial⟩) ?_
  refine aw_region ?_
  refine run_w (ws_boxR rfl (.inl rfl) rfl ⟨rfl, ?_⟩)
  refine run_w (ws_alloc (id := 4) rfl (Nat.le_of_ble_eq_true rfl) ⟨rfl, ?_⟩)
  refine run_s (ss_assign rfl) rfl ?_
  refine run_nil ?_
  refine aw_seq ?_
  refine aw_seq ?_
  refine aw_region ?_
  refine run_s (ss_load_struct rfl (Nat.le_of_ble_eq_true rfl)) rfl ?_
  obtain ⟨q1, h⟩ := h
  refine run_w (ws_call (xs := [.tmp 11]) (ids := []) rfl rfl rfl rfl (c_spec_l03Is r q1) rfl ?_ )
  rintro _ rfl
  refine ⟨rfl, ?_⟩
  refine run_s (ss_not rfl) rfl ?_
  refine run_nil ?_
  refine aw_cond rfl (fun q3 => ?_) (fun q3 => ?_)
  · replace h := h.1 ((bnot_t q3))
    refine aw_seq ?_
    refine aw_gh (gh_to (n := 84) (σ' := [(4, ⟨[cnil], []⟩)]) (env' := [(4, .cell 4 0), (5, .c (ci 0))]) rfl rfl ⟨rfl, rfl, trivial⟩) ?_
    refine aw_region ?_
    refine run_s (ss_build0) rfl ?_
    refine run_w (ws_storeS rfl rfl (Nat.le_of_ble_eq_true rfl) rfl rfl rfl ⟨rfl, ?_⟩)
    refine run_s (ss_assign rfl) rfl ?_
    refine run_nil ?_
    refine aw_ret ?_
    exact retAF_mk (retv2 rfl (rv_struct rfl rfl rfl) (rv_tmp rfl)) rfl rfl ⟨_, (cle_tup (cleL_cons (cle_agg (cleL_cons cle_nilO cleL_nil)) (cleL_cons (cle_refl _) cleL_nil))), _, _, h, rfl⟩
  · replace h := h.2 ((bnot_f q3))
    refine aw_skip ?_
    refine aw_seq ?_
    refine aw_seq ?_
    refine aw_region ?_
    refine run_s (ss_field_ptr rfl) rfl ?_
    refine run_s (ss_load_ptr rfl rfl) rfl ?_
    refine run_s (ss_lenL (f := (fun r => C.lst (ints r))) rfl) rfl ?_
    refine run_s (ss_move rfl) rfl ?_
    obtain ⟨q4, h⟩ := h
    refine run_w (ws_call (xs := [.tmp 17, .tmp 18]) (ids := []) rfl rfl rfl rfl (c_spec_l04Elements (r.length : Int) list q4) rfl ?_ )
    rintro _ rfl
    refine ⟨rfl, ?_⟩
    refine run_s (ss_not rfl) rfl ?_
    refine run_nil ?_
    refine aw_cond rfl (fun q6 => ?_) (fun q6 => ?_)
    · replace h := h.1 ((bnot_t q6))
      refine aw_seq ?_
      refine aw_gh (gh_to (n := 84) (σ' := [(4, ⟨[cnil], []⟩)]) (env' := [(4, .cell 4 0), (5, .c (ci 0))]) rfl rfl ⟨rfl, rfl, trivial⟩) ?_
      refine aw_region ?_
      refine run_s (ss_build0) rfl ?_
      refine run_w (ws_storeS rfl rfl (Nat.le_of_ble_eq_true rfl) rfl rfl rfl ⟨rfl, ?_⟩)
      refine run_s (ss_assign rfl) rfl ?_
      refine run_nil ?_
      refine aw_ret ?_
      exact retAF_mk (retv2 rfl (rv_struct rfl rfl rfl) (rv_tmp rfl)) rfl rfl ⟨_, (cle_tup (cleL_cons (cle_agg (cleL_cons cle_nilO cleL_nil)) (cleL_cons (cle_refl _) cleL_nil))), _, _, h, rfl⟩
    · replace h := h.2 ((bnot_f q6))
      refine aw_skip ?_
      refine aw_seq ?_
      refine aw_seq ?_
      refine aw_gh (gh_to (n := 84) (σ' := [(4, ⟨[cnil], []⟩)]) (env' := [(1, .c (.lst (ints list))), (2, .c (.ptr [.lst (rows r)])), (4, .cell 4 0)]) rfl rfl ⟨rfl, rfl, rfl, trivial⟩) ?_
      refine aw_region ?_
      refine run_s (ss_assign rfl) rfl ?_
      refine run_nil ?_
      refine aw_block ?_
      obtain ⟨H1, m1, q7, h⟩ := h
      refine aw_loop1 (fun (v6_1 : Int) => ⟨[(4, ⟨[cnil], []⟩)], [(1, .c (.lst (ints list))), (2, .c (.ptr [.lst (rows r)])), (4, .cell 4 0), (6, .c (ci v6_1))], 84⟩) H1 m1 ⟨1, ghe_to (n := 84) rfl rfl ⟨rfl, rfl, rfl, rfl, trivial⟩, q7⟩ ?_
      rintro v6_1 q7
      replace h := h v6_1 q7
      refine aw_seq ?_
      refine aw_seq ?_
      refine aw_region ?_
      refine run_s (ss_move rfl) rfl ?_
      refine run_s (ss_move rfl) rfl ?_
      refine run_s (ss_lenL (f := ci) rfl) rfl ?_
      refine run_s (ss_lss rfl rfl) rfl ?_
      refine run_nil ?_
      refine aw_cond rfl (fun q8 => ?_) (fun q8 => ?_)
      · replace h := h.1 (of_decide_eq_true q8)
        refine aw_skip ?_
        refine aw_seq ?_
        refine aw_block ?_
        refine aw_seq ?_
        refine aw_gh (gh_to (n := 84) (σ' := [(4, ⟨[cnil], []⟩)]) (env' := [(1, .c (.lst (ints list))), (2, .c (.ptr [.lst (rows r)])), (4, .cell 4 0), (6, .c (ci v6_1))]) rfl rfl ⟨rfl, rfl, rfl, rfl, trivial⟩) ?_
        refine aw_regionD (kd := kdl [0, 0, 0, 1, 0, 0, 0, 0, 1, 0]) (ord := [0, 1, 2, 4, 5, 6, 7, 3, 8, 9]) [] mixed (by kernel_rfl) ?_
        refine rd_s rfl rfl trivial (ss_move rfl) rfl ?_
        refine rd_s rfl rfl trivial (ss_move rfl) rfl ?_
        obtain ⟨q9, h⟩ := h
        refine rd_s rfl rfl trivial (ss_idxL rfl rfl q9) rfl ?_
        refine rd_s rfl rfl trivial (ss_move rfl) rfl ?_
        refine rd_s rfl rfl trivial (ss_move rfl) rfl ?_
        obtain ⟨q10, h⟩ := h
        refine rd_s rfl rfl trivial (ss_sub rfl rfl q10) rfl ?_
        obtain ⟨q11, h⟩ := h
        refine rd_s rfl rfl trivial (ss_idxL rfl rfl q11) rfl ?_
        refine rd_l rfl rfl trivial (ss_loadL (f := ci) rfl q9) rfl ?_
        refine rd_l rfl rfl trivial (ss_loadL (f := ci) rfl q11) rfl ?_
        refine rd_s rfl rfl trivial (ss_leq rfl rfl) rfl ?_
        refine rd_nil ?_
        refine aw_cond rfl (fun q12 => ?_) (fun q12 => ?_)
        · replace h := h.1 (of_decide_eq_true q12)
          refine aw_seq ?_
          refine aw_gh (gh_to (n := 84) (σ' := [(4, ⟨[cnil], []⟩)]) (env' := [(4, .cell 4 0)]) rfl rfl ⟨rfl, trivial⟩) ?_
          refine aw_region ?_
          refine run_s (ss_build0) rfl ?_
          refine run_w (ws_storeS rfl rfl (Nat.le_of_ble_eq_true rfl) rfl rfl rfl ⟨rfl, ?_⟩)
          refine run_s (ss_assign rfl) rfl ?_
          refine run_nil ?_
          refine aw_ret ?_
          exact retAF_mk (retv2 rfl (rv_struct rfl rfl rfl) (rv_tmp rfl)) rfl rfl ⟨_, (cle_tup (cleL_cons (cle_agg (cleL_cons cle_nilO cleL_nil)) (cleL_cons (cle_refl _) cleL_nil))), _, _, h, rfl⟩
        · replace h := h.2 (of_decide_eq_false q12)
          refine aw_skip ?_
          refine aw_gh (gh_to (n := 84) (σ' := [(4, ⟨[cnil], []⟩)]) (env' := [(1, .c (.lst (ints list))), (2, .c (.ptr [.lst (rows r)])), (4, .cell 4 0), (6, .c (ci v6_1))]) rfl rfl ⟨rfl, rfl, rfl, rfl, trivial⟩) ?_
          refine aw_region ?_
          refine run_s (ss_move rfl) rfl ?_
          obtain ⟨q13, h⟩ := h
          refine run_s (ss_add rfl rfl q13) rfl ?_
          refine run_s (ss_assign rfl) rfl ?_
          refine run_nil ?_
          exact ⟨v6_1 + 1, ghe_to (n := 84) rfl rfl ⟨rfl, rfl, rfl, rfl, trivial⟩, h.1, h.2⟩
      · replace h := h.2 (of_decide_eq_false q8)
        refine aw_exit ?_
        refine aw_seq ?_
        refine aw_gh (gh_to (n := 84) (σ' := [(4, ⟨[cnil], []⟩)]) (env' := [(1, .c (.lst (ints list))), (2, .c (.ptr [.lst (rows r)])), (4, .cell 4 0)]) rfl rfl ⟨rfl, rfl, rfl, trivial⟩) ?_
        refine aw_region ?_
        refine run_s (ss_build0) rfl ?_
        refine run_w (ws_alloc (id := 7) rfl (Nat.le_of_ble_eq_true rfl) ⟨rfl, ?_⟩)
        refine run_w (ws_storeS rfl rfl (Nat.le_of_ble_eq_true rfl) rfl rfl rfl ⟨rfl, ?_⟩)
        refine run_nil ?_
        refine aw_seq ?_
        refine aw_seq ?_
        refine aw_region ?_
        refine run_s (ss_assign rfl) rfl ?_
        refine run_nil ?_
        refine aw_block ?_
        obtain ⟨H2, m2, q14, h⟩ := h
        refine aw_loop2 (fun (v8_2 : Int) (o200112_2 : List (List Int)) => ⟨[(200112, ⟨orows o200112_2, []⟩), (7, ⟨[.hole], [(0, .ref 200112)]⟩), (4, ⟨[cnil], []⟩)], [(1, .c (.lst (ints list))), (2, .c (.ptr [.lst (rows r)])), (4, .cell 4 0), (7, .cell 7 0), (8, .c (ci v8_2))], 84⟩) H2 m2 ⟨0, ([] : List (List Int)), ghe_step (gh_nilH (id0 := 7) (j := 0) (id := 200112) rfl rfl rfl rfl) (ghe_to (n := 84) rfl rfl ⟨rfl, rfl, rfl, rfl, rfl, trivial⟩), q14⟩ ?_
        rintro v8_2 o200112_2 q14
        replace h := h v8_2 o200112_2 q14
        refine aw_seq ?_
        refine aw_seq ?_
        refine aw_region ?_
        refine run_s (ss_move rfl) rfl ?_
        refine run_s (ss_move rfl) rfl ?_
        refine run_s (ss_lenL (f := ci) rfl) rfl ?_
        refine run_s (ss_lss rfl rfl) rfl ?_
        refine run_nil ?_
        refine aw_cond rfl (fun q15 => ?_) (fun q15 => ?_)
        · replace h := h.1 (of_decide_eq_true q15)
          refine aw_skip ?_
          refine aw_seq ?_
          refine aw_block ?_
          refine aw_seq ?_
          refine aw_region ?_
          refine run_w (ws_buildSlice (id := 46) (ps := []) rfl rfl (Nat.le_of_ble_eq_true rfl) rfl ⟨rfl, ?_⟩)
          refine run_s (ss_assign rfl) rfl ?_
          refine run_nil ?_
          refine aw_seq ?_
          refine aw_seq ?_
          refine aw_gh (gh_to (n := 84) (σ' := [(46, ⟨ints ([] : List Int), []⟩), (200112, ⟨orows o200112_2, []⟩), (7, ⟨[.hole], [(0, .ref 200112)]⟩), (4, ⟨[cnil], []⟩)]) (env' := [(1, .c (.lst (ints list))), (2, .c (.ptr [.lst (rows r)])), (4, .cell 4 0), (7, .cell 7 0), (8, .c (ci v8_2)), (9, .ref 46)]) rfl rfl ⟨rfl, rfl, rfl, rfl, rfl, rfl, trivial⟩) ?_
          refine aw_region ?_
          refine run_s (ss_assign rfl) rfl ?_
          refine run_nil ?_
          refine aw_block ?_
          obtain ⟨H3, m3, q16, h⟩ := h
          refine aw_loop2 (fun (v10_3 : Int) (o46_3 : List Int) => ⟨[(46, ⟨ints o46_3, []⟩), (200112, ⟨orows o200112_2, []⟩), (7, ⟨[.hole], [(0, .ref 200112)]⟩), (4, ⟨[cnil], []⟩)], [(1, .c (.lst (ints list))), (2, .c (.ptr [.lst (rows r)])), (4, .cell 4 0), (7, .cell 7 0), (8, .c (ci v8_2)), (9, .ref 46), (10, .c (ci v10_3))], 84⟩) H3 m3 ⟨0, ([] : List Int), ghe_to (n := 84) rfl rfl ⟨rfl, rfl, rfl, rfl, rfl, rfl, rfl, trivial⟩, q16⟩ ?_
          rintro v10_3 o46_3 q16
          replace h := h v10_3 o46_3 q16
          refine aw_seq ?_
          refine aw_seq ?_
          refine aw_region ?_
          refine run_s (ss_move rfl) rfl ?_
          refine run_s (ss_move rfl) rfl ?_
          refine run_s (ss_lenL (f := ci) rfl) rfl ?_
          refine run_s (ss_lss rfl rfl) rfl ?_
          refine run_nil ?_
          refine aw_cond rfl (fun q17 => ?_) (fun q17 => ?_)
          · replace h := h.1 (of_decide_eq_true q17)
            refine aw_skip ?_
            refine aw_seq ?_
            refine aw_block ?_
            refine aw_gh (gh_to (n := 84) (σ' := [(46, ⟨ints o46_3, []⟩), (200112, ⟨orows o200112_2, []⟩), (7, ⟨[.hole], [(0, .ref 200112)]⟩), (4, ⟨[cnil], []⟩)]) (env' := [(1, .c (.lst (ints list))), (2, .c (.ptr [.lst (rows r)])), (4, .cell 4 0), (7, .cell 7 0), (8, .c (ci v8_2)), (9, .ref 46), (10, .c (ci v10_3))]) rfl rfl ⟨rfl, rfl, rfl, rfl, rfl, rfl, rfl, trivial⟩) ?_
            refine aw_regionD (kd := kdl [0, 0, 0, 1, 0, 0, 0, 1, 0, 1, 0, 0, 0, 1, 0, 1, 2, 2, 2, 0]) (ord := [0, 1, 2, 4, 5, 6, 10, 11, 12, 3, 7, 8, 9, 13, 14, 15, 16, 17, 18, 19]) [46, 70] mixed (by kernel_rfl) ?_
            refine rd_s rfl rfl trivial (ss_move rfl) rfl ?_
            refine rd_s rfl rfl trivial (ss_move rfl) rfl ?_
            refine rd_s rfl rfl trivial (ss_field_ptr rfl) rfl ?_
            refine rd_s rfl rfl trivial (ss_move rfl) rfl ?_
            refine rd_s rfl rfl trivial (ss_move rfl) rfl ?_
            obtain ⟨q18, h⟩ := h
            refine rd_s rfl rfl trivial (ss_idxL rfl rfl q18) rfl ?_
            refine rd_s rfl rfl trivial (ss_move rfl) rfl ?_
            refine rd_s rfl rfl trivial (ss_move rfl) rfl ?_
            obtain ⟨q19, h⟩ := h
            refine rd_s rfl rfl trivial (ss_idxL rfl rfl q19) rfl ?_
            refine rd_l rfl rfl trivial (ss_load_ptr rfl rfl) rfl ?_
            refine rd_l rfl rfl trivial (ss_loadL (f := ci) rfl q18) rfl ?_
            obtain ⟨q20, h⟩ := h
            refine rd_s rfl rfl trivial (ss_idxL rfl rfl q20) rfl ?_
            refine rd_l rfl rfl trivial (ss_loadL (f := (fun r => C.lst (ints r))) rfl q20) rfl ?_
            refine rd_l rfl rfl trivial (ss_loadL (f := ci) rfl q19) rfl ?_
            obtain ⟨q21, h⟩ := h
            refine rd_s rfl rfl trivial (ss_idxL rfl rfl q21) rfl ?_
            refine rd_l rfl rfl trivial (ss_loadL (f := ci) rfl q21) rfl ?_
            obtain ⟨q22, h⟩ := h
            refine rd_w rfl rfl trivial rfl rfl (ws_call (xs := [.tmp 54, .tmp 68]) (ids := []) rfl rfl rfl rfl (c_spec_l01Index list (el (el r (el list v8_2)) (el list v10_3)) q22) rfl ?_ )
            rintro _ rfl
            refine ⟨rfl, ?_⟩
            refine rd_w rfl rfl trivial rfl rfl (ws_buildSlice (id := 70) (ps := [(0, .tmp 69)]) rfl rfl (Nat.le_of_ble_eq_true rfl) rfl ⟨rfl, ?_⟩)
            obtain ⟨q24, h⟩ := h
            refine rd_w rfl rfl trivial rfl rfl (ws_app1 ci (l := o46_3) (m := [idxI list (el (el r (el list v8_2)) (el list v10_3))]) rfl rfl rfl rfl rfl (Nat.le_of_ble_eq_true rfl) q24 ⟨rfl, ?_⟩)
            refine rd_s rfl rfl trivial (ss_assign rfl) rfl ?_
            refine rd_nil ?_
            refine aw_gh (gh_to (n := 84) (σ' := [(46, ⟨ints (o46_3 ++ ([idxI list (el (el r (el list v8_2)) (el list v10_3))])), []⟩), (200112, ⟨orows o200112_2, []⟩), (7, ⟨[.hole], [(0, .ref 200112)]⟩), (4, ⟨[cnil], []⟩)]) (env' := [(1, .c (.lst (ints list))), (2, .c (.ptr [.lst (rows r)])), (4, .cell 4 0), (7, .cell 7 0), (8, .c (ci v8_2)), (9, .ref 46), (10, .c (ci v10_3))]) rfl rfl ⟨rfl, rfl, rfl, rfl, rfl, rfl, rfl, trivial⟩) ?_
            refine aw_region ?_
            refine run_s (ss_move rfl) rfl ?_
            obtain ⟨q25, h⟩ := h
            refine run_s (ss_add rfl rfl q25) rfl ?_
            refine run_s (ss_assign rfl) rfl ?_
            refine run_nil ?_
            exact ⟨v10_3 + 1, o46_3 ++ ([idxI list (el (el r (el list v8_2)) (el list v10_3))]), ghe_to (n := 84) rfl rfl ⟨rfl, rfl, rfl, rfl, rfl, rfl, rfl, trivial⟩, h.1, h.2⟩
          · replace h := h.2 (of_decide_eq_false q17)
            refine aw_exit ?_
            refine aw_region ?_
            refine run_s (ss_field_cell rfl) rfl ?_
            refine run_s (ss_loadH rfl rfl rfl rfl) rfl ?_
            refine run_s (ss_move rfl) rfl ?_
            refine run_w (ws_buildSlice (id := 75) (ps := [(0, .tmp 74)]) rfl rfl (Nat.le_of_ble_eq_true rfl) rfl ⟨rfl, ?_⟩)
            refine run_gh (gh_fill (id := 75) (id2 := 46) (j := 0) rfl rfl (Nat.le_of_ble_eq_true rfl) rfl rfl rfl) ?_
            obtain ⟨q26, h⟩ := h
            refine run_w (ws_app1 (fun r => C.own (ints r)) (l := o200112_2) (m := [o46_3]) rfl rfl rfl rfl rfl (Nat.le_of_ble_eq_true rfl) q26 ⟨rfl, ?_⟩)
            refine run_s (ss_field_cell rfl) rfl ?_
            refine run_w (ws_store rfl rfl (Nat.le_of_ble_eq_true rfl) rfl rfl ⟨rfl, ?_⟩)
            refine run_nil ?_
            refine aw_gh (gh_to (n := 84) (σ' := [(200112, ⟨orows (o200112_2 ++ ([o46_3])), []⟩), (7, ⟨[.hole], [(0, .ref 200112)]⟩), (4, ⟨[cnil], []⟩)]) (env' := [(1, .c (.lst (ints list))), (2, .c (.ptr [.lst (rows r)])), (4, .cell 4 0), (7, .cell 7 0), (8, .c (ci v8_2))]) rfl rfl ⟨rfl, rfl, rfl, rfl, rfl, trivial⟩) ?_
            refine aw_region ?_
            refine run_s (ss_move rfl) rfl ?_
            obtain ⟨q27, h⟩ := h
            refine run_s (ss_add rfl rfl q27) rfl ?_
            refine run_s (ss_assign rfl) rfl ?_
            refine run_nil ?_
            exact ⟨v8_2 + 1, o200112_2 ++ ([o46_3]), ghe_to (n := 84) rfl rfl ⟨rfl, rfl, rfl, rfl, rfl, trivial⟩, h.1, h.2⟩
        · replace h := h.2 (of_decide_eq_false q15)
          refine aw_exit ?_
          refine aw_seq ?_
          refine aw_seq ?_
          refine aw_gh (gh_to (n := 84) (σ' := [(200112, ⟨orows o200112_2, []⟩), (7, ⟨[.hole], [(0, .ref 200112)]⟩), (4, ⟨[cnil], []⟩)]) (env' := [(4, .cell 4 0), (7, .cell 7 0)]) rfl rfl ⟨rfl, rfl, trivial⟩) ?_
          refine aw_region ?_
          refine run_s (ss_field_cell rfl) rfl ?_
          refine run_s (ss_loadH rfl rfl rfl rfl) rfl ?_
          obtain ⟨q28, h⟩ := h
          refine run_w (ws_callR (xs := [.tmp 79]) (cs := [.own (orows o200112_2)]) (ids := []) rfl (.inr ⟨rfl, rfl⟩) rfl rfl (fz_cons (fz_own (fz_map (fun _ => (fz_own (fz_map (fun _ => rfl) _))) _)) fz_nil) (c_spec_l01Table o200112_2 q28) rfl ?_ )
          rintro _ rfl
          refine ⟨rfl, rfl, ?_⟩
          refine run_s (ss_not rfl) rfl ?_
          refine run_nil ?_
          refine aw_cond rfl (fun q30 => ?_) (fun q30 => ?_)
          · replace h := h.1 ((bnot_t q30))
            refine aw_seq ?_
            refine aw_gh (gh_to (n := 84) (σ' := [(200112, ⟨orows o200112_2, []⟩), (7, ⟨[.hole], [(0, .ref 200112)]⟩), (4, ⟨[cnil], []⟩)]) (env' := [(4, .cell 4 0)]) rfl rfl ⟨rfl, trivial⟩) ?_
            refine aw_region ?_
            refine run_s (ss_build0) rfl ?_
            refine run_w (ws_storeS rfl rfl (Nat.le_of_ble_eq_true rfl) rfl rfl rfl ⟨rfl, ?_⟩)
            refine run_s (ss_assign rfl) rfl ?_
            refine run_nil ?_
            refine aw_ret ?_
            exact retAF_mk (retv2 rfl (rv_struct rfl rfl rfl) (rv_tmp rfl)) rfl rfl ⟨_, (cle_tup (cleL_cons (cle_agg (cleL_cons cle_nilO cleL_nil)) (cleL_cons (cle_refl _) cleL_nil))), _, _, h, rfl⟩
          · replace h := h.2 ((bnot_f q30))
            refine aw_skip ?_
            refine aw_seq ?_
            refine aw_region ?_
            refine run_s (ss_loadS rfl rfl rfl rfl) rfl ?_
            refine run_w (ws_storeS rfl rfl (Nat.le_of_ble_eq_true rfl) rfl rfl rfl ⟨rfl, ?_⟩)
            refine run_s (ss_assign rfl) rfl ?_
            refine run_nil ?_
            refine aw_ret ?_
            exact retAF_mk (retv2 rfl (rv_struct rfl rfl rfl) (rv_tmp rfl)) rfl rfl ⟨_, (cle_refl _), _, _, h, rfl⟩

theorem c_spec_RestrictRack (r : List (List Int)) (list : List Int) (hp : small2 r ∧ small list) : AF Try.prog 48 [.agg [.lst (rows r)], .lst (ints list)] (fun R_ => R_ = .tup [.agg [.own (orows (ResT r list))], ci (ResE r list)]) :=
  (w_spec_RestrictRack r list (fun y0 y1 => y0 = ResT r list ∧ y1 = ResE r list) (p_spec_RestrictRack r list hp)).mono (by rintro r ⟨_, _, ⟨rfl, rfl⟩, rfl⟩; rfl)

set_option maxRecDepth 100000 in
set_option maxHeartbeats 1000000 in
theorem w_impl_RestrictRack (r : List (List Int)) (list : List Int) (Q : List (List Int) → Int → Prop) (h : wp_impl_RestrictRack r list Q) : AF Try.prog 50 [.agg [.lst (rows r)], .lst (ints list)] (fun R_ => ∃ y0 y1, Q y0 y1 ∧ R_ = .tup [.agg [.own (orows y0)], ci y1]) := by
  refine AF.ofWQ (af_enter (n := 36) Try.func50 rfl (by rfl) rfl (Nat.le_of_ble_eq_true rfl) ?_)
  unfold wp_impl_RestrictRack at h
  refine aw_seq ?_
  refine aw_gh (gh_to (n := 36) (σ' := []) (env' := [(0, .c (.agg [.lst (rows r)])), (1, .c (.lst (ints list)))]) rfl rfl ⟨rfl, rfl, trivial⟩) ?_
  refine aw_region ?_
  refine run_w (ws_boxR rfl (.inl rfl) rfl ⟨rfl, ?_⟩)
  refine run_w (ws_boxR rfl (.inr rfl) rfl ⟨rfl, ?_⟩)
  refine run_w (ws_alloc (id := 4) rfl (Nat.le_of_ble_eq_true rfl) ⟨rfl, ?_⟩)
  refine run_s (ss_assign rfl) rfl ?_
  refine run_nil ?_
  refine aw_seq ?_
  refine aw_seq ?_
  refine aw_region ?_
  refine run_s (ss_load_struct rfl (Nat.le_of_ble_eq_true rfl)) rfl ?_
  obtain ⟨q1, h⟩ := h
  refine run_w (ws_call (xs := [.tmp 6]) (ids := []) rfl rfl rfl rfl (c_impl_IsRack r q1) rfl ?_ )
  rintro _ rfl
  refine ⟨rfl, ?_⟩
  refine run_s (ss_not rfl) rfl ?_
  refine run_nil ?_
  refine aw_cond rfl (fun q3 => ?_) (fun q3 => ?_)
  · replace h := h.1 ((bnot_t q3))
    refine aw_seq ?_
    refine aw_gh (gh_to (n := 36) (σ' := [(4, ⟨[cnil], []⟩)]) (env' := [(4, .cell 4 0), (5, .c (ci 0))]) rfl rfl ⟨rfl, rfl, trivial⟩) ?_
    refine aw_region ?_
    refine run_s (ss_build0) rfl ?_
    refine run_w (ws_storeS rfl rfl (Nat.le_of_ble_eq_true rfl) rfl rfl rfl ⟨rfl, ?_⟩)
    refine run_s (ss_assign rfl) rfl ?_
    refine run_nil ?_
    refine aw_ret ?_
    exact retAF_mk (retv2 rfl (rv_struct rfl rfl rfl) (rv_tmp rfl)) rfl rfl ⟨_, (cle_tup (cleL_cons (cle_agg (cleL_cons cle_nilO cleL_nil)) (cleL_cons (cle_refl _) cleL_nil))), _, _, h, rfl⟩
  · replace h := h.2 ((bnot_f q3))
    refine aw_skip ?_
    refine aw_seq ?_
    refine aw_seq ?_
    refine aw_region ?_
    refine run_s (ss_field_ptr rfl) rfl ?_
    refine run_s (ss_load_ptr rfl rfl) rfl ?_
    refine run_s (ss_lenL (f := (fun r => C.lst (ints r))) rfl) rfl ?_
    refine run_s (ss_load_ptr rfl rfl) rfl ?_
    obtain ⟨q4, h⟩ := h
    refine run_w (ws_call (xs := [.tmp 12, .tmp 13]) (ids := []) rfl rfl rfl rfl (c_impl_areElements (r.length : Int) list q4) rfl ?_ )
    rintro _ rfl
    refine ⟨rfl, ?_⟩
    refine run_s (ss_not rfl) rfl ?_
    refine run_s (ss_move rfl) rfl ?_
    refine run_split (s := 16) rfl (fun q6 => ?_) (fun q6 => ?_)
    · replace h := h.1 ((bnot_t q6))
      refine run_gf rfl rfl q6 rfl ?_
      refine run_gf rfl rfl q6 rfl ?_
      refine run_gf rfl rfl q6 rfl ?_
      refine run_s (ss_pickT rfl q6 rfl) rfl ?_
      refine run_nil ?_
      refine aw_cond rfl (fun q7 => ?_) (fun q7 => ?_)
      · skip
        refine aw_seq ?_
        refine aw_gh (gh_to (n := 36) (σ' := [(4, ⟨[cnil], []⟩)]) (env' := [(4, .cell 4 0), (5, .c (ci 0))]) rfl rfl ⟨rfl, rfl, trivial⟩) ?_
        refine aw_region ?_
        refine run_s (ss_build0) rfl ?_
        refine run_w (ws_storeS rfl rfl (Nat.le_of_ble_eq_true rfl) rfl rfl rfl ⟨rfl, ?_⟩)
        refine run_s (ss_assign rfl) rfl ?_
        refine run_nil ?_
        refine aw_ret ?_
        exact retAF_mk (retv2 rfl (rv_struct rfl rfl rfl) (rv_tmp rfl)) rfl rfl ⟨_, (cle_tup (cleL_cons (cle_agg (cleL_cons cle_nilO cleL_nil)) (cleL_cons (cle_refl _) cleL_nil))), _, _, h, rfl⟩
      · cases q7
    · replace h := h.2 ((bnot_f q6))
      refine run_gt rfl rfl q6 ?_
      refine run_s (ss_load_ptr rfl rfl) rfl ?_
      refine run_gt rfl rfl q6 ?_
      obtain ⟨q8, h⟩ := h
      refine run_w (ws_call (xs := [.tmp 17]) (ids := []) rfl rfl rfl rfl (c_impl_increasing list q8) rfl ?_ )
      rintro _ rfl
      refine ⟨rfl, ?_⟩
      refine run_gt rfl rfl q6 ?_
      refine run_s (ss_not rfl) rfl ?_
      refine run_s (ss_pickF rfl q6 rfl) rfl ?_
      refine run_nil ?_
      refine aw_cond rfl (fun q10 => ?_) (fun q10 => ?_)
      · replace h := h.1 ((bnot_t q10))
        refine aw_seq ?_
        refine aw_gh (gh_to (n := 36) (σ' := [(4, ⟨[cnil], []⟩)]) (env' := [(4, .cell 4 0), (5, .c (ci 0))]) rfl rfl ⟨rfl, rfl, trivial⟩) ?_
        refine aw_region ?_
        refine run_s (ss_build0) rfl ?_
        refine run_w (ws_storeS rfl rfl (Nat.le_of_ble_eq_true rfl) rfl rfl rfl ⟨rfl, ?_⟩)
        refine run_s (ss_assign rfl) rfl ?_
        refine run_nil ?_
        refine aw_ret ?_
        exact retAF_mk (retv2 rfl (rv_struct rfl rfl rfl) (rv_tmp rfl)) rfl rfl ⟨_, (cle_tup (cleL_cons (cle_agg (cleL_cons cle_nilO cleL_nil)) (cleL_cons (cle_refl _) cleL_nil))), _, _, h, rfl⟩
      · replace h := h.2 ((bnot_f q10))
        refine aw_skip ?_
        refine aw_seq ?_
        refine aw_seq ?_
        refine aw_gh (gh_to (n := 36) (σ' := [(4, ⟨[cnil], []⟩)]) (env' := [(2, .c (.ptr [.lst (rows r)])), (3, .c (.ptr [.lst (ints list)])), (4, .cell 4 0)]) rfl rfl ⟨rfl, rfl, rfl, trivial⟩) ?_
        refine aw_region ?_
        refine run_s (ss_load_ptr rfl rfl) rfl ?_
        refine run_s (ss_lenL (f := ci) rfl) rfl ?_
        refine run_s (ss_eql rfl rfl) rfl ?_
        refine run_s (ss_move rfl) rfl ?_
        refine run_split (s := 25) rfl (fun q11 => ?_) (fun q11 => ?_)
        · replace h := h.1 (of_decide_eq_true q11)
          refine run_gf rfl rfl q11 rfl ?_
          refine run_gf rfl rfl q11 rfl ?_
          refine run_gf rfl rfl q11 rfl ?_
          refine run_gf rfl rfl q11 rfl ?_
          refine run_s (ss_pickT rfl q11 rfl) rfl ?_
          refine run_nil ?_
          refine aw_cond rfl (fun q12 => ?_) (fun q12 => ?_)
          · skip
            refine aw_seq ?_
            refine aw_gh (gh_to (n := 36) (σ' := [(4, ⟨[cnil], []⟩)]) (env' := [(4, .cell 4 0)]) rfl rfl ⟨rfl, trivial⟩) ?_
            refine aw_region ?_
            refine run_s (ss_build0) rfl ?_
            refine run_w (ws_storeS rfl rfl (Nat.le_of_ble_eq_true rfl) rfl rfl rfl ⟨rfl, ?_⟩)
            refine run_s (ss_assign rfl) rfl ?_
            refine run_nil ?_
            refine aw_ret ?_
            exact retAF_mk (retv2 rfl (rv_struct rfl rfl rfl) (rv_tmp rfl)) rfl rfl ⟨_, (cle_tup (cleL_cons (cle_agg (cleL_cons cle_nilO cleL_nil)) (cleL_cons (cle_refl _) cleL_nil))), _, _, h, rfl⟩
          · cases q12
        · replace h := h.2 (of_decide_eq_false q11)
          refine run_gt rfl rfl q11 ?_
          refine run_s (ss_load_struct rfl (Nat.le_of_ble_eq_true rfl)) rfl ?_
          refine run_gt rfl rfl q11 ?_
          refine run_s (ss_load_ptr rfl rfl) rfl ?_
          refine run_gt rfl rfl q11 ?_
          obtain ⟨q13, h⟩ := h
          refine run_w (ws_call (xs := [.tmp 26, .tmp 27]) (ids := []) rfl rfl rfl rfl (c_impl_isSubrack r list q13) rfl ?_ )
          rintro _ rfl
          refine ⟨rfl, ?_⟩
          refine run_gt rfl rfl q11 ?_
          refine run_s (ss_not rfl) rfl ?_
          refine run_s (ss_pickF rfl q11 rfl) rfl ?_
          refine run_nil ?_
          refine aw_cond rfl (fun q15 => ?_) (fun q15 => ?_)
          · replace h := h.1 ((bnot_t q15))
            refine aw_seq ?_
            refine aw_gh (gh_to (n := 36) (σ' := [(4, ⟨[cnil], []⟩)]) (env' := [(4, .cell 4 0)]) rfl rfl ⟨rfl, trivial⟩) ?_
            refine aw_region ?_
            refine run_s (ss_build0) rfl ?_
            refine run_w (ws_storeS rfl rfl (Nat.le_of_ble_eq_true rfl) rfl rfl rfl ⟨rfl, ?_⟩)
            refine run_s (ss_assign rfl) rfl ?_
            refine run_nil ?_
            refine aw_ret ?_
            exact retAF_mk (retv2 rfl (rv_struct rfl rfl rfl) (rv_tmp rfl)) rfl rfl ⟨_, (cle_tup (cleL_cons (cle_agg (cleL_cons cle_nilO cleL_nil)) (cleL_cons (cle_refl _) cleL_nil))), _, _, h, rfl⟩
          · replace h := h.2 ((bnot_f q15))
            refine aw_skip ?_
            refine aw_seq ?_
            refine aw_gh (gh_to (n := 36) (σ' := [(4, ⟨[cnil], []⟩)]) (env' := [(2, .c (.ptr [.lst (rows r)])), (3, .c (.ptr [.lst (ints list)])), (4, .cell 4 0)]) rfl rfl ⟨rfl, rfl, rfl, trivial⟩) ?_
            refine aw_region ?_
            refine run_s (ss_load_ptr rfl rfl) rfl ?_
            refine run_s (ss_lenL (f := ci) rfl) rfl ?_
            refine run_s (ss_makeFunc (os := [.tmp 3, .tmp 2]) rfl) rfl ?_
            obtain ⟨q16, h⟩ := h
            refine run_w (ws_call (xs := [.tmp 33, .tmp 34]) (ids := [35]) rfl rfl rfl rfl (c_impl_rackBy (list.length : Int) 93 [.ptr [.lst (ints list)], .ptr [.lst (rows r)]] (fun z0 z1 => resV r list z0 z1) (fun z0 z1 => isTab r = true ∧ small list ∧ (∀ x_ ∈ list, 0 ≤ x_ ∧ x_ < (r.length : Int)) ∧ 0 ≤ z0 ∧ z0 < (list.length : Int) ∧ 0 ≤ z1 ∧ z1 < (list.length : Int)) (fun z0 z1 hD => c_impl_RestrictRack_1 z0 z1 list r hD) q16) rfl ?_ )
            rintro _ rfl
            refine ⟨rfl, ?_⟩
            refine run_w (ws_storeS rfl rfl (Nat.le_of_ble_eq_true rfl) rfl rfl rfl ⟨rfl, ?_⟩)
            refine run_s (ss_assign rfl) rfl ?_
            refine run_nil ?_
            refine aw_ret ?_
            exact retAF_mk (retv2 rfl (rv_struct rfl rfl rfl) (rv_tmp rfl)) rfl rfl ⟨_, (cle_refl _), _, _, h, rfl⟩

theorem c_impl_RestrictRack (r : List (List Int)) (list : List Int) (hp : small2 r ∧ small list) : AF Try.prog 50 [.agg [.lst (rows r)], .lst (ints list)] (fun R_ => R_ = .tup [.agg [.own (orows (ResT r list))], ci (ResE r list)]) :=
  (w_impl_RestrictRack r list (fun y0 y1 => y0 = ResT r list ∧ y1 = ResE r list) (p_impl_RestrictRack r list hp)).mono (by rintro r ⟨_, _, ⟨rfl, rfl⟩, rfl⟩; rfl)

end Go.Proofs.Ytllimiejaijbkaa

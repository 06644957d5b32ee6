/- Contracts of functions that the law FnExactCycleSetOfSolution reaches: conditions, plain proofs, walks; no condition. -/
import Derived.Test.YtbcdcnddnldijaaKECycleSetOfSolutionf
import Derived.Test.YtbcdcnddnldijaaPg
namespace Go.Proofs.Ytbcdcnddnldijaa

def wp_spec_l01Column (t : List (List Int)) (y : Int) (Q : List Int → Prop) : Prop :=
 ∃ (H1 : Int → List Int → Prop) (m1 : Int → List Int → Nat),
 H1 0 ([] : List Int) ∧
 ∀ (v6_1 : Int) (o7_1 : List Int), H1 v6_1 o7_1 →
 ( ((v6_1 < (t.length : Int) →
   (0 ≤ v6_1 ∧ v6_1 < (t.length : Int)) ∧
   (0 ≤ y ∧ y < ((el t v6_1).length : Int)) ∧
   ((o7_1.length : Int) + (([el (el t v6_1) y]).length : Int) ≤ 1000000000) ∧
   (InI (v6_1 + 1)) ∧
   (H1 (v6_1 + 1) (o7_1 ++ ([el (el t v6_1) y])) ∧ m1 (v6_1 + 1) (o7_1 ++ ([el (el t v6_1) y])) < m1 v6_1 o7_1)) ∧
  (¬ (v6_1 < (t.length : Int)) →
   Q o7_1)))

def wp_spec_l01Turn (t : List (List Int)) (Q : List (List Int) → Prop) : Prop :=
 ∃ (H1 : Int → List (List Int) → Prop) (m1 : Int → List (List Int) → Nat),
 H1 0 ([] : List (List Int)) ∧
 ∀ (v4_1 : Int) (o5_1 : List (List Int)), H1 v4_1 o5_1 →
 ( ((v4_1 < (t.length : Int) →
   (isTab t = true ∧ 0 ≤ v4_1 ∧ v4_1 < (t.length : Int)) ∧
   ((o5_1.length : Int) + (([colI t v4_1]).length : Int) ≤ 1000000000) ∧
   (InI (v4_1 + 1)) ∧
   (H1 (v4_1 + 1) (o5_1 ++ ([colI t v4_1])) ∧ m1 (v4_1 + 1) (o5_1 ++ ([colI t v4_1])) < m1 v4_1 o5_1)) ∧
  (¬ (v4_1 < (t.length : Int)) →
   Q o5_1)))

def wp_impl_transposed_1 (x : Int) (y : Int) (t : List (List Int)) (Q : Int → Prop) : Prop :=
 (0 ≤ y ∧ y < (t.length : Int)) ∧
 (0 ≤ x ∧ x < ((el t y).length : Int)) ∧
 Q (el (el t y) x)

def wp_impl_transposed (t : List (List Int)) (Q : List (List Int) → Prop) : Prop :=
 (0 ≤ (t.length : Int) ∧ (t.length : Int) ≤ 1000000 ∧ ∀ x_ y_, 0 ≤ x_ → x_ < (t.length : Int) → 0 ≤ y_ → y_ < (t.length : Int) → (fun z0 z1 => isTab t = true ∧ 0 ≤ z0 ∧ z0 < (t.length : Int) ∧ 0 ≤ z1 ∧ z1 < (t.length : Int)) x_ y_) ∧
 Q (tab (t.length : Int) (fun z0 z1 => el (el t z1) z0))

def wp_impl_IsPairMap (s1 : List (List Int)) (s2 : List (List Int)) (Q : Bool → Prop) : Prop :=
 (small2 s1) ∧
 (((isTab s1) = true →
  (small2 s2) ∧
  (((isTab s2) = true →
   Q (decide ((s1.length : Int) = (s2.length : Int)))) ∧
  ((isTab s2) = false →
   Q false))) ∧
 ((isTab s1) = false →
  Q false))

def wp_impl_solutionCycle (s1 : List (List Int)) (_s2 : List (List Int)) (Q : List (List Int) → Prop) : Prop :=
 ∃ (H1 : Int → List (List Int) → Prop) (m1 : Int → List (List Int) → Nat),
 H1 0 ([] : List (List Int)) ∧
 ∀ (v9_1 : Int) (o200048_1 : List (List Int)), H1 v9_1 o200048_1 →
 ( ((v9_1 < (s1.length : Int) →
   (0 ≤ v9_1 ∧ v9_1 < (s1.length : Int)) ∧
   (small (el s1 v9_1) ∧ isPerm (el s1 v9_1) = true) ∧
   ((o200048_1.length : Int) + (([backI (el s1 v9_1)]).length : Int) ≤ 1000000000) ∧
   (InI (v9_1 + 1)) ∧
   (H1 (v9_1 + 1) (o200048_1 ++ ([backI (el s1 v9_1)])) ∧ m1 (v9_1 + 1) (o200048_1 ++ ([backI (el s1 v9_1)])) < m1 v9_1 o200048_1)) ∧
  (¬ (v9_1 < (s1.length : Int)) →
   Q o200048_1)))

def wp_spec_l05Cycle (s1 : List (List Int)) (_s2 : List (List Int)) (Q : List (List Int) → Prop) : Prop :=
 ∃ (H1 : Int → List (List Int) → Prop) (m1 : Int → List (List Int) → Nat),
 H1 0 ([] : List (List Int)) ∧
 ∀ (v4_1 : Int) (o200048_1 : List (List Int)), H1 v4_1 o200048_1 →
 ( ((v4_1 < (s1.length : Int) →
   (0 ≤ v4_1 ∧ v4_1 < (s1.length : Int)) ∧
   (small (el s1 v4_1) ∧ isPerm (el s1 v4_1) = true) ∧
   ((o200048_1.length : Int) + (([backI (el s1 v4_1)]).length : Int) ≤ 1000000000) ∧
   (InI (v4_1 + 1)) ∧
   (H1 (v4_1 + 1) (o200048_1 ++ ([backI (el s1 v4_1)])) ∧ m1 (v4_1 + 1) (o200048_1 ++ ([backI (el s1 v4_1)])) < m1 v4_1 o200048_1)) ∧
  (¬ (v4_1 < (s1.length : Int)) →
   Q o200048_1)))

def wp_laws_eqSolution (a1 : List (List Int)) (a2 : List (List Int)) (b1 : List (List Int)) (b2 : List (List Int)) (Q : Bool → Prop) : Prop :=
 (small2 a1 ∧ small2 b1) ∧
 ((¬ (a1 = b1) →
  Q false) ∧
 (a1 = b1 →
  (small2 a2 ∧ small2 b2) ∧
  ((¬ (a2 = b2) →
   Q false) ∧
  (a2 = b2 →
   Q true))))

def wp_laws_markSolution (a1 : List (List Int)) (a2 : List (List Int)) (k : Int) (Q : Int → List (List Int) → List (List Int) → Prop) : Prop :=
 (small2 a1 ∧ okKT k a1) ∧
 (small2 a2 ∧ okKT (k + tot a1) a2) ∧
 Q ((k + tot a1) + tot a2) (mkII k a1) (mkII (k + tot a1) a2)


theorem cj_pre {x y : List Int} (hp : cjD x y) : (small x ∧ isPerm x = true) ∧ (small (backI x) ∧ ∀ x_ ∈ backI x, 0 ≤ x_ ∧ x_ < (y.length : Int)) ∧ (small ((backI x).map (el y)) ∧ ∀ x_ ∈ (backI x).map (el y), 0 ≤ x_ ∧ x_ < (x.length : Int)) := by
  obtain ⟨h1, h2, h3, h4⟩ := hp
  have hb := isPerm_backI h2
  have hs : (x.length : Int) ≤ 1000000000 := h1
  have key : ∀ z ∈ backI x, 0 ≤ z ∧ z < (y.length : Int) := fun z hz => by
    have := (isPerm_iff.1 hb).2 z hz
    simp at this; omega
  refine ⟨⟨h1, h2⟩, ⟨by show _ ≤ (1000000000 : Int); simp; omega, key⟩, by show _ ≤ (1000000000 : Int); simp; omega, fun z hz => ?_⟩
  obtain ⟨w, hw, rfl⟩ := List.mem_map.1 hz
  have := isPerm_el h4 (key w hw)
  omega
theorem idxL_self {list : List (List Int)} {i : Int} (hi : 0 ≤ i ∧ i < (list.length : Int)) : idxL list (el list i) = i ↔ ∀ j, 0 ≤ j → j < i → el list j ≠ el list i := by
  constructor
  · intro h j j0 j1 e
    have hex : ∃ m : Nat, (m : Int) ≤ j ∧ el list (m : Int) = el list i ∧ ∀ k : Nat, k < m → el list (k : Int) ≠ el list i := by
      have key : ∀ n : Nat, (∃ m : Nat, m ≤ n ∧ el list (m : Int) = el list i) → ∃ m : Nat, m ≤ n ∧ el list (m : Int) = el list i ∧ ∀ k : Nat, k < m → el list (k : Int) ≠ el list i := by
        intro n
        induction n with
        | zero => intro ⟨m, hm, e⟩; exact ⟨m, hm, e, fun k hk => by omega⟩
        | succ n ih =>
          intro ⟨m, hm, e⟩
          by_cases hc : ∃ m : Nat, m ≤ n ∧ el list (m : Int) = el list i
          · obtain ⟨m', a, b, c⟩ := ih hc
            exact ⟨m', by omega, b, c⟩
          · exact ⟨m, hm, e, fun k hk e2 => hc ⟨k, by omega, e2⟩⟩
      obtain ⟨m, a, b, c⟩ := key j.toNat ⟨j.toNat, Nat.le_refl _, by rw [show ((j.toNat : Nat) : Int) = j by omega]; exact e⟩
      exact ⟨m, by omega, b, c⟩
    obtain ⟨m, a, b, c⟩ := hex
    have := idxF_found (t := list) (f := fun own => decide (own = el list i)) (i := (m : Int)) ⟨by omega, by omega⟩ (fun k k0 k1 => by
      have := c k.toNat (by omega)
      rw [show ((k.toNat : Nat) : Int) = k by omega] at this
      exact decide_eq_false this) (decide_eq_true b)
    unfold idxL at h
    omega
  · intro h
    exact idxF_found hi (fun j j0 j1 => decide_eq_false (h j j0 j1)) (decide_eq_true rfl)
theorem good_cj {list : List (List Int)} (h : GoodL list) {x y : Int} (hx : 0 ≤ x ∧ x < (list.length : Int)) (hy : 0 ≤ y ∧ y < (list.length : Int)) : cjD (el list x) (el list y) := by
  obtain ⟨a1, a2, _⟩ := h.2 x hx.1 hx.2
  obtain ⟨b1, b2, _⟩ := h.2 y hy.1 hy.2
  have := permB_len a1
  exact ⟨by show _ ≤ (1000000000 : Int); omega, permB_isPerm a1, by omega, permB_isPerm b1⟩
theorem small_cj {x y : List Int} (h : small x) : small (conjI x y) := by
  have : (x.length : Int) ≤ 1000000000 := h
  show _ ≤ (1000000000 : Int); simp [conjI]; omega
theorem good_small2 {list : List (List Int)} (h : GoodL list) (h2 : (list.length : Int) ≤ 12) : small2 list := ⟨by show _ ≤ (1000000000 : Int); omega, fun r hr => by
  obtain ⟨i, hi, rfl⟩ := mem_el hr
  have := permB_len (h.2 i hi.1 hi.2).1
  show _ ≤ (1000000000 : Int); omega⟩
theorem idxL_in {lists : List (List Int)} {list : List Int} : -1 ≤ idxL lists list ∧ idxL lists list < (lists.length : Int) ∨ idxL lists list = -1 := by
  unfold idxL idxF
  split
  · rename_i h
    have : lists.findIdx (fun own => decide (own = list)) < lists.length := List.findIdx_lt_length_of_exists (by simpa using h)
    left; omega
  · right; rfl
theorem cjq1 {l : List (List Int)} (h : dec (GoodL l) = false) : [] = CjqT l ∧ 1 = CjqE l := by
  have e : CjqE l = 1 := by unfold CjqE; rw [h]; rfl
  exact ⟨by unfold CjqT; rw [e]; rfl, e.symm⟩
theorem cjq3 {l : List (List Int)} (h : dec (GoodL l) = true) (h2 : (12 : Int) < (l.length : Int)) : [] = CjqT l ∧ 3 = CjqE l := by
  have e : CjqE l = 3 := by unfold CjqE; rw [h, if_pos h2]; rfl
  exact ⟨by unfold CjqT; rw [e]; rfl, e.symm⟩
theorem cjq5 {l : List (List Int)} (h : dec (GoodL l) = true) (h2 : ¬ (12 : Int) < (l.length : Int)) (h3 : isTab (cjT l) = false) : [] = CjqT l ∧ 5 = CjqE l := by
  have e : CjqE l = 5 := by unfold CjqE; rw [h, if_neg h2, h3]; rfl
  exact ⟨by unfold CjqT; rw [e]; rfl, e.symm⟩
theorem cjq0 {l : List (List Int)} (h : dec (GoodL l) = true) (h2 : ¬ (12 : Int) < (l.length : Int)) (h3 : isTab (cjT l) = true) : cjT l = CjqT l ∧ 0 = CjqE l := by
  have e : CjqE l = 0 := by unfold CjqE; rw [h, if_neg h2, h3]; rfl
  exact ⟨by unfold CjqT; rw [e]; rfl, e.symm⟩
theorem p_spec_l01Column (t : List (List Int)) (y : Int) (hp : isTab t = true ∧ 0 ≤ y ∧ y < (t.length : Int)) : wp_spec_l01Column t y (fun y0 => y0 = colI t y) := by
  unfold wp_spec_l01Column
  obtain ⟨ht, y0, y1⟩ := hp
  have hn := isTab_len ht
  refine ⟨fun i o => 0 ≤ i ∧ i ≤ (t.length : Int) ∧ o.length = i.toNat ∧ Upto i fun x => el o x = el (el t x) y, fun i _ => ((t.length : Int) - i).toNat, ⟨by omega, by omega, by simp, upto0⟩, ?_⟩
  rintro i o ⟨i0, i1, il, iI⟩
  dsimp only
  refine ⟨fun ilt => ?_, fun ige => eq_ran (by omega) fun j a b => iI j a (by omega)⟩
  have l := rk_len ht (x := i) ⟨i0, ilt⟩
  exact ⟨⟨i0, ilt⟩, ⟨y0, by omega⟩, by simp; omega, ⟨by omega, by omega⟩, ⟨by omega, by omega, by simp; omega, app1 (f := fun x => el (el t x) y) (by omega) iI rfl⟩, by omega⟩
theorem p_spec_l01Turn (t : List (List Int)) (hp : isTab t = true) : wp_spec_l01Turn t (fun y0 => y0 = trnT t) := by
  unfold wp_spec_l01Turn
  have hn := isTab_len hp
  refine ⟨fun i o => 0 ≤ i ∧ i ≤ (t.length : Int) ∧ o.length = i.toNat ∧ Upto i fun x => el o x = colI t x, fun i _ => ((t.length : Int) - i).toNat, ⟨by omega, by omega, by simp, upto0⟩, ?_⟩
  rintro i o ⟨i0, i1, il, iI⟩
  dsimp only
  exact ⟨fun ilt => ⟨⟨hp, i0, ilt⟩, by simp; omega, ⟨by omega, by omega⟩, ⟨by omega, by omega, by simp; omega, app1 (f := colI t) (by omega) iI rfl⟩, by omega⟩, fun ige => eq_ran (by omega) fun j a b => iI j a (by omega)⟩
theorem p_impl_transposed_1 (x y : Int) (t : List (List Int)) (hp : isTab t = true ∧ 0 ≤ x ∧ x < (t.length : Int) ∧ 0 ≤ y ∧ y < (t.length : Int)) : wp_impl_transposed_1 x y t (fun y0 => y0 = el (el t y) x) := by
  obtain ⟨ht, x0, x1, y0, y1⟩ := hp
  have l := rk_len ht (x := y) ⟨y0, y1⟩
  exact ⟨⟨y0, y1⟩, ⟨x0, by omega⟩, rfl⟩
theorem p_impl_transposed (t : List (List Int)) (hp : isTab t = true) : wp_impl_transposed t (fun y0 => y0 = trnT t) := by
  have hn := isTab_len hp
  exact ⟨⟨by omega, by omega, fun x y a b c d => ⟨hp, a, b, c, d⟩⟩, rfl⟩
theorem p_impl_IsPairMap (s1 s2 : List (List Int)) (hp : small2 s1 ∧ small2 s2) : wp_impl_IsPairMap s1 s2 (fun y0 => y0 = pmB s1 s2) := by
  unfold wp_impl_IsPairMap pmB
  exact ⟨hp.1, fun h => ⟨hp.2, fun h2 => by rw [h, h2]; rfl, fun h2 => by rw [h, h2]; rfl⟩, fun h => by rw [h]; rfl⟩
theorem p_impl_solutionCycle (s1 s2 : List (List Int)) (hp : isTab s1 = true ∧ s1.all isPerm = true) : wp_impl_solutionCycle s1 s2 (fun y0 => y0 = s1.map backI) := by
  unfold wp_impl_solutionCycle
  obtain ⟨ht, hr⟩ := hp
  have hn := isTab_len ht
  refine ⟨fun i o => 0 ≤ i ∧ i ≤ (s1.length : Int) ∧ o.length = i.toNat ∧ Upto i fun x => el o x = backI (el s1 x), fun i _ => ((s1.length : Int) - i).toNat, ⟨by omega, by omega, by simp, upto0⟩, ?_⟩
  rintro i o ⟨i0, i1, il, iI⟩
  dsimp only
  exact ⟨fun ilt => ⟨⟨i0, ilt⟩, ⟨tab_rows ht _ (el_mem ⟨i0, ilt⟩), all_perm_el hr ⟨i0, ilt⟩⟩, by simp; omega, ⟨by omega, by omega⟩, ⟨by omega, by omega, by simp; omega, app1 (f := fun x => backI (el s1 x)) (by omega) iI rfl⟩, by omega⟩, fun ige => dual_loop ht hr il ⟨by omega, by omega⟩ iI⟩
theorem p_spec_l05Cycle (s1 s2 : List (List Int)) (hp : isTab s1 = true ∧ s1.all isPerm = true) : wp_spec_l05Cycle s1 s2 (fun y0 => y0 = s1.map backI) := p_impl_solutionCycle s1 s2 hp
theorem cyc_permB {c : List (List Int)} (h : isCyc c = true) {i : Int} (hi : 0 ≤ i ∧ i < (c.length : Int)) : permB (el c i) = true := by
  have := isTab_perm (isCyc_tab h)
  rw [isCyc_perm h] at this
  exact all_el.1 this i hi.1 hi.2
theorem res1 {r : List (List Int)} {l : List Int} (h : isRk r = false) : [] = ResT r l ∧ 1 = ResE r l := by
  have e : ResE r l = 1 := by unfold ResE; rw [h]; rfl
  exact ⟨by unfold ResT; rw [e]; rfl, e.symm⟩
theorem res2 {r : List (List Int)} {l : List Int} (h : isRk r = true) (h2 : ((l.all fun z_ => decide (0 ≤ z_) && decide (z_ ≤ (r.length : Int) - 1)) && incB l) = false) : [] = ResT r l ∧ 2 = ResE r l := by
  have e : ResE r l = 2 := by unfold ResE; rw [h, h2]; rfl
  exact ⟨by unfold ResT; rw [e]; rfl, e.symm⟩
theorem res5 {r : List (List Int)} {l : List Int} (h : isRk r = true) (h2 : ((l.all fun z_ => decide (0 ≤ z_) && decide (z_ ≤ (r.length : Int) - 1)) && incB l) = true) (h3 : (decide (1 ≤ (l.length : Int)) && dec (SubP r l)) = false) : [] = ResT r l ∧ 5 = ResE r l := by
  have e : ResE r l = 5 := by unfold ResE; rw [h, h2, h3]; rfl
  exact ⟨by unfold ResT; rw [e]; rfl, e.symm⟩
theorem res0 {r : List (List Int)} {l : List Int} (h : isRk r = true) (h2 : ((l.all fun z_ => decide (0 ≤ z_) && decide (z_ ≤ (r.length : Int) - 1)) && incB l) = true) (h3 : (decide (1 ≤ (l.length : Int)) && dec (SubP r l)) = true) : tab (l.length : Int) (resV r l) = ResT r l ∧ 0 = ResE r l := by
  have e : ResE r l = 0 := by unfold ResE; rw [h, h2, h3]; rfl
  exact ⟨by unfold ResT; rw [e]; rfl, e.symm⟩
theorem res_el {r : List (List Int)} {l : List Int} (h : (l.all fun z_ => decide (0 ≤ z_) && decide (z_ ≤ (r.length : Int) - 1)) = true) : ∀ x ∈ l, 0 ≤ x ∧ x < (r.length : Int) := fun x hx => by
  have := List.all_eq_true.1 h x hx
  simp only [Bool.and_eq_true, decide_eq_true_eq] at this
  omega
theorem inc_nodup {l : List Int} (h : incB l = true) : l.Nodup := nodup_el.2 fun i j i0 ij jl e => by
  have := inc_lt (incB_iff.1 h) (j - i).toNat i i0 (by omega)
  rw [show i + (((j - i).toNat : Nat) : Int) = j by omega] at this
  omega
theorem res_len {r : List (List Int)} {l : List Int} (hr : isTab r = true) (h1 : ∀ x ∈ l, 0 ≤ x ∧ x < (r.length : Int)) (h2 : incB l = true) : (l.length : Int) ≤ 12 := by
  have := nodup_len_ran (n := (r.length : Int)) (by omega) (inc_nodup h2) h1
  have := isTab_len hr
  omega
theorem idxI_neg {l : List Int} {x : Int} (h : ¬ x ∈ l) : idxI l x = -1 := by
  have : decide (0 ≤ idxI l x) = false := by rw [idxI_has, Bool.eq_false_iff]; exact fun h2 => h (List.contains_iff_mem.1 h2)
  have h2 := of_decide_eq_false this
  unfold idxI idxF at h2 ⊢
  split at h2
  · omega
  · rename_i h3; rw [if_neg h3]
theorem res_tab {r : List (List Int)} {l : List Int} (hr : isTab r = true) (h1 : ∀ x ∈ l, 0 ≤ x ∧ x < (r.length : Int)) (h2 : incB l = true) : isTab (tab (l.length : Int) (resV r l)) = (decide (1 ≤ (l.length : Int)) && dec (SubP r l)) := by
  have h12 := res_len hr h1 h2
  by_cases h0 : 1 ≤ (l.length : Int)
  · rw [decide_eq_true h0, Bool.true_and, Bool.eq_iff_iff, isTab_tab_iff ⟨h0, h12⟩, dec_iff]
    constructor
    · intro h x hx y hy
      obtain ⟨i, hi, rfl⟩ := mem_el hx
      obtain ⟨j, hj, rfl⟩ := mem_el hy
      have := (h i j hi.1 hi.2 hj.1 hj.2).1
      apply Classical.byContradiction
      intro hn
      have e := idxI_neg hn
      unfold resV at this
      omega
    · intro h x y x0 x1 y0 y1
      exact (idxI_spec (h _ (el_mem ⟨x0, x1⟩) _ (el_mem ⟨y0, y1⟩))).1
  · rw [decide_eq_false h0, Bool.false_and]
    have : (l.length : Int) = 0 := by omega
    rw [this]; rfl
theorem quo1 {r : List (List Int)} {c : List Int} (h : (isRk r && partB (r.length : Int) c) = false) : [] = QuoT r c ∧ 1 = QuoE r c := by
  have e : QuoE r c = 1 := by unfold QuoE; rw [h]; rfl
  exact ⟨by unfold QuoT; rw [e]; rfl, e.symm⟩
theorem quo5 {r : List (List Int)} {c : List Int} (h : (isRk r && partB (r.length : Int) c) = true) (h2 : dec (CongP r c) = false) : [] = QuoT r c ∧ 5 = QuoE r c := by
  have e : QuoE r c = 5 := by unfold QuoE; rw [h, h2]; rfl
  exact ⟨by unfold QuoT; rw [e]; rfl, e.symm⟩
theorem quo0 {r : List (List Int)} {c : List Int} (h : (isRk r && partB (r.length : Int) c) = true) (h2 : dec (CongP r c) = true) : quoT r c = QuoT r c ∧ 0 = QuoE r c := by
  have e : QuoE r c = 0 := by unfold QuoE; rw [h, h2]; rfl
  exact ⟨by unfold QuoT; rw [e]; rfl, e.symm⟩
theorem p_laws_eqSolution (a1 a2 b1 b2 : List (List Int)) (hp : (small2 a1 ∧ small2 a2) ∧ small2 b1 ∧ small2 b2) : wp_laws_eqSolution a1 a2 b1 b2 (fun y0 => y0 = (decide (a1 = b1) && decide (a2 = b2))) := ⟨⟨hp.1.1, hp.2.1⟩, fun h => by simp [h], fun h => ⟨⟨hp.1.2, hp.2.2⟩, fun h2 => by simp [h2], fun h2 => by simp [h, h2]⟩⟩
theorem p_laws_markSolution (a1 a2 : List (List Int)) (k : Int) (hp : small2 a1 ∧ small2 a2 ∧ 0 ≤ k ∧ k + tot a1 + tot a2 ≤ 1000000000000) : wp_laws_markSolution a1 a2 k (fun y0 w0 w1 => y0 = k + tot a1 + tot a2 ∧ w0 = mkII k a1 ∧ w1 = mkII (k + tot a1) a2) := by
  obtain ⟨h1, h2, h3, h4⟩ := hp
  have t1 := tot_nonneg a1
  have t2 := tot_nonneg a2
  exact ⟨⟨h1, h3, by omega⟩, ⟨h2, by omega, by omega⟩, rfl, rfl, rfl⟩
set_option maxRecDepth 100000 in
set_option maxHeartbeats 1000000 in
theorem w_spec_l01Column (t : List (List Int)) (y : Int) (Q : List Int → Prop) (h : wp_spec_l01Column t y Q) : AF Try.prog 115 [.lst (rows t), ci y] (fun R_ => ∃ y0, Q y0 ∧ R_ = .own (ints y0)) := by
  refine AF.ofWQ (af_enter (n := 25) Try.func115 rfl (by rfl) rfl (Nat.le_of_ble_eq_true rfl) ?_)
  unfold wp_spec_l01Column at h
  refine aw_seq ?_
  refine aw_gh (gh_to (n := 25) (σ' := []) (env' := [(0, .c (.lst (rows t))), (1, .c (ci y))]) rfl rfl ⟨rfl, rfl, trivial⟩) ?_
  refine aw_region ?_
  refine run_s (ss_assign rfl) rfl ?_
  refine run_nil ?_
  refine aw_seq ?_
  refine aw_region ?_
  refine run_w (ws_buildSlice (id := 7) (ps := []) rfl rfl (Nat.le_of_ble_eq_true rfl) rfl ⟨rfl, ?_⟩)
  refine run_s (ss_assign rfl) rfl ?_
  refine run_nil ?_
  refine aw_seq ?_
  refine aw_seq ?_
  refine aw_region ?_
  refine run_s (ss_assign rfl) rfl ?_
  refine run_nil ?_
  refine aw_block ?_
  obtain ⟨H1, m1, q1, h⟩ := h
  refine aw_loop2 (fun (v6_1 : Int) (o7_1 : List Int) => ⟨[(7, ⟨ints o7_1, []⟩)], [(0, .c (.lst (rows t))), (1, .c (ci y)), (5, .ref 7), (6, .c (ci v6_1))], 25⟩) H1 m1 ⟨0, ([] : List Int), ghe_to (n := 25) rfl rfl ⟨rfl, rfl, rfl, rfl, trivial⟩, q1⟩ ?_
  rintro v6_1 o7_1 q1
  replace h := h v6_1 o7_1 q1
  refine aw_seq ?_
  refine aw_seq ?_
  refine aw_region ?_
  refine run_s (ss_move rfl) rfl ?_
  refine run_s (ss_move rfl) rfl ?_
  refine run_s (ss_lenL (f := (fun r => C.lst (ints r))) rfl) rfl ?_
  refine run_s (ss_lss rfl rfl) rfl ?_
  refine run_nil ?_
  refine aw_cond rfl (fun q2 => ?_) (fun q2 => ?_)
  · replace h := h.1 (of_decide_eq_true q2)
    refine aw_skip ?_
    refine aw_seq ?_
    refine aw_block ?_
    refine aw_region ?_
    refine run_s (ss_move rfl) rfl ?_
    refine run_s (ss_move rfl) rfl ?_
    refine run_s (ss_move rfl) rfl ?_
    obtain ⟨q3, h⟩ := h
    refine run_s (ss_idxL rfl rfl q3) rfl ?_
    refine run_s (ss_loadL (f := (fun r => C.lst (ints r))) rfl q3) rfl ?_
    refine run_s (ss_move rfl) rfl ?_
    obtain ⟨q4, h⟩ := h
    refine run_s (ss_idxL rfl rfl q4) rfl ?_
    refine run_s (ss_loadL (f := ci) rfl q4) rfl ?_
    refine run_w (ws_buildSlice (id := 22) (ps := [(0, .tmp 21)]) rfl rfl (Nat.le_of_ble_eq_true rfl) rfl ⟨rfl, ?_⟩)
    obtain ⟨q5, h⟩ := h
    refine run_w (ws_app1 ci (l := o7_1) (m := [el (el t v6_1) y]) rfl rfl rfl rfl rfl (Nat.le_of_ble_eq_true rfl) q5 ⟨rfl, ?_⟩)
    refine run_s (ss_assign rfl) rfl ?_
    refine run_nil ?_
    refine aw_gh (gh_to (n := 25) (σ' := [(7, ⟨ints (o7_1 ++ ([el (el t v6_1) y])), []⟩)]) (env' := [(0, .c (.lst (rows t))), (1, .c (ci y)), (5, .ref 7), (6, .c (ci v6_1))]) rfl rfl ⟨rfl, rfl, rfl, rfl, trivial⟩) ?_
    refine aw_region ?_
    refine run_s (ss_move rfl) rfl ?_
    obtain ⟨q6, h⟩ := h
    refine run_s (ss_add rfl rfl q6) rfl ?_
    refine run_s (ss_assign rfl) rfl ?_
    refine run_nil ?_
    exact ⟨v6_1 + 1, o7_1 ++ ([el (el t v6_1) y]), ghe_to (n := 25) rfl rfl ⟨rfl, rfl, rfl, rfl, trivial⟩, h.1, h.2⟩
  · replace h := h.2 (of_decide_eq_false q2)
    refine aw_exit ?_
    refine aw_seq ?_
    refine aw_gh (gh_to (n := 25) (σ' := [(7, ⟨ints o7_1, []⟩)]) (env' := [(5, .ref 7)]) rfl rfl ⟨rfl, trivial⟩) ?_
    refine aw_region ?_
    refine run_s (ss_move rfl) rfl ?_
    refine run_s (ss_assign rfl) rfl ?_
    refine run_nil ?_
    refine aw_ret ?_
    exact retAF_mk (retv1 rfl (rv_tmp rfl)) rfl rfl ⟨_, (cle_refl _), _, h, rfl⟩

theorem c_spec_l01Column (t : List (List Int)) (y : Int) (hp : isTab t = true ∧ 0 ≤ y ∧ y < (t.length : Int)) : AF Try.prog 115 [.lst (rows t), ci y] (fun R_ => R_ = .own (ints (colI t y))) :=
  (w_spec_l01Column t y (fun y0 => y0 = colI t y) (p_spec_l01Column t y hp)).mono (by rintro r ⟨_, rfl, rfl⟩; rfl)

set_option maxRecDepth 100000 in
set_option maxHeartbeats 1000000 in
theorem w_spec_l01Turn (t : List (List Int)) (Q : List (List Int) → Prop) (h : wp_spec_l01Turn t Q) : AF Try.prog 74 [.lst (rows t)] (fun R_ => ∃ y0, Q y0 ∧ R_ = .own (orows y0)) := by
  refine AF.ofWQ (af_enter (n := 19) Try.func74 rfl (by rfl) rfl (Nat.le_of_ble_eq_true rfl) ?_)
  unfold wp_spec_l01Turn at h
  refine aw_seq ?_
  refine aw_gh (gh_to (n := 19) (σ' := []) (env' := [(0, .c (.lst (rows t)))]) rfl rfl ⟨rfl, trivial⟩) ?_
  refine aw_region ?_
  refine run_s (ss_assign rfl) rfl ?_
  refine run_nil ?_
  refine aw_seq ?_
  refine aw_region ?_
  refine run_w (ws_buildSlice (id := 5) (ps := []) rfl rfl (Nat.le_of_ble_eq_true rfl) rfl ⟨rfl, ?_⟩)
  refine run_s (ss_assign rfl) rfl ?_
  refine run_nil ?_
  refine aw_seq ?_
  refine aw_seq ?_
  refine aw_region ?_
  refine run_s (ss_assign rfl) rfl ?_
  refine run_nil ?_
  refine aw_block ?_
  obtain ⟨H1, m1, q1, h⟩ := h
  refine aw_loop2 (fun (v4_1 : Int) (o5_1 : List (List Int)) => ⟨[(5, ⟨orows o5_1, []⟩)], [(0, .c (.lst (rows t))), (3, .ref 5), (4, .c (ci v4_1))], 19⟩) H1 m1 ⟨0, ([] : List (List Int)), ghe_to (n := 19) rfl rfl ⟨rfl, rfl, rfl, trivial⟩, q1⟩ ?_
  rintro v4_1 o5_1 q1
  replace h := h v4_1 o5_1 q1
  refine aw_seq ?_
  refine aw_seq ?_
  refine aw_region ?_
  refine run_s (ss_move rfl) rfl ?_
  refine run_s (ss_move rfl) rfl ?_
  refine run_s (ss_lenL (f := (fun r => C.lst (ints r))) rfl) rfl ?_
  refine run_s (ss_lss rfl rfl) rfl ?_
  refine run_nil ?_
  refine aw_cond rfl (fun q2 => ?_) (fun q2 => ?_)
  · replace h := h.1 (of_decide_eq_true q2)
    refine aw_skip ?_
    refine aw_seq ?_
    refine aw_block ?_
    refine aw_region ?_
    refine run_s (ss_move rfl) rfl ?_
    refine run_s (ss_move rfl) rfl ?_
    refine run_s (ss_move rfl) rfl ?_
    obtain ⟨q3, h⟩ := h
    refine run_w (ws_call (xs := [.tmp 13, .tmp 14]) (ids := [15]) rfl rfl rfl rfl (c_spec_l01Column t v4_1 q3) rfl ?_ )
    rintro _ rfl
    refine ⟨rfl, ?_⟩
    refine run_w (ws_buildSlice (id := 16) (ps := [(0, .tmp 15)]) rfl rfl (Nat.le_of_ble_eq_true rfl) rfl ⟨rfl, ?_⟩)
    refine run_gh (gh_fill (id := 16) (id2 := 15) (j := 0) rfl rfl (Nat.le_of_ble_eq_true rfl) rfl rfl rfl) ?_
    obtain ⟨q5, h⟩ := h
    refine run_w (ws_app1 (fun r => C.own (ints r)) (l := o5_1) (m := [colI t v4_1]) rfl rfl rfl rfl rfl (Nat.le_of_ble_eq_true rfl) q5 ⟨rfl, ?_⟩)
    refine run_s (ss_assign rfl) rfl ?_
    refine run_nil ?_
    refine aw_gh (gh_to (n := 19) (σ' := [(5, ⟨orows (o5_1 ++ ([colI t v4_1])), []⟩)]) (env' := [(0, .c (.lst (rows t))), (3, .ref 5), (4, .c (ci v4_1))]) rfl rfl ⟨rfl, rfl, rfl, trivial⟩) ?_
    refine aw_region ?_
    refine run_s (ss_move rfl) rfl ?_
    obtain ⟨q6, h⟩ := h
    refine run_s (ss_add rfl rfl q6) rfl ?_
    refine run_s (ss_assign rfl) rfl ?_
    refine run_nil ?_
    exact ⟨v4_1 + 1, o5_1 ++ ([colI t v4_1]), ghe_to (n := 19) rfl rfl ⟨rfl, rfl, rfl, trivial⟩, h.1, h.2⟩
  · replace h := h.2 (of_decide_eq_false q2)
    refine aw_exit ?_
    refine aw_seq ?_
    refine aw_gh (gh_to (n := 19) (σ' := [(5, ⟨orows o5_1, []⟩)]) (env' := [(3, .ref 5)]) rfl rfl ⟨rfl, trivial⟩) ?_
    refine aw_region ?_
    refine run_s (ss_move rfl) rfl ?_
    refine run_s (ss_assign rfl) rfl ?_
    refine run_nil ?_
    refine aw_ret ?_
    exact retAF_mk (retv1 rfl (rv_tmp rfl)) rfl rfl ⟨_, (cle_refl _), _, h, rfl⟩

theorem c_spec_l01Turn (t : List (List Int)) (hp : isTab t = true) : AF Try.prog 74 [.lst (rows t)] (fun R_ => R_ = .own (orows (trnT t))) :=
  (w_spec_l01Turn t (fun y0 => y0 = trnT t) (p_spec_l01Turn t hp)).mono (by rintro r ⟨_, rfl, rfl⟩; rfl)

set_option maxRecDepth 100000 in
set_option maxHeartbeats 1000000 in
theorem w_impl_transposed_1 (x : Int) (y : Int) (t : List (List Int)) (Q : Int → Prop) (h : wp_impl_transposed_1 x y t Q) : AF Try.prog 119 [ci x, ci y, .ptr [.lst (rows t)]] (fun R_ => ∃ y0, Q y0 ∧ R_ = ci y0) := by
  refine AF.ofWQ (af_enter (n := 13) Try.func119 rfl (by rfl) rfl (Nat.le_of_ble_eq_true rfl) ?_)
  unfold wp_impl_transposed_1 at h
  refine aw_seq ?_
  refine aw_gh (gh_to (n := 13) (σ' := []) (env' := [(0, .c (ci x)), (1, .c (ci y)), (2, .c (.ptr [.lst (rows t)]))]) rfl rfl ⟨rfl, rfl, rfl, trivial⟩) ?_
  refine aw_region ?_
  refine run_s (ss_assign rfl) rfl ?_
  refine run_nil ?_
  refine aw_seq ?_
  refine aw_region ?_
  refine run_s (ss_load_ptr rfl rfl) rfl ?_
  refine run_s (ss_move rfl) rfl ?_
  obtain ⟨q1, h⟩ := h
  refine run_s (ss_idxL rfl rfl q1) rfl ?_
  refine run_s (ss_loadL (f := (fun r => C.lst (ints r))) rfl q1) rfl ?_
  refine run_s (ss_move rfl) rfl ?_
  obtain ⟨q2, h⟩ := h
  refine run_s (ss_idxL rfl rfl q2) rfl ?_
  refine run_s (ss_loadL (f := ci) rfl q2) rfl ?_
  refine run_s (ss_assign rfl) rfl ?_
  refine run_nil ?_
  refine aw_ret ?_
  exact retAF_mk (retv1 rfl (rv_tmp rfl)) rfl rfl ⟨_, (cle_refl _), _, h, rfl⟩

theorem c_impl_transposed_1 (x : Int) (y : Int) (t : List (List Int)) (hp : isTab t = true ∧ 0 ≤ x ∧ x < (t.length : Int) ∧ 0 ≤ y ∧ y < (t.length : Int)) : AF Try.prog 119 [ci x, ci y, .ptr [.lst (rows t)]] (fun R_ => R_ = ci (el (el t y) x)) :=
  (w_impl_transposed_1 x y t (fun y0 => y0 = el (el t y) x) (p_impl_transposed_1 x y t hp)).mono (by rintro r ⟨_, rfl, rfl⟩; rfl)

set_option maxRecDepth 100000 in
set_option maxHeartbeats 1000000 in
theorem w_impl_transposed (t : List (List Int)) (Q : List (List Int) → Prop) (h : wp_impl_transposed t Q) : AF Try.prog 80 [.lst (rows t)] (fun R_ => ∃ y0, Q y0 ∧ R_ = .own (orows y0)) := by
  refine AF.ofWQ (af_enter (n := 7) Try.func80 rfl (by rfl) rfl (Nat.le_of_ble_eq_true rfl) ?_)
  unfold wp_impl_transposed at h
  refine aw_seq ?_
  refine aw_gh (gh_to (n := 7) (σ' := []) (env' := [(0, .c (.lst (rows t)))]) rfl rfl ⟨rfl, trivial⟩) ?_
  refine aw_region ?_
  refine run_w (ws_boxR rfl (.inr rfl) rfl ⟨rfl, ?_⟩)
  refine run_s (ss_assign rfl) rfl ?_
  refine run_nil ?_
  refine aw_seq ?_
  refine aw_region ?_
  refine run_s (ss_load_ptr rfl rfl) rfl ?_
  refine run_s (ss_lenL (f := (fun r => C.lst (ints r))) rfl) rfl ?_
  refine run_s (ss_makeFunc (os := [.tmp 1]) rfl) rfl ?_
  obtain ⟨q1, h⟩ := h
  refine run_w (ws_call (xs := [.tmp 4, .tmp 5]) (ids := [6]) rfl rfl rfl rfl (c_impl_tableBy (t.length : Int) 119 [.ptr [.lst (rows t)]] (fun z0 z1 => el (el t z1) z0) (fun z0 z1 => isTab t = true ∧ 0 ≤ z0 ∧ z0 < (t.length : Int) ∧ 0 ≤ z1 ∧ z1 < (t.length : Int)) (fun z0 z1 hD => c_impl_transposed_1 z0 z1 t hD) q1) rfl ?_ )
  rintro _ rfl
  refine ⟨rfl, ?_⟩
  refine run_s (ss_assign rfl) rfl ?_
  refine run_nil ?_
  refine aw_ret ?_
  exact retAF_mk (retv1 rfl (rv_tmp rfl)) rfl rfl ⟨_, (cle_refl _), _, h, rfl⟩

theorem c_impl_transposed (t : List (List Int)) (hp : isTab t = true) : AF Try.prog 80 [.lst (rows t)] (fun R_ => R_ = .own (orows (trnT t))) :=
  (w_impl_transposed t (fun y0 => y0 = trnT t) (p_impl_transposed t hp)).mono (by rintro r ⟨_, rfl, rfl⟩; rfl)

set_option maxRecDepth 100000 in
set_option maxHeartbeats 1000000 in
theorem w_impl_IsPairMap (s1 : List (List Int)) (s2 : List (List Int)) (Q : Bool → Prop) (h : wp_impl_IsPairMap s1 s2 Q) : AF Try.prog 76 [.agg [.lst (rows s1), .lst (rows s2)]] (fun R_ => ∃ y0, Q y0 ∧ R_ = cb y0) := by
  refine AF.ofWQ (af_enter (n := 20) Try.func76 rfl (by rfl) rfl (Nat.le_of_ble_eq_true rfl) ?_)
  unfold wp_impl_IsPairMap at h
  refine aw_seq ?_
  refine aw_gh (gh_to (n := 20) (σ' := []) (env' := [(0, .c (.agg [.lst (rows s1), .lst (rows s2)]))]) rfl rfl ⟨rfl, trivial⟩) ?_
  refine aw_region ?_
  refine run_w (ws_boxR rfl (.inl rfl) rfl ⟨rfl, ?_⟩)
  refine run_s (ss_assign rfl) rfl ?_
  refine run_nil ?_
  refine aw_seq ?_
  refine aw_region ?_
  refine run_s (ss_field_ptr rfl) rfl ?_
  refine run_s (ss_load_ptr rfl rfl) rfl ?_
  obtain ⟨q1, h⟩ := h
  refine run_w (ws_call (xs := [.tmp 4]) (ids := []) rfl rfl rfl rfl (c_impl_IsTable s1 q1) rfl ?_ )
  rintro _ rfl
  refine ⟨rfl, ?_⟩
  refine run_s (ss_move rfl) rfl ?_
  refine run_split (s := 6) rfl (fun q3 => ?_) (fun q3 => ?_)
  · replace h := h.1 (q3)
    refine run_gt rfl rfl q3 ?_
    refine run_s (ss_field_ptr rfl) rfl ?_
    refine run_gt rfl rfl q3 ?_
    refine run_s (ss_load_ptr rfl rfl) rfl ?_
    refine run_gt rfl rfl q3 ?_
    obtain ⟨q4, h⟩ := h
    refine run_w (ws_call (xs := [.tmp 8]) (ids := []) rfl rfl rfl rfl (c_impl_IsTable s2 q4) rfl ?_ )
    rintro _ rfl
    refine ⟨rfl, ?_⟩
    refine run_s (ss_pickT rfl q3 rfl) rfl ?_
    refine run_s (ss_move rfl) rfl ?_
    refine run_split (s := 11) rfl (fun q6 => ?_) (fun q6 => ?_)
    · replace h := h.1 (q6)
      refine run_gt rfl rfl q6 ?_
      refine run_s (ss_field_ptr rfl) rfl ?_
      refine run_gt rfl rfl q6 ?_
      refine run_s (ss_load_ptr rfl rfl) rfl ?_
      refine run_gt rfl rfl q6 ?_
      refine run_s (ss_lenL (f := (fun r => C.lst (ints r))) rfl) rfl ?_
      refine run_gt rfl rfl q6 ?_
      refine run_s (ss_field_ptr rfl) rfl ?_
      refine run_gt rfl rfl q6 ?_
      refine run_s (ss_load_ptr rfl rfl) rfl ?_
      refine run_gt rfl rfl q6 ?_
      refine run_s (ss_lenL (f := (fun r => C.lst (ints r))) rfl) rfl ?_
      refine run_gt rfl rfl q6 ?_
      refine run_s (ss_eql rfl rfl) rfl ?_
      refine run_s (ss_pickT rfl q6 rfl) rfl ?_
      refine run_s (ss_assign rfl) rfl ?_
      refine run_nil ?_
      refine aw_ret ?_
      exact retAF_mk (retv1 rfl (rv_tmp rfl)) rfl rfl ⟨_, (cle_refl _), _, h, rfl⟩
    · replace h := h.2 (q6)
      refine run_gf rfl rfl q6 rfl ?_
      refine run_gf rfl rfl q6 rfl ?_
      refine run_gf rfl rfl q6 rfl ?_
      refine run_gf rfl rfl q6 rfl ?_
      refine run_gf rfl rfl q6 rfl ?_
      refine run_gf rfl rfl q6 rfl ?_
      refine run_gf rfl rfl q6 rfl ?_
      refine run_s (ss_pickF rfl q6 rfl) rfl ?_
      refine run_s (ss_assign rfl) rfl ?_
      refine run_nil ?_
      refine aw_ret ?_
      exact retAF_mk (retv1 rfl (rv_tmp rfl)) rfl rfl ⟨_, (cle_refl _), _, h, rfl⟩
  · replace h := h.2 (q3)
    refine run_gf rfl rfl q3 rfl ?_
    refine run_gf rfl rfl q3 rfl ?_
    refine run_gf rfl rfl q3 rfl ?_
    refine run_s (ss_pickF rfl q3 rfl) rfl ?_
    refine run_s (ss_move rfl) rfl ?_
    refine run_split (s := 11) rfl (fun q7 => ?_) (fun q7 => ?_)
    · cases q7
    · skip
      refine run_gf rfl rfl q7 rfl ?_
      refine run_gf rfl rfl q7 rfl ?_
      refine run_gf rfl rfl q7 rfl ?_
      refine run_gf rfl rfl q7 rfl ?_
      refine run_gf rfl rfl q7 rfl ?_
      refine run_gf rfl rfl q7 rfl ?_
      refine run_gf rfl rfl q7 rfl ?_
      refine run_s (ss_pickF rfl q7 rfl) rfl ?_
      refine run_s (ss_assign rfl) rfl ?_
      refine run_nil ?_
      refine aw_ret ?_
      exact retAF_mk (retv1 rfl (rv_tmp rfl)) rfl rfl ⟨_, (cle_refl _), _, h, rfl⟩

theorem c_impl_IsPairMap (s1 : List (List Int)) (s2 : List (List Int)) (hp : small2 s1 ∧ small2 s2) : AF Try.prog 76 [.agg [.lst (rows s1), .lst (rows s2)]] (fun R_ => R_ = cb (pmB s1 s2)) :=
  (w_impl_IsPairMap s1 s2 (fun y0 => y0 = pmB s1 s2) (p_impl_IsPairMap s1 s2 hp)).mono (by rintro r ⟨_, rfl, rfl⟩; rfl)

set_option maxRecDepth 100000 in
set_option maxHeartbeats 1000000 in
theorem w_impl_solutionCycle (s1 : List (List Int)) (s2 : List (List Int)) (Q : List (List Int) → Prop) (h : wp_impl_solutionCycle s1 s2 Q) : AF Try.prog 40 [.agg [.lst (rows s1), .lst (rows s2)]] (fun R_ => ∃ y0, Q y0 ∧ R_ = .agg [.own (orows y0)]) := by
  refine AF.ofWQ (af_enter (n := 22) Try.func40 rfl (by rfl) rfl (Nat.le_of_ble_eq_true rfl) ?_)
  unfold wp_impl_solutionCycle at h
  refine aw_seq ?_
  refine aw_gh (gh_to (n := 22) (σ' := []) (env' := [(0, .c (.agg [.lst (rows s1), .lst (rows s2)]))]) rfl rfl ⟨rfl, trivial⟩) ?_
  refine aw_region ?_
  refine run_w (ws_boxR rfl (.inl rfl) rfl ⟨rfl, ?_⟩)
  refine run_w (ws_alloc (id := 2) rfl (Nat.le_of_ble_eq_true rfl) ⟨rfl, ?_⟩)
  refine run_nil ?_
  refine aw_seq ?_
  refine aw_region ?_
  refine run_w (ws_alloc (id := 3) rfl (Nat.le_of_ble_eq_true rfl) ⟨rfl, ?_⟩)
  refine run_nil ?_
  refine aw_seq ?_
  refine aw_seq ?_
  refine aw_region ?_
  refine run_s (ss_field_ptr rfl) rfl ?_
  refine run_s (ss_load_ptr rfl rfl) rfl ?_
  refine run_s (ss_lenL (f := (fun r => C.lst (ints r))) rfl) rfl ?_
  refine run_s (ss_move rfl) rfl ?_
  refine run_nil ?_
  refine aw_block ?_
  obtain ⟨H1, m1, q1, h⟩ := h
  refine aw_loop2 (fun (v9_1 : Int) (o200048_1 : List (List Int)) => ⟨[(200048, ⟨orows o200048_1, []⟩), (3, ⟨[.hole], [(0, .ref 200048)]⟩), (2, ⟨[cnil], []⟩)], [(2, .cell 2 0), (3, .cell 3 0), (7, .c (.lst (rows s1))), (8, .c (ci (s1.length : Int))), (9, .c (ci v9_1))], 22⟩) H1 m1 ⟨0, ([] : List (List Int)), ghe_step (gh_nilH (id0 := 3) (j := 0) (id := 200048) rfl rfl rfl rfl) (ghe_to (n := 22) rfl rfl ⟨rfl, rfl, rfl, rfl, rfl, trivial⟩), q1⟩ ?_
  rintro v9_1 o200048_1 q1
  replace h := h v9_1 o200048_1 q1
  refine aw_seq ?_
  refine aw_region ?_
  refine run_s (ss_lss rfl rfl) rfl ?_
  refine run_nil ?_
  refine aw_seq ?_
  refine aw_cond rfl (fun q2 => ?_) (fun q2 => ?_)
  · replace h := h.1 (of_decide_eq_true q2)
    refine aw_skip ?_
    refine aw_seq ?_
    refine aw_block ?_
    refine aw_seq ?_
    refine aw_region ?_
    obtain ⟨q3, h⟩ := h
    refine run_s (ss_idxL rfl rfl q3) rfl ?_
    refine run_s (ss_loadL (f := (fun r => C.lst (ints r))) rfl q3) rfl ?_
    refine run_s (ss_assign rfl) rfl ?_
    refine run_nil ?_
    refine aw_gh (gh_to (n := 22) (σ' := [(200048, ⟨orows o200048_1, []⟩), (3, ⟨[.hole], [(0, .ref 200048)]⟩), (2, ⟨[cnil], []⟩)]) (env' := [(2, .cell 2 0), (3, .cell 3 0), (5, .c (.lst (ints (el s1 v9_1)))), (7, .c (.lst (rows s1))), (8, .c (ci (s1.length : Int))), (9, .c (ci v9_1))]) rfl rfl ⟨rfl, rfl, rfl, rfl, rfl, rfl, trivial⟩) ?_
    refine aw_regionD (kd := kdl [0, 1, 0, 2, 2, 2, 0, 3]) (ord := [0, 2, 1, 3, 4, 5, 6, 7]) [16, 17, 200048] mixed (by kernel_rfl) ?_
    refine rd_s rfl rfl trivial (ss_field_cell rfl) rfl ?_
    refine rd_s rfl rfl trivial (ss_move rfl) rfl ?_
    refine rd_l rfl rfl trivial (ss_loadH rfl rfl rfl rfl) rfl ?_
    obtain ⟨q4, h⟩ := h
    refine rd_w rfl rfl trivial rfl rfl (ws_call (xs := [.tmp 15]) (ids := [16]) rfl rfl rfl rfl (c_impl_inverse (el s1 v9_1) q4) rfl ?_ )
    rintro _ rfl
    refine ⟨rfl, ?_⟩
    refine rd_w rfl rfl trivial rfl rfl (ws_buildSlice (id := 17) (ps := [(0, .tmp 16)]) rfl rfl (Nat.le_of_ble_eq_true rfl) rfl ⟨rfl, ?_⟩)
    obtain ⟨q6, h⟩ := h
    refine rd_w rfl rfl trivial rfl rfl (ws_gh (gh_fill (id := 17) (id2 := 16) (j := 0) rfl rfl (Nat.le_of_ble_eq_true rfl) rfl rfl rfl) (ws_app1 (fun r => C.own (ints r)) (l := o200048_1) (m := [backI (el s1 v9_1)]) rfl rfl rfl rfl rfl (Nat.le_of_ble_eq_true rfl) q6 ⟨rfl, ?_⟩))
    refine rd_s rfl rfl trivial (ss_field_cell rfl) rfl ?_
    refine rd_f rfl rfl trivial (ws_store rfl rfl (Nat.le_of_ble_eq_true rfl) rfl rfl ⟨rfl, ?_⟩)
    refine rd_nil ?_
    refine aw_gh (gh_to (n := 22) (σ' := [(200048, ⟨orows (o200048_1 ++ ([backI (el s1 v9_1)])), []⟩), (3, ⟨[.hole], [(0, .ref 200048)]⟩), (2, ⟨[cnil], []⟩)]) (env' := [(2, .cell 2 0), (3, .cell 3 0), (7, .c (.lst (rows s1))), (8, .c (ci (s1.length : Int))), (9, .c (ci v9_1))]) rfl rfl ⟨rfl, rfl, rfl, rfl, rfl, trivial⟩) ?_
    refine aw_region ?_
    obtain ⟨q7, h⟩ := h
    refine run_s (ss_add rfl rfl q7) rfl ?_
    refine run_s (ss_move rfl) rfl ?_
    refine run_nil ?_
    exact ⟨v9_1 + 1, o200048_1 ++ ([backI (el s1 v9_1)]), ghe_to (n := 22) rfl rfl ⟨rfl, rfl, rfl, rfl, rfl, trivial⟩, h.1, h.2⟩
  · replace h := h.2 (of_decide_eq_false q2)
    refine aw_exit ?_
    refine aw_seq ?_
    refine aw_gh (gh_to (n := 22) (σ' := [(200048, ⟨orows o200048_1, []⟩), (3, ⟨[.hole], [(0, .ref 200048)]⟩), (2, ⟨[cnil], []⟩)]) (env' := [(2, .cell 2 0), (3, .cell 3 0)]) rfl rfl ⟨rfl, rfl, trivial⟩) ?_
    refine aw_region ?_
    refine run_s (ss_loadS rfl rfl rfl rfl) rfl ?_
    refine run_w (ws_storeS rfl rfl (Nat.le_of_ble_eq_true rfl) rfl rfl rfl ⟨rfl, ?_⟩)
    refine run_nil ?_
    refine aw_ret ?_
    exact retAF_mk (retv1 rfl (rv_struct rfl rfl rfl)) rfl rfl ⟨_, (cle_refl _), _, h, rfl⟩

theorem c_impl_solutionCycle (s1 : List (List Int)) (s2 : List (List Int)) (hp : isTab s1 = true ∧ s1.all isPerm = true) : AF Try.prog 40 [.agg [.lst (rows s1), .lst (rows s2)]] (fun R_ => R_ = .agg [.own (orows (s1.map backI))]) :=
  (w_impl_solutionCycle s1 s2 (fun y0 => y0 = s1.map backI) (p_impl_solutionCycle s1 s2 hp)).mono (by rintro r ⟨_, rfl, rfl⟩; rfl)

set_option maxRecDepth 100000 in
set_option maxHeartbeats 1000000 in
theorem w_spec_l05Cycle (s1 : List (List Int)) (s2 : List (List Int)) (Q : List (List Int) → Prop) (h : wp_spec_l05Cycle s1 s2 Q) : AF Try.prog 35 [.agg [.lst (rows s1), .lst (rows s2)]] (fun R_ => ∃ y0, Q y0 ∧ R_ = .agg [.own (orows y0)]) := by
  refine AF.ofWQ (af_enter (n := 25) Try.func35 rfl (by rfl) rfl (Nat.le_of_ble_eq_true rfl) ?_)
  unfold wp_spec_l05Cycle at h
  refine aw_seq ?_
  refine aw_gh (gh_to (n := 25) (σ' := []) (env' := [(0, .c (.agg [.lst (rows s1), .lst (rows s2)]))]) rfl rfl ⟨rfl, trivial⟩) ?_
  refine aw_region ?_
  refine run_w (ws_boxR rfl (.inl rfl) rfl ⟨rfl, ?_⟩)
  refine run_w (ws_alloc (id := 2) rfl (Nat.le_of_ble_eq_true rfl) ⟨rfl, ?_⟩)
  refine run_nil ?_
  refine aw_seq ?_
  refine aw_region ?_
  refine run_s (ss_build0) rfl ?_
  refine run_w (ws_alloc (id := 3) rfl (Nat.le_of_ble_eq_true rfl) ⟨rfl, ?_⟩)
  refine run_w (ws_storeS rfl rfl (Nat.le_of_ble_eq_true rfl) rfl rfl rfl ⟨rfl, ?_⟩)
  refine run_nil ?_
  refine aw_seq ?_
  refine aw_seq ?_
  refine aw_region ?_
  refine run_s (ss_assign rfl) rfl ?_
  refine run_nil ?_
  refine aw_block ?_
  obtain ⟨H1, m1, q1, h⟩ := h
  refine aw_loop2 (fun (v4_1 : Int) (o200048_1 : List (List Int)) => ⟨[(200048, ⟨orows o200048_1, []⟩), (3, ⟨[.hole], [(0, .ref 200048)]⟩), (2, ⟨[cnil], []⟩)], [(1, .c (.ptr [.lst (rows s1), .lst (rows s2)])), (2, .cell 2 0), (3, .cell 3 0), (4, .c (ci v4_1))], 25⟩) H1 m1 ⟨0, ([] : List (List Int)), ghe_step (gh_nilH (id0 := 3) (j := 0) (id := 200048) rfl rfl rfl rfl) (ghe_to (n := 25) rfl rfl ⟨rfl, rfl, rfl, rfl, trivial⟩), q1⟩ ?_
  rintro v4_1 o200048_1 q1
  replace h := h v4_1 o200048_1 q1
  refine aw_seq ?_
  refine aw_seq ?_
  refine aw_region ?_
  refine run_s (ss_move rfl) rfl ?_
  refine run_s (ss_field_ptr rfl) rfl ?_
  refine run_s (ss_load_ptr rfl rfl) rfl ?_
  refine run_s (ss_lenL (f := (fun r => C.lst (ints r))) rfl) rfl ?_
  refine run_s (ss_lss rfl rfl) rfl ?_
  refine run_nil ?_
  refine aw_cond rfl (fun q2 => ?_) (fun q2 => ?_)
  · replace h := h.1 (of_decide_eq_true q2)
    refine aw_skip ?_
    refine aw_seq ?_
    refine aw_block ?_
    refine aw_gh (gh_to (n := 25) (σ' := [(200048, ⟨orows o200048_1, []⟩), (3, ⟨[.hole], [(0, .ref 200048)]⟩), (2, ⟨[cnil], []⟩)]) (env' := [(1, .c (.ptr [.lst (rows s1), .lst (rows s2)])), (2, .cell 2 0), (3, .cell 3 0), (4, .c (ci v4_1))]) rfl rfl ⟨rfl, rfl, rfl, rfl, trivial⟩) ?_
    refine aw_regionD (kd := kdl [0, 1, 0, 1, 0, 0, 1, 2, 2, 2, 0, 3]) (ord := [0, 2, 4, 1, 3, 5, 6, 7, 8, 9, 10, 11]) [20, 21, 200048] mixed (by kernel_rfl) ?_
    refine rd_s rfl rfl trivial (ss_field_cell rfl) rfl ?_
    refine rd_s rfl rfl trivial (ss_field_ptr rfl) rfl ?_
    refine rd_s rfl rfl trivial (ss_move rfl) rfl ?_
    refine rd_l rfl rfl trivial (ss_loadH rfl rfl rfl rfl) rfl ?_
    refine rd_l rfl rfl trivial (ss_load_ptr rfl rfl) rfl ?_
    obtain ⟨q3, h⟩ := h
    refine rd_s rfl rfl trivial (ss_idxL rfl rfl q3) rfl ?_
    refine rd_l rfl rfl trivial (ss_loadL (f := (fun r => C.lst (ints r))) rfl q3) rfl ?_
    obtain ⟨q4, h⟩ := h
    refine rd_w rfl rfl trivial rfl rfl (ws_call (xs := [.tmp 19]) (ids := [20]) rfl rfl rfl rfl (c_spec_l01Back (el s1 v4_1) q4) rfl ?_ )
    rintro _ rfl
    refine ⟨rfl, ?_⟩
    refine rd_w rfl rfl trivial rfl rfl (ws_buildSlice (id := 21) (ps := [(0, .tmp 20)]) rfl rfl (Nat.le_of_ble_eq_true rfl) rfl ⟨rfl, ?_⟩)
    obtain ⟨q6, h⟩ := h
    refine rd_w rfl rfl trivial rfl rfl (ws_gh (gh_fill (id := 21) (id2 := 20) (j := 0) rfl rfl (Nat.le_of_ble_eq_true rfl) rfl rfl rfl) (ws_app1 (fun r => C.own (ints r)) (l := o200048_1) (m := [backI (el s1 v4_1)]) rfl rfl rfl rfl rfl (Nat.le_of_ble_eq_true rfl) q6 ⟨rfl, ?_⟩))
    refine rd_s rfl rfl trivial (ss_field_cell rfl) rfl ?_
    refine rd_f rfl rfl trivial (ws_store rfl rfl (Nat.le_of_ble_eq_true rfl) rfl rfl ⟨rfl, ?_⟩)
    refine rd_nil ?_
    refine aw_gh (gh_to (n := 25) (σ' := [(200048, ⟨orows (o200048_1 ++ ([backI (el s1 v4_1)])), []⟩), (3, ⟨[.hole], [(0, .ref 200048)]⟩), (2, ⟨[cnil], []⟩)]) (env' := [(1, .c (.ptr [.lst (rows s1), .lst (rows s2)])), (2, .cell 2 0), (3, .cell 3 0), (4, .c (ci v4_1))]) rfl rfl ⟨rfl, rfl, rfl, rfl, trivial⟩) ?_
    refine aw_region ?_
    refine run_s (ss_move rfl) rfl ?_
    obtain ⟨q7, h⟩ := h
    refine run_s (ss_add rfl rfl q7) rfl ?_
    refine run_s (ss_assign rfl) rfl ?_
    refine run_nil ?_
    exact ⟨v4_1 + 1, o200048_1 ++ ([backI (el s1 v4_1)]), ghe_to (n := 25) rfl rfl ⟨rfl, rfl, rfl, rfl, trivial⟩, h.1, h.2⟩
  · replace h := h.2 (of_decide_eq_false q2)
    refine aw_exit ?_
    refine aw_seq ?_
    refine aw_gh (gh_to (n := 25) (σ' := [(200048, ⟨orows o200048_1, []⟩), (3, ⟨[.hole], [(0, .ref 200048)]⟩), (2, ⟨[cnil], []⟩)]) (env' := [(2, .cell 2 0), (3, .cell 3 0)]) rfl rfl ⟨rfl, rfl, trivial⟩) ?_
    refine aw_region ?_
    refine run_s (ss_loadS rfl rfl rfl rfl) rfl ?_
    refine run_w (ws_storeS rfl rfl (Nat.le_of_ble_eq_true rfl) rfl rfl rfl ⟨rfl, ?_⟩)
    refine run_nil ?_
    refine aw_ret ?_
    exact retAF_mk (retv1 rfl (rv_struct rfl rfl rfl)) rfl rfl ⟨_, (cle_refl _), _, h, rfl⟩

theorem c_spec_l05Cycle (s1 : List (List Int)) (s2 : List (List Int)) (hp : isTab s1 = true ∧ s1.all isPerm = true) : AF Try.prog 35 [.agg [.lst (rows s1), .lst (rows s2)]] (fun R_ => R_ = .agg [.own (orows (s1.map backI))]) :=
  (w_spec_l05Cycle s1 s2 (fun y0 => y0 = s1.map backI) (p_spec_l05Cycle s1 s2 hp)).mono (by rintro r ⟨_, rfl, rfl⟩; rfl)

set_option maxRecDepth 100000 in
set_option maxHeartbeats 1000000 in
theorem w_laws_eqSolution (a1 : List (List Int)) (a2 : List (List Int)) (b1 : List (List Int)) (b2 : List (List Int)) (Q : Bool → Prop) (h : wp_laws_eqSolution a1 a2 b1 b2 Q) : AF Try.prog 12 [.agg [.lst (rows a1), .lst (rows a2)], .agg [.lst (rows b1), .lst (rows b2)]] (fun R_ => ∃ y0, Q y0 ∧ R_ = cb y0) := by
  refine AF.ofWQ (af_enter (n := 17) Try.func12 rfl (by rfl) rfl (Nat.le_of_ble_eq_true rfl) ?_)
  unfold wp_laws_eqSolution at h
  refine aw_seq ?_
  refine aw_gh (gh_to (n := 17) (σ' := []) (env' := [(0, .c (.agg [.lst (rows a1), .lst (rows a2)])), (1, .c (.agg [.lst (rows b1), .lst (rows b2)]))]) rfl rfl ⟨rfl, rfl, trivial⟩) ?_
  refine aw_region ?_
  refine run_w (ws_boxR rfl (.inl rfl) rfl ⟨rfl, ?_⟩)
  refine run_w (ws_boxR rfl (.inl rfl) rfl ⟨rfl, ?_⟩)
  refine run_s (ss_assign rfl) rfl ?_
  refine run_nil ?_
  refine aw_seq ?_
  refine aw_seq ?_
  refine aw_region ?_
  refine run_s (ss_field_ptr rfl) rfl ?_
  refine run_s (ss_load_ptr rfl rfl) rfl ?_
  refine run_s (ss_field_ptr rfl) rfl ?_
  refine run_s (ss_load_ptr rfl rfl) rfl ?_
  obtain ⟨q1, h⟩ := h
  refine run_w (ws_call (xs := [.tmp 6, .tmp 8]) (ids := []) rfl rfl rfl rfl (c_laws_eqInt64SS a1 b1 q1) rfl ?_ )
  rintro _ rfl
  refine ⟨rfl, ?_⟩
  refine run_s (ss_not rfl) rfl ?_
  refine run_nil ?_
  refine aw_cond rfl (fun q3 => ?_) (fun q3 => ?_)
  · replace h := h.1 (of_decide_eq_false (bnot_t q3))
    refine aw_seq ?_
    refine aw_gh (gh_to (n := 17) (σ' := []) (env' := [(4, .c (cb false))]) rfl rfl ⟨rfl, trivial⟩) ?_
    refine aw_region ?_
    refine run_s (ss_assign rfl) rfl ?_
    refine run_nil ?_
    refine aw_ret ?_
    exact retAF_mk (retv1 rfl (rv_tmp rfl)) rfl rfl ⟨_, (cle_refl _), _, h, rfl⟩
  · replace h := h.2 (of_decide_eq_true (bnot_f q3))
    refine aw_skip ?_
    refine aw_seq ?_
    refine aw_seq ?_
    refine aw_gh (gh_to (n := 17) (σ' := []) (env' := [(2, .c (.ptr [.lst (rows a1), .lst (rows a2)])), (3, .c (.ptr [.lst (rows b1), .lst (rows b2)]))]) rfl rfl ⟨rfl, rfl, trivial⟩) ?_
    refine aw_region ?_
    refine run_s (ss_field_ptr rfl) rfl ?_
    refine run_s (ss_load_ptr rfl rfl) rfl ?_
    refine run_s (ss_field_ptr rfl) rfl ?_
    refine run_s (ss_load_ptr rfl rfl) rfl ?_
    obtain ⟨q4, h⟩ := h
    refine run_w (ws_call (xs := [.tmp 12, .tmp 14]) (ids := []) rfl rfl rfl rfl (c_laws_eqInt64SS a2 b2 q4) rfl ?_ )
    rintro _ rfl
    refine ⟨rfl, ?_⟩
    refine run_s (ss_not rfl) rfl ?_
    refine run_nil ?_
    refine aw_cond rfl (fun q6 => ?_) (fun q6 => ?_)
    · replace h := h.1 (of_decide_eq_false (bnot_t q6))
      refine aw_seq ?_
      refine aw_gh (gh_to (n := 17) (σ' := []) (env' := []) rfl rfl trivial) ?_
      refine aw_region ?_
      refine run_s (ss_assign rfl) rfl ?_
      refine run_nil ?_
      refine aw_ret ?_
      exact retAF_mk (retv1 rfl (rv_tmp rfl)) rfl rfl ⟨_, (cle_refl _), _, h, rfl⟩
    · replace h := h.2 (of_decide_eq_true (bnot_f q6))
      refine aw_skip ?_
      refine aw_seq ?_
      refine aw_gh (gh_to (n := 17) (σ' := []) (env' := []) rfl rfl trivial) ?_
      refine aw_region ?_
      refine run_s (ss_assign rfl) rfl ?_
      refine run_nil ?_
      refine aw_ret ?_
      exact retAF_mk (retv1 rfl (rv_tmp rfl)) rfl rfl ⟨_, (cle_refl _), _, h, rfl⟩

theorem c_laws_eqSolution (a1 : List (List Int)) (a2 : List (List Int)) (b1 : List (List Int)) (b2 : List (List Int)) (hp : (small2 a1 ∧ small2 a2) ∧ small2 b1 ∧ small2 b2) : AF Try.prog 12 [.agg [.lst (rows a1), .lst (rows a2)], .agg [.lst (rows b1), .lst (rows b2)]] (fun R_ => R_ = cb (decide (a1 = b1) && decide (a2 = b2))) :=
  (w_laws_eqSolution a1 a2 b1 b2 (fun y0 => y0 = (decide (a1 = b1) && decide (a2 = b2))) (p_laws_eqSolution a1 a2 b1 b2 hp)).mono (by rintro r ⟨_, rfl, rfl⟩; rfl)

set_option maxRecDepth 100000 in
set_option maxHeartbeats 1000000 in
theorem w_laws_markSolution (a1 : List (List Int)) (a2 : List (List Int)) (k : Int) (Q : Int → List (List Int) → List (List Int) → Prop) (h : wp_laws_markSolution a1 a2 k Q) : AM Try.prog 13 [.agg [.own (orows a1), .own (orows a2)], ci k] (fun R_ O_ => ∃ y0 w0 w1, Q y0 w0 w1 ∧ R_ = ci y0 ∧ O_ = [.agg [.own (orows w0), .own (orows w1)], ci k]) := by
  refine am_enter (n := 14) (m := 2) Try.func13 rfl (by rfl) rfl rfl (Nat.le_of_ble_eq_true rfl) [800, 801] rfl ?_
  unfold wp_laws_markSolution at h
  refine aw_seq ?_
  refine aw_gh (gh_to (n := 14) (σ' := [(800, ⟨orows a1, []⟩), (801, ⟨orows a2, []⟩)]) (env' := [(0, .agg [.ref 800, .ref 801]), (1, .c (ci k)), (14, .agg [.ref 800, .ref 801]), (15, .c (ci k))]) rfl rfl ⟨rfl, rfl, rfl, rfl, trivial⟩) ?_
  refine aw_region ?_
  refine run_w (ws_boxS (id := 2) rfl rfl rfl (Nat.le_of_ble_eq_true rfl) rfl ⟨rfl, ?_⟩)
  refine run_s (ss_assign rfl) rfl ?_
  refine run_nil ?_
  refine aw_seq ?_
  refine aw_region ?_
  refine run_s (ss_field_cell rfl) rfl ?_
  refine run_s (ss_loadH rfl rfl rfl rfl) rfl ?_
  refine run_s (ss_move rfl) rfl ?_
  obtain ⟨q1, h⟩ := h
  refine run_w (ws_callM (xs := [.tmp 6, .tmp 7]) (cs := [.own (orows a1), ci k]) (ids := []) rfl (.inr ⟨rfl, rfl⟩) rfl rfl rfl (c_laws_markInt64SS a1 k q1) rfl rfl ?_ )
  rintro _ _ ⟨rfl, rfl⟩
  refine ⟨rfl, rfl, ?_⟩
  refine run_s (ss_assign rfl) rfl ?_
  refine run_nil ?_
  refine aw_seq ?_
  refine aw_gh (gh_to (n := 14) (σ' := [(2, ⟨[.hole, .hole], [(0, .ref 800), (1, .ref 801)]⟩), (800, ⟨orows (mkII k a1), []⟩), (801, ⟨orows a2, []⟩)]) (env' := [(1, .c (ci (k + tot a1))), (2, .cell 2 0), (14, .agg [.ref 800, .ref 801]), (15, .c (ci k))]) rfl rfl ⟨rfl, rfl, rfl, rfl, trivial⟩) ?_
  refine aw_region ?_
  refine run_s (ss_field_cell rfl) rfl ?_
  refine run_s (ss_loadH rfl rfl rfl rfl) rfl ?_
  refine run_s (ss_move rfl) rfl ?_
  obtain ⟨q3, h⟩ := h
  refine run_w (ws_callM (xs := [.tmp 10, .tmp 11]) (cs := [.own (orows a2), ci (k + tot a1)]) (ids := []) rfl (.inr ⟨rfl, rfl⟩) rfl rfl rfl (c_laws_markInt64SS a2 (k + tot a1) q3) rfl rfl ?_ )
  rintro _ _ ⟨rfl, rfl⟩
  refine ⟨rfl, rfl, ?_⟩
  refine run_s (ss_assign rfl) rfl ?_
  refine run_nil ?_
  refine aw_seq ?_
  refine aw_gh (gh_to (n := 14) (σ' := [(2, ⟨[.hole, .hole], [(0, .ref 800), (1, .ref 801)]⟩), (800, ⟨orows (mkII k a1), []⟩), (801, ⟨orows (mkII (k + tot a1) a2), []⟩)]) (env' := [(1, .c (ci ((k + tot a1) + tot a2))), (14, .agg [.ref 800, .ref 801]), (15, .c (ci k))]) rfl rfl ⟨rfl, rfl, rfl, trivial⟩) ?_
  refine aw_region ?_
  refine run_s (ss_move rfl) rfl ?_
  refine run_s (ss_assign rfl) rfl ?_
  refine run_nil ?_
  refine aw_ret ?_
  exact retAM_mk (retv1 rfl (rv_tmp rfl)) rfl rfl rfl ⟨_, _, _, h, rfl, rfl⟩

theorem c_laws_markSolution (a1 : List (List Int)) (a2 : List (List Int)) (k : Int) (hp : small2 a1 ∧ small2 a2 ∧ 0 ≤ k ∧ k + tot a1 + tot a2 ≤ 1000000000000) : AM Try.prog 13 [.agg [.own (orows a1), .own (orows a2)], ci k] (fun R_ O_ => R_ = ci (k + tot a1 + tot a2) ∧ O_ = [.agg [.own (orows (mkII k a1)), .own (orows (mkII (k + tot a1) a2))], ci k]) :=
  (w_laws_markSolution a1 a2 k (fun y0 w0 w1 => y0 = k + tot a1 + tot a2 ∧ w0 = mkII k a1 ∧ w1 = mkII (k + tot a1) a2) (p_laws_markSolution a1 a2 k hp)).mono (by rintro r o ⟨_, _, _, ⟨rfl, rfl, rfl⟩, rfl, rfl⟩; exact ⟨rfl, rfl⟩)

end Go.Proofs.Ytbcdcnddnldijaa

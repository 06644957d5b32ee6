/- Contracts of functions that the law FnExactRowOrders reaches: conditions, plain proofs, walks; no condition. -/
import Derived.Test.YtllimiejaijbkaaKERowOrdersf
import Derived.Test.YtllimiejaijbkaaPg
namespace Go.Proofs.Ytllimiejaijbkaa

def wp_impl_PermutationOrder (p : List Int) (Q : Int → Int → Prop) : Prop :=
 (small p) ∧
 (((permB p) = false →
  Q 0 1) ∧
 ((permB p) = true →
  ∃ (H1 : Int → List Int → Prop) (m1 : Int → List Int → Nat),
  H1 1 p ∧
  ∀ (v4_1 : Int) (v5_1 : List Int), H1 v4_1 v5_1 →
  ( (small v5_1) ∧
   (((incB v5_1) = false →
    (InI (v4_1 + 1)) ∧
    (small v5_1 ∧ ∀ x_ ∈ v5_1, 0 ≤ x_ ∧ x_ < (p.length : Int)) ∧
    (H1 (v4_1 + 1) (v5_1.map (el p)) ∧ m1 (v4_1 + 1) (v5_1.map (el p)) < m1 v4_1 v5_1)) ∧
   ((incB v5_1) = true →
    Q v4_1 0)))))

def wp_spec_l01Order (p : List Int) (Q : Int → Prop) : Prop :=
 (0 ≤ (p.length : Int) ∧ (p.length : Int) ≤ 1000000) ∧
 (small p) ∧
 ∃ (H1 : List Int → Int → Prop) (m1 : List Int → Int → Nat),
 H1 p 1 ∧
 ∀ (v4_1 : List Int) (v5_1 : Int), H1 v4_1 v5_1 →
 ( (small v4_1 ∧ small (unitI (p.length : Int))) ∧
  ((¬ (v4_1 = (unitI (p.length : Int))) →
   (small v4_1 ∧ ∀ x_ ∈ v4_1, 0 ≤ x_ ∧ x_ < (p.length : Int)) ∧
   (InI (v5_1 + 1)) ∧
   (H1 (v4_1.map (el p)) (v5_1 + 1) ∧ m1 (v4_1.map (el p)) (v5_1 + 1) < m1 v4_1 v5_1)) ∧
  (v4_1 = (unitI (p.length : Int)) →
   Q v5_1)))

def wp_spec_RowOrders (c : List (List Int)) (Q : List Int → Int → Prop) : Prop :=
 (small2 c) ∧
 (((isCyc c) = false →
  Q ([]) 1) ∧
 ((isCyc c) = true →
  ∃ (H1 : Int → List Int → Prop) (m1 : Int → List Int → Nat),
  H1 0 ([] : List Int) ∧
  ∀ (v5_1 : Int) (o9_1 : List Int), H1 v5_1 o9_1 →
  ( ((v5_1 < (c.length : Int) →
    (0 ≤ v5_1 ∧ v5_1 < (c.length : Int)) ∧
    (permB (el c v5_1) = true) ∧
    ((o9_1.length : Int) + (([ordI (el c v5_1)]).length : Int) ≤ 1000000000) ∧
    (InI (v5_1 + 1)) ∧
    (H1 (v5_1 + 1) (o9_1 ++ ([ordI (el c v5_1)])) ∧ m1 (v5_1 + 1) (o9_1 ++ ([ordI (el c v5_1)])) < m1 v5_1 o9_1)) ∧
   (¬ (v5_1 < (c.length : Int)) →
    Q o9_1 0)))))

def wp_impl_RowOrders (c : List (List Int)) (Q : List Int → Int → Prop) : Prop :=
 (small2 c) ∧
 (((isCyc c) = false →
  Q ([]) 1) ∧
 ((isCyc c) = true →
  (0 ≤ (c.length : Int) ∧ (c.length : Int) ≤ 1000000000) ∧
  ∃ (H1 : Int → List Int → Prop) (m1 : Int → List Int → Nat),
  H1 0 (List.replicate (c.length : Int).toNat (0 : Int)) ∧
  ∀ (v17_1 : Int) (o13_1 : List Int), H1 v17_1 o13_1 →
  ( ((v17_1 < (c.length : Int) →
    (0 ≤ v17_1 ∧ v17_1 < (c.length : Int)) ∧
    (small (el c v17_1)) ∧
    (0 ≤ v17_1 ∧ v17_1 < (o13_1.length : Int)) ∧
    (InI (v17_1 + 1)) ∧
    (H1 (v17_1 + 1) (se o13_1 v17_1 (PorV (el c v17_1))) ∧ m1 (v17_1 + 1) (se o13_1 v17_1 (PorV (el c v17_1))) < m1 v17_1 o13_1)) ∧
   (¬ (v17_1 < (c.length : Int)) →
    Q o13_1 0)))))


theorem cj_pre {x y : List Int} (hp : cjD x y) : (small x ∧ isPerm x = true) ∧ (small (backI x) ∧ ∀ x_ ∈ backI x, 0 ≤ x_ ∧ x_ < (y.length : Int)) ∧ (small ((backI x).map (el y)) ∧ ∀ x_ ∈ (backI x).map (el y), 0 ≤ x_ ∧ x_ < (x.length : Int)) := by
  obtain ⟨h1, h2, h3, h4⟩ := hp
  have hb := isPerm_backI h2
  have hs : (x.length : Int) ≤ 1000000000 := h1
  have key : ∀ z ∈ backI x, 0 ≤ z ∧ z < (y.length : Int) := fun z hz => by
    have := (isPerm_iff.1 hb).2 z hz
    simp at this; omega
  refine ⟨⟨h1, h2⟩, ⟨by show _ ≤ (1000000000 : Int); simp; omega, key⟩, by show _ ≤ (1000000000 : Int); simp; omega, fun z hz => ?_⟩
  obtain ⟨w, hw, rfl⟩ := List.mem_map.1 hz
  have := isPerm_el h4 (key w hw)
  omega
theorem idxL_self {list : List (List Int)} {i : Int} (hi : 0 ≤ i ∧ i < (list.length : Int)) : idxL list (el list i) = i ↔ ∀ j, 0 ≤ j → j < i → el list j ≠ el list i := by
  constructor
  · intro h j j0 j1 e
    have hex : ∃ m : Nat, (m : Int) ≤ j ∧ el list (m : Int) = el list i ∧ ∀ k : Nat, k < m → el list (k : Int) ≠ el list i := by
      have key : ∀ n : Nat, (∃ m : Nat, m ≤ n ∧ el list (m : Int) = el list i) → ∃ m : Nat, m ≤ n ∧ el list (m : Int) = el list i ∧ ∀ k : Nat, k < m → el list (k : Int) ≠ el list i := by
        intro n
        induction n with
        | zero => intro ⟨m, hm, e⟩; exact ⟨m, hm, e, fun k hk => by omega⟩
        | succ n ih =>
          intro ⟨m, hm, e⟩
          by_cases hc : ∃ m : Nat, m ≤ n ∧ el list (m : Int) = el list i
          · obtain ⟨m', a, b, c⟩ := ih hc
            exact ⟨m', by omega, b, c⟩
          · exact ⟨m, hm, e, fun k hk e2 => hc ⟨k, by omega, e2⟩⟩
      obtain ⟨m, a, b, c⟩ := key j.toNat ⟨j.toNat, Nat.le_refl _, by rw [show ((j.toNat : Nat) : Int) = j by omega]; exact e⟩
      exact ⟨m, by omega, b, c⟩
    obtain ⟨m, a, b, c⟩ := hex
    have := idxF_found (t := list) (f := fun own => decide (own = el list i)) (i := (m : Int)) ⟨by omega, by omega⟩ (fun k k0 k1 => by
      have := c k.toNat (by omega)
      rw [show ((k.toNat : Nat) : Int) = k by omega] at this
      exact decide_eq_false this) (decide_eq_true b)
    unfold idxL at h
    omega
  · intro h
    exact idxF_found hi (fun j j0 j1 => decide_eq_false (h j j0 j1)) (decide_eq_true rfl)
theorem good_cj {list : List (List Int)} (h : GoodL list) {x y : Int} (hx : 0 ≤ x ∧ x < (list.length : Int)) (hy : 0 ≤ y ∧ y < (list.length : Int)) : cjD (el list x) (el list y) := by
  obtain ⟨a1, a2, _⟩ := h.2 x hx.1 hx.2
  obtain ⟨b1, b2, _⟩ := h.2 y hy.1 hy.2
  have := permB_len a1
  exact ⟨by show _ ≤ (1000000000 : Int); omega, permB_isPerm a1, by omega, permB_isPerm b1⟩
theorem small_cj {x y : List Int} (h : small x) : small (conjI x y) := by
  have : (x.length : Int) ≤ 1000000000 := h
  show _ ≤ (1000000000 : Int); simp [conjI]; omega
theorem good_small2 {list : List (List Int)} (h : GoodL list) (h2 : (list.length : Int) ≤ 12) : small2 list := ⟨by show _ ≤ (1000000000 : Int); omega, fun r hr => by
  obtain ⟨i, hi, rfl⟩ := mem_el hr
  have := permB_len (h.2 i hi.1 hi.2).1
  show _ ≤ (1000000000 : Int); omega⟩
theorem idxL_in {lists : List (List Int)} {list : List Int} : -1 ≤ idxL lists list ∧ idxL lists list < (lists.length : Int) ∨ idxL lists list = -1 := by
  unfold idxL idxF
  split
  · rename_i h
    have : lists.findIdx (fun own => decide (own = list)) < lists.length := List.findIdx_lt_length_of_exists (by simpa using h)
    left; omega
  · right; rfl
theorem cjq1 {l : List (List Int)} (h : dec (GoodL l) = false) : [] = CjqT l ∧ 1 = CjqE l := by
  have e : CjqE l = 1 := by unfold CjqE; rw [h]; rfl
  exact ⟨by unfold CjqT; rw [e]; rfl, e.symm⟩
theorem cjq3 {l : List (List Int)} (h : dec (GoodL l) = true) (h2 : (12 : Int) < (l.length : Int)) : [] = CjqT l ∧ 3 = CjqE l := by
  have e : CjqE l = 3 := by unfold CjqE; rw [h, if_pos h2]; rfl
  exact ⟨by unfold CjqT; rw [e]; rfl, e.symm⟩
theorem cjq5 {l : List (List Int)} (h : dec (GoodL l) = true) (h2 : ¬ (12 : Int) < (l.length : Int)) (h3 : isTab (cjT l) = false) : [] = CjqT l ∧ 5 = CjqE l := by
  have e : CjqE l = 5 := by unfold CjqE; rw [h, if_neg h2, h3]; rfl
  exact ⟨by unfold CjqT; rw [e]; rfl, e.symm⟩
theorem cjq0 {l : List (List Int)} (h : dec (GoodL l) = true) (h2 : ¬ (12 : Int) < (l.length : Int)) (h3 : isTab (cjT l) = true) : cjT l = CjqT l ∧ 0 = CjqE l := by
  have e : CjqE l = 0 := by unfold CjqE; rw [h, if_neg h2, h3]; rfl
  exact ⟨by unfold CjqT; rw [e]; rfl, e.symm⟩
theorem p_impl_PermutationOrder (p : List Int) (hp : small p) : wp_impl_PermutationOrder p (fun y0 y1 => y0 = PorV p ∧ y1 = PorE p) := by
  unfold wp_impl_PermutationOrder PorV PorE
  refine ⟨hp, fun h => by rw [h]; exact ⟨rfl, rfl⟩, fun h => ?_⟩
  rw [h]
  have hl := permB_len h
  have hq := permB_isPerm h
  refine ⟨fun k q => (1 ≤ k ∧ k ≤ 27720) ∧ q = powN p (k - 1).toNat ∧ ∀ j, 1 ≤ j → j < k → powN p (j - 1).toNat ≠ unitI (p.length : Int), fun k _ => (27720 - k).toNat, ⟨⟨by omega, by omega⟩, rfl, fun j a b => by omega⟩, ?_⟩
  rintro k q ⟨hk, rfl, hI⟩
  dsimp only
  have pl := powN_len p (k - 1).toNat
  have ps : small (powN p (k - 1).toNat) := by show _ ≤ (1000000000 : Int); omega
  have hu : incB (powN p (k - 1).toNat) = decide (powN p (k - 1).toNat = unitI (p.length : Int)) := by
    rw [incB_unit fun i a b => by have := powN_in hq _ (el_mem (l := powN p (k - 1).toNat) (i := i) ⟨a, b⟩); omega, pl]
  rw [hu]
  refine ⟨ps, fun h1 => ?_, fun h1 => ⟨the_eq ⟨hk.1, of_decide_eq_true h1, hI⟩ ordP_uniq, rfl⟩⟩
  have h2 := of_decide_eq_false h1
  have hlt : k < 27720 := by
    by_cases e : k = 27720
    · subst e
      exact absurd (powN_27719 hq (by omega)) h2
    · omega
  refine ⟨⟨by omega, by omega⟩, ⟨ps, powN_in hq⟩, ⟨⟨by omega, by omega⟩, ?_, fun j a b => ?_⟩, by omega⟩
  · rw [show (k + 1 - 1).toNat = (k - 1).toNat + 1 by omega]; rfl
  · by_cases e : j = k
    · subst e; exact h2
    · exact hI j a (by omega)
theorem p_spec_l01Order (p : List Int) (hp : permB p = true) : wp_spec_l01Order p (fun y0 => y0 = ordI p) := by
  unfold wp_spec_l01Order
  have hl := permB_len hp
  have hq := permB_isPerm hp
  refine ⟨⟨by omega, by omega⟩, by show _ ≤ (1000000000 : Int); omega, fun q k => (1 ≤ k ∧ k ≤ 27720) ∧ q = powN p (k - 1).toNat ∧ ∀ j, 1 ≤ j → j < k → powN p (j - 1).toNat ≠ unitI (p.length : Int), fun _ k => (27720 - k).toNat, ⟨⟨by omega, by omega⟩, rfl, fun j a b => by omega⟩, ?_⟩
  rintro q k ⟨hk, rfl, hI⟩
  dsimp only
  have pl := powN_len p (k - 1).toNat
  have ps : small (powN p (k - 1).toNat) := by show _ ≤ (1000000000 : Int); omega
  refine ⟨⟨ps, by show _ ≤ (1000000000 : Int); simp; omega⟩, fun h2 => ?_, fun h1 => the_eq ⟨hk.1, h1, hI⟩ ordP_uniq⟩
  have hlt : k < 27720 := by
    by_cases e : k = 27720
    · subst e
      exact absurd (powN_27719 hq (by omega)) h2
    · omega
  refine ⟨⟨ps, powN_in hq⟩, ⟨by omega, by omega⟩, ⟨⟨by omega, by omega⟩, ?_, fun j a b => ?_⟩, by omega⟩
  · rw [show (k + 1 - 1).toNat = (k - 1).toNat + 1 by omega]; rfl
  · by_cases e : j = k
    · subst e; exact h2
    · exact hI j a (by omega)
theorem cyc_permB {c : List (List Int)} (h : isCyc c = true) {i : Int} (hi : 0 ≤ i ∧ i < (c.length : Int)) : permB (el c i) = true := by
  have := isTab_perm (isCyc_tab h)
  rw [isCyc_perm h] at this
  exact all_el.1 this i hi.1 hi.2
theorem p_spec_RowOrders (c : List (List Int)) (hp : small2 c) : wp_spec_RowOrders c (fun y0 y1 => y0 = RowT c ∧ y1 = cyE c) := by
  unfold wp_spec_RowOrders RowT cyE
  refine ⟨hp, fun h => by rw [h]; exact ⟨rfl, rfl⟩, fun h => ?_⟩
  rw [h]
  have hn := isTab_len (isCyc_tab h)
  refine ⟨fun i o => 0 ≤ i ∧ i ≤ (c.length : Int) ∧ o.length = i.toNat ∧ Upto i fun x => el o x = ordI (el c x), fun i _ => ((c.length : Int) - i).toNat, ⟨by omega, by omega, by simp, upto0⟩, ?_⟩
  rintro i o ⟨i0, i1, il, iI⟩
  dsimp only
  refine ⟨fun ilt => ⟨⟨i0, ilt⟩, cyc_permB h ⟨i0, ilt⟩, by simp; omega, ⟨by omega, by omega⟩, ⟨by omega, by omega, by simp; omega, app1 (f := fun x => ordI (el c x)) (by omega) iI rfl⟩, by omega⟩, fun ige => ⟨ext_el (by simp; omega) fun j a b => ?_, rfl⟩⟩
  show el o j = el (c.map ordI) j
  rw [el_map ⟨a, by omega⟩]; exact iI j a (by omega)
theorem p_impl_RowOrders (c : List (List Int)) (hp : small2 c) : wp_impl_RowOrders c (fun y0 y1 => y0 = RowT c ∧ y1 = cyE c) := by
  unfold wp_impl_RowOrders RowT cyE
  refine ⟨hp, fun h => by rw [h]; exact ⟨rfl, rfl⟩, fun h => ?_⟩
  rw [h]
  have hn := isTab_len (isCyc_tab h)
  refine ⟨⟨by omega, by omega⟩, fun i o => 0 ≤ i ∧ i ≤ (c.length : Int) ∧ (o.length : Int) = (c.length : Int) ∧ Upto i fun x => el o x = ordI (el c x), fun i _ => ((c.length : Int) - i).toNat, ⟨by omega, by omega, by simp, upto0⟩, ?_⟩
  rintro i o ⟨i0, i1, il, iI⟩
  dsimp only
  refine ⟨fun ilt => ⟨⟨i0, ilt⟩, hp.2 _ (el_mem ⟨i0, ilt⟩), ⟨i0, by omega⟩, ⟨by omega, by omega⟩, ⟨by omega, by omega, by simpa using il, fill1 (f := fun x => ordI (el c x)) ⟨i0, by omega⟩ iI (by unfold PorV; rw [cyc_permB h ⟨i0, ilt⟩]; rfl)⟩, by omega⟩, fun ige => ⟨ext_el (by simp; omega) fun j a b => ?_, rfl⟩⟩
  show el o j = el (c.map ordI) j
  rw [el_map ⟨a, by omega⟩]; exact iI j a (by omega)
theorem res1 {r : List (List Int)} {l : List Int} (h : isRk r = false) : [] = ResT r l ∧ 1 = ResE r l := by
  have e : ResE r l = 1 := by unfold ResE; rw [h]; rfl
  exact ⟨by unfold ResT; rw [e]; rfl, e.symm⟩
theorem res2 {r : List (List Int)} {l : List Int} (h : isRk r = true) (h2 : ((l.all fun z_ => decide (0 ≤ z_) && decide (z_ ≤ (r.length : Int) - 1)) && incB l) = false) : [] = ResT r l ∧ 2 = ResE r l := by
  have e : ResE r l = 2 := by unfold ResE; rw [h, h2]; rfl
  exact ⟨by unfold ResT; rw [e]; rfl, e.symm⟩
theorem res5 {r : List (List Int)} {l : List Int} (h : isRk r = true) (h2 : ((l.all fun z_ => decide (0 ≤ z_) && decide (z_ ≤ (r.length : Int) - 1)) && incB l) = true) (h3 : (decide (1 ≤ (l.length : Int)) && dec (SubP r l)) = false) : [] = ResT r l ∧ 5 = ResE r l := by
  have e : ResE r l = 5 := by unfold ResE; rw [h, h2, h3]; rfl
  exact ⟨by unfold ResT; rw [e]; rfl, e.symm⟩
theorem res0 {r : List (List Int)} {l : List Int} (h : isRk r = true) (h2 : ((l.all fun z_ => decide (0 ≤ z_) && decide (z_ ≤ (r.length : Int) - 1)) && incB l) = true) (h3 : (decide (1 ≤ (l.length : Int)) && dec (SubP r l)) = true) : tab (l.length : Int) (resV r l) = ResT r l ∧ 0 = ResE r l := by
  have e : ResE r l = 0 := by unfold ResE; rw [h, h2, h3]; rfl
  exact ⟨by unfold ResT; rw [e]; rfl, e.symm⟩
theorem res_el {r : List (List Int)} {l : List Int} (h : (l.all fun z_ => decide (0 ≤ z_) && decide (z_ ≤ (r.length : Int) - 1)) = true) : ∀ x ∈ l, 0 ≤ x ∧ x < (r.length : Int) := fun x hx => by
  have := List.all_eq_true.1 h x hx
  simp only [Bool.and_eq_true, decide_eq_true_eq] at this
  omega
theorem inc_nodup {l : List Int} (h : incB l = true) : l.Nodup := nodup_el.2 fun i j i0 ij jl e => by
  have := inc_lt (incB_iff.1 h) (j - i).toNat i i0 (by omega)
  rw [show i + (((j - i).toNat : Nat) : Int) = j by omega] at this
  omega
theorem res_len {r : List (List Int)} {l : List Int} (hr : isTab r = true) (h1 : ∀ x ∈ l, 0 ≤ x ∧ x < (r.length : Int)) (h2 : incB l = true) : (l.length : Int) ≤ 12 := by
  have := nodup_len_ran (n := (r.length : Int)) (by omega) (inc_nodup h2) h1
  have := isTab_len hr
  omega
theorem idxI_neg {l : List Int} {x : Int} (h : ¬ x ∈ l) : idxI l x = -1 := by
  have : decide (0 ≤ idxI l x) = false := by rw [idxI_has, Bool.eq_false_iff]; exact fun h2 => h (List.contains_iff_mem.1 h2)
  have h2 := of_decide_eq_false this
  unfold idxI idxF at h2 ⊢
  split at h2
  · omega
  · rename_i h3; rw [if_neg h3]
theorem res_tab {r : List (List Int)} {l : List Int} (hr : isTab r = true) (h1 : ∀ x ∈ l, 0 ≤ x ∧ x < (r.length : Int)) (h2 : incB l = true) : isTab (tab (l.length : Int) (resV r l)) = (decide (1 ≤ (l.length : Int)) && dec (SubP r l)) := by
  have h12 := res_len hr h1 h2
  by_cases h0 : 1 ≤ (l.length : Int)
  · rw [decide_eq_true h0, Bool.true_and, Bool.eq_iff_iff, isTab_tab_iff ⟨h0, h12⟩, dec_iff]
    constructor
    · intro h x hx y hy
      obtain ⟨i, hi, rfl⟩ := mem_el hx
      obtain ⟨j, hj, rfl⟩ := mem_el hy
      have := (h i j hi.1 hi.2 hj.1 hj.2).1
      apply Classical.byContradiction
      intro hn
      have e := idxI_neg hn
      unfold resV at this
      omega
    · intro h x y x0 x1 y0 y1
      exact (idxI_spec (h _ (el_mem ⟨x0, x1⟩) _ (el_mem ⟨y0, y1⟩))).1
  · rw [decide_eq_false h0, Bool.false_and]
    have : (l.length : Int) = 0 := by omega
    rw [this]; rfl
theorem quo1 {r : List (List Int)} {c : List Int} (h : (isRk r && partB (r.length : Int) c) = false) : [] = QuoT r c ∧ 1 = QuoE r c := by
  have e : QuoE r c = 1 := by unfold QuoE; rw [h]; rfl
  exact ⟨by unfold QuoT; rw [e]; rfl, e.symm⟩
theorem quo5 {r : List (List Int)} {c : List Int} (h : (isRk r && partB (r.length : Int) c) = true) (h2 : dec (CongP r c) = false) : [] = QuoT r c ∧ 5 = QuoE r c := by
  have e : QuoE r c = 5 := by unfold QuoE; rw [h, h2]; rfl
  exact ⟨by unfold QuoT; rw [e]; rfl, e.symm⟩
theorem quo0 {r : List (List Int)} {c : List Int} (h : (isRk r && partB (r.length : Int) c) = true) (h2 : dec (CongP r c) = true) : quoT r c = QuoT r c ∧ 0 = QuoE r c := by
  have e : QuoE r c = 0 := by unfold QuoE; rw [h, h2]; rfl
  exact ⟨by unfold QuoT; rw [e]; rfl, e.symm⟩
set_option maxRecDepth 100000 in
set_option maxHeartbeats 1000000 in
theorem w_impl_PermutationOrder (p : List Int) (Q : Int → Int → Prop) (h : wp_impl_PermutationOrder p Q) : AF Try.prog 84 [.lst (ints p)] (fun R_ => ∃ y0 y1, Q y0 y1 ∧ R_ = .tup [ci y0, ci y1]) := by
  refine AF.ofWQ (af_enter (n := 19) Try.func84 rfl (by rfl) rfl (Nat.le_of_ble_eq_true rfl) ?_)
  unfold wp_impl_PermutationOrder at h
  refine aw_seq ?_
  refine aw_gh (gh_to (n := 19) (σ' := []) (env' := [(0, .c (.lst (ints p)))]) rfl rfl ⟨rfl, trivial⟩) ?_
  refine aw_region ?_
  refine run_s (ss_assign rfl) rfl ?_
  refine run_s (ss_assign rfl) rfl ?_
  refine run_nil ?_
  refine aw_seq ?_
  refine aw_seq ?_
  refine aw_region ?_
  refine run_s (ss_move rfl) rfl ?_
  obtain ⟨q1, h⟩ := h
  refine run_w (ws_call (xs := [.tmp 6]) (ids := []) rfl rfl rfl rfl (c_impl_IsPermutation p q1) rfl ?_ )
  rintro _ rfl
  refine ⟨rfl, ?_⟩
  refine run_s (ss_not rfl) rfl ?_
  refine run_nil ?_
  refine aw_cond rfl (fun q3 => ?_) (fun q3 => ?_)
  · replace h := h.1 ((bnot_t q3))
    refine aw_seq ?_
    refine aw_gh (gh_to (n := 19) (σ' := []) (env' := [(2, .c (ci 0)), (3, .c (ci 0))]) rfl rfl ⟨rfl, rfl, trivial⟩) ?_
    refine aw_region ?_
    refine run_s (ss_assign rfl) rfl ?_
    refine run_s (ss_assign rfl) rfl ?_
    refine run_nil ?_
    refine aw_ret ?_
    exact retAF_mk (retv2 rfl (rv_tmp rfl) (rv_tmp rfl)) rfl rfl ⟨_, (cle_refl _), _, _, h, rfl⟩
  · replace h := h.2 ((bnot_f q3))
    refine aw_skip ?_
    refine aw_seq ?_
    refine aw_gh (gh_to (n := 19) (σ' := []) (env' := [(0, .c (.lst (ints p)))]) rfl rfl ⟨rfl, trivial⟩) ?_
    refine aw_region ?_
    refine run_s (ss_assign rfl) rfl ?_
    refine run_nil ?_
    refine aw_seq ?_
    refine aw_seq ?_
    refine aw_region ?_
    refine run_s (ss_move rfl) rfl ?_
    refine run_s (ss_assign rfl) rfl ?_
    refine run_nil ?_
    refine aw_block ?_
    obtain ⟨H1, m1, q4, h⟩ := h
    refine aw_loop2 (fun (v4_1 : Int) (v5_1 : List Int) => ⟨[], [(0, .c (.lst (ints p))), (4, .c (ci v4_1)), (5, .c (.lst (ints v5_1)))], 19⟩) H1 m1 ⟨1, p, ghe_to (n := 19) rfl rfl ⟨rfl, rfl, rfl, trivial⟩, q4⟩ ?_
    rintro v4_1 v5_1 q4
    replace h := h v4_1 v5_1 q4
    refine aw_seq ?_
    refine aw_seq ?_
    refine aw_region ?_
    refine run_s (ss_move rfl) rfl ?_
    obtain ⟨q5, h⟩ := h
    refine run_w (ws_call (xs := [.tmp 10]) (ids := []) rfl rfl rfl rfl (c_impl_isIdentity v5_1 q5) rfl ?_ )
    rintro _ rfl
    refine ⟨rfl, ?_⟩
    refine run_s (ss_not rfl) rfl ?_
    refine run_nil ?_
    refine aw_cond rfl (fun q7 => ?_) (fun q7 => ?_)
    · replace h := h.1 ((bnot_t q7))
      refine aw_skip ?_
      refine aw_seq ?_
      refine aw_block ?_
      refine aw_region ?_
      refine run_s (ss_move rfl) rfl ?_
      obtain ⟨q8, h⟩ := h
      refine run_s (ss_add rfl rfl q8) rfl ?_
      refine run_s (ss_assign rfl) rfl ?_
      refine run_nil ?_
      refine aw_region ?_
      refine run_s (ss_move rfl) rfl ?_
      refine run_s (ss_move rfl) rfl ?_
      obtain ⟨q9, h⟩ := h
      refine run_w (ws_call (xs := [.tmp 13, .tmp 14]) (ids := [15]) rfl rfl rfl rfl (c_impl_then v5_1 p q9) rfl ?_ )
      rintro _ rfl
      refine ⟨rfl, ?_⟩
      refine run_s (ss_assign rfl) rfl ?_
      refine run_nil ?_
      exact ⟨v4_1 + 1, v5_1.map (el p), ghe_step (gh_frzE (id := 15) ci rfl (fun _ => rfl)) (ghe_to (n := 19) rfl rfl ⟨rfl, rfl, rfl, trivial⟩), h.1, h.2⟩
    · replace h := h.2 ((bnot_f q7))
      refine aw_exit ?_
      refine aw_seq ?_
      refine aw_region ?_
      refine run_s (ss_move rfl) rfl ?_
      refine run_s (ss_assign rfl) rfl ?_
      refine run_s (ss_assign rfl) rfl ?_
      refine run_nil ?_
      refine aw_ret ?_
      exact retAF_mk (retv2 rfl (rv_tmp rfl) (rv_tmp rfl)) rfl rfl ⟨_, (cle_refl _), _, _, h, rfl⟩

theorem c_impl_PermutationOrder (p : List Int) (hp : small p) : AF Try.prog 84 [.lst (ints p)] (fun R_ => R_ = .tup [ci (PorV p), ci (PorE p)]) :=
  (w_impl_PermutationOrder p (fun y0 y1 => y0 = PorV p ∧ y1 = PorE p) (p_impl_PermutationOrder p hp)).mono (by rintro r ⟨_, _, ⟨rfl, rfl⟩, rfl⟩; rfl)

set_option maxRecDepth 100000 in
set_option maxHeartbeats 1000000 in
theorem w_spec_l01Order (p : List Int) (Q : Int → Prop) (h : wp_spec_l01Order p Q) : AF Try.prog 82 [.lst (ints p)] (fun R_ => ∃ y0, Q y0 ∧ R_ = ci y0) := by
  refine AF.ofWQ (af_enter (n := 21) Try.func82 rfl (by rfl) rfl (Nat.le_of_ble_eq_true rfl) ?_)
  unfold wp_spec_l01Order at h
  refine aw_seq ?_
  refine aw_gh (gh_to (n := 21) (σ' := []) (env' := [(0, .c (.lst (ints p)))]) rfl rfl ⟨rfl, trivial⟩) ?_
  refine aw_region ?_
  refine run_s (ss_assign rfl) rfl ?_
  refine run_nil ?_
  refine aw_seq ?_
  refine aw_region ?_
  refine run_s (ss_move rfl) rfl ?_
  refine run_s (ss_lenL (f := ci) rfl) rfl ?_
  obtain ⟨q1, h⟩ := h
  refine run_w (ws_call (xs := [.tmp 7]) (ids := [8]) rfl rfl rfl rfl (c_spec_l01Unit (p.length : Int) q1) rfl ?_ )
  rintro _ rfl
  refine ⟨rfl, ?_⟩
  refine run_s (ss_move rfl) rfl ?_
  obtain ⟨q3, h⟩ := h
  refine run_w (ws_call (xs := [.tmp 9]) (ids := [10]) rfl rfl rfl rfl (c_spec_l01Own p q3) rfl ?_ )
  rintro _ rfl
  refine ⟨rfl, ?_⟩
  refine run_s (ss_assign rfl) rfl ?_
  refine run_s (ss_assign rfl) rfl ?_
  refine run_s (ss_assign rfl) rfl ?_
  refine run_nil ?_
  refine aw_seq ?_
  refine aw_block ?_
  obtain ⟨H1, m1, q5, h⟩ := h
  refine aw_loop2 (fun (v4_1 : List Int) (v5_1 : Int) => ⟨[(8, ⟨ints (unitI (p.length : Int)), []⟩)], [(0, .c (.lst (ints p))), (3, .ref 8), (4, .c (.lst (ints v4_1))), (5, .c (ci v5_1))], 21⟩) H1 m1 ⟨p, 1, ghe_step (gh_frzE (id := 10) ci rfl (fun _ => rfl)) (ghe_to (n := 21) rfl rfl ⟨rfl, rfl, rfl, rfl, trivial⟩), q5⟩ ?_
  rintro v4_1 v5_1 q5
  replace h := h v4_1 v5_1 q5
  refine aw_seq ?_
  refine aw_seq ?_
  refine aw_region ?_
  refine run_s (ss_move rfl) rfl ?_
  refine run_s (ss_move rfl) rfl ?_
  obtain ⟨q6, h⟩ := h
  refine run_w (ws_callR (xs := [.tmp 11, .tmp 12]) (cs := [.lst (ints v4_1), .own (ints (unitI (p.length : Int)))]) (ids := []) rfl (.inr ⟨rfl, rfl⟩) rfl rfl (fz_cons rfl (fz_cons (fz_own (fz_map (fun _ => rfl) _)) fz_nil)) (c_spec_l01Same v4_1 (unitI (p.length : Int)) q6) rfl ?_ )
  rintro _ rfl
  refine ⟨rfl, rfl, ?_⟩
  refine run_s (ss_not rfl) rfl ?_
  refine run_nil ?_
  refine aw_cond rfl (fun q8 => ?_) (fun q8 => ?_)
  · replace h := h.1 (of_decide_eq_false (bnot_t q8))
    refine aw_skip ?_
    refine aw_block ?_
    refine aw_seq ?_
    refine aw_gh (gh_to (n := 21) (σ' := [(8, ⟨ints (unitI (p.length : Int)), []⟩)]) (env' := [(0, .c (.lst (ints p))), (3, .ref 8), (4, .c (.lst (ints v4_1))), (5, .c (ci v5_1))]) rfl rfl ⟨rfl, rfl, rfl, rfl, trivial⟩) ?_
    refine aw_region ?_
    refine run_s (ss_move rfl) rfl ?_
    refine run_s (ss_move rfl) rfl ?_
    obtain ⟨q9, h⟩ := h
    refine run_w (ws_call (xs := [.tmp 15, .tmp 16]) (ids := [17]) rfl rfl rfl rfl (c_spec_l01Then v4_1 p q9) rfl ?_ )
    rintro _ rfl
    refine ⟨rfl, ?_⟩
    refine run_s (ss_assign rfl) rfl ?_
    refine run_nil ?_
    refine aw_region ?_
    refine run_s (ss_move rfl) rfl ?_
    obtain ⟨q11, h⟩ := h
    refine run_s (ss_add rfl rfl q11) rfl ?_
    refine run_s (ss_assign rfl) rfl ?_
    refine run_nil ?_
    exact ⟨v4_1.map (el p), v5_1 + 1, ghe_step (gh_frzE (id := 17) ci rfl (fun _ => rfl)) (ghe_to (n := 21) rfl rfl ⟨rfl, rfl, rfl, rfl, trivial⟩), h.1, h.2⟩
  · replace h := h.2 (of_decide_eq_true (bnot_f q8))
    refine aw_exit ?_
    refine aw_seq ?_
    refine aw_gh (gh_to (n := 21) (σ' := [(8, ⟨ints (unitI (p.length : Int)), []⟩)]) (env' := [(5, .c (ci v5_1))]) rfl rfl ⟨rfl, trivial⟩) ?_
    refine aw_region ?_
    refine run_s (ss_move rfl) rfl ?_
    refine run_s (ss_assign rfl) rfl ?_
    refine run_nil ?_
    refine aw_ret ?_
    exact retAF_mk (retv1 rfl (rv_tmp rfl)) rfl rfl ⟨_, (cle_refl _), _, h, rfl⟩

theorem c_spec_l01Order (p : List Int) (hp : permB p = true) : AF Try.prog 82 [.lst (ints p)] (fun R_ => R_ = ci (ordI p)) :=
  (w_spec_l01Order p (fun y0 => y0 = ordI p) (p_spec_l01Order p hp)).mono (by rintro r ⟨_, rfl, rfl⟩; rfl)

set_option maxRecDepth 100000 in
set_option maxHeartbeats 1000000 in
theorem w_spec_RowOrders (c : List (List Int)) (Q : List Int → Int → Prop) (h : wp_spec_RowOrders c Q) : AF Try.prog 40 [.agg [.lst (rows c)]] (fun R_ => ∃ y0 y1, Q y0 y1 ∧ R_ = .tup [.own (ints y0), ci y1]) := by
  refine AF.ofWQ (af_enter (n := 27) Try.func40 rfl (by rfl) rfl (Nat.le_of_ble_eq_true rfl) ?_)
  unfold wp_spec_RowOrders at h
  refine aw_seq ?_
  refine aw_gh (gh_to (n := 27) (σ' := []) (env' := [(0, .c (.agg [.lst (rows c)]))]) rfl rfl ⟨rfl, trivial⟩) ?_
  refine aw_region ?_
  refine run_w (ws_boxR rfl (.inl rfl) rfl ⟨rfl, ?_⟩)
  refine run_s (ss_assign rfl) rfl ?_
  refine run_s (ss_assign rfl) rfl ?_
  refine run_nil ?_
  refine aw_seq ?_
  refine aw_seq ?_
  refine aw_region ?_
  refine run_s (ss_load_struct rfl (Nat.le_of_ble_eq_true rfl)) rfl ?_
  obtain ⟨q1, h⟩ := h
  refine run_w (ws_call (xs := [.tmp 6]) (ids := []) rfl rfl rfl rfl (c_spec_l05Is c q1) rfl ?_ )
  rintro _ rfl
  refine ⟨rfl, ?_⟩
  refine run_s (ss_not rfl) rfl ?_
  refine run_nil ?_
  refine aw_cond rfl (fun q3 => ?_) (fun q3 => ?_)
  · replace h := h.1 ((bnot_t q3))
    refine aw_seq ?_
    refine aw_gh (gh_to (n := 27) (σ' := []) (env' := [(2, .c (cnil)), (3, .c (ci 0))]) rfl rfl ⟨rfl, rfl, trivial⟩) ?_
    refine aw_region ?_
    refine run_s (ss_assign rfl) rfl ?_
    refine run_s (ss_assign rfl) rfl ?_
    refine run_nil ?_
    refine aw_ret ?_
    exact retAF_mk (retv2 rfl (rv_tmp rfl) (rv_tmp rfl)) rfl rfl ⟨_, (cle_tup (cleL_cons cle_nilO (cleL_cons (cle_refl _) cleL_nil))), _, _, h, rfl⟩
  · replace h := h.2 ((bnot_f q3))
    refine aw_skip ?_
    refine aw_seq ?_
    refine aw_gh (gh_to (n := 27) (σ' := []) (env' := [(1, .c (.ptr [.lst (rows c)]))]) rfl rfl ⟨rfl, trivial⟩) ?_
    refine aw_region ?_
    refine run_w (ws_buildSlice (id := 9) (ps := []) rfl rfl (Nat.le_of_ble_eq_true rfl) rfl ⟨rfl, ?_⟩)
    refine run_s (ss_assign rfl) rfl ?_
    refine run_nil ?_
    refine aw_seq ?_
    refine aw_seq ?_
    refine aw_region ?_
    refine run_s (ss_assign rfl) rfl ?_
    refine run_nil ?_
    refine aw_block ?_
    obtain ⟨H1, m1, q4, h⟩ := h
    refine aw_loop2 (fun (v5_1 : Int) (o9_1 : List Int) => ⟨[(9, ⟨ints o9_1, []⟩)], [(1, .c (.ptr [.lst (rows c)])), (4, .ref 9), (5, .c (ci v5_1))], 27⟩) H1 m1 ⟨0, ([] : List Int), ghe_to (n := 27) rfl rfl ⟨rfl, rfl, rfl, trivial⟩, q4⟩ ?_
    rintro v5_1 o9_1 q4
    replace h := h v5_1 o9_1 q4
    refine aw_seq ?_
    refine aw_seq ?_
    refine aw_region ?_
    refine run_s (ss_move rfl) rfl ?_
    refine run_s (ss_field_ptr rfl) rfl ?_
    refine run_s (ss_load_ptr rfl rfl) rfl ?_
    refine run_s (ss_lenL (f := (fun r => C.lst (ints r))) rfl) rfl ?_
    refine run_s (ss_lss rfl rfl) rfl ?_
    refine run_nil ?_
    refine aw_cond rfl (fun q5 => ?_) (fun q5 => ?_)
    · replace h := h.1 (of_decide_eq_true q5)
      refine aw_skip ?_
      refine aw_seq ?_
      refine aw_block ?_
      refine aw_region ?_
      refine run_s (ss_move rfl) rfl ?_
      refine run_s (ss_field_ptr rfl) rfl ?_
      refine run_s (ss_load_ptr rfl rfl) rfl ?_
      refine run_s (ss_move rfl) rfl ?_
      obtain ⟨q6, h⟩ := h
      refine run_s (ss_idxL rfl rfl q6) rfl ?_
      refine run_s (ss_loadL (f := (fun r => C.lst (ints r))) rfl q6) rfl ?_
      obtain ⟨q7, h⟩ := h
      refine run_w (ws_call (xs := [.tmp 22]) (ids := []) rfl rfl rfl rfl (c_spec_l01Order (el c v5_1) q7) rfl ?_ )
      rintro _ rfl
      refine ⟨rfl, ?_⟩
      refine run_w (ws_buildSlice (id := 24) (ps := [(0, .tmp 23)]) rfl rfl (Nat.le_of_ble_eq_true rfl) rfl ⟨rfl, ?_⟩)
      obtain ⟨q9, h⟩ := h
      refine run_w (ws_app1 ci (l := o9_1) (m := [ordI (el c v5_1)]) rfl rfl rfl rfl rfl (Nat.le_of_ble_eq_true rfl) q9 ⟨rfl, ?_⟩)
      refine run_s (ss_assign rfl) rfl ?_
      refine run_nil ?_
      refine aw_gh (gh_to (n := 27) (σ' := [(9, ⟨ints (o9_1 ++ ([ordI (el c v5_1)])), []⟩)]) (env' := [(1, .c (.ptr [.lst (rows c)])), (4, .ref 9), (5, .c (ci v5_1))]) rfl rfl ⟨rfl, rfl, rfl, trivial⟩) ?_
      refine aw_region ?_
      refine run_s (ss_move rfl) rfl ?_
      obtain ⟨q10, h⟩ := h
      refine run_s (ss_add rfl rfl q10) rfl ?_
      refine run_s (ss_assign rfl) rfl ?_
      refine run_nil ?_
      exact ⟨v5_1 + 1, o9_1 ++ ([ordI (el c v5_1)]), ghe_to (n := 27) rfl rfl ⟨rfl, rfl, rfl, trivial⟩, h.1, h.2⟩
    · replace h := h.2 (of_decide_eq_false q5)
      refine aw_exit ?_
      refine aw_seq ?_
      refine aw_gh (gh_to (n := 27) (σ' := [(9, ⟨ints o9_1, []⟩)]) (env' := [(4, .ref 9)]) rfl rfl ⟨rfl, trivial⟩) ?_
      refine aw_region ?_
      refine run_s (ss_move rfl) rfl ?_
      refine run_s (ss_assign rfl) rfl ?_
      refine run_s (ss_assign rfl) rfl ?_
      refine run_nil ?_
      refine aw_ret ?_
      exact retAF_mk (retv2 rfl (rv_tmp rfl) (rv_tmp rfl)) rfl rfl ⟨_, (cle_refl _), _, _, h, rfl⟩

theorem c_spec_RowOrders (c : List (List Int)) (hp : small2 c) : AF Try.prog 40 [.agg [.lst (rows c)]] (fun R_ => R_ = .tup [.own (ints (RowT c)), ci (cyE c)]) :=
  (w_spec_RowOrders c (fun y0 y1 => y0 = RowT c ∧ y1 = cyE c) (p_spec_RowOrders c hp)).mono (by rintro r ⟨_, _, ⟨rfl, rfl⟩, rfl⟩; rfl)

set_option maxRecDepth 100000 in
set_option maxHeartbeats 1000000 in
theorem w_impl_RowOrders (c : List (List Int)) (Q : List Int → Int → Prop) (h : wp_impl_RowOrders c Q) : AF Try.prog 41 [.agg [.lst (rows c)]] (fun R_ => ∃ y0 y1, Q y0 y1 ∧ R_ = .tup [.own (ints y0), ci y1]) := by
  refine AF.ofWQ (af_enter (n := 32) Try.func41 rfl (by rfl) rfl (Nat.le_of_ble_eq_true rfl) ?_)
  unfold wp_impl_RowOrders at h
  refine aw_seq ?_
  refine aw_gh (gh_to (n := 32) (σ' := []) (env' := [(0, .c (.agg [.lst (rows c)]))]) rfl rfl ⟨rfl, trivial⟩) ?_
  refine aw_region ?_
  refine run_w (ws_boxR rfl (.inl rfl) rfl ⟨rfl, ?_⟩)
  refine run_s (ss_assign rfl) rfl ?_
  refine run_s (ss_assign rfl) rfl ?_
  refine run_nil ?_
  refine aw_seq ?_
  refine aw_seq ?_
  refine aw_region ?_
  refine run_s (ss_load_struct rfl (Nat.le_of_ble_eq_true rfl)) rfl ?_
  obtain ⟨q1, h⟩ := h
  refine run_w (ws_call (xs := [.tmp 7]) (ids := []) rfl rfl rfl rfl (c_impl_IsCycleSet c q1) rfl ?_ )
  rintro _ rfl
  refine ⟨rfl, ?_⟩
  refine run_s (ss_not rfl) rfl ?_
  refine run_nil ?_
  refine aw_cond rfl (fun q3 => ?_) (fun q3 => ?_)
  · replace h := h.1 ((bnot_t q3))
    refine aw_seq ?_
    refine aw_gh (gh_to (n := 32) (σ' := []) (env' := [(2, .c (cnil)), (3, .c (ci 0))]) rfl rfl ⟨rfl, rfl, trivial⟩) ?_
    refine aw_region ?_
    refine run_s (ss_assign rfl) rfl ?_
    refine run_s (ss_assign rfl) rfl ?_
    refine run_nil ?_
    refine aw_ret ?_
    exact retAF_mk (retv2 rfl (rv_tmp rfl) (rv_tmp rfl)) rfl rfl ⟨_, (cle_tup (cleL_cons cle_nilO (cleL_cons (cle_refl _) cleL_nil))), _, _, h, rfl⟩
  · replace h := h.2 ((bnot_f q3))
    refine aw_skip ?_
    refine aw_seq ?_
    refine aw_region ?_
    refine run_s (ss_field_ptr rfl) rfl ?_
    refine run_s (ss_load_ptr rfl rfl) rfl ?_
    refine run_s (ss_lenL (f := (fun r => C.lst (ints r))) rfl) rfl ?_
    obtain ⟨q4, h⟩ := h
    refine run_w (ws_mk (id := 13) ci (0 : Int) rfl rfl rfl q4 (Nat.le_of_ble_eq_true rfl) rfl ⟨rfl, ?_⟩)
    refine run_s (ss_assign rfl) rfl ?_
    refine run_nil ?_
    refine aw_seq ?_
    refine aw_seq ?_
    refine aw_gh (gh_to (n := 32) (σ' := [(13, ⟨ints (List.replicate (c.length : Int).toNat (0 : Int)), []⟩)]) (env' := [(1, .c (.ptr [.lst (rows c)])), (4, .ref 13)]) rfl rfl ⟨rfl, rfl, trivial⟩) ?_
    refine aw_region ?_
    refine run_s (ss_field_ptr rfl) rfl ?_
    refine run_s (ss_load_ptr rfl rfl) rfl ?_
    refine run_s (ss_lenL (f := (fun r => C.lst (ints r))) rfl) rfl ?_
    refine run_s (ss_move rfl) rfl ?_
    refine run_nil ?_
    refine aw_block ?_
    obtain ⟨H1, m1, q5, h⟩ := h
    refine aw_loop2 (fun (v17_1 : Int) (o13_1 : List Int) => ⟨[(13, ⟨ints o13_1, []⟩)], [(4, .ref 13), (15, .c (.lst (rows c))), (16, .c (ci (c.length : Int))), (17, .c (ci v17_1))], 32⟩) H1 m1 ⟨0, List.replicate (c.length : Int).toNat (0 : Int), ghe_to (n := 32) rfl rfl ⟨rfl, rfl, rfl, rfl, trivial⟩, q5⟩ ?_
    rintro v17_1 o13_1 q5
    replace h := h v17_1 o13_1 q5
    refine aw_seq ?_
    refine aw_region ?_
    refine run_s (ss_lss rfl rfl) rfl ?_
    refine run_nil ?_
    refine aw_seq ?_
    refine aw_cond rfl (fun q6 => ?_) (fun q6 => ?_)
    · replace h := h.1 (of_decide_eq_true q6)
      refine aw_skip ?_
      refine aw_seq ?_
      refine aw_block ?_
      refine aw_seq ?_
      refine aw_region ?_
      refine run_s (ss_move rfl) rfl ?_
      obtain ⟨q7, h⟩ := h
      refine run_s (ss_idxL rfl rfl q7) rfl ?_
      refine run_s (ss_loadL (f := (fun r => C.lst (ints r))) rfl q7) rfl ?_
      refine run_s (ss_assign rfl) rfl ?_
      refine run_s (ss_assign rfl) rfl ?_
      refine run_nil ?_
      refine aw_region ?_
      refine run_s (ss_move rfl) rfl ?_
      refine run_s (ss_move rfl) rfl ?_
      refine run_s (ss_move rfl) rfl ?_
      obtain ⟨q8, h⟩ := h
      refine run_w (ws_call (xs := [.tmp 25]) (ids := []) rfl rfl rfl rfl (c_impl_PermutationOrder (el c v17_1) q8) rfl ?_ )
      rintro _ rfl
      refine ⟨rfl, ?_⟩
      refine run_s (ss_move rfl) rfl ?_
      refine run_s (ss_extract rfl rfl) rfl ?_
      refine run_s (ss_extract rfl rfl) rfl ?_
      obtain ⟨q10, h⟩ := h
      refine run_s (ss_idxR (f := ci) rfl rfl rfl q10) rfl ?_
      refine run_w (ws_storeE rfl rfl (map_lt q10) rfl rfl (map_se (f := ci)) rfl ⟨rfl, ?_⟩)
      refine run_nil ?_
      refine aw_gh (gh_to (n := 32) (σ' := [(13, ⟨ints (se o13_1 v17_1 (PorV (el c v17_1))), []⟩)]) (env' := [(4, .ref 13), (15, .c (.lst (rows c))), (16, .c (ci (c.length : Int))), (17, .c (ci v17_1))]) rfl rfl ⟨rfl, rfl, rfl, rfl, trivial⟩) ?_
      refine aw_region ?_
      obtain ⟨q11, h⟩ := h
      refine run_s (ss_add rfl rfl q11) rfl ?_
      refine run_s (ss_move rfl) rfl ?_
      refine run_nil ?_
      exact ⟨v17_1 + 1, se o13_1 v17_1 (PorV (el c v17_1)), ghe_to (n := 32) rfl rfl ⟨rfl, rfl, rfl, rfl, trivial⟩, h.1, h.2⟩
    · replace h := h.2 (of_decide_eq_false q6)
      refine aw_exit ?_
      refine aw_seq ?_
      refine aw_region ?_
      refine run_s (ss_move rfl) rfl ?_
      refine run_s (ss_assign rfl) rfl ?_
      refine run_s (ss_assign rfl) rfl ?_
      refine run_nil ?_
      refine aw_ret ?_
      exact retAF_mk (retv2 rfl (rv_tmp rfl) (rv_tmp rfl)) rfl rfl ⟨_, (cle_refl _), _, _, h, rfl⟩

theorem c_impl_RowOrders (c : List (List Int)) (hp : small2 c) : AF Try.prog 41 [.agg [.lst (rows c)]] (fun R_ => R_ = .tup [.own (ints (RowT c)), ci (cyE c)]) :=
  (w_impl_RowOrders c (fun y0 y1 => y0 = RowT c ∧ y1 = cyE c) (p_impl_RowOrders c hp)).mono (by rintro r ⟨_, _, ⟨rfl, rfl⟩, rfl⟩; rfl)

end Go.Proofs.Ytllimiejaijbkaa

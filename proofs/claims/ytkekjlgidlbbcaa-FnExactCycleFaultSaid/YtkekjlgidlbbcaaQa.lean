/- The conditions of some functions hold: plain proofs; no condition. -/
import Derived.Test.YtkekjlgidlbbcaaDa
namespace Go.Proofs.Ytkekjlgidlbbcaa

theorem p_impl_within (n low high : Int) : wp_impl_within n low high (fun y0 => y0 = (decide (low ≤ n) && decide (n ≤ high))) := by
  unfold wp_impl_within
  exact ⟨fun h => by simp [h], fun h => by simp [h]⟩
theorem p_spec_l01In (n low high : Int) : wp_spec_l01In n low high (fun y0 => y0 = (decide (low ≤ n) && decide (n ≤ high))) := p_impl_within n low high

theorem p_impl_allWithin (l : List Int) (low high : Int) (hp : small l) : wp_impl_allWithin l low high (fun y0 => y0 = l.all (fun z_ => decide (low ≤ z_) && decide (z_ ≤ high))) := by
  unfold wp_impl_allWithin
  refine ⟨fun i => 0 ≤ i ∧ i ≤ (l.length : Int) ∧ Upto i fun j => (decide (low ≤ el l j) && decide (el l j ≤ high)) = true, fun i => ((l.length : Int) - i).toNat, ⟨by omega, by omega, upto0⟩, ?_⟩
  rintro i ⟨h0, h1, hI⟩
  dsimp only
  refine ⟨fun hlt => ⟨⟨h0, hlt⟩, fun hf => (all_f ⟨h0, hlt⟩ hf).symm, fun ht => ⟨⟨by omega, by omega⟩, ⟨by omega, by omega, upto1 hI ht⟩, by omega⟩⟩, fun hge => ?_⟩
  exact (all_t (by rwa [show i = (l.length : Int) by omega] at hI)).symm

theorem p_impl_isPermuted (p : List Int) (hp : small p) : wp_impl_isPermuted p (fun y0 => y0 = isPerm p) := by
  unfold wp_impl_isPermuted
  refine ⟨⟨by omega, hp⟩, fun i o => 0 ≤ i ∧ i ≤ (p.length : Int) ∧ o.length = p.length ∧ (Upto i fun j => (0 ≤ el p j ∧ el p j < (p.length : Int)) ∧ Upto j fun k => el p k ≠ el p j) ∧ (∀ x, 0 ≤ x → x < (p.length : Int) → (el o x = true ↔ ∃ j, (0 ≤ j ∧ j < i) ∧ el p j = x)), fun i _ => ((p.length : Int) - i).toNat,
    ⟨by omega, by omega, by simp, upto0, fun x h0 h1 => ?_⟩, ?_⟩
  · rw [el_rep ⟨h0, by omega⟩]; simp; intro j h2 h3; omega
  rintro i o ⟨h0, h1, hl, hI, hS⟩
  dsimp only
  refine ⟨fun hlt => ⟨⟨h0, hlt⟩, ⟨by omega, by omega⟩, fun hf => ?_, fun ht => ?_⟩, fun hge => ?_⟩
  · refine (decide_eq_false ?_).symm
    rintro ⟨_, h3⟩
    have := h3 _ (el_mem ⟨h0, hlt⟩)
    simp only [Bool.and_eq_false_iff, decide_eq_false_iff_not] at hf
    omega
  · simp only [Bool.and_eq_true, decide_eq_true_eq] at ht
    refine ⟨⟨by omega, by omega⟩, fun hs => ?_, fun hs => ⟨⟨by omega, by omega⟩, ⟨by omega, by omega⟩, ⟨by omega, by omega, by simp [hl], upto1 hI ⟨⟨ht.1, by omega⟩, fun k h2 h3 he => ?_⟩, fun x h2 h3 => ?_⟩, by omega⟩⟩
    · refine (decide_eq_false ?_).symm
      rintro ⟨h3, _⟩
      obtain ⟨j, hj, he⟩ := (hS _ ht.1 (by omega)).1 hs
      exact nodup_el.1 h3 j i hj.1 hj.2 hlt he
    · rw [(hS _ ht.1 (by omega)).2 ⟨k, ⟨h2, h3⟩, he⟩] at hs; cases hs
    · by_cases e : x = el p i
      · subst e
        rw [el_se_same ⟨h2, by omega⟩]
        exact ⟨fun _ => ⟨i, ⟨h0, by omega⟩, rfl⟩, fun _ => rfl⟩
      · rw [el_se_ne ht.1 h2 (Ne.symm e), hS x h2 h3]
        exact ⟨fun ⟨j, hj, he⟩ => ⟨j, ⟨hj.1, by omega⟩, he⟩, fun ⟨j, hj, he⟩ => ⟨j, ⟨hj.1, by
          by_cases e2 : j = i
          · subst e2; exact absurd he.symm e
          · omega⟩, he⟩⟩
  · refine (decide_eq_true ⟨nodup_el.2 fun a b h2 h3 h4 => (hI b (by omega) (by omega)).2 a h2 h3, fun x hx => ?_⟩).symm
    obtain ⟨j, hj, rfl⟩ := mem_el hx
    exact (hI j hj.1 (by omega)).1

theorem p_laws_toInt64S (a : List Int) (hp : small a) : wp_laws_toInt64S a (fun y0 => y0 = a) := by
  unfold wp_laws_toInt64S
  refine ⟨⟨by omega, hp⟩, fun i o => 0 ≤ i ∧ i ≤ (a.length : Int) ∧ o.length = a.length ∧ Upto i fun j => el o j = el a j, fun i _ => ((a.length : Int) - i).toNat, ⟨by omega, by omega, by simp, upto0⟩, ?_⟩
  rintro i o ⟨h0, h1, hl, hI⟩
  dsimp only
  refine ⟨fun hlt => ⟨⟨h0, hlt⟩, ⟨h0, by omega⟩, ⟨by omega, by omega⟩, ⟨by omega, by omega, by simp [hl], fill1 ⟨h0, by omega⟩ hI rfl⟩, by omega⟩, fun hge => ?_⟩
  exact ext_el hl fun j h2 h3 => hI j h2 (by omega)
theorem p_laws_toInt64SS (a : List (List Int)) (hp : small2 a) : wp_laws_toInt64SS a (fun y0 => y0 = a) := by
  unfold wp_laws_toInt64SS
  have hp1 := hp.1
  refine ⟨⟨by omega, hp.1⟩, fun i o => 0 ≤ i ∧ i ≤ (a.length : Int) ∧ o.length = a.length ∧ Upto i fun j => el o j = el a j, fun i _ => ((a.length : Int) - i).toNat, ⟨by omega, by omega, by simp, upto0⟩, ?_⟩
  rintro i o ⟨h0, h1, hl, hI⟩
  dsimp only
  refine ⟨fun hlt => ⟨⟨h0, hlt⟩, hp.2 _ (el_mem ⟨h0, hlt⟩), ⟨h0, by omega⟩, ⟨by omega, by omega⟩, ⟨by omega, by omega, by simp [hl], fill1 ⟨h0, by omega⟩ hI rfl⟩, by omega⟩, fun hge => ?_⟩
  exact ext_el hl fun j h2 h3 => hI j h2 (by omega)

theorem p_laws_szInt64S (a : List Int) (left : Int) (hp : InS left ∧ a.length ≤ 9223372036854775807) : wp_laws_szInt64S a left (fun y0 => y0 = szI a left) := by
  unfold wp_laws_szInt64S szI
  exact ⟨⟨by omega, by omega⟩, fun h => by rw [if_pos (by omega)], fun h => by rw [if_neg (by omega)]⟩
theorem p_laws_szInt64SS (a : List (List Int)) (left : Int) (hp : InS left ∧ huge2 a) : wp_laws_szInt64SS a left (fun y0 => y0 = szII a left) := by
  unfold wp_laws_szInt64SS szII
  obtain ⟨⟨l0, l1⟩, l2, l3⟩ := hp
  have tn := tot_nonneg a
  refine ⟨⟨by omega, by omega⟩, fun h => by rw [if_pos (by omega)], fun h => ?_⟩
  refine ⟨fun v i => 0 ≤ i ∧ i ≤ (a.length : Int) ∧ v = left - (a.length : Int) - tt a i ∧ 0 ≤ v, fun _ i => ((a.length : Int) - i).toNat, ⟨by omega, by omega, by rw [tt0]; omega, by omega⟩, ?_⟩
  rintro v i ⟨h0, h1, hv, hn⟩
  dsimp only
  have t1 := tt_le a i
  refine ⟨fun hlt => ?_, fun hge => ?_⟩
  · have t2 := tt1 ⟨h0, hlt⟩
    have t3 := tt_row ⟨h0, hlt⟩
    have hr := l3 _ (el_mem ⟨h0, hlt⟩)
    unfold szI
    refine ⟨⟨h0, hlt⟩, ⟨⟨by omega, by omega⟩, hr⟩, fun hs => ?_, fun hs => ?_⟩
    · split at hs
      · rw [if_pos (by omega)]
      · omega
    · split at hs
      · omega
      · rename_i hs2
        rw [if_neg hs2]
        exact ⟨⟨by omega, by omega⟩, ⟨by omega, by omega, by omega, by omega⟩, by omega⟩
  · have := tt_full (t := a) (i := i) (by omega)
    rw [if_neg (by omega)]; omega

theorem p_laws_eqInt64S (a b : List Int) (hp : small a ∧ small b) : wp_laws_eqInt64S a b (fun y0 => y0 = decide (a = b)) := by
  unfold wp_laws_eqInt64S
  obtain ⟨ha, hb⟩ := hp
  refine ⟨fun h => (decide_eq_false fun e => h (by rw [e])).symm, fun h => ⟨fun i => 0 ≤ i ∧ i ≤ (a.length : Int) ∧ Upto i fun j => el a j = el b j, fun i => ((a.length : Int) - i).toNat, ⟨by omega, by omega, upto0⟩, ?_⟩⟩
  rintro i ⟨h0, h1, hI⟩
  dsimp only
  refine ⟨fun hlt => ⟨⟨h0, hlt⟩, ⟨h0, by omega⟩, fun hf => (decide_eq_false fun e => hf (by rw [e])).symm, fun ht => ⟨⟨by omega, by omega⟩, ⟨by omega, by omega, upto1 hI ht⟩, by omega⟩⟩, fun hge => ?_⟩
  exact (decide_eq_true (ext_el (by omega) fun j h2 h3 => hI j h2 (by omega))).symm
theorem p_laws_eqInt64SS (a b : List (List Int)) (hp : small2 a ∧ small2 b) : wp_laws_eqInt64SS a b (fun y0 => y0 = decide (a = b)) := by
  unfold wp_laws_eqInt64SS
  obtain ⟨⟨ha, ha2⟩, hb, hb2⟩ := hp
  refine ⟨fun h => (decide_eq_false fun e => h (by rw [e])).symm, fun h => ⟨fun i => 0 ≤ i ∧ i ≤ (a.length : Int) ∧ Upto i fun j => el a j = el b j, fun i => ((a.length : Int) - i).toNat, ⟨by omega, by omega, upto0⟩, ?_⟩⟩
  rintro i ⟨h0, h1, hI⟩
  dsimp only
  refine ⟨fun hlt => ⟨⟨h0, hlt⟩, ⟨h0, by omega⟩, ⟨ha2 _ (el_mem ⟨h0, hlt⟩), hb2 _ (el_mem ⟨h0, by omega⟩)⟩, fun hf => (decide_eq_false fun e => hf (by rw [e])).symm, fun ht => ⟨⟨by omega, by omega⟩, ⟨by omega, by omega, upto1 hI ht⟩, by omega⟩⟩, fun hge => ?_⟩
  exact (decide_eq_true (ext_el (by omega) fun j h2 h3 => hI j h2 (by omega))).symm

theorem p_laws_markInt64S (a : List Int) (k : Int) (hp : small a ∧ okK k) : wp_laws_markInt64S a k (fun y0 w0 => y0 = k + (a.length : Int) ∧ w0 = mkI k a) := by
  unfold wp_laws_markInt64S
  obtain ⟨ha, hk⟩ := hp
  refine ⟨fun v i o => 0 ≤ i ∧ i ≤ (a.length : Int) ∧ o.length = a.length ∧ v = k + i ∧ Upto i fun j => el o j = k + j, fun _ i _ => ((a.length : Int) - i).toNat, ⟨by omega, by omega, rfl, by omega, upto0⟩, ?_⟩
  rintro v i o ⟨h0, h1, hl, hv, hI⟩
  dsimp only
  refine ⟨fun hlt => ⟨⟨h0, by omega⟩, ⟨by omega, by omega⟩, ⟨by omega, by omega⟩, ⟨by omega, by omega, by simp [hl], by omega, fill1 ⟨h0, by omega⟩ hI hv⟩, by omega⟩, fun hge => ⟨by omega, ?_⟩⟩
  exact ext_el (by simp [hl]) fun j h2 h3 => by rw [el_mkI k a j h2 (by omega)]; exact hI j h2 (by omega)
theorem p_laws_markInt64SS (a : List (List Int)) (k : Int) (hp : small2 a ∧ okKT k a) : wp_laws_markInt64SS a k (fun y0 w0 => y0 = k + tot a ∧ w0 = mkII k a) := by
  unfold wp_laws_markInt64SS
  obtain ⟨⟨ha, ha2⟩, hk, ht⟩ := hp
  refine ⟨fun v i o => 0 ≤ i ∧ i ≤ (a.length : Int) ∧ o.length = a.length ∧ v = k + tt a i ∧ (Upto i fun j => el o j = mkI (k + tt a j) (el a j)) ∧ (∀ j, i ≤ j → el o j = el a j), fun _ i _ => ((a.length : Int) - i).toNat, ⟨by omega, by omega, rfl, by rw [tt0]; omega, upto0, fun _ _ => rfl⟩, ?_⟩
  rintro v i o ⟨h0, h1, hl, hv, hI, hR⟩
  dsimp only
  refine ⟨fun hlt => ?_, fun hge => ⟨by rw [hv, tt_full (by omega)], ?_⟩⟩
  · have hi : 0 ≤ i ∧ i < (a.length : Int) := ⟨h0, by omega⟩
    have t2 := tt1 hi
    have t3 := tt_row hi
    have t4 := tt_le a i
    rw [hR i (Int.le_refl _)]
    have hs := ha2 _ (el_mem hi)
    exact ⟨⟨h0, by omega⟩, ⟨hs, by omega, by omega⟩, ⟨by omega, by omega⟩, ⟨by omega, by omega, by simp [hl], by omega, fill1 (f := fun j => mkI (k + tt a j) (el a j)) ⟨h0, by omega⟩ hI (by rw [hv]), fun j hj => by rw [el_se_ne h0 (by omega) (by omega)]; exact hR j (by omega)⟩, by omega⟩
  · exact ext_el (by simp [hl]) fun j h2 h3 => by rw [el_mkII k a j h2 (by omega)]; exact hI j h2 (by omega)

theorem p_laws_heldInt64S (a : List Int) (k : Int) (hp : small a ∧ okK k) : wp_laws_heldInt64S a k (fun y0 => y0 = heI k a) := by
  unfold wp_laws_heldInt64S heI
  obtain ⟨ha, hk⟩ := hp
  refine ⟨fun v i => 0 ≤ i ∧ i ≤ (a.length : Int) ∧ v = k + i ∧ Upto i fun j => el a j = k + j, fun _ i => ((a.length : Int) - i).toNat, ⟨by omega, by omega, by omega, upto0⟩, ?_⟩
  rintro v i ⟨h0, h1, hv, hI⟩
  dsimp only
  refine ⟨fun hlt => ⟨⟨h0, hlt⟩, fun hf => ?_, fun ht => ⟨⟨by omega, by omega⟩, ⟨by omega, by omega⟩, ⟨by omega, by omega, by omega, upto1 hI (by omega)⟩, by omega⟩⟩, fun hge => ?_⟩
  · rw [if_neg]; intro e
    have := el_mkI k a i h0 hlt
    rw [← e] at this; omega
  · rw [if_pos (ext_el (by simp) fun j h2 h3 => by rw [el_mkI k a j h2 h3]; exact hI j h2 (by omega))]; omega
theorem heI_neg {k : Int} {l : List Int} (hk : 0 ≤ k) : heI k l < 0 ↔ l ≠ mkI k l := by
  unfold heI
  split
  · rename_i h; simp [← h]; omega
  · rename_i h; simp [h]
theorem p_laws_heldInt64SS (a : List (List Int)) (k : Int) (hp : small2 a ∧ okKT k a) : wp_laws_heldInt64SS a k (fun y0 => y0 = heII k a) := by
  unfold wp_laws_heldInt64SS heII
  obtain ⟨⟨ha, ha2⟩, hk, ht⟩ := hp
  refine ⟨fun v i => 0 ≤ i ∧ i ≤ (a.length : Int) ∧ v = k + tt a i ∧ Upto i fun j => el a j = mkI (k + tt a j) (el a j), fun _ i => ((a.length : Int) - i).toNat, ⟨by omega, by omega, by rw [tt0]; omega, upto0⟩, ?_⟩
  rintro v i ⟨h0, h1, hv, hI⟩
  dsimp only
  have t4 := tt_le a i
  refine ⟨fun hlt => ?_, fun hge => ?_⟩
  · have t2 := tt1 ⟨h0, hlt⟩
    have t3 := tt_row ⟨h0, hlt⟩
    refine ⟨⟨h0, hlt⟩, ⟨ha2 _ (el_mem ⟨h0, hlt⟩), by omega, by omega⟩, fun hf => ?_, fun ht => ?_⟩
    · rw [heI_neg (by omega)] at hf
      rw [if_neg]; intro e
      have := el_mkII k a i h0 hlt
      rw [← e, ← hv] at this; exact hf this
    · rw [heI_neg (by omega)] at ht
      have ht' : el a i = mkI v (el a i) := Classical.not_not.1 ht
      have : heI v (el a i) = v + ((el a i).length : Int) := if_pos ht'
      rw [this]
      exact ⟨⟨by omega, by omega⟩, ⟨by omega, by omega, by omega, upto1 hI (by rw [← hv]; exact ht')⟩, by omega⟩
  · rw [if_pos (ext_el (by simp) fun j h2 h3 => by rw [el_mkII k a j h2 h3]; exact hI j h2 (by omega)), hv, tt_full (by omega)]

theorem szII_ge {a : List (List Int)} {left : Int} (h : szII a left < 0) : szII a left = -1 := by
  unfold szII at *
  split at h
  · rw [if_pos (by assumption)]
  · omega
theorem heII_neg {k : Int} {t : List (List Int)} (hk : 0 ≤ k) (h : heII k t < 0) : heII k t = -1 := by
  unfold heII at *
  split at h
  · have := tot_nonneg t; omega
  · rename_i h2; rw [if_neg h2]
theorem mkI_idem : ∀ (k : Int) (l : List Int), mkI k (mkI k l) = mkI k l
  | _, [] => rfl
  | k, _ :: l => by simp only [mkI]; rw [mkI_idem (k + 1) l]
theorem mkII_idem : ∀ (k : Int) (t : List (List Int)), mkII k (mkII k t) = mkII k t
  | _, [] => rfl
  | k, r :: t => by simp only [mkII, mkI_idem, length_mkI]; rw [mkII_idem _ t]
theorem tot_mkII : ∀ (k : Int) (t : List (List Int)), tot (mkII k t) = tot t
  | _, [] => rfl
  | k, r :: t => by simp only [mkII, tot, length_mkI]; rw [tot_mkII _ t]
theorem heI_mkI (k : Int) (l : List Int) : heI k (mkI k l) = k + (l.length : Int) := by
  unfold heI; rw [if_pos (mkI_idem k l).symm, length_mkI]
theorem heII_mkII (k : Int) (t : List (List Int)) : heII k (mkII k t) = k + tot t := by
  unfold heII; rw [if_pos (mkII_idem k t).symm, tot_mkII]
theorem small_mkII : ∀ {k : Int} {t : List (List Int)}, (∀ r ∈ t, small r) → ∀ r ∈ mkII k t, small r
  | _, [], _, r, hr => by simp [mkII] at hr
  | k, q :: t, h, r, hr => by
    simp only [mkII, List.mem_cons] at hr
    rcases hr with rfl | hr
    · have := h q List.mem_cons_self; simpa using this
    · exact small_mkII (fun r hr => h r (List.mem_cons_of_mem _ hr)) r hr
theorem small2_mkII {k : Int} {t : List (List Int)} (h : small2 t) : small2 (mkII k t) := ⟨by have := h.1; simpa using this, small_mkII h.2⟩
theorem p_laws_eqRack (a b : List (List Int)) (hp : small2 a ∧ small2 b) : wp_laws_eqRack a b (fun y0 => y0 = decide (a = b)) := ⟨hp, fun h => by simp [h], fun h => by simp [h]⟩
theorem p_laws_markRack (a : List (List Int)) (k : Int) (hp : small2 a ∧ okKT k a) : wp_laws_markRack a k (fun y0 w0 => y0 = k + tot a ∧ w0 = mkII k a) := ⟨hp, rfl, rfl⟩
theorem p_laws_heldRack (a : List (List Int)) (k : Int) (hp : small2 a ∧ okKT k a) : wp_laws_heldRack a k (fun y0 => y0 = heII k a) := ⟨hp, fun h => (heII_neg hp.2.1 h).symm, fun _ => rfl⟩
theorem p_laws_toCycleSet (a : List (List Int)) (hp : small2 a) : wp_laws_toCycleSet a (fun y0 => y0 = a) := ⟨hp, rfl⟩
theorem p_laws_szCycleSet (a : List (List Int)) (left : Int) (hp : InS left ∧ huge2 a) : wp_laws_szCycleSet a left (fun y0 => y0 = szII a left) := ⟨hp, fun h => (szII_ge h).symm, fun _ => rfl⟩
theorem p_laws_eqCycleSet (a b : List (List Int)) (hp : small2 a ∧ small2 b) : wp_laws_eqCycleSet a b (fun y0 => y0 = decide (a = b)) := ⟨hp, fun h => by simp [h], fun h => by simp [h]⟩
theorem p_laws_markCycleSet (a : List (List Int)) (k : Int) (hp : small2 a ∧ okKT k a) : wp_laws_markCycleSet a k (fun y0 w0 => y0 = k + tot a ∧ w0 = mkII k a) := ⟨hp, rfl, rfl⟩
theorem p_k_IndexFunc_rows (t : List (List Int)) (f : List Int → Bool) (f_D : List Int → Prop) (hp : small t ∧ ∀ r ∈ t, f_D r) : wp_k_IndexFunc_rows t f f_D (fun y0 => y0 = idxF t f) := by
  unfold wp_k_IndexFunc_rows
  obtain ⟨ht, hD⟩ := hp
  refine ⟨fun i => 0 ≤ i ∧ i ≤ (t.length : Int) ∧ Upto i fun j => f (el t j) = false, fun i => ((t.length : Int) - i).toNat, ⟨by omega, by omega, upto0⟩, ?_⟩
  rintro i ⟨h0, h1, hI⟩
  dsimp only
  refine ⟨fun hlt => ⟨⟨h0, hlt⟩, hD _ (el_mem ⟨h0, hlt⟩), fun hf => (idxF_found ⟨h0, hlt⟩ hI hf).symm, fun ht => ⟨⟨by omega, by omega⟩, ⟨by omega, by omega, upto1 hI ht⟩, by omega⟩⟩, fun hge => ?_⟩
  exact (idxF_none (by rwa [show i = (t.length : Int) by omega] at hI)).symm
theorem p_k_ContainsFunc_rows (t : List (List Int)) (f : List Int → Bool) (f_D : List Int → Prop) (hp : small t ∧ ∀ r ∈ t, f_D r) : wp_k_ContainsFunc_rows t f f_D (fun y0 => y0 = t.any f) := ⟨hp, idxF_nonneg⟩
theorem p_impl_IsTable_1 (row : List Int) (n : Int) (hp : small row ∧ 0 ≤ n ∧ n ≤ 12) : wp_impl_IsTable_1 row n (fun y0 => y0 = badRow n row) := by
  unfold wp_impl_IsTable_1 badRow
  exact ⟨fun h => by simp [h], fun h => ⟨⟨by omega, by omega⟩, hp.1, by simp [h]⟩⟩
theorem p_impl_IsTable (t : List (List Int)) (hp : small2 t) : wp_impl_IsTable t (fun y0 => y0 = isTab t) := by
  unfold wp_impl_IsTable isTab
  refine ⟨fun h => ⟨⟨hp.1, fun r hr => ⟨hp.2 r hr, ?_⟩⟩, ?_⟩, fun h => ?_⟩
  · simp only [Bool.and_eq_true, decide_eq_true_eq] at h; omega
  · rw [h]; rfl
  · rw [h]; rfl
theorem p_impl_squaresOf (c : List (List Int)) (hp : isTab c = true) : wp_impl_squaresOf c (fun y0 => y0 = diag c) := by
  unfold wp_impl_squaresOf
  have hn := isTab_len hp
  simp only [List.length_replicate]
  refine ⟨⟨by omega, by omega⟩, fun i o => 0 ≤ i ∧ i ≤ (c.length : Int) ∧ o.length = c.length ∧ Upto i fun j => el o j = el (el c j) j, fun i _ => ((c.length : Int) - i).toNat, ⟨by omega, by omega, by simp, upto0⟩, ?_⟩
  rintro i o ⟨h0, h1, hl, hI⟩
  dsimp only
  refine ⟨fun hlt => ?_, fun hge => eq_ran (by omega) fun j h2 h3 => hI j h2 (by omega)⟩
  have hr := isTab_row hp (i := i) ⟨h0, by omega⟩
  exact ⟨⟨h0, by omega⟩, ⟨h0, by omega⟩, ⟨h0, by omega⟩, ⟨by omega, by omega⟩, ⟨by omega, by omega, by simp [hl], fill1 (f := fun j => el (el c j) j) ⟨h0, by omega⟩ hI rfl⟩, by omega⟩
theorem p_impl_tableBy (n : Int) (value : Int → Int → Int) (value_D : Int → Int → Prop) (hp : 0 ≤ n ∧ n ≤ 1000000 ∧ ∀ x y, 0 ≤ x → x < n → 0 ≤ y → y < n → value_D x y) : wp_impl_tableBy n value value_D (fun y0 => y0 = tab n value) := by
  unfold wp_impl_tableBy
  obtain ⟨hn0, hn1, hD⟩ := hp
  simp only [List.length_replicate]
  refine ⟨⟨by omega, by omega⟩, fun i o => 0 ≤ i ∧ i ≤ n ∧ o.length = n.toNat ∧ Upto i fun j => el o j = ran n (value j), fun i _ => (n - i).toNat, ⟨by omega, by omega, by simp, upto0⟩, ?_⟩
  rintro i o ⟨h0, h1, hl, hI⟩
  dsimp only
  refine ⟨fun hlt => ⟨⟨by omega, by omega⟩, ⟨h0, by omega⟩, ⟨h0, by omega⟩, ?_⟩, fun hge => eq_ran hl fun j h2 h3 => hI j h2 (by omega)⟩
  refine ⟨fun k q => 0 ≤ k ∧ k ≤ n ∧ q.length = n.toNat ∧ Upto k fun j => el q j = value i j, fun k _ => (n - k).toNat, ⟨by omega, by omega, by simp, upto0⟩, ?_⟩
  rintro k q ⟨k0, k1, kl, kI⟩
  dsimp only
  refine ⟨fun klt => ⟨⟨h0, by omega⟩, hD i k h0 (by omega) k0 (by omega), ⟨k0, by omega⟩, ⟨by omega, by omega⟩, ⟨by omega, by omega, by simp [kl], fill1 ⟨k0, by omega⟩ kI rfl⟩, by omega⟩, fun kge => ?_⟩
  have hq : q = ran n (value i) := eq_ran kl fun j h2 h3 => kI j h2 (by omega)
  exact ⟨⟨by omega, by omega⟩, ⟨h0, by omega⟩, ⟨by omega, by omega, by simp [hl], fill1 (f := fun j => ran n (value j)) ⟨h0, by omega⟩ hI hq⟩, by omega⟩
end Go.Proofs.Ytkekjlgidlbbcaa

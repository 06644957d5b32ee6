/- Contracts of functions that the law FnRackMaps reaches: conditions, plain proofs, walks; no condition. -/
import Derived.Test.YtjolbldlhjfciaaTy
import Derived.Test.YtjolbldlhjfciaaPP
namespace Go.Proofs.Ytjolbldlhjfciaa

def wp_impl_within (n : Int) (low : Int) (high : Int) (Q : Bool → Prop) : Prop :=
 ((low ≤ n →
 Q (decide (n ≤ high))) ∧
 (¬ (low ≤ n) →
 Q false))

def wp_spec_l01In (n : Int) (low : Int) (high : Int) (Q : Bool → Prop) : Prop :=
 ((low ≤ n →
 Q (decide (n ≤ high))) ∧
 (¬ (low ≤ n) →
 Q false))

def wp_impl_allWithin (l : List Int) (low : Int) (high : Int) (Q : Bool → Prop) : Prop :=
 ∃ (H1 : Int → Prop) (m1 : Int → Nat),
 H1 0 ∧
 ∀ (v11_1 : Int), H1 v11_1 →
 ( ((v11_1 < (l.length : Int) →
 (0 ≤ v11_1 ∧ v11_1 < (l.length : Int)) ∧
 (((decide (low ≤ (el l v11_1)) && decide ((el l v11_1) ≤ high)) = false →
 Q false) ∧
 ((decide (low ≤ (el l v11_1)) && decide ((el l v11_1) ≤ high)) = true →
 (InI (v11_1 + 1)) ∧
 (H1 (v11_1 + 1) ∧ m1 (v11_1 + 1) < m1 v11_1)))) ∧
 (¬ (v11_1 < (l.length : Int)) →
 Q true)))

def wp_impl_isPermuted (p : List Int) (Q : Bool → Prop) : Prop :=
 (0 ≤ (p.length : Int) ∧ (p.length : Int) ≤ 1000000000) ∧
 ∃ (H1 : Int → List Bool → Prop) (m1 : Int → List Bool → Nat),
 H1 0 (List.replicate (p.length : Int).toNat false) ∧
 ∀ (v11_1 : Int) (o8_1 : List Bool), H1 v11_1 o8_1 →
 ( ((v11_1 < (p.length : Int) →
 (0 ≤ v11_1 ∧ v11_1 < (p.length : Int)) ∧
 (InI ((p.length : Int) - 1)) ∧
 (((decide ((0 : Int) ≤ (el p v11_1)) && decide ((el p v11_1) ≤ ((p.length : Int) - 1))) = false →
 Q false) ∧
 ((decide ((0 : Int) ≤ (el p v11_1)) && decide ((el p v11_1) ≤ ((p.length : Int) - 1))) = true →
 (0 ≤ el p v11_1 ∧ el p v11_1 < (o8_1.length : Int)) ∧
 (((el o8_1 (el p v11_1)) = true →
 Q false) ∧
 ((el o8_1 (el p v11_1)) = false →
 (0 ≤ el p v11_1 ∧ el p v11_1 < (o8_1.length : Int)) ∧
 (InI (v11_1 + 1)) ∧
 (H1 (v11_1 + 1) (se o8_1 (el p v11_1) true) ∧ m1 (v11_1 + 1) (se o8_1 (el p v11_1) true) < m1 v11_1 o8_1)))))) ∧
 (¬ (v11_1 < (p.length : Int)) →
 Q true)))

def wp_k_IndexFunc_rows (t : List (List Int)) (f : List Int → Bool) (f_D : List Int → Prop) (Q : Int → Prop) : Prop :=
 ∃ (H1 : Int → Prop) (m1 : Int → Nat),
 H1 0 ∧
 ∀ (v8_1 : Int), H1 v8_1 →
 ( ((v8_1 < (t.length : Int) →
 (0 ≤ v8_1 ∧ v8_1 < (t.length : Int)) ∧
 (f_D (el t v8_1)) ∧
 (((f (el t v8_1)) = true →
 Q v8_1) ∧
 ((f (el t v8_1)) = false →
 (InI (v8_1 + 1)) ∧
 (H1 (v8_1 + 1) ∧ m1 (v8_1 + 1) < m1 v8_1)))) ∧
 (¬ (v8_1 < (t.length : Int)) →
 Q (-1))))

def wp_k_ContainsFunc_rows (t : List (List Int)) (f : List Int → Bool) (f_D : List Int → Prop) (Q : Bool → Prop) : Prop :=
 (small t ∧ ∀ r_ ∈ t, f_D r_) ∧
 Q (decide (0 ≤ idxF t f))

def wp_impl_IsTable_1 (row : List Int) (n : Int) (Q : Bool → Prop) : Prop :=
 ((¬ ((row.length : Int) = n) →
 Q true) ∧
 ((row.length : Int) = n →
 (InI (n - 1)) ∧
 (small row) ∧
 Q (!((row.all (fun z_ => decide ((0 : Int) ≤ z_) && decide (z_ ≤ (n - 1))))))))

def wp_impl_IsTable (t : List (List Int)) (Q : Bool → Prop) : Prop :=
 (((decide ((1 : Int) ≤ (t.length : Int)) && decide ((t.length : Int) ≤ (12 : Int))) = true →
 (small t ∧ ∀ r_ ∈ t, (fun z0 => small z0 ∧ 0 ≤ (t.length : Int) ∧ (t.length : Int) ≤ 12) r_) ∧
 Q (!((t.any (fun z0 => badRow (t.length : Int) z0))))) ∧
 ((decide ((1 : Int) ≤ (t.length : Int)) && decide ((t.length : Int) ≤ (12 : Int))) = false →
 Q false))

def wp_impl_tableBy (n : Int) (value : Int → Int → Int) (value_D : Int → Int → Prop) (Q : List (List Int) → Prop) : Prop :=
 (0 ≤ n ∧ n ≤ 1000000000) ∧
 ∃ (H1 : Int → List (List Int) → Prop) (m1 : Int → List (List Int) → Nat),
 H1 0 (List.replicate n.toNat ([] : List Int)) ∧
 ∀ (v12_1 : Int) (o9_1 : List (List Int)), H1 v12_1 o9_1 →
 ( ((v12_1 < ((List.replicate n.toNat ([] : List Int)).length : Int) →
 (0 ≤ n ∧ n ≤ 1000000000) ∧
 (0 ≤ v12_1 ∧ v12_1 < (o9_1.length : Int)) ∧
 (0 ≤ v12_1 ∧ v12_1 < (o9_1.length : Int)) ∧
 ∃ (H2 : Int → List Int → Prop) (m2 : Int → List Int → Nat),
 H2 0 (List.replicate n.toNat (0 : Int)) ∧
 ∀ (v25_2 : Int) (o18_2 : List Int), H2 v25_2 o18_2 →
 ( ((v25_2 < ((List.replicate n.toNat (0 : Int)).length : Int) →
 (0 ≤ v12_1 ∧ v12_1 < (o9_1.length : Int)) ∧
 (value_D v12_1 v25_2) ∧
 (0 ≤ v25_2 ∧ v25_2 < (o18_2.length : Int)) ∧
 (InI (v25_2 + 1)) ∧
 (H2 (v25_2 + 1) (se o18_2 v25_2 (value v12_1 v25_2)) ∧ m2 (v25_2 + 1) (se o18_2 v25_2 (value v12_1 v25_2)) < m2 v25_2 o18_2)) ∧
 (¬ (v25_2 < ((List.replicate n.toNat (0 : Int)).length : Int)) →
 (InI (v12_1 + 1)) ∧
 (0 ≤ v12_1 ∧ v12_1 < (o9_1.length : Int)) ∧
 (H1 (v12_1 + 1) (se o9_1 v12_1 o18_2) ∧ m1 (v12_1 + 1) (se o9_1 v12_1 o18_2) < m1 v12_1 o9_1))))) ∧
 (¬ (v12_1 < ((List.replicate n.toNat ([] : List Int)).length : Int)) →
 Q o9_1)))

theorem p_impl_within (n low high : Int) : wp_impl_within n low high (fun y0 => y0 = (decide (low ≤ n) && decide (n ≤ high))) := by
  unfold wp_impl_within
  exact ⟨fun h => by simp [h], fun h => by simp [h]⟩
theorem p_spec_l01In (n low high : Int) : wp_spec_l01In n low high (fun y0 => y0 = (decide (low ≤ n) && decide (n ≤ high))) := p_impl_within n low high

theorem p_impl_allWithin (l : List Int) (low high : Int) (hp : small l) : wp_impl_allWithin l low high (fun y0 => y0 = l.all (fun z_ => decide (low ≤ z_) && decide (z_ ≤ high))) := by
  unfold wp_impl_allWithin
  refine ⟨fun i => 0 ≤ i ∧ i ≤ (l.length : Int) ∧ Upto i fun j => (decide (low ≤ el l j) && decide (el l j ≤ high)) = true, fun i => ((l.length : Int) - i).toNat, ⟨by omega, by omega, upto0⟩, ?_⟩
  rintro i ⟨h0, h1, hI⟩
  dsimp only
  refine ⟨fun hlt => ⟨⟨h0, hlt⟩, fun hf => (all_f ⟨h0, hlt⟩ hf).symm, fun ht => ⟨⟨by omega, by omega⟩, ⟨by omega, by omega, upto1 hI ht⟩, by omega⟩⟩, fun hge => ?_⟩
  exact (all_t (by rwa [show i = (l.length : Int) by omega] at hI)).symm

theorem p_impl_isPermuted (p : List Int) (hp : small p) : wp_impl_isPermuted p (fun y0 => y0 = isPerm p) := by
  unfold wp_impl_isPermuted
  refine ⟨⟨by omega, hp⟩, fun i o => 0 ≤ i ∧ i ≤ (p.length : Int) ∧ o.length = p.length ∧ (Upto i fun j => (0 ≤ el p j ∧ el p j < (p.length : Int)) ∧ Upto j fun k => el p k ≠ el p j) ∧ (∀ x, 0 ≤ x → x < (p.length : Int) → (el o x = true ↔ ∃ j, (0 ≤ j ∧ j < i) ∧ el p j = x)), fun i _ => ((p.length : Int) - i).toNat,
    ⟨by omega, by omega, by simp, upto0, fun x h0 h1 => ?_⟩, ?_⟩
  · rw [el_rep ⟨h0, by omega⟩]; simp; intro j h2 h3; omega
  rintro i o ⟨h0, h1, hl, hI, hS⟩
  dsimp only
  refine ⟨fun hlt => ⟨⟨h0, hlt⟩, ⟨by omega, by omega⟩, fun hf => ?_, fun ht => ?_⟩, fun hge => ?_⟩
  · refine (decide_eq_false ?_).symm
    rintro ⟨_, h3⟩
    have := h3 _ (el_mem ⟨h0, hlt⟩)
    simp only [Bool.and_eq_false_iff, decide_eq_false_iff_not] at hf
    omega
  · simp only [Bool.and_eq_true, decide_eq_true_eq] at ht
    refine ⟨⟨by omega, by omega⟩, fun hs => ?_, fun hs => ⟨⟨by omega, by omega⟩, ⟨by omega, by omega⟩, ⟨by omega, by omega, by simp [hl], upto1 hI ⟨⟨ht.1, by omega⟩, fun k h2 h3 he => ?_⟩, fun x h2 h3 => ?_⟩, by omega⟩⟩
    · refine (decide_eq_false ?_).symm
      rintro ⟨h3, _⟩
      obtain ⟨j, hj, he⟩ := (hS _ ht.1 (by omega)).1 hs
      exact nodup_el.1 h3 j i hj.1 hj.2 hlt he
    · rw [(hS _ ht.1 (by omega)).2 ⟨k, ⟨h2, h3⟩, he⟩] at hs; cases hs
    · by_cases e : x = el p i
      · subst e
        rw [el_se_same ⟨h2, by omega⟩]
        exact ⟨fun _ => ⟨i, ⟨h0, by omega⟩, rfl⟩, fun _ => rfl⟩
      · rw [el_se_ne ht.1 h2 (Ne.symm e), hS x h2 h3]
        exact ⟨fun ⟨j, hj, he⟩ => ⟨j, ⟨hj.1, by omega⟩, he⟩, fun ⟨j, hj, he⟩ => ⟨j, ⟨hj.1, by
          by_cases e2 : j = i
          · subst e2; exact absurd he.symm e
          · omega⟩, he⟩⟩
  · refine (decide_eq_true ⟨nodup_el.2 fun a b h2 h3 h4 => (hI b (by omega) (by omega)).2 a h2 h3, fun x hx => ?_⟩).symm
    obtain ⟨j, hj, rfl⟩ := mem_el hx
    exact (hI j hj.1 (by omega)).1

theorem p_k_IndexFunc_rows (t : List (List Int)) (f : List Int → Bool) (f_D : List Int → Prop) (hp : small t ∧ ∀ r ∈ t, f_D r) : wp_k_IndexFunc_rows t f f_D (fun y0 => y0 = idxF t f) := by
  unfold wp_k_IndexFunc_rows
  obtain ⟨ht, hD⟩ := hp
  refine ⟨fun i => 0 ≤ i ∧ i ≤ (t.length : Int) ∧ Upto i fun j => f (el t j) = false, fun i => ((t.length : Int) - i).toNat, ⟨by omega, by omega, upto0⟩, ?_⟩
  rintro i ⟨h0, h1, hI⟩
  dsimp only
  refine ⟨fun hlt => ⟨⟨h0, hlt⟩, hD _ (el_mem ⟨h0, hlt⟩), fun hf => (idxF_found ⟨h0, hlt⟩ hI hf).symm, fun ht => ⟨⟨by omega, by omega⟩, ⟨by omega, by omega, upto1 hI ht⟩, by omega⟩⟩, fun hge => ?_⟩
  exact (idxF_none (by rwa [show i = (t.length : Int) by omega] at hI)).symm
theorem p_k_ContainsFunc_rows (t : List (List Int)) (f : List Int → Bool) (f_D : List Int → Prop) (hp : small t ∧ ∀ r ∈ t, f_D r) : wp_k_ContainsFunc_rows t f f_D (fun y0 => y0 = t.any f) := ⟨hp, idxF_nonneg⟩
theorem p_impl_IsTable_1 (row : List Int) (n : Int) (hp : small row ∧ 0 ≤ n ∧ n ≤ 12) : wp_impl_IsTable_1 row n (fun y0 => y0 = badRow n row) := by
  unfold wp_impl_IsTable_1 badRow
  exact ⟨fun h => by simp [h], fun h => ⟨⟨by omega, by omega⟩, hp.1, by simp [h]⟩⟩
theorem p_impl_IsTable (t : List (List Int)) (hp : small2 t) : wp_impl_IsTable t (fun y0 => y0 = isTab t) := by
  unfold wp_impl_IsTable isTab
  refine ⟨fun h => ⟨⟨hp.1, fun r hr => ⟨hp.2 r hr, ?_⟩⟩, ?_⟩, fun h => ?_⟩
  · simp only [Bool.and_eq_true, decide_eq_true_eq] at h; omega
  · rw [h]; rfl
  · rw [h]; rfl
theorem p_impl_tableBy (n : Int) (value : Int → Int → Int) (value_D : Int → Int → Prop) (hp : 0 ≤ n ∧ n ≤ 1000000 ∧ ∀ x y, 0 ≤ x → x < n → 0 ≤ y → y < n → value_D x y) : wp_impl_tableBy n value value_D (fun y0 => y0 = tab n value) := by
  unfold wp_impl_tableBy
  obtain ⟨hn0, hn1, hD⟩ := hp
  simp only [List.length_replicate]
  refine ⟨⟨by omega, by omega⟩, fun i o => 0 ≤ i ∧ i ≤ n ∧ o.length = n.toNat ∧ Upto i fun j => el o j = ran n (value j), fun i _ => (n - i).toNat, ⟨by omega, by omega, by simp, upto0⟩, ?_⟩
  rintro i o ⟨h0, h1, hl, hI⟩
  dsimp only
  refine ⟨fun hlt => ⟨⟨by omega, by omega⟩, ⟨h0, by omega⟩, ⟨h0, by omega⟩, ?_⟩, fun hge => eq_ran hl fun j h2 h3 => hI j h2 (by omega)⟩
  refine ⟨fun k q => 0 ≤ k ∧ k ≤ n ∧ q.length = n.toNat ∧ Upto k fun j => el q j = value i j, fun k _ => (n - k).toNat, ⟨by omega, by omega, by simp, upto0⟩, ?_⟩
  rintro k q ⟨k0, k1, kl, kI⟩
  dsimp only
  refine ⟨fun klt => ⟨⟨h0, by omega⟩, hD i k h0 (by omega) k0 (by omega), ⟨k0, by omega⟩, ⟨by omega, by omega⟩, ⟨by omega, by omega, by simp [kl], fill1 ⟨k0, by omega⟩ kI rfl⟩, by omega⟩, fun kge => ?_⟩
  have hq : q = ran n (value i) := eq_ran kl fun j h2 h3 => kI j h2 (by omega)
  exact ⟨⟨by omega, by omega⟩, ⟨h0, by omega⟩, ⟨by omega, by omega, by simp [hl], fill1 (f := fun j => ran n (value j)) ⟨h0, by omega⟩ hI hq⟩, by omega⟩

set_option maxRecDepth 100000 in
set_option maxHeartbeats 4000000 in
theorem w_impl_within (n : Int) (low : Int) (high : Int) (Q : Bool → Prop) (h : wp_impl_within n low high Q) : AF Try.prog 18 [ci n, ci low, ci high] (fun R_ => ∃ y0, Q y0 ∧ R_ = cb y0) := by
  refine AF.ofWQ (af_enter (n := 15) Try.func18 rfl (by rfl) rfl (Nat.le_of_ble_eq_true rfl) ?_)
  unfold wp_impl_within at h
  refine aw_seq ?_
  refine aw_gh (gh_to (n := 15) (σ' := []) (env' := [(0, .c (ci n)), (1, .c (ci low)), (2, .c (ci high))]) rfl rfl ⟨rfl, rfl, rfl, trivial⟩) ?_
  refine aw_region ?_
  refine run_s (ss_assign rfl) rfl ?_
  refine run_nil ?_
  refine aw_seq ?_
  refine aw_region ?_
  refine run_s (ss_move rfl) rfl ?_
  refine run_s (ss_move rfl) rfl ?_
  refine run_s (ss_geq rfl rfl) rfl ?_
  refine run_s (ss_move rfl) rfl ?_
  refine run_split (s := 10) rfl (fun q1 => ?_) (fun q1 => ?_)
  ·replace h := h.1 (of_decide_eq_true q1)
   refine run_gt rfl rfl q1 ?_
   refine run_s (ss_move rfl) rfl ?_
   refine run_gt rfl rfl q1 ?_
   refine run_s (ss_move rfl) rfl ?_
   refine run_gt rfl rfl q1 ?_
   refine run_s (ss_leq rfl rfl) rfl ?_
   refine run_s (ss_pickT rfl q1 rfl) rfl ?_
   refine run_s (ss_assign rfl) rfl ?_
   refine run_nil ?_
   refine aw_ret ?_
   exact retAF_mk (retv1 rfl (rv_tmp rfl)) rfl rfl ⟨_, (cle_refl _), _, h, rfl⟩
  ·replace h := h.2 (of_decide_eq_false q1)
   refine run_gf rfl rfl q1 rfl ?_
   refine run_gf rfl rfl q1 rfl ?_
   refine run_gf rfl rfl q1 rfl ?_
   refine run_s (ss_pickF rfl q1 rfl) rfl ?_
   refine run_s (ss_assign rfl) rfl ?_
   refine run_nil ?_
   refine aw_ret ?_
   exact retAF_mk (retv1 rfl (rv_tmp rfl)) rfl rfl ⟨_, (cle_refl _), _, h, rfl⟩

theorem c_impl_within (n : Int) (low : Int) (high : Int)  : AF Try.prog 18 [ci n, ci low, ci high] (fun R_ => R_ = cb (decide (low ≤ n) && decide (n ≤ high))) :=
  (w_impl_within n low high (fun y0 => y0 = (decide (low ≤ n) && decide (n ≤ high))) (p_impl_within n low high)).mono (by rintro r ⟨_, rfl, rfl⟩; rfl)

set_option maxRecDepth 100000 in
set_option maxHeartbeats 4000000 in
theorem w_spec_l01In (n : Int) (low : Int) (high : Int) (Q : Bool → Prop) (h : wp_spec_l01In n low high Q) : AF Try.prog 46 [ci n, ci low, ci high] (fun R_ => ∃ y0, Q y0 ∧ R_ = cb y0) := by
  refine AF.ofWQ (af_enter (n := 15) Try.func46 rfl (by rfl) rfl (Nat.le_of_ble_eq_true rfl) ?_)
  unfold wp_spec_l01In at h
  refine aw_seq ?_
  refine aw_gh (gh_to (n := 15) (σ' := []) (env' := [(0, .c (ci n)), (1, .c (ci low)), (2, .c (ci high))]) rfl rfl ⟨rfl, rfl, rfl, trivial⟩) ?_
  refine aw_region ?_
  refine run_s (ss_assign rfl) rfl ?_
  refine run_nil ?_
  refine aw_seq ?_
  refine aw_region ?_
  refine run_s (ss_move rfl) rfl ?_
  refine run_s (ss_move rfl) rfl ?_
  refine run_s (ss_geq rfl rfl) rfl ?_
  refine run_s (ss_move rfl) rfl ?_
  refine run_split (s := 10) rfl (fun q1 => ?_) (fun q1 => ?_)
  ·replace h := h.1 (of_decide_eq_true q1)
   refine run_gt rfl rfl q1 ?_
   refine run_s (ss_move rfl) rfl ?_
   refine run_gt rfl rfl q1 ?_
   refine run_s (ss_move rfl) rfl ?_
   refine run_gt rfl rfl q1 ?_
   refine run_s (ss_leq rfl rfl) rfl ?_
   refine run_s (ss_pickT rfl q1 rfl) rfl ?_
   refine run_s (ss_assign rfl) rfl ?_
   refine run_nil ?_
   refine aw_ret ?_
   exact retAF_mk (retv1 rfl (rv_tmp rfl)) rfl rfl ⟨_, (cle_refl _), _, h, rfl⟩
  ·replace h := h.2 (of_decide_eq_false q1)
   refine run_gf rfl rfl q1 rfl ?_
   refine run_gf rfl rfl q1 rfl ?_
   refine run_gf rfl rfl q1 rfl ?_
   refine run_s (ss_pickF rfl q1 rfl) rfl ?_
   refine run_s (ss_assign rfl) rfl ?_
   refine run_nil ?_
   refine aw_ret ?_
   exact retAF_mk (retv1 rfl (rv_tmp rfl)) rfl rfl ⟨_, (cle_refl _), _, h, rfl⟩

theorem c_spec_l01In (n : Int) (low : Int) (high : Int)  : AF Try.prog 46 [ci n, ci low, ci high] (fun R_ => R_ = cb (decide (low ≤ n) && decide (n ≤ high))) :=
  (w_spec_l01In n low high (fun y0 => y0 = (decide (low ≤ n) && decide (n ≤ high))) (p_spec_l01In n low high)).mono (by rintro r ⟨_, rfl, rfl⟩; rfl)

set_option maxRecDepth 100000 in
set_option maxHeartbeats 4000000 in
theorem w_impl_allWithin (l : List Int) (low : Int) (high : Int) (Q : Bool → Prop) (h : wp_impl_allWithin l low high Q) : AF Try.prog 43 [.lst (ints l), ci low, ci high] (fun R_ => ∃ y0, Q y0 ∧ R_ = cb y0) := by
  refine AF.ofWQ (af_enter (n := 21) Try.func43 rfl (by rfl) rfl (Nat.le_of_ble_eq_true rfl) ?_)
  unfold wp_impl_allWithin at h
  refine aw_seq ?_
  refine aw_gh (gh_to (n := 21) (σ' := []) (env' := [(0, .c (.lst (ints l))), (1, .c (ci low)), (2, .c (ci high))]) rfl rfl ⟨rfl, rfl, rfl, trivial⟩) ?_
  refine aw_region ?_
  refine run_s (ss_assign rfl) rfl ?_
  refine run_nil ?_
  refine aw_seq ?_
  refine aw_seq ?_
  refine aw_region ?_
  refine run_s (ss_move rfl) rfl ?_
  refine run_s (ss_lenL (f := ci) rfl) rfl ?_
  refine run_s (ss_move rfl) rfl ?_
  refine run_nil ?_
  refine aw_block ?_
  obtain ⟨H1, m1, q1, h⟩ := h
  refine aw_loop1 (fun (v11_1 : Int) => ⟨[], [(1, .c (ci low)), (2, .c (ci high)), (9, .c (.lst (ints l))), (10, .c (ci (l.length : Int))), (11, .c (ci v11_1))], 21⟩) H1 m1 ⟨0, ghe_to (n := 21) rfl rfl ⟨rfl, rfl, rfl, rfl, rfl, trivial⟩, q1⟩ ?_
  rintro v11_1 q1
  replace h := h v11_1 q1
  refine aw_seq ?_
  refine aw_region ?_
  refine run_s (ss_lss rfl rfl) rfl ?_
  refine run_nil ?_
  refine aw_seq ?_
  refine aw_cond rfl (fun q2 => ?_) (fun q2 => ?_)
  ·replace h := h.1 (of_decide_eq_true q2)
   refine aw_skip ?_
   refine aw_seq ?_
   refine aw_block ?_
   refine aw_seq ?_
   refine aw_region ?_
   obtain ⟨q3, h⟩ := h
   refine run_s (ss_idxL rfl rfl q3) rfl ?_
   refine run_s (ss_loadL (f := ci) rfl q3) rfl ?_
   refine run_s (ss_assign rfl) rfl ?_
   refine run_nil ?_
   refine aw_seq ?_
   refine aw_region ?_
   refine run_s (ss_move rfl) rfl ?_
   refine run_s (ss_move rfl) rfl ?_
   refine run_s (ss_move rfl) rfl ?_
   refine run_w (ws_call (xs := [.tmp 15, .tmp 16, .tmp 17]) (ids := []) rfl rfl rfl rfl (c_impl_within (el l v11_1) low high) rfl ?_ )
   rintro _ rfl
   refine ⟨rfl, ?_⟩
   refine run_s (ss_not rfl) rfl ?_
   refine run_nil ?_
   refine aw_cond rfl (fun q5 => ?_) (fun q5 => ?_)
   ·replace h := h.1 ((bnot_t q5))
    refine aw_seq ?_
    refine aw_gh (gh_to (n := 21) (σ' := []) (env' := []) rfl rfl trivial) ?_
    refine aw_region ?_
    refine run_s (ss_assign rfl) rfl ?_
    refine run_nil ?_
    refine aw_ret ?_
    exact retAF_mk (retv1 rfl (rv_tmp rfl)) rfl rfl ⟨_, (cle_refl _), _, h, rfl⟩
   ·replace h := h.2 ((bnot_f q5))
    refine aw_skip ?_
    refine aw_gh (gh_to (n := 21) (σ' := []) (env' := [(1, .c (ci low)), (2, .c (ci high)), (9, .c (.lst (ints l))), (10, .c (ci (l.length : Int))), (11, .c (ci v11_1))]) rfl rfl ⟨rfl, rfl, rfl, rfl, rfl, trivial⟩) ?_
    refine aw_region ?_
    obtain ⟨q6, h⟩ := h
    refine run_s (ss_add rfl rfl q6) rfl ?_
    refine run_s (ss_move rfl) rfl ?_
    refine run_nil ?_
    exact ⟨v11_1 + 1, ghe_to (n := 21) rfl rfl ⟨rfl, rfl, rfl, rfl, rfl, trivial⟩, h.1, h.2⟩
  ·replace h := h.2 (of_decide_eq_false q2)
   refine aw_exit ?_
   refine aw_seq ?_
   refine aw_gh (gh_to (n := 21) (σ' := []) (env' := []) rfl rfl trivial) ?_
   refine aw_region ?_
   refine run_s (ss_assign rfl) rfl ?_
   refine run_nil ?_
   refine aw_ret ?_
   exact retAF_mk (retv1 rfl (rv_tmp rfl)) rfl rfl ⟨_, (cle_refl _), _, h, rfl⟩

theorem c_impl_allWithin (l : List Int) (low : Int) (high : Int) (hp : small l) : AF Try.prog 43 [.lst (ints l), ci low, ci high] (fun R_ => R_ = cb (l.all (fun z_ => decide (low ≤ z_) && decide (z_ ≤ high)))) :=
  (w_impl_allWithin l low high (fun y0 => y0 = l.all (fun z_ => decide (low ≤ z_) && decide (z_ ≤ high))) (p_impl_allWithin l low high hp)).mono (by rintro r ⟨_, rfl, rfl⟩; rfl)

set_option maxRecDepth 100000 in
set_option maxHeartbeats 4000000 in
theorem w_impl_isPermuted (p : List Int) (Q : Bool → Prop) (h : wp_impl_isPermuted p Q) : AF Try.prog 45 [.lst (ints p)] (fun R_ => ∃ y0, Q y0 ∧ R_ = cb y0) := by
  refine AF.ofWQ (af_enter (n := 31) Try.func45 rfl (by rfl) rfl (Nat.le_of_ble_eq_true rfl) ?_)
  unfold wp_impl_isPermuted at h
  refine aw_seq ?_
  refine aw_gh (gh_to (n := 31) (σ' := []) (env' := [(0, .c (.lst (ints p)))]) rfl rfl ⟨rfl, trivial⟩) ?_
  refine aw_region ?_
  refine run_s (ss_assign rfl) rfl ?_
  refine run_nil ?_
  refine aw_seq ?_
  refine aw_region ?_
  refine run_s (ss_move rfl) rfl ?_
  refine run_s (ss_lenL (f := ci) rfl) rfl ?_
  obtain ⟨q1, h⟩ := h
  refine run_w (ws_mk (id := 8) cb false rfl rfl rfl q1 (Nat.le_of_ble_eq_true rfl) rfl ⟨rfl, ?_⟩)
  refine run_s (ss_assign rfl) rfl ?_
  refine run_nil ?_
  refine aw_seq ?_
  refine aw_seq ?_
  refine aw_region ?_
  refine run_s (ss_move rfl) rfl ?_
  refine run_s (ss_lenL (f := ci) rfl) rfl ?_
  refine run_s (ss_move rfl) rfl ?_
  refine run_nil ?_
  refine aw_block ?_
  obtain ⟨H1, m1, q2, h⟩ := h
  refine aw_loop2 (fun (v11_1 : Int) (o8_1 : List Bool) => ⟨[(8, ⟨bools o8_1, []⟩)], [(0, .c (.lst (ints p))), (3, .ref 8), (9, .c (.lst (ints p))), (10, .c (ci (p.length : Int))), (11, .c (ci v11_1))], 31⟩) H1 m1 ⟨0, List.replicate (p.length : Int).toNat false, ghe_to (n := 31) rfl rfl ⟨rfl, rfl, rfl, rfl, rfl, trivial⟩, q2⟩ ?_
  rintro v11_1 o8_1 q2
  replace h := h v11_1 o8_1 q2
  refine aw_seq ?_
  refine aw_region ?_
  refine run_s (ss_lss rfl rfl) rfl ?_
  refine run_nil ?_
  refine aw_seq ?_
  refine aw_cond rfl (fun q3 => ?_) (fun q3 => ?_)
  ·replace h := h.1 (of_decide_eq_true q3)
   refine aw_skip ?_
   refine aw_seq ?_
   refine aw_block ?_
   refine aw_seq ?_
   refine aw_region ?_
   obtain ⟨q4, h⟩ := h
   refine run_s (ss_idxL rfl rfl q4) rfl ?_
   refine run_s (ss_loadL (f := ci) rfl q4) rfl ?_
   refine run_s (ss_assign rfl) rfl ?_
   refine run_nil ?_
   refine aw_seq ?_
   refine aw_seq ?_
   refine aw_region ?_
   refine run_s (ss_move rfl) rfl ?_
   refine run_s (ss_move rfl) rfl ?_
   refine run_s (ss_lenL (f := ci) rfl) rfl ?_
   obtain ⟨q5, h⟩ := h
   refine run_s (ss_sub rfl rfl q5) rfl ?_
   refine run_w (ws_call (xs := [.tmp 15, .const (.int .i64 (0)), .tmp 18]) (ids := []) rfl rfl rfl rfl (c_impl_within (el p v11_1) 0 ((p.length : Int) - 1)) rfl ?_ )
   rintro _ rfl
   refine ⟨rfl, ?_⟩
   refine run_s (ss_not rfl) rfl ?_
   refine run_s (ss_move rfl) rfl ?_
   refine run_split (s := 21) rfl (fun q7 => ?_) (fun q7 => ?_)
   ·replace h := h.1 ((bnot_t q7))
    refine run_gf rfl rfl q7 rfl ?_
    refine run_gf rfl rfl q7 rfl ?_
    refine run_gf rfl rfl q7 rfl ?_
    refine run_gf rfl rfl q7 rfl ?_
    refine run_s (ss_pickT rfl q7 rfl) rfl ?_
    refine run_nil ?_
    refine aw_cond rfl (fun q8 => ?_) (fun q8 => ?_)
    ·skip
     refine aw_seq ?_
     refine aw_gh (gh_to (n := 31) (σ' := [(8, ⟨bools o8_1, []⟩)]) (env' := []) rfl rfl trivial) ?_
     refine aw_region ?_
     refine run_s (ss_assign rfl) rfl ?_
     refine run_nil ?_
     refine aw_ret ?_
     exact retAF_mk (retv1 rfl (rv_tmp rfl)) rfl rfl ⟨_, (cle_refl _), _, h, rfl⟩
    ·cases q8
   ·replace h := h.2 ((bnot_f q7))
    refine run_gt rfl rfl q7 ?_
    refine run_s (ss_move rfl) rfl ?_
    refine run_gt rfl rfl q7 ?_
    refine run_s (ss_move rfl) rfl ?_
    refine run_gt rfl rfl q7 ?_
    obtain ⟨q9, h⟩ := h
    refine run_s (ss_idxR (f := cb) rfl rfl rfl q9) rfl ?_
    refine run_gt rfl rfl q7 ?_
    refine run_s (ss_loadR (f := cb) rfl rfl q9 rfl rfl) rfl ?_
    refine run_s (ss_pickF rfl q7 rfl) rfl ?_
    refine run_nil ?_
    refine aw_cond rfl (fun q10 => ?_) (fun q10 => ?_)
    ·replace h := h.1 (q10)
     refine aw_seq ?_
     refine aw_gh (gh_to (n := 31) (σ' := [(8, ⟨bools o8_1, []⟩)]) (env' := []) rfl rfl trivial) ?_
     refine aw_region ?_
     refine run_s (ss_assign rfl) rfl ?_
     refine run_nil ?_
     refine aw_ret ?_
     exact retAF_mk (retv1 rfl (rv_tmp rfl)) rfl rfl ⟨_, (cle_refl _), _, h, rfl⟩
    ·replace h := h.2 (q10)
     refine aw_skip ?_
     refine aw_gh (gh_to (n := 31) (σ' := [(8, ⟨bools o8_1, []⟩)]) (env' := [(0, .c (.lst (ints p))), (3, .ref 8), (5, .c (ci (el p v11_1))), (9, .c (.lst (ints p))), (10, .c (ci (p.length : Int))), (11, .c (ci v11_1)), (22, .ref 8), (23, .c (ci (el p v11_1))), (24, .cell 8 (el p v11_1).toNat), (25, .c (cb (el o8_1 (el p v11_1))))]) rfl rfl ⟨rfl, rfl, rfl, rfl, rfl, rfl, rfl, rfl, rfl, rfl, trivial⟩) ?_
     refine aw_region ?_
     refine run_s (ss_move rfl) rfl ?_
     refine run_s (ss_move rfl) rfl ?_
     obtain ⟨q11, h⟩ := h
     refine run_s (ss_idxR (f := cb) rfl rfl rfl q11) rfl ?_
     refine run_w (ws_storeE rfl rfl (map_lt q11) rfl rfl (map_se (f := cb)) rfl ⟨rfl, ?_⟩)
     refine run_nil ?_
     refine aw_gh (gh_to (n := 31) (σ' := [(8, ⟨bools (se o8_1 (el p v11_1) true), []⟩)]) (env' := [(0, .c (.lst (ints p))), (3, .ref 8), (9, .c (.lst (ints p))), (10, .c (ci (p.length : Int))), (11, .c (ci v11_1)), (22, .ref 8), (23, .c (ci (el p v11_1))), (24, .cell 8 (el p v11_1).toNat), (25, .c (cb (el o8_1 (el p v11_1))))]) rfl rfl ⟨rfl, rfl, rfl, rfl, rfl, rfl, rfl, rfl, rfl, trivial⟩) ?_
     refine aw_region ?_
     obtain ⟨q12, h⟩ := h
     refine run_s (ss_add rfl rfl q12) rfl ?_
     refine run_s (ss_move rfl) rfl ?_
     refine run_nil ?_
     exact ⟨v11_1 + 1, se o8_1 (el p v11_1) true, ghe_to (n := 31) rfl rfl ⟨rfl, rfl, rfl, rfl, rfl, trivial⟩, h.1, h.2⟩
  ·replace h := h.2 (of_decide_eq_false q3)
   refine aw_exit ?_
   refine aw_seq ?_
   refine aw_gh (gh_to (n := 31) (σ' := [(8, ⟨bools o8_1, []⟩)]) (env' := []) rfl rfl trivial) ?_
   refine aw_region ?_
   refine run_s (ss_assign rfl) rfl ?_
   refine run_nil ?_
   refine aw_ret ?_
   exact retAF_mk (retv1 rfl (rv_tmp rfl)) rfl rfl ⟨_, (cle_refl _), _, h, rfl⟩

theorem c_impl_isPermuted (p : List Int) (hp : small p) : AF Try.prog 45 [.lst (ints p)] (fun R_ => R_ = cb (isPerm p)) :=
  (w_impl_isPermuted p (fun y0 => y0 = isPerm p) (p_impl_isPermuted p hp)).mono (by rintro r ⟨_, rfl, rfl⟩; rfl)

set_option maxRecDepth 100000 in
set_option maxHeartbeats 4000000 in
theorem w_k_IndexFunc_rows (t : List (List Int)) (f_g : Nat) (f_c : List C) (f : List Int → Bool) (f_D : List Int → Prop) (f_h : ∀ x0, f_D x0 → AF Try.prog f_g ([.lst (ints x0)] ++ f_c) (fun R_ => R_ = cb (f x0))) (Q : Int → Prop) (h : wp_k_IndexFunc_rows t f f_D Q) : AF Try.prog 58 [.lst (rows t), .clo f_g f_c] (fun R_ => ∃ y0, Q y0 ∧ R_ = ci y0) := by
  refine AF.ofWQ (af_enter (n := 19) Try.func58 rfl (by rfl) rfl (Nat.le_of_ble_eq_true rfl) ?_)
  unfold wp_k_IndexFunc_rows at h
  refine aw_seq ?_
  refine aw_gh (gh_to (n := 19) (σ' := []) (env' := [(0, .c (.lst (rows t))), (1, .c (.clo f_g f_c))]) rfl rfl ⟨rfl, rfl, trivial⟩) ?_
  refine aw_region ?_
  refine run_s (ss_assign rfl) rfl ?_
  refine run_nil ?_
  refine aw_seq ?_
  refine aw_seq ?_
  refine aw_region ?_
  refine run_s (ss_move rfl) rfl ?_
  refine run_s (ss_lenL (f := (fun r => C.lst (ints r))) rfl) rfl ?_
  refine run_s (ss_move rfl) rfl ?_
  refine run_nil ?_
  refine aw_block ?_
  obtain ⟨H1, m1, q1, h⟩ := h
  refine aw_loop1 (fun (v8_1 : Int) => ⟨[], [(0, .c (.lst (rows t))), (1, .c (.clo f_g f_c)), (7, .c (ci (t.length : Int))), (8, .c (ci v8_1))], 19⟩) H1 m1 ⟨0, ghe_to (n := 19) rfl rfl ⟨rfl, rfl, rfl, rfl, trivial⟩, q1⟩ ?_
  rintro v8_1 q1
  replace h := h v8_1 q1
  refine aw_seq ?_
  refine aw_region ?_
  refine run_s (ss_lss rfl rfl) rfl ?_
  refine run_nil ?_
  refine aw_seq ?_
  refine aw_cond rfl (fun q2 => ?_) (fun q2 => ?_)
  ·replace h := h.1 (of_decide_eq_true q2)
   refine aw_skip ?_
   refine aw_seq ?_
   refine aw_block ?_
   refine aw_seq ?_
   refine aw_region ?_
   refine run_s (ss_move rfl) rfl ?_
   refine run_s (ss_assign rfl) rfl ?_
   refine run_nil ?_
   refine aw_seq ?_
   refine aw_region ?_
   refine run_s (ss_move rfl) rfl ?_
   refine run_s (ss_move rfl) rfl ?_
   refine run_s (ss_move rfl) rfl ?_
   obtain ⟨q3, h⟩ := h
   refine run_s (ss_idxL rfl rfl q3) rfl ?_
   refine run_s (ss_loadL (f := (fun r => C.lst (ints r))) rfl q3) rfl ?_
   obtain ⟨q4, h⟩ := h
   refine run_w (ws_call (xs := [.tmp 15]) (ids := []) rfl rfl rfl rfl (f_h (el t v8_1) q4) rfl ?_ )
   rintro _ rfl
   refine ⟨rfl, ?_⟩
   refine run_nil ?_
   refine aw_cond rfl (fun q5 => ?_) (fun q5 => ?_)
   ·replace h := h.1 (q5)
    refine aw_seq ?_
    refine aw_gh (gh_to (n := 19) (σ' := []) (env' := [(5, .c (ci v8_1))]) rfl rfl ⟨rfl, trivial⟩) ?_
    refine aw_region ?_
    refine run_s (ss_move rfl) rfl ?_
    refine run_s (ss_assign rfl) rfl ?_
    refine run_nil ?_
    refine aw_ret ?_
    exact retAF_mk (retv1 rfl (rv_tmp rfl)) rfl rfl ⟨_, (cle_refl _), _, h, rfl⟩
   ·replace h := h.2 (q5)
    refine aw_skip ?_
    refine aw_gh (gh_to (n := 19) (σ' := []) (env' := [(0, .c (.lst (rows t))), (1, .c (.clo f_g f_c)), (7, .c (ci (t.length : Int))), (8, .c (ci v8_1))]) rfl rfl ⟨rfl, rfl, rfl, rfl, trivial⟩) ?_
    refine aw_region ?_
    obtain ⟨q6, h⟩ := h
    refine run_s (ss_add rfl rfl q6) rfl ?_
    refine run_s (ss_move rfl) rfl ?_
    refine run_nil ?_
    exact ⟨v8_1 + 1, ghe_to (n := 19) rfl rfl ⟨rfl, rfl, rfl, rfl, trivial⟩, h.1, h.2⟩
  ·replace h := h.2 (of_decide_eq_false q2)
   refine aw_exit ?_
   refine aw_seq ?_
   refine aw_gh (gh_to (n := 19) (σ' := []) (env' := []) rfl rfl trivial) ?_
   refine aw_region ?_
   refine run_s (ss_assign rfl) rfl ?_
   refine run_nil ?_
   refine aw_ret ?_
   exact retAF_mk (retv1 rfl (rv_tmp rfl)) rfl rfl ⟨_, (cle_refl _), _, h, rfl⟩

theorem c_k_IndexFunc_rows (t : List (List Int)) (f_g : Nat) (f_c : List C) (f : List Int → Bool) (f_D : List Int → Prop) (f_h : ∀ x0, f_D x0 → AF Try.prog f_g ([.lst (ints x0)] ++ f_c) (fun R_ => R_ = cb (f x0))) (hp : small t ∧ ∀ r_ ∈ t, f_D r_) : AF Try.prog 58 [.lst (rows t), .clo f_g f_c] (fun R_ => R_ = ci (idxF t f)) :=
  (w_k_IndexFunc_rows t f_g f_c f f_D f_h (fun y0 => y0 = idxF t f) (p_k_IndexFunc_rows t f f_D hp)).mono (by rintro r ⟨_, rfl, rfl⟩; rfl)

set_option maxRecDepth 100000 in
set_option maxHeartbeats 4000000 in
theorem w_k_ContainsFunc_rows (t : List (List Int)) (f_g : Nat) (f_c : List C) (f : List Int → Bool) (f_D : List Int → Prop) (f_h : ∀ x0, f_D x0 → AF Try.prog f_g ([.lst (ints x0)] ++ f_c) (fun R_ => R_ = cb (f x0))) (Q : Bool → Prop) (h : wp_k_ContainsFunc_rows t f f_D Q) : AF Try.prog 41 [.lst (rows t), .clo f_g f_c] (fun R_ => ∃ y0, Q y0 ∧ R_ = cb y0) := by
  refine AF.ofWQ (af_enter (n := 9) Try.func41 rfl (by rfl) rfl (Nat.le_of_ble_eq_true rfl) ?_)
  unfold wp_k_ContainsFunc_rows at h
  refine aw_seq ?_
  refine aw_gh (gh_to (n := 9) (σ' := []) (env' := [(0, .c (.lst (rows t))), (1, .c (.clo f_g f_c))]) rfl rfl ⟨rfl, rfl, trivial⟩) ?_
  refine aw_region ?_
  refine run_s (ss_assign rfl) rfl ?_
  refine run_nil ?_
  refine aw_seq ?_
  refine aw_region ?_
  refine run_s (ss_move rfl) rfl ?_
  refine run_s (ss_move rfl) rfl ?_
  obtain ⟨q1, h⟩ := h
  refine run_w (ws_call (xs := [.tmp 5, .tmp 6]) (ids := []) rfl rfl rfl rfl (c_k_IndexFunc_rows t f_g f_c f f_D f_h q1) rfl ?_ )
  rintro _ rfl
  refine ⟨rfl, ?_⟩
  refine run_s (ss_geq rfl rfl) rfl ?_
  refine run_s (ss_assign rfl) rfl ?_
  refine run_nil ?_
  refine aw_ret ?_
  exact retAF_mk (retv1 rfl (rv_tmp rfl)) rfl rfl ⟨_, (cle_refl _), _, h, rfl⟩

theorem c_k_ContainsFunc_rows (t : List (List Int)) (f_g : Nat) (f_c : List C) (f : List Int → Bool) (f_D : List Int → Prop) (f_h : ∀ x0, f_D x0 → AF Try.prog f_g ([.lst (ints x0)] ++ f_c) (fun R_ => R_ = cb (f x0))) (hp : small t ∧ ∀ r_ ∈ t, f_D r_) : AF Try.prog 41 [.lst (rows t), .clo f_g f_c] (fun R_ => R_ = cb (t.any f)) :=
  (w_k_ContainsFunc_rows t f_g f_c f f_D f_h (fun y0 => y0 = t.any f) (p_k_ContainsFunc_rows t f f_D hp)).mono (by rintro r ⟨_, rfl, rfl⟩; rfl)

set_option maxRecDepth 100000 in
set_option maxHeartbeats 4000000 in
theorem w_impl_IsTable_1 (row : List Int) (n : Int) (Q : Bool → Prop) (h : wp_impl_IsTable_1 row n Q) : AF Try.prog 42 [.lst (ints row), .ptr [ci n]] (fun R_ => ∃ y0, Q y0 ∧ R_ = cb y0) := by
  refine AF.ofWQ (af_enter (n := 15) Try.func42 rfl (by rfl) rfl (Nat.le_of_ble_eq_true rfl) ?_)
  unfold wp_impl_IsTable_1 at h
  refine aw_seq ?_
  refine aw_gh (gh_to (n := 15) (σ' := []) (env' := [(0, .c (.lst (ints row))), (1, .c (.ptr [ci n]))]) rfl rfl ⟨rfl, rfl, trivial⟩) ?_
  refine aw_region ?_
  refine run_s (ss_assign rfl) rfl ?_
  refine run_nil ?_
  refine aw_seq ?_
  refine aw_region ?_
  refine run_s (ss_move rfl) rfl ?_
  refine run_s (ss_lenL (f := ci) rfl) rfl ?_
  refine run_s (ss_load_ptr rfl rfl) rfl ?_
  refine run_s (ss_neq rfl rfl) rfl ?_
  refine run_s (ss_move rfl) rfl ?_
  refine run_split (s := 8) rfl (fun q1 => ?_) (fun q1 => ?_)
  ·replace h := h.1 (of_decide_eq_false (bnot_t q1))
   refine run_gf rfl rfl q1 rfl ?_
   refine run_gf rfl rfl q1 rfl ?_
   refine run_gf rfl rfl q1 rfl ?_
   refine run_gf rfl rfl q1 rfl ?_
   refine run_gf rfl rfl q1 rfl ?_
   refine run_s (ss_pickT rfl q1 rfl) rfl ?_
   refine run_s (ss_assign rfl) rfl ?_
   refine run_nil ?_
   refine aw_ret ?_
   exact retAF_mk (retv1 rfl (rv_tmp rfl)) rfl rfl ⟨_, (cle_refl _), _, h, rfl⟩
  ·replace h := h.2 (of_decide_eq_true (bnot_f q1))
   refine run_gt rfl rfl q1 ?_
   refine run_s (ss_move rfl) rfl ?_
   refine run_gt rfl rfl q1 ?_
   refine run_s (ss_load_ptr rfl rfl) rfl ?_
   refine run_gt rfl rfl q1 ?_
   obtain ⟨q2, h⟩ := h
   refine run_s (ss_sub rfl rfl q2) rfl ?_
   refine run_gt rfl rfl q1 ?_
   obtain ⟨q3, h⟩ := h
   refine run_w (ws_call (xs := [.tmp 9, .const (.int .i64 (0)), .tmp 11]) (ids := []) rfl rfl rfl rfl (c_impl_allWithin row 0 (n - 1) q3) rfl ?_ )
   rintro _ rfl
   refine ⟨rfl, ?_⟩
   refine run_gt rfl rfl q1 ?_
   refine run_s (ss_not rfl) rfl ?_
   refine run_s (ss_pickF rfl q1 rfl) rfl ?_
   refine run_s (ss_assign rfl) rfl ?_
   refine run_nil ?_
   refine aw_ret ?_
   exact retAF_mk (retv1 rfl (rv_tmp rfl)) rfl rfl ⟨_, (cle_refl _), _, h, rfl⟩

theorem c_impl_IsTable_1 (row : List Int) (n : Int) (hp : small row ∧ 0 ≤ n ∧ n ≤ 12) : AF Try.prog 42 [.lst (ints row), .ptr [ci n]] (fun R_ => R_ = cb (badRow n row)) :=
  (w_impl_IsTable_1 row n (fun y0 => y0 = badRow n row) (p_impl_IsTable_1 row n hp)).mono (by rintro r ⟨_, rfl, rfl⟩; rfl)

set_option maxRecDepth 100000 in
set_option maxHeartbeats 4000000 in
theorem w_impl_IsTable (t : List (List Int)) (Q : Bool → Prop) (h : wp_impl_IsTable t Q) : AF Try.prog 26 [.lst (rows t)] (fun R_ => ∃ y0, Q y0 ∧ R_ = cb y0) := by
  refine AF.ofWQ (af_enter (n := 14) Try.func26 rfl (by rfl) rfl (Nat.le_of_ble_eq_true rfl) ?_)
  unfold wp_impl_IsTable at h
  refine aw_seq ?_
  refine aw_gh (gh_to (n := 14) (σ' := []) (env' := [(0, .c (.lst (rows t)))]) rfl rfl ⟨rfl, trivial⟩) ?_
  refine aw_region ?_
  refine run_s (ss_assign rfl) rfl ?_
  refine run_nil ?_
  refine aw_seq ?_
  refine aw_region ?_
  refine run_s (ss_move rfl) rfl ?_
  refine run_s (ss_lenL (f := (fun r => C.lst (ints r))) rfl) rfl ?_
  refine run_w (ws_alloc (id := 3) rfl (Nat.le_of_ble_eq_true rfl) ⟨rfl, ?_⟩)
  refine run_w (ws_store rfl rfl (Nat.le_of_ble_eq_true rfl) rfl rfl ⟨rfl, ?_⟩)
  refine run_nil ?_
  refine aw_seq ?_
  refine aw_region ?_
  refine run_s (ss_loadC rfl rfl rfl rfl rfl) rfl ?_
  refine run_w (ws_call (xs := [.tmp 6, .const (.int .i64 (1)), .const (.int .i64 (12))]) (ids := []) rfl rfl rfl rfl (c_impl_within (t.length : Int) 1 12) rfl ?_ )
  rintro _ rfl
  refine ⟨rfl, ?_⟩
  refine run_s (ss_move rfl) rfl ?_
  refine run_split (s := 8) rfl (fun q2 => ?_) (fun q2 => ?_)
  ·replace h := h.1 (q2)
   refine run_gt rfl rfl q2 ?_
   refine run_s (ss_move rfl) rfl ?_
   refine run_gt rfl rfl q2 ?_
   refine run_gh (gh_freeze (id := 3) rfl rfl) ?_
   refine run_s (ss_makeFunc (os := [.tmp 3]) rfl) rfl ?_
   refine run_gt rfl rfl q2 ?_
   obtain ⟨q3, h⟩ := h
   refine run_w (ws_call (xs := [.tmp 9, .tmp 10]) (ids := []) rfl rfl rfl rfl (c_k_ContainsFunc_rows t 42 [.ptr [ci (t.length : Int)]] (fun z0 => badRow (t.length : Int) z0) (fun z0 => small z0 ∧ 0 ≤ (t.length : Int) ∧ (t.length : Int) ≤ 12) (fun z0 hD => c_impl_IsTable_1 z0 (t.length : Int) hD) q3) rfl ?_ )
   rintro _ rfl
   refine ⟨rfl, ?_⟩
   refine run_gt rfl rfl q2 ?_
   refine run_s (ss_not rfl) rfl ?_
   refine run_s (ss_pickT rfl q2 rfl) rfl ?_
   refine run_s (ss_assign rfl) rfl ?_
   refine run_nil ?_
   refine aw_ret ?_
   exact retAF_mk (retv1 rfl (rv_tmp rfl)) rfl rfl ⟨_, (cle_refl _), _, h, rfl⟩
  ·replace h := h.2 (q2)
   refine run_gf rfl rfl q2 rfl ?_
   refine run_gf rfl rfl q2 rfl ?_
   refine run_gf rfl rfl q2 rfl ?_
   refine run_gf rfl rfl q2 rfl ?_
   refine run_s (ss_pickF rfl q2 rfl) rfl ?_
   refine run_s (ss_assign rfl) rfl ?_
   refine run_nil ?_
   refine aw_ret ?_
   exact retAF_mk (retv1 rfl (rv_tmp rfl)) rfl rfl ⟨_, (cle_refl _), _, h, rfl⟩

theorem c_impl_IsTable (t : List (List Int)) (hp : small2 t) : AF Try.prog 26 [.lst (rows t)] (fun R_ => R_ = cb (isTab t)) :=
  (w_impl_IsTable t (fun y0 => y0 = isTab t) (p_impl_IsTable t hp)).mono (by rintro r ⟨_, rfl, rfl⟩; rfl)

set_option maxRecDepth 100000 in
set_option maxHeartbeats 4000000 in
theorem w_impl_tableBy (n : Int) (value_g : Nat) (value_c : List C) (value : Int → Int → Int) (value_D : Int → Int → Prop) (value_h : ∀ x0 x1, value_D x0 x1 → AF Try.prog value_g ([ci x0, ci x1] ++ value_c) (fun R_ => R_ = ci (value x0 x1))) (Q : List (List Int) → Prop) (h : wp_impl_tableBy n value value_D Q) : AF Try.prog 35 [ci n, .clo value_g value_c] (fun R_ => ∃ y0, Q y0 ∧ R_ = .own (orows y0)) := by
  refine AF.ofWQ (af_enter (n := 41) Try.func35 rfl (by rfl) rfl (Nat.le_of_ble_eq_true rfl) ?_)
  unfold wp_impl_tableBy at h
  refine aw_seq ?_
  refine aw_gh (gh_to (n := 41) (σ' := []) (env' := [(0, .c (ci n)), (1, .c (.clo value_g value_c))]) rfl rfl ⟨rfl, rfl, trivial⟩) ?_
  refine aw_region ?_
  refine run_s (ss_assign rfl) rfl ?_
  refine run_nil ?_
  refine aw_seq ?_
  refine aw_region ?_
  refine run_s (ss_move rfl) rfl ?_
  obtain ⟨q1, h⟩ := h
  refine run_w (ws_makeSlice (id := 9) rfl rfl q1 (Nat.le_of_ble_eq_true rfl) rfl ⟨rfl, ?_⟩)
  refine run_gh (gh_weakR (id := 9) (f := (fun r => C.own (ints r))) rfl cle_nilO) ?_
  refine run_s (ss_assign rfl) rfl ?_
  refine run_nil ?_
  refine aw_seq ?_
  refine aw_seq ?_
  refine aw_region ?_
  refine run_s (ss_move rfl) rfl ?_
  refine run_s (ss_lenR (f := (fun r => C.own (ints r))) rfl rfl) rfl ?_
  refine run_s (ss_move rfl) rfl ?_
  refine run_nil ?_
  refine aw_block ?_
  obtain ⟨H1, m1, q2, h⟩ := h
  refine aw_loop2 (fun (v12_1 : Int) (o9_1 : List (List Int)) => ⟨[(9, ⟨orows o9_1, []⟩)], [(0, .c (ci n)), (1, .c (.clo value_g value_c)), (5, .ref 9), (11, .c (ci ((List.replicate n.toNat ([] : List Int)).length : Int))), (12, .c (ci v12_1))], 41⟩) H1 m1 ⟨0, List.replicate n.toNat ([] : List Int), ghe_to (n := 41) rfl rfl ⟨rfl, rfl, rfl, rfl, rfl, trivial⟩, q2⟩ ?_
  rintro v12_1 o9_1 q2
  replace h := h v12_1 o9_1 q2
  refine aw_seq ?_
  refine aw_region ?_
  refine run_s (ss_lss rfl rfl) rfl ?_
  refine run_nil ?_
  refine aw_seq ?_
  refine aw_cond rfl (fun q3 => ?_) (fun q3 => ?_)
  ·replace h := h.1 (of_decide_eq_true q3)
   refine aw_skip ?_
   refine aw_seq ?_
   refine aw_block ?_
   refine aw_seq ?_
   refine aw_region ?_
   refine run_s (ss_move rfl) rfl ?_
   refine run_s (ss_assign rfl) rfl ?_
   refine run_nil ?_
   refine aw_seq ?_
   refine aw_region ?_
   refine run_s (ss_move rfl) rfl ?_
   refine run_s (ss_move rfl) rfl ?_
   refine run_s (ss_move rfl) rfl ?_
   obtain ⟨q4, h⟩ := h
   refine run_w (ws_mk (id := 18) ci (0 : Int) rfl rfl rfl q4 (Nat.le_of_ble_eq_true rfl) rfl ⟨rfl, ?_⟩)
   obtain ⟨q5, h⟩ := h
   refine run_s (ss_idxR (f := (fun r => C.own (ints r))) rfl rfl rfl q5) rfl ?_
   refine run_w (ws_storeV rfl rfl (map_lt q5) rfl rfl rfl rfl ⟨rfl, ?_⟩)
   refine run_nil ?_
   refine aw_seq ?_
   refine aw_region ?_
   refine run_s (ss_move rfl) rfl ?_
   refine run_s (ss_move rfl) rfl ?_
   obtain ⟨q6, h⟩ := h
   refine run_s (ss_indexAddr_ref rfl rfl rfl (set_bd (f := (fun r => C.own (ints r))) q6)) rfl ?_
   refine run_s (ss_loadH rfl rfl lk_self rfl) rfl ?_
   refine run_s (ss_lenR (f := ci) rfl rfl) rfl ?_
   refine run_s (ss_move rfl) rfl ?_
   refine run_nil ?_
   refine aw_block ?_
   obtain ⟨H2, m2, q7, h⟩ := h
   refine aw_loop2 (fun (v25_2 : Int) (o18_2 : List Int) => ⟨[(18, ⟨ints o18_2, []⟩), (9, ⟨(orows o9_1).set v12_1.toNat .hole, [(v12_1.toNat, .ref 18)]⟩)], [(0, .c (ci n)), (1, .c (.clo value_g value_c)), (5, .ref 9), (6, .c (ci v12_1)), (11, .c (ci ((List.replicate n.toNat ([] : List Int)).length : Int))), (12, .c (ci v12_1)), (24, .c (ci ((List.replicate n.toNat (0 : Int)).length : Int))), (25, .c (ci v25_2))], 41⟩) H2 m2 ⟨0, List.replicate n.toNat (0 : Int), ghe_to (n := 41) rfl rfl ⟨rfl, rfl, rfl, rfl, rfl, rfl, rfl, rfl, trivial⟩, q7⟩ ?_
   rintro v25_2 o18_2 q7
   replace h := h v25_2 o18_2 q7
   refine aw_seq ?_
   refine aw_region ?_
   refine run_s (ss_lss rfl rfl) rfl ?_
   refine run_nil ?_
   refine aw_seq ?_
   refine aw_cond rfl (fun q8 => ?_) (fun q8 => ?_)
   ·replace h := h.1 (of_decide_eq_true q8)
    refine aw_skip ?_
    refine aw_seq ?_
    refine aw_block ?_
    refine aw_seq ?_
    refine aw_region ?_
    refine run_s (ss_move rfl) rfl ?_
    refine run_s (ss_assign rfl) rfl ?_
    refine run_nil ?_
    refine aw_gh (gh_to (n := 41) (σ' := [(18, ⟨ints o18_2, []⟩), (9, ⟨(orows o9_1).set v12_1.toNat .hole, [(v12_1.toNat, .ref 18)]⟩)]) (env' := [(0, .c (ci n)), (1, .c (.clo value_g value_c)), (5, .ref 9), (6, .c (ci v12_1)), (7, .c (ci v25_2)), (11, .c (ci ((List.replicate n.toNat ([] : List Int)).length : Int))), (12, .c (ci v12_1)), (24, .c (ci ((List.replicate n.toNat (0 : Int)).length : Int))), (25, .c (ci v25_2))]) rfl rfl ⟨rfl, rfl, rfl, rfl, rfl, rfl, rfl, rfl, rfl, trivial⟩) ?_
    refine aw_regionD (kd := kdl [0, 0, 0, 1, 0, 0, 0, 0, 2, 0, 3]) (ord := [0, 1, 2, 4, 5, 6, 7, 3, 8, 9, 10]) [] mixed (by kernel_rfl) ?_
    refine rd_s rfl rfl trivial (ss_move rfl) rfl ?_
    refine rd_s rfl rfl trivial (ss_move rfl) rfl ?_
    obtain ⟨q9, h⟩ := h
    refine rd_s rfl rfl trivial (ss_indexAddr_ref rfl rfl rfl (set_bd (f := (fun r => C.own (ints r))) q9)) rfl ?_
    refine rd_s rfl rfl trivial (ss_move rfl) rfl ?_
    refine rd_s rfl rfl trivial (ss_move rfl) rfl ?_
    refine rd_s rfl rfl trivial (ss_move rfl) rfl ?_
    refine rd_s rfl rfl trivial (ss_move rfl) rfl ?_
    refine rd_l rfl rfl trivial (ss_loadH rfl rfl lk_self rfl) rfl ?_
    obtain ⟨q10, h⟩ := h
    refine rd_w rfl rfl trivial rfl rfl (ws_call (xs := [.tmp 34, .tmp 35]) (ids := []) rfl rfl rfl rfl (value_h v12_1 v25_2 q10) rfl ?_ )
    rintro _ rfl
    refine ⟨rfl, ?_⟩
    obtain ⟨q11, h⟩ := h
    refine rd_s rfl rfl trivial (ss_idxR (f := ci) rfl rfl rfl q11) rfl ?_
    refine rd_f rfl rfl trivial (ws_storeE rfl rfl (map_lt q11) rfl rfl (map_se (f := ci)) rfl ⟨rfl, ?_⟩)
    refine rd_nil ?_
    refine aw_gh (gh_to (n := 41) (σ' := [(18, ⟨ints (se o18_2 v25_2 (value v12_1 v25_2)), []⟩), (9, ⟨(orows o9_1).set v12_1.toNat .hole, [(v12_1.toNat, .ref 18)]⟩)]) (env' := [(0, .c (ci n)), (1, .c (.clo value_g value_c)), (5, .ref 9), (6, .c (ci v12_1)), (11, .c (ci ((List.replicate n.toNat ([] : List Int)).length : Int))), (12, .c (ci v12_1)), (24, .c (ci ((List.replicate n.toNat (0 : Int)).length : Int))), (25, .c (ci v25_2))]) rfl rfl ⟨rfl, rfl, rfl, rfl, rfl, rfl, rfl, rfl, trivial⟩) ?_
    refine aw_region ?_
    obtain ⟨q12, h⟩ := h
    refine run_s (ss_add rfl rfl q12) rfl ?_
    refine run_s (ss_move rfl) rfl ?_
    refine run_nil ?_
    exact ⟨v25_2 + 1, se o18_2 v25_2 (value v12_1 v25_2), ghe_to (n := 41) rfl rfl ⟨rfl, rfl, rfl, rfl, rfl, rfl, rfl, rfl, trivial⟩, h.1, h.2⟩
   ·replace h := h.2 (of_decide_eq_false q8)
    refine aw_exit ?_
    refine aw_gh (gh_to (n := 41) (σ' := [(18, ⟨ints o18_2, []⟩), (9, ⟨(orows o9_1).set v12_1.toNat .hole, [(v12_1.toNat, .ref 18)]⟩)]) (env' := [(0, .c (ci n)), (1, .c (.clo value_g value_c)), (5, .ref 9), (11, .c (ci ((List.replicate n.toNat ([] : List Int)).length : Int))), (12, .c (ci v12_1))]) rfl rfl ⟨rfl, rfl, rfl, rfl, rfl, trivial⟩) ?_
    refine aw_region ?_
    obtain ⟨q13, h⟩ := h
    refine run_s (ss_add rfl rfl q13) rfl ?_
    refine run_s (ss_move rfl) rfl ?_
    refine run_nil ?_
    obtain ⟨q14, h⟩ := h
    exact ⟨v12_1 + 1, se o9_1 v12_1 o18_2, ghe_step (gh_fillA (id := 9) (id2 := 18) (f := (fun r => C.own (ints r))) (v := o18_2) rfl lk_self rfl q14 rfl rfl kr_self) (ghe_to (n := 41) rfl rfl ⟨rfl, rfl, rfl, rfl, rfl, trivial⟩), h.1, h.2⟩
  ·replace h := h.2 (of_decide_eq_false q3)
   refine aw_exit ?_
   refine aw_seq ?_
   refine aw_gh (gh_to (n := 41) (σ' := [(9, ⟨orows o9_1, []⟩)]) (env' := [(5, .ref 9)]) rfl rfl ⟨rfl, trivial⟩) ?_
   refine aw_region ?_
   refine run_s (ss_move rfl) rfl ?_
   refine run_s (ss_assign rfl) rfl ?_
   refine run_nil ?_
   refine aw_ret ?_
   exact retAF_mk (retv1 rfl (rv_tmp rfl)) rfl rfl ⟨_, (cle_refl _), _, h, rfl⟩

theorem c_impl_tableBy (n : Int) (value_g : Nat) (value_c : List C) (value : Int → Int → Int) (value_D : Int → Int → Prop) (value_h : ∀ x0 x1, value_D x0 x1 → AF Try.prog value_g ([ci x0, ci x1] ++ value_c) (fun R_ => R_ = ci (value x0 x1))) (hp : 0 ≤ n ∧ n ≤ 1000000 ∧ ∀ x_ y_, 0 ≤ x_ → x_ < n → 0 ≤ y_ → y_ < n → value_D x_ y_) : AF Try.prog 35 [ci n, .clo value_g value_c] (fun R_ => R_ = .own (orows (tab n value))) :=
  (w_impl_tableBy n value_g value_c value value_D value_h (fun y0 => y0 = tab n value) (p_impl_tableBy n value value_D hp)).mono (by rintro r ⟨_, rfl, rfl⟩; rfl)

def wp_spec_l01Index (list : List Int) (n : Int) (Q : Int → Prop) : Prop :=
 ∃ (H1 : Int → Prop) (m1 : Int → Nat),
 H1 0 ∧
 ∀ (v5_1 : Int), H1 v5_1 →
 ( ((v5_1 < (list.length : Int) →
 (0 ≤ v5_1 ∧ v5_1 < (list.length : Int)) ∧
 ((el list v5_1 = n →
 Q v5_1) ∧
 (¬ (el list v5_1 = n) →
 (InI (v5_1 + 1)) ∧
 (H1 (v5_1 + 1) ∧ m1 (v5_1 + 1) < m1 v5_1)))) ∧
 (¬ (v5_1 < (list.length : Int)) →
 Q (-1))))

def wp_spec_l01Has (list : List Int) (n : Int) (Q : Bool → Prop) : Prop :=
 (small list) ∧
 Q (decide (0 ≤ idxI list n))

def wp_spec_l01Perm (p : List Int) (Q : Bool → Prop) : Prop :=
 (((decide ((1 : Int) ≤ (p.length : Int)) && decide ((p.length : Int) ≤ (12 : Int))) = false →
 Q false) ∧
 ((decide ((1 : Int) ≤ (p.length : Int)) && decide ((p.length : Int) ≤ (12 : Int))) = true →
 ∃ (H1 : Int → Prop) (m1 : Int → Nat),
 H1 0 ∧
 ∀ (v4_1 : Int), H1 v4_1 →
 ( ((v4_1 < (p.length : Int) →
 (small p) ∧
 (((p.contains v4_1) = false →
 Q false) ∧
 ((p.contains v4_1) = true →
 (InI (v4_1 + 1)) ∧
 (H1 (v4_1 + 1) ∧ m1 (v4_1 + 1) < m1 v4_1)))) ∧
 (¬ (v4_1 < (p.length : Int)) →
 Q true)))))

def wp_spec_l01Own (list : List Int) (Q : List Int → Prop) : Prop :=
 ((([] : List Int).length : Int) + (list.length : Int) ≤ 1000000000) ∧
 Q (([] : List Int) ++ list)

def wp_spec_l01Table (t : List (List Int)) (Q : Bool → Prop) : Prop :=
 (((decide ((1 : Int) ≤ (t.length : Int)) && decide ((t.length : Int) ≤ (12 : Int))) = false →
 Q false) ∧
 ((decide ((1 : Int) ≤ (t.length : Int)) && decide ((t.length : Int) ≤ (12 : Int))) = true →
 ∃ (H1 : Int → Prop) (m1 : Int → Nat),
 H1 0 ∧
 ∀ (v4_1 : Int), H1 v4_1 →
 ( ((v4_1 < (t.length : Int) →
 (0 ≤ v4_1 ∧ v4_1 < (t.length : Int)) ∧
 ((¬ (((el t v4_1).length : Int) = (t.length : Int)) →
 Q false) ∧
 (((el t v4_1).length : Int) = (t.length : Int) →
 ∃ (H2 : Int → Prop) (m2 : Int → Nat),
 H2 0 ∧
 ∀ (v5_2 : Int), H2 v5_2 →
 ( ((v5_2 < (t.length : Int) →
 (0 ≤ v4_1 ∧ v4_1 < (t.length : Int)) ∧
 (0 ≤ v5_2 ∧ v5_2 < ((el t v4_1).length : Int)) ∧
 (InI ((t.length : Int) - 1)) ∧
 (((decide ((0 : Int) ≤ (el (el t v4_1) v5_2)) && decide ((el (el t v4_1) v5_2) ≤ ((t.length : Int) - 1))) = false →
 Q false) ∧
 ((decide ((0 : Int) ≤ (el (el t v4_1) v5_2)) && decide ((el (el t v4_1) v5_2) ≤ ((t.length : Int) - 1))) = true →
 (InI (v5_2 + 1)) ∧
 (H2 (v5_2 + 1) ∧ m2 (v5_2 + 1) < m2 v5_2)))) ∧
 (¬ (v5_2 < (t.length : Int)) →
 (InI (v4_1 + 1)) ∧
 (H1 (v4_1 + 1) ∧ m1 (v4_1 + 1) < m1 v4_1))))))) ∧
 (¬ (v4_1 < (t.length : Int)) →
 Q true)))))

def wp_spec_l03Coprime (a : Int) (n : Int) (Q : Bool → Prop) : Prop :=
 ∃ (H1 : Int → Prop) (m1 : Int → Nat),
 H1 2 ∧
 ∀ (v5_1 : Int), H1 v5_1 →
 ( ((v5_1 ≤ n →
 ((0 : Int) ≤ a ∧ (0 : Int) < v5_1) ∧
 ((a % v5_1 = 0 →
 ((0 : Int) ≤ n ∧ (0 : Int) < v5_1) ∧
 ((n % v5_1 = 0 →
 Q false) ∧
 (¬ (n % v5_1 = 0) →
 (InI (v5_1 + 1)) ∧
 (H1 (v5_1 + 1) ∧ m1 (v5_1 + 1) < m1 v5_1)))) ∧
 (¬ (a % v5_1 = 0) →
 (InI (v5_1 + 1)) ∧
 (H1 (v5_1 + 1) ∧ m1 (v5_1 + 1) < m1 v5_1)))) ∧
 (¬ (v5_1 ≤ n) →
 Q true)))

def wp_spec_l03Alexander (n : Int) (a : Int) (b : Int) (Q : List (List Int) → Prop) : Prop :=
 ∃ (H1 : Int → List (List Int) → Prop) (m1 : Int → List (List Int) → Nat),
 H1 0 ([] : List (List Int)) ∧
 ∀ (v8_1 : Int) (o11_1 : List (List Int)), H1 v8_1 o11_1 →
 ( ((v8_1 < n →
 ∃ (H2 : Int → List Int → Prop) (m2 : Int → List Int → Nat),
 H2 0 ([] : List Int) ∧
 ∀ (v10_2 : Int) (o17_2 : List Int), H2 v10_2 o17_2 →
 ( ((v10_2 < n →
 (InI (b * v8_1)) ∧
 (InI (a * v10_2)) ∧
 (InI ((b * v8_1) + (a * v10_2))) ∧
 ((0 : Int) ≤ (b * v8_1) + (a * v10_2) ∧ (0 : Int) < n) ∧
 ((o17_2.length : Int) + (([((b * v8_1) + (a * v10_2)) % n]).length : Int) ≤ 1000000000) ∧
 (InI (v10_2 + 1)) ∧
 (H2 (v10_2 + 1) (o17_2 ++ ([((b * v8_1) + (a * v10_2)) % n])) ∧ m2 (v10_2 + 1) (o17_2 ++ ([((b * v8_1) + (a * v10_2)) % n])) < m2 v10_2 o17_2)) ∧
 (¬ (v10_2 < n) →
 ((o11_1.length : Int) + (([o17_2]).length : Int) ≤ 1000000000) ∧
 (InI (v8_1 + 1)) ∧
 (H1 (v8_1 + 1) (o11_1 ++ ([o17_2])) ∧ m1 (v8_1 + 1) (o11_1 ++ ([o17_2])) < m1 v8_1 o11_1))))) ∧
 (¬ (v8_1 < n) →
 Q o11_1)))

def wp_impl_rackBy_1 (x : Int) (y : Int) (value : Int → Int → Int) (value_D : Int → Int → Prop) (Q : Int → Prop) : Prop :=
 (value_D x y) ∧
 Q (value x y)

def wp_impl_rackBy (n : Int) (value : Int → Int → Int) (value_D : Int → Int → Prop) (Q : List (List Int) → Prop) : Prop :=
 (0 ≤ n ∧ n ≤ 1000000 ∧ ∀ x_ y_, 0 ≤ x_ → x_ < n → 0 ≤ y_ → y_ < n → (fun z0 z1 => value_D z0 z1 ∧ InI (value z0 z1)) x_ y_) ∧
 Q (tab n (fun z0 z1 => value z0 z1))

def wp_impl_TrivialRack_1 (_x : Int) (y : Int) (Q : Int → Prop) : Prop :=
 Q y

def wp_impl_TrivialRack (n : Int) (Q : List (List Int) → Int → Prop) : Prop :=
 (((decide ((1 : Int) ≤ n) && decide (n ≤ (12 : Int))) = false →
 Q ([]) 2) ∧
 ((decide ((1 : Int) ≤ n) && decide (n ≤ (12 : Int))) = true →
 (0 ≤ n ∧ n ≤ 1000000 ∧ ∀ x_ y_, 0 ≤ x_ → x_ < n → 0 ≤ y_ → y_ < n → (fun z0 z1 => True) x_ y_ ∧ InI ((fun z0 z1 => z1) x_ y_)) ∧
 Q (tab n (fun z0 z1 => z1)) 0))

theorem p_spec_l01Index (list : List Int) (n : Int) (hp : small list) : wp_spec_l01Index list n (fun y0 => y0 = idxI list n) := by
  unfold wp_spec_l01Index idxI
  refine ⟨fun i => 0 ≤ i ∧ i ≤ (list.length : Int) ∧ Upto i fun j => (el list j == n) = false, fun i => ((list.length : Int) - i).toNat, ⟨by omega, by omega, upto0⟩, ?_⟩
  rintro i ⟨h0, h1, hI⟩
  dsimp only
  refine ⟨fun hlt => ⟨⟨h0, hlt⟩, fun hf => (idxF_found ⟨h0, hlt⟩ hI (by simpa using hf)).symm, fun ht => ⟨⟨by omega, by omega⟩, ⟨by omega, by omega, upto1 hI (by simpa using ht)⟩, by omega⟩⟩, fun hge => ?_⟩
  exact (idxF_none (by rwa [show i = (list.length : Int) by omega] at hI)).symm
theorem p_spec_l01Has (list : List Int) (n : Int) (hp : small list) : wp_spec_l01Has list n (fun y0 => y0 = list.contains n) := ⟨hp, idxI_has⟩
theorem p_spec_l01Perm (p : List Int) (hp : small p) : wp_spec_l01Perm p (fun y0 => y0 = permB p) := by
  unfold wp_spec_l01Perm permB
  refine ⟨fun h => by rw [h]; rfl, fun h => ?_⟩
  rw [h]
  refine ⟨fun i => 0 ≤ i ∧ i ≤ (p.length : Int) ∧ Upto i fun j => j ∈ p, fun i => ((p.length : Int) - i).toNat, ⟨by omega, by omega, upto0⟩, ?_⟩
  rintro i ⟨h0, h1, hI⟩
  dsimp only
  refine ⟨fun hlt => ⟨hp, fun hf => ?_, fun ht => ⟨⟨by omega, by omega⟩, ⟨by omega, by omega, upto1 hI (List.contains_iff_mem.1 ht)⟩, by omega⟩⟩, fun hge => ?_⟩
  · cases hb : isPerm p with
    | false => rfl
    | true => rw [List.contains_iff_mem.2 (isPerm_all hb ⟨h0, hlt⟩)] at hf; cases hf
  · rw [isPerm_of_all fun x a b => hI x a (by omega)]; rfl
theorem p_spec_l01Own (list : List Int) (hp : small list) : wp_spec_l01Own list (fun y0 => y0 = list) := ⟨by simp; omega, rfl⟩
theorem p_spec_l01Table (t : List (List Int)) (hp : small2 t) : wp_spec_l01Table t (fun y0 => y0 = isTab t) := by
  unfold wp_spec_l01Table
  refine ⟨fun h => by unfold isTab; rw [h]; rfl, fun h => ?_⟩
  simp only [Bool.and_eq_true, decide_eq_true_eq] at h
  have nt : ∀ i, (0 ≤ i ∧ i < (t.length : Int)) → (((el t i).length : Int) ≠ (t.length : Int) ∨ ∃ j, (0 ≤ j ∧ j < (t.length : Int)) ∧ ¬ (0 ≤ el (el t i) j ∧ el (el t i) j < (t.length : Int))) → false = isTab t := by
    intro i hi hn
    cases hb : isTab t with
    | false => rfl
    | true =>
      have := isTab_row hb hi
      rcases hn with hn | ⟨j, hj, hn⟩
      · exact absurd this.1 hn
      · exact absurd (this.2 j hj.1 hj.2) hn
  refine ⟨fun i => 0 ≤ i ∧ i ≤ (t.length : Int) ∧ Upto i fun i => ((el t i).length : Int) = (t.length : Int) ∧ ∀ j, 0 ≤ j → j < (t.length : Int) → 0 ≤ el (el t i) j ∧ el (el t i) j < (t.length : Int), fun i => ((t.length : Int) - i).toNat, ⟨by omega, by omega, upto0⟩, ?_⟩
  rintro i ⟨h0, h1, hI⟩
  dsimp only
  refine ⟨fun hlt => ⟨⟨h0, hlt⟩, fun hf => nt i ⟨h0, hlt⟩ (.inl hf), fun hr => ?_⟩, fun hge => (isTab_mk h fun i a b => hI i a (by omega)).symm⟩
  refine ⟨fun j => 0 ≤ j ∧ j ≤ (t.length : Int) ∧ Upto j fun j => 0 ≤ el (el t i) j ∧ el (el t i) j < (t.length : Int), fun j => ((t.length : Int) - j).toNat, ⟨by omega, by omega, upto0⟩, ?_⟩
  rintro j ⟨j0, j1, jI⟩
  dsimp only
  refine ⟨fun jlt => ⟨⟨h0, hlt⟩, ⟨j0, by omega⟩, ⟨by omega, by omega⟩, fun hf => ?_, fun ht => ?_⟩, fun jge => ⟨⟨by omega, by omega⟩, ⟨by omega, by omega, upto1 hI ⟨hr, fun j a b => jI j a (by omega)⟩⟩, by omega⟩⟩
  · simp only [Bool.and_eq_false_iff, decide_eq_false_iff_not] at hf
    exact nt i ⟨h0, hlt⟩ (.inr ⟨j, ⟨j0, jlt⟩, by omega⟩)
  · simp only [Bool.and_eq_true, decide_eq_true_eq] at ht
    exact ⟨⟨by omega, by omega⟩, ⟨by omega, by omega, upto1 jI ⟨ht.1, by omega⟩⟩, by omega⟩

theorem p_spec_l03Coprime (a n : Int) (hp : 0 ≤ a ∧ 1 ≤ n ∧ n ≤ 1000) : wp_spec_l03Coprime a n (fun y0 => y0 = !decide (1 < gcdI n a)) := by
  unfold wp_spec_l03Coprime
  obtain ⟨h1, h2, h3⟩ := hp
  refine ⟨fun v => 2 ≤ v ∧ v ≤ n + 2 ∧ ∀ d, 2 ≤ d → d < v → ¬ (a % d = 0 ∧ n % d = 0), fun v => (n + 2 - v).toNat, ⟨by omega, by omega, fun d a b => by omega⟩, ?_⟩
  rintro v ⟨v0, v1, vI⟩
  dsimp only
  have st : ¬ (a % v = 0 ∧ n % v = 0) → ∀ d, 2 ≤ d → d < v + 1 → ¬ (a % d = 0 ∧ n % d = 0) := fun hn d d1 d2 => by
    by_cases e : d = v
    · subst e; exact hn
    · exact vI d d1 (by omega)
  refine ⟨fun hlt => ⟨⟨h1, by omega⟩, fun ha => ⟨⟨by omega, by omega⟩, fun hn => ?_, fun hn => ⟨⟨by omega, by omega⟩, ⟨by omega, by omega, st fun h => hn h.2⟩, by omega⟩⟩, fun ha => ⟨⟨by omega, by omega⟩, ⟨by omega, by omega, st fun h => ha h.1⟩, by omega⟩⟩, fun hge => ?_⟩
  · have d1 : v ∣ a := Int.dvd_of_emod_eq_zero ha
    have d2 : v ∣ n := Int.dvd_of_emod_eq_zero hn
    have d3 : v ∣ gcdI n a := Int.dvd_coe_gcd d2 d1
    have d4 : 0 < gcdI n a := by
      have : 0 < Int.gcd n a := Int.gcd_pos_of_ne_zero_left _ (by omega)
      unfold gcdI; omega
    have := Int.le_of_dvd d4 d3
    simp; omega
  · have g1 : gcdI n a ∣ n := Int.gcd_dvd_left ..
    have g2 : gcdI n a ∣ a := Int.gcd_dvd_right ..
    have g3 := Int.le_of_dvd (by omega) g1
    have : ¬ 1 < gcdI n a := fun h => vI _ (by omega) (by omega) ⟨Int.emod_eq_zero_of_dvd g2, Int.emod_eq_zero_of_dvd g1⟩
    simp; omega

theorem p_spec_l03Alexander (n a b : Int) (hp : 1 ≤ n ∧ n ≤ 1000 ∧ 0 ≤ a ∧ a ≤ 1000 ∧ 0 ≤ b ∧ b ≤ 1000) : wp_spec_l03Alexander n a b (fun y0 => y0 = tab n (fun x_ y_ => (b * x_ + a * y_) % n)) := by
  unfold wp_spec_l03Alexander
  obtain ⟨h1, h2, h3, h4, h5, h6⟩ := hp
  refine ⟨fun i o => 0 ≤ i ∧ i ≤ n ∧ o.length = i.toNat ∧ Upto i fun x => el o x = ran n fun y => (b * x + a * y) % n, fun i _ => (n - i).toNat, ⟨by omega, by omega, by simp, upto0⟩, ?_⟩
  rintro i o ⟨i0, i1, il, iI⟩
  dsimp only
  refine ⟨fun ilt => ?_, fun ige => eq_ran (by omega) fun j a b => iI j a (by omega)⟩
  refine ⟨fun j q => 0 ≤ j ∧ j ≤ n ∧ q.length = j.toNat ∧ Upto j fun y => el q y = (b * i + a * y) % n, fun j _ => (n - j).toNat, ⟨by omega, by omega, by simp, upto0⟩, ?_⟩
  rintro j q ⟨j0, j1, jl, jI⟩
  dsimp only
  have m1 := mulA (a := b) (i := i) ⟨h5, h6⟩ ⟨i0, by omega⟩
  have m2 := mulA (a := a) (i := j) ⟨h3, h4⟩ ⟨j0, by omega⟩
  refine ⟨fun jlt => ⟨⟨by omega, by omega⟩, ⟨by omega, by omega⟩, ⟨by omega, by omega⟩, ⟨by omega, by omega⟩, by simp; omega, ⟨by omega, by omega⟩, ⟨by omega, by omega, by simp; omega, app1 (by omega) jI rfl⟩, by omega⟩, fun jge => ?_⟩
  have hq : q = ran n fun y => (b * i + a * y) % n := eq_ran (by omega) fun k a b => jI k a (by omega)
  exact ⟨by simp; omega, ⟨by omega, by omega⟩, ⟨by omega, by omega, by simp; omega, app1 (f := fun x => ran n fun y => (b * x + a * y) % n) (by omega) iI hq⟩, by omega⟩

theorem p_impl_rackBy_1 (x y : Int) (value : Int → Int → Int) (value_D : Int → Int → Prop) (hp : value_D x y ∧ InI (value x y)) : wp_impl_rackBy_1 x y value value_D (fun y0 => y0 = value x y) := ⟨hp.1, rfl⟩
theorem p_impl_rackBy (n : Int) (value : Int → Int → Int) (value_D : Int → Int → Prop) (hp : 0 ≤ n ∧ n ≤ 1000000 ∧ ∀ x_ y_, 0 ≤ x_ → x_ < n → 0 ≤ y_ → y_ < n → value_D x_ y_ ∧ InI (value x_ y_)) : wp_impl_rackBy n value value_D (fun y0 => y0 = tab n value) := ⟨hp, rfl⟩
theorem p_impl_TrivialRack_1 (x y : Int) : wp_impl_TrivialRack_1 x y (fun y0 => y0 = y) := rfl
theorem inR_t {n : Int} (h : (decide (1 ≤ n) && decide (n ≤ 12)) = true) : inR n := by simpa [inR] using h
theorem inR_f {n : Int} (h : (decide (1 ≤ n) && decide (n ≤ 12)) = false) : ¬ inR n := fun h2 => by simp [h2.1, h2.2] at h
theorem p_impl_TrivialRack (n : Int) : wp_impl_TrivialRack n (fun y0 y1 => y0 = TrivT n ∧ y1 = TrivE n) := by
  unfold wp_impl_TrivialRack TrivT TrivE
  refine ⟨fun h => ?_, fun h => ?_⟩
  · rw [if_neg (inR_f h), if_neg (inR_f h)]; exact ⟨rfl, rfl⟩
  · have hn := inR_t h
    rw [if_pos hn, if_pos hn]
    exact ⟨⟨by omega, by omega, fun x y a b c d => ⟨trivial, by dsimp only; omega, by dsimp only; omega⟩⟩, rfl, rfl⟩
set_option maxRecDepth 100000 in
set_option maxHeartbeats 4000000 in
theorem w_spec_l01Index (list : List Int) (n : Int) (Q : Int → Prop) (h : wp_spec_l01Index list n Q) : AF Try.prog 59 [.lst (ints list), ci n] (fun R_ => ∃ y0, Q y0 ∧ R_ = ci y0) := by
  refine AF.ofWQ (af_enter (n := 19) Try.func59 rfl (by rfl) rfl (Nat.le_of_ble_eq_true rfl) ?_)
  unfold wp_spec_l01Index at h
  refine aw_seq ?_
  refine aw_gh (gh_to (n := 19) (σ' := []) (env' := [(0, .c (.lst (ints list))), (1, .c (ci n))]) rfl rfl ⟨rfl, rfl, trivial⟩) ?_
  refine aw_region ?_
  refine run_s (ss_assign rfl) rfl ?_
  refine run_nil ?_
  refine aw_seq ?_
  refine aw_seq ?_
  refine aw_region ?_
  refine run_s (ss_assign rfl) rfl ?_
  refine run_nil ?_
  refine aw_block ?_
  obtain ⟨H1, m1, q1, h⟩ := h
  refine aw_loop1 (fun (v5_1 : Int) => ⟨[], [(0, .c (.lst (ints list))), (1, .c (ci n)), (5, .c (ci v5_1))], 19⟩) H1 m1 ⟨0, ghe_to (n := 19) rfl rfl ⟨rfl, rfl, rfl, trivial⟩, q1⟩ ?_
  rintro v5_1 q1
  replace h := h v5_1 q1
  refine aw_seq ?_
  refine aw_seq ?_
  refine aw_region ?_
  refine run_s (ss_move rfl) rfl ?_
  refine run_s (ss_move rfl) rfl ?_
  refine run_s (ss_lenL (f := ci) rfl) rfl ?_
  refine run_s (ss_lss rfl rfl) rfl ?_
  refine run_nil ?_
  refine aw_cond rfl (fun q2 => ?_) (fun q2 => ?_)
  ·replace h := h.1 (of_decide_eq_true q2)
   refine aw_skip ?_
   refine aw_seq ?_
   refine aw_block ?_
   refine aw_seq ?_
   refine aw_region ?_
   refine run_s (ss_move rfl) rfl ?_
   refine run_s (ss_move rfl) rfl ?_
   obtain ⟨q3, h⟩ := h
   refine run_s (ss_idxL rfl rfl q3) rfl ?_
   refine run_s (ss_loadL (f := ci) rfl q3) rfl ?_
   refine run_s (ss_move rfl) rfl ?_
   refine run_s (ss_eql rfl rfl) rfl ?_
   refine run_nil ?_
   refine aw_cond rfl (fun q4 => ?_) (fun q4 => ?_)
   ·replace h := h.1 (of_decide_eq_true q4)
    refine aw_seq ?_
    refine aw_gh (gh_to (n := 19) (σ' := []) (env' := [(5, .c (ci v5_1))]) rfl rfl ⟨rfl, trivial⟩) ?_
    refine aw_region ?_
    refine run_s (ss_move rfl) rfl ?_
    refine run_s (ss_assign rfl) rfl ?_
    refine run_nil ?_
    refine aw_ret ?_
    exact retAF_mk (retv1 rfl (rv_tmp rfl)) rfl rfl ⟨_, (cle_refl _), _, h, rfl⟩
   ·replace h := h.2 (of_decide_eq_false q4)
    refine aw_skip ?_
    refine aw_gh (gh_to (n := 19) (σ' := []) (env' := [(0, .c (.lst (ints list))), (1, .c (ci n)), (5, .c (ci v5_1))]) rfl rfl ⟨rfl, rfl, rfl, trivial⟩) ?_
    refine aw_region ?_
    refine run_s (ss_move rfl) rfl ?_
    obtain ⟨q5, h⟩ := h
    refine run_s (ss_add rfl rfl q5) rfl ?_
    refine run_s (ss_assign rfl) rfl ?_
    refine run_nil ?_
    exact ⟨v5_1 + 1, ghe_to (n := 19) rfl rfl ⟨rfl, rfl, rfl, trivial⟩, h.1, h.2⟩
  ·replace h := h.2 (of_decide_eq_false q2)
   refine aw_exit ?_
   refine aw_seq ?_
   refine aw_gh (gh_to (n := 19) (σ' := []) (env' := []) rfl rfl trivial) ?_
   refine aw_region ?_
   refine run_s (ss_assign rfl) rfl ?_
   refine run_nil ?_
   refine aw_ret ?_
   exact retAF_mk (retv1 rfl (rv_tmp rfl)) rfl rfl ⟨_, (cle_refl _), _, h, rfl⟩

theorem c_spec_l01Index (list : List Int) (n : Int) (hp : small list) : AF Try.prog 59 [.lst (ints list), ci n] (fun R_ => R_ = ci (idxI list n)) :=
  (w_spec_l01Index list n (fun y0 => y0 = idxI list n) (p_spec_l01Index list n hp)).mono (by rintro r ⟨_, rfl, rfl⟩; rfl)

set_option maxRecDepth 100000 in
set_option maxHeartbeats 4000000 in
theorem w_spec_l01Has (list : List Int) (n : Int) (Q : Bool → Prop) (h : wp_spec_l01Has list n Q) : AF Try.prog 47 [.lst (ints list), ci n] (fun R_ => ∃ y0, Q y0 ∧ R_ = cb y0) := by
  refine AF.ofWQ (af_enter (n := 9) Try.func47 rfl (by rfl) rfl (Nat.le_of_ble_eq_true rfl) ?_)
  unfold wp_spec_l01Has at h
  refine aw_seq ?_
  refine aw_gh (gh_to (n := 9) (σ' := []) (env' := [(0, .c (.lst (ints list))), (1, .c (ci n))]) rfl rfl ⟨rfl, rfl, trivial⟩) ?_
  refine aw_region ?_
  refine run_s (ss_assign rfl) rfl ?_
  refine run_nil ?_
  refine aw_seq ?_
  refine aw_region ?_
  refine run_s (ss_move rfl) rfl ?_
  refine run_s (ss_move rfl) rfl ?_
  obtain ⟨q1, h⟩ := h
  refine run_w (ws_call (xs := [.tmp 5, .tmp 6]) (ids := []) rfl rfl rfl rfl (c_spec_l01Index list n q1) rfl ?_ )
  rintro _ rfl
  refine ⟨rfl, ?_⟩
  refine run_s (ss_geq rfl rfl) rfl ?_
  refine run_s (ss_assign rfl) rfl ?_
  refine run_nil ?_
  refine aw_ret ?_
  exact retAF_mk (retv1 rfl (rv_tmp rfl)) rfl rfl ⟨_, (cle_refl _), _, h, rfl⟩

theorem c_spec_l01Has (list : List Int) (n : Int) (hp : small list) : AF Try.prog 47 [.lst (ints list), ci n] (fun R_ => R_ = cb (list.contains n)) :=
  (w_spec_l01Has list n (fun y0 => y0 = list.contains n) (p_spec_l01Has list n hp)).mono (by rintro r ⟨_, rfl, rfl⟩; rfl)

set_option maxRecDepth 100000 in
set_option maxHeartbeats 4000000 in
theorem w_spec_l01Perm (p : List Int) (Q : Bool → Prop) (h : wp_spec_l01Perm p Q) : AF Try.prog 31 [.lst (ints p)] (fun R_ => ∃ y0, Q y0 ∧ R_ = cb y0) := by
  refine AF.ofWQ (af_enter (n := 19) Try.func31 rfl (by rfl) rfl (Nat.le_of_ble_eq_true rfl) ?_)
  unfold wp_spec_l01Perm at h
  refine aw_seq ?_
  refine aw_gh (gh_to (n := 19) (σ' := []) (env' := [(0, .c (.lst (ints p)))]) rfl rfl ⟨rfl, trivial⟩) ?_
  refine aw_region ?_
  refine run_s (ss_assign rfl) rfl ?_
  refine run_nil ?_
  refine aw_seq ?_
  refine aw_region ?_
  refine run_s (ss_move rfl) rfl ?_
  refine run_s (ss_lenL (f := ci) rfl) rfl ?_
  refine run_s (ss_assign rfl) rfl ?_
  refine run_nil ?_
  refine aw_seq ?_
  refine aw_seq ?_
  refine aw_region ?_
  refine run_s (ss_move rfl) rfl ?_
  refine run_w (ws_call (xs := [.tmp 7, .const (.int .i64 (1)), .const (.int .i64 (12))]) (ids := []) rfl rfl rfl rfl (c_spec_l01In (p.length : Int) 1 12) rfl ?_ )
  rintro _ rfl
  refine ⟨rfl, ?_⟩
  refine run_s (ss_not rfl) rfl ?_
  refine run_nil ?_
  refine aw_cond rfl (fun q2 => ?_) (fun q2 => ?_)
  ·replace h := h.1 ((bnot_t q2))
   refine aw_seq ?_
   refine aw_gh (gh_to (n := 19) (σ' := []) (env' := [(2, .c (cb false))]) rfl rfl ⟨rfl, trivial⟩) ?_
   refine aw_region ?_
   refine run_s (ss_assign rfl) rfl ?_
   refine run_nil ?_
   refine aw_ret ?_
   exact retAF_mk (retv1 rfl (rv_tmp rfl)) rfl rfl ⟨_, (cle_refl _), _, h, rfl⟩
  ·replace h := h.2 ((bnot_f q2))
   refine aw_skip ?_
   refine aw_seq ?_
   refine aw_seq ?_
   refine aw_gh (gh_to (n := 19) (σ' := []) (env' := [(0, .c (.lst (ints p))), (3, .c (ci (p.length : Int)))]) rfl rfl ⟨rfl, rfl, trivial⟩) ?_
   refine aw_region ?_
   refine run_s (ss_assign rfl) rfl ?_
   refine run_nil ?_
   refine aw_block ?_
   obtain ⟨H1, m1, q3, h⟩ := h
   refine aw_loop1 (fun (v4_1 : Int) => ⟨[], [(0, .c (.lst (ints p))), (3, .c (ci (p.length : Int))), (4, .c (ci v4_1))], 19⟩) H1 m1 ⟨0, ghe_to (n := 19) rfl rfl ⟨rfl, rfl, rfl, trivial⟩, q3⟩ ?_
   rintro v4_1 q3
   replace h := h v4_1 q3
   refine aw_seq ?_
   refine aw_seq ?_
   refine aw_region ?_
   refine run_s (ss_move rfl) rfl ?_
   refine run_s (ss_move rfl) rfl ?_
   refine run_s (ss_lss rfl rfl) rfl ?_
   refine run_nil ?_
   refine aw_cond rfl (fun q4 => ?_) (fun q4 => ?_)
   ·replace h := h.1 (of_decide_eq_true q4)
    refine aw_skip ?_
    refine aw_seq ?_
    refine aw_block ?_
    refine aw_seq ?_
    refine aw_region ?_
    refine run_s (ss_move rfl) rfl ?_
    refine run_s (ss_move rfl) rfl ?_
    obtain ⟨q5, h⟩ := h
    refine run_w (ws_call (xs := [.tmp 15, .tmp 16]) (ids := []) rfl rfl rfl rfl (c_spec_l01Has p v4_1 q5) rfl ?_ )
    rintro _ rfl
    refine ⟨rfl, ?_⟩
    refine run_s (ss_not rfl) rfl ?_
    refine run_nil ?_
    refine aw_cond rfl (fun q7 => ?_) (fun q7 => ?_)
    ·replace h := h.1 ((bnot_t q7))
     refine aw_seq ?_
     refine aw_gh (gh_to (n := 19) (σ' := []) (env' := []) rfl rfl trivial) ?_
     refine aw_region ?_
     refine run_s (ss_assign rfl) rfl ?_
     refine run_nil ?_
     refine aw_ret ?_
     exact retAF_mk (retv1 rfl (rv_tmp rfl)) rfl rfl ⟨_, (cle_refl _), _, h, rfl⟩
    ·replace h := h.2 ((bnot_f q7))
     refine aw_skip ?_
     refine aw_gh (gh_to (n := 19) (σ' := []) (env' := [(0, .c (.lst (ints p))), (3, .c (ci (p.length : Int))), (4, .c (ci v4_1))]) rfl rfl ⟨rfl, rfl, rfl, trivial⟩) ?_
     refine aw_region ?_
     refine run_s (ss_move rfl) rfl ?_
     obtain ⟨q8, h⟩ := h
     refine run_s (ss_add rfl rfl q8) rfl ?_
     refine run_s (ss_assign rfl) rfl ?_
     refine run_nil ?_
     exact ⟨v4_1 + 1, ghe_to (n := 19) rfl rfl ⟨rfl, rfl, rfl, trivial⟩, h.1, h.2⟩
   ·replace h := h.2 (of_decide_eq_false q4)
    refine aw_exit ?_
    refine aw_seq ?_
    refine aw_gh (gh_to (n := 19) (σ' := []) (env' := []) rfl rfl trivial) ?_
    refine aw_region ?_
    refine run_s (ss_assign rfl) rfl ?_
    refine run_nil ?_
    refine aw_ret ?_
    exact retAF_mk (retv1 rfl (rv_tmp rfl)) rfl rfl ⟨_, (cle_refl _), _, h, rfl⟩

theorem c_spec_l01Perm (p : List Int) (hp : small p) : AF Try.prog 31 [.lst (ints p)] (fun R_ => R_ = cb (permB p)) :=
  (w_spec_l01Perm p (fun y0 => y0 = permB p) (p_spec_l01Perm p hp)).mono (by rintro r ⟨_, rfl, rfl⟩; rfl)

set_option maxRecDepth 100000 in
set_option maxHeartbeats 4000000 in
theorem w_spec_l01Own (list : List Int) (Q : List Int → Prop) (h : wp_spec_l01Own list Q) : AF Try.prog 33 [.lst (ints list)] (fun R_ => ∃ y0, Q y0 ∧ R_ = .own (ints y0)) := by
  refine AF.ofWQ (af_enter (n := 6) Try.func33 rfl (by rfl) rfl (Nat.le_of_ble_eq_true rfl) ?_)
  unfold wp_spec_l01Own at h
  refine aw_seq ?_
  refine aw_gh (gh_to (n := 6) (σ' := []) (env' := [(0, .c (.lst (ints list)))]) rfl rfl ⟨rfl, trivial⟩) ?_
  refine aw_region ?_
  refine run_s (ss_assign rfl) rfl ?_
  refine run_nil ?_
  refine aw_seq ?_
  refine aw_region ?_
  refine run_w (ws_buildSlice (id := 3) (ps := []) rfl rfl (Nat.le_of_ble_eq_true rfl) rfl ⟨rfl, ?_⟩)
  refine run_s (ss_move rfl) rfl ?_
  obtain ⟨q1, h⟩ := h
  refine run_w (ws_appL ci (l := ([] : List Int)) (m := list) rfl rfl rfl (Nat.le_of_ble_eq_true rfl) q1 ⟨rfl, ?_⟩)
  refine run_s (ss_assign rfl) rfl ?_
  refine run_nil ?_
  refine aw_ret ?_
  exact retAF_mk (retv1 rfl (rv_tmp rfl)) rfl rfl ⟨_, (cle_refl _), _, h, rfl⟩

theorem c_spec_l01Own (list : List Int) (hp : small list) : AF Try.prog 33 [.lst (ints list)] (fun R_ => R_ = .own (ints list)) :=
  (w_spec_l01Own list (fun y0 => y0 = list) (p_spec_l01Own list hp)).mono (by rintro r ⟨_, rfl, rfl⟩; rfl)

set_option maxRecDepth 100000 in
set_option maxHeartbeats 4000000 in
theorem w_spec_l01Table (t : List (List Int)) (Q : Bool → Prop) (h : wp_spec_l01Table t Q) : AF Try.prog 30 [.lst (rows t)] (fun R_ => ∃ y0, Q y0 ∧ R_ = cb y0) := by
  refine AF.ofWQ (af_enter (n := 41) Try.func30 rfl (by rfl) rfl (Nat.le_of_ble_eq_true rfl) ?_)
  unfold wp_spec_l01Table at h
  refine aw_seq ?_
  refine aw_gh (gh_to (n := 41) (σ' := []) (env' := [(0, .c (.lst (rows t)))]) rfl rfl ⟨rfl, trivial⟩) ?_
  refine aw_region ?_
  refine run_s (ss_assign rfl) rfl ?_
  refine run_nil ?_
  refine aw_seq ?_
  refine aw_region ?_
  refine run_s (ss_move rfl) rfl ?_
  refine run_s (ss_lenL (f := (fun r => C.lst (ints r))) rfl) rfl ?_
  refine run_s (ss_assign rfl) rfl ?_
  refine run_nil ?_
  refine aw_seq ?_
  refine aw_seq ?_
  refine aw_region ?_
  refine run_s (ss_move rfl) rfl ?_
  refine run_w (ws_call (xs := [.tmp 8, .const (.int .i64 (1)), .const (.int .i64 (12))]) (ids := []) rfl rfl rfl rfl (c_spec_l01In (t.length : Int) 1 12) rfl ?_ )
  rintro _ rfl
  refine ⟨rfl, ?_⟩
  refine run_s (ss_not rfl) rfl ?_
  refine run_nil ?_
  refine aw_cond rfl (fun q2 => ?_) (fun q2 => ?_)
  ·replace h := h.1 ((bnot_t q2))
   refine aw_seq ?_
   refine aw_gh (gh_to (n := 41) (σ' := []) (env' := [(2, .c (cb false))]) rfl rfl ⟨rfl, trivial⟩) ?_
   refine aw_region ?_
   refine run_s (ss_assign rfl) rfl ?_
   refine run_nil ?_
   refine aw_ret ?_
   exact retAF_mk (retv1 rfl (rv_tmp rfl)) rfl rfl ⟨_, (cle_refl _), _, h, rfl⟩
  ·replace h := h.2 ((bnot_f q2))
   refine aw_skip ?_
   refine aw_seq ?_
   refine aw_seq ?_
   refine aw_gh (gh_to (n := 41) (σ' := []) (env' := [(0, .c (.lst (rows t))), (3, .c (ci (t.length : Int)))]) rfl rfl ⟨rfl, rfl, trivial⟩) ?_
   refine aw_region ?_
   refine run_s (ss_assign rfl) rfl ?_
   refine run_nil ?_
   refine aw_block ?_
   obtain ⟨H1, m1, q3, h⟩ := h
   refine aw_loop1 (fun (v4_1 : Int) => ⟨[], [(0, .c (.lst (rows t))), (3, .c (ci (t.length : Int))), (4, .c (ci v4_1))], 41⟩) H1 m1 ⟨0, ghe_to (n := 41) rfl rfl ⟨rfl, rfl, rfl, trivial⟩, q3⟩ ?_
   rintro v4_1 q3
   replace h := h v4_1 q3
   refine aw_seq ?_
   refine aw_seq ?_
   refine aw_region ?_
   refine run_s (ss_move rfl) rfl ?_
   refine run_s (ss_move rfl) rfl ?_
   refine run_s (ss_lenL (f := (fun r => C.lst (ints r))) rfl) rfl ?_
   refine run_s (ss_lss rfl rfl) rfl ?_
   refine run_nil ?_
   refine aw_cond rfl (fun q4 => ?_) (fun q4 => ?_)
   ·replace h := h.1 (of_decide_eq_true q4)
    refine aw_skip ?_
    refine aw_seq ?_
    refine aw_block ?_
    refine aw_seq ?_
    refine aw_seq ?_
    refine aw_region ?_
    refine run_s (ss_move rfl) rfl ?_
    refine run_s (ss_move rfl) rfl ?_
    obtain ⟨q5, h⟩ := h
    refine run_s (ss_idxL rfl rfl q5) rfl ?_
    refine run_s (ss_loadL (f := (fun r => C.lst (ints r))) rfl q5) rfl ?_
    refine run_s (ss_lenL (f := ci) rfl) rfl ?_
    refine run_s (ss_move rfl) rfl ?_
    refine run_s (ss_neq rfl rfl) rfl ?_
    refine run_nil ?_
    refine aw_cond rfl (fun q6 => ?_) (fun q6 => ?_)
    ·replace h := h.1 (of_decide_eq_false (bnot_t q6))
     refine aw_seq ?_
     refine aw_gh (gh_to (n := 41) (σ' := []) (env' := []) rfl rfl trivial) ?_
     refine aw_region ?_
     refine run_s (ss_assign rfl) rfl ?_
     refine run_nil ?_
     refine aw_ret ?_
     exact retAF_mk (retv1 rfl (rv_tmp rfl)) rfl rfl ⟨_, (cle_refl _), _, h, rfl⟩
    ·replace h := h.2 (of_decide_eq_true (bnot_f q6))
     refine aw_skip ?_
     refine aw_seq ?_
     refine aw_gh (gh_to (n := 41) (σ' := []) (env' := [(0, .c (.lst (rows t))), (3, .c (ci (t.length : Int))), (4, .c (ci v4_1))]) rfl rfl ⟨rfl, rfl, rfl, trivial⟩) ?_
     refine aw_region ?_
     refine run_s (ss_assign rfl) rfl ?_
     refine run_nil ?_
     refine aw_block ?_
     obtain ⟨H2, m2, q7, h⟩ := h
     refine aw_loop1 (fun (v5_2 : Int) => ⟨[], [(0, .c (.lst (rows t))), (3, .c (ci (t.length : Int))), (4, .c (ci v4_1)), (5, .c (ci v5_2))], 41⟩) H2 m2 ⟨0, ghe_to (n := 41) rfl rfl ⟨rfl, rfl, rfl, rfl, trivial⟩, q7⟩ ?_
     rintro v5_2 q7
     replace h := h v5_2 q7
     refine aw_seq ?_
     refine aw_seq ?_
     refine aw_region ?_
     refine run_s (ss_move rfl) rfl ?_
     refine run_s (ss_move rfl) rfl ?_
     refine run_s (ss_lenL (f := (fun r => C.lst (ints r))) rfl) rfl ?_
     refine run_s (ss_lss rfl rfl) rfl ?_
     refine run_nil ?_
     refine aw_cond rfl (fun q8 => ?_) (fun q8 => ?_)
     ·replace h := h.1 (of_decide_eq_true q8)
      refine aw_skip ?_
      refine aw_seq ?_
      refine aw_block ?_
      refine aw_seq ?_
      refine aw_region ?_
      refine run_s (ss_move rfl) rfl ?_
      refine run_s (ss_move rfl) rfl ?_
      obtain ⟨q9, h⟩ := h
      refine run_s (ss_idxL rfl rfl q9) rfl ?_
      refine run_s (ss_loadL (f := (fun r => C.lst (ints r))) rfl q9) rfl ?_
      refine run_s (ss_move rfl) rfl ?_
      obtain ⟨q10, h⟩ := h
      refine run_s (ss_idxL rfl rfl q10) rfl ?_
      refine run_s (ss_loadL (f := ci) rfl q10) rfl ?_
      refine run_s (ss_move rfl) rfl ?_
      obtain ⟨q11, h⟩ := h
      refine run_s (ss_sub rfl rfl q11) rfl ?_
      refine run_w (ws_call (xs := [.tmp 36, .const (.int .i64 (0)), .tmp 38]) (ids := []) rfl rfl rfl rfl (c_spec_l01In (el (el t v4_1) v5_2) 0 ((t.length : Int) - 1)) rfl ?_ )
      rintro _ rfl
      refine ⟨rfl, ?_⟩
      refine run_s (ss_not rfl) rfl ?_
      refine run_nil ?_
      refine aw_cond rfl (fun q13 => ?_) (fun q13 => ?_)
      ·replace h := h.1 ((bnot_t q13))
       refine aw_seq ?_
       refine aw_gh (gh_to (n := 41) (σ' := []) (env' := []) rfl rfl trivial) ?_
       refine aw_region ?_
       refine run_s (ss_assign rfl) rfl ?_
       refine run_nil ?_
       refine aw_ret ?_
       exact retAF_mk (retv1 rfl (rv_tmp rfl)) rfl rfl ⟨_, (cle_refl _), _, h, rfl⟩
      ·replace h := h.2 ((bnot_f q13))
       refine aw_skip ?_
       refine aw_gh (gh_to (n := 41) (σ' := []) (env' := [(0, .c (.lst (rows t))), (3, .c (ci (t.length : Int))), (4, .c (ci v4_1)), (5, .c (ci v5_2))]) rfl rfl ⟨rfl, rfl, rfl, rfl, trivial⟩) ?_
       refine aw_region ?_
       refine run_s (ss_move rfl) rfl ?_
       obtain ⟨q14, h⟩ := h
       refine run_s (ss_add rfl rfl q14) rfl ?_
       refine run_s (ss_assign rfl) rfl ?_
       refine run_nil ?_
       exact ⟨v5_2 + 1, ghe_to (n := 41) rfl rfl ⟨rfl, rfl, rfl, rfl, trivial⟩, h.1, h.2⟩
     ·replace h := h.2 (of_decide_eq_false q8)
      refine aw_exit ?_
      refine aw_gh (gh_to (n := 41) (σ' := []) (env' := [(0, .c (.lst (rows t))), (3, .c (ci (t.length : Int))), (4, .c (ci v4_1))]) rfl rfl ⟨rfl, rfl, rfl, trivial⟩) ?_
      refine aw_region ?_
      refine run_s (ss_move rfl) rfl ?_
      obtain ⟨q15, h⟩ := h
      refine run_s (ss_add rfl rfl q15) rfl ?_
      refine run_s (ss_assign rfl) rfl ?_
      refine run_nil ?_
      exact ⟨v4_1 + 1, ghe_to (n := 41) rfl rfl ⟨rfl, rfl, rfl, trivial⟩, h.1, h.2⟩
   ·replace h := h.2 (of_decide_eq_false q4)
    refine aw_exit ?_
    refine aw_seq ?_
    refine aw_gh (gh_to (n := 41) (σ' := []) (env' := []) rfl rfl trivial) ?_
    refine aw_region ?_
    refine run_s (ss_assign rfl) rfl ?_
    refine run_nil ?_
    refine aw_ret ?_
    exact retAF_mk (retv1 rfl (rv_tmp rfl)) rfl rfl ⟨_, (cle_refl _), _, h, rfl⟩

theorem c_spec_l01Table (t : List (List Int)) (hp : small2 t) : AF Try.prog 30 [.lst (rows t)] (fun R_ => R_ = cb (isTab t)) :=
  (w_spec_l01Table t (fun y0 => y0 = isTab t) (p_spec_l01Table t hp)).mono (by rintro r ⟨_, rfl, rfl⟩; rfl)

set_option maxRecDepth 100000 in
set_option maxHeartbeats 4000000 in
theorem w_spec_l03Coprime (a : Int) (n : Int) (Q : Bool → Prop) (h : wp_spec_l03Coprime a n Q) : AF Try.prog 52 [ci a, ci n] (fun R_ => ∃ y0, Q y0 ∧ R_ = cb y0) := by
  refine AF.ofWQ (af_enter (n := 21) Try.func52 rfl (by rfl) rfl (Nat.le_of_ble_eq_true rfl) ?_)
  unfold wp_spec_l03Coprime at h
  refine aw_seq ?_
  refine aw_gh (gh_to (n := 21) (σ' := []) (env' := [(0, .c (ci a)), (1, .c (ci n))]) rfl rfl ⟨rfl, rfl, trivial⟩) ?_
  refine aw_region ?_
  refine run_s (ss_assign rfl) rfl ?_
  refine run_nil ?_
  refine aw_seq ?_
  refine aw_seq ?_
  refine aw_region ?_
  refine run_s (ss_assign rfl) rfl ?_
  refine run_nil ?_
  refine aw_block ?_
  obtain ⟨H1, m1, q1, h⟩ := h
  refine aw_loop1 (fun (v5_1 : Int) => ⟨[], [(0, .c (ci a)), (1, .c (ci n)), (5, .c (ci v5_1))], 21⟩) H1 m1 ⟨2, ghe_to (n := 21) rfl rfl ⟨rfl, rfl, rfl, trivial⟩, q1⟩ ?_
  rintro v5_1 q1
  replace h := h v5_1 q1
  refine aw_seq ?_
  refine aw_seq ?_
  refine aw_region ?_
  refine run_s (ss_move rfl) rfl ?_
  refine run_s (ss_move rfl) rfl ?_
  refine run_s (ss_leq rfl rfl) rfl ?_
  refine run_nil ?_
  refine aw_cond rfl (fun q2 => ?_) (fun q2 => ?_)
  ·replace h := h.1 (of_decide_eq_true q2)
   refine aw_skip ?_
   refine aw_seq ?_
   refine aw_block ?_
   refine aw_seq ?_
   refine aw_region ?_
   refine run_s (ss_move rfl) rfl ?_
   refine run_s (ss_move rfl) rfl ?_
   obtain ⟨q3, h⟩ := h
   refine run_s (ss_rem rfl rfl q3) rfl ?_
   refine run_s (ss_eql rfl rfl) rfl ?_
   refine run_s (ss_move rfl) rfl ?_
   refine run_split (s := 15) rfl (fun q4 => ?_) (fun q4 => ?_)
   ·replace h := h.1 (of_decide_eq_true q4)
    refine run_gt rfl rfl q4 ?_
    refine run_s (ss_move rfl) rfl ?_
    refine run_gt rfl rfl q4 ?_
    refine run_s (ss_move rfl) rfl ?_
    refine run_gt rfl rfl q4 ?_
    obtain ⟨q5, h⟩ := h
    refine run_s (ss_rem rfl rfl q5) rfl ?_
    refine run_gt rfl rfl q4 ?_
    refine run_s (ss_eql rfl rfl) rfl ?_
    refine run_s (ss_pickT rfl q4 rfl) rfl ?_
    refine run_nil ?_
    refine aw_cond rfl (fun q6 => ?_) (fun q6 => ?_)
    ·replace h := h.1 (of_decide_eq_true q6)
     refine aw_seq ?_
     refine aw_gh (gh_to (n := 21) (σ' := []) (env' := []) rfl rfl trivial) ?_
     refine aw_region ?_
     refine run_s (ss_assign rfl) rfl ?_
     refine run_nil ?_
     refine aw_ret ?_
     exact retAF_mk (retv1 rfl (rv_tmp rfl)) rfl rfl ⟨_, (cle_refl _), _, h, rfl⟩
    ·replace h := h.2 (of_decide_eq_false q6)
     refine aw_skip ?_
     refine aw_gh (gh_to (n := 21) (σ' := []) (env' := [(0, .c (ci a)), (1, .c (ci n)), (5, .c (ci v5_1)), (16, .c (ci n)), (17, .c (ci v5_1)), (18, .c (ci (n % v5_1))), (19, .c (cb (decide (n % v5_1 = 0))))]) rfl rfl ⟨rfl, rfl, rfl, rfl, rfl, rfl, rfl, trivial⟩) ?_
     refine aw_region ?_
     refine run_s (ss_move rfl) rfl ?_
     obtain ⟨q7, h⟩ := h
     refine run_s (ss_add rfl rfl q7) rfl ?_
     refine run_s (ss_assign rfl) rfl ?_
     refine run_nil ?_
     exact ⟨v5_1 + 1, ghe_to (n := 21) rfl rfl ⟨rfl, rfl, rfl, trivial⟩, h.1, h.2⟩
   ·replace h := h.2 (of_decide_eq_false q4)
    refine run_gf rfl rfl q4 rfl ?_
    refine run_gf rfl rfl q4 rfl ?_
    refine run_gf rfl rfl q4 rfl ?_
    refine run_gf rfl rfl q4 rfl ?_
    refine run_s (ss_pickF rfl q4 rfl) rfl ?_
    refine run_nil ?_
    refine aw_cond rfl (fun q8 => ?_) (fun q8 => ?_)
    ·cases q8
    ·skip
     refine aw_skip ?_
     refine aw_gh (gh_to (n := 21) (σ' := []) (env' := [(0, .c (ci a)), (1, .c (ci n)), (5, .c (ci v5_1))]) rfl rfl ⟨rfl, rfl, rfl, trivial⟩) ?_
     refine aw_region ?_
     refine run_s (ss_move rfl) rfl ?_
     obtain ⟨q9, h⟩ := h
     refine run_s (ss_add rfl rfl q9) rfl ?_
     refine run_s (ss_assign rfl) rfl ?_
     refine run_nil ?_
     exact ⟨v5_1 + 1, ghe_to (n := 21) rfl rfl ⟨rfl, rfl, rfl, trivial⟩, h.1, h.2⟩
  ·replace h := h.2 (of_decide_eq_false q2)
   refine aw_exit ?_
   refine aw_seq ?_
   refine aw_gh (gh_to (n := 21) (σ' := []) (env' := []) rfl rfl trivial) ?_
   refine aw_region ?_
   refine run_s (ss_assign rfl) rfl ?_
   refine run_nil ?_
   refine aw_ret ?_
   exact retAF_mk (retv1 rfl (rv_tmp rfl)) rfl rfl ⟨_, (cle_refl _), _, h, rfl⟩

theorem c_spec_l03Coprime (a : Int) (n : Int) (hp : 0 ≤ a ∧ 1 ≤ n ∧ n ≤ 1000) : AF Try.prog 52 [ci a, ci n] (fun R_ => R_ = cb (!decide (1 < gcdI n a))) :=
  (w_spec_l03Coprime a n (fun y0 => y0 = !decide (1 < gcdI n a)) (p_spec_l03Coprime a n hp)).mono (by rintro r ⟨_, rfl, rfl⟩; rfl)

set_option maxRecDepth 100000 in
set_option maxHeartbeats 4000000 in
theorem w_spec_l03Alexander (n : Int) (a : Int) (b : Int) (Q : List (List Int) → Prop) (h : wp_spec_l03Alexander n a b Q) : AF Try.prog 51 [ci n, ci a, ci b] (fun R_ => ∃ y0, Q y0 ∧ R_ = .own (orows y0)) := by
  refine AF.ofWQ (af_enter (n := 40) Try.func51 rfl (by rfl) rfl (Nat.le_of_ble_eq_true rfl) ?_)
  unfold wp_spec_l03Alexander at h
  refine aw_seq ?_
  refine aw_gh (gh_to (n := 40) (σ' := []) (env' := [(0, .c (ci n)), (1, .c (ci a)), (2, .c (ci b))]) rfl rfl ⟨rfl, rfl, rfl, trivial⟩) ?_
  refine aw_region ?_
  refine run_s (ss_assign rfl) rfl ?_
  refine run_nil ?_
  refine aw_seq ?_
  refine aw_region ?_
  refine run_w (ws_buildSlice (id := 11) (ps := []) rfl rfl (Nat.le_of_ble_eq_true rfl) rfl ⟨rfl, ?_⟩)
  refine run_s (ss_assign rfl) rfl ?_
  refine run_nil ?_
  refine aw_seq ?_
  refine aw_seq ?_
  refine aw_region ?_
  refine run_s (ss_assign rfl) rfl ?_
  refine run_nil ?_
  refine aw_block ?_
  obtain ⟨H1, m1, q1, h⟩ := h
  refine aw_loop2 (fun (v8_1 : Int) (o11_1 : List (List Int)) => ⟨[(11, ⟨orows o11_1, []⟩)], [(0, .c (ci n)), (1, .c (ci a)), (2, .c (ci b)), (7, .ref 11), (8, .c (ci v8_1))], 40⟩) H1 m1 ⟨0, ([] : List (List Int)), ghe_to (n := 40) rfl rfl ⟨rfl, rfl, rfl, rfl, rfl, trivial⟩, q1⟩ ?_
  rintro v8_1 o11_1 q1
  replace h := h v8_1 o11_1 q1
  refine aw_seq ?_
  refine aw_seq ?_
  refine aw_region ?_
  refine run_s (ss_move rfl) rfl ?_
  refine run_s (ss_move rfl) rfl ?_
  refine run_s (ss_lss rfl rfl) rfl ?_
  refine run_nil ?_
  refine aw_cond rfl (fun q2 => ?_) (fun q2 => ?_)
  ·replace h := h.1 (of_decide_eq_true q2)
   refine aw_skip ?_
   refine aw_seq ?_
   refine aw_block ?_
   refine aw_seq ?_
   refine aw_region ?_
   refine run_w (ws_buildSlice (id := 17) (ps := []) rfl rfl (Nat.le_of_ble_eq_true rfl) rfl ⟨rfl, ?_⟩)
   refine run_s (ss_assign rfl) rfl ?_
   refine run_nil ?_
   refine aw_seq ?_
   refine aw_seq ?_
   refine aw_gh (gh_to (n := 40) (σ' := [(17, ⟨ints ([] : List Int), []⟩), (11, ⟨orows o11_1, []⟩)]) (env' := [(0, .c (ci n)), (1, .c (ci a)), (2, .c (ci b)), (7, .ref 11), (8, .c (ci v8_1)), (9, .ref 17)]) rfl rfl ⟨rfl, rfl, rfl, rfl, rfl, rfl, trivial⟩) ?_
   refine aw_region ?_
   refine run_s (ss_assign rfl) rfl ?_
   refine run_nil ?_
   refine aw_block ?_
   obtain ⟨H2, m2, q3, h⟩ := h
   refine aw_loop2 (fun (v10_2 : Int) (o17_2 : List Int) => ⟨[(17, ⟨ints o17_2, []⟩), (11, ⟨orows o11_1, []⟩)], [(0, .c (ci n)), (1, .c (ci a)), (2, .c (ci b)), (7, .ref 11), (8, .c (ci v8_1)), (9, .ref 17), (10, .c (ci v10_2))], 40⟩) H2 m2 ⟨0, ([] : List Int), ghe_to (n := 40) rfl rfl ⟨rfl, rfl, rfl, rfl, rfl, rfl, rfl, trivial⟩, q3⟩ ?_
   rintro v10_2 o17_2 q3
   replace h := h v10_2 o17_2 q3
   refine aw_seq ?_
   refine aw_seq ?_
   refine aw_region ?_
   refine run_s (ss_move rfl) rfl ?_
   refine run_s (ss_move rfl) rfl ?_
   refine run_s (ss_lss rfl rfl) rfl ?_
   refine run_nil ?_
   refine aw_cond rfl (fun q4 => ?_) (fun q4 => ?_)
   ·replace h := h.1 (of_decide_eq_true q4)
    refine aw_skip ?_
    refine aw_seq ?_
    refine aw_block ?_
    refine aw_region ?_
    refine run_s (ss_move rfl) rfl ?_
    refine run_s (ss_move rfl) rfl ?_
    refine run_s (ss_move rfl) rfl ?_
    obtain ⟨q5, h⟩ := h
    refine run_s (ss_mul rfl rfl q5) rfl ?_
    refine run_s (ss_move rfl) rfl ?_
    refine run_s (ss_move rfl) rfl ?_
    obtain ⟨q6, h⟩ := h
    refine run_s (ss_mul rfl rfl q6) rfl ?_
    obtain ⟨q7, h⟩ := h
    refine run_s (ss_add rfl rfl q7) rfl ?_
    refine run_s (ss_move rfl) rfl ?_
    obtain ⟨q8, h⟩ := h
    refine run_s (ss_rem rfl rfl q8) rfl ?_
    refine run_w (ws_buildSlice (id := 33) (ps := [(0, .tmp 32)]) rfl rfl (Nat.le_of_ble_eq_true rfl) rfl ⟨rfl, ?_⟩)
    obtain ⟨q9, h⟩ := h
    refine run_w (ws_app1 ci (l := o17_2) (m := [((b * v8_1) + (a * v10_2)) % n]) rfl rfl rfl rfl rfl (Nat.le_of_ble_eq_true rfl) q9 ⟨rfl, ?_⟩)
    refine run_s (ss_assign rfl) rfl ?_
    refine run_nil ?_
    refine aw_gh (gh_to (n := 40) (σ' := [(17, ⟨ints (o17_2 ++ ([((b * v8_1) + (a * v10_2)) % n])), []⟩), (11, ⟨orows o11_1, []⟩)]) (env' := [(0, .c (ci n)), (1, .c (ci a)), (2, .c (ci b)), (7, .ref 11), (8, .c (ci v8_1)), (9, .ref 17), (10, .c (ci v10_2))]) rfl rfl ⟨rfl, rfl, rfl, rfl, rfl, rfl, rfl, trivial⟩) ?_
    refine aw_region ?_
    refine run_s (ss_move rfl) rfl ?_
    obtain ⟨q10, h⟩ := h
    refine run_s (ss_add rfl rfl q10) rfl ?_
    refine run_s (ss_assign rfl) rfl ?_
    refine run_nil ?_
    exact ⟨v10_2 + 1, o17_2 ++ ([((b * v8_1) + (a * v10_2)) % n]), ghe_to (n := 40) rfl rfl ⟨rfl, rfl, rfl, rfl, rfl, rfl, rfl, trivial⟩, h.1, h.2⟩
   ·replace h := h.2 (of_decide_eq_false q4)
    refine aw_exit ?_
    refine aw_region ?_
    refine run_s (ss_move rfl) rfl ?_
    refine run_s (ss_move rfl) rfl ?_
    refine run_w (ws_buildSlice (id := 37) (ps := [(0, .tmp 36)]) rfl rfl (Nat.le_of_ble_eq_true rfl) rfl ⟨rfl, ?_⟩)
    refine run_gh (gh_fill (id := 37) (id2 := 17) (j := 0) rfl rfl (Nat.le_of_ble_eq_true rfl) rfl rfl rfl) ?_
    obtain ⟨q11, h⟩ := h
    refine run_w (ws_app1 (fun r => C.own (ints r)) (l := o11_1) (m := [o17_2]) rfl rfl rfl rfl rfl (Nat.le_of_ble_eq_true rfl) q11 ⟨rfl, ?_⟩)
    refine run_s (ss_assign rfl) rfl ?_
    refine run_nil ?_
    refine aw_gh (gh_to (n := 40) (σ' := [(11, ⟨orows (o11_1 ++ ([o17_2])), []⟩)]) (env' := [(0, .c (ci n)), (1, .c (ci a)), (2, .c (ci b)), (7, .ref 11), (8, .c (ci v8_1))]) rfl rfl ⟨rfl, rfl, rfl, rfl, rfl, trivial⟩) ?_
    refine aw_region ?_
    refine run_s (ss_move rfl) rfl ?_
    obtain ⟨q12, h⟩ := h
    refine run_s (ss_add rfl rfl q12) rfl ?_
    refine run_s (ss_assign rfl) rfl ?_
    refine run_nil ?_
    exact ⟨v8_1 + 1, o11_1 ++ ([o17_2]), ghe_to (n := 40) rfl rfl ⟨rfl, rfl, rfl, rfl, rfl, trivial⟩, h.1, h.2⟩
  ·replace h := h.2 (of_decide_eq_false q2)
   refine aw_exit ?_
   refine aw_seq ?_
   refine aw_gh (gh_to (n := 40) (σ' := [(11, ⟨orows o11_1, []⟩)]) (env' := [(7, .ref 11)]) rfl rfl ⟨rfl, trivial⟩) ?_
   refine aw_region ?_
   refine run_s (ss_move rfl) rfl ?_
   refine run_s (ss_assign rfl) rfl ?_
   refine run_nil ?_
   refine aw_ret ?_
   exact retAF_mk (retv1 rfl (rv_tmp rfl)) rfl rfl ⟨_, (cle_refl _), _, h, rfl⟩

theorem c_spec_l03Alexander (n : Int) (a : Int) (b : Int) (hp : 1 ≤ n ∧ n ≤ 1000 ∧ 0 ≤ a ∧ a ≤ 1000 ∧ 0 ≤ b ∧ b ≤ 1000) : AF Try.prog 51 [ci n, ci a, ci b] (fun R_ => R_ = .own (orows (tab n (fun x_ y_ => (b * x_ + a * y_) % n)))) :=
  (w_spec_l03Alexander n a b (fun y0 => y0 = tab n (fun x_ y_ => (b * x_ + a * y_) % n)) (p_spec_l03Alexander n a b hp)).mono (by rintro r ⟨_, rfl, rfl⟩; rfl)

set_option maxRecDepth 100000 in
set_option maxHeartbeats 4000000 in
theorem w_impl_rackBy_1 (x : Int) (y : Int) (value_g : Nat) (value_c : List C) (value : Int → Int → Int) (value_D : Int → Int → Prop) (value_h : ∀ x0 x1, value_D x0 x1 → AF Try.prog value_g ([ci x0, ci x1] ++ value_c) (fun R_ => R_ = ci (value x0 x1))) (Q : Int → Prop) (h : wp_impl_rackBy_1 x y value value_D Q) : AF Try.prog 36 [ci x, ci y, .ptr [.clo value_g value_c]] (fun R_ => ∃ y0, Q y0 ∧ R_ = ci y0) := by
  refine AF.ofWQ (af_enter (n := 10) Try.func36 rfl (by rfl) rfl (Nat.le_of_ble_eq_true rfl) ?_)
  unfold wp_impl_rackBy_1 at h
  refine aw_seq ?_
  refine aw_gh (gh_to (n := 10) (σ' := []) (env' := [(0, .c (ci x)), (1, .c (ci y)), (2, .c (.ptr [.clo value_g value_c]))]) rfl rfl ⟨rfl, rfl, rfl, trivial⟩) ?_
  refine aw_region ?_
  refine run_s (ss_assign rfl) rfl ?_
  refine run_nil ?_
  refine aw_seq ?_
  refine aw_region ?_
  refine run_s (ss_load_ptr rfl rfl) rfl ?_
  refine run_s (ss_move rfl) rfl ?_
  refine run_s (ss_move rfl) rfl ?_
  obtain ⟨q1, h⟩ := h
  refine run_w (ws_call (xs := [.tmp 7, .tmp 8]) (ids := []) rfl rfl rfl rfl (value_h x y q1) rfl ?_ )
  rintro _ rfl
  refine ⟨rfl, ?_⟩
  refine run_s (ss_assign rfl) rfl ?_
  refine run_nil ?_
  refine aw_ret ?_
  exact retAF_mk (retv1 rfl (rv_tmp rfl)) rfl rfl ⟨_, (cle_refl _), _, h, rfl⟩

theorem c_impl_rackBy_1 (x : Int) (y : Int) (value_g : Nat) (value_c : List C) (value : Int → Int → Int) (value_D : Int → Int → Prop) (value_h : ∀ x0 x1, value_D x0 x1 → AF Try.prog value_g ([ci x0, ci x1] ++ value_c) (fun R_ => R_ = ci (value x0 x1))) (hp : value_D x y ∧ InI (value x y)) : AF Try.prog 36 [ci x, ci y, .ptr [.clo value_g value_c]] (fun R_ => R_ = ci (value x y)) :=
  (w_impl_rackBy_1 x y value_g value_c value value_D value_h (fun y0 => y0 = value x y) (p_impl_rackBy_1 x y value value_D hp)).mono (by rintro r ⟨_, rfl, rfl⟩; rfl)

set_option maxRecDepth 100000 in
set_option maxHeartbeats 4000000 in
theorem w_impl_rackBy (n : Int) (value_g : Nat) (value_c : List C) (value : Int → Int → Int) (value_D : Int → Int → Prop) (value_h : ∀ x0 x1, value_D x0 x1 → AF Try.prog value_g ([ci x0, ci x1] ++ value_c) (fun R_ => R_ = ci (value x0 x1))) (Q : List (List Int) → Prop) (h : wp_impl_rackBy n value value_D Q) : AF Try.prog 19 [ci n, .clo value_g value_c] (fun R_ => ∃ y0, Q y0 ∧ R_ = .agg [.own (orows y0)]) := by
  refine AF.ofWQ (af_enter (n := 9) Try.func19 rfl (by rfl) rfl (Nat.le_of_ble_eq_true rfl) ?_)
  unfold wp_impl_rackBy at h
  refine aw_seq ?_
  refine aw_gh (gh_to (n := 9) (σ' := []) (env' := [(0, .c (ci n)), (1, .c (.clo value_g value_c))]) rfl rfl ⟨rfl, rfl, trivial⟩) ?_
  refine aw_region ?_
  refine run_w (ws_boxR rfl (.inr rfl) rfl ⟨rfl, ?_⟩)
  refine run_w (ws_alloc (id := 4) rfl (Nat.le_of_ble_eq_true rfl) ⟨rfl, ?_⟩)
  refine run_nil ?_
  refine aw_seq ?_
  refine aw_region ?_
  refine run_s (ss_move rfl) rfl ?_
  refine run_s (ss_makeFunc (os := [.tmp 3]) rfl) rfl ?_
  obtain ⟨q1, h⟩ := h
  refine run_w (ws_call (xs := [.tmp 5, .tmp 6]) (ids := [7]) rfl rfl rfl rfl (c_impl_tableBy n 36 [.ptr [.clo value_g value_c]] (fun z0 z1 => value z0 z1) (fun z0 z1 => value_D z0 z1 ∧ InI (value z0 z1)) (fun z0 z1 hD => c_impl_rackBy_1 z0 z1 value_g value_c value value_D value_h hD) q1) rfl ?_ )
  rintro _ rfl
  refine ⟨rfl, ?_⟩
  refine run_s (ss_build (ps := [(0, .tmp 7)]) rfl rfl) rfl ?_
  refine run_w (ws_storeS rfl rfl (Nat.le_of_ble_eq_true rfl) rfl rfl rfl ⟨rfl, ?_⟩)
  refine run_nil ?_
  refine aw_ret ?_
  exact retAF_mk (retv1 rfl (rv_struct rfl rfl rfl)) rfl rfl ⟨_, (cle_refl _), _, h, rfl⟩

theorem c_impl_rackBy (n : Int) (value_g : Nat) (value_c : List C) (value : Int → Int → Int) (value_D : Int → Int → Prop) (value_h : ∀ x0 x1, value_D x0 x1 → AF Try.prog value_g ([ci x0, ci x1] ++ value_c) (fun R_ => R_ = ci (value x0 x1))) (hp : 0 ≤ n ∧ n ≤ 1000000 ∧ ∀ x_ y_, 0 ≤ x_ → x_ < n → 0 ≤ y_ → y_ < n → value_D x_ y_ ∧ InI (value x_ y_)) : AF Try.prog 19 [ci n, .clo value_g value_c] (fun R_ => R_ = .agg [.own (orows (tab n value))]) :=
  (w_impl_rackBy n value_g value_c value value_D value_h (fun y0 => y0 = tab n value) (p_impl_rackBy n value value_D hp)).mono (by rintro r ⟨_, rfl, rfl⟩; rfl)

set_option maxRecDepth 100000 in
set_option maxHeartbeats 4000000 in
theorem w_impl_TrivialRack_1 (x : Int) (y : Int) (Q : Int → Prop) (h : wp_impl_TrivialRack_1 x y Q) : AF Try.prog 20 [ci x, ci y] (fun R_ => ∃ y0, Q y0 ∧ R_ = ci y0) := by
  refine AF.ofWQ (af_enter (n := 6) Try.func20 rfl (by rfl) rfl (Nat.le_of_ble_eq_true rfl) ?_)
  unfold wp_impl_TrivialRack_1 at h
  refine aw_seq ?_
  refine aw_gh (gh_to (n := 6) (σ' := []) (env' := [(1, .c (ci y))]) rfl rfl ⟨rfl, trivial⟩) ?_
  refine aw_region ?_
  refine run_s (ss_assign rfl) rfl ?_
  refine run_nil ?_
  refine aw_seq ?_
  refine aw_region ?_
  refine run_s (ss_move rfl) rfl ?_
  refine run_s (ss_assign rfl) rfl ?_
  refine run_nil ?_
  refine aw_ret ?_
  exact retAF_mk (retv1 rfl (rv_tmp rfl)) rfl rfl ⟨_, (cle_refl _), _, h, rfl⟩

theorem c_impl_TrivialRack_1 (x : Int) (y : Int)  : AF Try.prog 20 [ci x, ci y] (fun R_ => R_ = ci y) :=
  (w_impl_TrivialRack_1 x y (fun y0 => y0 = y) (p_impl_TrivialRack_1 x y)).mono (by rintro r ⟨_, rfl, rfl⟩; rfl)

set_option maxRecDepth 100000 in
set_option maxHeartbeats 4000000 in
theorem w_impl_TrivialRack (n : Int) (Q : List (List Int) → Int → Prop) (h : wp_impl_TrivialRack n Q) : AF Try.prog 8 [ci n] (fun R_ => ∃ y0 y1, Q y0 y1 ∧ R_ = .tup [.agg [.own (orows y0)], ci y1]) := by
  refine AF.ofWQ (af_enter (n := 10) Try.func8 rfl (by rfl) rfl (Nat.le_of_ble_eq_true rfl) ?_)
  unfold wp_impl_TrivialRack at h
  refine aw_seq ?_
  refine aw_gh (gh_to (n := 10) (σ' := []) (env' := [(0, .c (ci n))]) rfl rfl ⟨rfl, trivial⟩) ?_
  refine aw_region ?_
  refine run_w (ws_alloc (id := 2) rfl (Nat.le_of_ble_eq_true rfl) ⟨rfl, ?_⟩)
  refine run_s (ss_assign rfl) rfl ?_
  refine run_nil ?_
  refine aw_seq ?_
  refine aw_seq ?_
  refine aw_region ?_
  refine run_s (ss_move rfl) rfl ?_
  refine run_w (ws_call (xs := [.tmp 4, .const (.int .i64 (1)), .const (.int .i64 (12))]) (ids := []) rfl rfl rfl rfl (c_impl_within n 1 12) rfl ?_ )
  rintro _ rfl
  refine ⟨rfl, ?_⟩
  refine run_s (ss_not rfl) rfl ?_
  refine run_nil ?_
  refine aw_cond rfl (fun q2 => ?_) (fun q2 => ?_)
  ·replace h := h.1 ((bnot_t q2))
   refine aw_seq ?_
   refine aw_gh (gh_to (n := 10) (σ' := [(2, ⟨[cnil], []⟩)]) (env' := [(2, .cell 2 0), (3, .c (ci 0))]) rfl rfl ⟨rfl, rfl, trivial⟩) ?_
   refine aw_region ?_
   refine run_s (ss_build0) rfl ?_
   refine run_w (ws_storeS rfl rfl (Nat.le_of_ble_eq_true rfl) rfl rfl rfl ⟨rfl, ?_⟩)
   refine run_s (ss_assign rfl) rfl ?_
   refine run_nil ?_
   refine aw_ret ?_
   exact retAF_mk (retv2 rfl (rv_struct rfl rfl rfl) (rv_tmp rfl)) rfl rfl ⟨_, (cle_tup (cleL_cons (cle_agg (cleL_cons cle_nilO cleL_nil)) (cleL_cons (cle_refl _) cleL_nil))), _, _, h, rfl⟩
  ·replace h := h.2 ((bnot_f q2))
   refine aw_skip ?_
   refine aw_seq ?_
   refine aw_region ?_
   refine run_s (ss_move rfl) rfl ?_
   obtain ⟨q3, h⟩ := h
   refine run_w (ws_call (xs := [.tmp 8, .func 20]) (ids := [9]) rfl rfl rfl rfl (c_impl_rackBy n 20 [] (fun z0 z1 => z1) (fun z0 z1 => True) (fun z0 z1 hD => c_impl_TrivialRack_1 z0 z1) q3) rfl ?_ )
   rintro _ rfl
   refine ⟨rfl, ?_⟩
   refine run_w (ws_storeS rfl rfl (Nat.le_of_ble_eq_true rfl) rfl rfl rfl ⟨rfl, ?_⟩)
   refine run_s (ss_assign rfl) rfl ?_
   refine run_nil ?_
   refine aw_ret ?_
   exact retAF_mk (retv2 rfl (rv_struct rfl rfl rfl) (rv_tmp rfl)) rfl rfl ⟨_, (cle_refl _), _, _, h, rfl⟩

theorem c_impl_TrivialRack (n : Int)  : AF Try.prog 8 [ci n] (fun R_ => R_ = .tup [.agg [.own (orows (TrivT n))], ci (TrivE n)]) :=
  (w_impl_TrivialRack n (fun y0 y1 => y0 = TrivT n ∧ y1 = TrivE n) (p_impl_TrivialRack n)).mono (by rintro r ⟨_, _, ⟨rfl, rfl⟩, rfl⟩; rfl)

end Go.Proofs.Ytjolbldlhjfciaa

/- Contracts of functions that the law FnAffineCycles reaches: conditions, plain proofs, walks; no condition. -/
import Derived.Test.YtjolbldlhjfciaaDoorTy
import Derived.Test.YtjolbldlhjfciaaDoorSh
import Derived.Test.YtjolbldlhjfciaaDoorSx
import Derived.Test.YtjolbldlhjfciaaDoorSj
import Derived.Test.YtjolbldlhjfciaaDoorPP
namespace Go.Proofs.YtjolbldlhjfciaaDoor

def wp_impl_within (n : Int) (low : Int) (high : Int) (Q : Bool → Prop) : Prop :=
 ((low ≤ n →
 Q (decide (n ≤ high))) ∧
 (¬ (low ≤ n) →
 Q false))

def wp_spec_l01In (n : Int) (low : Int) (high : Int) (Q : Bool → Prop) : Prop :=
 ((low ≤ n →
 Q (decide (n ≤ high))) ∧
 (¬ (low ≤ n) →
 Q false))

def wp_impl_allWithin (l : List Int) (low : Int) (high : Int) (Q : Bool → Prop) : Prop :=
 ∃ (H1 : Int → Prop) (m1 : Int → Nat),
 H1 0 ∧
 ∀ (v11_1 : Int), H1 v11_1 →
 ( ((v11_1 < (l.length : Int) →
 (0 ≤ v11_1 ∧ v11_1 < (l.length : Int)) ∧
 (((decide (low ≤ (el l v11_1)) && decide ((el l v11_1) ≤ high)) = false →
 Q false) ∧
 ((decide (low ≤ (el l v11_1)) && decide ((el l v11_1) ≤ high)) = true →
 (InI (v11_1 + 1)) ∧
 (H1 (v11_1 + 1) ∧ m1 (v11_1 + 1) < m1 v11_1)))) ∧
 (¬ (v11_1 < (l.length : Int)) →
 Q true)))

def wp_impl_isPermuted (p : List Int) (Q : Bool → Prop) : Prop :=
 (0 ≤ (p.length : Int) ∧ (p.length : Int) ≤ 1000000000) ∧
 ∃ (H1 : Int → List Bool → Prop) (m1 : Int → List Bool → Nat),
 H1 0 (List.replicate (p.length : Int).toNat false) ∧
 ∀ (v11_1 : Int) (o8_1 : List Bool), H1 v11_1 o8_1 →
 ( ((v11_1 < (p.length : Int) →
 (0 ≤ v11_1 ∧ v11_1 < (p.length : Int)) ∧
 (InI ((p.length : Int) - 1)) ∧
 (((decide ((0 : Int) ≤ (el p v11_1)) && decide ((el p v11_1) ≤ ((p.length : Int) - 1))) = false →
 Q false) ∧
 ((decide ((0 : Int) ≤ (el p v11_1)) && decide ((el p v11_1) ≤ ((p.length : Int) - 1))) = true →
 (0 ≤ el p v11_1 ∧ el p v11_1 < (o8_1.length : Int)) ∧
 (((el o8_1 (el p v11_1)) = true →
 Q false) ∧
 ((el o8_1 (el p v11_1)) = false →
 (0 ≤ el p v11_1 ∧ el p v11_1 < (o8_1.length : Int)) ∧
 (InI (v11_1 + 1)) ∧
 (H1 (v11_1 + 1) (se o8_1 (el p v11_1) true) ∧ m1 (v11_1 + 1) (se o8_1 (el p v11_1) true) < m1 v11_1 o8_1)))))) ∧
 (¬ (v11_1 < (p.length : Int)) →
 Q true)))

def wp_k_IndexFunc_rows (t : List (List Int)) (f : List Int → Bool) (f_D : List Int → Prop) (Q : Int → Prop) : Prop :=
 ∃ (H1 : Int → Prop) (m1 : Int → Nat),
 H1 0 ∧
 ∀ (v8_1 : Int), H1 v8_1 →
 ( ((v8_1 < (t.length : Int) →
 (0 ≤ v8_1 ∧ v8_1 < (t.length : Int)) ∧
 (f_D (el t v8_1)) ∧
 (((f (el t v8_1)) = true →
 Q v8_1) ∧
 ((f (el t v8_1)) = false →
 (InI (v8_1 + 1)) ∧
 (H1 (v8_1 + 1) ∧ m1 (v8_1 + 1) < m1 v8_1)))) ∧
 (¬ (v8_1 < (t.length : Int)) →
 Q (-1))))

def wp_k_ContainsFunc_rows (t : List (List Int)) (f : List Int → Bool) (f_D : List Int → Prop) (Q : Bool → Prop) : Prop :=
 (small t ∧ ∀ r_ ∈ t, f_D r_) ∧
 Q (decide (0 ≤ idxF t f))

def wp_impl_IsTable_1 (row : List Int) (n : Int) (Q : Bool → Prop) : Prop :=
 ((¬ ((row.length : Int) = n) →
 Q true) ∧
 ((row.length : Int) = n →
 (InI (n - 1)) ∧
 (small row) ∧
 Q (!((row.all (fun z_ => decide ((0 : Int) ≤ z_) && decide (z_ ≤ (n - 1))))))))

def wp_impl_IsTable (t : List (List Int)) (Q : Bool → Prop) : Prop :=
 (((decide ((1 : Int) ≤ (t.length : Int)) && decide ((t.length : Int) ≤ (12 : Int))) = true →
 (small t ∧ ∀ r_ ∈ t, (fun z0 => small z0 ∧ 0 ≤ (t.length : Int) ∧ (t.length : Int) ≤ 12) r_) ∧
 Q (!((t.any (fun z0 => badRow (t.length : Int) z0))))) ∧
 ((decide ((1 : Int) ≤ (t.length : Int)) && decide ((t.length : Int) ≤ (12 : Int))) = false →
 Q false))

def wp_impl_squaresOf (c : List (List Int)) (Q : List Int → Prop) : Prop :=
 (0 ≤ (c.length : Int) ∧ (c.length : Int) ≤ 1000000000) ∧
 ∃ (H1 : Int → List Int → Prop) (m1 : Int → List Int → Nat),
 H1 0 (List.replicate (c.length : Int).toNat (0 : Int)) ∧
 ∀ (v11_1 : Int) (o8_1 : List Int), H1 v11_1 o8_1 →
 ( ((v11_1 < ((List.replicate (c.length : Int).toNat (0 : Int)).length : Int) →
 (0 ≤ v11_1 ∧ v11_1 < (c.length : Int)) ∧
 (0 ≤ v11_1 ∧ v11_1 < ((el c v11_1).length : Int)) ∧
 (0 ≤ v11_1 ∧ v11_1 < (o8_1.length : Int)) ∧
 (InI (v11_1 + 1)) ∧
 (H1 (v11_1 + 1) (se o8_1 v11_1 (el (el c v11_1) v11_1)) ∧ m1 (v11_1 + 1) (se o8_1 v11_1 (el (el c v11_1) v11_1)) < m1 v11_1 o8_1)) ∧
 (¬ (v11_1 < ((List.replicate (c.length : Int).toNat (0 : Int)).length : Int)) →
 Q o8_1)))

def wp_impl_tableBy (n : Int) (value : Int → Int → Int) (value_D : Int → Int → Prop) (Q : List (List Int) → Prop) : Prop :=
 (0 ≤ n ∧ n ≤ 1000000000) ∧
 ∃ (H1 : Int → List (List Int) → Prop) (m1 : Int → List (List Int) → Nat),
 H1 0 (List.replicate n.toNat ([] : List Int)) ∧
 ∀ (v12_1 : Int) (o9_1 : List (List Int)), H1 v12_1 o9_1 →
 ( ((v12_1 < ((List.replicate n.toNat ([] : List Int)).length : Int) →
 (0 ≤ n ∧ n ≤ 1000000000) ∧
 (0 ≤ v12_1 ∧ v12_1 < (o9_1.length : Int)) ∧
 (0 ≤ v12_1 ∧ v12_1 < (o9_1.length : Int)) ∧
 ∃ (H2 : Int → List Int → Prop) (m2 : Int → List Int → Nat),
 H2 0 (List.replicate n.toNat (0 : Int)) ∧
 ∀ (v25_2 : Int) (o18_2 : List Int), H2 v25_2 o18_2 →
 ( ((v25_2 < ((List.replicate n.toNat (0 : Int)).length : Int) →
 (0 ≤ v12_1 ∧ v12_1 < (o9_1.length : Int)) ∧
 (value_D v12_1 v25_2) ∧
 (0 ≤ v25_2 ∧ v25_2 < (o18_2.length : Int)) ∧
 (InI (v25_2 + 1)) ∧
 (H2 (v25_2 + 1) (se o18_2 v25_2 (value v12_1 v25_2)) ∧ m2 (v25_2 + 1) (se o18_2 v25_2 (value v12_1 v25_2)) < m2 v25_2 o18_2)) ∧
 (¬ (v25_2 < ((List.replicate n.toNat (0 : Int)).length : Int)) →
 (InI (v12_1 + 1)) ∧
 (0 ≤ v12_1 ∧ v12_1 < (o9_1.length : Int)) ∧
 (H1 (v12_1 + 1) (se o9_1 v12_1 o18_2) ∧ m1 (v12_1 + 1) (se o9_1 v12_1 o18_2) < m1 v12_1 o9_1))))) ∧
 (¬ (v12_1 < ((List.replicate n.toNat ([] : List Int)).length : Int)) →
 Q o9_1)))

theorem p_impl_within (n low high : Int) : wp_impl_within n low high (fun y0 => y0 = (decide (low ≤ n) && decide (n ≤ high))) := by
  unfold wp_impl_within
  exact ⟨fun h => by simp [h], fun h => by simp [h]⟩
theorem p_spec_l01In (n low high : Int) : wp_spec_l01In n low high (fun y0 => y0 = (decide (low ≤ n) && decide (n ≤ high))) := p_impl_within n low high

theorem p_impl_allWithin (l : List Int) (low high : Int) (hp : small l) : wp_impl_allWithin l low high (fun y0 => y0 = l.all (fun z_ => decide (low ≤ z_) && decide (z_ ≤ high))) := by
  unfold wp_impl_allWithin
  refine ⟨fun i => 0 ≤ i ∧ i ≤ (l.length : Int) ∧ Upto i fun j => (decide (low ≤ el l j) && decide (el l j ≤ high)) = true, fun i => ((l.length : Int) - i).toNat, ⟨by omega, by omega, upto0⟩, ?_⟩
  rintro i ⟨h0, h1, hI⟩
  dsimp only
  refine ⟨fun hlt => ⟨⟨h0, hlt⟩, fun hf => (all_f ⟨h0, hlt⟩ hf).symm, fun ht => ⟨⟨by omega, by omega⟩, ⟨by omega, by omega, upto1 hI ht⟩, by omega⟩⟩, fun hge => ?_⟩
  exact (all_t (by rwa [show i = (l.length : Int) by omega] at hI)).symm

theorem p_impl_isPermuted (p : List Int) (hp : small p) : wp_impl_isPermuted p (fun y0 => y0 = isPerm p) := by
  unfold wp_impl_isPermuted
  refine ⟨⟨by omega, hp⟩, fun i o => 0 ≤ i ∧ i ≤ (p.length : Int) ∧ o.length = p.length ∧ (Upto i fun j => (0 ≤ el p j ∧ el p j < (p.length : Int)) ∧ Upto j fun k => el p k ≠ el p j) ∧ (∀ x, 0 ≤ x → x < (p.length : Int) → (el o x = true ↔ ∃ j, (0 ≤ j ∧ j < i) ∧ el p j = x)), fun i _ => ((p.length : Int) - i).toNat,
    ⟨by omega, by omega, by simp, upto0, fun x h0 h1 => ?_⟩, ?_⟩
  · rw [el_rep ⟨h0, by omega⟩]; simp; intro j h2 h3; omega
  rintro i o ⟨h0, h1, hl, hI, hS⟩
  dsimp only
  refine ⟨fun hlt => ⟨⟨h0, hlt⟩, ⟨by omega, by omega⟩, fun hf => ?_, fun ht => ?_⟩, fun hge => ?_⟩
  · refine (decide_eq_false ?_).symm
    rintro ⟨_, h3⟩
    have := h3 _ (el_mem ⟨h0, hlt⟩)
    simp only [Bool.and_eq_false_iff, decide_eq_false_iff_not] at hf
    omega
  · simp only [Bool.and_eq_true, decide_eq_true_eq] at ht
    refine ⟨⟨by omega, by omega⟩, fun hs => ?_, fun hs => ⟨⟨by omega, by omega⟩, ⟨by omega, by omega⟩, ⟨by omega, by omega, by simp [hl], upto1 hI ⟨⟨ht.1, by omega⟩, fun k h2 h3 he => ?_⟩, fun x h2 h3 => ?_⟩, by omega⟩⟩
    · refine (decide_eq_false ?_).symm
      rintro ⟨h3, _⟩
      obtain ⟨j, hj, he⟩ := (hS _ ht.1 (by omega)).1 hs
      exact nodup_el.1 h3 j i hj.1 hj.2 hlt he
    · rw [(hS _ ht.1 (by omega)).2 ⟨k, ⟨h2, h3⟩, he⟩] at hs; cases hs
    · by_cases e : x = el p i
      · subst e
        rw [el_se_same ⟨h2, by omega⟩]
        exact ⟨fun _ => ⟨i, ⟨h0, by omega⟩, rfl⟩, fun _ => rfl⟩
      · rw [el_se_ne ht.1 h2 (Ne.symm e), hS x h2 h3]
        exact ⟨fun ⟨j, hj, he⟩ => ⟨j, ⟨hj.1, by omega⟩, he⟩, fun ⟨j, hj, he⟩ => ⟨j, ⟨hj.1, by
          by_cases e2 : j = i
          · subst e2; exact absurd he.symm e
          · omega⟩, he⟩⟩
  · refine (decide_eq_true ⟨nodup_el.2 fun a b h2 h3 h4 => (hI b (by omega) (by omega)).2 a h2 h3, fun x hx => ?_⟩).symm
    obtain ⟨j, hj, rfl⟩ := mem_el hx
    exact (hI j hj.1 (by omega)).1

theorem p_k_IndexFunc_rows (t : List (List Int)) (f : List Int → Bool) (f_D : List Int → Prop) (hp : small t ∧ ∀ r ∈ t, f_D r) : wp_k_IndexFunc_rows t f f_D (fun y0 => y0 = idxF t f) := by
  unfold wp_k_IndexFunc_rows
  obtain ⟨ht, hD⟩ := hp
  refine ⟨fun i => 0 ≤ i ∧ i ≤ (t.length : Int) ∧ Upto i fun j => f (el t j) = false, fun i => ((t.length : Int) - i).toNat, ⟨by omega, by omega, upto0⟩, ?_⟩
  rintro i ⟨h0, h1, hI⟩
  dsimp only
  refine ⟨fun hlt => ⟨⟨h0, hlt⟩, hD _ (el_mem ⟨h0, hlt⟩), fun hf => (idxF_found ⟨h0, hlt⟩ hI hf).symm, fun ht => ⟨⟨by omega, by omega⟩, ⟨by omega, by omega, upto1 hI ht⟩, by omega⟩⟩, fun hge => ?_⟩
  exact (idxF_none (by rwa [show i = (t.length : Int) by omega] at hI)).symm
theorem p_k_ContainsFunc_rows (t : List (List Int)) (f : List Int → Bool) (f_D : List Int → Prop) (hp : small t ∧ ∀ r ∈ t, f_D r) : wp_k_ContainsFunc_rows t f f_D (fun y0 => y0 = t.any f) := ⟨hp, idxF_nonneg⟩
theorem p_impl_IsTable_1 (row : List Int) (n : Int) (hp : small row ∧ 0 ≤ n ∧ n ≤ 12) : wp_impl_IsTable_1 row n (fun y0 => y0 = badRow n row) := by
  unfold wp_impl_IsTable_1 badRow
  exact ⟨fun h => by simp [h], fun h => ⟨⟨by omega, by omega⟩, hp.1, by simp [h]⟩⟩
theorem p_impl_IsTable (t : List (List Int)) (hp : small2 t) : wp_impl_IsTable t (fun y0 => y0 = isTab t) := by
  unfold wp_impl_IsTable isTab
  refine ⟨fun h => ⟨⟨hp.1, fun r hr => ⟨hp.2 r hr, ?_⟩⟩, ?_⟩, fun h => ?_⟩
  · simp only [Bool.and_eq_true, decide_eq_true_eq] at h; omega
  · rw [h]; rfl
  · rw [h]; rfl
theorem p_impl_squaresOf (c : List (List Int)) (hp : isTab c = true) : wp_impl_squaresOf c (fun y0 => y0 = diag c) := by
  unfold wp_impl_squaresOf
  have hn := isTab_len hp
  simp only [List.length_replicate]
  refine ⟨⟨by omega, by omega⟩, fun i o => 0 ≤ i ∧ i ≤ (c.length : Int) ∧ o.length = c.length ∧ Upto i fun j => el o j = el (el c j) j, fun i _ => ((c.length : Int) - i).toNat, ⟨by omega, by omega, by simp, upto0⟩, ?_⟩
  rintro i o ⟨h0, h1, hl, hI⟩
  dsimp only
  refine ⟨fun hlt => ?_, fun hge => eq_ran (by omega) fun j h2 h3 => hI j h2 (by omega)⟩
  have hr := isTab_row hp (i := i) ⟨h0, by omega⟩
  exact ⟨⟨h0, by omega⟩, ⟨h0, by omega⟩, ⟨h0, by omega⟩, ⟨by omega, by omega⟩, ⟨by omega, by omega, by simp [hl], fill1 (f := fun j => el (el c j) j) ⟨h0, by omega⟩ hI rfl⟩, by omega⟩
theorem p_impl_tableBy (n : Int) (value : Int → Int → Int) (value_D : Int → Int → Prop) (hp : 0 ≤ n ∧ n ≤ 1000000 ∧ ∀ x y, 0 ≤ x → x < n → 0 ≤ y → y < n → value_D x y) : wp_impl_tableBy n value value_D (fun y0 => y0 = tab n value) := by
  unfold wp_impl_tableBy
  obtain ⟨hn0, hn1, hD⟩ := hp
  simp only [List.length_replicate]
  refine ⟨⟨by omega, by omega⟩, fun i o => 0 ≤ i ∧ i ≤ n ∧ o.length = n.toNat ∧ Upto i fun j => el o j = ran n (value j), fun i _ => (n - i).toNat, ⟨by omega, by omega, by simp, upto0⟩, ?_⟩
  rintro i o ⟨h0, h1, hl, hI⟩
  dsimp only
  refine ⟨fun hlt => ⟨⟨by omega, by omega⟩, ⟨h0, by omega⟩, ⟨h0, by omega⟩, ?_⟩, fun hge => eq_ran hl fun j h2 h3 => hI j h2 (by omega)⟩
  refine ⟨fun k q => 0 ≤ k ∧ k ≤ n ∧ q.length = n.toNat ∧ Upto k fun j => el q j = value i j, fun k _ => (n - k).toNat, ⟨by omega, by omega, by simp, upto0⟩, ?_⟩
  rintro k q ⟨k0, k1, kl, kI⟩
  dsimp only
  refine ⟨fun klt => ⟨⟨h0, by omega⟩, hD i k h0 (by omega) k0 (by omega), ⟨k0, by omega⟩, ⟨by omega, by omega⟩, ⟨by omega, by omega, by simp [kl], fill1 ⟨k0, by omega⟩ kI rfl⟩, by omega⟩, fun kge => ?_⟩
  have hq : q = ran n (value i) := eq_ran kl fun j h2 h3 => kI j h2 (by omega)
  exact ⟨⟨by omega, by omega⟩, ⟨h0, by omega⟩, ⟨by omega, by omega, by simp [hl], fill1 (f := fun j => ran n (value j)) ⟨h0, by omega⟩ hI hq⟩, by omega⟩

set_option maxRecDepth 100000 in
set_option maxHeartbeats 4000000 in
theorem w_impl_within (n : Int) (low : Int) (high : Int) (Q : Bool → Prop) (h : wp_impl_within n low high Q) : AF Tryd.prog 15 [ci n, ci low, ci high] (fun R_ => ∃ y0, Q y0 ∧ R_ = cb y0) := by
  refine AF.ofWQ (af_enter (n := 15) Tryd.func15 rfl (by rfl) rfl (Nat.le_of_ble_eq_true rfl) ?_)
  unfold wp_impl_within at h
  refine aw_seq ?_
  refine aw_gh (gh_to (n := 15) (σ' := []) (env' := [(0, .c (ci n)), (1, .c (ci low)), (2, .c (ci high))]) rfl rfl ⟨rfl, rfl, rfl, trivial⟩) ?_
  refine aw_region ?_
  refine run_s (ss_assign rfl) rfl ?_
  refine run_nil ?_
  refine aw_seq ?_
  refine aw_region ?_
  refine run_s (ss_move rfl) rfl ?_
  refine run_s (ss_move rfl) rfl ?_
  refine run_s (ss_geq rfl rfl) rfl ?_
  refine run_s (ss_move rfl) rfl ?_
  refine run_split (s := 10) rfl (fun q1 => ?_) (fun q1 => ?_)
  ·replace h := h.1 (of_decide_eq_true q1)
   refine run_gt rfl rfl q1 ?_
   refine run_s (ss_move rfl) rfl ?_
   refine run_gt rfl rfl q1 ?_
   refine run_s (ss_move rfl) rfl ?_
   refine run_gt rfl rfl q1 ?_
   refine run_s (ss_leq rfl rfl) rfl ?_
   refine run_s (ss_pickT rfl q1 rfl) rfl ?_
   refine run_s (ss_assign rfl) rfl ?_
   refine run_nil ?_
   refine aw_ret ?_
   exact retAF_mk (retv1 rfl (rv_tmp rfl)) rfl rfl ⟨_, (cle_refl _), _, h, rfl⟩
  ·replace h := h.2 (of_decide_eq_false q1)
   refine run_gf rfl rfl q1 rfl ?_
   refine run_gf rfl rfl q1 rfl ?_
   refine run_gf rfl rfl q1 rfl ?_
   refine run_s (ss_pickF rfl q1 rfl) rfl ?_
   refine run_s (ss_assign rfl) rfl ?_
   refine run_nil ?_
   refine aw_ret ?_
   exact retAF_mk (retv1 rfl (rv_tmp rfl)) rfl rfl ⟨_, (cle_refl _), _, h, rfl⟩

theorem c_impl_within (n : Int) (low : Int) (high : Int)  : AF Tryd.prog 15 [ci n, ci low, ci high] (fun R_ => R_ = cb (decide (low ≤ n) && decide (n ≤ high))) :=
  (w_impl_within n low high (fun y0 => y0 = (decide (low ≤ n) && decide (n ≤ high))) (p_impl_within n low high)).mono (by rintro r ⟨_, rfl, rfl⟩; rfl)

set_option maxRecDepth 100000 in
set_option maxHeartbeats 4000000 in
theorem w_spec_l01In (n : Int) (low : Int) (high : Int) (Q : Bool → Prop) (h : wp_spec_l01In n low high Q) : AF Tryd.prog 18 [ci n, ci low, ci high] (fun R_ => ∃ y0, Q y0 ∧ R_ = cb y0) := by
  refine AF.ofWQ (af_enter (n := 15) Tryd.func18 rfl (by rfl) rfl (Nat.le_of_ble_eq_true rfl) ?_)
  unfold wp_spec_l01In at h
  refine aw_seq ?_
  refine aw_gh (gh_to (n := 15) (σ' := []) (env' := [(0, .c (ci n)), (1, .c (ci low)), (2, .c (ci high))]) rfl rfl ⟨rfl, rfl, rfl, trivial⟩) ?_
  refine aw_region ?_
  refine run_s (ss_assign rfl) rfl ?_
  refine run_nil ?_
  refine aw_seq ?_
  refine aw_region ?_
  refine run_s (ss_move rfl) rfl ?_
  refine run_s (ss_move rfl) rfl ?_
  refine run_s (ss_geq rfl rfl) rfl ?_
  refine run_s (ss_move rfl) rfl ?_
  refine run_split (s := 10) rfl (fun q1 => ?_) (fun q1 => ?_)
  ·replace h := h.1 (of_decide_eq_true q1)
   refine run_gt rfl rfl q1 ?_
   refine run_s (ss_move rfl) rfl ?_
   refine run_gt rfl rfl q1 ?_
   refine run_s (ss_move rfl) rfl ?_
   refine run_gt rfl rfl q1 ?_
   refine run_s (ss_leq rfl rfl) rfl ?_
   refine run_s (ss_pickT rfl q1 rfl) rfl ?_
   refine run_s (ss_assign rfl) rfl ?_
   refine run_nil ?_
   refine aw_ret ?_
   exact retAF_mk (retv1 rfl (rv_tmp rfl)) rfl rfl ⟨_, (cle_refl _), _, h, rfl⟩
  ·replace h := h.2 (of_decide_eq_false q1)
   refine run_gf rfl rfl q1 rfl ?_
   refine run_gf rfl rfl q1 rfl ?_
   refine run_gf rfl rfl q1 rfl ?_
   refine run_s (ss_pickF rfl q1 rfl) rfl ?_
   refine run_s (ss_assign rfl) rfl ?_
   refine run_nil ?_
   refine aw_ret ?_
   exact retAF_mk (retv1 rfl (rv_tmp rfl)) rfl rfl ⟨_, (cle_refl _), _, h, rfl⟩

theorem c_spec_l01In (n : Int) (low : Int) (high : Int)  : AF Tryd.prog 18 [ci n, ci low, ci high] (fun R_ => R_ = cb (decide (low ≤ n) && decide (n ≤ high))) :=
  (w_spec_l01In n low high (fun y0 => y0 = (decide (low ≤ n) && decide (n ≤ high))) (p_spec_l01In n low high)).mono (by rintro r ⟨_, rfl, rfl⟩; rfl)

set_option maxRecDepth 100000 in
set_option maxHeartbeats 4000000 in
theorem w_impl_allWithin (l : List Int) (low : Int) (high : Int) (Q : Bool → Prop) (h : wp_impl_allWithin l low high Q) : AF Tryd.prog 39 [.lst (ints l), ci low, ci high] (fun R_ => ∃ y0, Q y0 ∧ R_ = cb y0) := by
  refine AF.ofWQ (af_enter (n := 21) Tryd.func39 rfl (by rfl) rfl (Nat.le_of_ble_eq_true rfl) ?_)
  unfold wp_impl_allWithin at h
  refine aw_seq ?_
  refine aw_gh (gh_to (n := 21) (σ' := []) (env' := [(0, .c (.lst (ints l))), (1, .c (ci low)), (2, .c (ci high))]) rfl rfl ⟨rfl, rfl, rfl, trivial⟩) ?_
  refine aw_region ?_
  refine run_s (ss_assign rfl) rfl ?_
  refine run_nil ?_
  refine aw_seq ?_
  refine aw_seq ?_
  refine aw_region ?_
  refine run_s (ss_move rfl) rfl ?_
  refine run_s (ss_lenL (f := ci) rfl) rfl ?_
  refine run_s (ss_move rfl) rfl ?_
  refine run_nil ?_
  refine aw_block ?_
  obtain ⟨H1, m1, q1, h⟩ := h
  refine aw_loop1 (fun (v11_1 : Int) => ⟨[], [(1, .c (ci low)), (2, .c (ci high)), (9, .c (.lst (ints l))), (10, .c (ci (l.length : Int))), (11, .c (ci v11_1))], 21⟩) H1 m1 ⟨0, ghe_to (n := 21) rfl rfl ⟨rfl, rfl, rfl, rfl, rfl, trivial⟩, q1⟩ ?_
  rintro v11_1 q1
  replace h := h v11_1 q1
  refine aw_seq ?_
  refine aw_region ?_
  refine run_s (ss_lss rfl rfl) rfl ?_
  refine run_nil ?_
  refine aw_seq ?_
  refine aw_cond rfl (fun q2 => ?_) (fun q2 => ?_)
  ·replace h := h.1 (of_decide_eq_true q2)
   refine aw_skip ?_
   refine aw_seq ?_
   refine aw_block ?_
   refine aw_seq ?_
   refine aw_region ?_
   obtain ⟨q3, h⟩ := h
   refine run_s (ss_idxL rfl rfl q3) rfl ?_
   refine run_s (ss_loadL (f := ci) rfl q3) rfl ?_
   refine run_s (ss_assign rfl) rfl ?_
   refine run_nil ?_
   refine aw_seq ?_
   refine aw_region ?_
   refine run_s (ss_move rfl) rfl ?_
   refine run_s (ss_move rfl) rfl ?_
   refine run_s (ss_move rfl) rfl ?_
   refine run_w (ws_call (xs := [.tmp 15, .tmp 16, .tmp 17]) (ids := []) rfl rfl rfl rfl (c_impl_within (el l v11_1) low high) rfl ?_ )
   rintro _ rfl
   refine ⟨rfl, ?_⟩
   refine run_s (ss_not rfl) rfl ?_
   refine run_nil ?_
   refine aw_cond rfl (fun q5 => ?_) (fun q5 => ?_)
   ·replace h := h.1 ((bnot_t q5))
    refine aw_seq ?_
    refine aw_gh (gh_to (n := 21) (σ' := []) (env' := []) rfl rfl trivial) ?_
    refine aw_region ?_
    refine run_s (ss_assign rfl) rfl ?_
    refine run_nil ?_
    refine aw_ret ?_
    exact retAF_mk (retv1 rfl (rv_tmp rfl)) rfl rfl ⟨_, (cle_refl _), _, h, rfl⟩
   ·replace h := h.2 ((bnot_f q5))
    refine aw_skip ?_
    refine aw_gh (gh_to (n := 21) (σ' := []) (env' := [(1, .c (ci low)), (2, .c (ci high)), (9, .c (.lst (ints l))), (10, .c (ci (l.length : Int))), (11, .c (ci v11_1))]) rfl rfl ⟨rfl, rfl, rfl, rfl, rfl, trivial⟩) ?_
    refine aw_region ?_
    obtain ⟨q6, h⟩ := h
    refine run_s (ss_add rfl rfl q6) rfl ?_
    refine run_s (ss_move rfl) rfl ?_
    refine run_nil ?_
    exact ⟨v11_1 + 1, ghe_to (n := 21) rfl rfl ⟨rfl, rfl, rfl, rfl, rfl, trivial⟩, h.1, h.2⟩
  ·replace h := h.2 (of_decide_eq_false q2)
   refine aw_exit ?_
   refine aw_seq ?_
   refine aw_gh (gh_to (n := 21) (σ' := []) (env' := []) rfl rfl trivial) ?_
   refine aw_region ?_
   refine run_s (ss_assign rfl) rfl ?_
   refine run_nil ?_
   refine aw_ret ?_
   exact retAF_mk (retv1 rfl (rv_tmp rfl)) rfl rfl ⟨_, (cle_refl _), _, h, rfl⟩

theorem c_impl_allWithin (l : List Int) (low : Int) (high : Int) (hp : small l) : AF Tryd.prog 39 [.lst (ints l), ci low, ci high] (fun R_ => R_ = cb (l.all (fun z_ => decide (low ≤ z_) && decide (z_ ≤ high)))) :=
  (w_impl_allWithin l low high (fun y0 => y0 = l.all (fun z_ => decide (low ≤ z_) && decide (z_ ≤ high))) (p_impl_allWithin l low high hp)).mono (by rintro r ⟨_, rfl, rfl⟩; rfl)

set_option maxRecDepth 100000 in
set_option maxHeartbeats 4000000 in
theorem w_impl_isPermuted (p : List Int) (Q : Bool → Prop) (h : wp_impl_isPermuted p Q) : AF Tryd.prog 26 [.lst (ints p)] (fun R_ => ∃ y0, Q y0 ∧ R_ = cb y0) := by
  refine AF.ofWQ (af_enter (n := 31) Tryd.func26 rfl (by rfl) rfl (Nat.le_of_ble_eq_true rfl) ?_)
  unfold wp_impl_isPermuted at h
  refine aw_seq ?_
  refine aw_gh (gh_to (n := 31) (σ' := []) (env' := [(0, .c (.lst (ints p)))]) rfl rfl ⟨rfl, trivial⟩) ?_
  refine aw_region ?_
  refine run_s (ss_assign rfl) rfl ?_
  refine run_nil ?_
  refine aw_seq ?_
  refine aw_region ?_
  refine run_s (ss_move rfl) rfl ?_
  refine run_s (ss_lenL (f := ci) rfl) rfl ?_
  obtain ⟨q1, h⟩ := h
  refine run_w (ws_mk (id := 8) cb false rfl rfl rfl q1 (Nat.le_of_ble_eq_true rfl) rfl ⟨rfl, ?_⟩)
  refine run_s (ss_assign rfl) rfl ?_
  refine run_nil ?_
  refine aw_seq ?_
  refine aw_seq ?_
  refine aw_region ?_
  refine run_s (ss_move rfl) rfl ?_
  refine run_s (ss_lenL (f := ci) rfl) rfl ?_
  refine run_s (ss_move rfl) rfl ?_
  refine run_nil ?_
  refine aw_block ?_
  obtain ⟨H1, m1, q2, h⟩ := h
  refine aw_loop2 (fun (v11_1 : Int) (o8_1 : List Bool) => ⟨[(8, ⟨bools o8_1, []⟩)], [(0, .c (.lst (ints p))), (3, .ref 8), (9, .c (.lst (ints p))), (10, .c (ci (p.length : Int))), (11, .c (ci v11_1))], 31⟩) H1 m1 ⟨0, List.replicate (p.length : Int).toNat false, ghe_to (n := 31) rfl rfl ⟨rfl, rfl, rfl, rfl, rfl, trivial⟩, q2⟩ ?_
  rintro v11_1 o8_1 q2
  replace h := h v11_1 o8_1 q2
  refine aw_seq ?_
  refine aw_region ?_
  refine run_s (ss_lss rfl rfl) rfl ?_
  refine run_nil ?_
  refine aw_seq ?_
  refine aw_cond rfl (fun q3 => ?_) (fun q3 => ?_)
  ·replace h := h.1 (of_decide_eq_true q3)
   refine aw_skip ?_
   refine aw_seq ?_
   refine aw_block ?_
   refine aw_seq ?_
   refine aw_region ?_
   obtain ⟨q4, h⟩ := h
   refine run_s (ss_idxL rfl rfl q4) rfl ?_
   refine run_s (ss_loadL (f := ci) rfl q4) rfl ?_
   refine run_s (ss_assign rfl) rfl ?_
   refine run_nil ?_
   refine aw_seq ?_
   refine aw_seq ?_
   refine aw_region ?_
   refine run_s (ss_move rfl) rfl ?_
   refine run_s (ss_move rfl) rfl ?_
   refine run_s (ss_lenL (f := ci) rfl) rfl ?_
   obtain ⟨q5, h⟩ := h
   refine run_s (ss_sub rfl rfl q5) rfl ?_
   refine run_w (ws_call (xs := [.tmp 15, .const (.int .i64 (0)), .tmp 18]) (ids := []) rfl rfl rfl rfl (c_impl_within (el p v11_1) 0 ((p.length : Int) - 1)) rfl ?_ )
   rintro _ rfl
   refine ⟨rfl, ?_⟩
   refine run_s (ss_not rfl) rfl ?_
   refine run_s (ss_move rfl) rfl ?_
   refine run_split (s := 21) rfl (fun q7 => ?_) (fun q7 => ?_)
   ·replace h := h.1 ((bnot_t q7))
    refine run_gf rfl rfl q7 rfl ?_
    refine run_gf rfl rfl q7 rfl ?_
    refine run_gf rfl rfl q7 rfl ?_
    refine run_gf rfl rfl q7 rfl ?_
    refine run_s (ss_pickT rfl q7 rfl) rfl ?_
    refine run_nil ?_
    refine aw_cond rfl (fun q8 => ?_) (fun q8 => ?_)
    ·skip
     refine aw_seq ?_
     refine aw_gh (gh_to (n := 31) (σ' := [(8, ⟨bools o8_1, []⟩)]) (env' := []) rfl rfl trivial) ?_
     refine aw_region ?_
     refine run_s (ss_assign rfl) rfl ?_
     refine run_nil ?_
     refine aw_ret ?_
     exact retAF_mk (retv1 rfl (rv_tmp rfl)) rfl rfl ⟨_, (cle_refl _), _, h, rfl⟩
    ·cases q8
   ·replace h := h.2 ((bnot_f q7))
    refine run_gt rfl rfl q7 ?_
    refine run_s (ss_move rfl) rfl ?_
    refine run_gt rfl rfl q7 ?_
    refine run_s (ss_move rfl) rfl ?_
    refine run_gt rfl rfl q7 ?_
    obtain ⟨q9, h⟩ := h
    refine run_s (ss_idxR (f := cb) rfl rfl rfl q9) rfl ?_
    refine run_gt rfl rfl q7 ?_
    refine run_s (ss_loadR (f := cb) rfl rfl q9 rfl rfl) rfl ?_
    refine run_s (ss_pickF rfl q7 rfl) rfl ?_
    refine run_nil ?_
    refine aw_cond rfl (fun q10 => ?_) (fun q10 => ?_)
    ·replace h := h.1 (q10)
     refine aw_seq ?_
     refine aw_gh (gh_to (n := 31) (σ' := [(8, ⟨bools o8_1, []⟩)]) (env' := []) rfl rfl trivial) ?_
     refine aw_region ?_
     refine run_s (ss_assign rfl) rfl ?_
     refine run_nil ?_
     refine aw_ret ?_
     exact retAF_mk (retv1 rfl (rv_tmp rfl)) rfl rfl ⟨_, (cle_refl _), _, h, rfl⟩
    ·replace h := h.2 (q10)
     refine aw_skip ?_
     refine aw_gh (gh_to (n := 31) (σ' := [(8, ⟨bools o8_1, []⟩)]) (env' := [(0, .c (.lst (ints p))), (3, .ref 8), (5, .c (ci (el p v11_1))), (9, .c (.lst (ints p))), (10, .c (ci (p.length : Int))), (11, .c (ci v11_1)), (22, .ref 8), (23, .c (ci (el p v11_1))), (24, .cell 8 (el p v11_1).toNat), (25, .c (cb (el o8_1 (el p v11_1))))]) rfl rfl ⟨rfl, rfl, rfl, rfl, rfl, rfl, rfl, rfl, rfl, rfl, trivial⟩) ?_
     refine aw_region ?_
     refine run_s (ss_move rfl) rfl ?_
     refine run_s (ss_move rfl) rfl ?_
     obtain ⟨q11, h⟩ := h
     refine run_s (ss_idxR (f := cb) rfl rfl rfl q11) rfl ?_
     refine run_w (ws_storeE rfl rfl (map_lt q11) rfl rfl (map_se (f := cb)) rfl ⟨rfl, ?_⟩)
     refine run_nil ?_
     refine aw_gh (gh_to (n := 31) (σ' := [(8, ⟨bools (se o8_1 (el p v11_1) true), []⟩)]) (env' := [(0, .c (.lst (ints p))), (3, .ref 8), (9, .c (.lst (ints p))), (10, .c (ci (p.length : Int))), (11, .c (ci v11_1)), (22, .ref 8), (23, .c (ci (el p v11_1))), (24, .cell 8 (el p v11_1).toNat), (25, .c (cb (el o8_1 (el p v11_1))))]) rfl rfl ⟨rfl, rfl, rfl, rfl, rfl, rfl, rfl, rfl, rfl, trivial⟩) ?_
     refine aw_region ?_
     obtain ⟨q12, h⟩ := h
     refine run_s (ss_add rfl rfl q12) rfl ?_
     refine run_s (ss_move rfl) rfl ?_
     refine run_nil ?_
     exact ⟨v11_1 + 1, se o8_1 (el p v11_1) true, ghe_to (n := 31) rfl rfl ⟨rfl, rfl, rfl, rfl, rfl, trivial⟩, h.1, h.2⟩
  ·replace h := h.2 (of_decide_eq_false q3)
   refine aw_exit ?_
   refine aw_seq ?_
   refine aw_gh (gh_to (n := 31) (σ' := [(8, ⟨bools o8_1, []⟩)]) (env' := []) rfl rfl trivial) ?_
   refine aw_region ?_
   refine run_s (ss_assign rfl) rfl ?_
   refine run_nil ?_
   refine aw_ret ?_
   exact retAF_mk (retv1 rfl (rv_tmp rfl)) rfl rfl ⟨_, (cle_refl _), _, h, rfl⟩

theorem c_impl_isPermuted (p : List Int) (hp : small p) : AF Tryd.prog 26 [.lst (ints p)] (fun R_ => R_ = cb (isPerm p)) :=
  (w_impl_isPermuted p (fun y0 => y0 = isPerm p) (p_impl_isPermuted p hp)).mono (by rintro r ⟨_, rfl, rfl⟩; rfl)

set_option maxRecDepth 100000 in
set_option maxHeartbeats 4000000 in
theorem w_k_IndexFunc_rows (t : List (List Int)) (f_g : Nat) (f_c : List C) (f : List Int → Bool) (f_D : List Int → Prop) (f_h : ∀ x0, f_D x0 → AF Tryd.prog f_g ([.lst (ints x0)] ++ f_c) (fun R_ => R_ = cb (f x0))) (Q : Int → Prop) (h : wp_k_IndexFunc_rows t f f_D Q) : AF Tryd.prog 46 [.lst (rows t), .clo f_g f_c] (fun R_ => ∃ y0, Q y0 ∧ R_ = ci y0) := by
  refine AF.ofWQ (af_enter (n := 19) Tryd.func46 rfl (by rfl) rfl (Nat.le_of_ble_eq_true rfl) ?_)
  unfold wp_k_IndexFunc_rows at h
  refine aw_seq ?_
  refine aw_gh (gh_to (n := 19) (σ' := []) (env' := [(0, .c (.lst (rows t))), (1, .c (.clo f_g f_c))]) rfl rfl ⟨rfl, rfl, trivial⟩) ?_
  refine aw_region ?_
  refine run_s (ss_assign rfl) rfl ?_
  refine run_nil ?_
  refine aw_seq ?_
  refine aw_seq ?_
  refine aw_region ?_
  refine run_s (ss_move rfl) rfl ?_
  refine run_s (ss_lenL (f := (fun r => C.lst (ints r))) rfl) rfl ?_
  refine run_s (ss_move rfl) rfl ?_
  refine run_nil ?_
  refine aw_block ?_
  obtain ⟨H1, m1, q1, h⟩ := h
  refine aw_loop1 (fun (v8_1 : Int) => ⟨[], [(0, .c (.lst (rows t))), (1, .c (.clo f_g f_c)), (7, .c (ci (t.length : Int))), (8, .c (ci v8_1))], 19⟩) H1 m1 ⟨0, ghe_to (n := 19) rfl rfl ⟨rfl, rfl, rfl, rfl, trivial⟩, q1⟩ ?_
  rintro v8_1 q1
  replace h := h v8_1 q1
  refine aw_seq ?_
  refine aw_region ?_
  refine run_s (ss_lss rfl rfl) rfl ?_
  refine run_nil ?_
  refine aw_seq ?_
  refine aw_cond rfl (fun q2 => ?_) (fun q2 => ?_)
  ·replace h := h.1 (of_decide_eq_true q2)
   refine aw_skip ?_
   refine aw_seq ?_
   refine aw_block ?_
   refine aw_seq ?_
   refine aw_region ?_
   refine run_s (ss_move rfl) rfl ?_
   refine run_s (ss_assign rfl) rfl ?_
   refine run_nil ?_
   refine aw_seq ?_
   refine aw_region ?_
   refine run_s (ss_move rfl) rfl ?_
   refine run_s (ss_move rfl) rfl ?_
   refine run_s (ss_move rfl) rfl ?_
   obtain ⟨q3, h⟩ := h
   refine run_s (ss_idxL rfl rfl q3) rfl ?_
   refine run_s (ss_loadL (f := (fun r => C.lst (ints r))) rfl q3) rfl ?_
   obtain ⟨q4, h⟩ := h
   refine run_w (ws_call (xs := [.tmp 15]) (ids := []) rfl rfl rfl rfl (f_h (el t v8_1) q4) rfl ?_ )
   rintro _ rfl
   refine ⟨rfl, ?_⟩
   refine run_nil ?_
   refine aw_cond rfl (fun q5 => ?_) (fun q5 => ?_)
   ·replace h := h.1 (q5)
    refine aw_seq ?_
    refine aw_gh (gh_to (n := 19) (σ' := []) (env' := [(5, .c (ci v8_1))]) rfl rfl ⟨rfl, trivial⟩) ?_
    refine aw_region ?_
    refine run_s (ss_move rfl) rfl ?_
    refine run_s (ss_assign rfl) rfl ?_
    refine run_nil ?_
    refine aw_ret ?_
    exact retAF_mk (retv1 rfl (rv_tmp rfl)) rfl rfl ⟨_, (cle_refl _), _, h, rfl⟩
   ·replace h := h.2 (q5)
    refine aw_skip ?_
    refine aw_gh (gh_to (n := 19) (σ' := []) (env' := [(0, .c (.lst (rows t))), (1, .c (.clo f_g f_c)), (7, .c (ci (t.length : Int))), (8, .c (ci v8_1))]) rfl rfl ⟨rfl, rfl, rfl, rfl, trivial⟩) ?_
    refine aw_region ?_
    obtain ⟨q6, h⟩ := h
    refine run_s (ss_add rfl rfl q6) rfl ?_
    refine run_s (ss_move rfl) rfl ?_
    refine run_nil ?_
    exact ⟨v8_1 + 1, ghe_to (n := 19) rfl rfl ⟨rfl, rfl, rfl, rfl, trivial⟩, h.1, h.2⟩
  ·replace h := h.2 (of_decide_eq_false q2)
   refine aw_exit ?_
   refine aw_seq ?_
   refine aw_gh (gh_to (n := 19) (σ' := []) (env' := []) rfl rfl trivial) ?_
   refine aw_region ?_
   refine run_s (ss_assign rfl) rfl ?_
   refine run_nil ?_
   refine aw_ret ?_
   exact retAF_mk (retv1 rfl (rv_tmp rfl)) rfl rfl ⟨_, (cle_refl _), _, h, rfl⟩

theorem c_k_IndexFunc_rows (t : List (List Int)) (f_g : Nat) (f_c : List C) (f : List Int → Bool) (f_D : List Int → Prop) (f_h : ∀ x0, f_D x0 → AF Tryd.prog f_g ([.lst (ints x0)] ++ f_c) (fun R_ => R_ = cb (f x0))) (hp : small t ∧ ∀ r_ ∈ t, f_D r_) : AF Tryd.prog 46 [.lst (rows t), .clo f_g f_c] (fun R_ => R_ = ci (idxF t f)) :=
  (w_k_IndexFunc_rows t f_g f_c f f_D f_h (fun y0 => y0 = idxF t f) (p_k_IndexFunc_rows t f f_D hp)).mono (by rintro r ⟨_, rfl, rfl⟩; rfl)

set_option maxRecDepth 100000 in
set_option maxHeartbeats 4000000 in
theorem w_k_ContainsFunc_rows (t : List (List Int)) (f_g : Nat) (f_c : List C) (f : List Int → Bool) (f_D : List Int → Prop) (f_h : ∀ x0, f_D x0 → AF Tryd.prog f_g ([.lst (ints x0)] ++ f_c) (fun R_ => R_ = cb (f x0))) (Q : Bool → Prop) (h : wp_k_ContainsFunc_rows t f f_D Q) : AF Tryd.prog 37 [.lst (rows t), .clo f_g f_c] (fun R_ => ∃ y0, Q y0 ∧ R_ = cb y0) := by
  refine AF.ofWQ (af_enter (n := 9) Tryd.func37 rfl (by rfl) rfl (Nat.le_of_ble_eq_true rfl) ?_)
  unfold wp_k_ContainsFunc_rows at h
  refine aw_seq ?_
  refine aw_gh (gh_to (n := 9) (σ' := []) (env' := [(0, .c (.lst (rows t))), (1, .c (.clo f_g f_c))]) rfl rfl ⟨rfl, rfl, trivial⟩) ?_
  refine aw_region ?_
  refine run_s (ss_assign rfl) rfl ?_
  refine run_nil ?_
  refine aw_seq ?_
  refine aw_region ?_
  refine run_s (ss_move rfl) rfl ?_
  refine run_s (ss_move rfl) rfl ?_
  obtain ⟨q1, h⟩ := h
  refine run_w (ws_call (xs := [.tmp 5, .tmp 6]) (ids := []) rfl rfl rfl rfl (c_k_IndexFunc_rows t f_g f_c f f_D f_h q1) rfl ?_ )
  rintro _ rfl
  refine ⟨rfl, ?_⟩
  refine run_s (ss_geq rfl rfl) rfl ?_
  refine run_s (ss_assign rfl) rfl ?_
  refine run_nil ?_
  refine aw_ret ?_
  exact retAF_mk (retv1 rfl (rv_tmp rfl)) rfl rfl ⟨_, (cle_refl _), _, h, rfl⟩

theorem c_k_ContainsFunc_rows (t : List (List Int)) (f_g : Nat) (f_c : List C) (f : List Int → Bool) (f_D : List Int → Prop) (f_h : ∀ x0, f_D x0 → AF Tryd.prog f_g ([.lst (ints x0)] ++ f_c) (fun R_ => R_ = cb (f x0))) (hp : small t ∧ ∀ r_ ∈ t, f_D r_) : AF Tryd.prog 37 [.lst (rows t), .clo f_g f_c] (fun R_ => R_ = cb (t.any f)) :=
  (w_k_ContainsFunc_rows t f_g f_c f f_D f_h (fun y0 => y0 = t.any f) (p_k_ContainsFunc_rows t f f_D hp)).mono (by rintro r ⟨_, rfl, rfl⟩; rfl)

set_option maxRecDepth 100000 in
set_option maxHeartbeats 4000000 in
theorem w_impl_IsTable_1 (row : List Int) (n : Int) (Q : Bool → Prop) (h : wp_impl_IsTable_1 row n Q) : AF Tryd.prog 38 [.lst (ints row), .ptr [ci n]] (fun R_ => ∃ y0, Q y0 ∧ R_ = cb y0) := by
  refine AF.ofWQ (af_enter (n := 15) Tryd.func38 rfl (by rfl) rfl (Nat.le_of_ble_eq_true rfl) ?_)
  unfold wp_impl_IsTable_1 at h
  refine aw_seq ?_
  refine aw_gh (gh_to (n := 15) (σ' := []) (env' := [(0, .c (.lst (ints row))), (1, .c (.ptr [ci n]))]) rfl rfl ⟨rfl, rfl, trivial⟩) ?_
  refine aw_region ?_
  refine run_s (ss_assign rfl) rfl ?_
  refine run_nil ?_
  refine aw_seq ?_
  refine aw_region ?_
  refine run_s (ss_move rfl) rfl ?_
  refine run_s (ss_lenL (f := ci) rfl) rfl ?_
  refine run_s (ss_load_ptr rfl rfl) rfl ?_
  refine run_s (ss_neq rfl rfl) rfl ?_
  refine run_s (ss_move rfl) rfl ?_
  refine run_split (s := 8) rfl (fun q1 => ?_) (fun q1 => ?_)
  ·replace h := h.1 (of_decide_eq_false (bnot_t q1))
   refine run_gf rfl rfl q1 rfl ?_
   refine run_gf rfl rfl q1 rfl ?_
   refine run_gf rfl rfl q1 rfl ?_
   refine run_gf rfl rfl q1 rfl ?_
   refine run_gf rfl rfl q1 rfl ?_
   refine run_s (ss_pickT rfl q1 rfl) rfl ?_
   refine run_s (ss_assign rfl) rfl ?_
   refine run_nil ?_
   refine aw_ret ?_
   exact retAF_mk (retv1 rfl (rv_tmp rfl)) rfl rfl ⟨_, (cle_refl _), _, h, rfl⟩
  ·replace h := h.2 (of_decide_eq_true (bnot_f q1))
   refine run_gt rfl rfl q1 ?_
   refine run_s (ss_move rfl) rfl ?_
   refine run_gt rfl rfl q1 ?_
   refine run_s (ss_load_ptr rfl rfl) rfl ?_
   refine run_gt rfl rfl q1 ?_
   obtain ⟨q2, h⟩ := h
   refine run_s (ss_sub rfl rfl q2) rfl ?_
   refine run_gt rfl rfl q1 ?_
   obtain ⟨q3, h⟩ := h
   refine run_w (ws_call (xs := [.tmp 9, .const (.int .i64 (0)), .tmp 11]) (ids := []) rfl rfl rfl rfl (c_impl_allWithin row 0 (n - 1) q3) rfl ?_ )
   rintro _ rfl
   refine ⟨rfl, ?_⟩
   refine run_gt rfl rfl q1 ?_
   refine run_s (ss_not rfl) rfl ?_
   refine run_s (ss_pickF rfl q1 rfl) rfl ?_
   refine run_s (ss_assign rfl) rfl ?_
   refine run_nil ?_
   refine aw_ret ?_
   exact retAF_mk (retv1 rfl (rv_tmp rfl)) rfl rfl ⟨_, (cle_refl _), _, h, rfl⟩

theorem c_impl_IsTable_1 (row : List Int) (n : Int) (hp : small row ∧ 0 ≤ n ∧ n ≤ 12) : AF Tryd.prog 38 [.lst (ints row), .ptr [ci n]] (fun R_ => R_ = cb (badRow n row)) :=
  (w_impl_IsTable_1 row n (fun y0 => y0 = badRow n row) (p_impl_IsTable_1 row n hp)).mono (by rintro r ⟨_, rfl, rfl⟩; rfl)

set_option maxRecDepth 100000 in
set_option maxHeartbeats 4000000 in
theorem w_impl_IsTable (t : List (List Int)) (Q : Bool → Prop) (h : wp_impl_IsTable t Q) : AF Tryd.prog 24 [.lst (rows t)] (fun R_ => ∃ y0, Q y0 ∧ R_ = cb y0) := by
  refine AF.ofWQ (af_enter (n := 14) Tryd.func24 rfl (by rfl) rfl (Nat.le_of_ble_eq_true rfl) ?_)
  unfold wp_impl_IsTable at h
  refine aw_seq ?_
  refine aw_gh (gh_to (n := 14) (σ' := []) (env' := [(0, .c (.lst (rows t)))]) rfl rfl ⟨rfl, trivial⟩) ?_
  refine aw_region ?_
  refine run_s (ss_assign rfl) rfl ?_
  refine run_nil ?_
  refine aw_seq ?_
  refine aw_region ?_
  refine run_s (ss_move rfl) rfl ?_
  refine run_s (ss_lenL (f := (fun r => C.lst (ints r))) rfl) rfl ?_
  refine run_w (ws_alloc (id := 3) rfl (Nat.le_of_ble_eq_true rfl) ⟨rfl, ?_⟩)
  refine run_w (ws_store rfl rfl (Nat.le_of_ble_eq_true rfl) rfl rfl ⟨rfl, ?_⟩)
  refine run_nil ?_
  refine aw_seq ?_
  refine aw_region ?_
  refine run_s (ss_loadC rfl rfl rfl rfl rfl) rfl ?_
  refine run_w (ws_call (xs := [.tmp 6, .const (.int .i64 (1)), .const (.int .i64 (12))]) (ids := []) rfl rfl rfl rfl (c_impl_within (t.length : Int) 1 12) rfl ?_ )
  rintro _ rfl
  refine ⟨rfl, ?_⟩
  refine run_s (ss_move rfl) rfl ?_
  refine run_split (s := 8) rfl (fun q2 => ?_) (fun q2 => ?_)
  ·replace h := h.1 (q2)
   refine run_gt rfl rfl q2 ?_
   refine run_s (ss_move rfl) rfl ?_
   refine run_gt rfl rfl q2 ?_
   refine run_gh (gh_freeze (id := 3) rfl rfl) ?_
   refine run_s (ss_makeFunc (os := [.tmp 3]) rfl) rfl ?_
   refine run_gt rfl rfl q2 ?_
   obtain ⟨q3, h⟩ := h
   refine run_w (ws_call (xs := [.tmp 9, .tmp 10]) (ids := []) rfl rfl rfl rfl (c_k_ContainsFunc_rows t 38 [.ptr [ci (t.length : Int)]] (fun z0 => badRow (t.length : Int) z0) (fun z0 => small z0 ∧ 0 ≤ (t.length : Int) ∧ (t.length : Int) ≤ 12) (fun z0 hD => c_impl_IsTable_1 z0 (t.length : Int) hD) q3) rfl ?_ )
   rintro _ rfl
   refine ⟨rfl, ?_⟩
   refine run_gt rfl rfl q2 ?_
   refine run_s (ss_not rfl) rfl ?_
   refine run_s (ss_pickT rfl q2 rfl) rfl ?_
   refine run_s (ss_assign rfl) rfl ?_
   refine run_nil ?_
   refine aw_ret ?_
   exact retAF_mk (retv1 rfl (rv_tmp rfl)) rfl rfl ⟨_, (cle_refl _), _, h, rfl⟩
  ·replace h := h.2 (q2)
   refine run_gf rfl rfl q2 rfl ?_
   refine run_gf rfl rfl q2 rfl ?_
   refine run_gf rfl rfl q2 rfl ?_
   refine run_gf rfl rfl q2 rfl ?_
   refine run_s (ss_pickF rfl q2 rfl) rfl ?_
   refine run_s (ss_assign rfl) rfl ?_
   refine run_nil ?_
   refine aw_ret ?_
   exact retAF_mk (retv1 rfl (rv_tmp rfl)) rfl rfl ⟨_, (cle_refl _), _, h, rfl⟩

theorem c_impl_IsTable (t : List (List Int)) (hp : small2 t) : AF Tryd.prog 24 [.lst (rows t)] (fun R_ => R_ = cb (isTab t)) :=
  (w_impl_IsTable t (fun y0 => y0 = isTab t) (p_impl_IsTable t hp)).mono (by rintro r ⟨_, rfl, rfl⟩; rfl)

set_option maxRecDepth 100000 in
set_option maxHeartbeats 4000000 in
theorem w_impl_squaresOf (c : List (List Int)) (Q : List Int → Prop) (h : wp_impl_squaresOf c Q) : AF Tryd.prog 27 [.agg [.lst (rows c)]] (fun R_ => ∃ y0, Q y0 ∧ R_ = .own (ints y0)) := by
  refine AF.ofWQ (af_enter (n := 27) Tryd.func27 rfl (by rfl) rfl (Nat.le_of_ble_eq_true rfl) ?_)
  unfold wp_impl_squaresOf at h
  refine aw_seq ?_
  refine aw_gh (gh_to (n := 27) (σ' := []) (env' := [(0, .c (.agg [.lst (rows c)]))]) rfl rfl ⟨rfl, trivial⟩) ?_
  refine aw_region ?_
  refine run_w (ws_boxR rfl (.inl rfl) rfl ⟨rfl, ?_⟩)
  refine run_s (ss_assign rfl) rfl ?_
  refine run_nil ?_
  refine aw_seq ?_
  refine aw_region ?_
  refine run_s (ss_field_ptr rfl) rfl ?_
  refine run_s (ss_load_ptr rfl rfl) rfl ?_
  refine run_s (ss_lenL (f := (fun r => C.lst (ints r))) rfl) rfl ?_
  obtain ⟨q1, h⟩ := h
  refine run_w (ws_mk (id := 8) ci (0 : Int) rfl rfl rfl q1 (Nat.le_of_ble_eq_true rfl) rfl ⟨rfl, ?_⟩)
  refine run_s (ss_assign rfl) rfl ?_
  refine run_nil ?_
  refine aw_seq ?_
  refine aw_seq ?_
  refine aw_gh (gh_to (n := 27) (σ' := [(8, ⟨ints (List.replicate (c.length : Int).toNat (0 : Int)), []⟩)]) (env' := [(1, .c (.ptr [.lst (rows c)])), (3, .ref 8)]) rfl rfl ⟨rfl, rfl, trivial⟩) ?_
  refine aw_region ?_
  refine run_s (ss_move rfl) rfl ?_
  refine run_s (ss_lenR (f := ci) rfl rfl) rfl ?_
  refine run_s (ss_move rfl) rfl ?_
  refine run_nil ?_
  refine aw_block ?_
  obtain ⟨H1, m1, q2, h⟩ := h
  refine aw_loop2 (fun (v11_1 : Int) (o8_1 : List Int) => ⟨[(8, ⟨ints o8_1, []⟩)], [(1, .c (.ptr [.lst (rows c)])), (3, .ref 8), (10, .c (ci ((List.replicate (c.length : Int).toNat (0 : Int)).length : Int))), (11, .c (ci v11_1))], 27⟩) H1 m1 ⟨0, List.replicate (c.length : Int).toNat (0 : Int), ghe_to (n := 27) rfl rfl ⟨rfl, rfl, rfl, rfl, trivial⟩, q2⟩ ?_
  rintro v11_1 o8_1 q2
  replace h := h v11_1 o8_1 q2
  refine aw_seq ?_
  refine aw_region ?_
  refine run_s (ss_lss rfl rfl) rfl ?_
  refine run_nil ?_
  refine aw_seq ?_
  refine aw_cond rfl (fun q3 => ?_) (fun q3 => ?_)
  ·replace h := h.1 (of_decide_eq_true q3)
   refine aw_skip ?_
   refine aw_seq ?_
   refine aw_block ?_
   refine aw_seq ?_
   refine aw_region ?_
   refine run_s (ss_move rfl) rfl ?_
   refine run_s (ss_assign rfl) rfl ?_
   refine run_nil ?_
   refine aw_region ?_
   refine run_s (ss_move rfl) rfl ?_
   refine run_s (ss_move rfl) rfl ?_
   refine run_s (ss_field_ptr rfl) rfl ?_
   refine run_s (ss_load_ptr rfl rfl) rfl ?_
   refine run_s (ss_move rfl) rfl ?_
   obtain ⟨q4, h⟩ := h
   refine run_s (ss_idxL rfl rfl q4) rfl ?_
   refine run_s (ss_loadL (f := (fun r => C.lst (ints r))) rfl q4) rfl ?_
   refine run_s (ss_move rfl) rfl ?_
   obtain ⟨q5, h⟩ := h
   refine run_s (ss_idxL rfl rfl q5) rfl ?_
   refine run_s (ss_loadL (f := ci) rfl q5) rfl ?_
   obtain ⟨q6, h⟩ := h
   refine run_s (ss_idxR (f := ci) rfl rfl rfl q6) rfl ?_
   refine run_w (ws_storeE rfl rfl (map_lt q6) rfl rfl (map_se (f := ci)) rfl ⟨rfl, ?_⟩)
   refine run_nil ?_
   refine aw_gh (gh_to (n := 27) (σ' := [(8, ⟨ints (se o8_1 v11_1 (el (el c v11_1) v11_1)), []⟩)]) (env' := [(1, .c (.ptr [.lst (rows c)])), (3, .ref 8), (10, .c (ci ((List.replicate (c.length : Int).toNat (0 : Int)).length : Int))), (11, .c (ci v11_1))]) rfl rfl ⟨rfl, rfl, rfl, rfl, trivial⟩) ?_
   refine aw_region ?_
   obtain ⟨q7, h⟩ := h
   refine run_s (ss_add rfl rfl q7) rfl ?_
   refine run_s (ss_move rfl) rfl ?_
   refine run_nil ?_
   exact ⟨v11_1 + 1, se o8_1 v11_1 (el (el c v11_1) v11_1), ghe_to (n := 27) rfl rfl ⟨rfl, rfl, rfl, rfl, trivial⟩, h.1, h.2⟩
  ·replace h := h.2 (of_decide_eq_false q3)
   refine aw_exit ?_
   refine aw_seq ?_
   refine aw_region ?_
   refine run_s (ss_move rfl) rfl ?_
   refine run_s (ss_assign rfl) rfl ?_
   refine run_nil ?_
   refine aw_ret ?_
   exact retAF_mk (retv1 rfl (rv_tmp rfl)) rfl rfl ⟨_, (cle_refl _), _, h, rfl⟩

theorem c_impl_squaresOf (c : List (List Int)) (hp : isTab c = true) : AF Tryd.prog 27 [.agg [.lst (rows c)]] (fun R_ => R_ = .own (ints (diag c))) :=
  (w_impl_squaresOf c (fun y0 => y0 = diag c) (p_impl_squaresOf c hp)).mono (by rintro r ⟨_, rfl, rfl⟩; rfl)

set_option maxRecDepth 100000 in
set_option maxHeartbeats 4000000 in
theorem w_impl_tableBy (n : Int) (value_g : Nat) (value_c : List C) (value : Int → Int → Int) (value_D : Int → Int → Prop) (value_h : ∀ x0 x1, value_D x0 x1 → AF Tryd.prog value_g ([ci x0, ci x1] ++ value_c) (fun R_ => R_ = ci (value x0 x1))) (Q : List (List Int) → Prop) (h : wp_impl_tableBy n value value_D Q) : AF Tryd.prog 16 [ci n, .clo value_g value_c] (fun R_ => ∃ y0, Q y0 ∧ R_ = .own (orows y0)) := by
  refine AF.ofWQ (af_enter (n := 41) Tryd.func16 rfl (by rfl) rfl (Nat.le_of_ble_eq_true rfl) ?_)
  unfold wp_impl_tableBy at h
  refine aw_seq ?_
  refine aw_gh (gh_to (n := 41) (σ' := []) (env' := [(0, .c (ci n)), (1, .c (.clo value_g value_c))]) rfl rfl ⟨rfl, rfl, trivial⟩) ?_
  refine aw_region ?_
  refine run_s (ss_assign rfl) rfl ?_
  refine run_nil ?_
  refine aw_seq ?_
  refine aw_region ?_
  refine run_s (ss_move rfl) rfl ?_
  obtain ⟨q1, h⟩ := h
  refine run_w (ws_makeSlice (id := 9) rfl rfl q1 (Nat.le_of_ble_eq_true rfl) rfl ⟨rfl, ?_⟩)
  refine run_gh (gh_weakR (id := 9) (f := (fun r => C.own (ints r))) rfl cle_nilO) ?_
  refine run_s (ss_assign rfl) rfl ?_
  refine run_nil ?_
  refine aw_seq ?_
  refine aw_seq ?_
  refine aw_region ?_
  refine run_s (ss_move rfl) rfl ?_
  refine run_s (ss_lenR (f := (fun r => C.own (ints r))) rfl rfl) rfl ?_
  refine run_s (ss_move rfl) rfl ?_
  refine run_nil ?_
  refine aw_block ?_
  obtain ⟨H1, m1, q2, h⟩ := h
  refine aw_loop2 (fun (v12_1 : Int) (o9_1 : List (List Int)) => ⟨[(9, ⟨orows o9_1, []⟩)], [(0, .c (ci n)), (1, .c (.clo value_g value_c)), (5, .ref 9), (11, .c (ci ((List.replicate n.toNat ([] : List Int)).length : Int))), (12, .c (ci v12_1))], 41⟩) H1 m1 ⟨0, List.replicate n.toNat ([] : List Int), ghe_to (n := 41) rfl rfl ⟨rfl, rfl, rfl, rfl, rfl, trivial⟩, q2⟩ ?_
  rintro v12_1 o9_1 q2
  replace h := h v12_1 o9_1 q2
  refine aw_seq ?_
  refine aw_region ?_
  refine run_s (ss_lss rfl rfl) rfl ?_
  refine run_nil ?_
  refine aw_seq ?_
  refine aw_cond rfl (fun q3 => ?_) (fun q3 => ?_)
  ·replace h := h.1 (of_decide_eq_true q3)
   refine aw_skip ?_
   refine aw_seq ?_
   refine aw_block ?_
   refine aw_seq ?_
   refine aw_region ?_
   refine run_s (ss_move rfl) rfl ?_
   refine run_s (ss_assign rfl) rfl ?_
   refine run_nil ?_
   refine aw_seq ?_
   refine aw_region ?_
   refine run_s (ss_move rfl) rfl ?_
   refine run_s (ss_move rfl) rfl ?_
   refine run_s (ss_move rfl) rfl ?_
   obtain ⟨q4, h⟩ := h
   refine run_w (ws_mk (id := 18) ci (0 : Int) rfl rfl rfl q4 (Nat.le_of_ble_eq_true rfl) rfl ⟨rfl, ?_⟩)
   obtain ⟨q5, h⟩ := h
   refine run_s (ss_idxR (f := (fun r => C.own (ints r))) rfl rfl rfl q5) rfl ?_
   refine run_w (ws_storeV rfl rfl (map_lt q5) rfl rfl rfl rfl ⟨rfl, ?_⟩)
   refine run_nil ?_
   refine aw_seq ?_
   refine aw_region ?_
   refine run_s (ss_move rfl) rfl ?_
   refine run_s (ss_move rfl) rfl ?_
   obtain ⟨q6, h⟩ := h
   refine run_s (ss_indexAddr_ref rfl rfl rfl (set_bd (f := (fun r => C.own (ints r))) q6)) rfl ?_
   refine run_s (ss_loadH rfl rfl lk_self rfl) rfl ?_
   refine run_s (ss_lenR (f := ci) rfl rfl) rfl ?_
   refine run_s (ss_move rfl) rfl ?_
   refine run_nil ?_
   refine aw_block ?_
   obtain ⟨H2, m2, q7, h⟩ := h
   refine aw_loop2 (fun (v25_2 : Int) (o18_2 : List Int) => ⟨[(18, ⟨ints o18_2, []⟩), (9, ⟨(orows o9_1).set v12_1.toNat .hole, [(v12_1.toNat, .ref 18)]⟩)], [(0, .c (ci n)), (1, .c (.clo value_g value_c)), (5, .ref 9), (6, .c (ci v12_1)), (11, .c (ci ((List.replicate n.toNat ([] : List Int)).length : Int))), (12, .c (ci v12_1)), (24, .c (ci ((List.replicate n.toNat (0 : Int)).length : Int))), (25, .c (ci v25_2))], 41⟩) H2 m2 ⟨0, List.replicate n.toNat (0 : Int), ghe_to (n := 41) rfl rfl ⟨rfl, rfl, rfl, rfl, rfl, rfl, rfl, rfl, trivial⟩, q7⟩ ?_
   rintro v25_2 o18_2 q7
   replace h := h v25_2 o18_2 q7
   refine aw_seq ?_
   refine aw_region ?_
   refine run_s (ss_lss rfl rfl) rfl ?_
   refine run_nil ?_
   refine aw_seq ?_
   refine aw_cond rfl (fun q8 => ?_) (fun q8 => ?_)
   ·replace h := h.1 (of_decide_eq_true q8)
    refine aw_skip ?_
    refine aw_seq ?_
    refine aw_block ?_
    refine aw_seq ?_
    refine aw_region ?_
    refine run_s (ss_move rfl) rfl ?_
    refine run_s (ss_assign rfl) rfl ?_
    refine run_nil ?_
    refine aw_gh (gh_to (n := 41) (σ' := [(18, ⟨ints o18_2, []⟩), (9, ⟨(orows o9_1).set v12_1.toNat .hole, [(v12_1.toNat, .ref 18)]⟩)]) (env' := [(0, .c (ci n)), (1, .c (.clo value_g value_c)), (5, .ref 9), (6, .c (ci v12_1)), (7, .c (ci v25_2)), (11, .c (ci ((List.replicate n.toNat ([] : List Int)).length : Int))), (12, .c (ci v12_1)), (24, .c (ci ((List.replicate n.toNat (0 : Int)).length : Int))), (25, .c (ci v25_2))]) rfl rfl ⟨rfl, rfl, rfl, rfl, rfl, rfl, rfl, rfl, rfl, trivial⟩) ?_
    refine aw_regionD (kd := kdl [0, 0, 0, 1, 0, 0, 0, 0, 2, 0, 3]) (ord := [0, 1, 2, 4, 5, 6, 7, 3, 8, 9, 10]) [] mixed (by kernel_rfl) ?_
    refine rd_s rfl rfl trivial (ss_move rfl) rfl ?_
    refine rd_s rfl rfl trivial (ss_move rfl) rfl ?_
    obtain ⟨q9, h⟩ := h
    refine rd_s rfl rfl trivial (ss_indexAddr_ref rfl rfl rfl (set_bd (f := (fun r => C.own (ints r))) q9)) rfl ?_
    refine rd_s rfl rfl trivial (ss_move rfl) rfl ?_
    refine rd_s rfl rfl trivial (ss_move rfl) rfl ?_
    refine rd_s rfl rfl trivial (ss_move rfl) rfl ?_
    refine rd_s rfl rfl trivial (ss_move rfl) rfl ?_
    refine rd_l rfl rfl trivial (ss_loadH rfl rfl lk_self rfl) rfl ?_
    obtain ⟨q10, h⟩ := h
    refine rd_w rfl rfl trivial rfl rfl (ws_call (xs := [.tmp 34, .tmp 35]) (ids := []) rfl rfl rfl rfl (value_h v12_1 v25_2 q10) rfl ?_ )
    rintro _ rfl
    refine ⟨rfl, ?_⟩
    obtain ⟨q11, h⟩ := h
    refine rd_s rfl rfl trivial (ss_idxR (f := ci) rfl rfl rfl q11) rfl ?_
    refine rd_f rfl rfl trivial (ws_storeE rfl rfl (map_lt q11) rfl rfl (map_se (f := ci)) rfl ⟨rfl, ?_⟩)
    refine rd_nil ?_
    refine aw_gh (gh_to (n := 41) (σ' := [(18, ⟨ints (se o18_2 v25_2 (value v12_1 v25_2)), []⟩), (9, ⟨(orows o9_1).set v12_1.toNat .hole, [(v12_1.toNat, .ref 18)]⟩)]) (env' := [(0, .c (ci n)), (1, .c (.clo value_g value_c)), (5, .ref 9), (6, .c (ci v12_1)), (11, .c (ci ((List.replicate n.toNat ([] : List Int)).length : Int))), (12, .c (ci v12_1)), (24, .c (ci ((List.replicate n.toNat (0 : Int)).length : Int))), (25, .c (ci v25_2))]) rfl rfl ⟨rfl, rfl, rfl, rfl, rfl, rfl, rfl, rfl, trivial⟩) ?_
    refine aw_region ?_
    obtain ⟨q12, h⟩ := h
    refine run_s (ss_add rfl rfl q12) rfl ?_
    refine run_s (ss_move rfl) rfl ?_
    refine run_nil ?_
    exact ⟨v25_2 + 1, se o18_2 v25_2 (value v12_1 v25_2), ghe_to (n := 41) rfl rfl ⟨rfl, rfl, rfl, rfl, rfl, rfl, rfl, rfl, trivial⟩, h.1, h.2⟩
   ·replace h := h.2 (of_decide_eq_false q8)
    refine aw_exit ?_
    refine aw_gh (gh_to (n := 41) (σ' := [(18, ⟨ints o18_2, []⟩), (9, ⟨(orows o9_1).set v12_1.toNat .hole, [(v12_1.toNat, .ref 18)]⟩)]) (env' := [(0, .c (ci n)), (1, .c (.clo value_g value_c)), (5, .ref 9), (11, .c (ci ((List.replicate n.toNat ([] : List Int)).length : Int))), (12, .c (ci v12_1))]) rfl rfl ⟨rfl, rfl, rfl, rfl, rfl, trivial⟩) ?_
    refine aw_region ?_
    obtain ⟨q13, h⟩ := h
    refine run_s (ss_add rfl rfl q13) rfl ?_
    refine run_s (ss_move rfl) rfl ?_
    refine run_nil ?_
    obtain ⟨q14, h⟩ := h
    exact ⟨v12_1 + 1, se o9_1 v12_1 o18_2, ghe_step (gh_fillA (id := 9) (id2 := 18) (f := (fun r => C.own (ints r))) (v := o18_2) rfl lk_self rfl q14 rfl rfl kr_self) (ghe_to (n := 41) rfl rfl ⟨rfl, rfl, rfl, rfl, rfl, trivial⟩), h.1, h.2⟩
  ·replace h := h.2 (of_decide_eq_false q3)
   refine aw_exit ?_
   refine aw_seq ?_
   refine aw_gh (gh_to (n := 41) (σ' := [(9, ⟨orows o9_1, []⟩)]) (env' := [(5, .ref 9)]) rfl rfl ⟨rfl, trivial⟩) ?_
   refine aw_region ?_
   refine run_s (ss_move rfl) rfl ?_
   refine run_s (ss_assign rfl) rfl ?_
   refine run_nil ?_
   refine aw_ret ?_
   exact retAF_mk (retv1 rfl (rv_tmp rfl)) rfl rfl ⟨_, (cle_refl _), _, h, rfl⟩

theorem c_impl_tableBy (n : Int) (value_g : Nat) (value_c : List C) (value : Int → Int → Int) (value_D : Int → Int → Prop) (value_h : ∀ x0 x1, value_D x0 x1 → AF Tryd.prog value_g ([ci x0, ci x1] ++ value_c) (fun R_ => R_ = ci (value x0 x1))) (hp : 0 ≤ n ∧ n ≤ 1000000 ∧ ∀ x_ y_, 0 ≤ x_ → x_ < n → 0 ≤ y_ → y_ < n → value_D x_ y_) : AF Tryd.prog 16 [ci n, .clo value_g value_c] (fun R_ => R_ = .own (orows (tab n value))) :=
  (w_impl_tableBy n value_g value_c value value_D value_h (fun y0 => y0 = tab n value) (p_impl_tableBy n value value_D hp)).mono (by rintro r ⟨_, rfl, rfl⟩; rfl)

def wp_spec_l01Index (list : List Int) (n : Int) (Q : Int → Prop) : Prop :=
 ∃ (H1 : Int → Prop) (m1 : Int → Nat),
 H1 0 ∧
 ∀ (v5_1 : Int), H1 v5_1 →
 ( ((v5_1 < (list.length : Int) →
 (0 ≤ v5_1 ∧ v5_1 < (list.length : Int)) ∧
 ((el list v5_1 = n →
 Q v5_1) ∧
 (¬ (el list v5_1 = n) →
 (InI (v5_1 + 1)) ∧
 (H1 (v5_1 + 1) ∧ m1 (v5_1 + 1) < m1 v5_1)))) ∧
 (¬ (v5_1 < (list.length : Int)) →
 Q (-1))))

def wp_spec_l01Has (list : List Int) (n : Int) (Q : Bool → Prop) : Prop :=
 (small list) ∧
 Q (decide (0 ≤ idxI list n))

def wp_spec_l01Perm (p : List Int) (Q : Bool → Prop) : Prop :=
 (((decide ((1 : Int) ≤ (p.length : Int)) && decide ((p.length : Int) ≤ (12 : Int))) = false →
 Q false) ∧
 ((decide ((1 : Int) ≤ (p.length : Int)) && decide ((p.length : Int) ≤ (12 : Int))) = true →
 ∃ (H1 : Int → Prop) (m1 : Int → Nat),
 H1 0 ∧
 ∀ (v4_1 : Int), H1 v4_1 →
 ( ((v4_1 < (p.length : Int) →
 (small p) ∧
 (((p.contains v4_1) = false →
 Q false) ∧
 ((p.contains v4_1) = true →
 (InI (v4_1 + 1)) ∧
 (H1 (v4_1 + 1) ∧ m1 (v4_1 + 1) < m1 v4_1)))) ∧
 (¬ (v4_1 < (p.length : Int)) →
 Q true)))))

def wp_spec_l01Table (t : List (List Int)) (Q : Bool → Prop) : Prop :=
 (((decide ((1 : Int) ≤ (t.length : Int)) && decide ((t.length : Int) ≤ (12 : Int))) = false →
 Q false) ∧
 ((decide ((1 : Int) ≤ (t.length : Int)) && decide ((t.length : Int) ≤ (12 : Int))) = true →
 ∃ (H1 : Int → Prop) (m1 : Int → Nat),
 H1 0 ∧
 ∀ (v4_1 : Int), H1 v4_1 →
 ( ((v4_1 < (t.length : Int) →
 (0 ≤ v4_1 ∧ v4_1 < (t.length : Int)) ∧
 ((¬ (((el t v4_1).length : Int) = (t.length : Int)) →
 Q false) ∧
 (((el t v4_1).length : Int) = (t.length : Int) →
 ∃ (H2 : Int → Prop) (m2 : Int → Nat),
 H2 0 ∧
 ∀ (v5_2 : Int), H2 v5_2 →
 ( ((v5_2 < (t.length : Int) →
 (0 ≤ v4_1 ∧ v4_1 < (t.length : Int)) ∧
 (0 ≤ v5_2 ∧ v5_2 < ((el t v4_1).length : Int)) ∧
 (InI ((t.length : Int) - 1)) ∧
 (((decide ((0 : Int) ≤ (el (el t v4_1) v5_2)) && decide ((el (el t v4_1) v5_2) ≤ ((t.length : Int) - 1))) = false →
 Q false) ∧
 ((decide ((0 : Int) ≤ (el (el t v4_1) v5_2)) && decide ((el (el t v4_1) v5_2) ≤ ((t.length : Int) - 1))) = true →
 (InI (v5_2 + 1)) ∧
 (H2 (v5_2 + 1) ∧ m2 (v5_2 + 1) < m2 v5_2)))) ∧
 (¬ (v5_2 < (t.length : Int)) →
 (InI (v4_1 + 1)) ∧
 (H1 (v4_1 + 1) ∧ m1 (v4_1 + 1) < m1 v4_1))))))) ∧
 (¬ (v4_1 < (t.length : Int)) →
 Q true)))))

def wp_spec_l05Squares (t : List (List Int)) (Q : List Int → Prop) : Prop :=
 ∃ (H1 : Int → List Int → Prop) (m1 : Int → List Int → Nat),
 H1 0 ([] : List Int) ∧
 ∀ (v4_1 : Int) (o5_1 : List Int), H1 v4_1 o5_1 →
 ( ((v4_1 < (t.length : Int) →
 (0 ≤ v4_1 ∧ v4_1 < (t.length : Int)) ∧
 (0 ≤ v4_1 ∧ v4_1 < ((el t v4_1).length : Int)) ∧
 ((o5_1.length : Int) + (([el (el t v4_1) v4_1]).length : Int) ≤ 1000000000) ∧
 (InI (v4_1 + 1)) ∧
 (H1 (v4_1 + 1) (o5_1 ++ ([el (el t v4_1) v4_1])) ∧ m1 (v4_1 + 1) (o5_1 ++ ([el (el t v4_1) v4_1])) < m1 v4_1 o5_1)) ∧
 (¬ (v4_1 < (t.length : Int)) →
 Q o5_1)))

def wp_spec_l05Fault (t : List (List Int)) (Q : List Int → Prop) : Prop :=
 ∃ (H1 : Int → Prop) (m1 : Int → Nat),
 H1 0 ∧
 ∀ (v4_1 : Int), H1 v4_1 →
 ( ((v4_1 < (t.length : Int) →
 ∃ (H2 : Int → Prop) (m2 : Int → Nat),
 H2 0 ∧
 ∀ (v5_2 : Int), H2 v5_2 →
 ( ((v5_2 < (t.length : Int) →
 ∃ (H3 : Int → Prop) (m3 : Int → Nat),
 H3 0 ∧
 ∀ (v6_3 : Int), H3 v6_3 →
 ( ((v6_3 < (t.length : Int) →
 (0 ≤ v4_1 ∧ v4_1 < (t.length : Int)) ∧
 (0 ≤ v4_1 ∧ v4_1 < (t.length : Int)) ∧
 (0 ≤ v5_2 ∧ v5_2 < (t.length : Int)) ∧
 (0 ≤ v5_2 ∧ v5_2 < (t.length : Int)) ∧
 (0 ≤ v5_2 ∧ v5_2 < ((el t v4_1).length : Int)) ∧
 (0 ≤ el (el t v4_1) v5_2 ∧ el (el t v4_1) v5_2 < (t.length : Int)) ∧
 (0 ≤ v6_3 ∧ v6_3 < ((el t v4_1).length : Int)) ∧
 (0 ≤ el (el t v4_1) v6_3 ∧ el (el t v4_1) v6_3 < ((el t (el (el t v4_1) v5_2)).length : Int)) ∧
 (0 ≤ v4_1 ∧ v4_1 < ((el t v5_2).length : Int)) ∧
 (0 ≤ el (el t v5_2) v4_1 ∧ el (el t v5_2) v4_1 < (t.length : Int)) ∧
 (0 ≤ v6_3 ∧ v6_3 < ((el t v5_2).length : Int)) ∧
 (0 ≤ el (el t v5_2) v6_3 ∧ el (el t v5_2) v6_3 < ((el t (el (el t v5_2) v4_1)).length : Int)) ∧
 ((¬ (el (el t (el (el t v4_1) v5_2)) (el (el t v4_1) v6_3) = el (el t (el (el t v5_2) v4_1)) (el (el t v5_2) v6_3)) →
 Q ([v4_1, v5_2, v6_3])) ∧
 (el (el t (el (el t v4_1) v5_2)) (el (el t v4_1) v6_3) = el (el t (el (el t v5_2) v4_1)) (el (el t v5_2) v6_3) →
 (InI (v6_3 + 1)) ∧
 (H3 (v6_3 + 1) ∧ m3 (v6_3 + 1) < m3 v6_3)))) ∧
 (¬ (v6_3 < (t.length : Int)) →
 (InI (v5_2 + 1)) ∧
 (H2 (v5_2 + 1) ∧ m2 (v5_2 + 1) < m2 v5_2))))) ∧
 (¬ (v5_2 < (t.length : Int)) →
 (InI (v4_1 + 1)) ∧
 (H1 (v4_1 + 1) ∧ m1 (v4_1 + 1) < m1 v4_1))))) ∧
 (¬ (v4_1 < (t.length : Int)) →
 Q ([] : List Int))))

def wp_impl_cycleFault (t : List (List Int)) (Q : List Int → Prop) : Prop :=
 ∃ (H1 : Int → Prop) (m1 : Int → Nat),
 H1 0 ∧
 ∀ (v10_1 : Int), H1 v10_1 →
 ( ((v10_1 < (t.length : Int) →
 ∃ (H2 : Int → Prop) (m2 : Int → Nat),
 H2 0 ∧
 ∀ (v14_2 : Int), H2 v14_2 →
 ( ((v14_2 < (t.length : Int) →
 ∃ (H3 : Int → Prop) (m3 : Int → Nat),
 H3 0 ∧
 ∀ (v18_3 : Int), H3 v18_3 →
 ( ((v18_3 < (t.length : Int) →
 (0 ≤ v10_1 ∧ v10_1 < (t.length : Int)) ∧
 (0 ≤ v10_1 ∧ v10_1 < (t.length : Int)) ∧
 (0 ≤ v14_2 ∧ v14_2 < (t.length : Int)) ∧
 (0 ≤ v14_2 ∧ v14_2 < (t.length : Int)) ∧
 (0 ≤ v14_2 ∧ v14_2 < ((el t v10_1).length : Int)) ∧
 (0 ≤ el (el t v10_1) v14_2 ∧ el (el t v10_1) v14_2 < (t.length : Int)) ∧
 (0 ≤ v18_3 ∧ v18_3 < ((el t v10_1).length : Int)) ∧
 (0 ≤ el (el t v10_1) v18_3 ∧ el (el t v10_1) v18_3 < ((el t (el (el t v10_1) v14_2)).length : Int)) ∧
 (0 ≤ v10_1 ∧ v10_1 < ((el t v14_2).length : Int)) ∧
 (0 ≤ el (el t v14_2) v10_1 ∧ el (el t v14_2) v10_1 < (t.length : Int)) ∧
 (0 ≤ v18_3 ∧ v18_3 < ((el t v14_2).length : Int)) ∧
 (0 ≤ el (el t v14_2) v18_3 ∧ el (el t v14_2) v18_3 < ((el t (el (el t v14_2) v10_1)).length : Int)) ∧
 ((¬ (el (el t (el (el t v10_1) v14_2)) (el (el t v10_1) v18_3) = el (el t (el (el t v14_2) v10_1)) (el (el t v14_2) v18_3)) →
 Q ([v10_1, v14_2, v18_3])) ∧
 (el (el t (el (el t v10_1) v14_2)) (el (el t v10_1) v18_3) = el (el t (el (el t v14_2) v10_1)) (el (el t v14_2) v18_3) →
 (InI (v18_3 + 1)) ∧
 (H3 (v18_3 + 1) ∧ m3 (v18_3 + 1) < m3 v18_3)))) ∧
 (¬ (v18_3 < (t.length : Int)) →
 (InI (v14_2 + 1)) ∧
 (H2 (v14_2 + 1) ∧ m2 (v14_2 + 1) < m2 v14_2))))) ∧
 (¬ (v14_2 < (t.length : Int)) →
 (InI (v10_1 + 1)) ∧
 (H1 (v10_1 + 1) ∧ m1 (v10_1 + 1) < m1 v10_1))))) ∧
 (¬ (v10_1 < (t.length : Int)) →
 Q ([]))))

theorem p_spec_l01Index (list : List Int) (n : Int) (hp : small list) : wp_spec_l01Index list n (fun y0 => y0 = idxI list n) := by
  unfold wp_spec_l01Index idxI
  refine ⟨fun i => 0 ≤ i ∧ i ≤ (list.length : Int) ∧ Upto i fun j => (el list j == n) = false, fun i => ((list.length : Int) - i).toNat, ⟨by omega, by omega, upto0⟩, ?_⟩
  rintro i ⟨h0, h1, hI⟩
  dsimp only
  refine ⟨fun hlt => ⟨⟨h0, hlt⟩, fun hf => (idxF_found ⟨h0, hlt⟩ hI (by simpa using hf)).symm, fun ht => ⟨⟨by omega, by omega⟩, ⟨by omega, by omega, upto1 hI (by simpa using ht)⟩, by omega⟩⟩, fun hge => ?_⟩
  exact (idxF_none (by rwa [show i = (list.length : Int) by omega] at hI)).symm
theorem p_spec_l01Has (list : List Int) (n : Int) (hp : small list) : wp_spec_l01Has list n (fun y0 => y0 = list.contains n) := ⟨hp, idxI_has⟩
theorem p_spec_l01Perm (p : List Int) (hp : small p) : wp_spec_l01Perm p (fun y0 => y0 = permB p) := by
  unfold wp_spec_l01Perm permB
  refine ⟨fun h => by rw [h]; rfl, fun h => ?_⟩
  rw [h]
  refine ⟨fun i => 0 ≤ i ∧ i ≤ (p.length : Int) ∧ Upto i fun j => j ∈ p, fun i => ((p.length : Int) - i).toNat, ⟨by omega, by omega, upto0⟩, ?_⟩
  rintro i ⟨h0, h1, hI⟩
  dsimp only
  refine ⟨fun hlt => ⟨hp, fun hf => ?_, fun ht => ⟨⟨by omega, by omega⟩, ⟨by omega, by omega, upto1 hI (List.contains_iff_mem.1 ht)⟩, by omega⟩⟩, fun hge => ?_⟩
  · cases hb : isPerm p with
    | false => rfl
    | true => rw [List.contains_iff_mem.2 (isPerm_all hb ⟨h0, hlt⟩)] at hf; cases hf
  · rw [isPerm_of_all fun x a b => hI x a (by omega)]; rfl
theorem p_spec_l01Table (t : List (List Int)) (hp : small2 t) : wp_spec_l01Table t (fun y0 => y0 = isTab t) := by
  unfold wp_spec_l01Table
  refine ⟨fun h => by unfold isTab; rw [h]; rfl, fun h => ?_⟩
  simp only [Bool.and_eq_true, decide_eq_true_eq] at h
  have nt : ∀ i, (0 ≤ i ∧ i < (t.length : Int)) → (((el t i).length : Int) ≠ (t.length : Int) ∨ ∃ j, (0 ≤ j ∧ j < (t.length : Int)) ∧ ¬ (0 ≤ el (el t i) j ∧ el (el t i) j < (t.length : Int))) → false = isTab t := by
    intro i hi hn
    cases hb : isTab t with
    | false => rfl
    | true =>
      have := isTab_row hb hi
      rcases hn with hn | ⟨j, hj, hn⟩
      · exact absurd this.1 hn
      · exact absurd (this.2 j hj.1 hj.2) hn
  refine ⟨fun i => 0 ≤ i ∧ i ≤ (t.length : Int) ∧ Upto i fun i => ((el t i).length : Int) = (t.length : Int) ∧ ∀ j, 0 ≤ j → j < (t.length : Int) → 0 ≤ el (el t i) j ∧ el (el t i) j < (t.length : Int), fun i => ((t.length : Int) - i).toNat, ⟨by omega, by omega, upto0⟩, ?_⟩
  rintro i ⟨h0, h1, hI⟩
  dsimp only
  refine ⟨fun hlt => ⟨⟨h0, hlt⟩, fun hf => nt i ⟨h0, hlt⟩ (.inl hf), fun hr => ?_⟩, fun hge => (isTab_mk h fun i a b => hI i a (by omega)).symm⟩
  refine ⟨fun j => 0 ≤ j ∧ j ≤ (t.length : Int) ∧ Upto j fun j => 0 ≤ el (el t i) j ∧ el (el t i) j < (t.length : Int), fun j => ((t.length : Int) - j).toNat, ⟨by omega, by omega, upto0⟩, ?_⟩
  rintro j ⟨j0, j1, jI⟩
  dsimp only
  refine ⟨fun jlt => ⟨⟨h0, hlt⟩, ⟨j0, by omega⟩, ⟨by omega, by omega⟩, fun hf => ?_, fun ht => ?_⟩, fun jge => ⟨⟨by omega, by omega⟩, ⟨by omega, by omega, upto1 hI ⟨hr, fun j a b => jI j a (by omega)⟩⟩, by omega⟩⟩
  · simp only [Bool.and_eq_false_iff, decide_eq_false_iff_not] at hf
    exact nt i ⟨h0, hlt⟩ (.inr ⟨j, ⟨j0, jlt⟩, by omega⟩)
  · simp only [Bool.and_eq_true, decide_eq_true_eq] at ht
    exact ⟨⟨by omega, by omega⟩, ⟨by omega, by omega, upto1 jI ⟨ht.1, by omega⟩⟩, by omega⟩

theorem p_spec_l05Squares (t : List (List Int)) (hp : isTab t = true) : wp_spec_l05Squares t (fun y0 => y0 = diag t) := by
  unfold wp_spec_l05Squares
  have hn := isTab_len hp
  refine ⟨fun i o => 0 ≤ i ∧ i ≤ (t.length : Int) ∧ o.length = i.toNat ∧ Upto i fun x => el o x = el (el t x) x, fun i _ => ((t.length : Int) - i).toNat, ⟨by omega, by omega, by simp, upto0⟩, ?_⟩
  rintro i o ⟨i0, i1, il, iI⟩
  dsimp only
  refine ⟨fun ilt => ?_, fun ige => eq_ran (by omega) fun j a b => iI j a (by omega)⟩
  have hr := isTab_row hp ⟨i0, ilt⟩
  exact ⟨⟨i0, ilt⟩, ⟨i0, by omega⟩, by simp; omega, ⟨by omega, by omega⟩, ⟨by omega, by omega, by simp; omega, app1 (f := fun x => el (el t x) x) (by omega) iI rfl⟩, by omega⟩
theorem p_spec_l05Fault (t : List (List Int)) (hp : isTab t = true) : wp_spec_l05Fault t (fun y0 => y0 = cycF t) := by
  unfold wp_spec_l05Fault cycF
  have hn := isTab_len hp
  have tr := fun (i : Int) (hi : 0 ≤ i ∧ i < (t.length : Int)) => isTab_row hp hi
  refine ⟨fun x => 0 ≤ x ∧ x ≤ (t.length : Int) ∧ Upto x fun a => ∀ b, 0 ≤ b → b < (t.length : Int) → ∀ c, 0 ≤ c → c < (t.length : Int) → cycB t a b c = false, fun x => ((t.length : Int) - x).toNat, ⟨by omega, by omega, upto0⟩, ?_⟩
  rintro x ⟨x0, x1, xI⟩
  dsimp only
  refine ⟨fun xlt => ?_, fun xge => (first3_none fun a h1 h2 => xI a h1 (by omega)).symm⟩
  refine ⟨fun y => 0 ≤ y ∧ y ≤ (t.length : Int) ∧ Upto y fun b => ∀ c, 0 ≤ c → c < (t.length : Int) → cycB t x b c = false, fun y => ((t.length : Int) - y).toNat, ⟨by omega, by omega, upto0⟩, ?_⟩
  rintro y ⟨y0, y1, yI⟩
  dsimp only
  refine ⟨fun ylt => ?_, fun yge => ⟨⟨by omega, by omega⟩, ⟨by omega, by omega, upto1 xI fun b h1 h2 => yI b h1 (by omega)⟩, by omega⟩⟩
  refine ⟨fun z => 0 ≤ z ∧ z ≤ (t.length : Int) ∧ Upto z fun c => cycB t x y c = false, fun z => ((t.length : Int) - z).toNat, ⟨by omega, by omega, upto0⟩, ?_⟩
  rintro z ⟨z0, z1, zI⟩
  dsimp only
  refine ⟨fun zlt => ?_, fun zge => ⟨⟨by omega, by omega⟩, ⟨by omega, by omega, upto1 yI fun c h1 h2 => zI c h1 (by omega)⟩, by omega⟩⟩
  have hx := tr x ⟨x0, xlt⟩
  have hy := tr y ⟨y0, ylt⟩
  have xy := hx.2 y y0 ylt
  have xz := hx.2 z z0 zlt
  have yx := hy.2 x x0 xlt
  have yz := hy.2 z z0 zlt
  have r1 := tr _ xy
  have r2 := tr _ yx
  refine ⟨⟨x0, xlt⟩, ⟨x0, xlt⟩, ⟨y0, ylt⟩, ⟨y0, ylt⟩, ⟨y0, by omega⟩, xy, ⟨z0, by omega⟩, ⟨xz.1, by omega⟩, ⟨x0, by omega⟩, yx, ⟨z0, by omega⟩, ⟨yz.1, by omega⟩, fun h => ?_, fun h => ⟨⟨by omega, by omega⟩, ⟨by omega, by omega, upto1 zI (by simp [cycB, h])⟩, by omega⟩⟩
  exact (first3_found ⟨x0, xlt⟩ ⟨y0, ylt⟩ ⟨z0, zlt⟩ (by simp [cycB, h]) xI yI zI).symm
theorem p_impl_cycleFault (t : List (List Int)) (hp : isTab t = true) : wp_impl_cycleFault t (fun y0 => y0 = cycF t) := p_spec_l05Fault t hp
set_option maxRecDepth 100000 in
set_option maxHeartbeats 4000000 in
theorem w_spec_l01Index (list : List Int) (n : Int) (Q : Int → Prop) (h : wp_spec_l01Index list n Q) : AF Tryd.prog 47 [.lst (ints list), ci n] (fun R_ => ∃ y0, Q y0 ∧ R_ = ci y0) := by
  refine AF.ofWQ (af_enter (n := 19) Tryd.func47 rfl (by rfl) rfl (Nat.le_of_ble_eq_true rfl) ?_)
  unfold wp_spec_l01Index at h
  refine aw_seq ?_
  refine aw_gh (gh_to (n := 19) (σ' := []) (env' := [(0, .c (.lst (ints list))), (1, .c (ci n))]) rfl rfl ⟨rfl, rfl, trivial⟩) ?_
  refine aw_region ?_
  refine run_s (ss_assign rfl) rfl ?_
  refine run_nil ?_
  refine aw_seq ?_
  refine aw_seq ?_
  refine aw_region ?_
  refine run_s (ss_assign rfl) rfl ?_
  refine run_nil ?_
  refine aw_block ?_
  obtain ⟨H1, m1, q1, h⟩ := h
  refine aw_loop1 (fun (v5_1 : Int) => ⟨[], [(0, .c (.lst (ints list))), (1, .c (ci n)), (5, .c (ci v5_1))], 19⟩) H1 m1 ⟨0, ghe_to (n := 19) rfl rfl ⟨rfl, rfl, rfl, trivial⟩, q1⟩ ?_
  rintro v5_1 q1
  replace h := h v5_1 q1
  refine aw_seq ?_
  refine aw_seq ?_
  refine aw_region ?_
  refine run_s (ss_move rfl) rfl ?_
  refine run_s (ss_move rfl) rfl ?_
  refine run_s (ss_lenL (f := ci) rfl) rfl ?_
  refine run_s (ss_lss rfl rfl) rfl ?_
  refine run_nil ?_
  refine aw_cond rfl (fun q2 => ?_) (fun q2 => ?_)
  ·replace h := h.1 (of_decide_eq_true q2)
   refine aw_skip ?_
   refine aw_seq ?_
   refine aw_block ?_
   refine aw_seq ?_
   refine aw_region ?_
   refine run_s (ss_move rfl) rfl ?_
   refine run_s (ss_move rfl) rfl ?_
   obtain ⟨q3, h⟩ := h
   refine run_s (ss_idxL rfl rfl q3) rfl ?_
   refine run_s (ss_loadL (f := ci) rfl q3) rfl ?_
   refine run_s (ss_move rfl) rfl ?_
   refine run_s (ss_eql rfl rfl) rfl ?_
   refine run_nil ?_
   refine aw_cond rfl (fun q4 => ?_) (fun q4 => ?_)
   ·replace h := h.1 (of_decide_eq_true q4)
    refine aw_seq ?_
    refine aw_gh (gh_to (n := 19) (σ' := []) (env' := [(5, .c (ci v5_1))]) rfl rfl ⟨rfl, trivial⟩) ?_
    refine aw_region ?_
    refine run_s (ss_move rfl) rfl ?_
    refine run_s (ss_assign rfl) rfl ?_
    refine run_nil ?_
    refine aw_ret ?_
    exact retAF_mk (retv1 rfl (rv_tmp rfl)) rfl rfl ⟨_, (cle_refl _), _, h, rfl⟩
   ·replace h := h.2 (of_decide_eq_false q4)
    refine aw_skip ?_
    refine aw_gh (gh_to (n := 19) (σ' := []) (env' := [(0, .c (.lst (ints list))), (1, .c (ci n)), (5, .c (ci v5_1))]) rfl rfl ⟨rfl, rfl, rfl, trivial⟩) ?_
    refine aw_region ?_
    refine run_s (ss_move rfl) rfl ?_
    obtain ⟨q5, h⟩ := h
    refine run_s (ss_add rfl rfl q5) rfl ?_
    refine run_s (ss_assign rfl) rfl ?_
    refine run_nil ?_
    exact ⟨v5_1 + 1, ghe_to (n := 19) rfl rfl ⟨rfl, rfl, rfl, trivial⟩, h.1, h.2⟩
  ·replace h := h.2 (of_decide_eq_false q2)
   refine aw_exit ?_
   refine aw_seq ?_
   refine aw_gh (gh_to (n := 19) (σ' := []) (env' := []) rfl rfl trivial) ?_
   refine aw_region ?_
   refine run_s (ss_assign rfl) rfl ?_
   refine run_nil ?_
   refine aw_ret ?_
   exact retAF_mk (retv1 rfl (rv_tmp rfl)) rfl rfl ⟨_, (cle_refl _), _, h, rfl⟩

theorem c_spec_l01Index (list : List Int) (n : Int) (hp : small list) : AF Tryd.prog 47 [.lst (ints list), ci n] (fun R_ => R_ = ci (idxI list n)) :=
  (w_spec_l01Index list n (fun y0 => y0 = idxI list n) (p_spec_l01Index list n hp)).mono (by rintro r ⟨_, rfl, rfl⟩; rfl)

set_option maxRecDepth 100000 in
set_option maxHeartbeats 4000000 in
theorem w_spec_l01Has (list : List Int) (n : Int) (Q : Bool → Prop) (h : wp_spec_l01Has list n Q) : AF Tryd.prog 41 [.lst (ints list), ci n] (fun R_ => ∃ y0, Q y0 ∧ R_ = cb y0) := by
  refine AF.ofWQ (af_enter (n := 9) Tryd.func41 rfl (by rfl) rfl (Nat.le_of_ble_eq_true rfl) ?_)
  unfold wp_spec_l01Has at h
  refine aw_seq ?_
  refine aw_gh (gh_to (n := 9) (σ' := []) (env' := [(0, .c (.lst (ints list))), (1, .c (ci n))]) rfl rfl ⟨rfl, rfl, trivial⟩) ?_
  refine aw_region ?_
  refine run_s (ss_assign rfl) rfl ?_
  refine run_nil ?_
  refine aw_seq ?_
  refine aw_region ?_
  refine run_s (ss_move rfl) rfl ?_
  refine run_s (ss_move rfl) rfl ?_
  obtain ⟨q1, h⟩ := h
  refine run_w (ws_call (xs := [.tmp 5, .tmp 6]) (ids := []) rfl rfl rfl rfl (c_spec_l01Index list n q1) rfl ?_ )
  rintro _ rfl
  refine ⟨rfl, ?_⟩
  refine run_s (ss_geq rfl rfl) rfl ?_
  refine run_s (ss_assign rfl) rfl ?_
  refine run_nil ?_
  refine aw_ret ?_
  exact retAF_mk (retv1 rfl (rv_tmp rfl)) rfl rfl ⟨_, (cle_refl _), _, h, rfl⟩

theorem c_spec_l01Has (list : List Int) (n : Int) (hp : small list) : AF Tryd.prog 41 [.lst (ints list), ci n] (fun R_ => R_ = cb (list.contains n)) :=
  (w_spec_l01Has list n (fun y0 => y0 = list.contains n) (p_spec_l01Has list n hp)).mono (by rintro r ⟨_, rfl, rfl⟩; rfl)

set_option maxRecDepth 100000 in
set_option maxHeartbeats 4000000 in
theorem w_spec_l01Perm (p : List Int) (Q : Bool → Prop) (h : wp_spec_l01Perm p Q) : AF Tryd.prog 31 [.lst (ints p)] (fun R_ => ∃ y0, Q y0 ∧ R_ = cb y0) := by
  refine AF.ofWQ (af_enter (n := 19) Tryd.func31 rfl (by rfl) rfl (Nat.le_of_ble_eq_true rfl) ?_)
  unfold wp_spec_l01Perm at h
  refine aw_seq ?_
  refine aw_gh (gh_to (n := 19) (σ' := []) (env' := [(0, .c (.lst (ints p)))]) rfl rfl ⟨rfl, trivial⟩) ?_
  refine aw_region ?_
  refine run_s (ss_assign rfl) rfl ?_
  refine run_nil ?_
  refine aw_seq ?_
  refine aw_region ?_
  refine run_s (ss_move rfl) rfl ?_
  refine run_s (ss_lenL (f := ci) rfl) rfl ?_
  refine run_s (ss_assign rfl) rfl ?_
  refine run_nil ?_
  refine aw_seq ?_
  refine aw_seq ?_
  refine aw_region ?_
  refine run_s (ss_move rfl) rfl ?_
  refine run_w (ws_call (xs := [.tmp 7, .const (.int .i64 (1)), .const (.int .i64 (12))]) (ids := []) rfl rfl rfl rfl (c_spec_l01In (p.length : Int) 1 12) rfl ?_ )
  rintro _ rfl
  refine ⟨rfl, ?_⟩
  refine run_s (ss_not rfl) rfl ?_
  refine run_nil ?_
  refine aw_cond rfl (fun q2 => ?_) (fun q2 => ?_)
  ·replace h := h.1 ((bnot_t q2))
   refine aw_seq ?_
   refine aw_gh (gh_to (n := 19) (σ' := []) (env' := [(2, .c (cb false))]) rfl rfl ⟨rfl, trivial⟩) ?_
   refine aw_region ?_
   refine run_s (ss_assign rfl) rfl ?_
   refine run_nil ?_
   refine aw_ret ?_
   exact retAF_mk (retv1 rfl (rv_tmp rfl)) rfl rfl ⟨_, (cle_refl _), _, h, rfl⟩
  ·replace h := h.2 ((bnot_f q2))
   refine aw_skip ?_
   refine aw_seq ?_
   refine aw_seq ?_
   refine aw_gh (gh_to (n := 19) (σ' := []) (env' := [(0, .c (.lst (ints p))), (3, .c (ci (p.length : Int)))]) rfl rfl ⟨rfl, rfl, trivial⟩) ?_
   refine aw_region ?_
   refine run_s (ss_assign rfl) rfl ?_
   refine run_nil ?_
   refine aw_block ?_
   obtain ⟨H1, m1, q3, h⟩ := h
   refine aw_loop1 (fun (v4_1 : Int) => ⟨[], [(0, .c (.lst (ints p))), (3, .c (ci (p.length : Int))), (4, .c (ci v4_1))], 19⟩) H1 m1 ⟨0, ghe_to (n := 19) rfl rfl ⟨rfl, rfl, rfl, trivial⟩, q3⟩ ?_
   rintro v4_1 q3
   replace h := h v4_1 q3
   refine aw_seq ?_
   refine aw_seq ?_
   refine aw_region ?_
   refine run_s (ss_move rfl) rfl ?_
   refine run_s (ss_move rfl) rfl ?_
   refine run_s (ss_lss rfl rfl) rfl ?_
   refine run_nil ?_
   refine aw_cond rfl (fun q4 => ?_) (fun q4 => ?_)
   ·replace h := h.1 (of_decide_eq_true q4)
    refine aw_skip ?_
    refine aw_seq ?_
    refine aw_block ?_
    refine aw_seq ?_
    refine aw_region ?_
    refine run_s (ss_move rfl) rfl ?_
    refine run_s (ss_move rfl) rfl ?_
    obtain ⟨q5, h⟩ := h
    refine run_w (ws_call (xs := [.tmp 15, .tmp 16]) (ids := []) rfl rfl rfl rfl (c_spec_l01Has p v4_1 q5) rfl ?_ )
    rintro _ rfl
    refine ⟨rfl, ?_⟩
    refine run_s (ss_not rfl) rfl ?_
    refine run_nil ?_
    refine aw_cond rfl (fun q7 => ?_) (fun q7 => ?_)
    ·replace h := h.1 ((bnot_t q7))
     refine aw_seq ?_
     refine aw_gh (gh_to (n := 19) (σ' := []) (env' := []) rfl rfl trivial) ?_
     refine aw_region ?_
     refine run_s (ss_assign rfl) rfl ?_
     refine run_nil ?_
     refine aw_ret ?_
     exact retAF_mk (retv1 rfl (rv_tmp rfl)) rfl rfl ⟨_, (cle_refl _), _, h, rfl⟩
    ·replace h := h.2 ((bnot_f q7))
     refine aw_skip ?_
     refine aw_gh (gh_to (n := 19) (σ' := []) (env' := [(0, .c (.lst (ints p))), (3, .c (ci (p.length : Int))), (4, .c (ci v4_1))]) rfl rfl ⟨rfl, rfl, rfl, trivial⟩) ?_
     refine aw_region ?_
     refine run_s (ss_move rfl) rfl ?_
     obtain ⟨q8, h⟩ := h
     refine run_s (ss_add rfl rfl q8) rfl ?_
     refine run_s (ss_assign rfl) rfl ?_
     refine run_nil ?_
     exact ⟨v4_1 + 1, ghe_to (n := 19) rfl rfl ⟨rfl, rfl, rfl, trivial⟩, h.1, h.2⟩
   ·replace h := h.2 (of_decide_eq_false q4)
    refine aw_exit ?_
    refine aw_seq ?_
    refine aw_gh (gh_to (n := 19) (σ' := []) (env' := []) rfl rfl trivial) ?_
    refine aw_region ?_
    refine run_s (ss_assign rfl) rfl ?_
    refine run_nil ?_
    refine aw_ret ?_
    exact retAF_mk (retv1 rfl (rv_tmp rfl)) rfl rfl ⟨_, (cle_refl _), _, h, rfl⟩

theorem c_spec_l01Perm (p : List Int) (hp : small p) : AF Tryd.prog 31 [.lst (ints p)] (fun R_ => R_ = cb (permB p)) :=
  (w_spec_l01Perm p (fun y0 => y0 = permB p) (p_spec_l01Perm p hp)).mono (by rintro r ⟨_, rfl, rfl⟩; rfl)

set_option maxRecDepth 100000 in
set_option maxHeartbeats 4000000 in
theorem w_spec_l01Table (t : List (List Int)) (Q : Bool → Prop) (h : wp_spec_l01Table t Q) : AF Tryd.prog 29 [.lst (rows t)] (fun R_ => ∃ y0, Q y0 ∧ R_ = cb y0) := by
  refine AF.ofWQ (af_enter (n := 41) Tryd.func29 rfl (by rfl) rfl (Nat.le_of_ble_eq_true rfl) ?_)
  unfold wp_spec_l01Table at h
  refine aw_seq ?_
  refine aw_gh (gh_to (n := 41) (σ' := []) (env' := [(0, .c (.lst (rows t)))]) rfl rfl ⟨rfl, trivial⟩) ?_
  refine aw_region ?_
  refine run_s (ss_assign rfl) rfl ?_
  refine run_nil ?_
  refine aw_seq ?_
  refine aw_region ?_
  refine run_s (ss_move rfl) rfl ?_
  refine run_s (ss_lenL (f := (fun r => C.lst (ints r))) rfl) rfl ?_
  refine run_s (ss_assign rfl) rfl ?_
  refine run_nil ?_
  refine aw_seq ?_
  refine aw_seq ?_
  refine aw_region ?_
  refine run_s (ss_move rfl) rfl ?_
  refine run_w (ws_call (xs := [.tmp 8, .const (.int .i64 (1)), .const (.int .i64 (12))]) (ids := []) rfl rfl rfl rfl (c_spec_l01In (t.length : Int) 1 12) rfl ?_ )
  rintro _ rfl
  refine ⟨rfl, ?_⟩
  refine run_s (ss_not rfl) rfl ?_
  refine run_nil ?_
  refine aw_cond rfl (fun q2 => ?_) (fun q2 => ?_)
  ·replace h := h.1 ((bnot_t q2))
   refine aw_seq ?_
   refine aw_gh (gh_to (n := 41) (σ' := []) (env' := [(2, .c (cb false))]) rfl rfl ⟨rfl, trivial⟩) ?_
   refine aw_region ?_
   refine run_s (ss_assign rfl) rfl ?_
   refine run_nil ?_
   refine aw_ret ?_
   exact retAF_mk (retv1 rfl (rv_tmp rfl)) rfl rfl ⟨_, (cle_refl _), _, h, rfl⟩
  ·replace h := h.2 ((bnot_f q2))
   refine aw_skip ?_
   refine aw_seq ?_
   refine aw_seq ?_
   refine aw_gh (gh_to (n := 41) (σ' := []) (env' := [(0, .c (.lst (rows t))), (3, .c (ci (t.length : Int)))]) rfl rfl ⟨rfl, rfl, trivial⟩) ?_
   refine aw_region ?_
   refine run_s (ss_assign rfl) rfl ?_
   refine run_nil ?_
   refine aw_block ?_
   obtain ⟨H1, m1, q3, h⟩ := h
   refine aw_loop1 (fun (v4_1 : Int) => ⟨[], [(0, .c (.lst (rows t))), (3, .c (ci (t.length : Int))), (4, .c (ci v4_1))], 41⟩) H1 m1 ⟨0, ghe_to (n := 41) rfl rfl ⟨rfl, rfl, rfl, trivial⟩, q3⟩ ?_
   rintro v4_1 q3
   replace h := h v4_1 q3
   refine aw_seq ?_
   refine aw_seq ?_
   refine aw_region ?_
   refine run_s (ss_move rfl) rfl ?_
   refine run_s (ss_move rfl) rfl ?_
   refine run_s (ss_lenL (f := (fun r => C.lst (ints r))) rfl) rfl ?_
   refine run_s (ss_lss rfl rfl) rfl ?_
   refine run_nil ?_
   refine aw_cond rfl (fun q4 => ?_) (fun q4 => ?_)
   ·replace h := h.1 (of_decide_eq_true q4)
    refine aw_skip ?_
    refine aw_seq ?_
    refine aw_block ?_
    refine aw_seq ?_
    refine aw_seq ?_
    refine aw_region ?_
    refine run_s (ss_move rfl) rfl ?_
    refine run_s (ss_move rfl) rfl ?_
    obtain ⟨q5, h⟩ := h
    refine run_s (ss_idxL rfl rfl q5) rfl ?_
    refine run_s (ss_loadL (f := (fun r => C.lst (ints r))) rfl q5) rfl ?_
    refine run_s (ss_lenL (f := ci) rfl) rfl ?_
    refine run_s (ss_move rfl) rfl ?_
    refine run_s (ss_neq rfl rfl) rfl ?_
    refine run_nil ?_
    refine aw_cond rfl (fun q6 => ?_) (fun q6 => ?_)
    ·replace h := h.1 (of_decide_eq_false (bnot_t q6))
     refine aw_seq ?_
     refine aw_gh (gh_to (n := 41) (σ' := []) (env' := []) rfl rfl trivial) ?_
     refine aw_region ?_
     refine run_s (ss_assign rfl) rfl ?_
     refine run_nil ?_
     refine aw_ret ?_
     exact retAF_mk (retv1 rfl (rv_tmp rfl)) rfl rfl ⟨_, (cle_refl _), _, h, rfl⟩
    ·replace h := h.2 (of_decide_eq_true (bnot_f q6))
     refine aw_skip ?_
     refine aw_seq ?_
     refine aw_gh (gh_to (n := 41) (σ' := []) (env' := [(0, .c (.lst (rows t))), (3, .c (ci (t.length : Int))), (4, .c (ci v4_1))]) rfl rfl ⟨rfl, rfl, rfl, trivial⟩) ?_
     refine aw_region ?_
     refine run_s (ss_assign rfl) rfl ?_
     refine run_nil ?_
     refine aw_block ?_
     obtain ⟨H2, m2, q7, h⟩ := h
     refine aw_loop1 (fun (v5_2 : Int) => ⟨[], [(0, .c (.lst (rows t))), (3, .c (ci (t.length : Int))), (4, .c (ci v4_1)), (5, .c (ci v5_2))], 41⟩) H2 m2 ⟨0, ghe_to (n := 41) rfl rfl ⟨rfl, rfl, rfl, rfl, trivial⟩, q7⟩ ?_
     rintro v5_2 q7
     replace h := h v5_2 q7
     refine aw_seq ?_
     refine aw_seq ?_
     refine aw_region ?_
     refine run_s (ss_move rfl) rfl ?_
     refine run_s (ss_move rfl) rfl ?_
     refine run_s (ss_lenL (f := (fun r => C.lst (ints r))) rfl) rfl ?_
     refine run_s (ss_lss rfl rfl) rfl ?_
     refine run_nil ?_
     refine aw_cond rfl (fun q8 => ?_) (fun q8 => ?_)
     ·replace h := h.1 (of_decide_eq_true q8)
      refine aw_skip ?_
      refine aw_seq ?_
      refine aw_block ?_
      refine aw_seq ?_
      refine aw_region ?_
      refine run_s (ss_move rfl) rfl ?_
      refine run_s (ss_move rfl) rfl ?_
      obtain ⟨q9, h⟩ := h
      refine run_s (ss_idxL rfl rfl q9) rfl ?_
      refine run_s (ss_loadL (f := (fun r => C.lst (ints r))) rfl q9) rfl ?_
      refine run_s (ss_move rfl) rfl ?_
      obtain ⟨q10, h⟩ := h
      refine run_s (ss_idxL rfl rfl q10) rfl ?_
      refine run_s (ss_loadL (f := ci) rfl q10) rfl ?_
      refine run_s (ss_move rfl) rfl ?_
      obtain ⟨q11, h⟩ := h
      refine run_s (ss_sub rfl rfl q11) rfl ?_
      refine run_w (ws_call (xs := [.tmp 36, .const (.int .i64 (0)), .tmp 38]) (ids := []) rfl rfl rfl rfl (c_spec_l01In (el (el t v4_1) v5_2) 0 ((t.length : Int) - 1)) rfl ?_ )
      rintro _ rfl
      refine ⟨rfl, ?_⟩
      refine run_s (ss_not rfl) rfl ?_
      refine run_nil ?_
      refine aw_cond rfl (fun q13 => ?_) (fun q13 => ?_)
      ·replace h := h.1 ((bnot_t q13))
       refine aw_seq ?_
       refine aw_gh (gh_to (n := 41) (σ' := []) (env' := []) rfl rfl trivial) ?_
       refine aw_region ?_
       refine run_s (ss_assign rfl) rfl ?_
       refine run_nil ?_
       refine aw_ret ?_
       exact retAF_mk (retv1 rfl (rv_tmp rfl)) rfl rfl ⟨_, (cle_refl _), _, h, rfl⟩
      ·replace h := h.2 ((bnot_f q13))
       refine aw_skip ?_
       refine aw_gh (gh_to (n := 41) (σ' := []) (env' := [(0, .c (.lst (rows t))), (3, .c (ci (t.length : Int))), (4, .c (ci v4_1)), (5, .c (ci v5_2))]) rfl rfl ⟨rfl, rfl, rfl, rfl, trivial⟩) ?_
       refine aw_region ?_
       refine run_s (ss_move rfl) rfl ?_
       obtain ⟨q14, h⟩ := h
       refine run_s (ss_add rfl rfl q14) rfl ?_
       refine run_s (ss_assign rfl) rfl ?_
       refine run_nil ?_
       exact ⟨v5_2 + 1, ghe_to (n := 41) rfl rfl ⟨rfl, rfl, rfl, rfl, trivial⟩, h.1, h.2⟩
     ·replace h := h.2 (of_decide_eq_false q8)
      refine aw_exit ?_
      refine aw_gh (gh_to (n := 41) (σ' := []) (env' := [(0, .c (.lst (rows t))), (3, .c (ci (t.length : Int))), (4, .c (ci v4_1))]) rfl rfl ⟨rfl, rfl, rfl, trivial⟩) ?_
      refine aw_region ?_
      refine run_s (ss_move rfl) rfl ?_
      obtain ⟨q15, h⟩ := h
      refine run_s (ss_add rfl rfl q15) rfl ?_
      refine run_s (ss_assign rfl) rfl ?_
      refine run_nil ?_
      exact ⟨v4_1 + 1, ghe_to (n := 41) rfl rfl ⟨rfl, rfl, rfl, trivial⟩, h.1, h.2⟩
   ·replace h := h.2 (of_decide_eq_false q4)
    refine aw_exit ?_
    refine aw_seq ?_
    refine aw_gh (gh_to (n := 41) (σ' := []) (env' := []) rfl rfl trivial) ?_
    refine aw_region ?_
    refine run_s (ss_assign rfl) rfl ?_
    refine run_nil ?_
    refine aw_ret ?_
    exact retAF_mk (retv1 rfl (rv_tmp rfl)) rfl rfl ⟨_, (cle_refl _), _, h, rfl⟩

theorem c_spec_l01Table (t : List (List Int)) (hp : small2 t) : AF Tryd.prog 29 [.lst (rows t)] (fun R_ => R_ = cb (isTab t)) :=
  (w_spec_l01Table t (fun y0 => y0 = isTab t) (p_spec_l01Table t hp)).mono (by rintro r ⟨_, rfl, rfl⟩; rfl)

set_option maxRecDepth 100000 in
set_option maxHeartbeats 4000000 in
theorem w_spec_l05Squares (t : List (List Int)) (Q : List Int → Prop) (h : wp_spec_l05Squares t Q) : AF Tryd.prog 32 [.lst (rows t)] (fun R_ => ∃ y0, Q y0 ∧ R_ = .own (ints y0)) := by
  refine AF.ofWQ (af_enter (n := 23) Tryd.func32 rfl (by rfl) rfl (Nat.le_of_ble_eq_true rfl) ?_)
  unfold wp_spec_l05Squares at h
  refine aw_seq ?_
  refine aw_gh (gh_to (n := 23) (σ' := []) (env' := [(0, .c (.lst (rows t)))]) rfl rfl ⟨rfl, trivial⟩) ?_
  refine aw_region ?_
  refine run_s (ss_assign rfl) rfl ?_
  refine run_nil ?_
  refine aw_seq ?_
  refine aw_region ?_
  refine run_w (ws_buildSlice (id := 5) (ps := []) rfl rfl (Nat.le_of_ble_eq_true rfl) rfl ⟨rfl, ?_⟩)
  refine run_s (ss_assign rfl) rfl ?_
  refine run_nil ?_
  refine aw_seq ?_
  refine aw_seq ?_
  refine aw_region ?_
  refine run_s (ss_assign rfl) rfl ?_
  refine run_nil ?_
  refine aw_block ?_
  obtain ⟨H1, m1, q1, h⟩ := h
  refine aw_loop2 (fun (v4_1 : Int) (o5_1 : List Int) => ⟨[(5, ⟨ints o5_1, []⟩)], [(0, .c (.lst (rows t))), (3, .ref 5), (4, .c (ci v4_1))], 23⟩) H1 m1 ⟨0, ([] : List Int), ghe_to (n := 23) rfl rfl ⟨rfl, rfl, rfl, trivial⟩, q1⟩ ?_
  rintro v4_1 o5_1 q1
  replace h := h v4_1 o5_1 q1
  refine aw_seq ?_
  refine aw_seq ?_
  refine aw_region ?_
  refine run_s (ss_move rfl) rfl ?_
  refine run_s (ss_move rfl) rfl ?_
  refine run_s (ss_lenL (f := (fun r => C.lst (ints r))) rfl) rfl ?_
  refine run_s (ss_lss rfl rfl) rfl ?_
  refine run_nil ?_
  refine aw_cond rfl (fun q2 => ?_) (fun q2 => ?_)
  ·replace h := h.1 (of_decide_eq_true q2)
   refine aw_skip ?_
   refine aw_seq ?_
   refine aw_block ?_
   refine aw_region ?_
   refine run_s (ss_move rfl) rfl ?_
   refine run_s (ss_move rfl) rfl ?_
   refine run_s (ss_move rfl) rfl ?_
   obtain ⟨q3, h⟩ := h
   refine run_s (ss_idxL rfl rfl q3) rfl ?_
   refine run_s (ss_loadL (f := (fun r => C.lst (ints r))) rfl q3) rfl ?_
   refine run_s (ss_move rfl) rfl ?_
   obtain ⟨q4, h⟩ := h
   refine run_s (ss_idxL rfl rfl q4) rfl ?_
   refine run_s (ss_loadL (f := ci) rfl q4) rfl ?_
   refine run_w (ws_buildSlice (id := 20) (ps := [(0, .tmp 19)]) rfl rfl (Nat.le_of_ble_eq_true rfl) rfl ⟨rfl, ?_⟩)
   obtain ⟨q5, h⟩ := h
   refine run_w (ws_app1 ci (l := o5_1) (m := [el (el t v4_1) v4_1]) rfl rfl rfl rfl rfl (Nat.le_of_ble_eq_true rfl) q5 ⟨rfl, ?_⟩)
   refine run_s (ss_assign rfl) rfl ?_
   refine run_nil ?_
   refine aw_gh (gh_to (n := 23) (σ' := [(5, ⟨ints (o5_1 ++ ([el (el t v4_1) v4_1])), []⟩)]) (env' := [(0, .c (.lst (rows t))), (3, .ref 5), (4, .c (ci v4_1))]) rfl rfl ⟨rfl, rfl, rfl, trivial⟩) ?_
   refine aw_region ?_
   refine run_s (ss_move rfl) rfl ?_
   obtain ⟨q6, h⟩ := h
   refine run_s (ss_add rfl rfl q6) rfl ?_
   refine run_s (ss_assign rfl) rfl ?_
   refine run_nil ?_
   exact ⟨v4_1 + 1, o5_1 ++ ([el (el t v4_1) v4_1]), ghe_to (n := 23) rfl rfl ⟨rfl, rfl, rfl, trivial⟩, h.1, h.2⟩
  ·replace h := h.2 (of_decide_eq_false q2)
   refine aw_exit ?_
   refine aw_seq ?_
   refine aw_gh (gh_to (n := 23) (σ' := [(5, ⟨ints o5_1, []⟩)]) (env' := [(3, .ref 5)]) rfl rfl ⟨rfl, trivial⟩) ?_
   refine aw_region ?_
   refine run_s (ss_move rfl) rfl ?_
   refine run_s (ss_assign rfl) rfl ?_
   refine run_nil ?_
   refine aw_ret ?_
   exact retAF_mk (retv1 rfl (rv_tmp rfl)) rfl rfl ⟨_, (cle_refl _), _, h, rfl⟩

theorem c_spec_l05Squares (t : List (List Int)) (hp : isTab t = true) : AF Tryd.prog 32 [.lst (rows t)] (fun R_ => R_ = .own (ints (diag t))) :=
  (w_spec_l05Squares t (fun y0 => y0 = diag t) (p_spec_l05Squares t hp)).mono (by rintro r ⟨_, rfl, rfl⟩; rfl)

set_option maxRecDepth 100000 in
set_option maxHeartbeats 4000000 in
theorem w_spec_l05Fault (t : List (List Int)) (Q : List Int → Prop) (h : wp_spec_l05Fault t Q) : AF Tryd.prog 33 [.lst (rows t)] (fun R_ => ∃ y0, Q y0 ∧ R_ = .own (ints y0)) := by
  refine AF.ofWQ (af_enter (n := 68) Tryd.func33 rfl (by rfl) rfl (Nat.le_of_ble_eq_true rfl) ?_)
  unfold wp_spec_l05Fault at h
  refine aw_seq ?_
  refine aw_gh (gh_to (n := 68) (σ' := []) (env' := [(0, .c (.lst (rows t)))]) rfl rfl ⟨rfl, trivial⟩) ?_
  refine aw_region ?_
  refine run_s (ss_assign rfl) rfl ?_
  refine run_nil ?_
  refine aw_seq ?_
  refine aw_region ?_
  refine run_s (ss_move rfl) rfl ?_
  refine run_s (ss_lenL (f := (fun r => C.lst (ints r))) rfl) rfl ?_
  refine run_s (ss_assign rfl) rfl ?_
  refine run_nil ?_
  refine aw_seq ?_
  refine aw_seq ?_
  refine aw_region ?_
  refine run_s (ss_assign rfl) rfl ?_
  refine run_nil ?_
  refine aw_block ?_
  obtain ⟨H1, m1, q1, h⟩ := h
  refine aw_loop1 (fun (v4_1 : Int) => ⟨[], [(0, .c (.lst (rows t))), (3, .c (ci (t.length : Int))), (4, .c (ci v4_1))], 68⟩) H1 m1 ⟨0, ghe_to (n := 68) rfl rfl ⟨rfl, rfl, rfl, trivial⟩, q1⟩ ?_
  rintro v4_1 q1
  replace h := h v4_1 q1
  refine aw_seq ?_
  refine aw_seq ?_
  refine aw_region ?_
  refine run_s (ss_move rfl) rfl ?_
  refine run_s (ss_move rfl) rfl ?_
  refine run_s (ss_lss rfl rfl) rfl ?_
  refine run_nil ?_
  refine aw_cond rfl (fun q2 => ?_) (fun q2 => ?_)
  ·replace h := h.1 (of_decide_eq_true q2)
   refine aw_skip ?_
   refine aw_seq ?_
   refine aw_block ?_
   refine aw_seq ?_
   refine aw_region ?_
   refine run_s (ss_assign rfl) rfl ?_
   refine run_nil ?_
   refine aw_block ?_
   obtain ⟨H2, m2, q3, h⟩ := h
   refine aw_loop1 (fun (v5_2 : Int) => ⟨[], [(0, .c (.lst (rows t))), (3, .c (ci (t.length : Int))), (4, .c (ci v4_1)), (5, .c (ci v5_2))], 68⟩) H2 m2 ⟨0, ghe_to (n := 68) rfl rfl ⟨rfl, rfl, rfl, rfl, trivial⟩, q3⟩ ?_
   rintro v5_2 q3
   replace h := h v5_2 q3
   refine aw_seq ?_
   refine aw_seq ?_
   refine aw_region ?_
   refine run_s (ss_move rfl) rfl ?_
   refine run_s (ss_move rfl) rfl ?_
   refine run_s (ss_lss rfl rfl) rfl ?_
   refine run_nil ?_
   refine aw_cond rfl (fun q4 => ?_) (fun q4 => ?_)
   ·replace h := h.1 (of_decide_eq_true q4)
    refine aw_skip ?_
    refine aw_seq ?_
    refine aw_block ?_
    refine aw_seq ?_
    refine aw_region ?_
    refine run_s (ss_assign rfl) rfl ?_
    refine run_nil ?_
    refine aw_block ?_
    obtain ⟨H3, m3, q5, h⟩ := h
    refine aw_loop1 (fun (v6_3 : Int) => ⟨[], [(0, .c (.lst (rows t))), (3, .c (ci (t.length : Int))), (4, .c (ci v4_1)), (5, .c (ci v5_2)), (6, .c (ci v6_3))], 68⟩) H3 m3 ⟨0, ghe_to (n := 68) rfl rfl ⟨rfl, rfl, rfl, rfl, rfl, trivial⟩, q5⟩ ?_
    rintro v6_3 q5
    replace h := h v6_3 q5
    refine aw_seq ?_
    refine aw_seq ?_
    refine aw_region ?_
    refine run_s (ss_move rfl) rfl ?_
    refine run_s (ss_move rfl) rfl ?_
    refine run_s (ss_lss rfl rfl) rfl ?_
    refine run_nil ?_
    refine aw_cond rfl (fun q6 => ?_) (fun q6 => ?_)
    ·replace h := h.1 (of_decide_eq_true q6)
     refine aw_skip ?_
     refine aw_seq ?_
     refine aw_block ?_
     refine aw_seq ?_
     refine aw_gh (gh_to (n := 68) (σ' := []) (env' := [(0, .c (.lst (rows t))), (3, .c (ci (t.length : Int))), (4, .c (ci v4_1)), (5, .c (ci v5_2)), (6, .c (ci v6_3))]) rfl rfl ⟨rfl, rfl, rfl, rfl, rfl, trivial⟩) ?_
     refine aw_regionD (kd := kdl [0, 0, 0, 0, 1, 0, 0, 1, 0, 1, 0, 0, 0, 1, 0, 0, 1, 0, 1, 0, 0, 0, 0, 1, 0, 0, 1, 0, 1, 0, 0, 0, 1, 0, 0, 1, 0, 1, 0]) (ord := [0, 1, 2, 3, 5, 10, 11, 12, 14, 19, 20, 21, 22, 24, 29, 30, 31, 33, 4, 6, 7, 8, 9, 13, 15, 16, 17, 18, 23, 25, 26, 27, 28, 32, 34, 35, 36, 37, 38]) [] mixed (by kernel_rfl) ?_
     refine rd_s rfl rfl trivial (ss_move rfl) rfl ?_
     refine rd_s rfl rfl trivial (ss_move rfl) rfl ?_
     refine rd_s rfl rfl trivial (ss_move rfl) rfl ?_
     obtain ⟨q7, h⟩ := h
     refine rd_s rfl rfl trivial (ss_idxL rfl rfl q7) rfl ?_
     refine rd_s rfl rfl trivial (ss_move rfl) rfl ?_
     refine rd_s rfl rfl trivial (ss_move rfl) rfl ?_
     refine rd_s rfl rfl trivial (ss_move rfl) rfl ?_
     obtain ⟨q8, h⟩ := h
     refine rd_s rfl rfl trivial (ss_idxL rfl rfl q8) rfl ?_
     refine rd_s rfl rfl trivial (ss_move rfl) rfl ?_
     refine rd_s rfl rfl trivial (ss_move rfl) rfl ?_
     refine rd_s rfl rfl trivial (ss_move rfl) rfl ?_
     refine rd_s rfl rfl trivial (ss_move rfl) rfl ?_
     obtain ⟨q9, h⟩ := h
     refine rd_s rfl rfl trivial (ss_idxL rfl rfl q9) rfl ?_
     refine rd_s rfl rfl trivial (ss_move rfl) rfl ?_
     refine rd_s rfl rfl trivial (ss_move rfl) rfl ?_
     refine rd_s rfl rfl trivial (ss_move rfl) rfl ?_
     obtain ⟨q10, h⟩ := h
     refine rd_s rfl rfl trivial (ss_idxL rfl rfl q10) rfl ?_
     refine rd_s rfl rfl trivial (ss_move rfl) rfl ?_
     refine rd_l rfl rfl trivial (ss_loadL (f := (fun r => C.lst (ints r))) rfl q7) rfl ?_
     obtain ⟨q11, h⟩ := h
     refine rd_s rfl rfl trivial (ss_idxL rfl rfl q11) rfl ?_
     refine rd_l rfl rfl trivial (ss_loadL (f := ci) rfl q11) rfl ?_
     obtain ⟨q12, h⟩ := h
     refine rd_s rfl rfl trivial (ss_idxL rfl rfl q12) rfl ?_
     refine rd_l rfl rfl trivial (ss_loadL (f := (fun r => C.lst (ints r))) rfl q12) rfl ?_
     refine rd_l rfl rfl trivial (ss_loadL (f := (fun r => C.lst (ints r))) rfl q8) rfl ?_
     obtain ⟨q13, h⟩ := h
     refine rd_s rfl rfl trivial (ss_idxL rfl rfl q13) rfl ?_
     refine rd_l rfl rfl trivial (ss_loadL (f := ci) rfl q13) rfl ?_
     obtain ⟨q14, h⟩ := h
     refine rd_s rfl rfl trivial (ss_idxL rfl rfl q14) rfl ?_
     refine rd_l rfl rfl trivial (ss_loadL (f := ci) rfl q14) rfl ?_
     refine rd_l rfl rfl trivial (ss_loadL (f := (fun r => C.lst (ints r))) rfl q9) rfl ?_
     obtain ⟨q15, h⟩ := h
     refine rd_s rfl rfl trivial (ss_idxL rfl rfl q15) rfl ?_
     refine rd_l rfl rfl trivial (ss_loadL (f := ci) rfl q15) rfl ?_
     obtain ⟨q16, h⟩ := h
     refine rd_s rfl rfl trivial (ss_idxL rfl rfl q16) rfl ?_
     refine rd_l rfl rfl trivial (ss_loadL (f := (fun r => C.lst (ints r))) rfl q16) rfl ?_
     refine rd_l rfl rfl trivial (ss_loadL (f := (fun r => C.lst (ints r))) rfl q10) rfl ?_
     obtain ⟨q17, h⟩ := h
     refine rd_s rfl rfl trivial (ss_idxL rfl rfl q17) rfl ?_
     refine rd_l rfl rfl trivial (ss_loadL (f := ci) rfl q17) rfl ?_
     obtain ⟨q18, h⟩ := h
     refine rd_s rfl rfl trivial (ss_idxL rfl rfl q18) rfl ?_
     refine rd_l rfl rfl trivial (ss_loadL (f := ci) rfl q18) rfl ?_
     refine rd_s rfl rfl trivial (ss_neq rfl rfl) rfl ?_
     refine rd_nil ?_
     refine aw_cond rfl (fun q19 => ?_) (fun q19 => ?_)
     ·replace h := h.1 (of_decide_eq_false (bnot_t q19))
      refine aw_seq ?_
      refine aw_gh (gh_to (n := 68) (σ' := []) (env' := [(4, .c (ci v4_1)), (5, .c (ci v5_2)), (6, .c (ci v6_3))]) rfl rfl ⟨rfl, rfl, rfl, trivial⟩) ?_
      refine aw_region ?_
      refine run_s (ss_move rfl) rfl ?_
      refine run_s (ss_move rfl) rfl ?_
      refine run_s (ss_move rfl) rfl ?_
      refine run_w (ws_buildSlice (id := 66) (ps := [(0, .tmp 63), (1, .tmp 64), (2, .tmp 65)]) rfl rfl (Nat.le_of_ble_eq_true rfl) rfl ⟨rfl, ?_⟩)
      refine run_s (ss_assign rfl) rfl ?_
      refine run_nil ?_
      refine aw_ret ?_
      exact retAF_mk (retv1 rfl (rv_tmp rfl)) rfl rfl ⟨_, (cle_refl _), _, h, rfl⟩
     ·replace h := h.2 (of_decide_eq_true (bnot_f q19))
      refine aw_skip ?_
      refine aw_gh (gh_to (n := 68) (σ' := []) (env' := [(0, .c (.lst (rows t))), (3, .c (ci (t.length : Int))), (4, .c (ci v4_1)), (5, .c (ci v5_2)), (6, .c (ci v6_3))]) rfl rfl ⟨rfl, rfl, rfl, rfl, rfl, trivial⟩) ?_
      refine aw_region ?_
      refine run_s (ss_move rfl) rfl ?_
      obtain ⟨q20, h⟩ := h
      refine run_s (ss_add rfl rfl q20) rfl ?_
      refine run_s (ss_assign rfl) rfl ?_
      refine run_nil ?_
      exact ⟨v6_3 + 1, ghe_to (n := 68) rfl rfl ⟨rfl, rfl, rfl, rfl, rfl, trivial⟩, h.1, h.2⟩
    ·replace h := h.2 (of_decide_eq_false q6)
     refine aw_exit ?_
     refine aw_region ?_
     refine run_s (ss_move rfl) rfl ?_
     obtain ⟨q21, h⟩ := h
     refine run_s (ss_add rfl rfl q21) rfl ?_
     refine run_s (ss_assign rfl) rfl ?_
     refine run_nil ?_
     exact ⟨v5_2 + 1, ghe_to (n := 68) rfl rfl ⟨rfl, rfl, rfl, rfl, trivial⟩, h.1, h.2⟩
   ·replace h := h.2 (of_decide_eq_false q4)
    refine aw_exit ?_
    refine aw_region ?_
    refine run_s (ss_move rfl) rfl ?_
    obtain ⟨q22, h⟩ := h
    refine run_s (ss_add rfl rfl q22) rfl ?_
    refine run_s (ss_assign rfl) rfl ?_
    refine run_nil ?_
    exact ⟨v4_1 + 1, ghe_to (n := 68) rfl rfl ⟨rfl, rfl, rfl, trivial⟩, h.1, h.2⟩
  ·replace h := h.2 (of_decide_eq_false q2)
   refine aw_exit ?_
   refine aw_seq ?_
   refine aw_gh (gh_to (n := 68) (σ' := []) (env' := []) rfl rfl trivial) ?_
   refine aw_region ?_
   refine run_w (ws_buildSlice (id := 67) (ps := []) rfl rfl (Nat.le_of_ble_eq_true rfl) rfl ⟨rfl, ?_⟩)
   refine run_s (ss_assign rfl) rfl ?_
   refine run_nil ?_
   refine aw_ret ?_
   exact retAF_mk (retv1 rfl (rv_tmp rfl)) rfl rfl ⟨_, (cle_refl _), _, h, rfl⟩

theorem c_spec_l05Fault (t : List (List Int)) (hp : isTab t = true) : AF Tryd.prog 33 [.lst (rows t)] (fun R_ => R_ = .own (ints (cycF t))) :=
  (w_spec_l05Fault t (fun y0 => y0 = cycF t) (p_spec_l05Fault t hp)).mono (by rintro r ⟨_, rfl, rfl⟩; rfl)

set_option maxRecDepth 100000 in
set_option maxHeartbeats 4000000 in
theorem w_impl_cycleFault (t : List (List Int)) (Q : List Int → Prop) (h : wp_impl_cycleFault t Q) : AF Tryd.prog 28 [.lst (rows t)] (fun R_ => ∃ y0, Q y0 ∧ R_ = onil y0) := by
  refine AF.ofWQ (af_enter (n := 67) Tryd.func28 rfl (by rfl) rfl (Nat.le_of_ble_eq_true rfl) ?_)
  unfold wp_impl_cycleFault at h
  refine aw_seq ?_
  refine aw_gh (gh_to (n := 67) (σ' := []) (env' := [(0, .c (.lst (rows t)))]) rfl rfl ⟨rfl, trivial⟩) ?_
  refine aw_region ?_
  refine run_s (ss_assign rfl) rfl ?_
  refine run_nil ?_
  refine aw_seq ?_
  refine aw_region ?_
  refine run_s (ss_move rfl) rfl ?_
  refine run_s (ss_lenL (f := (fun r => C.lst (ints r))) rfl) rfl ?_
  refine run_s (ss_assign rfl) rfl ?_
  refine run_nil ?_
  refine aw_seq ?_
  refine aw_seq ?_
  refine aw_region ?_
  refine run_s (ss_move rfl) rfl ?_
  refine run_s (ss_move rfl) rfl ?_
  refine run_nil ?_
  refine aw_block ?_
  obtain ⟨H1, m1, q1, h⟩ := h
  refine aw_loop1 (fun (v10_1 : Int) => ⟨[], [(0, .c (.lst (rows t))), (3, .c (ci (t.length : Int))), (9, .c (ci (t.length : Int))), (10, .c (ci v10_1))], 67⟩) H1 m1 ⟨0, ghe_to (n := 67) rfl rfl ⟨rfl, rfl, rfl, rfl, trivial⟩, q1⟩ ?_
  rintro v10_1 q1
  replace h := h v10_1 q1
  refine aw_seq ?_
  refine aw_region ?_
  refine run_s (ss_lss rfl rfl) rfl ?_
  refine run_nil ?_
  refine aw_seq ?_
  refine aw_cond rfl (fun q2 => ?_) (fun q2 => ?_)
  ·replace h := h.1 (of_decide_eq_true q2)
   refine aw_skip ?_
   refine aw_seq ?_
   refine aw_block ?_
   refine aw_seq ?_
   refine aw_region ?_
   refine run_s (ss_move rfl) rfl ?_
   refine run_s (ss_assign rfl) rfl ?_
   refine run_nil ?_
   refine aw_seq ?_
   refine aw_region ?_
   refine run_s (ss_move rfl) rfl ?_
   refine run_s (ss_move rfl) rfl ?_
   refine run_nil ?_
   refine aw_block ?_
   obtain ⟨H2, m2, q3, h⟩ := h
   refine aw_loop1 (fun (v14_2 : Int) => ⟨[], [(0, .c (.lst (rows t))), (3, .c (ci (t.length : Int))), (4, .c (ci v10_1)), (9, .c (ci (t.length : Int))), (10, .c (ci v10_1)), (13, .c (ci (t.length : Int))), (14, .c (ci v14_2))], 67⟩) H2 m2 ⟨0, ghe_to (n := 67) rfl rfl ⟨rfl, rfl, rfl, rfl, rfl, rfl, rfl, trivial⟩, q3⟩ ?_
   rintro v14_2 q3
   replace h := h v14_2 q3
   refine aw_seq ?_
   refine aw_region ?_
   refine run_s (ss_lss rfl rfl) rfl ?_
   refine run_nil ?_
   refine aw_seq ?_
   refine aw_cond rfl (fun q4 => ?_) (fun q4 => ?_)
   ·replace h := h.1 (of_decide_eq_true q4)
    refine aw_skip ?_
    refine aw_seq ?_
    refine aw_block ?_
    refine aw_seq ?_
    refine aw_region ?_
    refine run_s (ss_move rfl) rfl ?_
    refine run_s (ss_assign rfl) rfl ?_
    refine run_nil ?_
    refine aw_seq ?_
    refine aw_region ?_
    refine run_s (ss_move rfl) rfl ?_
    refine run_s (ss_move rfl) rfl ?_
    refine run_nil ?_
    refine aw_block ?_
    obtain ⟨H3, m3, q5, h⟩ := h
    refine aw_loop1 (fun (v18_3 : Int) => ⟨[], [(0, .c (.lst (rows t))), (3, .c (ci (t.length : Int))), (4, .c (ci v10_1)), (5, .c (ci v14_2)), (9, .c (ci (t.length : Int))), (10, .c (ci v10_1)), (13, .c (ci (t.length : Int))), (14, .c (ci v14_2)), (17, .c (ci (t.length : Int))), (18, .c (ci v18_3))], 67⟩) H3 m3 ⟨0, ghe_to (n := 67) rfl rfl ⟨rfl, rfl, rfl, rfl, rfl, rfl, rfl, rfl, rfl, rfl, trivial⟩, q5⟩ ?_
    rintro v18_3 q5
    replace h := h v18_3 q5
    refine aw_seq ?_
    refine aw_region ?_
    refine run_s (ss_lss rfl rfl) rfl ?_
    refine run_nil ?_
    refine aw_seq ?_
    refine aw_cond rfl (fun q6 => ?_) (fun q6 => ?_)
    ·replace h := h.1 (of_decide_eq_true q6)
     refine aw_skip ?_
     refine aw_seq ?_
     refine aw_block ?_
     refine aw_seq ?_
     refine aw_region ?_
     refine run_s (ss_move rfl) rfl ?_
     refine run_s (ss_assign rfl) rfl ?_
     refine run_nil ?_
     refine aw_seq ?_
     refine aw_gh (gh_to (n := 67) (σ' := []) (env' := [(0, .c (.lst (rows t))), (3, .c (ci (t.length : Int))), (4, .c (ci v10_1)), (5, .c (ci v14_2)), (6, .c (ci v18_3)), (9, .c (ci (t.length : Int))), (10, .c (ci v10_1)), (13, .c (ci (t.length : Int))), (14, .c (ci v14_2)), (17, .c (ci (t.length : Int))), (18, .c (ci v18_3))]) rfl rfl ⟨rfl, rfl, rfl, rfl, rfl, rfl, rfl, rfl, rfl, rfl, rfl, trivial⟩) ?_
     refine aw_regionD (kd := kdl [0, 0, 0, 0, 1, 0, 0, 1, 0, 1, 0, 0, 0, 1, 0, 0, 1, 0, 1, 0, 0, 0, 0, 1, 0, 0, 1, 0, 1, 0, 0, 0, 1, 0, 0, 1, 0, 1, 0]) (ord := [0, 1, 2, 3, 5, 10, 11, 12, 14, 19, 20, 21, 22, 24, 29, 30, 31, 33, 4, 6, 7, 8, 9, 13, 15, 16, 17, 18, 23, 25, 26, 27, 28, 32, 34, 35, 36, 37, 38]) [] mixed (by kernel_rfl) ?_
     refine rd_s rfl rfl trivial (ss_move rfl) rfl ?_
     refine rd_s rfl rfl trivial (ss_move rfl) rfl ?_
     refine rd_s rfl rfl trivial (ss_move rfl) rfl ?_
     obtain ⟨q7, h⟩ := h
     refine rd_s rfl rfl trivial (ss_idxL rfl rfl q7) rfl ?_
     refine rd_s rfl rfl trivial (ss_move rfl) rfl ?_
     refine rd_s rfl rfl trivial (ss_move rfl) rfl ?_
     refine rd_s rfl rfl trivial (ss_move rfl) rfl ?_
     obtain ⟨q8, h⟩ := h
     refine rd_s rfl rfl trivial (ss_idxL rfl rfl q8) rfl ?_
     refine rd_s rfl rfl trivial (ss_move rfl) rfl ?_
     refine rd_s rfl rfl trivial (ss_move rfl) rfl ?_
     refine rd_s rfl rfl trivial (ss_move rfl) rfl ?_
     refine rd_s rfl rfl trivial (ss_move rfl) rfl ?_
     obtain ⟨q9, h⟩ := h
     refine rd_s rfl rfl trivial (ss_idxL rfl rfl q9) rfl ?_
     refine rd_s rfl rfl trivial (ss_move rfl) rfl ?_
     refine rd_s rfl rfl trivial (ss_move rfl) rfl ?_
     refine rd_s rfl rfl trivial (ss_move rfl) rfl ?_
     obtain ⟨q10, h⟩ := h
     refine rd_s rfl rfl trivial (ss_idxL rfl rfl q10) rfl ?_
     refine rd_s rfl rfl trivial (ss_move rfl) rfl ?_
     refine rd_l rfl rfl trivial (ss_loadL (f := (fun r => C.lst (ints r))) rfl q7) rfl ?_
     obtain ⟨q11, h⟩ := h
     refine rd_s rfl rfl trivial (ss_idxL rfl rfl q11) rfl ?_
     refine rd_l rfl rfl trivial (ss_loadL (f := ci) rfl q11) rfl ?_
     obtain ⟨q12, h⟩ := h
     refine rd_s rfl rfl trivial (ss_idxL rfl rfl q12) rfl ?_
     refine rd_l rfl rfl trivial (ss_loadL (f := (fun r => C.lst (ints r))) rfl q12) rfl ?_
     refine rd_l rfl rfl trivial (ss_loadL (f := (fun r => C.lst (ints r))) rfl q8) rfl ?_
     obtain ⟨q13, h⟩ := h
     refine rd_s rfl rfl trivial (ss_idxL rfl rfl q13) rfl ?_
     refine rd_l rfl rfl trivial (ss_loadL (f := ci) rfl q13) rfl ?_
     obtain ⟨q14, h⟩ := h
     refine rd_s rfl rfl trivial (ss_idxL rfl rfl q14) rfl ?_
     refine rd_l rfl rfl trivial (ss_loadL (f := ci) rfl q14) rfl ?_
     refine rd_l rfl rfl trivial (ss_loadL (f := (fun r => C.lst (ints r))) rfl q9) rfl ?_
     obtain ⟨q15, h⟩ := h
     refine rd_s rfl rfl trivial (ss_idxL rfl rfl q15) rfl ?_
     refine rd_l rfl rfl trivial (ss_loadL (f := ci) rfl q15) rfl ?_
     obtain ⟨q16, h⟩ := h
     refine rd_s rfl rfl trivial (ss_idxL rfl rfl q16) rfl ?_
     refine rd_l rfl rfl trivial (ss_loadL (f := (fun r => C.lst (ints r))) rfl q16) rfl ?_
     refine rd_l rfl rfl trivial (ss_loadL (f := (fun r => C.lst (ints r))) rfl q10) rfl ?_
     obtain ⟨q17, h⟩ := h
     refine rd_s rfl rfl trivial (ss_idxL rfl rfl q17) rfl ?_
     refine rd_l rfl rfl trivial (ss_loadL (f := ci) rfl q17) rfl ?_
     obtain ⟨q18, h⟩ := h
     refine rd_s rfl rfl trivial (ss_idxL rfl rfl q18) rfl ?_
     refine rd_l rfl rfl trivial (ss_loadL (f := ci) rfl q18) rfl ?_
     refine rd_s rfl rfl trivial (ss_neq rfl rfl) rfl ?_
     refine rd_nil ?_
     refine aw_cond rfl (fun q19 => ?_) (fun q19 => ?_)
     ·replace h := h.1 (of_decide_eq_false (bnot_t q19))
      refine aw_seq ?_
      refine aw_gh (gh_to (n := 67) (σ' := []) (env' := [(4, .c (ci v10_1)), (5, .c (ci v14_2)), (6, .c (ci v18_3))]) rfl rfl ⟨rfl, rfl, rfl, trivial⟩) ?_
      refine aw_region ?_
      refine run_s (ss_move rfl) rfl ?_
      refine run_s (ss_move rfl) rfl ?_
      refine run_s (ss_move rfl) rfl ?_
      refine run_w (ws_buildSlice (id := 63) (ps := [(0, .tmp 60), (1, .tmp 61), (2, .tmp 62)]) rfl rfl (Nat.le_of_ble_eq_true rfl) rfl ⟨rfl, ?_⟩)
      refine run_s (ss_assign rfl) rfl ?_
      refine run_nil ?_
      refine aw_ret ?_
      exact retAF_mk (retv1 rfl (rv_tmp rfl)) rfl rfl ⟨_, (cle_refl _), _, h, rfl⟩
     ·replace h := h.2 (of_decide_eq_true (bnot_f q19))
      refine aw_skip ?_
      refine aw_gh (gh_to (n := 67) (σ' := []) (env' := [(0, .c (.lst (rows t))), (3, .c (ci (t.length : Int))), (4, .c (ci v10_1)), (5, .c (ci v14_2)), (9, .c (ci (t.length : Int))), (10, .c (ci v10_1)), (13, .c (ci (t.length : Int))), (14, .c (ci v14_2)), (17, .c (ci (t.length : Int))), (18, .c (ci v18_3))]) rfl rfl ⟨rfl, rfl, rfl, rfl, rfl, rfl, rfl, rfl, rfl, rfl, trivial⟩) ?_
      refine aw_region ?_
      obtain ⟨q20, h⟩ := h
      refine run_s (ss_add rfl rfl q20) rfl ?_
      refine run_s (ss_move rfl) rfl ?_
      refine run_nil ?_
      exact ⟨v18_3 + 1, ghe_to (n := 67) rfl rfl ⟨rfl, rfl, rfl, rfl, rfl, rfl, rfl, rfl, rfl, rfl, trivial⟩, h.1, h.2⟩
    ·replace h := h.2 (of_decide_eq_false q6)
     refine aw_exit ?_
     refine aw_gh (gh_to (n := 67) (σ' := []) (env' := [(0, .c (.lst (rows t))), (3, .c (ci (t.length : Int))), (4, .c (ci v10_1)), (9, .c (ci (t.length : Int))), (10, .c (ci v10_1)), (13, .c (ci (t.length : Int))), (14, .c (ci v14_2))]) rfl rfl ⟨rfl, rfl, rfl, rfl, rfl, rfl, rfl, trivial⟩) ?_
     refine aw_region ?_
     obtain ⟨q21, h⟩ := h
     refine run_s (ss_add rfl rfl q21) rfl ?_
     refine run_s (ss_move rfl) rfl ?_
     refine run_nil ?_
     exact ⟨v14_2 + 1, ghe_to (n := 67) rfl rfl ⟨rfl, rfl, rfl, rfl, rfl, rfl, rfl, trivial⟩, h.1, h.2⟩
   ·replace h := h.2 (of_decide_eq_false q4)
    refine aw_exit ?_
    refine aw_gh (gh_to (n := 67) (σ' := []) (env' := [(0, .c (.lst (rows t))), (3, .c (ci (t.length : Int))), (9, .c (ci (t.length : Int))), (10, .c (ci v10_1))]) rfl rfl ⟨rfl, rfl, rfl, rfl, trivial⟩) ?_
    refine aw_region ?_
    obtain ⟨q22, h⟩ := h
    refine run_s (ss_add rfl rfl q22) rfl ?_
    refine run_s (ss_move rfl) rfl ?_
    refine run_nil ?_
    exact ⟨v10_1 + 1, ghe_to (n := 67) rfl rfl ⟨rfl, rfl, rfl, rfl, trivial⟩, h.1, h.2⟩
  ·replace h := h.2 (of_decide_eq_false q2)
   refine aw_exit ?_
   refine aw_seq ?_
   refine aw_gh (gh_to (n := 67) (σ' := []) (env' := []) rfl rfl trivial) ?_
   refine aw_region ?_
   refine run_s (ss_assign rfl) rfl ?_
   refine run_nil ?_
   refine aw_ret ?_
   exact retAF_mk (retv1 rfl (rv_tmp rfl)) rfl rfl ⟨_, (cle_refl _), _, h, rfl⟩

theorem c_impl_cycleFault (t : List (List Int)) (hp : isTab t = true) : AF Tryd.prog 28 [.lst (rows t)] (fun R_ => R_ = onil (cycF t)) :=
  (w_impl_cycleFault t (fun y0 => y0 = cycF t) (p_impl_cycleFault t hp)).mono (by rintro r ⟨_, rfl, rfl⟩; rfl)

end Go.Proofs.YtjolbldlhjfciaaDoor

/- Contracts of functions that the law FnExactParseCycleSet reaches: conditions, plain proofs, walks; no condition. -/
import Derived.Test.YtkmoeodoidpjkaaDoorKEParseCycleSeta
import Derived.Test.YtkmoeodoidpjkaaDoorPP
namespace Go.Proofs.YtkmoeodoidpjkaaDoor

def wp_spec_l01Rows (t : List (List Int)) (Q : Bool → Prop) : Prop :=
 ∃ (H1 : Int → Prop) (m1 : Int → Nat),
 H1 0 ∧
 ∀ (v3_1 : Int), H1 v3_1 →
 ( ((v3_1 < (t.length : Int) →
 (0 ≤ v3_1 ∧ v3_1 < (t.length : Int)) ∧
 (small (el t v3_1)) ∧
 (((permB (el t v3_1)) = false →
 Q false) ∧
 ((permB (el t v3_1)) = true →
 (InI (v3_1 + 1)) ∧
 (H1 (v3_1 + 1) ∧ m1 (v3_1 + 1) < m1 v3_1)))) ∧
 (¬ (v3_1 < (t.length : Int)) →
 Q true)))

def wp_impl_permutationRows_1 (row : List Int) (Q : Bool → Prop) : Prop :=
 (small row) ∧
 Q (!((isPerm row)))

def wp_impl_permutationRows (t : List (List Int)) (Q : Bool → Prop) : Prop :=
 (small t ∧ ∀ r_ ∈ t, (fun z0 => small z0) r_) ∧
 Q (!((t.any (fun z0 => !isPerm z0))))

def wp_impl_IsCycleSet (c : List (List Int)) (Q : Bool → Prop) : Prop :=
 (small2 c) ∧
 (((isTab c) = true →
 (small2 c) ∧
 (((c.all isPerm) = true →
 (isTab c = true) ∧
 (small (diag c)) ∧
 (((isPerm (diag c)) = true →
 (((cycF c) = [] →
 (isTab c = true) ∧
 Q true) ∧
 (¬ (cycF c) = [] →
 (isTab c = true) ∧
 Q false))) ∧
 ((isPerm (diag c)) = false →
 Q false))) ∧
 ((c.all isPerm) = false →
 Q false))) ∧
 ((isTab c) = false →
 Q false))

def wp_spec_l05Is (c : List (List Int)) (Q : Bool → Prop) : Prop :=
 (small2 c) ∧
 (((isTab c) = true →
 (small2 c) ∧
 (((c.all permB) = true →
 (isTab c = true) ∧
 (small (diag c)) ∧
 (((permB (diag c)) = true →
 (isTab c = true) ∧
 Q (decide (((cycF c).length : Int) = 0))) ∧
 ((permB (diag c)) = false →
 Q false))) ∧
 ((c.all permB) = false →
 Q false))) ∧
 ((isTab c) = false →
 Q false))

theorem p_spec_l01Rows (t : List (List Int)) (hp : small2 t) : wp_spec_l01Rows t (fun y0 => y0 = t.all permB) := by
  unfold wp_spec_l01Rows
  obtain ⟨h1, h2⟩ := hp
  refine ⟨fun i => 0 ≤ i ∧ i ≤ (t.length : Int) ∧ Upto i fun j => permB (el t j) = true, fun i => ((t.length : Int) - i).toNat, ⟨by omega, by omega, upto0⟩, ?_⟩
  rintro i ⟨h0, h3, hI⟩
  dsimp only
  refine ⟨fun hlt => ⟨⟨h0, hlt⟩, h2 _ (el_mem ⟨h0, hlt⟩), fun hf => (all_f ⟨h0, hlt⟩ hf).symm, fun ht => ⟨⟨by omega, by omega⟩, ⟨by omega, by omega, upto1 hI ht⟩, by omega⟩⟩, fun hge => ?_⟩
  exact (all_t (by rwa [show i = (t.length : Int) by omega] at hI)).symm
theorem p_impl_permutationRows_1 (row : List Int) (hp : small row) : wp_impl_permutationRows_1 row (fun y0 => y0 = !isPerm row) := ⟨hp, rfl⟩
theorem p_impl_permutationRows (t : List (List Int)) (hp : small2 t) : wp_impl_permutationRows t (fun y0 => y0 = t.all isPerm) := by
  refine ⟨⟨hp.1, hp.2⟩, ?_⟩
  rw [List.not_any_eq_all_not]; simp
theorem isEmpty_iff_nil {l : List Int} : l.isEmpty = decide ((l.length : Int) = 0) := by cases l <;> simp; omega
theorem small_diag {c : List (List Int)} (h : isTab c = true) : small (diag c) := by have := isTab_len h; show ((diag c).length : Int) ≤ 1000000000; simp; omega
theorem p_impl_IsCycleSet (c : List (List Int)) (hp : small2 c) : wp_impl_IsCycleSet c (fun y0 => y0 = isCyc c) := by
  unfold wp_impl_IsCycleSet isCyc
  refine ⟨hp, fun h => ⟨hp, fun h2 => ⟨h, small_diag h, fun h3 => ⟨fun h4 => ⟨h, ?_⟩, fun h4 => ⟨h, ?_⟩⟩, fun h3 => ?_⟩, fun h2 => ?_⟩, fun h => ?_⟩
  · rw [h, h2, h3, h4]; rfl
  · rw [h, h2, h3]; cases e : cycF c with
    | nil => exact absurd e h4
    | cons x l => rfl
  · rw [h, h2, h3]; rfl
  · rw [h, h2]; rfl
  · rw [h]; rfl
theorem permB_diag {c : List (List Int)} (h : isTab c = true) : permB (diag c) = isPerm (diag c) := by
  have := isTab_len h
  unfold permB
  have e1 : decide (1 ≤ ((diag c).length : Int)) = true := decide_eq_true (by simp; omega)
  have e2 : decide (((diag c).length : Int) ≤ 12) = true := decide_eq_true (by simp; omega)
  rw [e1, e2]; rfl
theorem p_spec_l05Is (c : List (List Int)) (hp : small2 c) : wp_spec_l05Is c (fun y0 => y0 = isCyc c) := by
  unfold wp_spec_l05Is isCyc
  refine ⟨hp, fun h => ⟨hp, fun h2 => ⟨h, small_diag h, fun h3 => ⟨h, ?_⟩, fun h3 => ?_⟩, fun h2 => ?_⟩, fun h => ?_⟩
  · rw [isTab_perm h] at h2
    rw [permB_diag h] at h3
    rw [h, h2, h3, isEmpty_iff_nil]; rfl
  · rw [isTab_perm h] at h2
    rw [permB_diag h] at h3
    rw [h, h2, h3]; rfl
  · rw [isTab_perm h] at h2
    rw [h, h2]; rfl
  · rw [h]; rfl
set_option maxRecDepth 100000 in
set_option maxHeartbeats 4000000 in
theorem w_spec_l01Rows (t : List (List Int)) (Q : Bool → Prop) (h : wp_spec_l01Rows t Q) : AF Tryd.prog 37 [.lst (rows t)] (fun R_ => ∃ y0, Q y0 ∧ R_ = cb y0) := by
  refine AF.ofWQ (af_enter (n := 16) Tryd.func37 rfl (by rfl) rfl (Nat.le_of_ble_eq_true rfl) ?_)
  unfold wp_spec_l01Rows at h
  refine aw_seq ?_
  refine aw_gh (gh_to (n := 16) (σ' := []) (env' := [(0, .c (.lst (rows t)))]) rfl rfl ⟨rfl, trivial⟩) ?_
  refine aw_region ?_
  refine run_s (ss_assign rfl) rfl ?_
  refine run_nil ?_
  refine aw_seq ?_
  refine aw_seq ?_
  refine aw_region ?_
  refine run_s (ss_assign rfl) rfl ?_
  refine run_nil ?_
  refine aw_block ?_
  obtain ⟨H1, m1, q1, h⟩ := h
  refine aw_loop1 (fun (v3_1 : Int) => ⟨[], [(0, .c (.lst (rows t))), (3, .c (ci v3_1))], 16⟩) H1 m1 ⟨0, ghe_to (n := 16) rfl rfl ⟨rfl, rfl, trivial⟩, q1⟩ ?_
  rintro v3_1 q1
  replace h := h v3_1 q1
  refine aw_seq ?_
  refine aw_seq ?_
  refine aw_region ?_
  refine run_s (ss_move rfl) rfl ?_
  refine run_s (ss_move rfl) rfl ?_
  refine run_s (ss_lenL (f := (fun r => C.lst (ints r))) rfl) rfl ?_
  refine run_s (ss_lss rfl rfl) rfl ?_
  refine run_nil ?_
  refine aw_cond rfl (fun q2 => ?_) (fun q2 => ?_)
  ·replace h := h.1 (of_decide_eq_true q2)
   refine aw_skip ?_
   refine aw_seq ?_
   refine aw_block ?_
   refine aw_seq ?_
   refine aw_region ?_
   refine run_s (ss_move rfl) rfl ?_
   refine run_s (ss_move rfl) rfl ?_
   obtain ⟨q3, h⟩ := h
   refine run_s (ss_idxL rfl rfl q3) rfl ?_
   refine run_s (ss_loadL (f := (fun r => C.lst (ints r))) rfl q3) rfl ?_
   obtain ⟨q4, h⟩ := h
   refine run_w (ws_call (xs := [.tmp 13]) (ids := []) rfl rfl rfl rfl (c_spec_l01Perm (el t v3_1) q4) rfl ?_ )
   rintro _ rfl
   refine ⟨rfl, ?_⟩
   refine run_s (ss_not rfl) rfl ?_
   refine run_nil ?_
   refine aw_cond rfl (fun q6 => ?_) (fun q6 => ?_)
   ·replace h := h.1 ((bnot_t q6))
    refine aw_seq ?_
    refine aw_gh (gh_to (n := 16) (σ' := []) (env' := []) rfl rfl trivial) ?_
    refine aw_region ?_
    refine run_s (ss_assign rfl) rfl ?_
    refine run_nil ?_
    refine aw_ret ?_
    exact retAF_mk (retv1 rfl (rv_tmp rfl)) rfl rfl ⟨_, (cle_refl _), _, h, rfl⟩
   ·replace h := h.2 ((bnot_f q6))
    refine aw_skip ?_
    refine aw_gh (gh_to (n := 16) (σ' := []) (env' := [(0, .c (.lst (rows t))), (3, .c (ci v3_1))]) rfl rfl ⟨rfl, rfl, trivial⟩) ?_
    refine aw_region ?_
    refine run_s (ss_move rfl) rfl ?_
    obtain ⟨q7, h⟩ := h
    refine run_s (ss_add rfl rfl q7) rfl ?_
    refine run_s (ss_assign rfl) rfl ?_
    refine run_nil ?_
    exact ⟨v3_1 + 1, ghe_to (n := 16) rfl rfl ⟨rfl, rfl, trivial⟩, h.1, h.2⟩
  ·replace h := h.2 (of_decide_eq_false q2)
   refine aw_exit ?_
   refine aw_seq ?_
   refine aw_gh (gh_to (n := 16) (σ' := []) (env' := []) rfl rfl trivial) ?_
   refine aw_region ?_
   refine run_s (ss_assign rfl) rfl ?_
   refine run_nil ?_
   refine aw_ret ?_
   exact retAF_mk (retv1 rfl (rv_tmp rfl)) rfl rfl ⟨_, (cle_refl _), _, h, rfl⟩

theorem c_spec_l01Rows (t : List (List Int)) (hp : small2 t) : AF Tryd.prog 37 [.lst (rows t)] (fun R_ => R_ = cb (t.all permB)) :=
  (w_spec_l01Rows t (fun y0 => y0 = t.all permB) (p_spec_l01Rows t hp)).mono (by rintro r ⟨_, rfl, rfl⟩; rfl)

set_option maxRecDepth 100000 in
set_option maxHeartbeats 4000000 in
theorem w_impl_permutationRows_1 (row : List Int) (Q : Bool → Prop) (h : wp_impl_permutationRows_1 row Q) : AF Tryd.prog 51 [.lst (ints row)] (fun R_ => ∃ y0, Q y0 ∧ R_ = cb y0) := by
  refine AF.ofWQ (af_enter (n := 6) Tryd.func51 rfl (by rfl) rfl (Nat.le_of_ble_eq_true rfl) ?_)
  unfold wp_impl_permutationRows_1 at h
  refine aw_seq ?_
  refine aw_gh (gh_to (n := 6) (σ' := []) (env' := [(0, .c (.lst (ints row)))]) rfl rfl ⟨rfl, trivial⟩) ?_
  refine aw_region ?_
  refine run_s (ss_assign rfl) rfl ?_
  refine run_nil ?_
  refine aw_seq ?_
  refine aw_region ?_
  refine run_s (ss_move rfl) rfl ?_
  obtain ⟨q1, h⟩ := h
  refine run_w (ws_call (xs := [.tmp 3]) (ids := []) rfl rfl rfl rfl (c_impl_isPermuted row q1) rfl ?_ )
  rintro _ rfl
  refine ⟨rfl, ?_⟩
  refine run_s (ss_not rfl) rfl ?_
  refine run_s (ss_assign rfl) rfl ?_
  refine run_nil ?_
  refine aw_ret ?_
  exact retAF_mk (retv1 rfl (rv_tmp rfl)) rfl rfl ⟨_, (cle_refl _), _, h, rfl⟩

theorem c_impl_permutationRows_1 (row : List Int) (hp : small row) : AF Tryd.prog 51 [.lst (ints row)] (fun R_ => R_ = cb (!isPerm row)) :=
  (w_impl_permutationRows_1 row (fun y0 => y0 = !isPerm row) (p_impl_permutationRows_1 row hp)).mono (by rintro r ⟨_, rfl, rfl⟩; rfl)

set_option maxRecDepth 100000 in
set_option maxHeartbeats 4000000 in
theorem w_impl_permutationRows (t : List (List Int)) (Q : Bool → Prop) (h : wp_impl_permutationRows t Q) : AF Tryd.prog 32 [.lst (rows t)] (fun R_ => ∃ y0, Q y0 ∧ R_ = cb y0) := by
  refine AF.ofWQ (af_enter (n := 6) Tryd.func32 rfl (by rfl) rfl (Nat.le_of_ble_eq_true rfl) ?_)
  unfold wp_impl_permutationRows at h
  refine aw_seq ?_
  refine aw_gh (gh_to (n := 6) (σ' := []) (env' := [(0, .c (.lst (rows t)))]) rfl rfl ⟨rfl, trivial⟩) ?_
  refine aw_region ?_
  refine run_s (ss_assign rfl) rfl ?_
  refine run_nil ?_
  refine aw_seq ?_
  refine aw_region ?_
  refine run_s (ss_move rfl) rfl ?_
  obtain ⟨q1, h⟩ := h
  refine run_w (ws_call (xs := [.tmp 3, .func 51]) (ids := []) rfl rfl rfl rfl (c_k_ContainsFunc_rows t 51 [] (fun z0 => !isPerm z0) (fun z0 => small z0) (fun z0 hD => c_impl_permutationRows_1 z0 hD) q1) rfl ?_ )
  rintro _ rfl
  refine ⟨rfl, ?_⟩
  refine run_s (ss_not rfl) rfl ?_
  refine run_s (ss_assign rfl) rfl ?_
  refine run_nil ?_
  refine aw_ret ?_
  exact retAF_mk (retv1 rfl (rv_tmp rfl)) rfl rfl ⟨_, (cle_refl _), _, h, rfl⟩

theorem c_impl_permutationRows (t : List (List Int)) (hp : small2 t) : AF Tryd.prog 32 [.lst (rows t)] (fun R_ => R_ = cb (t.all isPerm)) :=
  (w_impl_permutationRows t (fun y0 => y0 = t.all isPerm) (p_impl_permutationRows t hp)).mono (by rintro r ⟨_, rfl, rfl⟩; rfl)

set_option maxRecDepth 100000 in
set_option maxHeartbeats 4000000 in
theorem w_impl_IsCycleSet (c : List (List Int)) (Q : Bool → Prop) (h : wp_impl_IsCycleSet c Q) : AF Tryd.prog 23 [.agg [.lst (rows c)]] (fun R_ => ∃ y0, Q y0 ∧ R_ = cb y0) := by
  refine AF.ofWQ (af_enter (n := 22) Tryd.func23 rfl (by rfl) rfl (Nat.le_of_ble_eq_true rfl) ?_)
  unfold wp_impl_IsCycleSet at h
  refine aw_seq ?_
  refine aw_gh (gh_to (n := 22) (σ' := []) (env' := [(0, .c (.agg [.lst (rows c)]))]) rfl rfl ⟨rfl, trivial⟩) ?_
  refine aw_region ?_
  refine run_w (ws_boxR rfl (.inl rfl) rfl ⟨rfl, ?_⟩)
  refine run_s (ss_assign rfl) rfl ?_
  refine run_nil ?_
  refine aw_seq ?_
  refine aw_region ?_
  refine run_s (ss_field_ptr rfl) rfl ?_
  refine run_s (ss_load_ptr rfl rfl) rfl ?_
  obtain ⟨q1, h⟩ := h
  refine run_w (ws_call (xs := [.tmp 4]) (ids := []) rfl rfl rfl rfl (c_impl_IsTable c q1) rfl ?_ )
  rintro _ rfl
  refine ⟨rfl, ?_⟩
  refine run_s (ss_move rfl) rfl ?_
  refine run_split (s := 6) rfl (fun q3 => ?_) (fun q3 => ?_)
  ·replace h := h.1 (q3)
   refine run_gt rfl rfl q3 ?_
   refine run_s (ss_field_ptr rfl) rfl ?_
   refine run_gt rfl rfl q3 ?_
   refine run_s (ss_load_ptr rfl rfl) rfl ?_
   refine run_gt rfl rfl q3 ?_
   obtain ⟨q4, h⟩ := h
   refine run_w (ws_call (xs := [.tmp 8]) (ids := []) rfl rfl rfl rfl (c_impl_permutationRows c q4) rfl ?_ )
   rintro _ rfl
   refine ⟨rfl, ?_⟩
   refine run_s (ss_pickT rfl q3 rfl) rfl ?_
   refine run_s (ss_move rfl) rfl ?_
   refine run_split (s := 11) rfl (fun q6 => ?_) (fun q6 => ?_)
   ·replace h := h.1 (q6)
    refine run_gt rfl rfl q6 ?_
    refine run_s (ss_load_struct rfl (Nat.le_of_ble_eq_true rfl)) rfl ?_
    refine run_gt rfl rfl q6 ?_
    obtain ⟨q7, h⟩ := h
    refine run_w (ws_call (xs := [.tmp 12]) (ids := [13]) rfl rfl rfl rfl (c_impl_squaresOf c q7) rfl ?_ )
    rintro _ rfl
    refine ⟨rfl, ?_⟩
    refine run_gt rfl rfl q6 ?_
    obtain ⟨q9, h⟩ := h
    refine run_w (ws_callR (xs := [.tmp 13]) (cs := [.own (ints (diag c))]) (ids := []) rfl (.inr ⟨rfl, rfl⟩) rfl rfl (fz_cons (fz_own (fz_map (fun _ => rfl) _)) fz_nil) (c_impl_isPermuted (diag c) q9) rfl ?_ )
    rintro _ rfl
    refine ⟨rfl, rfl, ?_⟩
    refine run_s (ss_pickT rfl q6 rfl) rfl ?_
    refine run_s (ss_move rfl) rfl ?_
    refine run_split (s := 16) rfl (fun q11 => ?_) (fun q11 => ?_)
    ·replace h := h.1 (q11)
     refine run_gt rfl rfl q11 ?_
     refine run_s (ss_field_ptr rfl) rfl ?_
     refine run_gt rfl rfl q11 ?_
     refine run_s (ss_load_ptr rfl rfl) rfl ?_
     refine run_gt rfl rfl q11 ?_
     by_cases q12 : (cycF c) = []
     ·replace h := h.1 q12
      obtain ⟨q13, h⟩ := h
      refine run_w (ws_call (xs := [.tmp 18]) (ids := []) rfl rfl rfl rfl (AF.onil_n (c_impl_cycleFault c q13) q12) rfl ?_ )
      rintro _ rfl
      refine ⟨rfl, ?_⟩
      refine run_gt rfl rfl q11 ?_
      refine run_s (ss_eql_nil rfl rfl) rfl ?_
      refine run_s (ss_pickT rfl q11 rfl) rfl ?_
      refine run_s (ss_assign rfl) rfl ?_
      refine run_nil ?_
      refine aw_ret ?_
      exact retAF_mk (retv1 rfl (rv_tmp rfl)) rfl rfl ⟨_, (cle_refl _), _, h, rfl⟩
     ·replace h := h.2 q12
      obtain ⟨q15, h⟩ := h
      refine run_w (ws_call (xs := [.tmp 18]) (ids := [19]) rfl rfl rfl rfl (AF.onil_o (c_impl_cycleFault c q15) q12) rfl ?_ )
      rintro _ rfl
      refine ⟨rfl, ?_⟩
      refine run_gt rfl rfl q11 ?_
      refine run_s (ss_eql_refNil rfl rfl (map_ne q12) rfl) rfl ?_
      refine run_s (ss_pickT rfl q11 rfl) rfl ?_
      refine run_s (ss_assign rfl) rfl ?_
      refine run_nil ?_
      refine aw_ret ?_
      exact retAF_mk (retv1 rfl (rv_tmp rfl)) rfl rfl ⟨_, (cle_refl _), _, h, rfl⟩
    ·replace h := h.2 (q11)
     refine run_gf rfl rfl q11 rfl ?_
     refine run_gf rfl rfl q11 rfl ?_
     refine run_gf rfl rfl q11 rfl ?_
     refine run_gf rfl rfl q11 rfl ?_
     refine run_s (ss_pickF rfl q11 rfl) rfl ?_
     refine run_s (ss_assign rfl) rfl ?_
     refine run_nil ?_
     refine aw_ret ?_
     exact retAF_mk (retv1 rfl (rv_tmp rfl)) rfl rfl ⟨_, (cle_refl _), _, h, rfl⟩
   ·replace h := h.2 (q6)
    refine run_gf rfl rfl q6 rfl ?_
    refine run_gf rfl rfl q6 rfl ?_
    refine run_gf rfl rfl q6 rfl ?_
    refine run_s (ss_pickF rfl q6 rfl) rfl ?_
    refine run_s (ss_move rfl) rfl ?_
    refine run_split (s := 16) rfl (fun q17 => ?_) (fun q17 => ?_)
    ·cases q17
    ·skip
     refine run_gf rfl rfl q17 rfl ?_
     refine run_gf rfl rfl q17 rfl ?_
     refine run_gf rfl rfl q17 rfl ?_
     refine run_gf rfl rfl q17 rfl ?_
     refine run_s (ss_pickF rfl q17 rfl) rfl ?_
     refine run_s (ss_assign rfl) rfl ?_
     refine run_nil ?_
     refine aw_ret ?_
     exact retAF_mk (retv1 rfl (rv_tmp rfl)) rfl rfl ⟨_, (cle_refl _), _, h, rfl⟩
  ·replace h := h.2 (q3)
   refine run_gf rfl rfl q3 rfl ?_
   refine run_gf rfl rfl q3 rfl ?_
   refine run_gf rfl rfl q3 rfl ?_
   refine run_s (ss_pickF rfl q3 rfl) rfl ?_
   refine run_s (ss_move rfl) rfl ?_
   refine run_split (s := 11) rfl (fun q18 => ?_) (fun q18 => ?_)
   ·cases q18
   ·skip
    refine run_gf rfl rfl q18 rfl ?_
    refine run_gf rfl rfl q18 rfl ?_
    refine run_gf rfl rfl q18 rfl ?_
    refine run_s (ss_pickF rfl q18 rfl) rfl ?_
    refine run_s (ss_move rfl) rfl ?_
    refine run_split (s := 16) rfl (fun q19 => ?_) (fun q19 => ?_)
    ·cases q19
    ·skip
     refine run_gf rfl rfl q19 rfl ?_
     refine run_gf rfl rfl q19 rfl ?_
     refine run_gf rfl rfl q19 rfl ?_
     refine run_gf rfl rfl q19 rfl ?_
     refine run_s (ss_pickF rfl q19 rfl) rfl ?_
     refine run_s (ss_assign rfl) rfl ?_
     refine run_nil ?_
     refine aw_ret ?_
     exact retAF_mk (retv1 rfl (rv_tmp rfl)) rfl rfl ⟨_, (cle_refl _), _, h, rfl⟩

theorem c_impl_IsCycleSet (c : List (List Int)) (hp : small2 c) : AF Tryd.prog 23 [.agg [.lst (rows c)]] (fun R_ => R_ = cb (isCyc c)) :=
  (w_impl_IsCycleSet c (fun y0 => y0 = isCyc c) (p_impl_IsCycleSet c hp)).mono (by rintro r ⟨_, rfl, rfl⟩; rfl)

set_option maxRecDepth 100000 in
set_option maxHeartbeats 4000000 in
theorem w_spec_l05Is (c : List (List Int)) (Q : Bool → Prop) (h : wp_spec_l05Is c Q) : AF Tryd.prog 22 [.agg [.lst (rows c)]] (fun R_ => ∃ y0, Q y0 ∧ R_ = cb y0) := by
  refine AF.ofWQ (af_enter (n := 24) Tryd.func22 rfl (by rfl) rfl (Nat.le_of_ble_eq_true rfl) ?_)
  unfold wp_spec_l05Is at h
  refine aw_seq ?_
  refine aw_gh (gh_to (n := 24) (σ' := []) (env' := [(0, .c (.agg [.lst (rows c)]))]) rfl rfl ⟨rfl, trivial⟩) ?_
  refine aw_region ?_
  refine run_w (ws_boxR rfl (.inl rfl) rfl ⟨rfl, ?_⟩)
  refine run_s (ss_assign rfl) rfl ?_
  refine run_nil ?_
  refine aw_seq ?_
  refine aw_region ?_
  refine run_s (ss_field_ptr rfl) rfl ?_
  refine run_s (ss_load_ptr rfl rfl) rfl ?_
  obtain ⟨q1, h⟩ := h
  refine run_w (ws_call (xs := [.tmp 4]) (ids := []) rfl rfl rfl rfl (c_spec_l01Table c q1) rfl ?_ )
  rintro _ rfl
  refine ⟨rfl, ?_⟩
  refine run_s (ss_move rfl) rfl ?_
  refine run_split (s := 6) rfl (fun q3 => ?_) (fun q3 => ?_)
  ·replace h := h.1 (q3)
   refine run_gt rfl rfl q3 ?_
   refine run_s (ss_field_ptr rfl) rfl ?_
   refine run_gt rfl rfl q3 ?_
   refine run_s (ss_load_ptr rfl rfl) rfl ?_
   refine run_gt rfl rfl q3 ?_
   obtain ⟨q4, h⟩ := h
   refine run_w (ws_call (xs := [.tmp 8]) (ids := []) rfl rfl rfl rfl (c_spec_l01Rows c q4) rfl ?_ )
   rintro _ rfl
   refine ⟨rfl, ?_⟩
   refine run_s (ss_pickT rfl q3 rfl) rfl ?_
   refine run_s (ss_move rfl) rfl ?_
   refine run_split (s := 11) rfl (fun q6 => ?_) (fun q6 => ?_)
   ·replace h := h.1 (q6)
    refine run_gt rfl rfl q6 ?_
    refine run_s (ss_field_ptr rfl) rfl ?_
    refine run_gt rfl rfl q6 ?_
    refine run_s (ss_load_ptr rfl rfl) rfl ?_
    refine run_gt rfl rfl q6 ?_
    obtain ⟨q7, h⟩ := h
    refine run_w (ws_call (xs := [.tmp 13]) (ids := [14]) rfl rfl rfl rfl (c_spec_l05Squares c q7) rfl ?_ )
    rintro _ rfl
    refine ⟨rfl, ?_⟩
    refine run_gt rfl rfl q6 ?_
    obtain ⟨q9, h⟩ := h
    refine run_w (ws_callR (xs := [.tmp 14]) (cs := [.own (ints (diag c))]) (ids := []) rfl (.inr ⟨rfl, rfl⟩) rfl rfl (fz_cons (fz_own (fz_map (fun _ => rfl) _)) fz_nil) (c_spec_l01Perm (diag c) q9) rfl ?_ )
    rintro _ rfl
    refine ⟨rfl, rfl, ?_⟩
    refine run_s (ss_pickT rfl q6 rfl) rfl ?_
    refine run_s (ss_move rfl) rfl ?_
    refine run_split (s := 17) rfl (fun q11 => ?_) (fun q11 => ?_)
    ·replace h := h.1 (q11)
     refine run_gt rfl rfl q11 ?_
     refine run_s (ss_field_ptr rfl) rfl ?_
     refine run_gt rfl rfl q11 ?_
     refine run_s (ss_load_ptr rfl rfl) rfl ?_
     refine run_gt rfl rfl q11 ?_
     obtain ⟨q12, h⟩ := h
     refine run_w (ws_call (xs := [.tmp 19]) (ids := [20]) rfl rfl rfl rfl (c_spec_l05Fault c q12) rfl ?_ )
     rintro _ rfl
     refine ⟨rfl, ?_⟩
     refine run_gt rfl rfl q11 ?_
     refine run_s (ss_lenR (f := ci) rfl rfl) rfl ?_
     refine run_gt rfl rfl q11 ?_
     refine run_s (ss_eql rfl rfl) rfl ?_
     refine run_s (ss_pickT rfl q11 rfl) rfl ?_
     refine run_s (ss_assign rfl) rfl ?_
     refine run_nil ?_
     refine aw_ret ?_
     exact retAF_mk (retv1 rfl (rv_tmp rfl)) rfl rfl ⟨_, (cle_refl _), _, h, rfl⟩
    ·replace h := h.2 (q11)
     refine run_gf rfl rfl q11 rfl ?_
     refine run_gf rfl rfl q11 rfl ?_
     refine run_gf rfl rfl q11 rfl ?_
     refine run_gf rfl rfl q11 rfl ?_
     refine run_gf rfl rfl q11 rfl ?_
     refine run_s (ss_pickF rfl q11 rfl) rfl ?_
     refine run_s (ss_assign rfl) rfl ?_
     refine run_nil ?_
     refine aw_ret ?_
     exact retAF_mk (retv1 rfl (rv_tmp rfl)) rfl rfl ⟨_, (cle_refl _), _, h, rfl⟩
   ·replace h := h.2 (q6)
    refine run_gf rfl rfl q6 rfl ?_
    refine run_gf rfl rfl q6 rfl ?_
    refine run_gf rfl rfl q6 rfl ?_
    refine run_gf rfl rfl q6 rfl ?_
    refine run_s (ss_pickF rfl q6 rfl) rfl ?_
    refine run_s (ss_move rfl) rfl ?_
    refine run_split (s := 17) rfl (fun q14 => ?_) (fun q14 => ?_)
    ·cases q14
    ·skip
     refine run_gf rfl rfl q14 rfl ?_
     refine run_gf rfl rfl q14 rfl ?_
     refine run_gf rfl rfl q14 rfl ?_
     refine run_gf rfl rfl q14 rfl ?_
     refine run_gf rfl rfl q14 rfl ?_
     refine run_s (ss_pickF rfl q14 rfl) rfl ?_
     refine run_s (ss_assign rfl) rfl ?_
     refine run_nil ?_
     refine aw_ret ?_
     exact retAF_mk (retv1 rfl (rv_tmp rfl)) rfl rfl ⟨_, (cle_refl _), _, h, rfl⟩
  ·replace h := h.2 (q3)
   refine run_gf rfl rfl q3 rfl ?_
   refine run_gf rfl rfl q3 rfl ?_
   refine run_gf rfl rfl q3 rfl ?_
   refine run_s (ss_pickF rfl q3 rfl) rfl ?_
   refine run_s (ss_move rfl) rfl ?_
   refine run_split (s := 11) rfl (fun q15 => ?_) (fun q15 => ?_)
   ·cases q15
   ·skip
    refine run_gf rfl rfl q15 rfl ?_
    refine run_gf rfl rfl q15 rfl ?_
    refine run_gf rfl rfl q15 rfl ?_
    refine run_gf rfl rfl q15 rfl ?_
    refine run_s (ss_pickF rfl q15 rfl) rfl ?_
    refine run_s (ss_move rfl) rfl ?_
    refine run_split (s := 17) rfl (fun q16 => ?_) (fun q16 => ?_)
    ·cases q16
    ·skip
     refine run_gf rfl rfl q16 rfl ?_
     refine run_gf rfl rfl q16 rfl ?_
     refine run_gf rfl rfl q16 rfl ?_
     refine run_gf rfl rfl q16 rfl ?_
     refine run_gf rfl rfl q16 rfl ?_
     refine run_s (ss_pickF rfl q16 rfl) rfl ?_
     refine run_s (ss_assign rfl) rfl ?_
     refine run_nil ?_
     refine aw_ret ?_
     exact retAF_mk (retv1 rfl (rv_tmp rfl)) rfl rfl ⟨_, (cle_refl _), _, h, rfl⟩

theorem c_spec_l05Is (c : List (List Int)) (hp : small2 c) : AF Tryd.prog 22 [.agg [.lst (rows c)]] (fun R_ => R_ = cb (isCyc c)) :=
  (w_spec_l05Is c (fun y0 => y0 = isCyc c) (p_spec_l05Is c hp)).mono (by rintro r ⟨_, rfl, rfl⟩; rfl)

structure MI (r : List (List Int)) (l : List Int) (m m' : Int) : Prop where
  rng : 0 ≤ m' ∧ m' < (2 : Int) ^ (r.length : Int).toNat
  le : m ≤ m'
  sup : ∀ z, 0 ≤ z → bitP m z → bitP m' z
  sc : ∀ z, 0 ≤ z → bitP m' z → Sc r l z
theorem MI.step {r : List (List Int)} {l : List Int} {m m' k : Int} (h : MI r l m m') (hk : 0 ≤ k ∧ k < (r.length : Int)) (hs : Sc r l k) : MI r l m (((m'.toNat ||| (1 * (2 : Int) ^ k.toNat).toNat : Nat) : Int)) :=
  ⟨or_lt2 h.rng hk, by
    have h1 : m'.toNat ≤ (m'.toNat ||| (1 * (2 : Int) ^ k.toNat).toNat) := Nat.left_le_or
    have := h.le; have := h.rng.1; omega, fun z z0 hz => (bit_or h.rng.1 hk.1 z0).2 (.inl (h.sup z z0 hz)), fun z z0 hz => by
    rcases (bit_or h.rng.1 hk.1 z0).1 hz with h1 | h1
    · exact h.sc z z0 h1
    · rw [h1]; exact hs⟩
set_option maxRecDepth 100000 in
structure AsI (a b : List (List (List Int))) (f : List Int) (s : List Int) (x v : Int) (f1 : List Int) (u1 : List Bool) (s1 : List Int) : Prop where
  ok : OkM a b f1 u1 s1
  len : f1.length = f.length
  pre : ∃ t, s1 = (s ++ [x]) ++ t
  ag : ∀ y ∈ s, el f1 y = el f y
  xv : el f1 x = v
  dn : Dn a b f1 s1 ((s.length : Int) + 1)
  ext : ∀ p, p.length = f.length → IsoP a b p → ExtI f p → el p x = v → ExtI f1 p
section
variable {a b : List (List (List Int))} {f f1 f2 : List Int} {u1 u2 : List Bool} {s s1 s2 : List Int} {x v : Int}
theorem AsI.x_in (h : AsI a b f s x v f1 u1 s1) : x ∈ s1 := by obtain ⟨t, rfl⟩ := h.pre; simp
theorem AsI.sub (h : AsI a b f s x v f1 u1 s1) {y : Int} (hy : y ∈ s) : y ∈ s1 := by obtain ⟨t, rfl⟩ := h.pre; simp [hy]
theorem AsI.step (h : AsI a b f s x v f1 u1 s1) {x' v' : Int} (hr : AsgP a b f1 u1 s1 x' v' true f2 u2 s2) (hx : ∀ p, p.length = f.length → IsoP a b p → ExtI f p → el p x = v → el p x' = v') : AsI a b f s x v f2 u2 s2 := by
  obtain ⟨g1, g2, ⟨t2, g3⟩, g4, g5, g6⟩ := hr
  refine ⟨g1, by rw [g2, h.len], ?_, fun y hy => by rw [g4 y (h.sub hy), h.ag y hy], by rw [g4 x h.x_in, h.xv], dn_mono h.ok g1 g2 g4 ⟨t2, g3⟩ (by omega) h.dn (g5 rfl).2, fun p p1 p2 p3 p4 => (g6 p (by rw [p1, h.len]) p2 (h.ext p p1 p2 p3 p4) (hx p p1 p2 p3 p4)).2⟩
  obtain ⟨t, rfl⟩ := h.pre
  exact ⟨t ++ t2, by rw [g3]; simp⟩
end
section
variable {a b : List (List (List Int))} {f c c' p : List Int}
end
theorem take1 {α : Type} [Inhabited α] {l : List α} : (((l.take (1 : Int).toNat).length : Int) = 0 ↔ l = []) ∧ (l ≠ [] → el (l.take (1 : Int).toNat) 0 = el l 0) := by
  cases l with
  | nil => simp
  | cons x l => simp [el]
section
variable {n : Int} {l : List (List Int)}
end
def wp_strings_IndexByte (s : List UInt8) (c : Int) (Q : Int → Prop) : Prop :=
 (0 ≤ c ∧ c ≤ 255) ∧
 Q (idxF s (fun b_ => decide ((b_.toNat : Int) = c)))

def wp_strings_genSplit (s : List UInt8) (sep : List UInt8) (save : Int) (n : Int) (Q : List (List UInt8) → Prop) : Prop :=
 ((n = 0 →
 False) ∧
 (¬ (n = 0) →
 (((sep == ([] : List UInt8)) = true →
 False) ∧
 ((sep == ([] : List UInt8)) = false →
 ((n < 0 →
 (sep.length = 1) ∧
 (InI (((s.filter (fun b_ => decide ((b_.toNat : Int) = byt sep 0))).length : Int) + 1)) ∧
 (InI ((s.length : Int) + 1)) ∧
 (0 ≤ (if (s.length : Int) + 1 < ((s.filter (fun b_ => decide ((b_.toNat : Int) = byt sep 0))).length : Int) + 1 then (s.length : Int) + 1 else ((s.filter (fun b_ => decide ((b_.toNat : Int) = byt sep 0))).length : Int) + 1) ∧ (if (s.length : Int) + 1 < ((s.filter (fun b_ => decide ((b_.toNat : Int) = byt sep 0))).length : Int) + 1 then (s.length : Int) + 1 else ((s.filter (fun b_ => decide ((b_.toNat : Int) = byt sep 0))).length : Int) + 1) ≤ 1000000000) ∧
 (InI ((if (s.length : Int) + 1 < ((s.filter (fun b_ => decide ((b_.toNat : Int) = byt sep 0))).length : Int) + 1 then (s.length : Int) + 1 else ((s.filter (fun b_ => decide ((b_.toNat : Int) = byt sep 0))).length : Int) + 1) - 1)) ∧
 ∃ (H1 : List UInt8 → Int → List (List UInt8) → Prop) (m1 : List UInt8 → Int → List (List UInt8) → Nat),
 H1 s 0 (List.replicate (if (s.length : Int) + 1 < ((s.filter (fun b_ => decide ((b_.toNat : Int) = byt sep 0))).length : Int) + 1 then (s.length : Int) + 1 else ((s.filter (fun b_ => decide ((b_.toNat : Int) = byt sep 0))).length : Int) + 1).toNat ([] : List UInt8)) ∧
 ∀ (v0_1 : List UInt8) (v10_1 : Int) (o31_1 : List (List UInt8)), H1 v0_1 v10_1 o31_1 →
 ( ((v10_1 < (if (s.length : Int) + 1 < ((s.filter (fun b_ => decide ((b_.toNat : Int) = byt sep 0))).length : Int) + 1 then (s.length : Int) + 1 else ((s.filter (fun b_ => decide ((b_.toNat : Int) = byt sep 0))).length : Int) + 1) - 1 →
 (sep.length = 1) ∧
 ((idxF v0_1 (fun b_ => decide ((b_.toNat : Int) = byt sep 0)) < 0 →
 (0 ≤ v10_1 ∧ v10_1 < (o31_1.length : Int)) ∧
 (InI (v10_1 + 1)) ∧
 ((0 : Int) ≤ 0 ∧ 0 ≤ v10_1 + 1 ∧ v10_1 + 1 ≤ ((se o31_1 v10_1 v0_1).length : Int)) ∧
 Q (sl (se o31_1 v10_1 v0_1) 0 (v10_1 + 1))) ∧
 (¬ (idxF v0_1 (fun b_ => decide ((b_.toNat : Int) = byt sep 0)) < 0) →
 (InI ((idxF v0_1 (fun b_ => decide ((b_.toNat : Int) = byt sep 0))) + save)) ∧
 ((0 : Int) ≤ 0 ∧ 0 ≤ (idxF v0_1 (fun b_ => decide ((b_.toNat : Int) = byt sep 0))) + save ∧ (idxF v0_1 (fun b_ => decide ((b_.toNat : Int) = byt sep 0))) + save ≤ (v0_1.length : Int)) ∧
 (0 ≤ v10_1 ∧ v10_1 < (o31_1.length : Int)) ∧
 (InI ((idxF v0_1 (fun b_ => decide ((b_.toNat : Int) = byt sep 0))) + (sep.length : Int))) ∧
 (0 ≤ (idxF v0_1 (fun b_ => decide ((b_.toNat : Int) = byt sep 0))) + (sep.length : Int) ∧ (idxF v0_1 (fun b_ => decide ((b_.toNat : Int) = byt sep 0))) + (sep.length : Int) ≤ (v0_1.length : Int) ∧ (v0_1.length : Int) ≤ (v0_1.length : Int)) ∧
 (InI (v10_1 + 1)) ∧
 (H1 (sl v0_1 ((idxF v0_1 (fun b_ => decide ((b_.toNat : Int) = byt sep 0))) + (sep.length : Int)) (v0_1.length : Int)) (v10_1 + 1) (se o31_1 v10_1 (sl v0_1 0 ((idxF v0_1 (fun b_ => decide ((b_.toNat : Int) = byt sep 0))) + save))) ∧ m1 (sl v0_1 ((idxF v0_1 (fun b_ => decide ((b_.toNat : Int) = byt sep 0))) + (sep.length : Int)) (v0_1.length : Int)) (v10_1 + 1) (se o31_1 v10_1 (sl v0_1 0 ((idxF v0_1 (fun b_ => decide ((b_.toNat : Int) = byt sep 0))) + save))) < m1 v0_1 v10_1 o31_1)))) ∧
 (¬ (v10_1 < (if (s.length : Int) + 1 < ((s.filter (fun b_ => decide ((b_.toNat : Int) = byt sep 0))).length : Int) + 1 then (s.length : Int) + 1 else ((s.filter (fun b_ => decide ((b_.toNat : Int) = byt sep 0))).length : Int) + 1) - 1) →
 (0 ≤ v10_1 ∧ v10_1 < (o31_1.length : Int)) ∧
 (InI (v10_1 + 1)) ∧
 ((0 : Int) ≤ 0 ∧ 0 ≤ v10_1 + 1 ∧ v10_1 + 1 ≤ ((se o31_1 v10_1 v0_1).length : Int)) ∧
 Q (sl (se o31_1 v10_1 v0_1) 0 (v10_1 + 1)))))) ∧
 (¬ (n < 0) →
 False))))))

def wp_strings_Split (s : List UInt8) (sep : List UInt8) (Q : List (List UInt8) → Prop) : Prop :=
 (sep.length = 1 ∧ (0 : Int) = 0 ∧ (-1 : Int) = -1 ∧ (s.length : Int) ≤ 1000000) ∧
 Q (splS s (byt sep 0))

def wp_impl_readDigits (text : List UInt8) (Q : List Int → Bool → Prop) : Prop :=
 (0 ≤ (text.length : Int) ∧ (text.length : Int) ≤ 1000000000) ∧
 ∃ (H1 : Int → List Int → Prop) (m1 : Int → List Int → Nat),
 H1 0 (List.replicate (text.length : Int).toNat (0 : Int)) ∧
 ∀ (v12_1 : Int) (o9_1 : List Int), H1 v12_1 o9_1 →
 ( ((v12_1 < ((List.replicate (text.length : Int).toNat (0 : Int)).length : Int) →
 (0 ≤ v12_1 ∧ v12_1 < (text.length : Int)) ∧
 (0 ≤ (byt text v12_1) ∧ (byt text v12_1) ≤ 255) ∧
 ((idxF ([48, 49, 50, 51, 52, 53, 54, 55, 56, 57, 97, 98] : List UInt8) (fun b_ => decide ((b_.toNat : Int) = (byt text v12_1))) < 0 →
 Q ([]) false) ∧
 (¬ (idxF ([48, 49, 50, 51, 52, 53, 54, 55, 56, 57, 97, 98] : List UInt8) (fun b_ => decide ((b_.toNat : Int) = (byt text v12_1))) < 0) →
 (0 ≤ v12_1 ∧ v12_1 < (o9_1.length : Int)) ∧
 (InI (v12_1 + 1)) ∧
 (H1 (v12_1 + 1) (se o9_1 v12_1 (idxF ([48, 49, 50, 51, 52, 53, 54, 55, 56, 57, 97, 98] : List UInt8) (fun b_ => decide ((b_.toNat : Int) = (byt text v12_1))))) ∧ m1 (v12_1 + 1) (se o9_1 v12_1 (idxF ([48, 49, 50, 51, 52, 53, 54, 55, 56, 57, 97, 98] : List UInt8) (fun b_ => decide ((b_.toNat : Int) = (byt text v12_1))))) < m1 v12_1 o9_1)))) ∧
 (¬ (v12_1 < ((List.replicate (text.length : Int).toNat (0 : Int)).length : Int)) →
 Q o9_1 true)))

def wp_impl_readTable (text : List UInt8) (Q : List (List Int) → Bool → Prop) : Prop :=
 ((156 < (text.length : Int) →
 Q ([]) false) ∧
 (¬ (156 < (text.length : Int)) →
 (([47] : List UInt8).length = 1 ∧ (text.length : Int) ≤ 1000000) ∧
 ∃ (H1 : Int → List (List Int) → Prop) (m1 : Int → List (List Int) → Nat),
 H1 0 ([] : List (List Int)) ∧
 ∀ (v15_1 : Int) (o100004_1 : List (List Int)), H1 v15_1 o100004_1 →
 ( ((v15_1 < ((splS text (byt ([47] : List UInt8) 0)).length : Int) →
 (0 ≤ v15_1 ∧ v15_1 < ((splS text (byt ([47] : List UInt8) 0)).length : Int)) ∧
 (small (el (splS text (byt ([47] : List UInt8) 0)) v15_1)) ∧
 (((rdgB (el (splS text (byt ([47] : List UInt8) 0)) v15_1)) = false →
 Q ([]) false) ∧
 ((rdgB (el (splS text (byt ([47] : List UInt8) 0)) v15_1)) = true →
 ((o100004_1.length : Int) + (([rdgT (el (splS text (byt ([47] : List UInt8) 0)) v15_1)]).length : Int) ≤ 1000000000) ∧
 (InI (v15_1 + 1)) ∧
 (H1 (v15_1 + 1) (o100004_1 ++ ([rdgT (el (splS text (byt ([47] : List UInt8) 0)) v15_1)])) ∧ m1 (v15_1 + 1) (o100004_1 ++ ([rdgT (el (splS text (byt ([47] : List UInt8) 0)) v15_1)])) < m1 v15_1 o100004_1)))) ∧
 (¬ (v15_1 < ((splS text (byt ([47] : List UInt8) 0)).length : Int)) →
 (small2 o100004_1) ∧
 Q o100004_1 (isTab o100004_1))))))

def wp_spec_l01Split (text : List UInt8) (c : Int) (Q : List (List UInt8) → Prop) : Prop :=
 ∃ (H1 : Int → Int → List (List UInt8) → Prop) (m1 : Int → Int → List (List UInt8) → Nat),
 H1 0 0 ([] : List (List UInt8)) ∧
 ∀ (v6_1 : Int) (v7_1 : Int) (o8_1 : List (List UInt8)), H1 v6_1 v7_1 o8_1 →
 ( ((v7_1 < (text.length : Int) →
 (0 ≤ v7_1 ∧ v7_1 < (text.length : Int)) ∧
 ((byt text v7_1 = c →
 (0 ≤ v6_1 ∧ v6_1 ≤ v7_1 ∧ v7_1 ≤ (text.length : Int)) ∧
 ((o8_1.length : Int) + (([sl text v6_1 v7_1]).length : Int) ≤ 1000000000) ∧
 (InI (v7_1 + 1)) ∧
 (InI (v7_1 + 1)) ∧
 (H1 (v7_1 + 1) (v7_1 + 1) (o8_1 ++ ([sl text v6_1 v7_1])) ∧ m1 (v7_1 + 1) (v7_1 + 1) (o8_1 ++ ([sl text v6_1 v7_1])) < m1 v6_1 v7_1 o8_1)) ∧
 (¬ (byt text v7_1 = c) →
 (InI (v7_1 + 1)) ∧
 (H1 v6_1 (v7_1 + 1) o8_1 ∧ m1 v6_1 (v7_1 + 1) o8_1 < m1 v6_1 v7_1 o8_1)))) ∧
 (¬ (v7_1 < (text.length : Int)) →
 (0 ≤ v6_1 ∧ v6_1 ≤ (text.length : Int) ∧ (text.length : Int) ≤ (text.length : Int)) ∧
 ((o8_1.length : Int) + (([sl text v6_1 (text.length : Int)]).length : Int) ≤ 1000000000) ∧
 Q (o8_1 ++ ([sl text v6_1 (text.length : Int)])))))

def wp_spec_l01Read (text : List UInt8) (Q : List Int → Bool → Prop) : Prop :=
 ∃ (H1 : Int → List Int → Prop) (m1 : Int → List Int → Nat),
 H1 0 ([] : List Int) ∧
 ∀ (v5_1 : Int) (o7_1 : List Int), H1 v5_1 o7_1 →
 ( ((v5_1 < (text.length : Int) →
 (0 ≤ v5_1 ∧ v5_1 < (text.length : Int)) ∧
 (InI (byt text v5_1)) ∧
 (((decide ((48 : Int) ≤ (byt text v5_1)) && decide ((byt text v5_1) ≤ (57 : Int))) = true →
 (InI ((byt text v5_1) - 48)) ∧
 ((o7_1.length : Int) + (([(byt text v5_1) - 48]).length : Int) ≤ 1000000000) ∧
 (InI (v5_1 + 1)) ∧
 (H1 (v5_1 + 1) (o7_1 ++ ([(byt text v5_1) - 48])) ∧ m1 (v5_1 + 1) (o7_1 ++ ([(byt text v5_1) - 48])) < m1 v5_1 o7_1)) ∧
 ((decide ((48 : Int) ≤ (byt text v5_1)) && decide ((byt text v5_1) ≤ (57 : Int))) = false →
 (((decide ((97 : Int) ≤ (byt text v5_1)) && decide ((byt text v5_1) ≤ (98 : Int))) = true →
 (InI ((byt text v5_1) - 97)) ∧
 (InI (((byt text v5_1) - 97) + 10)) ∧
 ((o7_1.length : Int) + (([((byt text v5_1) - 97) + 10]).length : Int) ≤ 1000000000) ∧
 (InI (v5_1 + 1)) ∧
 (H1 (v5_1 + 1) (o7_1 ++ ([((byt text v5_1) - 97) + 10])) ∧ m1 (v5_1 + 1) (o7_1 ++ ([((byt text v5_1) - 97) + 10])) < m1 v5_1 o7_1)) ∧
 ((decide ((97 : Int) ≤ (byt text v5_1)) && decide ((byt text v5_1) ≤ (98 : Int))) = false →
 Q ([]) false))))) ∧
 (¬ (v5_1 < (text.length : Int)) →
 Q o7_1 true)))

def wp_spec_l01Parse (text : List UInt8) (Q : List (List Int) → Bool → Prop) : Prop :=
 (shortS text) ∧
 ∃ (H1 : Int → List (List Int) → Prop) (m1 : Int → List (List Int) → Nat),
 H1 0 ([] : List (List Int)) ∧
 ∀ (v6_1 : Int) (o11_1 : List (List Int)), H1 v6_1 o11_1 →
 ( ((v6_1 < ((splS text (47 : Int)).length : Int) →
 (0 ≤ v6_1 ∧ v6_1 < ((splS text (47 : Int)).length : Int)) ∧
 (small (el (splS text (47 : Int)) v6_1)) ∧
 (((rdgB (el (splS text (47 : Int)) v6_1)) = false →
 Q ([]) false) ∧
 ((rdgB (el (splS text (47 : Int)) v6_1)) = true →
 ((o11_1.length : Int) + (([rdgT (el (splS text (47 : Int)) v6_1)]).length : Int) ≤ 1000000000) ∧
 (InI (v6_1 + 1)) ∧
 (H1 (v6_1 + 1) (o11_1 ++ ([rdgT (el (splS text (47 : Int)) v6_1)])) ∧ m1 (v6_1 + 1) (o11_1 ++ ([rdgT (el (splS text (47 : Int)) v6_1)])) < m1 v6_1 o11_1)))) ∧
 (¬ (v6_1 < ((splS text (47 : Int)).length : Int)) →
 (small2 o11_1) ∧
 (((isTab o11_1) = false →
 Q ([]) false) ∧
 ((isTab o11_1) = true →
 Q o11_1 true)))))

def wp_spec_ParseCycleSet (text : List UInt8) (Q : List (List Int) → Int → Prop) : Prop :=
 (shortS text) ∧
 (((rtbB text) = false →
 Q ([]) 6) ∧
 ((rtbB text) = true →
 (small2 (rtbT text)) ∧
 (((isCyc (rtbT text)) = false →
 Q ([]) 6) ∧
 ((isCyc (rtbT text)) = true →
 Q (rtbT text) 0))))

def wp_impl_ParseCycleSet (text : List UInt8) (Q : List (List Int) → Int → Prop) : Prop :=
 (small text) ∧
 (((rtbB text) = false →
 Q ([]) 6) ∧
 ((rtbB text) = true →
 (small2 (rdiT text)) ∧
 (((isCyc (rdiT text)) = false →
 Q ([]) 6) ∧
 ((isCyc (rdiT text)) = true →
 Q (rdiT text) 0))))

theorem p_strings_IndexByte (s : List UInt8) (c : Int) (hp : 0 ≤ c ∧ c ≤ 255) : wp_strings_IndexByte s c (fun y0 => y0 = idxF s (fun b_ => decide ((b_.toNat : Int) = c))) := ⟨hp, rfl⟩
theorem p_strings_genSplit (s sep : List UInt8) (save n : Int) (hp : sep.length = 1 ∧ save = 0 ∧ n = -1 ∧ (s.length : Int) ≤ 1000000) : wp_strings_genSplit s sep save n (fun y0 => y0 = splS s (byt sep 0)) := by
  obtain ⟨h1, rfl, rfl, hs⟩ := hp
  have hsep : (sep == ([] : List UInt8)) = false := by
    cases sep with
    | nil => simp at h1
    | cons a r => rfl
  unfold wp_strings_genSplit
  generalize byt sep 0 = c
  have hl := splS_len (c := c) s
  have hle := splS_le s c
  rw [if_neg (by omega : ¬ ((s.length : Int) + 1 < ((s.filter (fun b_ => decide ((b_.toNat : Int) = c))).length : Int) + 1))]
  have hN : ((s.filter (fun b_ => decide ((b_.toNat : Int) = c))).length : Int) + 1 = ((splS s c).length : Int) := by omega
  rw [hN]
  have hsl : (sep.length : Int) = 1 := by omega
  rw [hsl]
  refine ⟨fun h => absurd h (by decide), fun _ => ⟨fun h => (by rw [hsep] at h; cases h), fun _ => ⟨fun _ => ⟨h1, ⟨by omega, by omega⟩, ⟨by omega, by omega⟩, ⟨by omega, by omega⟩, ⟨by omega, by omega⟩, ?_⟩, fun h => absurd (by decide) h⟩⟩⟩
  refine ⟨fun v i o => (0 ≤ i ∧ i < ((splS s c).length : Int)) ∧ o.length = (splS s c).length ∧ splS s c = o.take i.toNat ++ splS v c ∧ v.length ≤ s.length, fun v _ _ => v.length, ⟨⟨by omega, by omega⟩, by simp, by simp, Nat.le_refl _⟩, ?_⟩
  rintro v i o ⟨⟨i0, i1⟩, ol, oe, vl⟩
  dsimp only
  have hlen : (splS s c).length = i.toNat + (splS v c).length := by
    have e := congrArg List.length oe
    rw [List.length_append, List.length_take] at e; omega
  have take1 : ∀ x : List UInt8, (se o i x).take (i.toNat + 1) = o.take i.toNat ++ [x] := fun x => by
    have := take_el (l := se o i x) (i := i) ⟨i0, by simp; omega⟩
    rw [show (i + 1).toNat = i.toNat + 1 by omega, el_se_same ⟨i0, by omega⟩] at this
    rw [this]
    unfold se
    rw [List.take_set, List.set_eq_of_length_le (by rw [List.length_take]; omega)]
  refine ⟨fun hi => ⟨h1, fun hneg => ?_, fun hpos => ?_⟩, fun hi => ?_⟩
  · exfalso
    have hno := idx_no hneg
    have := splS_none (c := c) (s := v) fun b hb => of_decide_eq_false (hno b hb)
    rw [this] at hlen; simp at hlen; omega
  · obtain ⟨p, b, r, rfl, hp1, hb, he⟩ := idx_cut hpos
    rw [he]
    have hb := of_decide_eq_true hb
    have hp1 : ∀ x ∈ p, ¬ (x.toNat : Int) = c := fun x hx => of_decide_eq_false (hp1 x hx)
    have hcut := splS_cut (r := r) hp1 hb
    have e1 : sl (p ++ b :: r) ((p.length : Int) + 1) ((p ++ b :: r).length : Int) = r := by
      unfold sl
      rw [show ((p ++ b :: r).length : Int).toNat = (p ++ b :: r).length by omega, List.take_length, show ((p.length : Int) + 1).toNat = p.length + 1 by omega]
      simp
    have e2 : sl (p ++ b :: r) 0 ((p.length : Int) + 0) = p := by
      unfold sl
      rw [show ((p.length : Int) + 0).toNat = p.length by omega]
      simp
    rw [e1, e2]
    simp only [List.length_append, List.length_cons] at vl hlen ⊢
    refine ⟨⟨by omega, by omega⟩, ⟨by omega, by omega, by omega⟩, ⟨i0, by omega⟩, ⟨by omega, by omega⟩, ⟨by omega, by omega, by omega⟩, ⟨by omega, by omega⟩, ⟨⟨by omega, by omega⟩, by simpa using ol, ?_, by omega⟩, by omega⟩
    rw [show (i + 1).toNat = i.toNat + 1 by omega, take1, oe, hcut]; simp
  · have hv1 : (splS v c).length = 1 := by omega
    have hv : splS v c = [v] := by
      refine splS_none fun b hb => ?_
      have := splS_len (c := c) v
      have hz : (v.filter fun b => decide ((b.toNat : Int) = c)) = [] := List.eq_nil_of_length_eq_zero (by omega)
      exact of_decide_eq_false (by
        have := List.filter_eq_nil_iff.1 hz b hb
        simpa using this)
    refine ⟨⟨i0, by omega⟩, ⟨by omega, by omega⟩, ⟨by omega, by omega, by simp; omega⟩, ?_⟩
    unfold sl
    rw [show (i + 1).toNat = i.toNat + 1 by omega, take1, oe, hv]; rfl
theorem p_strings_Split (s sep : List UInt8) (hp : sep.length = 1 ∧ (s.length : Int) ≤ 1000000) : wp_strings_Split s sep (fun y0 => y0 = splS s (byt sep 0)) := ⟨⟨hp.1, rfl, rfl, hp.2⟩, rfl⟩
theorem p_impl_readDigits (text : List UInt8) (hp : small text) : wp_impl_readDigits text (fun y0 y1 => y0 = rdgT text ∧ y1 = rdgB text) := by
  have hs : (text.length : Int) ≤ 1000000000 := hp
  unfold wp_impl_readDigits
  simp only [List.length_replicate]
  refine ⟨⟨by omega, hs⟩, fun i o => (0 ≤ i ∧ i ≤ (text.length : Int)) ∧ o.length = text.length ∧ (Upto i fun j => el o j = digV (byt text j)) ∧ (Upto i fun j => 0 ≤ digV (byt text j)), fun i _ => ((text.length : Int) - i).toNat, ⟨⟨by omega, by omega⟩, by simp, upto0, upto0⟩, ?_⟩
  rintro i o ⟨⟨i0, i1⟩, ol, oI, oJ⟩
  dsimp only
  have e := idx_dig (byt_in text i)
  refine ⟨fun hi => ⟨⟨i0, by omega⟩, byt_in _ _, fun hneg => ?_, fun hpos => ?_⟩, fun hi => ?_⟩
  · rw [e] at hneg
    have := rdgB_no (s := text) (j := i) ⟨i0, by omega⟩ (by omega)
    exact ⟨by unfold rdgT; rw [this]; rfl, this.symm⟩
  · rw [e] at hpos ⊢
    exact ⟨⟨i0, by omega⟩, ⟨by omega, by omega⟩, ⟨⟨by omega, by omega⟩, by simpa using ol, fill1 (f := fun j => digV (byt text j)) ⟨i0, by omega⟩ oI rfl, upto1 oJ (by omega)⟩, by omega⟩
  · have hb : rdgB text = true := rdgB_iff.2 fun j j0 j1 => oJ j j0 (by omega)
    refine ⟨?_, hb.symm⟩
    unfold rdgT
    rw [if_pos hb]
    exact ext_el (by simp [ol]) fun j j0 j1 => by rw [rdgV_el ⟨j0, by omega⟩]; exact oI j j0 (by omega)
theorem rd_snoc {P : List (List UInt8)} {i : Int} (h : 0 ≤ i ∧ i < (P.length : Int)) : (P.take (i + 1).toNat).map rdgV = (P.take i.toNat).map rdgV ++ [rdgV (el P i)] := by rw [take_el h]; simp
theorem rd_all {P : List (List UInt8)} {i : Int} (h : 0 ≤ i ∧ i < (P.length : Int)) : (P.take (i + 1).toNat).all rdgB = ((P.take i.toNat).all rdgB && rdgB (el P i)) := by rw [take_el h]; simp
theorem rdr_no {P : List (List UInt8)} {i : Int} (h : 0 ≤ i ∧ i < (P.length : Int)) (hb : rdgB (el P i) = false) : P.all rdgB = false := by
  cases ha : P.all rdgB with
  | false => rfl
  | true => rw [List.all_eq_true.1 ha _ (el_mem h)] at hb; cases hb
theorem rd_small {text : List UInt8} (hs : (text.length : Int) ≤ 2000000) : small2 (rtbV text) := by
  have := splS_le text 47
  refine ⟨by show ((rtbV text).length : Int) ≤ 1000000000; unfold rtbV; rw [List.length_map]; omega, fun r hr => ?_⟩
  unfold rtbV at hr
  obtain ⟨x, hx, rfl⟩ := List.mem_map.1 hr
  have := splS_part x hx
  show ((rdgV x).length : Int) ≤ 1000000000
  rw [rdgV_len]; omega
theorem p_impl_readTable (text : List UInt8) (hp : small text) : wp_impl_readTable text (fun y0 y1 => y0 = rdiT text ∧ y1 = rtbB text) := by
  unfold wp_impl_readTable
  rw [show byt ([47] : List UInt8) 0 = 47 from rfl]
  refine ⟨fun h => ?_, fun h => ⟨⟨rfl, by omega⟩, ?_⟩⟩
  · refine ⟨by unfold rdiT; rw [if_neg (by omega)], ?_⟩
    cases hb : rtbB text with
    | false => rfl
    | true => have := rtb_short hb; omega
  have hle := splS_le text 47
  have hpart : ∀ z, 0 ≤ z → z < ((splS text 47).length : Int) → small (el (splS text 47) z) := fun z z0 z1 => by
    have := splS_part _ (el_mem (l := splS text 47) ⟨z0, z1⟩)
    show ((el (splS text 47) z).length : Int) ≤ 1000000000
    omega
  refine ⟨fun i o => (0 ≤ i ∧ i ≤ ((splS text 47).length : Int)) ∧ o = ((splS text 47).take i.toNat).map rdgV ∧ ((splS text 47).take i.toNat).all rdgB = true, fun i _ => (((splS text 47).length : Int) - i).toNat, ⟨⟨by omega, by omega⟩, by simp, by simp⟩, ?_⟩
  rintro i o ⟨⟨i0, i1⟩, rfl, oI⟩
  dsimp only
  refine ⟨fun hi => ⟨⟨i0, hi⟩, hpart i i0 hi, fun hb => ?_, fun hb => ?_⟩, fun hi => ?_⟩
  · have hn := rdr_no ⟨i0, hi⟩ hb
    exact ⟨by unfold rdiT; rw [hn, if_neg (by simp)], by unfold rtbB; rw [hn, Bool.false_and]⟩
  · have hr : rdgT (el (splS text 47) i) = rdgV (el (splS text 47) i) := by unfold rdgT; rw [if_pos hb]
    rw [hr]
    refine ⟨by simp; omega, ⟨by omega, by omega⟩, ⟨⟨by omega, by omega⟩, (rd_snoc ⟨i0, hi⟩).symm, by rw [rd_all ⟨i0, hi⟩, oI, hb]; rfl⟩, by omega⟩
  · have e : (splS text 47).take i.toNat = splS text 47 := List.take_of_length_le (by omega)
    rw [e] at oI ⊢
    refine ⟨rd_small (text := text) (by omega), ?_, ?_⟩
    · unfold rdiT; rw [if_pos ⟨by omega, oI⟩]; rfl
    · unfold rtbB; rw [oI, Bool.true_and]; rfl
theorem p_spec_l01Split (text : List UInt8) (c : Int) (hp : shortS text) : wp_spec_l01Split text c (fun y0 => y0 = splS text c) := by
  have hs : (text.length : Int) ≤ 2000000 := hp
  refine ⟨fun a i o => (0 ≤ a ∧ a ≤ i ∧ i ≤ (text.length : Int)) ∧ (o.length : Int) ≤ i ∧ splS (text.take i.toNat) c = o ++ [sl text a i], fun _ i _ => ((text.length : Int) - i).toNat, ⟨⟨by omega, by omega, by omega⟩, by simp, by simp [sl, splS_nil]⟩, ?_⟩
  rintro a i o ⟨⟨a0, a1, i1⟩, ol, oe⟩
  dsimp only
  refine ⟨fun hi => ⟨⟨by omega, hi⟩, fun hb => ?_, fun hb => ?_⟩, fun hi => ?_⟩
  · refine ⟨⟨a0, a1, i1⟩, by simp; omega, ⟨by omega, by omega⟩, ⟨by omega, by omega⟩, ⟨⟨by omega, by omega, by omega⟩, by simp; omega, ?_⟩, by omega⟩
    rw [take_el ⟨by omega, hi⟩, splS_snoc_sep oe (by rw [← byt_el]; exact hb)]
    congr 1
    simp [sl]
  · refine ⟨⟨by omega, by omega⟩, ⟨⟨by omega, by omega, by omega⟩, by omega, ?_⟩, by omega⟩
    rw [take_el ⟨by omega, hi⟩, splS_snoc oe (by rw [← byt_el]; exact hb)]
    congr 2
    unfold sl
    rw [take_el ⟨by omega, hi⟩, List.drop_append_of_le_length (by rw [List.length_take]; omega)]
  · have e : i = (text.length : Int) := by omega
    subst e
    refine ⟨⟨a0, a1, by omega⟩, by simp; omega, ?_⟩
    rw [← oe, show ((text.length : Int)).toNat = text.length by omega, List.take_length]
theorem p_spec_l01Read (text : List UInt8) (hp : small text) : wp_spec_l01Read text (fun y0 y1 => y0 = rdgT text ∧ y1 = rdgB text) := by
  have hs : (text.length : Int) ≤ 1000000000 := hp
  refine ⟨fun i o => (0 ≤ i ∧ i ≤ (text.length : Int)) ∧ o = rdgV (text.take i.toNat) ∧ (Upto i fun j => 0 ≤ digV (byt text j)), fun i _ => ((text.length : Int) - i).toNat, ⟨⟨by omega, by omega⟩, by simp [rdgV], upto0⟩, ?_⟩
  rintro i o ⟨⟨i0, i1⟩, rfl, oJ⟩
  dsimp only
  have hb := byt_in text i
  have hlen : ((rdgV (text.take i.toNat)).length : Int) = i := by rw [rdgV_len, List.length_take]; omega
  have step : ∀ v : Int, i < (text.length : Int) → v = digV (byt text i) → rdgV (text.take i.toNat) ++ [v] = rdgV (text.take (i + 1).toNat) := fun v hi hv => by
    rw [take_el ⟨i0, hi⟩, hv]; simp [rdgV, byt_el]
  refine ⟨fun hi => ⟨⟨i0, hi⟩, ⟨by omega, by omega⟩, fun h1 => ?_, fun h1 => ⟨fun h2 => ?_, fun h2 => ?_⟩⟩, fun hi => ?_⟩
  · simp only [Bool.and_eq_true, decide_eq_true_eq] at h1
    have e : byt text i - 48 = digV (byt text i) := by unfold digV; rw [if_pos h1]
    exact ⟨⟨by omega, by omega⟩, by rw [hlen]; simp; omega, ⟨by omega, by omega⟩, ⟨⟨by omega, by omega⟩, step _ hi e, upto1 oJ (by omega)⟩, by omega⟩
  · simp only [Bool.and_eq_true, decide_eq_true_eq] at h2
    have e : byt text i - 97 + 10 = digV (byt text i) := by unfold digV; rw [if_neg (by omega), if_pos h2]; omega
    exact ⟨⟨by omega, by omega⟩, ⟨by omega, by omega⟩, by rw [hlen]; simp; omega, ⟨by omega, by omega⟩, ⟨⟨by omega, by omega⟩, step _ hi e, upto1 oJ (by omega)⟩, by omega⟩
  · simp only [Bool.and_eq_false_iff, decide_eq_false_iff_not] at h1 h2
    have := rdgB_no (s := text) (j := i) ⟨i0, hi⟩ (by unfold digV; rw [if_neg (by omega), if_neg (by omega)]; omega)
    exact ⟨by unfold rdgT; rw [this]; rfl, this.symm⟩
  · have hb : rdgB text = true := rdgB_iff.2 fun j j0 j1 => oJ j j0 (by omega)
    refine ⟨?_, hb.symm⟩
    unfold rdgT
    rw [if_pos hb, List.take_of_length_le (by omega)]
theorem p_spec_l01Parse (text : List UInt8) (hp : shortS text) : wp_spec_l01Parse text (fun y0 y1 => y0 = rtbT text ∧ y1 = rtbB text) := by
  have hs : (text.length : Int) ≤ 2000000 := hp
  have hle := splS_le text 47
  have hpart : ∀ z, 0 ≤ z → z < ((splS text 47).length : Int) → small (el (splS text 47) z) := fun z z0 z1 => by
    have := splS_part _ (el_mem (l := splS text 47) ⟨z0, z1⟩)
    show ((el (splS text 47) z).length : Int) ≤ 1000000000
    omega
  refine ⟨hp, fun i o => (0 ≤ i ∧ i ≤ ((splS text 47).length : Int)) ∧ o = ((splS text 47).take i.toNat).map rdgV ∧ ((splS text 47).take i.toNat).all rdgB = true, fun i _ => (((splS text 47).length : Int) - i).toNat, ⟨⟨by omega, by omega⟩, by simp, by simp⟩, ?_⟩
  rintro i o ⟨⟨i0, i1⟩, rfl, oI⟩
  dsimp only
  have no : rtbB text = false → ([] : List (List Int)) = rtbT text ∧ false = rtbB text := fun h => ⟨by unfold rtbT; rw [h]; rfl, h.symm⟩
  refine ⟨fun hi => ⟨⟨i0, hi⟩, hpart i i0 hi, fun hb => ?_, fun hb => ?_⟩, fun hi => ?_⟩
  · have hn := rdr_no ⟨i0, hi⟩ hb
    exact no (by unfold rtbB; rw [hn, Bool.false_and])
  · have hr : rdgT (el (splS text 47) i) = rdgV (el (splS text 47) i) := by unfold rdgT; rw [if_pos hb]
    rw [hr]
    refine ⟨by simp; omega, ⟨by omega, by omega⟩, ⟨⟨by omega, by omega⟩, (rd_snoc ⟨i0, hi⟩).symm, by rw [rd_all ⟨i0, hi⟩, oI, hb]; rfl⟩, by omega⟩
  · have e : (splS text 47).take i.toNat = splS text 47 := List.take_of_length_le (by omega)
    rw [e] at oI ⊢
    have ev : (splS text 47).map rdgV = rtbV text := rfl
    have eb : rtbB text = isTab (rtbV text) := by unfold rtbB; rw [oI, Bool.true_and]
    rw [ev]
    refine ⟨rd_small hs, fun h => no (by rw [eb, h]), fun h => ?_⟩
    have hb : rtbB text = true := by rw [eb, h]
    exact ⟨by unfold rtbT; rw [if_pos hb], hb.symm⟩
theorem rdi_eq {s : List UInt8} (h : rtbB s = true) : rdiT s = rtbV s ∧ rtbT s = rtbV s := by
  have h' := h
  unfold rtbB at h'
  rw [Bool.and_eq_true] at h'
  exact ⟨by unfold rdiT; rw [if_pos ⟨rtb_short h, h'.1⟩], by unfold rtbT; rw [if_pos h]⟩
theorem short_small {s : List UInt8} (h : shortS s) : small s := by
  have : (s.length : Int) ≤ 2000000 := h
  show (s.length : Int) ≤ 1000000000
  omega
theorem p_spec_ParseCycleSet (text : List UInt8) (hp : shortS text) : wp_spec_ParseCycleSet text (fun y0 y1 => y0 = pcyT text ∧ y1 = pcyE text) := by
  refine ⟨hp, fun h => ?_, fun h => ?_⟩
  · have e : pcyE text = 6 := by unfold pcyE; rw [h]; simp
    exact ⟨by unfold pcyT; rw [e]; rfl, e.symm⟩
  · rw [(rdi_eq h).2]
    refine ⟨rd_small hp, fun g => ?_, fun g => ?_⟩
    · have e : pcyE text = 6 := by unfold pcyE; rw [g]; simp
      exact ⟨by unfold pcyT; rw [e]; rfl, e.symm⟩
    · have e : pcyE text = 0 := by unfold pcyE; rw [if_pos ⟨h, g⟩]
      exact ⟨by unfold pcyT; rw [if_pos e], e.symm⟩
theorem p_impl_ParseCycleSet (text : List UInt8) (hp : shortS text) : wp_impl_ParseCycleSet text (fun y0 y1 => y0 = pcyT text ∧ y1 = pcyE text) := by
  refine ⟨short_small hp, fun h => ?_, fun h => ?_⟩
  · have e : pcyE text = 6 := by unfold pcyE; rw [h]; simp
    exact ⟨by unfold pcyT; rw [e]; rfl, e.symm⟩
  · rw [(rdi_eq h).1]
    refine ⟨rd_small hp, fun g => ?_, fun g => ?_⟩
    · have e : pcyE text = 6 := by unfold pcyE; rw [g]; simp
      exact ⟨by unfold pcyT; rw [e]; rfl, e.symm⟩
    · have e : pcyE text = 0 := by unfold pcyE; rw [if_pos ⟨h, g⟩]
      exact ⟨by unfold pcyT; rw [if_pos e], e.symm⟩

set_option maxRecDepth 100000 in
set_option maxHeartbeats 4000000 in
theorem w_strings_IndexByte (s : List UInt8) (c : Int) (Q : Int → Prop) (h : wp_strings_IndexByte s c Q) : AF Tryd.prog 46 [cs s, cy c] (fun R_ => ∃ y0, Q y0 ∧ R_ = ci y0) := by
  refine AF.ofWQ (af_enter (n := 8) Tryd.func46 rfl (by rfl) rfl (Nat.le_of_ble_eq_true rfl) ?_)
  unfold wp_strings_IndexByte at h
  refine aw_seq ?_
  refine aw_gh (gh_to (n := 8) (σ' := []) (env' := [(0, .c (cs s)), (1, .c (cy c))]) rfl rfl ⟨rfl, rfl, trivial⟩) ?_
  refine aw_region ?_
  refine run_s (ss_assign rfl) rfl ?_
  refine run_nil ?_
  refine aw_seq ?_
  refine aw_region ?_
  refine run_s (ss_move rfl) rfl ?_
  refine run_s (ss_move rfl) rfl ?_
  obtain ⟨q1, h⟩ := h
  refine run_w (ws_call (xs := [.tmp 5, .tmp 6]) (ids := []) rfl rfl rfl rfl (c_internal_stringslite_IndexByte s c q1) rfl ?_ )
  rintro _ rfl
  refine ⟨rfl, ?_⟩
  refine run_s (ss_assign rfl) rfl ?_
  refine run_nil ?_
  refine aw_ret ?_
  exact retAF_mk (retv1 rfl (rv_tmp rfl)) rfl rfl ⟨_, (cle_refl _), _, h, rfl⟩

theorem c_strings_IndexByte (s : List UInt8) (c : Int) (hp : 0 ≤ c ∧ c ≤ 255) : AF Tryd.prog 46 [cs s, cy c] (fun R_ => R_ = ci (idxF s (fun b_ => decide ((b_.toNat : Int) = c)))) :=
  (w_strings_IndexByte s c (fun y0 => y0 = idxF s (fun b_ => decide ((b_.toNat : Int) = c))) (p_strings_IndexByte s c hp)).mono (by rintro r ⟨_, rfl, rfl⟩; rfl)

set_option maxRecDepth 100000 in
set_option maxHeartbeats 4000000 in
theorem w_strings_genSplit (s : List UInt8) (sep : List UInt8) (save : Int) (n : Int) (Q : List (List UInt8) → Prop) (h : wp_strings_genSplit s sep save n Q) : AF Tryd.prog 45 [cs s, cs sep, ci save, ci n] (fun R_ => ∃ y0, Q y0 ∧ R_ = .lst (strs y0)) := by
  refine AF.ofWQ (af_enter (n := 66) Tryd.func45 rfl (by rfl) rfl (Nat.le_of_ble_eq_true rfl) ?_)
  unfold wp_strings_genSplit at h
  refine aw_seq ?_
  refine aw_gh (gh_to (n := 66) (σ' := []) (env' := [(0, .c (cs s)), (1, .c (cs sep)), (2, .c (ci save)), (3, .c (ci n))]) rfl rfl ⟨rfl, rfl, rfl, rfl, trivial⟩) ?_
  refine aw_region ?_
  refine run_s (ss_assign rfl) rfl ?_
  refine run_nil ?_
  refine aw_seq ?_
  refine aw_seq ?_
  refine aw_region ?_
  refine run_s (ss_move rfl) rfl ?_
  refine run_s (ss_eql rfl rfl) rfl ?_
  refine run_nil ?_
  refine aw_cond rfl (fun q1 => ?_) (fun q1 => ?_)
  ·replace h := h.1 (of_decide_eq_true q1)
   exact h.elim
  ·replace h := h.2 (of_decide_eq_false q1)
   refine aw_skip ?_
   refine aw_seq ?_
   refine aw_seq ?_
   refine aw_region ?_
   refine run_s (ss_move rfl) rfl ?_
   refine run_s (ss_eqlS rfl rfl) rfl ?_
   refine run_nil ?_
   refine aw_cond rfl (fun q2 => ?_) (fun q2 => ?_)
   ·replace h := h.1 (q2)
    exact h.elim
   ·replace h := h.2 (q2)
    refine aw_skip ?_
    refine aw_seq ?_
    refine aw_seq ?_
    refine aw_gh (gh_to (n := 66) (σ' := []) (env' := [(0, .c (cs s)), (1, .c (cs sep)), (2, .c (ci save)), (3, .c (ci n))]) rfl rfl ⟨rfl, rfl, rfl, rfl, trivial⟩) ?_
    refine aw_region ?_
    refine run_s (ss_move rfl) rfl ?_
    refine run_s (ss_lss rfl rfl) rfl ?_
    refine run_nil ?_
    refine aw_cond rfl (fun q3 => ?_) (fun q3 => ?_)
    ·replace h := h.1 (of_decide_eq_true q3)
     refine aw_region ?_
     refine run_s (ss_move rfl) rfl ?_
     refine run_s (ss_move rfl) rfl ?_
     obtain ⟨q4, h⟩ := h
     refine run_w (ws_call (xs := [.tmp 21, .tmp 22]) (ids := []) rfl rfl rfl rfl (c_strings_Count s sep q4) rfl ?_ )
     rintro _ rfl
     refine ⟨rfl, ?_⟩
     obtain ⟨q6, h⟩ := h
     refine run_s (ss_add rfl rfl q6) rfl ?_
     refine run_s (ss_assign rfl) rfl ?_
     refine run_nil ?_
     refine aw_seq ?_
     refine aw_region ?_
     refine run_s (ss_move rfl) rfl ?_
     refine run_s (ss_move rfl) rfl ?_
     refine run_s (ss_lenS rfl) rfl ?_
     obtain ⟨q7, h⟩ := h
     refine run_s (ss_add rfl rfl q7) rfl ?_
     refine run_s (ss_min rfl rfl) rfl ?_
     refine run_s (ss_assign rfl) rfl ?_
     refine run_nil ?_
     refine aw_seq ?_
     refine aw_gh (gh_to (n := 66) (σ' := []) (env' := [(0, .c (cs s)), (1, .c (cs sep)), (2, .c (ci save)), (3, .c (ci (if (s.length : Int) + 1 < ((s.filter (fun b_ => decide ((b_.toNat : Int) = byt sep 0))).length : Int) + 1 then (s.length : Int) + 1 else ((s.filter (fun b_ => decide ((b_.toNat : Int) = byt sep 0))).length : Int) + 1)))]) rfl rfl ⟨rfl, rfl, rfl, rfl, trivial⟩) ?_
     refine aw_region ?_
     refine run_s (ss_move rfl) rfl ?_
     obtain ⟨q8, h⟩ := h
     refine run_w (ws_mk (id := 31) cs ([] : List UInt8) rfl rfl rfl q8 (Nat.le_of_ble_eq_true rfl) rfl ⟨rfl, ?_⟩)
     refine run_s (ss_assign rfl) rfl ?_
     refine run_nil ?_
     refine aw_seq ?_
     refine aw_region ?_
     refine run_s (ss_move rfl) rfl ?_
     obtain ⟨q9, h⟩ := h
     refine run_s (ss_sub rfl rfl q9) rfl ?_
     refine run_s (ss_assign rfl) rfl ?_
     refine run_nil ?_
     refine aw_seq ?_
     refine aw_gh (gh_to (n := 66) (σ' := [(31, ⟨strs (List.replicate (if (s.length : Int) + 1 < ((s.filter (fun b_ => decide ((b_.toNat : Int) = byt sep 0))).length : Int) + 1 then (s.length : Int) + 1 else ((s.filter (fun b_ => decide ((b_.toNat : Int) = byt sep 0))).length : Int) + 1).toNat ([] : List UInt8)), []⟩)]) (env' := [(0, .c (cs s)), (1, .c (cs sep)), (2, .c (ci save)), (3, .c (ci ((if (s.length : Int) + 1 < ((s.filter (fun b_ => decide ((b_.toNat : Int) = byt sep 0))).length : Int) + 1 then (s.length : Int) + 1 else ((s.filter (fun b_ => decide ((b_.toNat : Int) = byt sep 0))).length : Int) + 1) - 1))), (9, .ref 31)]) rfl rfl ⟨rfl, rfl, rfl, rfl, rfl, trivial⟩) ?_
     refine aw_region ?_
     refine run_s (ss_assign rfl) rfl ?_
     refine run_nil ?_
     refine aw_seq ?_
     refine aw_block ?_
     obtain ⟨H1, m1, q10, h⟩ := h
     refine aw_loop3 (fun (v0_1 : List UInt8) (v10_1 : Int) (o31_1 : List (List UInt8)) => ⟨[(31, ⟨strs o31_1, []⟩)], [(0, .c (cs v0_1)), (1, .c (cs sep)), (2, .c (ci save)), (3, .c (ci ((if (s.length : Int) + 1 < ((s.filter (fun b_ => decide ((b_.toNat : Int) = byt sep 0))).length : Int) + 1 then (s.length : Int) + 1 else ((s.filter (fun b_ => decide ((b_.toNat : Int) = byt sep 0))).length : Int) + 1) - 1))), (9, .ref 31), (10, .c (ci v10_1))], 66⟩) H1 m1 ⟨s, 0, List.replicate (if (s.length : Int) + 1 < ((s.filter (fun b_ => decide ((b_.toNat : Int) = byt sep 0))).length : Int) + 1 then (s.length : Int) + 1 else ((s.filter (fun b_ => decide ((b_.toNat : Int) = byt sep 0))).length : Int) + 1).toNat ([] : List UInt8), ghe_to (n := 66) rfl rfl ⟨rfl, rfl, rfl, rfl, rfl, rfl, trivial⟩, q10⟩ ?_
     rintro v0_1 v10_1 o31_1 q10
     replace h := h v0_1 v10_1 o31_1 q10
     refine aw_seq ?_
     refine aw_seq ?_
     refine aw_region ?_
     refine run_s (ss_move rfl) rfl ?_
     refine run_s (ss_move rfl) rfl ?_
     refine run_s (ss_lss rfl rfl) rfl ?_
     refine run_nil ?_
     refine aw_cond rfl (fun q11 => ?_) (fun q11 => ?_)
     ·replace h := h.1 (of_decide_eq_true q11)
      refine aw_skip ?_
      refine aw_block ?_
      refine aw_seq ?_
      refine aw_region ?_
      refine run_s (ss_move rfl) rfl ?_
      refine run_s (ss_move rfl) rfl ?_
      obtain ⟨q12, h⟩ := h
      refine run_w (ws_call (xs := [.tmp 37, .tmp 38]) (ids := []) rfl rfl rfl rfl (c_strings_Index v0_1 sep q12) rfl ?_ )
      rintro _ rfl
      refine ⟨rfl, ?_⟩
      refine run_s (ss_assign rfl) rfl ?_
      refine run_nil ?_
      refine aw_seq ?_
      refine aw_seq ?_
      refine aw_gh (gh_to (n := 66) (σ' := [(31, ⟨strs o31_1, []⟩)]) (env' := [(0, .c (cs v0_1)), (1, .c (cs sep)), (2, .c (ci save)), (3, .c (ci ((if (s.length : Int) + 1 < ((s.filter (fun b_ => decide ((b_.toNat : Int) = byt sep 0))).length : Int) + 1 then (s.length : Int) + 1 else ((s.filter (fun b_ => decide ((b_.toNat : Int) = byt sep 0))).length : Int) + 1) - 1))), (9, .ref 31), (10, .c (ci v10_1)), (11, .c (ci (idxF v0_1 (fun b_ => decide ((b_.toNat : Int) = byt sep 0)))))]) rfl rfl ⟨rfl, rfl, rfl, rfl, rfl, rfl, rfl, trivial⟩) ?_
      refine aw_region ?_
      refine run_s (ss_move rfl) rfl ?_
      refine run_s (ss_lss rfl rfl) rfl ?_
      refine run_nil ?_
      refine aw_cond rfl (fun q14 => ?_) (fun q14 => ?_)
      ·replace h := h.1 (of_decide_eq_true q14)
       refine aw_exit ?_
       refine aw_seq ?_
       refine aw_region ?_
       refine run_s (ss_move rfl) rfl ?_
       refine run_s (ss_move rfl) rfl ?_
       refine run_s (ss_move rfl) rfl ?_
       obtain ⟨q15, h⟩ := h
       refine run_s (ss_idxR (f := cs) rfl rfl rfl q15) rfl ?_
       refine run_w (ws_storeE rfl rfl (map_lt q15) rfl rfl (map_se (f := cs)) rfl ⟨rfl, ?_⟩)
       refine run_nil ?_
       refine aw_seq ?_
       refine aw_gh (gh_to (n := 66) (σ' := [(31, ⟨strs (se o31_1 v10_1 v0_1), []⟩)]) (env' := [(9, .ref 31), (10, .c (ci v10_1))]) rfl rfl ⟨rfl, rfl, trivial⟩) ?_
       refine aw_region ?_
       refine run_s (ss_move rfl) rfl ?_
       refine run_s (ss_move rfl) rfl ?_
       obtain ⟨q16, h⟩ := h
       refine run_s (ss_add rfl rfl q16) rfl ?_
       refine run_gh (gh_frzE (id := 31) cs rfl (fun _ => rfl)) ?_
       obtain ⟨q17, h⟩ := h
       refine run_s (ss_slL (f := cs) rfl rfl ⟨_, rfl⟩ q17) rfl ?_
       refine run_s (ss_assign rfl) rfl ?_
       refine run_nil ?_
       refine aw_ret ?_
       exact retAF_mk (retv1 rfl (rv_tmp rfl)) rfl rfl ⟨_, (cle_refl _), _, h, rfl⟩
      ·replace h := h.2 (of_decide_eq_false q14)
       refine aw_skip ?_
       refine aw_seq ?_
       refine aw_region ?_
       refine run_s (ss_move rfl) rfl ?_
       refine run_s (ss_move rfl) rfl ?_
       refine run_s (ss_move rfl) rfl ?_
       refine run_s (ss_move rfl) rfl ?_
       refine run_s (ss_move rfl) rfl ?_
       obtain ⟨q18, h⟩ := h
       refine run_s (ss_add rfl rfl q18) rfl ?_
       obtain ⟨q19, h⟩ := h
       refine run_s (ss_slS rfl bnd_none (bnd_some rfl) q19) rfl ?_
       obtain ⟨q20, h⟩ := h
       refine run_s (ss_idxR (f := cs) rfl rfl rfl q20) rfl ?_
       refine run_w (ws_storeE rfl rfl (map_lt q20) rfl rfl (map_se (f := cs)) rfl ⟨rfl, ?_⟩)
       refine run_nil ?_
       refine aw_seq ?_
       refine aw_gh (gh_to (n := 66) (σ' := [(31, ⟨strs (se o31_1 v10_1 (sl v0_1 0 ((idxF v0_1 (fun b_ => decide ((b_.toNat : Int) = byt sep 0))) + save))), []⟩)]) (env' := [(0, .c (cs v0_1)), (1, .c (cs sep)), (2, .c (ci save)), (3, .c (ci ((if (s.length : Int) + 1 < ((s.filter (fun b_ => decide ((b_.toNat : Int) = byt sep 0))).length : Int) + 1 then (s.length : Int) + 1 else ((s.filter (fun b_ => decide ((b_.toNat : Int) = byt sep 0))).length : Int) + 1) - 1))), (9, .ref 31), (10, .c (ci v10_1)), (11, .c (ci (idxF v0_1 (fun b_ => decide ((b_.toNat : Int) = byt sep 0)))))]) rfl rfl ⟨rfl, rfl, rfl, rfl, rfl, rfl, rfl, trivial⟩) ?_
       refine aw_region ?_
       refine run_s (ss_move rfl) rfl ?_
       refine run_s (ss_move rfl) rfl ?_
       refine run_s (ss_move rfl) rfl ?_
       refine run_s (ss_lenS rfl) rfl ?_
       obtain ⟨q21, h⟩ := h
       refine run_s (ss_add rfl rfl q21) rfl ?_
       obtain ⟨q22, h⟩ := h
       refine run_s (ss_slS rfl (bnd_some rfl) bnd_none q22) rfl ?_
       refine run_s (ss_assign rfl) rfl ?_
       refine run_nil ?_
       refine aw_gh (gh_to (n := 66) (σ' := [(31, ⟨strs (se o31_1 v10_1 (sl v0_1 0 ((idxF v0_1 (fun b_ => decide ((b_.toNat : Int) = byt sep 0))) + save))), []⟩)]) (env' := [(0, .c (cs (sl v0_1 ((idxF v0_1 (fun b_ => decide ((b_.toNat : Int) = byt sep 0))) + (sep.length : Int)) (v0_1.length : Int)))), (1, .c (cs sep)), (2, .c (ci save)), (3, .c (ci ((if (s.length : Int) + 1 < ((s.filter (fun b_ => decide ((b_.toNat : Int) = byt sep 0))).length : Int) + 1 then (s.length : Int) + 1 else ((s.filter (fun b_ => decide ((b_.toNat : Int) = byt sep 0))).length : Int) + 1) - 1))), (9, .ref 31), (10, .c (ci v10_1))]) rfl rfl ⟨rfl, rfl, rfl, rfl, rfl, rfl, trivial⟩) ?_
       refine aw_region ?_
       refine run_s (ss_move rfl) rfl ?_
       obtain ⟨q23, h⟩ := h
       refine run_s (ss_add rfl rfl q23) rfl ?_
       refine run_s (ss_assign rfl) rfl ?_
       refine run_nil ?_
       exact ⟨sl v0_1 ((idxF v0_1 (fun b_ => decide ((b_.toNat : Int) = byt sep 0))) + (sep.length : Int)) (v0_1.length : Int), v10_1 + 1, se o31_1 v10_1 (sl v0_1 0 ((idxF v0_1 (fun b_ => decide ((b_.toNat : Int) = byt sep 0))) + save)), ghe_to (n := 66) rfl rfl ⟨rfl, rfl, rfl, rfl, rfl, rfl, trivial⟩, h.1, h.2⟩
     ·replace h := h.2 (of_decide_eq_false q11)
      refine aw_exit ?_
      refine aw_seq ?_
      refine aw_region ?_
      refine run_s (ss_move rfl) rfl ?_
      refine run_s (ss_move rfl) rfl ?_
      refine run_s (ss_move rfl) rfl ?_
      obtain ⟨q24, h⟩ := h
      refine run_s (ss_idxR (f := cs) rfl rfl rfl q24) rfl ?_
      refine run_w (ws_storeE rfl rfl (map_lt q24) rfl rfl (map_se (f := cs)) rfl ⟨rfl, ?_⟩)
      refine run_nil ?_
      refine aw_seq ?_
      refine aw_gh (gh_to (n := 66) (σ' := [(31, ⟨strs (se o31_1 v10_1 v0_1), []⟩)]) (env' := [(9, .ref 31), (10, .c (ci v10_1))]) rfl rfl ⟨rfl, rfl, trivial⟩) ?_
      refine aw_region ?_
      refine run_s (ss_move rfl) rfl ?_
      refine run_s (ss_move rfl) rfl ?_
      obtain ⟨q25, h⟩ := h
      refine run_s (ss_add rfl rfl q25) rfl ?_
      refine run_gh (gh_frzE (id := 31) cs rfl (fun _ => rfl)) ?_
      obtain ⟨q26, h⟩ := h
      refine run_s (ss_slL (f := cs) rfl rfl ⟨_, rfl⟩ q26) rfl ?_
      refine run_s (ss_assign rfl) rfl ?_
      refine run_nil ?_
      refine aw_ret ?_
      exact retAF_mk (retv1 rfl (rv_tmp rfl)) rfl rfl ⟨_, (cle_refl _), _, h, rfl⟩
    ·replace h := h.2 (of_decide_eq_false q3)
     exact h.elim

theorem c_strings_genSplit (s : List UInt8) (sep : List UInt8) (save : Int) (n : Int) (hp : sep.length = 1 ∧ save = 0 ∧ n = -1 ∧ (s.length : Int) ≤ 1000000) : AF Tryd.prog 45 [cs s, cs sep, ci save, ci n] (fun R_ => R_ = .lst (strs (splS s (byt sep 0)))) :=
  (w_strings_genSplit s sep save n (fun y0 => y0 = splS s (byt sep 0)) (p_strings_genSplit s sep save n hp)).mono (by rintro r ⟨_, rfl, rfl⟩; rfl)

set_option maxRecDepth 100000 in
set_option maxHeartbeats 4000000 in
theorem w_strings_Split (s : List UInt8) (sep : List UInt8) (Q : List (List UInt8) → Prop) (h : wp_strings_Split s sep Q) : AF Tryd.prog 29 [cs s, cs sep] (fun R_ => ∃ y0, Q y0 ∧ R_ = .lst (strs y0)) := by
  refine AF.ofWQ (af_enter (n := 8) Tryd.func29 rfl (by rfl) rfl (Nat.le_of_ble_eq_true rfl) ?_)
  unfold wp_strings_Split at h
  refine aw_seq ?_
  refine aw_gh (gh_to (n := 8) (σ' := []) (env' := [(0, .c (cs s)), (1, .c (cs sep))]) rfl rfl ⟨rfl, rfl, trivial⟩) ?_
  refine aw_region ?_
  refine run_s (ss_assign rfl) rfl ?_
  refine run_nil ?_
  refine aw_seq ?_
  refine aw_region ?_
  refine run_s (ss_move rfl) rfl ?_
  refine run_s (ss_move rfl) rfl ?_
  obtain ⟨q1, h⟩ := h
  refine run_w (ws_call (xs := [.tmp 5, .tmp 6, .const (.int .i64 (0)), .const (.int .i64 (-1))]) (ids := []) rfl rfl rfl rfl (c_strings_genSplit s sep 0 (-1) q1) rfl ?_ )
  rintro _ rfl
  refine ⟨rfl, ?_⟩
  refine run_s (ss_assign rfl) rfl ?_
  refine run_nil ?_
  refine aw_ret ?_
  exact retAF_mk (retv1 rfl (rv_tmp rfl)) rfl rfl ⟨_, (cle_refl _), _, h, rfl⟩

theorem c_strings_Split (s : List UInt8) (sep : List UInt8) (hp : sep.length = 1 ∧ (s.length : Int) ≤ 1000000) : AF Tryd.prog 29 [cs s, cs sep] (fun R_ => R_ = .lst (strs (splS s (byt sep 0)))) :=
  (w_strings_Split s sep (fun y0 => y0 = splS s (byt sep 0)) (p_strings_Split s sep hp)).mono (by rintro r ⟨_, rfl, rfl⟩; rfl)

set_option maxRecDepth 100000 in
set_option maxHeartbeats 4000000 in
theorem w_impl_readDigits (text : List UInt8) (Q : List Int → Bool → Prop) (h : wp_impl_readDigits text Q) : AF Tryd.prog 30 [cs text] (fun R_ => ∃ y0 y1, Q y0 y1 ∧ R_ = .tup [.own (ints y0), cb y1]) := by
  refine AF.ofWQ (af_enter (n := 27) Tryd.func30 rfl (by rfl) rfl (Nat.le_of_ble_eq_true rfl) ?_)
  unfold wp_impl_readDigits at h
  refine aw_seq ?_
  refine aw_gh (gh_to (n := 27) (σ' := []) (env' := [(0, .c (cs text))]) rfl rfl ⟨rfl, trivial⟩) ?_
  refine aw_region ?_
  refine run_s (ss_assign rfl) rfl ?_
  refine run_s (ss_assign rfl) rfl ?_
  refine run_nil ?_
  refine aw_seq ?_
  refine aw_region ?_
  refine run_s (ss_move rfl) rfl ?_
  refine run_s (ss_lenS rfl) rfl ?_
  obtain ⟨q1, h⟩ := h
  refine run_w (ws_mk (id := 9) ci (0 : Int) rfl rfl rfl q1 (Nat.le_of_ble_eq_true rfl) rfl ⟨rfl, ?_⟩)
  refine run_s (ss_assign rfl) rfl ?_
  refine run_nil ?_
  refine aw_seq ?_
  refine aw_seq ?_
  refine aw_region ?_
  refine run_s (ss_move rfl) rfl ?_
  refine run_s (ss_lenR (f := ci) rfl rfl) rfl ?_
  refine run_s (ss_move rfl) rfl ?_
  refine run_nil ?_
  refine aw_block ?_
  obtain ⟨H1, m1, q2, h⟩ := h
  refine aw_loop2 (fun (v12_1 : Int) (o9_1 : List Int) => ⟨[(9, ⟨ints o9_1, []⟩)], [(0, .c (cs text)), (4, .ref 9), (11, .c (ci ((List.replicate (text.length : Int).toNat (0 : Int)).length : Int))), (12, .c (ci v12_1))], 27⟩) H1 m1 ⟨0, List.replicate (text.length : Int).toNat (0 : Int), ghe_to (n := 27) rfl rfl ⟨rfl, rfl, rfl, rfl, trivial⟩, q2⟩ ?_
  rintro v12_1 o9_1 q2
  replace h := h v12_1 o9_1 q2
  refine aw_seq ?_
  refine aw_region ?_
  refine run_s (ss_lss rfl rfl) rfl ?_
  refine run_nil ?_
  refine aw_seq ?_
  refine aw_cond rfl (fun q3 => ?_) (fun q3 => ?_)
  ·replace h := h.1 (of_decide_eq_true q3)
   refine aw_skip ?_
   refine aw_seq ?_
   refine aw_block ?_
   refine aw_seq ?_
   refine aw_region ?_
   refine run_s (ss_move rfl) rfl ?_
   refine run_s (ss_assign rfl) rfl ?_
   refine run_nil ?_
   refine aw_seq ?_
   refine aw_region ?_
   refine run_s (ss_move rfl) rfl ?_
   refine run_s (ss_move rfl) rfl ?_
   obtain ⟨q4, h⟩ := h
   refine run_s (ss_indexS (s := text) rfl rfl q4) rfl ?_
   obtain ⟨q5, h⟩ := h
   refine run_w (ws_call (xs := [.const (.string ⟨#[48, 49, 50, 51, 52, 53, 54, 55, 56, 57, 97, 98]⟩), .tmp 17]) (ids := []) rfl rfl rfl rfl (c_strings_IndexByte ([48, 49, 50, 51, 52, 53, 54, 55, 56, 57, 97, 98] : List UInt8) (byt text v12_1) q5) rfl ?_ )
   rintro _ rfl
   refine ⟨rfl, ?_⟩
   refine run_s (ss_assign rfl) rfl ?_
   refine run_nil ?_
   refine aw_seq ?_
   refine aw_seq ?_
   refine aw_gh (gh_to (n := 27) (σ' := [(9, ⟨ints o9_1, []⟩)]) (env' := [(0, .c (cs text)), (4, .ref 9), (5, .c (ci v12_1)), (6, .c (ci (idxF ([48, 49, 50, 51, 52, 53, 54, 55, 56, 57, 97, 98] : List UInt8) (fun b_ => decide ((b_.toNat : Int) = (byt text v12_1)))))), (11, .c (ci ((List.replicate (text.length : Int).toNat (0 : Int)).length : Int))), (12, .c (ci v12_1))]) rfl rfl ⟨rfl, rfl, rfl, rfl, rfl, rfl, trivial⟩) ?_
   refine aw_region ?_
   refine run_s (ss_move rfl) rfl ?_
   refine run_s (ss_lss rfl rfl) rfl ?_
   refine run_nil ?_
   refine aw_cond rfl (fun q7 => ?_) (fun q7 => ?_)
   ·replace h := h.1 (of_decide_eq_true q7)
    refine aw_seq ?_
    refine aw_gh (gh_to (n := 27) (σ' := [(9, ⟨ints o9_1, []⟩)]) (env' := []) rfl rfl trivial) ?_
    refine aw_region ?_
    refine run_s (ss_assign rfl) rfl ?_
    refine run_s (ss_assign rfl) rfl ?_
    refine run_nil ?_
    refine aw_ret ?_
    exact retAF_mk (retv2 rfl (rv_tmp rfl) (rv_tmp rfl)) rfl rfl ⟨_, (cle_tup (cleL_cons cle_nilO (cleL_cons (cle_refl _) cleL_nil))), _, _, h, rfl⟩
   ·replace h := h.2 (of_decide_eq_false q7)
    refine aw_skip ?_
    refine aw_region ?_
    refine run_s (ss_move rfl) rfl ?_
    refine run_s (ss_move rfl) rfl ?_
    refine run_s (ss_move rfl) rfl ?_
    obtain ⟨q8, h⟩ := h
    refine run_s (ss_idxR (f := ci) rfl rfl rfl q8) rfl ?_
    refine run_w (ws_storeE rfl rfl (map_lt q8) rfl rfl (map_se (f := ci)) rfl ⟨rfl, ?_⟩)
    refine run_nil ?_
    refine aw_gh (gh_to (n := 27) (σ' := [(9, ⟨ints (se o9_1 v12_1 (idxF ([48, 49, 50, 51, 52, 53, 54, 55, 56, 57, 97, 98] : List UInt8) (fun b_ => decide ((b_.toNat : Int) = (byt text v12_1))))), []⟩)]) (env' := [(0, .c (cs text)), (4, .ref 9), (11, .c (ci ((List.replicate (text.length : Int).toNat (0 : Int)).length : Int))), (12, .c (ci v12_1))]) rfl rfl ⟨rfl, rfl, rfl, rfl, trivial⟩) ?_
    refine aw_region ?_
    obtain ⟨q9, h⟩ := h
    refine run_s (ss_add rfl rfl q9) rfl ?_
    refine run_s (ss_move rfl) rfl ?_
    refine run_nil ?_
    exact ⟨v12_1 + 1, se o9_1 v12_1 (idxF ([48, 49, 50, 51, 52, 53, 54, 55, 56, 57, 97, 98] : List UInt8) (fun b_ => decide ((b_.toNat : Int) = (byt text v12_1)))), ghe_to (n := 27) rfl rfl ⟨rfl, rfl, rfl, rfl, trivial⟩, h.1, h.2⟩
  ·replace h := h.2 (of_decide_eq_false q3)
   refine aw_exit ?_
   refine aw_seq ?_
   refine aw_region ?_
   refine run_s (ss_move rfl) rfl ?_
   refine run_s (ss_assign rfl) rfl ?_
   refine run_s (ss_assign rfl) rfl ?_
   refine run_nil ?_
   refine aw_ret ?_
   exact retAF_mk (retv2 rfl (rv_tmp rfl) (rv_tmp rfl)) rfl rfl ⟨_, (cle_refl _), _, _, h, rfl⟩

theorem c_impl_readDigits (text : List UInt8) (hp : small text) : AF Tryd.prog 30 [cs text] (fun R_ => R_ = .tup [.own (ints (rdgT text)), cb (rdgB text)]) :=
  (w_impl_readDigits text (fun y0 y1 => y0 = rdgT text ∧ y1 = rdgB text) (p_impl_readDigits text hp)).mono (by rintro r ⟨_, _, ⟨rfl, rfl⟩, rfl⟩; rfl)

set_option maxRecDepth 100000 in
set_option maxHeartbeats 4000000 in
theorem w_impl_readTable (text : List UInt8) (Q : List (List Int) → Bool → Prop) (h : wp_impl_readTable text Q) : AF Tryd.prog 17 [cs text] (fun R_ => ∃ y0 y1, Q y0 y1 ∧ R_ = .tup [.own (orows y0), cb y1]) := by
  refine AF.ofWQ (af_enter (n := 34) Tryd.func17 rfl (by rfl) rfl (Nat.le_of_ble_eq_true rfl) ?_)
  unfold wp_impl_readTable at h
  refine aw_seq ?_
  refine aw_gh (gh_to (n := 34) (σ' := []) (env' := [(0, .c (cs text))]) rfl rfl ⟨rfl, trivial⟩) ?_
  refine aw_region ?_
  refine run_s (ss_assign rfl) rfl ?_
  refine run_s (ss_assign rfl) rfl ?_
  refine run_nil ?_
  refine aw_seq ?_
  refine aw_seq ?_
  refine aw_region ?_
  refine run_s (ss_move rfl) rfl ?_
  refine run_s (ss_lenS rfl) rfl ?_
  refine run_s (ss_gtr rfl rfl) rfl ?_
  refine run_nil ?_
  refine aw_cond rfl (fun q1 => ?_) (fun q1 => ?_)
  ·replace h := h.1 (of_decide_eq_true q1)
   refine aw_seq ?_
   refine aw_gh (gh_to (n := 34) (σ' := []) (env' := [(2, .c (cnil)), (3, .c (cb false))]) rfl rfl ⟨rfl, rfl, trivial⟩) ?_
   refine aw_region ?_
   refine run_s (ss_assign rfl) rfl ?_
   refine run_s (ss_assign rfl) rfl ?_
   refine run_nil ?_
   refine aw_ret ?_
   exact retAF_mk (retv2 rfl (rv_tmp rfl) (rv_tmp rfl)) rfl rfl ⟨_, (cle_tup (cleL_cons cle_nilO (cleL_cons (cle_refl _) cleL_nil))), _, _, h, rfl⟩
  ·replace h := h.2 (of_decide_eq_false q1)
   refine aw_skip ?_
   refine aw_seq ?_
   refine aw_gh (gh_to (n := 34) (σ' := []) (env' := [(0, .c (cs text))]) rfl rfl ⟨rfl, trivial⟩) ?_
   refine aw_region ?_
   refine run_s (ss_assign rfl) rfl ?_
   refine run_nil ?_
   refine aw_seq ?_
   refine aw_seq ?_
   refine aw_region ?_
   refine run_s (ss_move rfl) rfl ?_
   obtain ⟨q2, h⟩ := h
   refine run_w (ws_call (xs := [.tmp 12, .const (.string ⟨#[47]⟩)]) (ids := []) rfl rfl rfl rfl (c_strings_Split text ([47] : List UInt8) q2) rfl ?_ )
   rintro _ rfl
   refine ⟨rfl, ?_⟩
   refine run_s (ss_lenL (f := cs) rfl) rfl ?_
   refine run_s (ss_move rfl) rfl ?_
   refine run_nil ?_
   refine aw_block ?_
   obtain ⟨H1, m1, q4, h⟩ := h
   refine aw_loop2 (fun (v15_1 : Int) (o100004_1 : List (List Int)) => ⟨[(100004, ⟨orows o100004_1, []⟩)], [(4, .ref 100004), (13, .c (.lst (strs (splS text (byt ([47] : List UInt8) 0))))), (14, .c (ci ((splS text (byt ([47] : List UInt8) 0)).length : Int))), (15, .c (ci v15_1))], 34⟩) H1 m1 ⟨0, ([] : List (List Int)), ghe_step (gh_nilE (i := 4) (id := 100004) rfl rfl) (ghe_to (n := 34) rfl rfl ⟨rfl, rfl, rfl, rfl, trivial⟩), q4⟩ ?_
   rintro v15_1 o100004_1 q4
   replace h := h v15_1 o100004_1 q4
   refine aw_seq ?_
   refine aw_region ?_
   refine run_s (ss_lss rfl rfl) rfl ?_
   refine run_nil ?_
   refine aw_seq ?_
   refine aw_cond rfl (fun q5 => ?_) (fun q5 => ?_)
   ·replace h := h.1 (of_decide_eq_true q5)
    refine aw_skip ?_
    refine aw_seq ?_
    refine aw_block ?_
    refine aw_seq ?_
    refine aw_region ?_
    obtain ⟨q6, h⟩ := h
    refine run_s (ss_idxL rfl rfl q6) rfl ?_
    refine run_s (ss_loadL (f := cs) rfl q6) rfl ?_
    refine run_s (ss_assign rfl) rfl ?_
    refine run_nil ?_
    refine aw_seq ?_
    refine aw_region ?_
    refine run_s (ss_move rfl) rfl ?_
    obtain ⟨q7, h⟩ := h
    refine run_w (ws_call (xs := [.tmp 20]) (ids := [21]) rfl rfl rfl rfl (c_impl_readDigits (el (splS text (byt ([47] : List UInt8) 0)) v15_1) q7) rfl ?_ )
    rintro _ rfl
    refine ⟨rfl, ?_⟩
    refine run_s (ss_move rfl) rfl ?_
    refine run_s (ss_extract rfl rfl) rfl ?_
    refine run_s (ss_extract rfl rfl) rfl ?_
    refine run_s (ss_assign rfl) rfl ?_
    refine run_s (ss_assign rfl) rfl ?_
    refine run_nil ?_
    refine aw_seq ?_
    refine aw_seq ?_
    refine aw_gh (gh_to (n := 34) (σ' := [(21, ⟨ints (rdgT (el (splS text (byt ([47] : List UInt8) 0)) v15_1)), []⟩), (100004, ⟨orows o100004_1, []⟩)]) (env' := [(4, .ref 100004), (7, .ref 21), (8, .c (cb (rdgB (el (splS text (byt ([47] : List UInt8) 0)) v15_1)))), (13, .c (.lst (strs (splS text (byt ([47] : List UInt8) 0))))), (14, .c (ci ((splS text (byt ([47] : List UInt8) 0)).length : Int))), (15, .c (ci v15_1))]) rfl rfl ⟨rfl, rfl, rfl, rfl, rfl, rfl, trivial⟩) ?_
    refine aw_region ?_
    refine run_s (ss_move rfl) rfl ?_
    refine run_s (ss_not rfl) rfl ?_
    refine run_nil ?_
    refine aw_cond rfl (fun q9 => ?_) (fun q9 => ?_)
    ·replace h := h.1 ((bnot_t q9))
     refine aw_seq ?_
     refine aw_gh (gh_to (n := 34) (σ' := [(21, ⟨ints (rdgT (el (splS text (byt ([47] : List UInt8) 0)) v15_1)), []⟩), (100004, ⟨orows o100004_1, []⟩)]) (env' := []) rfl rfl trivial) ?_
     refine aw_region ?_
     refine run_s (ss_assign rfl) rfl ?_
     refine run_s (ss_assign rfl) rfl ?_
     refine run_nil ?_
     refine aw_ret ?_
     exact retAF_mk (retv2 rfl (rv_tmp rfl) (rv_tmp rfl)) rfl rfl ⟨_, (cle_tup (cleL_cons cle_nilO (cleL_cons (cle_refl _) cleL_nil))), _, _, h, rfl⟩
    ·replace h := h.2 ((bnot_f q9))
     refine aw_skip ?_
     refine aw_region ?_
     refine run_s (ss_move rfl) rfl ?_
     refine run_s (ss_move rfl) rfl ?_
     refine run_w (ws_buildSlice (id := 28) (ps := [(0, .tmp 27)]) rfl rfl (Nat.le_of_ble_eq_true rfl) rfl ⟨rfl, ?_⟩)
     refine run_gh (gh_fill (id := 28) (id2 := 21) (j := 0) rfl rfl (Nat.le_of_ble_eq_true rfl) rfl rfl rfl) ?_
     obtain ⟨q10, h⟩ := h
     refine run_w (ws_app1 (fun r => C.own (ints r)) (l := o100004_1) (m := [rdgT (el (splS text (byt ([47] : List UInt8) 0)) v15_1)]) rfl rfl rfl rfl rfl (Nat.le_of_ble_eq_true rfl) q10 ⟨rfl, ?_⟩)
     refine run_s (ss_assign rfl) rfl ?_
     refine run_nil ?_
     refine aw_gh (gh_to (n := 34) (σ' := [(100004, ⟨orows (o100004_1 ++ ([rdgT (el (splS text (byt ([47] : List UInt8) 0)) v15_1)])), []⟩)]) (env' := [(4, .ref 100004), (13, .c (.lst (strs (splS text (byt ([47] : List UInt8) 0))))), (14, .c (ci ((splS text (byt ([47] : List UInt8) 0)).length : Int))), (15, .c (ci v15_1))]) rfl rfl ⟨rfl, rfl, rfl, rfl, trivial⟩) ?_
     refine aw_region ?_
     obtain ⟨q11, h⟩ := h
     refine run_s (ss_add rfl rfl q11) rfl ?_
     refine run_s (ss_move rfl) rfl ?_
     refine run_nil ?_
     exact ⟨v15_1 + 1, o100004_1 ++ ([rdgT (el (splS text (byt ([47] : List UInt8) 0)) v15_1)]), ghe_to (n := 34) rfl rfl ⟨rfl, rfl, rfl, rfl, trivial⟩, h.1, h.2⟩
   ·replace h := h.2 (of_decide_eq_false q5)
    refine aw_exit ?_
    refine aw_seq ?_
    refine aw_region ?_
    refine run_s (ss_move rfl) rfl ?_
    refine run_s (ss_move rfl) rfl ?_
    obtain ⟨q12, h⟩ := h
    refine run_w (ws_callR (xs := [.tmp 32]) (cs := [.own (orows o100004_1)]) (ids := []) rfl (.inr ⟨rfl, rfl⟩) rfl rfl (fz_cons (fz_own (fz_map (fun _ => (fz_own (fz_map (fun _ => rfl) _))) _)) fz_nil) (c_impl_IsTable o100004_1 q12) rfl ?_ )
    rintro _ rfl
    refine ⟨rfl, rfl, ?_⟩
    refine run_s (ss_assign rfl) rfl ?_
    refine run_s (ss_assign rfl) rfl ?_
    refine run_nil ?_
    refine aw_ret ?_
    exact retAF_mk (retv2 rfl (rv_tmp rfl) (rv_tmp rfl)) rfl rfl ⟨_, (cle_refl _), _, _, h, rfl⟩

theorem c_impl_readTable (text : List UInt8) (hp : small text) : AF Tryd.prog 17 [cs text] (fun R_ => R_ = .tup [.own (orows (rdiT text)), cb (rtbB text)]) :=
  (w_impl_readTable text (fun y0 y1 => y0 = rdiT text ∧ y1 = rtbB text) (p_impl_readTable text hp)).mono (by rintro r ⟨_, _, ⟨rfl, rfl⟩, rfl⟩; rfl)

set_option maxRecDepth 100000 in
set_option maxHeartbeats 4000000 in
theorem w_spec_l01Split (text : List UInt8) (c : Int) (Q : List (List UInt8) → Prop) (h : wp_spec_l01Split text c Q) : AF Tryd.prog 24 [cs text, cy c] (fun R_ => ∃ y0, Q y0 ∧ R_ = .own (strs y0)) := by
  refine AF.ofWQ (af_enter (n := 35) Tryd.func24 rfl (by rfl) rfl (Nat.le_of_ble_eq_true rfl) ?_)
  unfold wp_spec_l01Split at h
  refine aw_seq ?_
  refine aw_gh (gh_to (n := 35) (σ' := []) (env' := [(0, .c (cs text)), (1, .c (cy c))]) rfl rfl ⟨rfl, rfl, trivial⟩) ?_
  refine aw_region ?_
  refine run_s (ss_assign rfl) rfl ?_
  refine run_nil ?_
  refine aw_seq ?_
  refine aw_region ?_
  refine run_w (ws_buildSlice (id := 8) (ps := []) rfl rfl (Nat.le_of_ble_eq_true rfl) rfl ⟨rfl, ?_⟩)
  refine run_s (ss_assign rfl) rfl ?_
  refine run_nil ?_
  refine aw_seq ?_
  refine aw_region ?_
  refine run_s (ss_assign rfl) rfl ?_
  refine run_nil ?_
  refine aw_seq ?_
  refine aw_seq ?_
  refine aw_region ?_
  refine run_s (ss_assign rfl) rfl ?_
  refine run_nil ?_
  refine aw_block ?_
  obtain ⟨H1, m1, q1, h⟩ := h
  refine aw_loop3 (fun (v6_1 : Int) (v7_1 : Int) (o8_1 : List (List UInt8)) => ⟨[(8, ⟨strs o8_1, []⟩)], [(0, .c (cs text)), (1, .c (cy c)), (5, .ref 8), (6, .c (ci v6_1)), (7, .c (ci v7_1))], 35⟩) H1 m1 ⟨0, 0, ([] : List (List UInt8)), ghe_to (n := 35) rfl rfl ⟨rfl, rfl, rfl, rfl, rfl, trivial⟩, q1⟩ ?_
  rintro v6_1 v7_1 o8_1 q1
  replace h := h v6_1 v7_1 o8_1 q1
  refine aw_seq ?_
  refine aw_seq ?_
  refine aw_region ?_
  refine run_s (ss_move rfl) rfl ?_
  refine run_s (ss_move rfl) rfl ?_
  refine run_s (ss_lenS rfl) rfl ?_
  refine run_s (ss_lss rfl rfl) rfl ?_
  refine run_nil ?_
  refine aw_cond rfl (fun q2 => ?_) (fun q2 => ?_)
  ·replace h := h.1 (of_decide_eq_true q2)
   refine aw_skip ?_
   refine aw_seq ?_
   refine aw_block ?_
   refine aw_seq ?_
   refine aw_region ?_
   refine run_s (ss_move rfl) rfl ?_
   refine run_s (ss_move rfl) rfl ?_
   obtain ⟨q3, h⟩ := h
   refine run_s (ss_indexS (s := text) rfl rfl q3) rfl ?_
   refine run_s (ss_move rfl) rfl ?_
   refine run_s (ss_eql rfl rfl) rfl ?_
   refine run_nil ?_
   refine aw_cond rfl (fun q4 => ?_) (fun q4 => ?_)
   ·replace h := h.1 (of_decide_eq_true q4)
    refine aw_seq ?_
    refine aw_region ?_
    refine run_s (ss_move rfl) rfl ?_
    refine run_s (ss_move rfl) rfl ?_
    refine run_s (ss_move rfl) rfl ?_
    refine run_s (ss_move rfl) rfl ?_
    obtain ⟨q5, h⟩ := h
    refine run_s (ss_slS rfl (bnd_some rfl) (bnd_some rfl) q5) rfl ?_
    refine run_w (ws_buildSlice (id := 25) (ps := [(0, .tmp 24)]) rfl rfl (Nat.le_of_ble_eq_true rfl) rfl ⟨rfl, ?_⟩)
    obtain ⟨q6, h⟩ := h
    refine run_w (ws_app1 cs (l := o8_1) (m := [sl text v6_1 v7_1]) rfl rfl rfl rfl rfl (Nat.le_of_ble_eq_true rfl) q6 ⟨rfl, ?_⟩)
    refine run_s (ss_assign rfl) rfl ?_
    refine run_nil ?_
    refine aw_gh (gh_to (n := 35) (σ' := [(8, ⟨strs (o8_1 ++ ([sl text v6_1 v7_1])), []⟩)]) (env' := [(0, .c (cs text)), (1, .c (cy c)), (5, .ref 8), (6, .c (ci v6_1)), (7, .c (ci v7_1))]) rfl rfl ⟨rfl, rfl, rfl, rfl, rfl, trivial⟩) ?_
    refine aw_region ?_
    refine run_s (ss_move rfl) rfl ?_
    obtain ⟨q7, h⟩ := h
    refine run_s (ss_add rfl rfl q7) rfl ?_
    refine run_s (ss_assign rfl) rfl ?_
    refine run_nil ?_
    refine aw_region ?_
    refine run_s (ss_move rfl) rfl ?_
    obtain ⟨q8, h⟩ := h
    refine run_s (ss_add rfl rfl q8) rfl ?_
    refine run_s (ss_assign rfl) rfl ?_
    refine run_nil ?_
    exact ⟨v7_1 + 1, v7_1 + 1, o8_1 ++ ([sl text v6_1 v7_1]), ghe_to (n := 35) rfl rfl ⟨rfl, rfl, rfl, rfl, rfl, trivial⟩, h.1, h.2⟩
   ·replace h := h.2 (of_decide_eq_false q4)
    refine aw_skip ?_
    refine aw_gh (gh_to (n := 35) (σ' := [(8, ⟨strs o8_1, []⟩)]) (env' := [(0, .c (cs text)), (1, .c (cy c)), (5, .ref 8), (6, .c (ci v6_1)), (7, .c (ci v7_1))]) rfl rfl ⟨rfl, rfl, rfl, rfl, rfl, trivial⟩) ?_
    refine aw_region ?_
    refine run_s (ss_move rfl) rfl ?_
    obtain ⟨q9, h⟩ := h
    refine run_s (ss_add rfl rfl q9) rfl ?_
    refine run_s (ss_assign rfl) rfl ?_
    refine run_nil ?_
    exact ⟨v6_1, v7_1 + 1, o8_1, ghe_to (n := 35) rfl rfl ⟨rfl, rfl, rfl, rfl, rfl, trivial⟩, h.1, h.2⟩
  ·replace h := h.2 (of_decide_eq_false q2)
   refine aw_exit ?_
   refine aw_seq ?_
   refine aw_region ?_
   refine run_s (ss_move rfl) rfl ?_
   refine run_s (ss_move rfl) rfl ?_
   refine run_s (ss_move rfl) rfl ?_
   obtain ⟨q10, h⟩ := h
   refine run_s (ss_slS rfl (bnd_some rfl) bnd_none q10) rfl ?_
   refine run_w (ws_buildSlice (id := 33) (ps := [(0, .tmp 32)]) rfl rfl (Nat.le_of_ble_eq_true rfl) rfl ⟨rfl, ?_⟩)
   obtain ⟨q11, h⟩ := h
   refine run_w (ws_app1 cs (l := o8_1) (m := [sl text v6_1 (text.length : Int)]) rfl rfl rfl rfl rfl (Nat.le_of_ble_eq_true rfl) q11 ⟨rfl, ?_⟩)
   refine run_s (ss_assign rfl) rfl ?_
   refine run_nil ?_
   refine aw_ret ?_
   exact retAF_mk (retv1 rfl (rv_tmp rfl)) rfl rfl ⟨_, (cle_refl _), _, h, rfl⟩

theorem c_spec_l01Split (text : List UInt8) (c : Int) (hp : shortS text) : AF Tryd.prog 24 [cs text, cy c] (fun R_ => R_ = .own (strs (splS text c))) :=
  (w_spec_l01Split text c (fun y0 => y0 = splS text c) (p_spec_l01Split text c hp)).mono (by rintro r ⟨_, rfl, rfl⟩; rfl)

set_option maxRecDepth 100000 in
set_option maxHeartbeats 4000000 in
theorem w_spec_l01Read (text : List UInt8) (Q : List Int → Bool → Prop) (h : wp_spec_l01Read text Q) : AF Tryd.prog 25 [cs text] (fun R_ => ∃ y0 y1, Q y0 y1 ∧ R_ = .tup [.own (ints y0), cb y1]) := by
  refine AF.ofWQ (af_enter (n := 36) Tryd.func25 rfl (by rfl) rfl (Nat.le_of_ble_eq_true rfl) ?_)
  unfold wp_spec_l01Read at h
  refine aw_seq ?_
  refine aw_gh (gh_to (n := 36) (σ' := []) (env' := [(0, .c (cs text))]) rfl rfl ⟨rfl, trivial⟩) ?_
  refine aw_region ?_
  refine run_s (ss_assign rfl) rfl ?_
  refine run_s (ss_assign rfl) rfl ?_
  refine run_nil ?_
  refine aw_seq ?_
  refine aw_region ?_
  refine run_w (ws_buildSlice (id := 7) (ps := []) rfl rfl (Nat.le_of_ble_eq_true rfl) rfl ⟨rfl, ?_⟩)
  refine run_s (ss_assign rfl) rfl ?_
  refine run_nil ?_
  refine aw_seq ?_
  refine aw_seq ?_
  refine aw_region ?_
  refine run_s (ss_assign rfl) rfl ?_
  refine run_nil ?_
  refine aw_block ?_
  obtain ⟨H1, m1, q1, h⟩ := h
  refine aw_loop2 (fun (v5_1 : Int) (o7_1 : List Int) => ⟨[(7, ⟨ints o7_1, []⟩)], [(0, .c (cs text)), (4, .ref 7), (5, .c (ci v5_1))], 36⟩) H1 m1 ⟨0, ([] : List Int), ghe_to (n := 36) rfl rfl ⟨rfl, rfl, rfl, trivial⟩, q1⟩ ?_
  rintro v5_1 o7_1 q1
  replace h := h v5_1 o7_1 q1
  refine aw_seq ?_
  refine aw_seq ?_
  refine aw_region ?_
  refine run_s (ss_move rfl) rfl ?_
  refine run_s (ss_move rfl) rfl ?_
  refine run_s (ss_lenS rfl) rfl ?_
  refine run_s (ss_lss rfl rfl) rfl ?_
  refine run_nil ?_
  refine aw_cond rfl (fun q2 => ?_) (fun q2 => ?_)
  ·replace h := h.1 (of_decide_eq_true q2)
   refine aw_skip ?_
   refine aw_seq ?_
   refine aw_block ?_
   refine aw_seq ?_
   refine aw_region ?_
   refine run_s (ss_move rfl) rfl ?_
   refine run_s (ss_move rfl) rfl ?_
   obtain ⟨q3, h⟩ := h
   refine run_s (ss_indexS (s := text) rfl rfl q3) rfl ?_
   obtain ⟨q4, h⟩ := h
   refine run_s (ss_convert rfl (wrap_in q4.1 q4.2)) rfl ?_
   refine run_s (ss_assign rfl) rfl ?_
   refine run_nil ?_
   refine aw_block ?_
   refine aw_seq ?_
   refine aw_gh (gh_to (n := 36) (σ' := [(7, ⟨ints o7_1, []⟩)]) (env' := [(0, .c (cs text)), (4, .ref 7), (5, .c (ci v5_1)), (6, .c (ci (byt text v5_1)))]) rfl rfl ⟨rfl, rfl, rfl, rfl, trivial⟩) ?_
   refine aw_region ?_
   refine run_s (ss_move rfl) rfl ?_
   refine run_w (ws_call (xs := [.tmp 19, .const (.int .i64 (48)), .const (.int .i64 (57))]) (ids := []) rfl rfl rfl rfl (c_spec_l01In (byt text v5_1) 48 57) rfl ?_ )
   rintro _ rfl
   refine ⟨rfl, ?_⟩
   refine run_s (ss_assign rfl) rfl ?_
   refine run_nil ?_
   refine aw_cond rfl (fun q6 => ?_) (fun q6 => ?_)
   ·replace h := h.1 (q6)
    refine aw_region ?_
    refine run_s (ss_move rfl) rfl ?_
    refine run_s (ss_move rfl) rfl ?_
    obtain ⟨q7, h⟩ := h
    refine run_s (ss_sub rfl rfl q7) rfl ?_
    refine run_w (ws_buildSlice (id := 24) (ps := [(0, .tmp 23)]) rfl rfl (Nat.le_of_ble_eq_true rfl) rfl ⟨rfl, ?_⟩)
    obtain ⟨q8, h⟩ := h
    refine run_w (ws_app1 ci (l := o7_1) (m := [(byt text v5_1) - 48]) rfl rfl rfl rfl rfl (Nat.le_of_ble_eq_true rfl) q8 ⟨rfl, ?_⟩)
    refine run_s (ss_assign rfl) rfl ?_
    refine run_nil ?_
    refine aw_gh (gh_to (n := 36) (σ' := [(7, ⟨ints (o7_1 ++ ([(byt text v5_1) - 48])), []⟩)]) (env' := [(0, .c (cs text)), (4, .ref 7), (5, .c (ci v5_1))]) rfl rfl ⟨rfl, rfl, rfl, trivial⟩) ?_
    refine aw_region ?_
    refine run_s (ss_move rfl) rfl ?_
    obtain ⟨q9, h⟩ := h
    refine run_s (ss_add rfl rfl q9) rfl ?_
    refine run_s (ss_assign rfl) rfl ?_
    refine run_nil ?_
    exact ⟨v5_1 + 1, o7_1 ++ ([(byt text v5_1) - 48]), ghe_to (n := 36) rfl rfl ⟨rfl, rfl, rfl, trivial⟩, h.1, h.2⟩
   ·replace h := h.2 (q6)
    refine aw_seq ?_
    refine aw_region ?_
    refine run_s (ss_move rfl) rfl ?_
    refine run_w (ws_call (xs := [.tmp 27, .const (.int .i64 (97)), .const (.int .i64 (98))]) (ids := []) rfl rfl rfl rfl (c_spec_l01In (byt text v5_1) 97 98) rfl ?_ )
    rintro _ rfl
    refine ⟨rfl, ?_⟩
    refine run_s (ss_assign rfl) rfl ?_
    refine run_nil ?_
    refine aw_cond rfl (fun q11 => ?_) (fun q11 => ?_)
    ·replace h := h.1 (q11)
     refine aw_region ?_
     refine run_s (ss_move rfl) rfl ?_
     refine run_s (ss_move rfl) rfl ?_
     obtain ⟨q12, h⟩ := h
     refine run_s (ss_sub rfl rfl q12) rfl ?_
     obtain ⟨q13, h⟩ := h
     refine run_s (ss_add rfl rfl q13) rfl ?_
     refine run_w (ws_buildSlice (id := 33) (ps := [(0, .tmp 32)]) rfl rfl (Nat.le_of_ble_eq_true rfl) rfl ⟨rfl, ?_⟩)
     obtain ⟨q14, h⟩ := h
     refine run_w (ws_app1 ci (l := o7_1) (m := [((byt text v5_1) - 97) + 10]) rfl rfl rfl rfl rfl (Nat.le_of_ble_eq_true rfl) q14 ⟨rfl, ?_⟩)
     refine run_s (ss_assign rfl) rfl ?_
     refine run_nil ?_
     refine aw_gh (gh_to (n := 36) (σ' := [(7, ⟨ints (o7_1 ++ ([((byt text v5_1) - 97) + 10])), []⟩)]) (env' := [(0, .c (cs text)), (4, .ref 7), (5, .c (ci v5_1))]) rfl rfl ⟨rfl, rfl, rfl, trivial⟩) ?_
     refine aw_region ?_
     refine run_s (ss_move rfl) rfl ?_
     obtain ⟨q15, h⟩ := h
     refine run_s (ss_add rfl rfl q15) rfl ?_
     refine run_s (ss_assign rfl) rfl ?_
     refine run_nil ?_
     exact ⟨v5_1 + 1, o7_1 ++ ([((byt text v5_1) - 97) + 10]), ghe_to (n := 36) rfl rfl ⟨rfl, rfl, rfl, trivial⟩, h.1, h.2⟩
    ·replace h := h.2 (q11)
     refine aw_seq ?_
     refine aw_gh (gh_to (n := 36) (σ' := [(7, ⟨ints o7_1, []⟩)]) (env' := []) rfl rfl trivial) ?_
     refine aw_region ?_
     refine run_s (ss_assign rfl) rfl ?_
     refine run_s (ss_assign rfl) rfl ?_
     refine run_nil ?_
     refine aw_ret ?_
     exact retAF_mk (retv2 rfl (rv_tmp rfl) (rv_tmp rfl)) rfl rfl ⟨_, (cle_tup (cleL_cons cle_nilO (cleL_cons (cle_refl _) cleL_nil))), _, _, h, rfl⟩
  ·replace h := h.2 (of_decide_eq_false q2)
   refine aw_exit ?_
   refine aw_seq ?_
   refine aw_gh (gh_to (n := 36) (σ' := [(7, ⟨ints o7_1, []⟩)]) (env' := [(4, .ref 7)]) rfl rfl ⟨rfl, trivial⟩) ?_
   refine aw_region ?_
   refine run_s (ss_move rfl) rfl ?_
   refine run_s (ss_assign rfl) rfl ?_
   refine run_s (ss_assign rfl) rfl ?_
   refine run_nil ?_
   refine aw_ret ?_
   exact retAF_mk (retv2 rfl (rv_tmp rfl) (rv_tmp rfl)) rfl rfl ⟨_, (cle_refl _), _, _, h, rfl⟩

theorem c_spec_l01Read (text : List UInt8) (hp : small text) : AF Tryd.prog 25 [cs text] (fun R_ => R_ = .tup [.own (ints (rdgT text)), cb (rdgB text)]) :=
  (w_spec_l01Read text (fun y0 y1 => y0 = rdgT text ∧ y1 = rdgB text) (p_spec_l01Read text hp)).mono (by rintro r ⟨_, _, ⟨rfl, rfl⟩, rfl⟩; rfl)

set_option maxRecDepth 100000 in
set_option maxHeartbeats 4000000 in
theorem w_spec_l01Parse (text : List UInt8) (Q : List (List Int) → Bool → Prop) (h : wp_spec_l01Parse text Q) : AF Tryd.prog 15 [cs text] (fun R_ => ∃ y0 y1, Q y0 y1 ∧ R_ = .tup [.own (orows y0), cb y1]) := by
  refine AF.ofWQ (af_enter (n := 36) Tryd.func15 rfl (by rfl) rfl (Nat.le_of_ble_eq_true rfl) ?_)
  unfold wp_spec_l01Parse at h
  refine aw_seq ?_
  refine aw_gh (gh_to (n := 36) (σ' := []) (env' := [(0, .c (cs text))]) rfl rfl ⟨rfl, trivial⟩) ?_
  refine aw_region ?_
  refine run_s (ss_assign rfl) rfl ?_
  refine run_s (ss_assign rfl) rfl ?_
  refine run_nil ?_
  refine aw_seq ?_
  refine aw_region ?_
  refine run_s (ss_move rfl) rfl ?_
  obtain ⟨q1, h⟩ := h
  refine run_w (ws_call (xs := [.tmp 9, .const (.int .u8 (47))]) (ids := [10]) rfl rfl rfl rfl (c_spec_l01Split text 47 q1) rfl ?_ )
  rintro _ rfl
  refine ⟨rfl, ?_⟩
  refine run_w (ws_buildSlice (id := 11) (ps := []) rfl rfl (Nat.le_of_ble_eq_true rfl) rfl ⟨rfl, ?_⟩)
  refine run_s (ss_assign rfl) rfl ?_
  refine run_s (ss_assign rfl) rfl ?_
  refine run_nil ?_
  refine aw_seq ?_
  refine aw_seq ?_
  refine aw_gh (gh_to (n := 36) (σ' := [(11, ⟨orows ([] : List (List Int)), []⟩), (10, ⟨strs (splS text (47 : Int)), []⟩)]) (env' := [(4, .ref 10), (5, .ref 11)]) rfl rfl ⟨rfl, rfl, trivial⟩) ?_
  refine aw_region ?_
  refine run_s (ss_assign rfl) rfl ?_
  refine run_nil ?_
  refine aw_block ?_
  obtain ⟨H1, m1, q3, h⟩ := h
  refine aw_loop2 (fun (v6_1 : Int) (o11_1 : List (List Int)) => ⟨[(11, ⟨orows o11_1, []⟩), (10, ⟨strs (splS text (47 : Int)), []⟩)], [(4, .ref 10), (5, .ref 11), (6, .c (ci v6_1))], 36⟩) H1 m1 ⟨0, ([] : List (List Int)), ghe_to (n := 36) rfl rfl ⟨rfl, rfl, rfl, trivial⟩, q3⟩ ?_
  rintro v6_1 o11_1 q3
  replace h := h v6_1 o11_1 q3
  refine aw_seq ?_
  refine aw_seq ?_
  refine aw_region ?_
  refine run_s (ss_move rfl) rfl ?_
  refine run_s (ss_move rfl) rfl ?_
  refine run_s (ss_lenR (f := cs) rfl rfl) rfl ?_
  refine run_s (ss_lss rfl rfl) rfl ?_
  refine run_nil ?_
  refine aw_cond rfl (fun q4 => ?_) (fun q4 => ?_)
  ·replace h := h.1 (of_decide_eq_true q4)
   refine aw_skip ?_
   refine aw_seq ?_
   refine aw_block ?_
   refine aw_seq ?_
   refine aw_region ?_
   refine run_s (ss_move rfl) rfl ?_
   refine run_s (ss_move rfl) rfl ?_
   obtain ⟨q5, h⟩ := h
   refine run_s (ss_idxR (f := cs) rfl rfl rfl q5) rfl ?_
   refine run_s (ss_loadR (f := cs) rfl rfl q5 rfl rfl) rfl ?_
   obtain ⟨q6, h⟩ := h
   refine run_w (ws_call (xs := [.tmp 22]) (ids := [23]) rfl rfl rfl rfl (c_spec_l01Read (el (splS text (47 : Int)) v6_1) q6) rfl ?_ )
   rintro _ rfl
   refine ⟨rfl, ?_⟩
   refine run_s (ss_move rfl) rfl ?_
   refine run_s (ss_extract rfl rfl) rfl ?_
   refine run_s (ss_extract rfl rfl) rfl ?_
   refine run_s (ss_assign rfl) rfl ?_
   refine run_s (ss_assign rfl) rfl ?_
   refine run_nil ?_
   refine aw_seq ?_
   refine aw_seq ?_
   refine aw_gh (gh_to (n := 36) (σ' := [(23, ⟨ints (rdgT (el (splS text (47 : Int)) v6_1)), []⟩), (11, ⟨orows o11_1, []⟩), (10, ⟨strs (splS text (47 : Int)), []⟩)]) (env' := [(4, .ref 10), (5, .ref 11), (6, .c (ci v6_1)), (7, .ref 23), (8, .c (cb (rdgB (el (splS text (47 : Int)) v6_1))))]) rfl rfl ⟨rfl, rfl, rfl, rfl, rfl, trivial⟩) ?_
   refine aw_region ?_
   refine run_s (ss_move rfl) rfl ?_
   refine run_s (ss_not rfl) rfl ?_
   refine run_nil ?_
   refine aw_cond rfl (fun q8 => ?_) (fun q8 => ?_)
   ·replace h := h.1 ((bnot_t q8))
    refine aw_seq ?_
    refine aw_gh (gh_to (n := 36) (σ' := [(23, ⟨ints (rdgT (el (splS text (47 : Int)) v6_1)), []⟩), (11, ⟨orows o11_1, []⟩), (10, ⟨strs (splS text (47 : Int)), []⟩)]) (env' := []) rfl rfl trivial) ?_
    refine aw_region ?_
    refine run_s (ss_assign rfl) rfl ?_
    refine run_s (ss_assign rfl) rfl ?_
    refine run_nil ?_
    refine aw_ret ?_
    exact retAF_mk (retv2 rfl (rv_tmp rfl) (rv_tmp rfl)) rfl rfl ⟨_, (cle_tup (cleL_cons cle_nilO (cleL_cons (cle_refl _) cleL_nil))), _, _, h, rfl⟩
   ·replace h := h.2 ((bnot_f q8))
    refine aw_skip ?_
    refine aw_region ?_
    refine run_s (ss_move rfl) rfl ?_
    refine run_s (ss_move rfl) rfl ?_
    refine run_w (ws_buildSlice (id := 30) (ps := [(0, .tmp 29)]) rfl rfl (Nat.le_of_ble_eq_true rfl) rfl ⟨rfl, ?_⟩)
    refine run_gh (gh_fill (id := 30) (id2 := 23) (j := 0) rfl rfl (Nat.le_of_ble_eq_true rfl) rfl rfl rfl) ?_
    obtain ⟨q9, h⟩ := h
    refine run_w (ws_app1 (fun r => C.own (ints r)) (l := o11_1) (m := [rdgT (el (splS text (47 : Int)) v6_1)]) rfl rfl rfl rfl rfl (Nat.le_of_ble_eq_true rfl) q9 ⟨rfl, ?_⟩)
    refine run_s (ss_assign rfl) rfl ?_
    refine run_nil ?_
    refine aw_gh (gh_to (n := 36) (σ' := [(11, ⟨orows (o11_1 ++ ([rdgT (el (splS text (47 : Int)) v6_1)])), []⟩), (10, ⟨strs (splS text (47 : Int)), []⟩)]) (env' := [(4, .ref 10), (5, .ref 11), (6, .c (ci v6_1))]) rfl rfl ⟨rfl, rfl, rfl, trivial⟩) ?_
    refine aw_region ?_
    refine run_s (ss_move rfl) rfl ?_
    obtain ⟨q10, h⟩ := h
    refine run_s (ss_add rfl rfl q10) rfl ?_
    refine run_s (ss_assign rfl) rfl ?_
    refine run_nil ?_
    exact ⟨v6_1 + 1, o11_1 ++ ([rdgT (el (splS text (47 : Int)) v6_1)]), ghe_to (n := 36) rfl rfl ⟨rfl, rfl, rfl, trivial⟩, h.1, h.2⟩
  ·replace h := h.2 (of_decide_eq_false q4)
   refine aw_exit ?_
   refine aw_seq ?_
   refine aw_seq ?_
   refine aw_gh (gh_to (n := 36) (σ' := [(11, ⟨orows o11_1, []⟩), (10, ⟨strs (splS text (47 : Int)), []⟩)]) (env' := [(5, .ref 11)]) rfl rfl ⟨rfl, trivial⟩) ?_
   refine aw_region ?_
   refine run_s (ss_move rfl) rfl ?_
   obtain ⟨q11, h⟩ := h
   refine run_w (ws_callR (xs := [.tmp 32]) (cs := [.own (orows o11_1)]) (ids := []) rfl (.inr ⟨rfl, rfl⟩) rfl rfl (fz_cons (fz_own (fz_map (fun _ => (fz_own (fz_map (fun _ => rfl) _))) _)) fz_nil) (c_spec_l01Table o11_1 q11) rfl ?_ )
   rintro _ rfl
   refine ⟨rfl, rfl, ?_⟩
   refine run_s (ss_not rfl) rfl ?_
   refine run_nil ?_
   refine aw_cond rfl (fun q13 => ?_) (fun q13 => ?_)
   ·replace h := h.1 ((bnot_t q13))
    refine aw_seq ?_
    refine aw_gh (gh_to (n := 36) (σ' := [(11, ⟨orows o11_1, []⟩), (10, ⟨strs (splS text (47 : Int)), []⟩)]) (env' := []) rfl rfl trivial) ?_
    refine aw_region ?_
    refine run_s (ss_assign rfl) rfl ?_
    refine run_s (ss_assign rfl) rfl ?_
    refine run_nil ?_
    refine aw_ret ?_
    exact retAF_mk (retv2 rfl (rv_tmp rfl) (rv_tmp rfl)) rfl rfl ⟨_, (cle_tup (cleL_cons cle_nilO (cleL_cons (cle_refl _) cleL_nil))), _, _, h, rfl⟩
   ·replace h := h.2 ((bnot_f q13))
    refine aw_skip ?_
    refine aw_seq ?_
    refine aw_region ?_
    refine run_s (ss_move rfl) rfl ?_
    refine run_s (ss_assign rfl) rfl ?_
    refine run_s (ss_assign rfl) rfl ?_
    refine run_nil ?_
    refine aw_ret ?_
    exact retAF_mk (retv2 rfl (rv_tmp rfl) (rv_tmp rfl)) rfl rfl ⟨_, (cle_refl _), _, _, h, rfl⟩

theorem c_spec_l01Parse (text : List UInt8) (hp : shortS text) : AF Tryd.prog 15 [cs text] (fun R_ => R_ = .tup [.own (orows (rtbT text)), cb (rtbB text)]) :=
  (w_spec_l01Parse text (fun y0 y1 => y0 = rtbT text ∧ y1 = rtbB text) (p_spec_l01Parse text hp)).mono (by rintro r ⟨_, _, ⟨rfl, rfl⟩, rfl⟩; rfl)

set_option maxRecDepth 100000 in
set_option maxHeartbeats 4000000 in
theorem w_spec_ParseCycleSet (text : List UInt8) (Q : List (List Int) → Int → Prop) (h : wp_spec_ParseCycleSet text Q) : AF Tryd.prog 10 [cs text] (fun R_ => ∃ y0 y1, Q y0 y1 ∧ R_ = .tup [.agg [.own (orows y0)], ci y1]) := by
  refine AF.ofWQ (af_enter (n := 23) Tryd.func10 rfl (by rfl) rfl (Nat.le_of_ble_eq_true rfl) ?_)
  unfold wp_spec_ParseCycleSet at h
  refine aw_seq ?_
  refine aw_gh (gh_to (n := 23) (σ' := []) (env' := [(0, .c (cs text))]) rfl rfl ⟨rfl, trivial⟩) ?_
  refine aw_region ?_
  refine run_w (ws_alloc (id := 2) rfl (Nat.le_of_ble_eq_true rfl) ⟨rfl, ?_⟩)
  refine run_s (ss_assign rfl) rfl ?_
  refine run_nil ?_
  refine aw_seq ?_
  refine aw_region ?_
  refine run_s (ss_move rfl) rfl ?_
  obtain ⟨q1, h⟩ := h
  refine run_w (ws_call (xs := [.tmp 8]) (ids := [9]) rfl rfl rfl rfl (c_spec_l01Parse text q1) rfl ?_ )
  rintro _ rfl
  refine ⟨rfl, ?_⟩
  refine run_s (ss_move rfl) rfl ?_
  refine run_s (ss_extract rfl rfl) rfl ?_
  refine run_s (ss_extract rfl rfl) rfl ?_
  refine run_s (ss_assign rfl) rfl ?_
  refine run_s (ss_assign rfl) rfl ?_
  refine run_nil ?_
  refine aw_seq ?_
  refine aw_region ?_
  refine run_s (ss_move rfl) rfl ?_
  refine run_s (ss_build (ps := [(0, .tmp 12)]) rfl rfl) rfl ?_
  refine run_w (ws_alloc (id := 6) rfl (Nat.le_of_ble_eq_true rfl) ⟨rfl, ?_⟩)
  refine run_w (ws_storeS rfl rfl (Nat.le_of_ble_eq_true rfl) rfl rfl rfl ⟨rfl, ?_⟩)
  refine run_nil ?_
  refine aw_seq ?_
  refine aw_seq ?_
  refine aw_gh (gh_to (n := 23) (σ' := [(6, ⟨[.hole], [(0, .ref 9)]⟩), (9, ⟨orows (rtbT text), []⟩), (2, ⟨[cnil], []⟩)]) (env' := [(2, .cell 2 0), (5, .c (cb (rtbB text))), (6, .cell 6 0)]) rfl rfl ⟨rfl, rfl, rfl, trivial⟩) ?_
  refine aw_region ?_
  refine run_s (ss_move rfl) rfl ?_
  refine run_s (ss_not rfl) rfl ?_
  refine run_s (ss_move rfl) rfl ?_
  refine run_split (s := 16) rfl (fun q3 => ?_) (fun q3 => ?_)
  ·replace h := h.1 ((bnot_t q3))
   refine run_gf rfl rfl q3 rfl ?_
   refine run_gf rfl rfl q3 rfl ?_
   refine run_gf rfl rfl q3 rfl ?_
   refine run_s (ss_pickT rfl q3 rfl) rfl ?_
   refine run_nil ?_
   refine aw_cond rfl (fun q4 => ?_) (fun q4 => ?_)
   ·skip
    refine aw_seq ?_
    refine aw_gh (gh_to (n := 23) (σ' := [(6, ⟨[.hole], [(0, .ref 9)]⟩), (9, ⟨orows (rtbT text), []⟩), (2, ⟨[cnil], []⟩)]) (env' := [(2, .cell 2 0)]) rfl rfl ⟨rfl, trivial⟩) ?_
    refine aw_region ?_
    refine run_s (ss_build0) rfl ?_
    refine run_w (ws_storeS rfl rfl (Nat.le_of_ble_eq_true rfl) rfl rfl rfl ⟨rfl, ?_⟩)
    refine run_s (ss_assign rfl) rfl ?_
    refine run_nil ?_
    refine aw_ret ?_
    exact retAF_mk (retv2 rfl (rv_struct rfl rfl rfl) (rv_tmp rfl)) rfl rfl ⟨_, (cle_tup (cleL_cons (cle_agg (cleL_cons cle_nilO cleL_nil)) (cleL_cons (cle_refl _) cleL_nil))), _, _, h, rfl⟩
   ·cases q4
  ·replace h := h.2 ((bnot_f q3))
   refine run_gt rfl rfl q3 ?_
   refine run_s (ss_loadS rfl rfl rfl rfl) rfl ?_
   refine run_gt rfl rfl q3 ?_
   obtain ⟨q5, h⟩ := h
   refine run_w (ws_callR (xs := [.tmp 17]) (cs := [.agg [.own (orows (rtbT text))]]) (ids := []) rfl (.inr ⟨rfl, rfl⟩) rfl rfl (fz_cons (fz_agg (fz_cons (fz_own (fz_map (fun _ => (fz_own (fz_map (fun _ => rfl) _))) _)) fz_nil)) fz_nil) (c_spec_l05Is (rtbT text) q5) rfl ?_ )
   rintro _ rfl
   refine ⟨rfl, rfl, ?_⟩
   refine run_gt rfl rfl q3 ?_
   refine run_s (ss_not rfl) rfl ?_
   refine run_s (ss_pickF rfl q3 rfl) rfl ?_
   refine run_nil ?_
   refine aw_cond rfl (fun q7 => ?_) (fun q7 => ?_)
   ·replace h := h.1 ((bnot_t q7))
    refine aw_seq ?_
    refine aw_gh (gh_to (n := 23) (σ' := [(6, ⟨[.hole], [(0, .ref 9)]⟩), (9, ⟨orows (rtbT text), []⟩), (2, ⟨[cnil], []⟩)]) (env' := [(2, .cell 2 0)]) rfl rfl ⟨rfl, trivial⟩) ?_
    refine aw_region ?_
    refine run_s (ss_build0) rfl ?_
    refine run_w (ws_storeS rfl rfl (Nat.le_of_ble_eq_true rfl) rfl rfl rfl ⟨rfl, ?_⟩)
    refine run_s (ss_assign rfl) rfl ?_
    refine run_nil ?_
    refine aw_ret ?_
    exact retAF_mk (retv2 rfl (rv_struct rfl rfl rfl) (rv_tmp rfl)) rfl rfl ⟨_, (cle_tup (cleL_cons (cle_agg (cleL_cons cle_nilO cleL_nil)) (cleL_cons (cle_refl _) cleL_nil))), _, _, h, rfl⟩
   ·replace h := h.2 ((bnot_f q7))
    refine aw_skip ?_
    refine aw_seq ?_
    refine aw_gh (gh_to (n := 23) (σ' := [(6, ⟨[.hole], [(0, .ref 9)]⟩), (9, ⟨orows (rtbT text), []⟩), (2, ⟨[cnil], []⟩)]) (env' := [(2, .cell 2 0), (6, .cell 6 0)]) rfl rfl ⟨rfl, rfl, trivial⟩) ?_
    refine aw_region ?_
    refine run_s (ss_loadS rfl rfl rfl rfl) rfl ?_
    refine run_w (ws_storeS rfl rfl (Nat.le_of_ble_eq_true rfl) rfl rfl rfl ⟨rfl, ?_⟩)
    refine run_s (ss_assign rfl) rfl ?_
    refine run_nil ?_
    refine aw_ret ?_
    exact retAF_mk (retv2 rfl (rv_struct rfl rfl rfl) (rv_tmp rfl)) rfl rfl ⟨_, (cle_refl _), _, _, h, rfl⟩

theorem c_spec_ParseCycleSet (text : List UInt8) (hp : shortS text) : AF Tryd.prog 10 [cs text] (fun R_ => R_ = .tup [.agg [.own (orows (pcyT text))], ci (pcyE text)]) :=
  (w_spec_ParseCycleSet text (fun y0 y1 => y0 = pcyT text ∧ y1 = pcyE text) (p_spec_ParseCycleSet text hp)).mono (by rintro r ⟨_, _, ⟨rfl, rfl⟩, rfl⟩; rfl)

set_option maxRecDepth 100000 in
set_option maxHeartbeats 4000000 in
theorem w_impl_ParseCycleSet (text : List UInt8) (Q : List (List Int) → Int → Prop) (h : wp_impl_ParseCycleSet text Q) : AF Tryd.prog 11 [cs text] (fun R_ => ∃ y0 y1, Q y0 y1 ∧ R_ = .tup [.agg [.own (orows y0)], ci y1]) := by
  refine AF.ofWQ (af_enter (n := 22) Tryd.func11 rfl (by rfl) rfl (Nat.le_of_ble_eq_true rfl) ?_)
  unfold wp_impl_ParseCycleSet at h
  refine aw_seq ?_
  refine aw_gh (gh_to (n := 22) (σ' := []) (env' := [(0, .c (cs text))]) rfl rfl ⟨rfl, trivial⟩) ?_
  refine aw_region ?_
  refine run_w (ws_alloc (id := 2) rfl (Nat.le_of_ble_eq_true rfl) ⟨rfl, ?_⟩)
  refine run_s (ss_assign rfl) rfl ?_
  refine run_nil ?_
  refine aw_seq ?_
  refine aw_region ?_
  refine run_s (ss_move rfl) rfl ?_
  obtain ⟨q1, h⟩ := h
  refine run_w (ws_call (xs := [.tmp 7]) (ids := [8]) rfl rfl rfl rfl (c_impl_readTable text q1) rfl ?_ )
  rintro _ rfl
  refine ⟨rfl, ?_⟩
  refine run_s (ss_move rfl) rfl ?_
  refine run_s (ss_extract rfl rfl) rfl ?_
  refine run_s (ss_extract rfl rfl) rfl ?_
  refine run_s (ss_assign rfl) rfl ?_
  refine run_s (ss_assign rfl) rfl ?_
  refine run_nil ?_
  refine aw_seq ?_
  refine aw_seq ?_
  refine aw_region ?_
  refine run_s (ss_move rfl) rfl ?_
  refine run_s (ss_not rfl) rfl ?_
  refine run_s (ss_move rfl) rfl ?_
  refine run_split (s := 13) rfl (fun q3 => ?_) (fun q3 => ?_)
  ·replace h := h.1 ((bnot_t q3))
   refine run_gf rfl rfl q3 rfl ?_
   refine run_gf rfl rfl q3 rfl ?_
   refine run_gf rfl rfl q3 rfl ?_
   refine run_gf rfl rfl q3 rfl ?_
   refine run_s (ss_pickT rfl q3 rfl) rfl ?_
   refine run_nil ?_
   refine aw_cond rfl (fun q4 => ?_) (fun q4 => ?_)
   ·skip
    refine aw_seq ?_
    refine aw_gh (gh_to (n := 22) (σ' := [(8, ⟨orows (rdiT text), []⟩), (2, ⟨[cnil], []⟩)]) (env' := [(2, .cell 2 0), (3, .c (ci 0))]) rfl rfl ⟨rfl, rfl, trivial⟩) ?_
    refine aw_region ?_
    refine run_s (ss_build0) rfl ?_
    refine run_w (ws_storeS rfl rfl (Nat.le_of_ble_eq_true rfl) rfl rfl rfl ⟨rfl, ?_⟩)
    refine run_s (ss_assign rfl) rfl ?_
    refine run_nil ?_
    refine aw_ret ?_
    exact retAF_mk (retv2 rfl (rv_struct rfl rfl rfl) (rv_tmp rfl)) rfl rfl ⟨_, (cle_tup (cleL_cons (cle_agg (cleL_cons cle_nilO cleL_nil)) (cleL_cons (cle_refl _) cleL_nil))), _, _, h, rfl⟩
   ·cases q4
  ·replace h := h.2 ((bnot_f q3))
   refine run_gt rfl rfl q3 ?_
   refine run_s (ss_move rfl) rfl ?_
   refine run_gt rfl rfl q3 ?_
   refine run_s (ss_build (ps := [(0, .tmp 14)]) rfl rfl) rfl ?_
   refine run_gt rfl rfl q3 ?_
   obtain ⟨q5, h⟩ := h
   refine run_w (ws_callR (xs := [.tmp 15]) (cs := [.agg [.own (orows (rdiT text))]]) (ids := []) rfl (.inr ⟨rfl, rfl⟩) rfl rfl (fz_cons (fz_agg (fz_cons (fz_own (fz_map (fun _ => (fz_own (fz_map (fun _ => rfl) _))) _)) fz_nil)) fz_nil) (c_impl_IsCycleSet (rdiT text) q5) rfl ?_ )
   rintro _ rfl
   refine ⟨rfl, rfl, ?_⟩
   refine run_gt rfl rfl q3 ?_
   refine run_s (ss_not rfl) rfl ?_
   refine run_s (ss_pickF rfl q3 rfl) rfl ?_
   refine run_nil ?_
   refine aw_cond rfl (fun q7 => ?_) (fun q7 => ?_)
   ·replace h := h.1 ((bnot_t q7))
    refine aw_seq ?_
    refine aw_gh (gh_to (n := 22) (σ' := [(8, ⟨orows (rdiT text), []⟩), (2, ⟨[cnil], []⟩)]) (env' := [(2, .cell 2 0), (3, .c (ci 0))]) rfl rfl ⟨rfl, rfl, trivial⟩) ?_
    refine aw_region ?_
    refine run_s (ss_build0) rfl ?_
    refine run_w (ws_storeS rfl rfl (Nat.le_of_ble_eq_true rfl) rfl rfl rfl ⟨rfl, ?_⟩)
    refine run_s (ss_assign rfl) rfl ?_
    refine run_nil ?_
    refine aw_ret ?_
    exact retAF_mk (retv2 rfl (rv_struct rfl rfl rfl) (rv_tmp rfl)) rfl rfl ⟨_, (cle_tup (cleL_cons (cle_agg (cleL_cons cle_nilO cleL_nil)) (cleL_cons (cle_refl _) cleL_nil))), _, _, h, rfl⟩
   ·replace h := h.2 ((bnot_f q7))
    refine aw_skip ?_
    refine aw_seq ?_
    refine aw_gh (gh_to (n := 22) (σ' := [(8, ⟨orows (rdiT text), []⟩), (2, ⟨[cnil], []⟩)]) (env' := [(2, .cell 2 0), (3, .c (ci 0)), (4, .ref 8)]) rfl rfl ⟨rfl, rfl, rfl, trivial⟩) ?_
    refine aw_region ?_
    refine run_s (ss_move rfl) rfl ?_
    refine run_s (ss_build (ps := [(0, .tmp 20)]) rfl rfl) rfl ?_
    refine run_w (ws_storeS rfl rfl (Nat.le_of_ble_eq_true rfl) rfl rfl rfl ⟨rfl, ?_⟩)
    refine run_s (ss_assign rfl) rfl ?_
    refine run_nil ?_
    refine aw_ret ?_
    exact retAF_mk (retv2 rfl (rv_struct rfl rfl rfl) (rv_tmp rfl)) rfl rfl ⟨_, (cle_refl _), _, _, h, rfl⟩

theorem c_impl_ParseCycleSet (text : List UInt8) (hp : shortS text) : AF Tryd.prog 11 [cs text] (fun R_ => R_ = .tup [.agg [.own (orows (pcyT text))], ci (pcyE text)]) :=
  (w_impl_ParseCycleSet text (fun y0 y1 => y0 = pcyT text ∧ y1 = pcyE text) (p_impl_ParseCycleSet text hp)).mono (by rintro r ⟨_, _, ⟨rfl, rfl⟩, rfl⟩; rfl)

def wp_laws_FnExactParseCycleSet (a0 : List UInt8) (Q : Bool → Prop) : Prop :=
 ((1048576 < (a0.length : Int) →
 Q true) ∧
 (¬ (1048576 < (a0.length : Int)) →
 (shortS a0) ∧
 (shortS a0) ∧
 (small2 (pcyT a0) ∧ small2 (pcyT a0)) ∧
 ((¬ ((pcyT a0) = (pcyT a0)) →
 Q false) ∧
 ((pcyT a0) = (pcyT a0) →
 ((¬ (pcyE a0 = pcyE a0) →
 Q false) ∧
 (pcyE a0 = pcyE a0 →
 (small2 (pcyT a0) ∧ okKT (1 : Int) (pcyT a0)) ∧
 (small2 (mkII (1 : Int) (pcyT a0)) ∧ okKT (1 : Int) (mkII (1 : Int) (pcyT a0))) ∧
 ((heII (1 : Int) (mkII (1 : Int) (pcyT a0)) < 0 →
 Q false) ∧
 (¬ (heII (1 : Int) (mkII (1 : Int) (pcyT a0)) < 0) →
 ((¬ (heII (1 : Int) (mkII (1 : Int) (pcyT a0)) = (1 : Int) + tot (pcyT a0)) →
 Q false) ∧
 (heII (1 : Int) (mkII (1 : Int) (pcyT a0)) = (1 : Int) + tot (pcyT a0) →
 (shortS a0) ∧
 (small2 (pcyT a0) ∧ small2 (pcyT a0)) ∧
 ((¬ ((pcyT a0) = (pcyT a0)) →
 Q false) ∧
 ((pcyT a0) = (pcyT a0) →
 ((¬ (pcyE a0 = pcyE a0) →
 Q false) ∧
 (pcyE a0 = pcyE a0 →
 (small2 (mkII (1 : Int) (pcyT a0)) ∧ okKT (1 : Int) (mkII (1 : Int) (pcyT a0))) ∧
 ((heII (1 : Int) (mkII (1 : Int) (pcyT a0)) < 0 →
 Q false) ∧
 (¬ (heII (1 : Int) (mkII (1 : Int) (pcyT a0)) < 0) →
 ((¬ (heII (1 : Int) (mkII (1 : Int) (pcyT a0)) = (1 : Int) + tot (pcyT a0)) →
 Q false) ∧
 (heII (1 : Int) (mkII (1 : Int) (pcyT a0)) = (1 : Int) + tot (pcyT a0) →
 Q true))))))))))))))))))

@[reducible] def fine2 (t : List (List Int)) : Prop := small2 t ∧ tot t ≤ 1000000000
theorem fine2_nil : fine2 [] := ⟨⟨by simp, by simp⟩, by simp [tot]⟩
theorem fine2_ite {c : Prop} [Decidable c] {t : List (List Int)} (h : c → fine2 t) : fine2 (if c then t else []) := by
  split
  · exact h (by assumption)
  · exact fine2_nil
theorem fine_mk {T : List (List Int)} (h : fine2 T) : okKT 1 T ∧ small2 (mkII 1 T) ∧ okKT 1 (mkII 1 T) ∧ heII 1 (mkII 1 T) = 1 + tot T ∧ 0 ≤ tot T := by
  have := tot_nonneg T
  have h2 := h.2
  exact ⟨⟨by omega, by omega⟩, small2_mkII h.1, ⟨by omega, by rw [tot_mkII]; omega⟩, heII_mkII 1 T, this⟩
theorem InS20 : InS 1048576 := ⟨by omega, by omega⟩
theorem tot_le_mul : ∀ (t : List (List Int)) (m : Int), 0 ≤ m → (∀ r ∈ t, (r.length : Int) ≤ m) → tot t ≤ (t.length : Int) * m
  | [], m, _, _ => by simp [tot]
  | r :: t, m, hm, h => by
    have h1 := h r List.mem_cons_self
    have h2 := tot_le_mul t m hm fun q hq => h q (List.mem_cons_of_mem _ hq)
    simp only [tot, List.length_cons, Int.natCast_add, Int.add_mul]
    omega
theorem fine2_of {t : List (List Int)} (h : (t.length : Int) ≤ 1000) (h2 : ∀ r ∈ t, (r.length : Int) ≤ 1000) : fine2 t := by
  refine ⟨⟨by show (t.length : Int) ≤ 1000000000; omega, fun r hr => by have := h2 r hr; show (r.length : Int) ≤ 1000000000; omega⟩, ?_⟩
  have a := tot_le_mul t 1000 (by omega) h2
  have b : (t.length : Int) * 1000 ≤ 1000 * 1000 := by omega
  omega
theorem fine_tabl {t : List (List Int)} (h : isTab t = true) : fine2 t := by
  have hn := isTab_len h
  refine fine2_of (by omega) fun q hq => ?_
  obtain ⟨i, hi, rfl⟩ := mem_el hq
  have := rk_len h hi
  omega
theorem fine_pcy (s : List UInt8) : fine2 (pcyT s) := fine2_ite fun h => by
  unfold pcyE at h
  split at h
  · rename_i g; exact fine_tabl (isCyc_tab g.2)
  · cases h

theorem p_laws_FnExactParseCycleSet (a0 : List UInt8) (hp : a0.length ≤ 9223372036854775807) : wp_laws_FnExactParseCycleSet a0 (fun y0 => y0 = true) := by
  unfold wp_laws_FnExactParseCycleSet
  have ha0 := hp
  by_cases za0 : 1048576 < (a0.length : Int)
  · simp [eq_true InS20, eq_true ha0, za0]
  have fa0 : small a0 := by show (a0.length : Int) ≤ 1000000000; omega
  have ga0 : shortS a0 := by show (a0.length : Int) ≤ 2000000; omega
  have j0 : 0 ≤ (1 : Int) ∧ (1 : Int) ≤ 100000000000 := ⟨by omega, by omega⟩
  have k1 : okK 1 := ⟨by omega, by omega⟩
  have r0 := fine_pcy a0
  generalize pcyT a0 = T0 at *
  have q0 := fine_mk r0
  have p0 : ¬ (1 + tot T0 < 0) := by have := q0.2.2.2.2; omega
  simp [eq_true InS20, eq_true ha0, za0, eq_true fa0, eq_true ga0, eq_true k1, eq_true r0.1, eq_true q0.1, eq_true q0.2.1, eq_true q0.2.2.1, q0.2.2.2.1, p0]
set_option maxRecDepth 100000 in
set_option maxHeartbeats 4000000 in
theorem w_laws_FnExactParseCycleSet (a0 : List UInt8) (Q : Bool → Prop) (h : wp_laws_FnExactParseCycleSet a0 Q) : AF Tryd.prog 4 [cs a0] (fun R_ => ∃ y0, Q y0 ∧ R_ = cb y0) := by
  refine AF.ofWQ (af_enter (n := 66) Tryd.func4 rfl (by rfl) rfl (Nat.le_of_ble_eq_true rfl) ?_)
  unfold wp_laws_FnExactParseCycleSet at h
  refine aw_seq ?_
  refine aw_gh (gh_to (n := 66) (σ' := []) (env' := [(0, .c (cs a0))]) rfl rfl ⟨rfl, trivial⟩) ?_
  refine aw_region ?_
  refine run_s (ss_assign rfl) rfl ?_
  refine run_nil ?_
  refine aw_seq ?_
  refine aw_seq ?_
  refine aw_region ?_
  refine run_s (ss_move rfl) rfl ?_
  refine run_s (ss_lenS rfl) rfl ?_
  refine run_s (ss_gtr rfl rfl) rfl ?_
  refine run_nil ?_
  refine aw_cond rfl (fun q1 => ?_) (fun q1 => ?_)
  ·replace h := h.1 (of_decide_eq_true q1)
   refine aw_seq ?_
   refine aw_gh (gh_to (n := 66) (σ' := []) (env' := [(2, .c (cb false))]) rfl rfl ⟨rfl, trivial⟩) ?_
   refine aw_region ?_
   refine run_s (ss_assign rfl) rfl ?_
   refine run_nil ?_
   refine aw_ret ?_
   exact retAF_mk (retv1 rfl (rv_tmp rfl)) rfl rfl ⟨_, (cle_refl _), _, h, rfl⟩
  ·replace h := h.2 (of_decide_eq_false q1)
   refine aw_skip ?_
   refine aw_seq ?_
   refine aw_region ?_
   refine run_s (ss_move rfl) rfl ?_
   obtain ⟨q2, h⟩ := h
   refine run_w (ws_call (xs := [.tmp 15]) (ids := [16]) rfl rfl rfl rfl (c_spec_ParseCycleSet a0 q2) rfl ?_ )
   rintro _ rfl
   refine ⟨rfl, ?_⟩
   refine run_s (ss_move rfl) rfl ?_
   refine run_s (ss_extract rfl rfl) rfl ?_
   refine run_s (ss_extract rfl rfl) rfl ?_
   refine run_w (ws_alloc (id := 3) rfl (Nat.le_of_ble_eq_true rfl) ⟨rfl, ?_⟩)
   refine run_w (ws_storeS rfl rfl (Nat.le_of_ble_eq_true rfl) rfl rfl rfl ⟨rfl, ?_⟩)
   refine run_s (ss_assign rfl) rfl ?_
   refine run_nil ?_
   refine aw_seq ?_
   refine aw_region ?_
   refine run_s (ss_move rfl) rfl ?_
   obtain ⟨q4, h⟩ := h
   refine run_w (ws_call (xs := [.tmp 20]) (ids := [21]) rfl rfl rfl rfl (c_impl_ParseCycleSet a0 q4) rfl ?_ )
   rintro _ rfl
   refine ⟨rfl, ?_⟩
   refine run_s (ss_move rfl) rfl ?_
   refine run_s (ss_extract rfl rfl) rfl ?_
   refine run_s (ss_extract rfl rfl) rfl ?_
   refine run_w (ws_alloc (id := 5) rfl (Nat.le_of_ble_eq_true rfl) ⟨rfl, ?_⟩)
   refine run_w (ws_storeS rfl rfl (Nat.le_of_ble_eq_true rfl) rfl rfl rfl ⟨rfl, ?_⟩)
   refine run_s (ss_assign rfl) rfl ?_
   refine run_nil ?_
   refine aw_seq ?_
   refine aw_seq ?_
   refine aw_region ?_
   refine run_s (ss_loadS rfl rfl rfl rfl) rfl ?_
   refine run_s (ss_loadS rfl rfl rfl rfl) rfl ?_
   obtain ⟨q6, h⟩ := h
   refine run_w (ws_callR (xs := [.tmp 24, .tmp 25]) (cs := [.agg [.own (orows (pcyT a0))], .agg [.own (orows (pcyT a0))]]) (ids := []) rfl (.inr ⟨rfl, rfl⟩) rfl rfl (fz_cons (fz_agg (fz_cons (fz_own (fz_map (fun _ => (fz_own (fz_map (fun _ => rfl) _))) _)) fz_nil)) (fz_cons (fz_agg (fz_cons (fz_own (fz_map (fun _ => (fz_own (fz_map (fun _ => rfl) _))) _)) fz_nil)) fz_nil)) (c_laws_eqCycleSet (pcyT a0) (pcyT a0) q6) rfl ?_ )
   rintro _ rfl
   refine ⟨rfl, rfl, ?_⟩
   refine run_s (ss_not rfl) rfl ?_
   refine run_s (ss_move rfl) rfl ?_
   refine run_split (s := 28) rfl (fun q8 => ?_) (fun q8 => ?_)
   ·replace h := h.1 (of_decide_eq_false (bnot_t q8))
    refine run_gf rfl rfl q8 rfl ?_
    refine run_gf rfl rfl q8 rfl ?_
    refine run_gf rfl rfl q8 rfl ?_
    refine run_s (ss_pickT rfl q8 rfl) rfl ?_
    refine run_nil ?_
    refine aw_cond rfl (fun q9 => ?_) (fun q9 => ?_)
    ·skip
     refine aw_seq ?_
     refine aw_gh (gh_to (n := 66) (σ' := [(5, ⟨[.hole], [(0, .ref 21)]⟩), (21, ⟨orows (pcyT a0), []⟩), (3, ⟨[.hole], [(0, .ref 16)]⟩), (16, ⟨orows (pcyT a0), []⟩)]) (env' := [(2, .c (cb false))]) rfl rfl ⟨rfl, trivial⟩) ?_
     refine aw_region ?_
     refine run_s (ss_assign rfl) rfl ?_
     refine run_nil ?_
     refine aw_ret ?_
     exact retAF_mk (retv1 rfl (rv_tmp rfl)) rfl rfl ⟨_, (cle_refl _), _, h, rfl⟩
    ·cases q9
   ·replace h := h.2 (of_decide_eq_true (bnot_f q8))
    refine run_gt rfl rfl q8 ?_
    refine run_s (ss_move rfl) rfl ?_
    refine run_gt rfl rfl q8 ?_
    refine run_s (ss_move rfl) rfl ?_
    refine run_gt rfl rfl q8 ?_
    refine run_s (ss_neq rfl rfl) rfl ?_
    refine run_s (ss_pickF rfl q8 rfl) rfl ?_
    refine run_nil ?_
    refine aw_cond rfl (fun q10 => ?_) (fun q10 => ?_)
    ·replace h := h.1 (of_decide_eq_false (bnot_t q10))
     refine aw_seq ?_
     refine aw_gh (gh_to (n := 66) (σ' := [(5, ⟨[.hole], [(0, .ref 21)]⟩), (21, ⟨orows (pcyT a0), []⟩), (3, ⟨[.hole], [(0, .ref 16)]⟩), (16, ⟨orows (pcyT a0), []⟩)]) (env' := [(2, .c (cb false))]) rfl rfl ⟨rfl, trivial⟩) ?_
     refine aw_region ?_
     refine run_s (ss_assign rfl) rfl ?_
     refine run_nil ?_
     refine aw_ret ?_
     exact retAF_mk (retv1 rfl (rv_tmp rfl)) rfl rfl ⟨_, (cle_refl _), _, h, rfl⟩
    ·replace h := h.2 (of_decide_eq_true (bnot_f q10))
     refine aw_skip ?_
     refine aw_seq ?_
     refine aw_gh (gh_to (n := 66) (σ' := [(5, ⟨[.hole], [(0, .ref 21)]⟩), (21, ⟨orows (pcyT a0), []⟩), (3, ⟨[.hole], [(0, .ref 16)]⟩), (16, ⟨orows (pcyT a0), []⟩)]) (env' := [(0, .c (cs a0)), (3, .cell 3 0), (4, .c (ci (pcyE a0))), (5, .cell 5 0)]) rfl rfl ⟨rfl, rfl, rfl, rfl, trivial⟩) ?_
     refine aw_region ?_
     refine run_s (ss_assign rfl) rfl ?_
     refine run_nil ?_
     refine aw_seq ?_
     refine aw_region ?_
     refine run_s (ss_loadS rfl rfl rfl rfl) rfl ?_
     refine run_s (ss_move rfl) rfl ?_
     obtain ⟨q11, h⟩ := h
     refine run_w (ws_callM (xs := [.tmp 33, .tmp 34]) (cs := [.agg [.own (orows (pcyT a0))], ci 1]) (ids := []) rfl (.inr ⟨rfl, rfl⟩) rfl rfl rfl (c_laws_markCycleSet (pcyT a0) 1 q11) rfl rfl ?_ )
     rintro _ _ ⟨rfl, rfl⟩
     refine ⟨rfl, rfl, ?_⟩
     refine run_s (ss_assign rfl) rfl ?_
     refine run_nil ?_
     refine aw_seq ?_
     refine aw_region ?_
     refine run_s (ss_assign rfl) rfl ?_
     refine run_nil ?_
     refine aw_seq ?_
     refine aw_region ?_
     refine run_s (ss_loadS rfl rfl rfl rfl) rfl ?_
     refine run_s (ss_move rfl) rfl ?_
     obtain ⟨q13, h⟩ := h
     refine run_w (ws_callR (xs := [.tmp 36, .tmp 37]) (cs := [.agg [.own (orows (mkII (1 : Int) (pcyT a0)))], ci 1]) (ids := []) rfl (.inr ⟨rfl, rfl⟩) rfl rfl (fz_cons (fz_agg (fz_cons (fz_own (fz_map (fun _ => (fz_own (fz_map (fun _ => rfl) _))) _)) fz_nil)) (fz_cons rfl fz_nil)) (c_laws_heldCycleSet (mkII (1 : Int) (pcyT a0)) 1 q13) rfl ?_ )
     rintro _ rfl
     refine ⟨rfl, rfl, ?_⟩
     refine run_s (ss_assign rfl) rfl ?_
     refine run_nil ?_
     refine aw_seq ?_
     refine aw_seq ?_
     refine aw_gh (gh_to (n := 66) (σ' := [(5, ⟨[.hole], [(0, .ref 21)]⟩), (21, ⟨orows (mkII (1 : Int) (pcyT a0)), []⟩), (3, ⟨[.hole], [(0, .ref 16)]⟩), (16, ⟨orows (pcyT a0), []⟩)]) (env' := [(0, .c (cs a0)), (3, .cell 3 0), (4, .c (ci (pcyE a0))), (5, .cell 5 0), (7, .c (ci ((1 : Int) + tot (pcyT a0)))), (8, .c (ci (heII (1 : Int) (mkII (1 : Int) (pcyT a0)))))]) rfl rfl ⟨rfl, rfl, rfl, rfl, rfl, rfl, trivial⟩) ?_
     refine aw_region ?_
     refine run_s (ss_move rfl) rfl ?_
     refine run_s (ss_lss rfl rfl) rfl ?_
     refine run_nil ?_
     refine aw_cond rfl (fun q15 => ?_) (fun q15 => ?_)
     ·replace h := h.1 (of_decide_eq_true q15)
      refine aw_seq ?_
      refine aw_gh (gh_to (n := 66) (σ' := [(5, ⟨[.hole], [(0, .ref 21)]⟩), (21, ⟨orows (mkII (1 : Int) (pcyT a0)), []⟩), (3, ⟨[.hole], [(0, .ref 16)]⟩), (16, ⟨orows (pcyT a0), []⟩)]) (env' := []) rfl rfl trivial) ?_
      refine aw_region ?_
      refine run_s (ss_assign rfl) rfl ?_
      refine run_nil ?_
      refine aw_ret ?_
      exact retAF_mk (retv1 rfl (rv_tmp rfl)) rfl rfl ⟨_, (cle_refl _), _, h, rfl⟩
     ·replace h := h.2 (of_decide_eq_false q15)
      refine aw_skip ?_
      refine aw_seq ?_
      refine aw_seq ?_
      refine aw_region ?_
      refine run_s (ss_move rfl) rfl ?_
      refine run_s (ss_move rfl) rfl ?_
      refine run_s (ss_neq rfl rfl) rfl ?_
      refine run_nil ?_
      refine aw_cond rfl (fun q16 => ?_) (fun q16 => ?_)
      ·replace h := h.1 (of_decide_eq_false (bnot_t q16))
       refine aw_seq ?_
       refine aw_gh (gh_to (n := 66) (σ' := [(5, ⟨[.hole], [(0, .ref 21)]⟩), (21, ⟨orows (mkII (1 : Int) (pcyT a0)), []⟩), (3, ⟨[.hole], [(0, .ref 16)]⟩), (16, ⟨orows (pcyT a0), []⟩)]) (env' := []) rfl rfl trivial) ?_
       refine aw_region ?_
       refine run_s (ss_assign rfl) rfl ?_
       refine run_nil ?_
       refine aw_ret ?_
       exact retAF_mk (retv1 rfl (rv_tmp rfl)) rfl rfl ⟨_, (cle_refl _), _, h, rfl⟩
      ·replace h := h.2 (of_decide_eq_true (bnot_f q16))
       refine aw_skip ?_
       refine aw_seq ?_
       refine aw_region ?_
       refine run_s (ss_move rfl) rfl ?_
       obtain ⟨q17, h⟩ := h
       refine run_w (ws_call (xs := [.tmp 45]) (ids := [46]) rfl rfl rfl rfl (c_impl_ParseCycleSet a0 q17) rfl ?_ )
       rintro _ rfl
       refine ⟨rfl, ?_⟩
       refine run_s (ss_move rfl) rfl ?_
       refine run_s (ss_extract rfl rfl) rfl ?_
       refine run_s (ss_extract rfl rfl) rfl ?_
       refine run_w (ws_alloc (id := 9) rfl (Nat.le_of_ble_eq_true rfl) ⟨rfl, ?_⟩)
       refine run_w (ws_storeS rfl rfl (Nat.le_of_ble_eq_true rfl) rfl rfl rfl ⟨rfl, ?_⟩)
       refine run_s (ss_assign rfl) rfl ?_
       refine run_nil ?_
       refine aw_seq ?_
       refine aw_seq ?_
       refine aw_gh (gh_to (n := 66) (σ' := [(9, ⟨[.hole], [(0, .ref 46)]⟩), (46, ⟨orows (pcyT a0), []⟩), (5, ⟨[.hole], [(0, .ref 21)]⟩), (21, ⟨orows (mkII (1 : Int) (pcyT a0)), []⟩), (3, ⟨[.hole], [(0, .ref 16)]⟩), (16, ⟨orows (pcyT a0), []⟩)]) (env' := [(3, .cell 3 0), (4, .c (ci (pcyE a0))), (5, .cell 5 0), (7, .c (ci ((1 : Int) + tot (pcyT a0)))), (9, .cell 9 0), (10, .c (ci (pcyE a0)))]) rfl rfl ⟨rfl, rfl, rfl, rfl, rfl, rfl, trivial⟩) ?_
       refine aw_region ?_
       refine run_s (ss_loadS rfl rfl rfl rfl) rfl ?_
       refine run_s (ss_loadS rfl rfl rfl rfl) rfl ?_
       obtain ⟨q19, h⟩ := h
       refine run_w (ws_callR (xs := [.tmp 49, .tmp 50]) (cs := [.agg [.own (orows (pcyT a0))], .agg [.own (orows (pcyT a0))]]) (ids := []) rfl (.inr ⟨rfl, rfl⟩) rfl rfl (fz_cons (fz_agg (fz_cons (fz_own (fz_map (fun _ => (fz_own (fz_map (fun _ => rfl) _))) _)) fz_nil)) (fz_cons (fz_agg (fz_cons (fz_own (fz_map (fun _ => (fz_own (fz_map (fun _ => rfl) _))) _)) fz_nil)) fz_nil)) (c_laws_eqCycleSet (pcyT a0) (pcyT a0) q19) rfl ?_ )
       rintro _ rfl
       refine ⟨rfl, rfl, ?_⟩
       refine run_s (ss_not rfl) rfl ?_
       refine run_s (ss_move rfl) rfl ?_
       refine run_split (s := 53) rfl (fun q21 => ?_) (fun q21 => ?_)
       ·replace h := h.1 (of_decide_eq_false (bnot_t q21))
        refine run_gf rfl rfl q21 rfl ?_
        refine run_gf rfl rfl q21 rfl ?_
        refine run_gf rfl rfl q21 rfl ?_
        refine run_s (ss_pickT rfl q21 rfl) rfl ?_
        refine run_nil ?_
        refine aw_cond rfl (fun q22 => ?_) (fun q22 => ?_)
        ·skip
         refine aw_seq ?_
         refine aw_gh (gh_to (n := 66) (σ' := [(9, ⟨[.hole], [(0, .ref 46)]⟩), (46, ⟨orows (pcyT a0), []⟩), (5, ⟨[.hole], [(0, .ref 21)]⟩), (21, ⟨orows (mkII (1 : Int) (pcyT a0)), []⟩), (3, ⟨[.hole], [(0, .ref 16)]⟩), (16, ⟨orows (pcyT a0), []⟩)]) (env' := []) rfl rfl trivial) ?_
         refine aw_region ?_
         refine run_s (ss_assign rfl) rfl ?_
         refine run_nil ?_
         refine aw_ret ?_
         exact retAF_mk (retv1 rfl (rv_tmp rfl)) rfl rfl ⟨_, (cle_refl _), _, h, rfl⟩
        ·cases q22
       ·replace h := h.2 (of_decide_eq_true (bnot_f q21))
        refine run_gt rfl rfl q21 ?_
        refine run_s (ss_move rfl) rfl ?_
        refine run_gt rfl rfl q21 ?_
        refine run_s (ss_move rfl) rfl ?_
        refine run_gt rfl rfl q21 ?_
        refine run_s (ss_neq rfl rfl) rfl ?_
        refine run_s (ss_pickF rfl q21 rfl) rfl ?_
        refine run_nil ?_
        refine aw_cond rfl (fun q23 => ?_) (fun q23 => ?_)
        ·replace h := h.1 (of_decide_eq_false (bnot_t q23))
         refine aw_seq ?_
         refine aw_gh (gh_to (n := 66) (σ' := [(9, ⟨[.hole], [(0, .ref 46)]⟩), (46, ⟨orows (pcyT a0), []⟩), (5, ⟨[.hole], [(0, .ref 21)]⟩), (21, ⟨orows (mkII (1 : Int) (pcyT a0)), []⟩), (3, ⟨[.hole], [(0, .ref 16)]⟩), (16, ⟨orows (pcyT a0), []⟩)]) (env' := []) rfl rfl trivial) ?_
         refine aw_region ?_
         refine run_s (ss_assign rfl) rfl ?_
         refine run_nil ?_
         refine aw_ret ?_
         exact retAF_mk (retv1 rfl (rv_tmp rfl)) rfl rfl ⟨_, (cle_refl _), _, h, rfl⟩
        ·replace h := h.2 (of_decide_eq_true (bnot_f q23))
         refine aw_skip ?_
         refine aw_seq ?_
         refine aw_gh (gh_to (n := 66) (σ' := [(9, ⟨[.hole], [(0, .ref 46)]⟩), (46, ⟨orows (pcyT a0), []⟩), (5, ⟨[.hole], [(0, .ref 21)]⟩), (21, ⟨orows (mkII (1 : Int) (pcyT a0)), []⟩), (3, ⟨[.hole], [(0, .ref 16)]⟩), (16, ⟨orows (pcyT a0), []⟩)]) (env' := [(5, .cell 5 0), (7, .c (ci ((1 : Int) + tot (pcyT a0))))]) rfl rfl ⟨rfl, rfl, trivial⟩) ?_
         refine aw_region ?_
         refine run_s (ss_assign rfl) rfl ?_
         refine run_nil ?_
         refine aw_seq ?_
         refine aw_region ?_
         refine run_s (ss_loadS rfl rfl rfl rfl) rfl ?_
         refine run_s (ss_move rfl) rfl ?_
         obtain ⟨q24, h⟩ := h
         refine run_w (ws_callR (xs := [.tmp 58, .tmp 59]) (cs := [.agg [.own (orows (mkII (1 : Int) (pcyT a0)))], ci 1]) (ids := []) rfl (.inr ⟨rfl, rfl⟩) rfl rfl (fz_cons (fz_agg (fz_cons (fz_own (fz_map (fun _ => (fz_own (fz_map (fun _ => rfl) _))) _)) fz_nil)) (fz_cons rfl fz_nil)) (c_laws_heldCycleSet (mkII (1 : Int) (pcyT a0)) 1 q24) rfl ?_ )
         rintro _ rfl
         refine ⟨rfl, rfl, ?_⟩
         refine run_s (ss_assign rfl) rfl ?_
         refine run_nil ?_
         refine aw_seq ?_
         refine aw_seq ?_
         refine aw_gh (gh_to (n := 66) (σ' := [(9, ⟨[.hole], [(0, .ref 46)]⟩), (46, ⟨orows (pcyT a0), []⟩), (5, ⟨[.hole], [(0, .ref 21)]⟩), (21, ⟨orows (mkII (1 : Int) (pcyT a0)), []⟩), (3, ⟨[.hole], [(0, .ref 16)]⟩), (16, ⟨orows (pcyT a0), []⟩)]) (env' := [(7, .c (ci ((1 : Int) + tot (pcyT a0)))), (8, .c (ci (heII (1 : Int) (mkII (1 : Int) (pcyT a0)))))]) rfl rfl ⟨rfl, rfl, trivial⟩) ?_
         refine aw_region ?_
         refine run_s (ss_move rfl) rfl ?_
         refine run_s (ss_lss rfl rfl) rfl ?_
         refine run_nil ?_
         refine aw_cond rfl (fun q26 => ?_) (fun q26 => ?_)
         ·replace h := h.1 (of_decide_eq_true q26)
          refine aw_seq ?_
          refine aw_gh (gh_to (n := 66) (σ' := [(9, ⟨[.hole], [(0, .ref 46)]⟩), (46, ⟨orows (pcyT a0), []⟩), (5, ⟨[.hole], [(0, .ref 21)]⟩), (21, ⟨orows (mkII (1 : Int) (pcyT a0)), []⟩), (3, ⟨[.hole], [(0, .ref 16)]⟩), (16, ⟨orows (pcyT a0), []⟩)]) (env' := []) rfl rfl trivial) ?_
          refine aw_region ?_
          refine run_s (ss_assign rfl) rfl ?_
          refine run_nil ?_
          refine aw_ret ?_
          exact retAF_mk (retv1 rfl (rv_tmp rfl)) rfl rfl ⟨_, (cle_refl _), _, h, rfl⟩
         ·replace h := h.2 (of_decide_eq_false q26)
          refine aw_skip ?_
          refine aw_seq ?_
          refine aw_seq ?_
          refine aw_region ?_
          refine run_s (ss_move rfl) rfl ?_
          refine run_s (ss_move rfl) rfl ?_
          refine run_s (ss_neq rfl rfl) rfl ?_
          refine run_nil ?_
          refine aw_cond rfl (fun q27 => ?_) (fun q27 => ?_)
          ·replace h := h.1 (of_decide_eq_false (bnot_t q27))
           refine aw_seq ?_
           refine aw_gh (gh_to (n := 66) (σ' := [(9, ⟨[.hole], [(0, .ref 46)]⟩), (46, ⟨orows (pcyT a0), []⟩), (5, ⟨[.hole], [(0, .ref 21)]⟩), (21, ⟨orows (mkII (1 : Int) (pcyT a0)), []⟩), (3, ⟨[.hole], [(0, .ref 16)]⟩), (16, ⟨orows (pcyT a0), []⟩)]) (env' := []) rfl rfl trivial) ?_
           refine aw_region ?_
           refine run_s (ss_assign rfl) rfl ?_
           refine run_nil ?_
           refine aw_ret ?_
           exact retAF_mk (retv1 rfl (rv_tmp rfl)) rfl rfl ⟨_, (cle_refl _), _, h, rfl⟩
          ·replace h := h.2 (of_decide_eq_true (bnot_f q27))
           refine aw_skip ?_
           refine aw_seq ?_
           refine aw_gh (gh_to (n := 66) (σ' := [(9, ⟨[.hole], [(0, .ref 46)]⟩), (46, ⟨orows (pcyT a0), []⟩), (5, ⟨[.hole], [(0, .ref 21)]⟩), (21, ⟨orows (mkII (1 : Int) (pcyT a0)), []⟩), (3, ⟨[.hole], [(0, .ref 16)]⟩), (16, ⟨orows (pcyT a0), []⟩)]) (env' := []) rfl rfl trivial) ?_
           refine aw_region ?_
           refine run_s (ss_assign rfl) rfl ?_
           refine run_nil ?_
           refine aw_ret ?_
           exact retAF_mk (retv1 rfl (rv_tmp rfl)) rfl rfl ⟨_, (cle_refl _), _, h, rfl⟩

theorem c_laws_FnExactParseCycleSet (a0 : List UInt8) (hp : a0.length ≤ 9223372036854775807) : AF Tryd.prog 4 [cs a0] (fun R_ => R_ = cb true) :=
  (w_laws_FnExactParseCycleSet a0 (fun y0 => y0 = true) (p_laws_FnExactParseCycleSet a0 hp)).mono (by rintro r ⟨_, rfl, rfl⟩; rfl)

end Go.Proofs.YtkmoeodoidpjkaaDoor

/- Walks of functions to their conditions, and their contracts; no condition. -/
import Derived.Test.YtkekjlgidlbbcaaTy
import Derived.Test.YtkekjlgidlbbcaaDa
import Derived.Test.YtkekjlgidlbbcaaQa
namespace Go.Proofs.Ytkekjlgidlbbcaa

set_option maxHeartbeats 1000000 in
theorem w_impl_within (n : Int) (low : Int) (high : Int) (Q : Bool → Prop) (h : wp_impl_within n low high Q) : AF Try.prog 34 [ci n, ci low, ci high] (fun r => ∃ y0, Q y0 ∧ r = cb y0) := by
  refine AF.ofWQ (af_enter (n := 15) Try.func34 rfl (by rfl) rfl (Nat.le_of_ble_eq_true rfl) ?_)
  unfold wp_impl_within at h
  refine aw_seq ?_
  refine aw_gh (gh_to (n := 15) (σ' := []) (env' := [(0, .c (ci n)), (1, .c (ci low)), (2, .c (ci high))]) rfl rfl ⟨rfl, rfl, rfl, trivial⟩) ?_
  refine aw_region ?_
  refine run_s (ss_assign rfl) rfl ?_
  refine run_nil ?_
  refine aw_seq ?_
  refine aw_region ?_
  refine run_s (ss_move rfl) rfl ?_
  refine run_s (ss_move rfl) rfl ?_
  refine run_s (ss_geq rfl rfl) rfl ?_
  refine run_s (ss_move rfl) rfl ?_
  refine run_split (s := 10) rfl (fun q1 => ?_) (fun q1 => ?_)
  · replace h := h.1 (of_decide_eq_true q1)
    refine run_gt rfl rfl q1 ?_
    refine run_s (ss_move rfl) rfl ?_
    refine run_gt rfl rfl q1 ?_
    refine run_s (ss_move rfl) rfl ?_
    refine run_gt rfl rfl q1 ?_
    refine run_s (ss_leq rfl rfl) rfl ?_
    refine run_s (ss_pickT rfl q1 rfl) rfl ?_
    refine run_s (ss_assign rfl) rfl ?_
    refine run_nil ?_
    refine aw_ret ?_
    exact retAF_mk (retv1 rfl (rv_tmp rfl)) rfl rfl ⟨_, (cle_refl _), _, h, rfl⟩
  · replace h := h.2 (of_decide_eq_false q1)
    refine run_gf rfl rfl q1 rfl ?_
    refine run_gf rfl rfl q1 rfl ?_
    refine run_gf rfl rfl q1 rfl ?_
    refine run_s (ss_pickF rfl q1 rfl) rfl ?_
    refine run_s (ss_assign rfl) rfl ?_
    refine run_nil ?_
    refine aw_ret ?_
    exact retAF_mk (retv1 rfl (rv_tmp rfl)) rfl rfl ⟨_, (cle_refl _), _, h, rfl⟩

theorem c_impl_within (n : Int) (low : Int) (high : Int)  : AF Try.prog 34 [ci n, ci low, ci high] (fun r => r = cb (decide (low ≤ n) && decide (n ≤ high))) :=
  (w_impl_within n low high (fun y0 => y0 = (decide (low ≤ n) && decide (n ≤ high))) (p_impl_within n low high)).mono (by rintro r ⟨_, rfl, rfl⟩; rfl)

set_option maxHeartbeats 1000000 in
theorem w_spec_l01In (n : Int) (low : Int) (high : Int) (Q : Bool → Prop) (h : wp_spec_l01In n low high Q) : AF Try.prog 32 [ci n, ci low, ci high] (fun r => ∃ y0, Q y0 ∧ r = cb y0) := by
  refine AF.ofWQ (af_enter (n := 15) Try.func32 rfl (by rfl) rfl (Nat.le_of_ble_eq_true rfl) ?_)
  unfold wp_spec_l01In at h
  refine aw_seq ?_
  refine aw_gh (gh_to (n := 15) (σ' := []) (env' := [(0, .c (ci n)), (1, .c (ci low)), (2, .c (ci high))]) rfl rfl ⟨rfl, rfl, rfl, trivial⟩) ?_
  refine aw_region ?_
  refine run_s (ss_assign rfl) rfl ?_
  refine run_nil ?_
  refine aw_seq ?_
  refine aw_region ?_
  refine run_s (ss_move rfl) rfl ?_
  refine run_s (ss_move rfl) rfl ?_
  refine run_s (ss_geq rfl rfl) rfl ?_
  refine run_s (ss_move rfl) rfl ?_
  refine run_split (s := 10) rfl (fun q1 => ?_) (fun q1 => ?_)
  · replace h := h.1 (of_decide_eq_true q1)
    refine run_gt rfl rfl q1 ?_
    refine run_s (ss_move rfl) rfl ?_
    refine run_gt rfl rfl q1 ?_
    refine run_s (ss_move rfl) rfl ?_
    refine run_gt rfl rfl q1 ?_
    refine run_s (ss_leq rfl rfl) rfl ?_
    refine run_s (ss_pickT rfl q1 rfl) rfl ?_
    refine run_s (ss_assign rfl) rfl ?_
    refine run_nil ?_
    refine aw_ret ?_
    exact retAF_mk (retv1 rfl (rv_tmp rfl)) rfl rfl ⟨_, (cle_refl _), _, h, rfl⟩
  · replace h := h.2 (of_decide_eq_false q1)
    refine run_gf rfl rfl q1 rfl ?_
    refine run_gf rfl rfl q1 rfl ?_
    refine run_gf rfl rfl q1 rfl ?_
    refine run_s (ss_pickF rfl q1 rfl) rfl ?_
    refine run_s (ss_assign rfl) rfl ?_
    refine run_nil ?_
    refine aw_ret ?_
    exact retAF_mk (retv1 rfl (rv_tmp rfl)) rfl rfl ⟨_, (cle_refl _), _, h, rfl⟩

theorem c_spec_l01In (n : Int) (low : Int) (high : Int)  : AF Try.prog 32 [ci n, ci low, ci high] (fun r => r = cb (decide (low ≤ n) && decide (n ≤ high))) :=
  (w_spec_l01In n low high (fun y0 => y0 = (decide (low ≤ n) && decide (n ≤ high))) (p_spec_l01In n low high)).mono (by rintro r ⟨_, rfl, rfl⟩; rfl)

set_option maxHeartbeats 1000000 in
theorem w_impl_allWithin (l : List Int) (low : Int) (high : Int) (Q : Bool → Prop) (h : wp_impl_allWithin l low high Q) : AF Try.prog 63 [.lst (ints l), ci low, ci high] (fun r => ∃ y0, Q y0 ∧ r = cb y0) := by
  refine AF.ofWQ (af_enter (n := 21) Try.func63 rfl (by rfl) rfl (Nat.le_of_ble_eq_true rfl) ?_)
  unfold wp_impl_allWithin at h
  refine aw_seq ?_
  refine aw_gh (gh_to (n := 21) (σ' := []) (env' := [(0, .c (.lst (ints l))), (1, .c (ci low)), (2, .c (ci high))]) rfl rfl ⟨rfl, rfl, rfl, trivial⟩) ?_
  refine aw_region ?_
  refine run_s (ss_assign rfl) rfl ?_
  refine run_nil ?_
  refine aw_seq ?_
  refine aw_seq ?_
  refine aw_region ?_
  refine run_s (ss_move rfl) rfl ?_
  refine run_s (ss_lenL (f := ci) rfl) rfl ?_
  refine run_s (ss_move rfl) rfl ?_
  refine run_nil ?_
  refine aw_block ?_
  obtain ⟨H1, m1, q1, h⟩ := h
  refine aw_loop1 (fun (v11 : Int) => ⟨[], [(1, .c (ci low)), (2, .c (ci high)), (9, .c (.lst (ints l))), (10, .c (ci (l.length : Int))), (11, .c (ci v11))], 21⟩) H1 m1 ⟨0, ghe_to (n := 21) rfl rfl ⟨rfl, rfl, rfl, rfl, rfl, trivial⟩, q1⟩ ?_
  rintro v11 q1
  replace h := h v11 q1
  refine aw_seq ?_
  refine aw_region ?_
  refine run_s (ss_lss rfl rfl) rfl ?_
  refine run_nil ?_
  refine aw_seq ?_
  refine aw_cond rfl (fun q2 => ?_) (fun q2 => ?_)
  · replace h := h.1 (of_decide_eq_true q2)
    refine aw_skip ?_
    refine aw_seq ?_
    refine aw_block ?_
    refine aw_seq ?_
    refine aw_region ?_
    obtain ⟨q3, h⟩ := h
    refine run_s (ss_idxL rfl rfl q3) rfl ?_
    refine run_s (ss_loadL (f := ci) rfl q3) rfl ?_
    refine run_s (ss_assign rfl) rfl ?_
    refine run_nil ?_
    refine aw_seq ?_
    refine aw_region ?_
    refine run_s (ss_move rfl) rfl ?_
    refine run_s (ss_move rfl) rfl ?_
    refine run_s (ss_move rfl) rfl ?_
    refine run_w (ws_call (xs := [.tmp 15, .tmp 16, .tmp 17]) (ids := []) rfl rfl rfl rfl (c_impl_within (el l v11) low high) rfl ?_ )
    rintro _ rfl
    refine ⟨rfl, ?_⟩
    refine run_s (ss_not rfl) rfl ?_
    refine run_nil ?_
    refine aw_cond rfl (fun q5 => ?_) (fun q5 => ?_)
    · replace h := h.1 ((bnot_t q5))
      refine aw_seq ?_
      refine aw_gh (gh_to (n := 21) (σ' := []) (env' := []) rfl rfl trivial) ?_
      refine aw_region ?_
      refine run_s (ss_assign rfl) rfl ?_
      refine run_nil ?_
      refine aw_ret ?_
      exact retAF_mk (retv1 rfl (rv_tmp rfl)) rfl rfl ⟨_, (cle_refl _), _, h, rfl⟩
    · replace h := h.2 ((bnot_f q5))
      refine aw_skip ?_
      refine aw_gh (gh_to (n := 21) (σ' := []) (env' := [(1, .c (ci low)), (2, .c (ci high)), (9, .c (.lst (ints l))), (10, .c (ci (l.length : Int))), (11, .c (ci v11))]) rfl rfl ⟨rfl, rfl, rfl, rfl, rfl, trivial⟩) ?_
      refine aw_region ?_
      obtain ⟨q6, h⟩ := h
      refine run_s (ss_add rfl rfl q6) rfl ?_
      refine run_s (ss_move rfl) rfl ?_
      refine run_nil ?_
      exact ⟨v11 + 1, ghe_to (n := 21) rfl rfl ⟨rfl, rfl, rfl, rfl, rfl, trivial⟩, h.1, h.2⟩
  · replace h := h.2 (of_decide_eq_false q2)
    refine aw_exit ?_
    refine aw_seq ?_
    refine aw_gh (gh_to (n := 21) (σ' := []) (env' := []) rfl rfl trivial) ?_
    refine aw_region ?_
    refine run_s (ss_assign rfl) rfl ?_
    refine run_nil ?_
    refine aw_ret ?_
    exact retAF_mk (retv1 rfl (rv_tmp rfl)) rfl rfl ⟨_, (cle_refl _), _, h, rfl⟩

theorem c_impl_allWithin (l : List Int) (low : Int) (high : Int) (hp : small l) : AF Try.prog 63 [.lst (ints l), ci low, ci high] (fun r => r = cb (l.all (fun z_ => decide (low ≤ z_) && decide (z_ ≤ high)))) :=
  (w_impl_allWithin l low high (fun y0 => y0 = l.all (fun z_ => decide (low ≤ z_) && decide (z_ ≤ high))) (p_impl_allWithin l low high hp)).mono (by rintro r ⟨_, rfl, rfl⟩; rfl)

set_option maxHeartbeats 1000000 in
theorem w_impl_isPermuted (p : List Int) (Q : Bool → Prop) (h : wp_impl_isPermuted p Q) : AF Try.prog 59 [.lst (ints p)] (fun r => ∃ y0, Q y0 ∧ r = cb y0) := by
  refine AF.ofWQ (af_enter (n := 31) Try.func59 rfl (by rfl) rfl (Nat.le_of_ble_eq_true rfl) ?_)
  unfold wp_impl_isPermuted at h
  refine aw_seq ?_
  refine aw_gh (gh_to (n := 31) (σ' := []) (env' := [(0, .c (.lst (ints p)))]) rfl rfl ⟨rfl, trivial⟩) ?_
  refine aw_region ?_
  refine run_s (ss_assign rfl) rfl ?_
  refine run_nil ?_
  refine aw_seq ?_
  refine aw_region ?_
  refine run_s (ss_move rfl) rfl ?_
  refine run_s (ss_lenL (f := ci) rfl) rfl ?_
  obtain ⟨q1, h⟩ := h
  refine run_w (ws_mk (id := 8) cb false rfl rfl rfl q1 (Nat.le_of_ble_eq_true rfl) rfl ⟨rfl, ?_⟩)
  refine run_s (ss_assign rfl) rfl ?_
  refine run_nil ?_
  refine aw_seq ?_
  refine aw_seq ?_
  refine aw_region ?_
  refine run_s (ss_move rfl) rfl ?_
  refine run_s (ss_lenL (f := ci) rfl) rfl ?_
  refine run_s (ss_move rfl) rfl ?_
  refine run_nil ?_
  refine aw_block ?_
  obtain ⟨H1, m1, q2, h⟩ := h
  refine aw_loop2 (fun (v11 : Int) (o8 : List Bool) => ⟨[(8, ⟨bools o8, []⟩)], [(0, .c (.lst (ints p))), (3, .ref 8), (9, .c (.lst (ints p))), (10, .c (ci (p.length : Int))), (11, .c (ci v11))], 31⟩) H1 m1 ⟨0, List.replicate (p.length : Int).toNat false, ghe_to (n := 31) rfl rfl ⟨rfl, rfl, rfl, rfl, rfl, trivial⟩, q2⟩ ?_
  rintro v11 o8 q2
  replace h := h v11 o8 q2
  refine aw_seq ?_
  refine aw_region ?_
  refine run_s (ss_lss rfl rfl) rfl ?_
  refine run_nil ?_
  refine aw_seq ?_
  refine aw_cond rfl (fun q3 => ?_) (fun q3 => ?_)
  · replace h := h.1 (of_decide_eq_true q3)
    refine aw_skip ?_
    refine aw_seq ?_
    refine aw_block ?_
    refine aw_seq ?_
    refine aw_region ?_
    obtain ⟨q4, h⟩ := h
    refine run_s (ss_idxL rfl rfl q4) rfl ?_
    refine run_s (ss_loadL (f := ci) rfl q4) rfl ?_
    refine run_s (ss_assign rfl) rfl ?_
    refine run_nil ?_
    refine aw_seq ?_
    refine aw_seq ?_
    refine aw_region ?_
    refine run_s (ss_move rfl) rfl ?_
    refine run_s (ss_move rfl) rfl ?_
    refine run_s (ss_lenL (f := ci) rfl) rfl ?_
    obtain ⟨q5, h⟩ := h
    refine run_s (ss_sub rfl rfl q5) rfl ?_
    refine run_w (ws_call (xs := [.tmp 15, .const (.int .i64 (0)), .tmp 18]) (ids := []) rfl rfl rfl rfl (c_impl_within (el p v11) 0 ((p.length : Int) - 1)) rfl ?_ )
    rintro _ rfl
    refine ⟨rfl, ?_⟩
    refine run_s (ss_not rfl) rfl ?_
    refine run_s (ss_move rfl) rfl ?_
    refine run_split (s := 21) rfl (fun q7 => ?_) (fun q7 => ?_)
    · replace h := h.1 ((bnot_t q7))
      refine run_gf rfl rfl q7 rfl ?_
      refine run_gf rfl rfl q7 rfl ?_
      refine run_gf rfl rfl q7 rfl ?_
      refine run_gf rfl rfl q7 rfl ?_
      refine run_s (ss_pickT rfl q7 rfl) rfl ?_
      refine run_nil ?_
      refine aw_cond rfl (fun q8 => ?_) (fun q8 => ?_)
      · skip
        refine aw_seq ?_
        refine aw_gh (gh_to (n := 31) (σ' := [(8, ⟨bools o8, []⟩)]) (env' := []) rfl rfl trivial) ?_
        refine aw_region ?_
        refine run_s (ss_assign rfl) rfl ?_
        refine run_nil ?_
        refine aw_ret ?_
        exact retAF_mk (retv1 rfl (rv_tmp rfl)) rfl rfl ⟨_, (cle_refl _), _, h, rfl⟩
      · cases q8
    · replace h := h.2 ((bnot_f q7))
      refine run_gt rfl rfl q7 ?_
      refine run_s (ss_move rfl) rfl ?_
      refine run_gt rfl rfl q7 ?_
      refine run_s (ss_move rfl) rfl ?_
      refine run_gt rfl rfl q7 ?_
      obtain ⟨q9, h⟩ := h
      refine run_s (ss_idxR (f := cb) rfl rfl rfl q9) rfl ?_
      refine run_gt rfl rfl q7 ?_
      refine run_s (ss_loadR (f := cb) rfl rfl q9 rfl rfl) rfl ?_
      refine run_s (ss_pickF rfl q7 rfl) rfl ?_
      refine run_nil ?_
      refine aw_cond rfl (fun q10 => ?_) (fun q10 => ?_)
      · replace h := h.1 (q10)
        refine aw_seq ?_
        refine aw_gh (gh_to (n := 31) (σ' := [(8, ⟨bools o8, []⟩)]) (env' := []) rfl rfl trivial) ?_
        refine aw_region ?_
        refine run_s (ss_assign rfl) rfl ?_
        refine run_nil ?_
        refine aw_ret ?_
        exact retAF_mk (retv1 rfl (rv_tmp rfl)) rfl rfl ⟨_, (cle_refl _), _, h, rfl⟩
      · replace h := h.2 (q10)
        refine aw_skip ?_
        refine aw_gh (gh_to (n := 31) (σ' := [(8, ⟨bools o8, []⟩)]) (env' := [(0, .c (.lst (ints p))), (3, .ref 8), (5, .c (ci (el p v11))), (9, .c (.lst (ints p))), (10, .c (ci (p.length : Int))), (11, .c (ci v11)), (22, .ref 8), (23, .c (ci (el p v11))), (24, .cell 8 (el p v11).toNat), (25, .c (cb (el o8 (el p v11))))]) rfl rfl ⟨rfl, rfl, rfl, rfl, rfl, rfl, rfl, rfl, rfl, rfl, trivial⟩) ?_
        refine aw_region ?_
        refine run_s (ss_move rfl) rfl ?_
        refine run_s (ss_move rfl) rfl ?_
        obtain ⟨q11, h⟩ := h
        refine run_s (ss_idxR (f := cb) rfl rfl rfl q11) rfl ?_
        refine run_w (ws_storeE rfl rfl (map_lt q11) rfl rfl (map_se (f := cb)) rfl ⟨rfl, ?_⟩)
        refine run_nil ?_
        refine aw_gh (gh_to (n := 31) (σ' := [(8, ⟨bools (se o8 (el p v11) true), []⟩)]) (env' := [(0, .c (.lst (ints p))), (3, .ref 8), (9, .c (.lst (ints p))), (10, .c (ci (p.length : Int))), (11, .c (ci v11)), (22, .ref 8), (23, .c (ci (el p v11))), (24, .cell 8 (el p v11).toNat), (25, .c (cb (el o8 (el p v11))))]) rfl rfl ⟨rfl, rfl, rfl, rfl, rfl, rfl, rfl, rfl, rfl, trivial⟩) ?_
        refine aw_region ?_
        obtain ⟨q12, h⟩ := h
        refine run_s (ss_add rfl rfl q12) rfl ?_
        refine run_s (ss_move rfl) rfl ?_
        refine run_nil ?_
        exact ⟨v11 + 1, se o8 (el p v11) true, ghe_to (n := 31) rfl rfl ⟨rfl, rfl, rfl, rfl, rfl, trivial⟩, h.1, h.2⟩
  · replace h := h.2 (of_decide_eq_false q3)
    refine aw_exit ?_
    refine aw_seq ?_
    refine aw_gh (gh_to (n := 31) (σ' := [(8, ⟨bools o8, []⟩)]) (env' := []) rfl rfl trivial) ?_
    refine aw_region ?_
    refine run_s (ss_assign rfl) rfl ?_
    refine run_nil ?_
    refine aw_ret ?_
    exact retAF_mk (retv1 rfl (rv_tmp rfl)) rfl rfl ⟨_, (cle_refl _), _, h, rfl⟩

theorem c_impl_isPermuted (p : List Int) (hp : small p) : AF Try.prog 59 [.lst (ints p)] (fun r => r = cb (isPerm p)) :=
  (w_impl_isPermuted p (fun y0 => y0 = isPerm p) (p_impl_isPermuted p hp)).mono (by rintro r ⟨_, rfl, rfl⟩; rfl)

set_option maxHeartbeats 1000000 in
theorem w_laws_toInt64S (a : List Int) (Q : List Int → Prop) (h : wp_laws_toInt64S a Q) : AF Try.prog 19 [.lst (ints a)] (fun r => ∃ y0, Q y0 ∧ r = .own (ints y0)) := by
  refine AF.ofWQ (af_enter (n := 22) Try.func19 rfl (by rfl) rfl (Nat.le_of_ble_eq_true rfl) ?_)
  unfold wp_laws_toInt64S at h
  refine aw_seq ?_
  refine aw_gh (gh_to (n := 22) (σ' := []) (env' := [(0, .c (.lst (ints a)))]) rfl rfl ⟨rfl, trivial⟩) ?_
  refine aw_region ?_
  refine run_s (ss_assign rfl) rfl ?_
  refine run_nil ?_
  refine aw_seq ?_
  refine aw_region ?_
  refine run_s (ss_move rfl) rfl ?_
  refine run_s (ss_lenL (f := ci) rfl) rfl ?_
  obtain ⟨q1, h⟩ := h
  refine run_w (ws_mk (id := 7) ci (0 : Int) rfl rfl rfl q1 (Nat.le_of_ble_eq_true rfl) rfl ⟨rfl, ?_⟩)
  refine run_s (ss_assign rfl) rfl ?_
  refine run_nil ?_
  refine aw_seq ?_
  refine aw_seq ?_
  refine aw_gh (gh_to (n := 22) (σ' := [(7, ⟨ints (List.replicate (a.length : Int).toNat (0 : Int)), []⟩)]) (env' := [(0, .c (.lst (ints a))), (3, .ref 7)]) rfl rfl ⟨rfl, rfl, trivial⟩) ?_
  refine aw_region ?_
  refine run_s (ss_assign rfl) rfl ?_
  refine run_nil ?_
  refine aw_block ?_
  obtain ⟨H1, m1, q2, h⟩ := h
  refine aw_loop2 (fun (v4 : Int) (o7 : List Int) => ⟨[(7, ⟨ints o7, []⟩)], [(0, .c (.lst (ints a))), (3, .ref 7), (4, .c (ci v4))], 22⟩) H1 m1 ⟨0, List.replicate (a.length : Int).toNat (0 : Int), ghe_to (n := 22) rfl rfl ⟨rfl, rfl, rfl, trivial⟩, q2⟩ ?_
  rintro v4 o7 q2
  replace h := h v4 o7 q2
  refine aw_seq ?_
  refine aw_seq ?_
  refine aw_region ?_
  refine run_s (ss_move rfl) rfl ?_
  refine run_s (ss_move rfl) rfl ?_
  refine run_s (ss_lenL (f := ci) rfl) rfl ?_
  refine run_s (ss_lss rfl rfl) rfl ?_
  refine run_nil ?_
  refine aw_cond rfl (fun q3 => ?_) (fun q3 => ?_)
  · replace h := h.1 (of_decide_eq_true q3)
    refine aw_skip ?_
    refine aw_seq ?_
    refine aw_block ?_
    refine aw_region ?_
    refine run_s (ss_move rfl) rfl ?_
    refine run_s (ss_move rfl) rfl ?_
    refine run_s (ss_move rfl) rfl ?_
    refine run_s (ss_move rfl) rfl ?_
    obtain ⟨q4, h⟩ := h
    refine run_s (ss_idxL rfl rfl q4) rfl ?_
    refine run_s (ss_loadL (f := ci) rfl q4) rfl ?_
    obtain ⟨q5, h⟩ := h
    refine run_s (ss_idxR (f := ci) rfl rfl rfl q5) rfl ?_
    refine run_w (ws_storeE rfl rfl (map_lt q5) rfl rfl (map_se (f := ci)) rfl ⟨rfl, ?_⟩)
    refine run_nil ?_
    refine aw_gh (gh_to (n := 22) (σ' := [(7, ⟨ints (se o7 v4 (el a v4)), []⟩)]) (env' := [(0, .c (.lst (ints a))), (3, .ref 7), (4, .c (ci v4))]) rfl rfl ⟨rfl, rfl, rfl, trivial⟩) ?_
    refine aw_region ?_
    refine run_s (ss_move rfl) rfl ?_
    obtain ⟨q6, h⟩ := h
    refine run_s (ss_add rfl rfl q6) rfl ?_
    refine run_s (ss_assign rfl) rfl ?_
    refine run_nil ?_
    exact ⟨v4 + 1, se o7 v4 (el a v4), ghe_to (n := 22) rfl rfl ⟨rfl, rfl, rfl, trivial⟩, h.1, h.2⟩
  · replace h := h.2 (of_decide_eq_false q3)
    refine aw_exit ?_
    refine aw_seq ?_
    refine aw_gh (gh_to (n := 22) (σ' := [(7, ⟨ints o7, []⟩)]) (env' := [(3, .ref 7)]) rfl rfl ⟨rfl, trivial⟩) ?_
    refine aw_region ?_
    refine run_s (ss_move rfl) rfl ?_
    refine run_s (ss_assign rfl) rfl ?_
    refine run_nil ?_
    refine aw_ret ?_
    exact retAF_mk (retv1 rfl (rv_tmp rfl)) rfl rfl ⟨_, (cle_refl _), _, h, rfl⟩

theorem c_laws_toInt64S (a : List Int) (hp : small a) : AF Try.prog 19 [.lst (ints a)] (fun r => r = .own (ints a)) :=
  (w_laws_toInt64S a (fun y0 => y0 = a) (p_laws_toInt64S a hp)).mono (by rintro r ⟨_, rfl, rfl⟩; rfl)

set_option maxHeartbeats 1000000 in
theorem w_laws_toInt64SS (a : List (List Int)) (Q : List (List Int) → Prop) (h : wp_laws_toInt64SS a Q) : AF Try.prog 51 [.lst (rows a)] (fun r => ∃ y0, Q y0 ∧ r = .own (orows y0)) := by
  refine AF.ofWQ (af_enter (n := 23) Try.func51 rfl (by rfl) rfl (Nat.le_of_ble_eq_true rfl) ?_)
  unfold wp_laws_toInt64SS at h
  refine aw_seq ?_
  refine aw_gh (gh_to (n := 23) (σ' := []) (env' := [(0, .c (.lst (rows a)))]) rfl rfl ⟨rfl, trivial⟩) ?_
  refine aw_region ?_
  refine run_s (ss_assign rfl) rfl ?_
  refine run_nil ?_
  refine aw_seq ?_
  refine aw_region ?_
  refine run_s (ss_move rfl) rfl ?_
  refine run_s (ss_lenL (f := (fun r => C.lst (ints r))) rfl) rfl ?_
  obtain ⟨q1, h⟩ := h
  refine run_w (ws_makeSlice (id := 7) rfl rfl q1 (Nat.le_of_ble_eq_true rfl) rfl ⟨rfl, ?_⟩)
  refine run_gh (gh_weakR (id := 7) (f := (fun r => C.own (ints r))) rfl cle_nilO) ?_
  refine run_s (ss_assign rfl) rfl ?_
  refine run_nil ?_
  refine aw_seq ?_
  refine aw_seq ?_
  refine aw_gh (gh_to (n := 23) (σ' := [(7, ⟨orows (List.replicate (a.length : Int).toNat ([] : List Int)), []⟩)]) (env' := [(0, .c (.lst (rows a))), (3, .ref 7)]) rfl rfl ⟨rfl, rfl, trivial⟩) ?_
  refine aw_region ?_
  refine run_s (ss_assign rfl) rfl ?_
  refine run_nil ?_
  refine aw_block ?_
  obtain ⟨H1, m1, q2, h⟩ := h
  refine aw_loop2 (fun (v4 : Int) (o7 : List (List Int)) => ⟨[(7, ⟨orows o7, []⟩)], [(0, .c (.lst (rows a))), (3, .ref 7), (4, .c (ci v4))], 23⟩) H1 m1 ⟨0, List.replicate (a.length : Int).toNat ([] : List Int), ghe_to (n := 23) rfl rfl ⟨rfl, rfl, rfl, trivial⟩, q2⟩ ?_
  rintro v4 o7 q2
  replace h := h v4 o7 q2
  refine aw_seq ?_
  refine aw_seq ?_
  refine aw_region ?_
  refine run_s (ss_move rfl) rfl ?_
  refine run_s (ss_move rfl) rfl ?_
  refine run_s (ss_lenL (f := (fun r => C.lst (ints r))) rfl) rfl ?_
  refine run_s (ss_lss rfl rfl) rfl ?_
  refine run_nil ?_
  refine aw_cond rfl (fun q3 => ?_) (fun q3 => ?_)
  · replace h := h.1 (of_decide_eq_true q3)
    refine aw_skip ?_
    refine aw_seq ?_
    refine aw_block ?_
    refine aw_region ?_
    refine run_s (ss_move rfl) rfl ?_
    refine run_s (ss_move rfl) rfl ?_
    refine run_s (ss_move rfl) rfl ?_
    refine run_s (ss_move rfl) rfl ?_
    obtain ⟨q4, h⟩ := h
    refine run_s (ss_idxL rfl rfl q4) rfl ?_
    refine run_s (ss_loadL (f := (fun r => C.lst (ints r))) rfl q4) rfl ?_
    obtain ⟨q5, h⟩ := h
    refine run_w (ws_call (xs := [.tmp 19]) (ids := [20]) rfl rfl rfl rfl (c_laws_toInt64S (el a v4) q5) rfl ?_ )
    rintro _ rfl
    refine ⟨rfl, ?_⟩
    obtain ⟨q7, h⟩ := h
    refine run_s (ss_idxR (f := (fun r => C.own (ints r))) rfl rfl rfl q7) rfl ?_
    refine run_w (ws_storeV rfl rfl (map_lt q7) rfl rfl rfl rfl ⟨rfl, ?_⟩)
    refine run_nil ?_
    refine aw_gh (gh_to (n := 23) (σ' := [(20, ⟨ints (el a v4), []⟩), (7, ⟨(orows o7).set v4.toNat .hole, [(v4.toNat, .ref 20)]⟩)]) (env' := [(0, .c (.lst (rows a))), (3, .ref 7), (4, .c (ci v4))]) rfl rfl ⟨rfl, rfl, rfl, trivial⟩) ?_
    refine aw_region ?_
    refine run_s (ss_move rfl) rfl ?_
    obtain ⟨q8, h⟩ := h
    refine run_s (ss_add rfl rfl q8) rfl ?_
    refine run_s (ss_assign rfl) rfl ?_
    refine run_nil ?_
    exact ⟨v4 + 1, se o7 v4 (el a v4), ghe_step (gh_fillA (id := 7) (id2 := 20) (f := (fun r => C.own (ints r))) (v := (el a v4)) rfl lk_self rfl q7 rfl rfl kr_self) (ghe_to (n := 23) rfl rfl ⟨rfl, rfl, rfl, trivial⟩), h.1, h.2⟩
  · replace h := h.2 (of_decide_eq_false q3)
    refine aw_exit ?_
    refine aw_seq ?_
    refine aw_gh (gh_to (n := 23) (σ' := [(7, ⟨orows o7, []⟩)]) (env' := [(3, .ref 7)]) rfl rfl ⟨rfl, trivial⟩) ?_
    refine aw_region ?_
    refine run_s (ss_move rfl) rfl ?_
    refine run_s (ss_assign rfl) rfl ?_
    refine run_nil ?_
    refine aw_ret ?_
    exact retAF_mk (retv1 rfl (rv_tmp rfl)) rfl rfl ⟨_, (cle_refl _), _, h, rfl⟩

theorem c_laws_toInt64SS (a : List (List Int)) (hp : small2 a) : AF Try.prog 51 [.lst (rows a)] (fun r => r = .own (orows a)) :=
  (w_laws_toInt64SS a (fun y0 => y0 = a) (p_laws_toInt64SS a hp)).mono (by rintro r ⟨_, rfl, rfl⟩; rfl)

set_option maxHeartbeats 1000000 in
theorem w_laws_szInt64S (a : List Int) (left : Int) (Q : Int → Prop) (h : wp_laws_szInt64S a left Q) : AF Try.prog 60 [.lst (ints a), ci left] (fun r => ∃ y0, Q y0 ∧ r = ci y0) := by
  refine AF.ofWQ (af_enter (n := 12) Try.func60 rfl (by rfl) rfl (Nat.le_of_ble_eq_true rfl) ?_)
  unfold wp_laws_szInt64S at h
  refine aw_seq ?_
  refine aw_gh (gh_to (n := 12) (σ' := []) (env' := [(0, .c (.lst (ints a))), (1, .c (ci left))]) rfl rfl ⟨rfl, rfl, trivial⟩) ?_
  refine aw_region ?_
  refine run_s (ss_assign rfl) rfl ?_
  refine run_nil ?_
  refine aw_seq ?_
  refine aw_region ?_
  refine run_s (ss_move rfl) rfl ?_
  refine run_s (ss_move rfl) rfl ?_
  refine run_s (ss_lenL (f := ci) rfl) rfl ?_
  obtain ⟨q1, h⟩ := h
  refine run_s (ss_sub rfl rfl q1) rfl ?_
  refine run_s (ss_assign rfl) rfl ?_
  refine run_nil ?_
  refine aw_seq ?_
  refine aw_seq ?_
  refine aw_gh (gh_to (n := 12) (σ' := []) (env' := [(1, .c (ci (left - (a.length : Int))))]) rfl rfl ⟨rfl, trivial⟩) ?_
  refine aw_region ?_
  refine run_s (ss_move rfl) rfl ?_
  refine run_s (ss_lss rfl rfl) rfl ?_
  refine run_nil ?_
  refine aw_cond rfl (fun q2 => ?_) (fun q2 => ?_)
  · replace h := h.1 (of_decide_eq_true q2)
    refine aw_seq ?_
    refine aw_region ?_
    refine run_s (ss_assign rfl) rfl ?_
    refine run_nil ?_
    refine aw_ret ?_
    exact retAF_mk (retv1 rfl (rv_tmp rfl)) rfl rfl ⟨_, (cle_refl _), _, h, rfl⟩
  · replace h := h.2 (of_decide_eq_false q2)
    refine aw_skip ?_
    refine aw_seq ?_
    refine aw_region ?_
    refine run_s (ss_move rfl) rfl ?_
    refine run_s (ss_assign rfl) rfl ?_
    refine run_nil ?_
    refine aw_ret ?_
    exact retAF_mk (retv1 rfl (rv_tmp rfl)) rfl rfl ⟨_, (cle_refl _), _, h, rfl⟩

theorem c_laws_szInt64S (a : List Int) (left : Int) (hp : InS left ∧ a.length ≤ 9223372036854775807) : AF Try.prog 60 [.lst (ints a), ci left] (fun r => r = ci (szI a left)) :=
  (w_laws_szInt64S a left (fun y0 => y0 = szI a left) (p_laws_szInt64S a left hp)).mono (by rintro r ⟨_, rfl, rfl⟩; rfl)

set_option maxHeartbeats 1000000 in
theorem w_laws_szInt64SS (a : List (List Int)) (left : Int) (Q : Int → Prop) (h : wp_laws_szInt64SS a left Q) : AF Try.prog 48 [.lst (rows a), ci left] (fun r => ∃ y0, Q y0 ∧ r = ci y0) := by
  refine AF.ofWQ (af_enter (n := 27) Try.func48 rfl (by rfl) rfl (Nat.le_of_ble_eq_true rfl) ?_)
  unfold wp_laws_szInt64SS at h
  refine aw_seq ?_
  refine aw_gh (gh_to (n := 27) (σ' := []) (env' := [(0, .c (.lst (rows a))), (1, .c (ci left))]) rfl rfl ⟨rfl, rfl, trivial⟩) ?_
  refine aw_region ?_
  refine run_s (ss_assign rfl) rfl ?_
  refine run_nil ?_
  refine aw_seq ?_
  refine aw_region ?_
  refine run_s (ss_move rfl) rfl ?_
  refine run_s (ss_move rfl) rfl ?_
  refine run_s (ss_lenL (f := (fun r => C.lst (ints r))) rfl) rfl ?_
  obtain ⟨q1, h⟩ := h
  refine run_s (ss_sub rfl rfl q1) rfl ?_
  refine run_s (ss_assign rfl) rfl ?_
  refine run_nil ?_
  refine aw_seq ?_
  refine aw_seq ?_
  refine aw_gh (gh_to (n := 27) (σ' := []) (env' := [(0, .c (.lst (rows a))), (1, .c (ci (left - (a.length : Int))))]) rfl rfl ⟨rfl, rfl, trivial⟩) ?_
  refine aw_region ?_
  refine run_s (ss_move rfl) rfl ?_
  refine run_s (ss_lss rfl rfl) rfl ?_
  refine run_nil ?_
  refine aw_cond rfl (fun q2 => ?_) (fun q2 => ?_)
  · replace h := h.1 (of_decide_eq_true q2)
    refine aw_seq ?_
    refine aw_gh (gh_to (n := 27) (σ' := []) (env' := []) rfl rfl trivial) ?_
    refine aw_region ?_
    refine run_s (ss_assign rfl) rfl ?_
    refine run_nil ?_
    refine aw_ret ?_
    exact retAF_mk (retv1 rfl (rv_tmp rfl)) rfl rfl ⟨_, (cle_refl _), _, h, rfl⟩
  · replace h := h.2 (of_decide_eq_false q2)
    refine aw_skip ?_
    refine aw_seq ?_
    refine aw_seq ?_
    refine aw_region ?_
    refine run_s (ss_assign rfl) rfl ?_
    refine run_nil ?_
    refine aw_block ?_
    obtain ⟨H1, m1, q3, h⟩ := h
    refine aw_loop2 (fun (v1 : Int) (v5 : Int) => ⟨[], [(0, .c (.lst (rows a))), (1, .c (ci v1)), (5, .c (ci v5))], 27⟩) H1 m1 ⟨left - (a.length : Int), 0, ghe_to (n := 27) rfl rfl ⟨rfl, rfl, rfl, trivial⟩, q3⟩ ?_
    rintro v1 v5 q3
    replace h := h v1 v5 q3
    refine aw_seq ?_
    refine aw_seq ?_
    refine aw_region ?_
    refine run_s (ss_move rfl) rfl ?_
    refine run_s (ss_move rfl) rfl ?_
    refine run_s (ss_lenL (f := (fun r => C.lst (ints r))) rfl) rfl ?_
    refine run_s (ss_lss rfl rfl) rfl ?_
    refine run_nil ?_
    refine aw_cond rfl (fun q4 => ?_) (fun q4 => ?_)
    · replace h := h.1 (of_decide_eq_true q4)
      refine aw_skip ?_
      refine aw_seq ?_
      refine aw_block ?_
      refine aw_seq ?_
      refine aw_region ?_
      refine run_s (ss_move rfl) rfl ?_
      refine run_s (ss_move rfl) rfl ?_
      obtain ⟨q5, h⟩ := h
      refine run_s (ss_idxL rfl rfl q5) rfl ?_
      refine run_s (ss_loadL (f := (fun r => C.lst (ints r))) rfl q5) rfl ?_
      refine run_s (ss_move rfl) rfl ?_
      obtain ⟨q6, h⟩ := h
      refine run_w (ws_call (xs := [.tmp 21, .tmp 22]) (ids := []) rfl rfl rfl rfl (c_laws_szInt64S (el a v5) v1 q6) rfl ?_ )
      rintro _ rfl
      refine ⟨rfl, ?_⟩
      refine run_s (ss_assign rfl) rfl ?_
      refine run_nil ?_
      refine aw_seq ?_
      refine aw_gh (gh_to (n := 27) (σ' := []) (env' := [(0, .c (.lst (rows a))), (1, .c (ci (szI (el a v5) v1))), (5, .c (ci v5))]) rfl rfl ⟨rfl, rfl, rfl, trivial⟩) ?_
      refine aw_region ?_
      refine run_s (ss_move rfl) rfl ?_
      refine run_s (ss_lss rfl rfl) rfl ?_
      refine run_nil ?_
      refine aw_cond rfl (fun q8 => ?_) (fun q8 => ?_)
      · replace h := h.1 (of_decide_eq_true q8)
        refine aw_seq ?_
        refine aw_gh (gh_to (n := 27) (σ' := []) (env' := []) rfl rfl trivial) ?_
        refine aw_region ?_
        refine run_s (ss_assign rfl) rfl ?_
        refine run_nil ?_
        refine aw_ret ?_
        exact retAF_mk (retv1 rfl (rv_tmp rfl)) rfl rfl ⟨_, (cle_refl _), _, h, rfl⟩
      · replace h := h.2 (of_decide_eq_false q8)
        refine aw_skip ?_
        refine aw_region ?_
        refine run_s (ss_move rfl) rfl ?_
        obtain ⟨q9, h⟩ := h
        refine run_s (ss_add rfl rfl q9) rfl ?_
        refine run_s (ss_assign rfl) rfl ?_
        refine run_nil ?_
        exact ⟨szI (el a v5) v1, v5 + 1, ghe_to (n := 27) rfl rfl ⟨rfl, rfl, rfl, trivial⟩, h.1, h.2⟩
    · replace h := h.2 (of_decide_eq_false q4)
      refine aw_exit ?_
      refine aw_seq ?_
      refine aw_gh (gh_to (n := 27) (σ' := []) (env' := [(1, .c (ci v1))]) rfl rfl ⟨rfl, trivial⟩) ?_
      refine aw_region ?_
      refine run_s (ss_move rfl) rfl ?_
      refine run_s (ss_assign rfl) rfl ?_
      refine run_nil ?_
      refine aw_ret ?_
      exact retAF_mk (retv1 rfl (rv_tmp rfl)) rfl rfl ⟨_, (cle_refl _), _, h, rfl⟩

theorem c_laws_szInt64SS (a : List (List Int)) (left : Int) (hp : InS left ∧ huge2 a) : AF Try.prog 48 [.lst (rows a), ci left] (fun r => r = ci (szII a left)) :=
  (w_laws_szInt64SS a left (fun y0 => y0 = szII a left) (p_laws_szInt64SS a left hp)).mono (by rintro r ⟨_, rfl, rfl⟩; rfl)

set_option maxHeartbeats 1000000 in
theorem w_laws_eqInt64S (a : List Int) (b : List Int) (Q : Bool → Prop) (h : wp_laws_eqInt64S a b Q) : AF Try.prog 21 [.lst (ints a), .lst (ints b)] (fun r => ∃ y0, Q y0 ∧ r = cb y0) := by
  refine AF.ofWQ (af_enter (n := 26) Try.func21 rfl (by rfl) rfl (Nat.le_of_ble_eq_true rfl) ?_)
  unfold wp_laws_eqInt64S at h
  refine aw_seq ?_
  refine aw_gh (gh_to (n := 26) (σ' := []) (env' := [(0, .c (.lst (ints a))), (1, .c (.lst (ints b)))]) rfl rfl ⟨rfl, rfl, trivial⟩) ?_
  refine aw_region ?_
  refine run_s (ss_assign rfl) rfl ?_
  refine run_nil ?_
  refine aw_seq ?_
  refine aw_seq ?_
  refine aw_region ?_
  refine run_s (ss_move rfl) rfl ?_
  refine run_s (ss_lenL (f := ci) rfl) rfl ?_
  refine run_s (ss_move rfl) rfl ?_
  refine run_s (ss_lenL (f := ci) rfl) rfl ?_
  refine run_s (ss_neq rfl rfl) rfl ?_
  refine run_nil ?_
  refine aw_cond rfl (fun q1 => ?_) (fun q1 => ?_)
  · replace h := h.1 (of_decide_eq_false (bnot_t q1))
    refine aw_seq ?_
    refine aw_gh (gh_to (n := 26) (σ' := []) (env' := [(4, .c (cb false))]) rfl rfl ⟨rfl, trivial⟩) ?_
    refine aw_region ?_
    refine run_s (ss_assign rfl) rfl ?_
    refine run_nil ?_
    refine aw_ret ?_
    exact retAF_mk (retv1 rfl (rv_tmp rfl)) rfl rfl ⟨_, (cle_refl _), _, h, rfl⟩
  · replace h := h.2 (of_decide_eq_true (bnot_f q1))
    refine aw_skip ?_
    refine aw_seq ?_
    refine aw_seq ?_
    refine aw_gh (gh_to (n := 26) (σ' := []) (env' := [(0, .c (.lst (ints a))), (1, .c (.lst (ints b)))]) rfl rfl ⟨rfl, rfl, trivial⟩) ?_
    refine aw_region ?_
    refine run_s (ss_assign rfl) rfl ?_
    refine run_nil ?_
    refine aw_block ?_
    obtain ⟨H1, m1, q2, h⟩ := h
    refine aw_loop1 (fun (v5 : Int) => ⟨[], [(0, .c (.lst (ints a))), (1, .c (.lst (ints b))), (5, .c (ci v5))], 26⟩) H1 m1 ⟨0, ghe_to (n := 26) rfl rfl ⟨rfl, rfl, rfl, trivial⟩, q2⟩ ?_
    rintro v5 q2
    replace h := h v5 q2
    refine aw_seq ?_
    refine aw_seq ?_
    refine aw_region ?_
    refine run_s (ss_move rfl) rfl ?_
    refine run_s (ss_move rfl) rfl ?_
    refine run_s (ss_lenL (f := ci) rfl) rfl ?_
    refine run_s (ss_lss rfl rfl) rfl ?_
    refine run_nil ?_
    refine aw_cond rfl (fun q3 => ?_) (fun q3 => ?_)
    · replace h := h.1 (of_decide_eq_true q3)
      refine aw_skip ?_
      refine aw_seq ?_
      refine aw_block ?_
      refine aw_seq ?_
      refine aw_gh (gh_to (n := 26) (σ' := []) (env' := [(0, .c (.lst (ints a))), (1, .c (.lst (ints b))), (5, .c (ci v5))]) rfl rfl ⟨rfl, rfl, rfl, trivial⟩) ?_
      refine aw_regionD (kd := kdl [0, 0, 0, 1, 0, 0, 0, 1, 0]) (ord := [0, 1, 2, 4, 5, 6, 3, 7, 8]) [] mixed (by kernel_rfl) ?_
      refine rd_s rfl rfl trivial (ss_move rfl) rfl ?_
      refine rd_s rfl rfl trivial (ss_move rfl) rfl ?_
      obtain ⟨q4, h⟩ := h
      refine rd_s rfl rfl trivial (ss_idxL rfl rfl q4) rfl ?_
      refine rd_s rfl rfl trivial (ss_move rfl) rfl ?_
      refine rd_s rfl rfl trivial (ss_move rfl) rfl ?_
      obtain ⟨q5, h⟩ := h
      refine rd_s rfl rfl trivial (ss_idxL rfl rfl q5) rfl ?_
      refine rd_l rfl rfl trivial (ss_loadL (f := ci) rfl q4) rfl ?_
      refine rd_l rfl rfl trivial (ss_loadL (f := ci) rfl q5) rfl ?_
      refine rd_s rfl rfl trivial (ss_neq rfl rfl) rfl ?_
      refine rd_nil ?_
      refine aw_cond rfl (fun q6 => ?_) (fun q6 => ?_)
      · replace h := h.1 (of_decide_eq_false (bnot_t q6))
        refine aw_seq ?_
        refine aw_gh (gh_to (n := 26) (σ' := []) (env' := []) rfl rfl trivial) ?_
        refine aw_region ?_
        refine run_s (ss_assign rfl) rfl ?_
        refine run_nil ?_
        refine aw_ret ?_
        exact retAF_mk (retv1 rfl (rv_tmp rfl)) rfl rfl ⟨_, (cle_refl _), _, h, rfl⟩
      · replace h := h.2 (of_decide_eq_true (bnot_f q6))
        refine aw_skip ?_
        refine aw_gh (gh_to (n := 26) (σ' := []) (env' := [(0, .c (.lst (ints a))), (1, .c (.lst (ints b))), (5, .c (ci v5))]) rfl rfl ⟨rfl, rfl, rfl, trivial⟩) ?_
        refine aw_region ?_
        refine run_s (ss_move rfl) rfl ?_
        obtain ⟨q7, h⟩ := h
        refine run_s (ss_add rfl rfl q7) rfl ?_
        refine run_s (ss_assign rfl) rfl ?_
        refine run_nil ?_
        exact ⟨v5 + 1, ghe_to (n := 26) rfl rfl ⟨rfl, rfl, rfl, trivial⟩, h.1, h.2⟩
    · replace h := h.2 (of_decide_eq_false q3)
      refine aw_exit ?_
      refine aw_seq ?_
      refine aw_gh (gh_to (n := 26) (σ' := []) (env' := []) rfl rfl trivial) ?_
      refine aw_region ?_
      refine run_s (ss_assign rfl) rfl ?_
      refine run_nil ?_
      refine aw_ret ?_
      exact retAF_mk (retv1 rfl (rv_tmp rfl)) rfl rfl ⟨_, (cle_refl _), _, h, rfl⟩

theorem c_laws_eqInt64S (a : List Int) (b : List Int) (hp : small a ∧ small b) : AF Try.prog 21 [.lst (ints a), .lst (ints b)] (fun r => r = cb (decide (a = b))) :=
  (w_laws_eqInt64S a b (fun y0 => y0 = decide (a = b)) (p_laws_eqInt64S a b hp)).mono (by rintro r ⟨_, rfl, rfl⟩; rfl)

set_option maxHeartbeats 1000000 in
theorem w_laws_eqInt64SS (a : List (List Int)) (b : List (List Int)) (Q : Bool → Prop) (h : wp_laws_eqInt64SS a b Q) : AF Try.prog 37 [.lst (rows a), .lst (rows b)] (fun r => ∃ y0, Q y0 ∧ r = cb y0) := by
  refine AF.ofWQ (af_enter (n := 27) Try.func37 rfl (by rfl) rfl (Nat.le_of_ble_eq_true rfl) ?_)
  unfold wp_laws_eqInt64SS at h
  refine aw_seq ?_
  refine aw_gh (gh_to (n := 27) (σ' := []) (env' := [(0, .c (.lst (rows a))), (1, .c (.lst (rows b)))]) rfl rfl ⟨rfl, rfl, trivial⟩) ?_
  refine aw_region ?_
  refine run_s (ss_assign rfl) rfl ?_
  refine run_nil ?_
  refine aw_seq ?_
  refine aw_seq ?_
  refine aw_region ?_
  refine run_s (ss_move rfl) rfl ?_
  refine run_s (ss_lenL (f := (fun r => C.lst (ints r))) rfl) rfl ?_
  refine run_s (ss_move rfl) rfl ?_
  refine run_s (ss_lenL (f := (fun r => C.lst (ints r))) rfl) rfl ?_
  refine run_s (ss_neq rfl rfl) rfl ?_
  refine run_nil ?_
  refine aw_cond rfl (fun q1 => ?_) (fun q1 => ?_)
  · replace h := h.1 (of_decide_eq_false (bnot_t q1))
    refine aw_seq ?_
    refine aw_gh (gh_to (n := 27) (σ' := []) (env' := [(4, .c (cb false))]) rfl rfl ⟨rfl, trivial⟩) ?_
    refine aw_region ?_
    refine run_s (ss_assign rfl) rfl ?_
    refine run_nil ?_
    refine aw_ret ?_
    exact retAF_mk (retv1 rfl (rv_tmp rfl)) rfl rfl ⟨_, (cle_refl _), _, h, rfl⟩
  · replace h := h.2 (of_decide_eq_true (bnot_f q1))
    refine aw_skip ?_
    refine aw_seq ?_
    refine aw_seq ?_
    refine aw_gh (gh_to (n := 27) (σ' := []) (env' := [(0, .c (.lst (rows a))), (1, .c (.lst (rows b)))]) rfl rfl ⟨rfl, rfl, trivial⟩) ?_
    refine aw_region ?_
    refine run_s (ss_assign rfl) rfl ?_
    refine run_nil ?_
    refine aw_block ?_
    obtain ⟨H1, m1, q2, h⟩ := h
    refine aw_loop1 (fun (v5 : Int) => ⟨[], [(0, .c (.lst (rows a))), (1, .c (.lst (rows b))), (5, .c (ci v5))], 27⟩) H1 m1 ⟨0, ghe_to (n := 27) rfl rfl ⟨rfl, rfl, rfl, trivial⟩, q2⟩ ?_
    rintro v5 q2
    replace h := h v5 q2
    refine aw_seq ?_
    refine aw_seq ?_
    refine aw_region ?_
    refine run_s (ss_move rfl) rfl ?_
    refine run_s (ss_move rfl) rfl ?_
    refine run_s (ss_lenL (f := (fun r => C.lst (ints r))) rfl) rfl ?_
    refine run_s (ss_lss rfl rfl) rfl ?_
    refine run_nil ?_
    refine aw_cond rfl (fun q3 => ?_) (fun q3 => ?_)
    · replace h := h.1 (of_decide_eq_true q3)
      refine aw_skip ?_
      refine aw_seq ?_
      refine aw_block ?_
      refine aw_seq ?_
      refine aw_gh (gh_to (n := 27) (σ' := []) (env' := [(0, .c (.lst (rows a))), (1, .c (.lst (rows b))), (5, .c (ci v5))]) rfl rfl ⟨rfl, rfl, rfl, trivial⟩) ?_
      refine aw_regionD (kd := kdl [0, 0, 0, 1, 0, 0, 0, 1, 2, 0]) (ord := [0, 1, 2, 4, 5, 6, 3, 7, 8, 9]) [] mixed (by kernel_rfl) ?_
      refine rd_s rfl rfl trivial (ss_move rfl) rfl ?_
      refine rd_s rfl rfl trivial (ss_move rfl) rfl ?_
      obtain ⟨q4, h⟩ := h
      refine rd_s rfl rfl trivial (ss_idxL rfl rfl q4) rfl ?_
      refine rd_s rfl rfl trivial (ss_move rfl) rfl ?_
      refine rd_s rfl rfl trivial (ss_move rfl) rfl ?_
      obtain ⟨q5, h⟩ := h
      refine rd_s rfl rfl trivial (ss_idxL rfl rfl q5) rfl ?_
      refine rd_l rfl rfl trivial (ss_loadL (f := (fun r => C.lst (ints r))) rfl q4) rfl ?_
      refine rd_l rfl rfl trivial (ss_loadL (f := (fun r => C.lst (ints r))) rfl q5) rfl ?_
      obtain ⟨q6, h⟩ := h
      refine rd_w rfl rfl trivial rfl rfl (ws_call (xs := [.tmp 20, .tmp 24]) (ids := []) rfl rfl rfl rfl (c_laws_eqInt64S (el a v5) (el b v5) q6) rfl ?_ )
      rintro _ rfl
      refine ⟨rfl, ?_⟩
      refine rd_s rfl rfl trivial (ss_not rfl) rfl ?_
      refine rd_nil ?_
      refine aw_cond rfl (fun q8 => ?_) (fun q8 => ?_)
      · replace h := h.1 (of_decide_eq_false (bnot_t q8))
        refine aw_seq ?_
        refine aw_gh (gh_to (n := 27) (σ' := []) (env' := []) rfl rfl trivial) ?_
        refine aw_region ?_
        refine run_s (ss_assign rfl) rfl ?_
        refine run_nil ?_
        refine aw_ret ?_
        exact retAF_mk (retv1 rfl (rv_tmp rfl)) rfl rfl ⟨_, (cle_refl _), _, h, rfl⟩
      · replace h := h.2 (of_decide_eq_true (bnot_f q8))
        refine aw_skip ?_
        refine aw_gh (gh_to (n := 27) (σ' := []) (env' := [(0, .c (.lst (rows a))), (1, .c (.lst (rows b))), (5, .c (ci v5))]) rfl rfl ⟨rfl, rfl, rfl, trivial⟩) ?_
        refine aw_region ?_
        refine run_s (ss_move rfl) rfl ?_
        obtain ⟨q9, h⟩ := h
        refine run_s (ss_add rfl rfl q9) rfl ?_
        refine run_s (ss_assign rfl) rfl ?_
        refine run_nil ?_
        exact ⟨v5 + 1, ghe_to (n := 27) rfl rfl ⟨rfl, rfl, rfl, trivial⟩, h.1, h.2⟩
    · replace h := h.2 (of_decide_eq_false q3)
      refine aw_exit ?_
      refine aw_seq ?_
      refine aw_gh (gh_to (n := 27) (σ' := []) (env' := []) rfl rfl trivial) ?_
      refine aw_region ?_
      refine run_s (ss_assign rfl) rfl ?_
      refine run_nil ?_
      refine aw_ret ?_
      exact retAF_mk (retv1 rfl (rv_tmp rfl)) rfl rfl ⟨_, (cle_refl _), _, h, rfl⟩

theorem c_laws_eqInt64SS (a : List (List Int)) (b : List (List Int)) (hp : small2 a ∧ small2 b) : AF Try.prog 37 [.lst (rows a), .lst (rows b)] (fun r => r = cb (decide (a = b))) :=
  (w_laws_eqInt64SS a b (fun y0 => y0 = decide (a = b)) (p_laws_eqInt64SS a b hp)).mono (by rintro r ⟨_, rfl, rfl⟩; rfl)

set_option maxHeartbeats 1000000 in
theorem w_laws_markInt64S (a : List Int) (k : Int) (Q : Int → List Int → Prop) (h : wp_laws_markInt64S a k Q) : AM Try.prog 22 [.own (ints a), ci k] (fun r o => ∃ y0 w0, Q y0 w0 ∧ r = ci y0 ∧ o = [.own (ints w0), ci k]) := by
  refine am_enter (n := 19) (m := 2) Try.func22 rfl (by rfl) rfl rfl (Nat.le_of_ble_eq_true rfl) [800] rfl ?_
  unfold wp_laws_markInt64S at h
  refine aw_seq ?_
  refine aw_gh (gh_to (n := 19) (σ' := [(800, ⟨ints a, []⟩)]) (env' := [(0, .ref 800), (1, .c (ci k)), (19, .ref 800), (20, .c (ci k))]) rfl rfl ⟨rfl, rfl, rfl, rfl, trivial⟩) ?_
  refine aw_region ?_
  refine run_s (ss_assign rfl) rfl ?_
  refine run_nil ?_
  refine aw_seq ?_
  refine aw_seq ?_
  refine aw_region ?_
  refine run_s (ss_assign rfl) rfl ?_
  refine run_nil ?_
  refine aw_block ?_
  obtain ⟨H1, m1, q1, h⟩ := h
  refine aw_loop3 (fun (v1 : Int) (v5 : Int) (o800 : List Int) => ⟨[(800, ⟨ints o800, []⟩)], [(0, .ref 800), (1, .c (ci v1)), (5, .c (ci v5)), (19, .ref 800), (20, .c (ci k))], 19⟩) H1 m1 ⟨k, 0, a, ghe_to (n := 19) rfl rfl ⟨rfl, rfl, rfl, rfl, rfl, trivial⟩, q1⟩ ?_
  rintro v1 v5 o800 q1
  replace h := h v1 v5 o800 q1
  refine aw_seq ?_
  refine aw_seq ?_
  refine aw_region ?_
  refine run_s (ss_move rfl) rfl ?_
  refine run_s (ss_move rfl) rfl ?_
  refine run_s (ss_lenR (f := ci) rfl rfl) rfl ?_
  refine run_s (ss_lss rfl rfl) rfl ?_
  refine run_nil ?_
  refine aw_cond rfl (fun q2 => ?_) (fun q2 => ?_)
  · replace h := h.1 (of_decide_eq_true q2)
    refine aw_skip ?_
    refine aw_seq ?_
    refine aw_block ?_
    refine aw_seq ?_
    refine aw_region ?_
    refine run_s (ss_move rfl) rfl ?_
    refine run_s (ss_move rfl) rfl ?_
    refine run_s (ss_move rfl) rfl ?_
    obtain ⟨q3, h⟩ := h
    refine run_s (ss_idxR (f := ci) rfl rfl rfl q3) rfl ?_
    refine run_w (ws_storeE rfl rfl (map_lt q3) rfl rfl (map_se (f := ci)) rfl ⟨rfl, ?_⟩)
    refine run_nil ?_
    refine aw_gh (gh_to (n := 19) (σ' := [(800, ⟨ints (se o800 v5 v1), []⟩)]) (env' := [(0, .ref 800), (1, .c (ci v1)), (5, .c (ci v5)), (19, .ref 800), (20, .c (ci k))]) rfl rfl ⟨rfl, rfl, rfl, rfl, rfl, trivial⟩) ?_
    refine aw_region ?_
    refine run_s (ss_move rfl) rfl ?_
    obtain ⟨q4, h⟩ := h
    refine run_s (ss_add rfl rfl q4) rfl ?_
    refine run_s (ss_assign rfl) rfl ?_
    refine run_nil ?_
    refine aw_region ?_
    refine run_s (ss_move rfl) rfl ?_
    obtain ⟨q5, h⟩ := h
    refine run_s (ss_add rfl rfl q5) rfl ?_
    refine run_s (ss_assign rfl) rfl ?_
    refine run_nil ?_
    exact ⟨v1 + 1, v5 + 1, se o800 v5 v1, ghe_to (n := 19) rfl rfl ⟨rfl, rfl, rfl, rfl, rfl, trivial⟩, h.1, h.2⟩
  · replace h := h.2 (of_decide_eq_false q2)
    refine aw_exit ?_
    refine aw_seq ?_
    refine aw_gh (gh_to (n := 19) (σ' := [(800, ⟨ints o800, []⟩)]) (env' := [(1, .c (ci v1)), (19, .ref 800), (20, .c (ci k))]) rfl rfl ⟨rfl, rfl, rfl, trivial⟩) ?_
    refine aw_region ?_
    refine run_s (ss_move rfl) rfl ?_
    refine run_s (ss_assign rfl) rfl ?_
    refine run_nil ?_
    refine aw_ret ?_
    exact retAM_mk (retv1 rfl (rv_tmp rfl)) rfl rfl rfl ⟨_, _, h, rfl, rfl⟩

theorem c_laws_markInt64S (a : List Int) (k : Int) (hp : small a ∧ okK k) : AM Try.prog 22 [.own (ints a), ci k] (fun r o => r = ci (k + (a.length : Int)) ∧ o = [.own (ints (mkI k a)), ci k]) :=
  (w_laws_markInt64S a k (fun y0 w0 => y0 = k + (a.length : Int) ∧ w0 = mkI k a) (p_laws_markInt64S a k hp)).mono (by rintro r o ⟨_, _, ⟨rfl, rfl⟩, rfl, rfl⟩; exact ⟨rfl, rfl⟩)

set_option maxHeartbeats 1000000 in
theorem w_laws_markInt64SS (a : List (List Int)) (k : Int) (Q : Int → List (List Int) → Prop) (h : wp_laws_markInt64SS a k Q) : AM Try.prog 38 [.own (orows a), ci k] (fun r o => ∃ y0 w0, Q y0 w0 ∧ r = ci y0 ∧ o = [.own (orows w0), ci k]) := by
  refine am_enter (n := 19) (m := 2) Try.func38 rfl (by rfl) rfl rfl (Nat.le_of_ble_eq_true rfl) [800] rfl ?_
  unfold wp_laws_markInt64SS at h
  refine aw_seq ?_
  refine aw_gh (gh_to (n := 19) (σ' := [(800, ⟨orows a, []⟩)]) (env' := [(0, .ref 800), (1, .c (ci k)), (19, .ref 800), (20, .c (ci k))]) rfl rfl ⟨rfl, rfl, rfl, rfl, trivial⟩) ?_
  refine aw_region ?_
  refine run_s (ss_assign rfl) rfl ?_
  refine run_nil ?_
  refine aw_seq ?_
  refine aw_seq ?_
  refine aw_region ?_
  refine run_s (ss_assign rfl) rfl ?_
  refine run_nil ?_
  refine aw_block ?_
  obtain ⟨H1, m1, q1, h⟩ := h
  refine aw_loop3 (fun (v1 : Int) (v5 : Int) (o800 : List (List Int)) => ⟨[(800, ⟨orows o800, []⟩)], [(0, .ref 800), (1, .c (ci v1)), (5, .c (ci v5)), (19, .ref 800), (20, .c (ci k))], 19⟩) H1 m1 ⟨k, 0, a, ghe_to (n := 19) rfl rfl ⟨rfl, rfl, rfl, rfl, rfl, trivial⟩, q1⟩ ?_
  rintro v1 v5 o800 q1
  replace h := h v1 v5 o800 q1
  refine aw_seq ?_
  refine aw_seq ?_
  refine aw_region ?_
  refine run_s (ss_move rfl) rfl ?_
  refine run_s (ss_move rfl) rfl ?_
  refine run_s (ss_lenR (f := (fun r => C.own (ints r))) rfl rfl) rfl ?_
  refine run_s (ss_lss rfl rfl) rfl ?_
  refine run_nil ?_
  refine aw_cond rfl (fun q2 => ?_) (fun q2 => ?_)
  · replace h := h.1 (of_decide_eq_true q2)
    refine aw_skip ?_
    refine aw_seq ?_
    refine aw_block ?_
    refine aw_region ?_
    refine run_s (ss_move rfl) rfl ?_
    refine run_s (ss_move rfl) rfl ?_
    obtain ⟨q3, h⟩ := h
    refine run_s (ss_idxR (f := (fun r => C.own (ints r))) rfl rfl rfl q3) rfl ?_
    refine run_gh (gh_open 1001 (id := 800) (j := v5.toNat) rfl (map_get (f := (fun r => C.own (ints r))) q3) rfl) ?_
    refine run_s (ss_loadH rfl rfl lk_self rfl) rfl ?_
    refine run_s (ss_move rfl) rfl ?_
    obtain ⟨q4, h⟩ := h
    refine run_w (ws_callM (xs := [.tmp 15, .tmp 16]) (cs := [.own (ints (el o800 v5)), ci v1]) (ids := []) rfl (.inr ⟨rfl, rfl⟩) rfl rfl rfl (c_laws_markInt64S (el o800 v5) v1 q4) rfl ?_ )
    rintro _ _ ⟨rfl, rfl⟩
    refine ⟨rfl, rfl, ?_⟩
    refine run_s (ss_assign rfl) rfl ?_
    refine run_nil ?_
    refine aw_gh (gh_to (n := 19) (σ' := [(1001, ⟨ints (mkI v1 (el o800 v5)), []⟩), (800, ⟨(orows o800).set v5.toNat .hole, [(v5.toNat, .ref 1001)]⟩)]) (env' := [(0, .ref 800), (1, .c (ci (v1 + ((el o800 v5).length : Int)))), (5, .c (ci v5)), (19, .ref 800), (20, .c (ci k))]) rfl rfl ⟨rfl, rfl, rfl, rfl, rfl, trivial⟩) ?_
    refine aw_region ?_
    refine run_s (ss_move rfl) rfl ?_
    obtain ⟨q6, h⟩ := h
    refine run_s (ss_add rfl rfl q6) rfl ?_
    refine run_s (ss_assign rfl) rfl ?_
    refine run_nil ?_
    exact ⟨v1 + ((el o800 v5).length : Int), v5 + 1, se o800 v5 (mkI v1 (el o800 v5)), ghe_step (gh_fillA (id := 800) (id2 := 1001) (f := (fun r => C.own (ints r))) (v := mkI v1 (el o800 v5)) rfl lk_self rfl q3 rfl rfl kr_self) (ghe_to (n := 19) rfl rfl ⟨rfl, rfl, rfl, rfl, rfl, trivial⟩), h.1, h.2⟩
  · replace h := h.2 (of_decide_eq_false q2)
    refine aw_exit ?_
    refine aw_seq ?_
    refine aw_gh (gh_to (n := 19) (σ' := [(800, ⟨orows o800, []⟩)]) (env' := [(1, .c (ci v1)), (19, .ref 800), (20, .c (ci k))]) rfl rfl ⟨rfl, rfl, rfl, trivial⟩) ?_
    refine aw_region ?_
    refine run_s (ss_move rfl) rfl ?_
    refine run_s (ss_assign rfl) rfl ?_
    refine run_nil ?_
    refine aw_ret ?_
    exact retAM_mk (retv1 rfl (rv_tmp rfl)) rfl rfl rfl ⟨_, _, h, rfl, rfl⟩

theorem c_laws_markInt64SS (a : List (List Int)) (k : Int) (hp : small2 a ∧ okKT k a) : AM Try.prog 38 [.own (orows a), ci k] (fun r o => r = ci (k + tot a) ∧ o = [.own (orows (mkII k a)), ci k]) :=
  (w_laws_markInt64SS a k (fun y0 w0 => y0 = k + tot a ∧ w0 = mkII k a) (p_laws_markInt64SS a k hp)).mono (by rintro r o ⟨_, _, ⟨rfl, rfl⟩, rfl, rfl⟩; exact ⟨rfl, rfl⟩)

set_option maxHeartbeats 1000000 in
theorem w_laws_heldInt64S (a : List Int) (k : Int) (Q : Int → Prop) (h : wp_laws_heldInt64S a k Q) : AF Try.prog 29 [.lst (ints a), ci k] (fun r => ∃ y0, Q y0 ∧ r = ci y0) := by
  refine AF.ofWQ (af_enter (n := 21) Try.func29 rfl (by rfl) rfl (Nat.le_of_ble_eq_true rfl) ?_)
  unfold wp_laws_heldInt64S at h
  refine aw_seq ?_
  refine aw_gh (gh_to (n := 21) (σ' := []) (env' := [(0, .c (.lst (ints a))), (1, .c (ci k))]) rfl rfl ⟨rfl, rfl, trivial⟩) ?_
  refine aw_region ?_
  refine run_s (ss_assign rfl) rfl ?_
  refine run_nil ?_
  refine aw_seq ?_
  refine aw_seq ?_
  refine aw_region ?_
  refine run_s (ss_assign rfl) rfl ?_
  refine run_nil ?_
  refine aw_block ?_
  obtain ⟨H1, m1, q1, h⟩ := h
  refine aw_loop2 (fun (v1 : Int) (v5 : Int) => ⟨[], [(0, .c (.lst (ints a))), (1, .c (ci v1)), (5, .c (ci v5))], 21⟩) H1 m1 ⟨k, 0, ghe_to (n := 21) rfl rfl ⟨rfl, rfl, rfl, trivial⟩, q1⟩ ?_
  rintro v1 v5 q1
  replace h := h v1 v5 q1
  refine aw_seq ?_
  refine aw_seq ?_
  refine aw_region ?_
  refine run_s (ss_move rfl) rfl ?_
  refine run_s (ss_move rfl) rfl ?_
  refine run_s (ss_lenL (f := ci) rfl) rfl ?_
  refine run_s (ss_lss rfl rfl) rfl ?_
  refine run_nil ?_
  refine aw_cond rfl (fun q2 => ?_) (fun q2 => ?_)
  · replace h := h.1 (of_decide_eq_true q2)
    refine aw_skip ?_
    refine aw_seq ?_
    refine aw_block ?_
    refine aw_seq ?_
    refine aw_seq ?_
    refine aw_region ?_
    refine run_s (ss_move rfl) rfl ?_
    refine run_s (ss_move rfl) rfl ?_
    obtain ⟨q3, h⟩ := h
    refine run_s (ss_idxL rfl rfl q3) rfl ?_
    refine run_s (ss_loadL (f := ci) rfl q3) rfl ?_
    refine run_s (ss_move rfl) rfl ?_
    refine run_s (ss_neq rfl rfl) rfl ?_
    refine run_nil ?_
    refine aw_cond rfl (fun q4 => ?_) (fun q4 => ?_)
    · replace h := h.1 (of_decide_eq_false (bnot_t q4))
      refine aw_seq ?_
      refine aw_gh (gh_to (n := 21) (σ' := []) (env' := []) rfl rfl trivial) ?_
      refine aw_region ?_
      refine run_s (ss_assign rfl) rfl ?_
      refine run_nil ?_
      refine aw_ret ?_
      exact retAF_mk (retv1 rfl (rv_tmp rfl)) rfl rfl ⟨_, (cle_refl _), _, h, rfl⟩
    · replace h := h.2 (of_decide_eq_true (bnot_f q4))
      refine aw_skip ?_
      refine aw_gh (gh_to (n := 21) (σ' := []) (env' := [(0, .c (.lst (ints a))), (1, .c (ci v1)), (5, .c (ci v5))]) rfl rfl ⟨rfl, rfl, rfl, trivial⟩) ?_
      refine aw_region ?_
      refine run_s (ss_move rfl) rfl ?_
      obtain ⟨q5, h⟩ := h
      refine run_s (ss_add rfl rfl q5) rfl ?_
      refine run_s (ss_assign rfl) rfl ?_
      refine run_nil ?_
      refine aw_region ?_
      refine run_s (ss_move rfl) rfl ?_
      obtain ⟨q6, h⟩ := h
      refine run_s (ss_add rfl rfl q6) rfl ?_
      refine run_s (ss_assign rfl) rfl ?_
      refine run_nil ?_
      exact ⟨v1 + 1, v5 + 1, ghe_to (n := 21) rfl rfl ⟨rfl, rfl, rfl, trivial⟩, h.1, h.2⟩
  · replace h := h.2 (of_decide_eq_false q2)
    refine aw_exit ?_
    refine aw_seq ?_
    refine aw_gh (gh_to (n := 21) (σ' := []) (env' := [(1, .c (ci v1))]) rfl rfl ⟨rfl, trivial⟩) ?_
    refine aw_region ?_
    refine run_s (ss_move rfl) rfl ?_
    refine run_s (ss_assign rfl) rfl ?_
    refine run_nil ?_
    refine aw_ret ?_
    exact retAF_mk (retv1 rfl (rv_tmp rfl)) rfl rfl ⟨_, (cle_refl _), _, h, rfl⟩

theorem c_laws_heldInt64S (a : List Int) (k : Int) (hp : small a ∧ okK k) : AF Try.prog 29 [.lst (ints a), ci k] (fun r => r = ci (heI k a)) :=
  (w_laws_heldInt64S a k (fun y0 => y0 = heI k a) (p_laws_heldInt64S a k hp)).mono (by rintro r ⟨_, rfl, rfl⟩; rfl)

set_option maxHeartbeats 1000000 in
theorem w_laws_heldInt64SS (a : List (List Int)) (k : Int) (Q : Int → Prop) (h : wp_laws_heldInt64SS a k Q) : AF Try.prog 39 [.lst (rows a), ci k] (fun r => ∃ y0, Q y0 ∧ r = ci y0) := by
  refine AF.ofWQ (af_enter (n := 21) Try.func39 rfl (by rfl) rfl (Nat.le_of_ble_eq_true rfl) ?_)
  unfold wp_laws_heldInt64SS at h
  refine aw_seq ?_
  refine aw_gh (gh_to (n := 21) (σ' := []) (env' := [(0, .c (.lst (rows a))), (1, .c (ci k))]) rfl rfl ⟨rfl, rfl, trivial⟩) ?_
  refine aw_region ?_
  refine run_s (ss_assign rfl) rfl ?_
  refine run_nil ?_
  refine aw_seq ?_
  refine aw_seq ?_
  refine aw_region ?_
  refine run_s (ss_assign rfl) rfl ?_
  refine run_nil ?_
  refine aw_block ?_
  obtain ⟨H1, m1, q1, h⟩ := h
  refine aw_loop2 (fun (v1 : Int) (v5 : Int) => ⟨[], [(0, .c (.lst (rows a))), (1, .c (ci v1)), (5, .c (ci v5))], 21⟩) H1 m1 ⟨k, 0, ghe_to (n := 21) rfl rfl ⟨rfl, rfl, rfl, trivial⟩, q1⟩ ?_
  rintro v1 v5 q1
  replace h := h v1 v5 q1
  refine aw_seq ?_
  refine aw_seq ?_
  refine aw_region ?_
  refine run_s (ss_move rfl) rfl ?_
  refine run_s (ss_move rfl) rfl ?_
  refine run_s (ss_lenL (f := (fun r => C.lst (ints r))) rfl) rfl ?_
  refine run_s (ss_lss rfl rfl) rfl ?_
  refine run_nil ?_
  refine aw_cond rfl (fun q2 => ?_) (fun q2 => ?_)
  · replace h := h.1 (of_decide_eq_true q2)
    refine aw_skip ?_
    refine aw_seq ?_
    refine aw_block ?_
    refine aw_seq ?_
    refine aw_region ?_
    refine run_s (ss_move rfl) rfl ?_
    refine run_s (ss_move rfl) rfl ?_
    obtain ⟨q3, h⟩ := h
    refine run_s (ss_idxL rfl rfl q3) rfl ?_
    refine run_s (ss_loadL (f := (fun r => C.lst (ints r))) rfl q3) rfl ?_
    refine run_s (ss_move rfl) rfl ?_
    obtain ⟨q4, h⟩ := h
    refine run_w (ws_call (xs := [.tmp 15, .tmp 16]) (ids := []) rfl rfl rfl rfl (c_laws_heldInt64S (el a v5) v1 q4) rfl ?_ )
    rintro _ rfl
    refine ⟨rfl, ?_⟩
    refine run_s (ss_assign rfl) rfl ?_
    refine run_nil ?_
    refine aw_seq ?_
    refine aw_gh (gh_to (n := 21) (σ' := []) (env' := [(0, .c (.lst (rows a))), (1, .c (ci (heI v1 (el a v5)))), (5, .c (ci v5))]) rfl rfl ⟨rfl, rfl, rfl, trivial⟩) ?_
    refine aw_region ?_
    refine run_s (ss_move rfl) rfl ?_
    refine run_s (ss_lss rfl rfl) rfl ?_
    refine run_nil ?_
    refine aw_cond rfl (fun q6 => ?_) (fun q6 => ?_)
    · replace h := h.1 (of_decide_eq_true q6)
      refine aw_seq ?_
      refine aw_gh (gh_to (n := 21) (σ' := []) (env' := []) rfl rfl trivial) ?_
      refine aw_region ?_
      refine run_s (ss_assign rfl) rfl ?_
      refine run_nil ?_
      refine aw_ret ?_
      exact retAF_mk (retv1 rfl (rv_tmp rfl)) rfl rfl ⟨_, (cle_refl _), _, h, rfl⟩
    · replace h := h.2 (of_decide_eq_false q6)
      refine aw_skip ?_
      refine aw_region ?_
      refine run_s (ss_move rfl) rfl ?_
      obtain ⟨q7, h⟩ := h
      refine run_s (ss_add rfl rfl q7) rfl ?_
      refine run_s (ss_assign rfl) rfl ?_
      refine run_nil ?_
      exact ⟨heI v1 (el a v5), v5 + 1, ghe_to (n := 21) rfl rfl ⟨rfl, rfl, rfl, trivial⟩, h.1, h.2⟩
  · replace h := h.2 (of_decide_eq_false q2)
    refine aw_exit ?_
    refine aw_seq ?_
    refine aw_gh (gh_to (n := 21) (σ' := []) (env' := [(1, .c (ci v1))]) rfl rfl ⟨rfl, trivial⟩) ?_
    refine aw_region ?_
    refine run_s (ss_move rfl) rfl ?_
    refine run_s (ss_assign rfl) rfl ?_
    refine run_nil ?_
    refine aw_ret ?_
    exact retAF_mk (retv1 rfl (rv_tmp rfl)) rfl rfl ⟨_, (cle_refl _), _, h, rfl⟩

theorem c_laws_heldInt64SS (a : List (List Int)) (k : Int) (hp : small2 a ∧ okKT k a) : AF Try.prog 39 [.lst (rows a), ci k] (fun r => r = ci (heII k a)) :=
  (w_laws_heldInt64SS a k (fun y0 => y0 = heII k a) (p_laws_heldInt64SS a k hp)).mono (by rintro r ⟨_, rfl, rfl⟩; rfl)

set_option maxHeartbeats 1000000 in
theorem w_laws_eqRack (a : List (List Int)) (b : List (List Int)) (Q : Bool → Prop) (h : wp_laws_eqRack a b Q) : AF Try.prog 11 [.agg [.lst (rows a)], .agg [.lst (rows b)]] (fun r => ∃ y0, Q y0 ∧ r = cb y0) := by
  refine AF.ofWQ (af_enter (n := 11) Try.func11 rfl (by rfl) rfl (Nat.le_of_ble_eq_true rfl) ?_)
  unfold wp_laws_eqRack at h
  refine aw_seq ?_
  refine aw_gh (gh_to (n := 11) (σ' := []) (env' := [(0, .c (.agg [.lst (rows a)])), (1, .c (.agg [.lst (rows b)]))]) rfl rfl ⟨rfl, rfl, trivial⟩) ?_
  refine aw_region ?_
  refine run_w (ws_boxR rfl (.inl rfl) rfl ⟨rfl, ?_⟩)
  refine run_w (ws_boxR rfl (.inl rfl) rfl ⟨rfl, ?_⟩)
  refine run_s (ss_assign rfl) rfl ?_
  refine run_nil ?_
  refine aw_seq ?_
  refine aw_seq ?_
  refine aw_region ?_
  refine run_s (ss_field_ptr rfl) rfl ?_
  refine run_s (ss_load_ptr rfl rfl) rfl ?_
  refine run_s (ss_field_ptr rfl) rfl ?_
  refine run_s (ss_load_ptr rfl rfl) rfl ?_
  obtain ⟨q1, h⟩ := h
  refine run_w (ws_call (xs := [.tmp 6, .tmp 8]) (ids := []) rfl rfl rfl rfl (c_laws_eqInt64SS a b q1) rfl ?_ )
  rintro _ rfl
  refine ⟨rfl, ?_⟩
  refine run_s (ss_not rfl) rfl ?_
  refine run_nil ?_
  refine aw_cond rfl (fun q3 => ?_) (fun q3 => ?_)
  · replace h := h.1 (of_decide_eq_false (bnot_t q3))
    refine aw_seq ?_
    refine aw_gh (gh_to (n := 11) (σ' := []) (env' := [(4, .c (cb false))]) rfl rfl ⟨rfl, trivial⟩) ?_
    refine aw_region ?_
    refine run_s (ss_assign rfl) rfl ?_
    refine run_nil ?_
    refine aw_ret ?_
    exact retAF_mk (retv1 rfl (rv_tmp rfl)) rfl rfl ⟨_, (cle_refl _), _, h, rfl⟩
  · replace h := h.2 (of_decide_eq_true (bnot_f q3))
    refine aw_skip ?_
    refine aw_seq ?_
    refine aw_gh (gh_to (n := 11) (σ' := []) (env' := [(4, .c (cb false))]) rfl rfl ⟨rfl, trivial⟩) ?_
    refine aw_region ?_
    refine run_s (ss_assign rfl) rfl ?_
    refine run_nil ?_
    refine aw_ret ?_
    exact retAF_mk (retv1 rfl (rv_tmp rfl)) rfl rfl ⟨_, (cle_refl _), _, h, rfl⟩

theorem c_laws_eqRack (a : List (List Int)) (b : List (List Int)) (hp : small2 a ∧ small2 b) : AF Try.prog 11 [.agg [.lst (rows a)], .agg [.lst (rows b)]] (fun r => r = cb (decide (a = b))) :=
  (w_laws_eqRack a b (fun y0 => y0 = decide (a = b)) (p_laws_eqRack a b hp)).mono (by rintro r ⟨_, rfl, rfl⟩; rfl)

set_option maxHeartbeats 1000000 in
theorem w_laws_markRack (a : List (List Int)) (k : Int) (Q : Int → List (List Int) → Prop) (h : wp_laws_markRack a k Q) : AM Try.prog 12 [.agg [.own (orows a)], ci k] (fun r o => ∃ y0 w0, Q y0 w0 ∧ r = ci y0 ∧ o = [.agg [.own (orows w0)], ci k]) := by
  refine am_enter (n := 10) (m := 2) Try.func12 rfl (by rfl) rfl rfl (Nat.le_of_ble_eq_true rfl) [800] rfl ?_
  unfold wp_laws_markRack at h
  refine aw_seq ?_
  refine aw_gh (gh_to (n := 10) (σ' := [(800, ⟨orows a, []⟩)]) (env' := [(0, .agg [.ref 800]), (1, .c (ci k)), (10, .agg [.ref 800]), (11, .c (ci k))]) rfl rfl ⟨rfl, rfl, rfl, rfl, trivial⟩) ?_
  refine aw_region ?_
  refine run_w (ws_boxS (id := 2) rfl rfl rfl (Nat.le_of_ble_eq_true rfl) rfl ⟨rfl, ?_⟩)
  refine run_s (ss_assign rfl) rfl ?_
  refine run_nil ?_
  refine aw_seq ?_
  refine aw_region ?_
  refine run_s (ss_field_cell rfl) rfl ?_
  refine run_s (ss_loadH rfl rfl rfl rfl) rfl ?_
  refine run_s (ss_move rfl) rfl ?_
  obtain ⟨q1, h⟩ := h
  refine run_w (ws_callM (xs := [.tmp 6, .tmp 7]) (cs := [.own (orows a), ci k]) (ids := []) rfl (.inr ⟨rfl, rfl⟩) rfl rfl rfl (c_laws_markInt64SS a k q1) rfl ?_ )
  rintro _ _ ⟨rfl, rfl⟩
  refine ⟨rfl, rfl, ?_⟩
  refine run_s (ss_assign rfl) rfl ?_
  refine run_nil ?_
  refine aw_seq ?_
  refine aw_gh (gh_to (n := 10) (σ' := [(2, ⟨[.hole], [(0, .ref 800)]⟩), (800, ⟨orows (mkII k a), []⟩)]) (env' := [(1, .c (ci (k + tot a))), (4, .c (ci 0)), (10, .agg [.ref 800]), (11, .c (ci k))]) rfl rfl ⟨rfl, rfl, rfl, rfl, trivial⟩) ?_
  refine aw_region ?_
  refine run_s (ss_move rfl) rfl ?_
  refine run_s (ss_assign rfl) rfl ?_
  refine run_nil ?_
  refine aw_ret ?_
  exact retAM_mk (retv1 rfl (rv_tmp rfl)) rfl rfl rfl ⟨_, _, h, rfl, rfl⟩

theorem c_laws_markRack (a : List (List Int)) (k : Int) (hp : small2 a ∧ okKT k a) : AM Try.prog 12 [.agg [.own (orows a)], ci k] (fun r o => r = ci (k + tot a) ∧ o = [.agg [.own (orows (mkII k a))], ci k]) :=
  (w_laws_markRack a k (fun y0 w0 => y0 = k + tot a ∧ w0 = mkII k a) (p_laws_markRack a k hp)).mono (by rintro r o ⟨_, _, ⟨rfl, rfl⟩, rfl, rfl⟩; exact ⟨rfl, rfl⟩)

set_option maxHeartbeats 1000000 in
theorem w_laws_heldRack (a : List (List Int)) (k : Int) (Q : Int → Prop) (h : wp_laws_heldRack a k Q) : AF Try.prog 13 [.agg [.lst (rows a)], ci k] (fun r => ∃ y0, Q y0 ∧ r = ci y0) := by
  refine AF.ofWQ (af_enter (n := 12) Try.func13 rfl (by rfl) rfl (Nat.le_of_ble_eq_true rfl) ?_)
  unfold wp_laws_heldRack at h
  refine aw_seq ?_
  refine aw_gh (gh_to (n := 12) (σ' := []) (env' := [(0, .c (.agg [.lst (rows a)])), (1, .c (ci k))]) rfl rfl ⟨rfl, rfl, trivial⟩) ?_
  refine aw_region ?_
  refine run_w (ws_boxR rfl (.inl rfl) rfl ⟨rfl, ?_⟩)
  refine run_s (ss_assign rfl) rfl ?_
  refine run_nil ?_
  refine aw_seq ?_
  refine aw_region ?_
  refine run_s (ss_field_ptr rfl) rfl ?_
  refine run_s (ss_load_ptr rfl rfl) rfl ?_
  refine run_s (ss_move rfl) rfl ?_
  obtain ⟨q1, h⟩ := h
  refine run_w (ws_call (xs := [.tmp 6, .tmp 7]) (ids := []) rfl rfl rfl rfl (c_laws_heldInt64SS a k q1) rfl ?_ )
  rintro _ rfl
  refine ⟨rfl, ?_⟩
  refine run_s (ss_assign rfl) rfl ?_
  refine run_nil ?_
  refine aw_seq ?_
  refine aw_seq ?_
  refine aw_gh (gh_to (n := 12) (σ' := []) (env' := [(1, .c (ci (heII k a)))]) rfl rfl ⟨rfl, trivial⟩) ?_
  refine aw_region ?_
  refine run_s (ss_move rfl) rfl ?_
  refine run_s (ss_lss rfl rfl) rfl ?_
  refine run_nil ?_
  refine aw_cond rfl (fun q3 => ?_) (fun q3 => ?_)
  · replace h := h.1 (of_decide_eq_true q3)
    refine aw_seq ?_
    refine aw_region ?_
    refine run_s (ss_assign rfl) rfl ?_
    refine run_nil ?_
    refine aw_ret ?_
    exact retAF_mk (retv1 rfl (rv_tmp rfl)) rfl rfl ⟨_, (cle_refl _), _, h, rfl⟩
  · replace h := h.2 (of_decide_eq_false q3)
    refine aw_skip ?_
    refine aw_seq ?_
    refine aw_region ?_
    refine run_s (ss_move rfl) rfl ?_
    refine run_s (ss_assign rfl) rfl ?_
    refine run_nil ?_
    refine aw_ret ?_
    exact retAF_mk (retv1 rfl (rv_tmp rfl)) rfl rfl ⟨_, (cle_refl _), _, h, rfl⟩

theorem c_laws_heldRack (a : List (List Int)) (k : Int) (hp : small2 a ∧ okKT k a) : AF Try.prog 13 [.agg [.lst (rows a)], ci k] (fun r => r = ci (heII k a)) :=
  (w_laws_heldRack a k (fun y0 => y0 = heII k a) (p_laws_heldRack a k hp)).mono (by rintro r ⟨_, rfl, rfl⟩; rfl)

set_option maxHeartbeats 1000000 in
theorem w_laws_toCycleSet (a : List (List Int)) (Q : List (List Int) → Prop) (h : wp_laws_toCycleSet a Q) : AF Try.prog 25 [.agg [.lst (rows a)]] (fun r => ∃ y0, Q y0 ∧ r = .agg [.own (orows y0)]) := by
  refine AF.ofWQ (af_enter (n := 9) Try.func25 rfl (by rfl) rfl (Nat.le_of_ble_eq_true rfl) ?_)
  unfold wp_laws_toCycleSet at h
  refine aw_seq ?_
  refine aw_gh (gh_to (n := 9) (σ' := []) (env' := [(0, .c (.agg [.lst (rows a)]))]) rfl rfl ⟨rfl, trivial⟩) ?_
  refine aw_region ?_
  refine run_w (ws_boxR rfl (.inl rfl) rfl ⟨rfl, ?_⟩)
  refine run_w (ws_alloc (id := 2) rfl (Nat.le_of_ble_eq_true rfl) ⟨rfl, ?_⟩)
  refine run_nil ?_
  refine aw_seq ?_
  refine aw_region ?_
  refine run_w (ws_alloc (id := 3) rfl (Nat.le_of_ble_eq_true rfl) ⟨rfl, ?_⟩)
  refine run_nil ?_
  refine aw_seq ?_
  refine aw_region ?_
  refine run_s (ss_field_ptr rfl) rfl ?_
  refine run_s (ss_load_ptr rfl rfl) rfl ?_
  obtain ⟨q1, h⟩ := h
  refine run_w (ws_call (xs := [.tmp 5]) (ids := [6]) rfl rfl rfl rfl (c_laws_toInt64SS a q1) rfl ?_ )
  rintro _ rfl
  refine ⟨rfl, ?_⟩
  refine run_s (ss_field_cell rfl) rfl ?_
  refine run_w (ws_store rfl rfl (Nat.le_of_ble_eq_true rfl) rfl rfl ⟨rfl, ?_⟩)
  refine run_nil ?_
  refine aw_seq ?_
  refine aw_gh (gh_to (n := 9) (σ' := [(6, ⟨orows a, []⟩), (3, ⟨[.hole], [(0, .ref 6)]⟩), (2, ⟨[cnil], []⟩)]) (env' := [(2, .cell 2 0), (3, .cell 3 0)]) rfl rfl ⟨rfl, rfl, trivial⟩) ?_
  refine aw_region ?_
  refine run_s (ss_loadS rfl rfl rfl rfl) rfl ?_
  refine run_w (ws_storeS rfl rfl (Nat.le_of_ble_eq_true rfl) rfl rfl rfl ⟨rfl, ?_⟩)
  refine run_nil ?_
  refine aw_ret ?_
  exact retAF_mk (retv1 rfl (rv_struct rfl rfl rfl)) rfl rfl ⟨_, (cle_refl _), _, h, rfl⟩

theorem c_laws_toCycleSet (a : List (List Int)) (hp : small2 a) : AF Try.prog 25 [.agg [.lst (rows a)]] (fun r => r = .agg [.own (orows a)]) :=
  (w_laws_toCycleSet a (fun y0 => y0 = a) (p_laws_toCycleSet a hp)).mono (by rintro r ⟨_, rfl, rfl⟩; rfl)

set_option maxHeartbeats 1000000 in
theorem w_laws_szCycleSet (a : List (List Int)) (left : Int) (Q : Int → Prop) (h : wp_laws_szCycleSet a left Q) : AF Try.prog 23 [.agg [.lst (rows a)], ci left] (fun r => ∃ y0, Q y0 ∧ r = ci y0) := by
  refine AF.ofWQ (af_enter (n := 12) Try.func23 rfl (by rfl) rfl (Nat.le_of_ble_eq_true rfl) ?_)
  unfold wp_laws_szCycleSet at h
  refine aw_seq ?_
  refine aw_gh (gh_to (n := 12) (σ' := []) (env' := [(0, .c (.agg [.lst (rows a)])), (1, .c (ci left))]) rfl rfl ⟨rfl, rfl, trivial⟩) ?_
  refine aw_region ?_
  refine run_w (ws_boxR rfl (.inl rfl) rfl ⟨rfl, ?_⟩)
  refine run_s (ss_assign rfl) rfl ?_
  refine run_nil ?_
  refine aw_seq ?_
  refine aw_region ?_
  refine run_s (ss_field_ptr rfl) rfl ?_
  refine run_s (ss_load_ptr rfl rfl) rfl ?_
  refine run_s (ss_move rfl) rfl ?_
  obtain ⟨q1, h⟩ := h
  refine run_w (ws_call (xs := [.tmp 6, .tmp 7]) (ids := []) rfl rfl rfl rfl (c_laws_szInt64SS a left q1) rfl ?_ )
  rintro _ rfl
  refine ⟨rfl, ?_⟩
  refine run_s (ss_assign rfl) rfl ?_
  refine run_nil ?_
  refine aw_seq ?_
  refine aw_seq ?_
  refine aw_gh (gh_to (n := 12) (σ' := []) (env' := [(1, .c (ci (szII a left)))]) rfl rfl ⟨rfl, trivial⟩) ?_
  refine aw_region ?_
  refine run_s (ss_move rfl) rfl ?_
  refine run_s (ss_lss rfl rfl) rfl ?_
  refine run_nil ?_
  refine aw_cond rfl (fun q3 => ?_) (fun q3 => ?_)
  · replace h := h.1 (of_decide_eq_true q3)
    refine aw_seq ?_
    refine aw_region ?_
    refine run_s (ss_assign rfl) rfl ?_
    refine run_nil ?_
    refine aw_ret ?_
    exact retAF_mk (retv1 rfl (rv_tmp rfl)) rfl rfl ⟨_, (cle_refl _), _, h, rfl⟩
  · replace h := h.2 (of_decide_eq_false q3)
    refine aw_skip ?_
    refine aw_seq ?_
    refine aw_region ?_
    refine run_s (ss_move rfl) rfl ?_
    refine run_s (ss_assign rfl) rfl ?_
    refine run_nil ?_
    refine aw_ret ?_
    exact retAF_mk (retv1 rfl (rv_tmp rfl)) rfl rfl ⟨_, (cle_refl _), _, h, rfl⟩

theorem c_laws_szCycleSet (a : List (List Int)) (left : Int) (hp : InS left ∧ huge2 a) : AF Try.prog 23 [.agg [.lst (rows a)], ci left] (fun r => r = ci (szII a left)) :=
  (w_laws_szCycleSet a left (fun y0 => y0 = szII a left) (p_laws_szCycleSet a left hp)).mono (by rintro r ⟨_, rfl, rfl⟩; rfl)

set_option maxHeartbeats 1000000 in
theorem w_laws_eqCycleSet (a : List (List Int)) (b : List (List Int)) (Q : Bool → Prop) (h : wp_laws_eqCycleSet a b Q) : AF Try.prog 27 [.agg [.lst (rows a)], .agg [.lst (rows b)]] (fun r => ∃ y0, Q y0 ∧ r = cb y0) := by
  refine AF.ofWQ (af_enter (n := 11) Try.func27 rfl (by rfl) rfl (Nat.le_of_ble_eq_true rfl) ?_)
  unfold wp_laws_eqCycleSet at h
  refine aw_seq ?_
  refine aw_gh (gh_to (n := 11) (σ' := []) (env' := [(0, .c (.agg [.lst (rows a)])), (1, .c (.agg [.lst (rows b)]))]) rfl rfl ⟨rfl, rfl, trivial⟩) ?_
  refine aw_region ?_
  refine run_w (ws_boxR rfl (.inl rfl) rfl ⟨rfl, ?_⟩)
  refine run_w (ws_boxR rfl (.inl rfl) rfl ⟨rfl, ?_⟩)
  refine run_s (ss_assign rfl) rfl ?_
  refine run_nil ?_
  refine aw_seq ?_
  refine aw_seq ?_
  refine aw_region ?_
  refine run_s (ss_field_ptr rfl) rfl ?_
  refine run_s (ss_load_ptr rfl rfl) rfl ?_
  refine run_s (ss_field_ptr rfl) rfl ?_
  refine run_s (ss_load_ptr rfl rfl) rfl ?_
  obtain ⟨q1, h⟩ := h
  refine run_w (ws_call (xs := [.tmp 6, .tmp 8]) (ids := []) rfl rfl rfl rfl (c_laws_eqInt64SS a b q1) rfl ?_ )
  rintro _ rfl
  refine ⟨rfl, ?_⟩
  refine run_s (ss_not rfl) rfl ?_
  refine run_nil ?_
  refine aw_cond rfl (fun q3 => ?_) (fun q3 => ?_)
  · replace h := h.1 (of_decide_eq_false (bnot_t q3))
    refine aw_seq ?_
    refine aw_gh (gh_to (n := 11) (σ' := []) (env' := [(4, .c (cb false))]) rfl rfl ⟨rfl, trivial⟩) ?_
    refine aw_region ?_
    refine run_s (ss_assign rfl) rfl ?_
    refine run_nil ?_
    refine aw_ret ?_
    exact retAF_mk (retv1 rfl (rv_tmp rfl)) rfl rfl ⟨_, (cle_refl _), _, h, rfl⟩
  · replace h := h.2 (of_decide_eq_true (bnot_f q3))
    refine aw_skip ?_
    refine aw_seq ?_
    refine aw_gh (gh_to (n := 11) (σ' := []) (env' := [(4, .c (cb false))]) rfl rfl ⟨rfl, trivial⟩) ?_
    refine aw_region ?_
    refine run_s (ss_assign rfl) rfl ?_
    refine run_nil ?_
    refine aw_ret ?_
    exact retAF_mk (retv1 rfl (rv_tmp rfl)) rfl rfl ⟨_, (cle_refl _), _, h, rfl⟩

theorem c_laws_eqCycleSet (a : List (List Int)) (b : List (List Int)) (hp : small2 a ∧ small2 b) : AF Try.prog 27 [.agg [.lst (rows a)], .agg [.lst (rows b)]] (fun r => r = cb (decide (a = b))) :=
  (w_laws_eqCycleSet a b (fun y0 => y0 = decide (a = b)) (p_laws_eqCycleSet a b hp)).mono (by rintro r ⟨_, rfl, rfl⟩; rfl)

set_option maxHeartbeats 1000000 in
theorem w_laws_markCycleSet (a : List (List Int)) (k : Int) (Q : Int → List (List Int) → Prop) (h : wp_laws_markCycleSet a k Q) : AM Try.prog 28 [.agg [.own (orows a)], ci k] (fun r o => ∃ y0 w0, Q y0 w0 ∧ r = ci y0 ∧ o = [.agg [.own (orows w0)], ci k]) := by
  refine am_enter (n := 10) (m := 2) Try.func28 rfl (by rfl) rfl rfl (Nat.le_of_ble_eq_true rfl) [800] rfl ?_
  unfold wp_laws_markCycleSet at h
  refine aw_seq ?_
  refine aw_gh (gh_to (n := 10) (σ' := [(800, ⟨orows a, []⟩)]) (env' := [(0, .agg [.ref 800]), (1, .c (ci k)), (10, .agg [.ref 800]), (11, .c (ci k))]) rfl rfl ⟨rfl, rfl, rfl, rfl, trivial⟩) ?_
  refine aw_region ?_
  refine run_w (ws_boxS (id := 2) rfl rfl rfl (Nat.le_of_ble_eq_true rfl) rfl ⟨rfl, ?_⟩)
  refine run_s (ss_assign rfl) rfl ?_
  refine run_nil ?_
  refine aw_seq ?_
  refine aw_region ?_
  refine run_s (ss_field_cell rfl) rfl ?_
  refine run_s (ss_loadH rfl rfl rfl rfl) rfl ?_
  refine run_s (ss_move rfl) rfl ?_
  obtain ⟨q1, h⟩ := h
  refine run_w (ws_callM (xs := [.tmp 6, .tmp 7]) (cs := [.own (orows a), ci k]) (ids := []) rfl (.inr ⟨rfl, rfl⟩) rfl rfl rfl (c_laws_markInt64SS a k q1) rfl ?_ )
  rintro _ _ ⟨rfl, rfl⟩
  refine ⟨rfl, rfl, ?_⟩
  refine run_s (ss_assign rfl) rfl ?_
  refine run_nil ?_
  refine aw_seq ?_
  refine aw_gh (gh_to (n := 10) (σ' := [(2, ⟨[.hole], [(0, .ref 800)]⟩), (800, ⟨orows (mkII k a), []⟩)]) (env' := [(1, .c (ci (k + tot a))), (4, .c (ci 0)), (10, .agg [.ref 800]), (11, .c (ci k))]) rfl rfl ⟨rfl, rfl, rfl, rfl, trivial⟩) ?_
  refine aw_region ?_
  refine run_s (ss_move rfl) rfl ?_
  refine run_s (ss_assign rfl) rfl ?_
  refine run_nil ?_
  refine aw_ret ?_
  exact retAM_mk (retv1 rfl (rv_tmp rfl)) rfl rfl rfl ⟨_, _, h, rfl, rfl⟩

theorem c_laws_markCycleSet (a : List (List Int)) (k : Int) (hp : small2 a ∧ okKT k a) : AM Try.prog 28 [.agg [.own (orows a)], ci k] (fun r o => r = ci (k + tot a) ∧ o = [.agg [.own (orows (mkII k a))], ci k]) :=
  (w_laws_markCycleSet a k (fun y0 w0 => y0 = k + tot a ∧ w0 = mkII k a) (p_laws_markCycleSet a k hp)).mono (by rintro r o ⟨_, _, ⟨rfl, rfl⟩, rfl, rfl⟩; exact ⟨rfl, rfl⟩)

set_option maxHeartbeats 1000000 in
theorem w_k_IndexFunc_rows (t : List (List Int)) (f_g : Nat) (f_c : List C) (f : List Int → Bool) (f_D : List Int → Prop) (f_h : ∀ x0, f_D x0 → AF Try.prog f_g ([.lst (ints x0)] ++ f_c) (fun r => r = cb (f x0))) (Q : Int → Prop) (h : wp_k_IndexFunc_rows t f f_D Q) : AF Try.prog 65 [.lst (rows t), .clo f_g f_c] (fun r => ∃ y0, Q y0 ∧ r = ci y0) := by
  refine AF.ofWQ (af_enter (n := 19) Try.func65 rfl (by rfl) rfl (Nat.le_of_ble_eq_true rfl) ?_)
  unfold wp_k_IndexFunc_rows at h
  refine aw_seq ?_
  refine aw_gh (gh_to (n := 19) (σ' := []) (env' := [(0, .c (.lst (rows t))), (1, .c (.clo f_g f_c))]) rfl rfl ⟨rfl, rfl, trivial⟩) ?_
  refine aw_region ?_
  refine run_s (ss_assign rfl) rfl ?_
  refine run_nil ?_
  refine aw_seq ?_
  refine aw_seq ?_
  refine aw_region ?_
  refine run_s (ss_move rfl) rfl ?_
  refine run_s (ss_lenL (f := (fun r => C.lst (ints r))) rfl) rfl ?_
  refine run_s (ss_move rfl) rfl ?_
  refine run_nil ?_
  refine aw_block ?_
  obtain ⟨H1, m1, q1, h⟩ := h
  refine aw_loop1 (fun (v8 : Int) => ⟨[], [(0, .c (.lst (rows t))), (1, .c (.clo f_g f_c)), (7, .c (ci (t.length : Int))), (8, .c (ci v8))], 19⟩) H1 m1 ⟨0, ghe_to (n := 19) rfl rfl ⟨rfl, rfl, rfl, rfl, trivial⟩, q1⟩ ?_
  rintro v8 q1
  replace h := h v8 q1
  refine aw_seq ?_
  refine aw_region ?_
  refine run_s (ss_lss rfl rfl) rfl ?_
  refine run_nil ?_
  refine aw_seq ?_
  refine aw_cond rfl (fun q2 => ?_) (fun q2 => ?_)
  · replace h := h.1 (of_decide_eq_true q2)
    refine aw_skip ?_
    refine aw_seq ?_
    refine aw_block ?_
    refine aw_seq ?_
    refine aw_region ?_
    refine run_s (ss_move rfl) rfl ?_
    refine run_s (ss_assign rfl) rfl ?_
    refine run_nil ?_
    refine aw_seq ?_
    refine aw_region ?_
    refine run_s (ss_move rfl) rfl ?_
    refine run_s (ss_move rfl) rfl ?_
    refine run_s (ss_move rfl) rfl ?_
    obtain ⟨q3, h⟩ := h
    refine run_s (ss_idxL rfl rfl q3) rfl ?_
    refine run_s (ss_loadL (f := (fun r => C.lst (ints r))) rfl q3) rfl ?_
    obtain ⟨q4, h⟩ := h
    refine run_w (ws_call (xs := [.tmp 15]) (ids := []) rfl rfl rfl rfl (f_h (el t v8) q4) rfl ?_ )
    rintro _ rfl
    refine ⟨rfl, ?_⟩
    refine run_nil ?_
    refine aw_cond rfl (fun q5 => ?_) (fun q5 => ?_)
    · replace h := h.1 (q5)
      refine aw_seq ?_
      refine aw_gh (gh_to (n := 19) (σ' := []) (env' := [(5, .c (ci v8))]) rfl rfl ⟨rfl, trivial⟩) ?_
      refine aw_region ?_
      refine run_s (ss_move rfl) rfl ?_
      refine run_s (ss_assign rfl) rfl ?_
      refine run_nil ?_
      refine aw_ret ?_
      exact retAF_mk (retv1 rfl (rv_tmp rfl)) rfl rfl ⟨_, (cle_refl _), _, h, rfl⟩
    · replace h := h.2 (q5)
      refine aw_skip ?_
      refine aw_gh (gh_to (n := 19) (σ' := []) (env' := [(0, .c (.lst (rows t))), (1, .c (.clo f_g f_c)), (7, .c (ci (t.length : Int))), (8, .c (ci v8))]) rfl rfl ⟨rfl, rfl, rfl, rfl, trivial⟩) ?_
      refine aw_region ?_
      obtain ⟨q6, h⟩ := h
      refine run_s (ss_add rfl rfl q6) rfl ?_
      refine run_s (ss_move rfl) rfl ?_
      refine run_nil ?_
      exact ⟨v8 + 1, ghe_to (n := 19) rfl rfl ⟨rfl, rfl, rfl, rfl, trivial⟩, h.1, h.2⟩
  · replace h := h.2 (of_decide_eq_false q2)
    refine aw_exit ?_
    refine aw_seq ?_
    refine aw_gh (gh_to (n := 19) (σ' := []) (env' := []) rfl rfl trivial) ?_
    refine aw_region ?_
    refine run_s (ss_assign rfl) rfl ?_
    refine run_nil ?_
    refine aw_ret ?_
    exact retAF_mk (retv1 rfl (rv_tmp rfl)) rfl rfl ⟨_, (cle_refl _), _, h, rfl⟩

theorem c_k_IndexFunc_rows (t : List (List Int)) (f_g : Nat) (f_c : List C) (f : List Int → Bool) (f_D : List Int → Prop) (f_h : ∀ x0, f_D x0 → AF Try.prog f_g ([.lst (ints x0)] ++ f_c) (fun r => r = cb (f x0))) (hp : small t ∧ ∀ r ∈ t, f_D r) : AF Try.prog 65 [.lst (rows t), .clo f_g f_c] (fun r => r = ci (idxF t f)) :=
  (w_k_IndexFunc_rows t f_g f_c f f_D f_h (fun y0 => y0 = idxF t f) (p_k_IndexFunc_rows t f f_D hp)).mono (by rintro r ⟨_, rfl, rfl⟩; rfl)

set_option maxHeartbeats 1000000 in
theorem w_k_ContainsFunc_rows (t : List (List Int)) (f_g : Nat) (f_c : List C) (f : List Int → Bool) (f_D : List Int → Prop) (f_h : ∀ x0, f_D x0 → AF Try.prog f_g ([.lst (ints x0)] ++ f_c) (fun r => r = cb (f x0))) (Q : Bool → Prop) (h : wp_k_ContainsFunc_rows t f f_D Q) : AF Try.prog 61 [.lst (rows t), .clo f_g f_c] (fun r => ∃ y0, Q y0 ∧ r = cb y0) := by
  refine AF.ofWQ (af_enter (n := 9) Try.func61 rfl (by rfl) rfl (Nat.le_of_ble_eq_true rfl) ?_)
  unfold wp_k_ContainsFunc_rows at h
  refine aw_seq ?_
  refine aw_gh (gh_to (n := 9) (σ' := []) (env' := [(0, .c (.lst (rows t))), (1, .c (.clo f_g f_c))]) rfl rfl ⟨rfl, rfl, trivial⟩) ?_
  refine aw_region ?_
  refine run_s (ss_assign rfl) rfl ?_
  refine run_nil ?_
  refine aw_seq ?_
  refine aw_region ?_
  refine run_s (ss_move rfl) rfl ?_
  refine run_s (ss_move rfl) rfl ?_
  obtain ⟨q1, h⟩ := h
  refine run_w (ws_call (xs := [.tmp 5, .tmp 6]) (ids := []) rfl rfl rfl rfl (c_k_IndexFunc_rows t f_g f_c f f_D f_h q1) rfl ?_ )
  rintro _ rfl
  refine ⟨rfl, ?_⟩
  refine run_s (ss_geq rfl rfl) rfl ?_
  refine run_s (ss_assign rfl) rfl ?_
  refine run_nil ?_
  refine aw_ret ?_
  exact retAF_mk (retv1 rfl (rv_tmp rfl)) rfl rfl ⟨_, (cle_refl _), _, h, rfl⟩

theorem c_k_ContainsFunc_rows (t : List (List Int)) (f_g : Nat) (f_c : List C) (f : List Int → Bool) (f_D : List Int → Prop) (f_h : ∀ x0, f_D x0 → AF Try.prog f_g ([.lst (ints x0)] ++ f_c) (fun r => r = cb (f x0))) (hp : small t ∧ ∀ r ∈ t, f_D r) : AF Try.prog 61 [.lst (rows t), .clo f_g f_c] (fun r => r = cb (t.any f)) :=
  (w_k_ContainsFunc_rows t f_g f_c f f_D f_h (fun y0 => y0 = t.any f) (p_k_ContainsFunc_rows t f f_D hp)).mono (by rintro r ⟨_, rfl, rfl⟩; rfl)

set_option maxHeartbeats 1000000 in
theorem w_impl_IsTable_1 (row : List Int) (n : Int) (Q : Bool → Prop) (h : wp_impl_IsTable_1 row n Q) : AF Try.prog 62 [.lst (ints row), .ptr [ci n]] (fun r => ∃ y0, Q y0 ∧ r = cb y0) := by
  refine AF.ofWQ (af_enter (n := 15) Try.func62 rfl (by rfl) rfl (Nat.le_of_ble_eq_true rfl) ?_)
  unfold wp_impl_IsTable_1 at h
  refine aw_seq ?_
  refine aw_gh (gh_to (n := 15) (σ' := []) (env' := [(0, .c (.lst (ints row))), (1, .c (.ptr [ci n]))]) rfl rfl ⟨rfl, rfl, trivial⟩) ?_
  refine aw_region ?_
  refine run_s (ss_assign rfl) rfl ?_
  refine run_nil ?_
  refine aw_seq ?_
  refine aw_region ?_
  refine run_s (ss_move rfl) rfl ?_
  refine run_s (ss_lenL (f := ci) rfl) rfl ?_
  refine run_s (ss_load_ptr rfl rfl) rfl ?_
  refine run_s (ss_neq rfl rfl) rfl ?_
  refine run_s (ss_move rfl) rfl ?_
  refine run_split (s := 8) rfl (fun q1 => ?_) (fun q1 => ?_)
  · replace h := h.1 (of_decide_eq_false (bnot_t q1))
    refine run_gf rfl rfl q1 rfl ?_
    refine run_gf rfl rfl q1 rfl ?_
    refine run_gf rfl rfl q1 rfl ?_
    refine run_gf rfl rfl q1 rfl ?_
    refine run_gf rfl rfl q1 rfl ?_
    refine run_s (ss_pickT rfl q1 rfl) rfl ?_
    refine run_s (ss_assign rfl) rfl ?_
    refine run_nil ?_
    refine aw_ret ?_
    exact retAF_mk (retv1 rfl (rv_tmp rfl)) rfl rfl ⟨_, (cle_refl _), _, h, rfl⟩
  · replace h := h.2 (of_decide_eq_true (bnot_f q1))
    refine run_gt rfl rfl q1 ?_
    refine run_s (ss_move rfl) rfl ?_
    refine run_gt rfl rfl q1 ?_
    refine run_s (ss_load_ptr rfl rfl) rfl ?_
    refine run_gt rfl rfl q1 ?_
    obtain ⟨q2, h⟩ := h
    refine run_s (ss_sub rfl rfl q2) rfl ?_
    refine run_gt rfl rfl q1 ?_
    obtain ⟨q3, h⟩ := h
    refine run_w (ws_call (xs := [.tmp 9, .const (.int .i64 (0)), .tmp 11]) (ids := []) rfl rfl rfl rfl (c_impl_allWithin row 0 (n - 1) q3) rfl ?_ )
    rintro _ rfl
    refine ⟨rfl, ?_⟩
    refine run_gt rfl rfl q1 ?_
    refine run_s (ss_not rfl) rfl ?_
    refine run_s (ss_pickF rfl q1 rfl) rfl ?_
    refine run_s (ss_assign rfl) rfl ?_
    refine run_nil ?_
    refine aw_ret ?_
    exact retAF_mk (retv1 rfl (rv_tmp rfl)) rfl rfl ⟨_, (cle_refl _), _, h, rfl⟩

theorem c_impl_IsTable_1 (row : List Int) (n : Int) (hp : small row ∧ 0 ≤ n ∧ n ≤ 12) : AF Try.prog 62 [.lst (ints row), .ptr [ci n]] (fun r => r = cb (badRow n row)) :=
  (w_impl_IsTable_1 row n (fun y0 => y0 = badRow n row) (p_impl_IsTable_1 row n hp)).mono (by rintro r ⟨_, rfl, rfl⟩; rfl)

set_option maxHeartbeats 1000000 in
theorem w_impl_IsTable (t : List (List Int)) (Q : Bool → Prop) (h : wp_impl_IsTable t Q) : AF Try.prog 52 [.lst (rows t)] (fun r => ∃ y0, Q y0 ∧ r = cb y0) := by
  refine AF.ofWQ (af_enter (n := 14) Try.func52 rfl (by rfl) rfl (Nat.le_of_ble_eq_true rfl) ?_)
  unfold wp_impl_IsTable at h
  refine aw_seq ?_
  refine aw_gh (gh_to (n := 14) (σ' := []) (env' := [(0, .c (.lst (rows t)))]) rfl rfl ⟨rfl, trivial⟩) ?_
  refine aw_region ?_
  refine run_s (ss_assign rfl) rfl ?_
  refine run_nil ?_
  refine aw_seq ?_
  refine aw_region ?_
  refine run_s (ss_move rfl) rfl ?_
  refine run_s (ss_lenL (f := (fun r => C.lst (ints r))) rfl) rfl ?_
  refine run_w (ws_alloc (id := 3) rfl (Nat.le_of_ble_eq_true rfl) ⟨rfl, ?_⟩)
  refine run_w (ws_store rfl rfl (Nat.le_of_ble_eq_true rfl) rfl rfl ⟨rfl, ?_⟩)
  refine run_nil ?_
  refine aw_seq ?_
  refine aw_region ?_
  refine run_s (ss_loadC rfl rfl rfl rfl rfl) rfl ?_
  refine run_w (ws_call (xs := [.tmp 6, .const (.int .i64 (1)), .const (.int .i64 (12))]) (ids := []) rfl rfl rfl rfl (c_impl_within (t.length : Int) 1 12) rfl ?_ )
  rintro _ rfl
  refine ⟨rfl, ?_⟩
  refine run_s (ss_move rfl) rfl ?_
  refine run_split (s := 8) rfl (fun q2 => ?_) (fun q2 => ?_)
  · replace h := h.1 (q2)
    refine run_gt rfl rfl q2 ?_
    refine run_s (ss_move rfl) rfl ?_
    refine run_gt rfl rfl q2 ?_
    refine run_gh (gh_freeze (id := 3) rfl rfl) ?_
    refine run_s (ss_makeFunc (os := [.tmp 3]) rfl) rfl ?_
    refine run_gt rfl rfl q2 ?_
    obtain ⟨q3, h⟩ := h
    refine run_w (ws_call (xs := [.tmp 9, .tmp 10]) (ids := []) rfl rfl rfl rfl (c_k_ContainsFunc_rows t 62 [.ptr [ci (t.length : Int)]] (fun z0 => badRow (t.length : Int) z0) (fun z0 => small z0 ∧ 0 ≤ (t.length : Int) ∧ (t.length : Int) ≤ 12) (fun z0 hD => c_impl_IsTable_1 z0 (t.length : Int) hD) q3) rfl ?_ )
    rintro _ rfl
    refine ⟨rfl, ?_⟩
    refine run_gt rfl rfl q2 ?_
    refine run_s (ss_not rfl) rfl ?_
    refine run_s (ss_pickT rfl q2 rfl) rfl ?_
    refine run_s (ss_assign rfl) rfl ?_
    refine run_nil ?_
    refine aw_ret ?_
    exact retAF_mk (retv1 rfl (rv_tmp rfl)) rfl rfl ⟨_, (cle_refl _), _, h, rfl⟩
  · replace h := h.2 (q2)
    refine run_gf rfl rfl q2 rfl ?_
    refine run_gf rfl rfl q2 rfl ?_
    refine run_gf rfl rfl q2 rfl ?_
    refine run_gf rfl rfl q2 rfl ?_
    refine run_s (ss_pickF rfl q2 rfl) rfl ?_
    refine run_s (ss_assign rfl) rfl ?_
    refine run_nil ?_
    refine aw_ret ?_
    exact retAF_mk (retv1 rfl (rv_tmp rfl)) rfl rfl ⟨_, (cle_refl _), _, h, rfl⟩

theorem c_impl_IsTable (t : List (List Int)) (hp : small2 t) : AF Try.prog 52 [.lst (rows t)] (fun r => r = cb (isTab t)) :=
  (w_impl_IsTable t (fun y0 => y0 = isTab t) (p_impl_IsTable t hp)).mono (by rintro r ⟨_, rfl, rfl⟩; rfl)

set_option maxHeartbeats 1000000 in
theorem w_impl_squaresOf (c : List (List Int)) (Q : List Int → Prop) (h : wp_impl_squaresOf c Q) : AF Try.prog 53 [.agg [.lst (rows c)]] (fun r => ∃ y0, Q y0 ∧ r = .own (ints y0)) := by
  refine AF.ofWQ (af_enter (n := 27) Try.func53 rfl (by rfl) rfl (Nat.le_of_ble_eq_true rfl) ?_)
  unfold wp_impl_squaresOf at h
  refine aw_seq ?_
  refine aw_gh (gh_to (n := 27) (σ' := []) (env' := [(0, .c (.agg [.lst (rows c)]))]) rfl rfl ⟨rfl, trivial⟩) ?_
  refine aw_region ?_
  refine run_w (ws_boxR rfl (.inl rfl) rfl ⟨rfl, ?_⟩)
  refine run_s (ss_assign rfl) rfl ?_
  refine run_nil ?_
  refine aw_seq ?_
  refine aw_region ?_
  refine run_s (ss_field_ptr rfl) rfl ?_
  refine run_s (ss_load_ptr rfl rfl) rfl ?_
  refine run_s (ss_lenL (f := (fun r => C.lst (ints r))) rfl) rfl ?_
  obtain ⟨q1, h⟩ := h
  refine run_w (ws_mk (id := 8) ci (0 : Int) rfl rfl rfl q1 (Nat.le_of_ble_eq_true rfl) rfl ⟨rfl, ?_⟩)
  refine run_s (ss_assign rfl) rfl ?_
  refine run_nil ?_
  refine aw_seq ?_
  refine aw_seq ?_
  refine aw_gh (gh_to (n := 27) (σ' := [(8, ⟨ints (List.replicate (c.length : Int).toNat (0 : Int)), []⟩)]) (env' := [(1, .c (.ptr [.lst (rows c)])), (3, .ref 8)]) rfl rfl ⟨rfl, rfl, trivial⟩) ?_
  refine aw_region ?_
  refine run_s (ss_move rfl) rfl ?_
  refine run_s (ss_lenR (f := ci) rfl rfl) rfl ?_
  refine run_s (ss_move rfl) rfl ?_
  refine run_nil ?_
  refine aw_block ?_
  obtain ⟨H1, m1, q2, h⟩ := h
  refine aw_loop2 (fun (v11 : Int) (o8 : List Int) => ⟨[(8, ⟨ints o8, []⟩)], [(1, .c (.ptr [.lst (rows c)])), (3, .ref 8), (10, .c (ci ((List.replicate (c.length : Int).toNat (0 : Int)).length : Int))), (11, .c (ci v11))], 27⟩) H1 m1 ⟨0, List.replicate (c.length : Int).toNat (0 : Int), ghe_to (n := 27) rfl rfl ⟨rfl, rfl, rfl, rfl, trivial⟩, q2⟩ ?_
  rintro v11 o8 q2
  replace h := h v11 o8 q2
  refine aw_seq ?_
  refine aw_region ?_
  refine run_s (ss_lss rfl rfl) rfl ?_
  refine run_nil ?_
  refine aw_seq ?_
  refine aw_cond rfl (fun q3 => ?_) (fun q3 => ?_)
  · replace h := h.1 (of_decide_eq_true q3)
    refine aw_skip ?_
    refine aw_seq ?_
    refine aw_block ?_
    refine aw_seq ?_
    refine aw_region ?_
    refine run_s (ss_move rfl) rfl ?_
    refine run_s (ss_assign rfl) rfl ?_
    refine run_nil ?_
    refine aw_region ?_
    refine run_s (ss_move rfl) rfl ?_
    refine run_s (ss_move rfl) rfl ?_
    refine run_s (ss_field_ptr rfl) rfl ?_
    refine run_s (ss_load_ptr rfl rfl) rfl ?_
    refine run_s (ss_move rfl) rfl ?_
    obtain ⟨q4, h⟩ := h
    refine run_s (ss_idxL rfl rfl q4) rfl ?_
    refine run_s (ss_loadL (f := (fun r => C.lst (ints r))) rfl q4) rfl ?_
    refine run_s (ss_move rfl) rfl ?_
    obtain ⟨q5, h⟩ := h
    refine run_s (ss_idxL rfl rfl q5) rfl ?_
    refine run_s (ss_loadL (f := ci) rfl q5) rfl ?_
    obtain ⟨q6, h⟩ := h
    refine run_s (ss_idxR (f := ci) rfl rfl rfl q6) rfl ?_
    refine run_w (ws_storeE rfl rfl (map_lt q6) rfl rfl (map_se (f := ci)) rfl ⟨rfl, ?_⟩)
    refine run_nil ?_
    refine aw_gh (gh_to (n := 27) (σ' := [(8, ⟨ints (se o8 v11 (el (el c v11) v11)), []⟩)]) (env' := [(1, .c (.ptr [.lst (rows c)])), (3, .ref 8), (10, .c (ci ((List.replicate (c.length : Int).toNat (0 : Int)).length : Int))), (11, .c (ci v11))]) rfl rfl ⟨rfl, rfl, rfl, rfl, trivial⟩) ?_
    refine aw_region ?_
    obtain ⟨q7, h⟩ := h
    refine run_s (ss_add rfl rfl q7) rfl ?_
    refine run_s (ss_move rfl) rfl ?_
    refine run_nil ?_
    exact ⟨v11 + 1, se o8 v11 (el (el c v11) v11), ghe_to (n := 27) rfl rfl ⟨rfl, rfl, rfl, rfl, trivial⟩, h.1, h.2⟩
  · replace h := h.2 (of_decide_eq_false q3)
    refine aw_exit ?_
    refine aw_seq ?_
    refine aw_region ?_
    refine run_s (ss_move rfl) rfl ?_
    refine run_s (ss_assign rfl) rfl ?_
    refine run_nil ?_
    refine aw_ret ?_
    exact retAF_mk (retv1 rfl (rv_tmp rfl)) rfl rfl ⟨_, (cle_refl _), _, h, rfl⟩

theorem c_impl_squaresOf (c : List (List Int)) (hp : isTab c = true) : AF Try.prog 53 [.agg [.lst (rows c)]] (fun r => r = .own (ints (diag c))) :=
  (w_impl_squaresOf c (fun y0 => y0 = diag c) (p_impl_squaresOf c hp)).mono (by rintro r ⟨_, rfl, rfl⟩; rfl)

set_option maxHeartbeats 1000000 in
theorem w_impl_tableBy (n : Int) (value_g : Nat) (value_c : List C) (value : Int → Int → Int) (value_D : Int → Int → Prop) (value_h : ∀ x0 x1, value_D x0 x1 → AF Try.prog value_g ([ci x0, ci x1] ++ value_c) (fun r => r = ci (value x0 x1))) (Q : List (List Int) → Prop) (h : wp_impl_tableBy n value value_D Q) : AF Try.prog 56 [ci n, .clo value_g value_c] (fun r => ∃ y0, Q y0 ∧ r = .own (orows y0)) := by
  refine AF.ofWQ (af_enter (n := 41) Try.func56 rfl (by rfl) rfl (Nat.le_of_ble_eq_true rfl) ?_)
  unfold wp_impl_tableBy at h
  refine aw_seq ?_
  refine aw_gh (gh_to (n := 41) (σ' := []) (env' := [(0, .c (ci n)), (1, .c (.clo value_g value_c))]) rfl rfl ⟨rfl, rfl, trivial⟩) ?_
  refine aw_region ?_
  refine run_s (ss_assign rfl) rfl ?_
  refine run_nil ?_
  refine aw_seq ?_
  refine aw_region ?_
  refine run_s (ss_move rfl) rfl ?_
  obtain ⟨q1, h⟩ := h
  refine run_w (ws_makeSlice (id := 9) rfl rfl q1 (Nat.le_of_ble_eq_true rfl) rfl ⟨rfl, ?_⟩)
  refine run_gh (gh_weakR (id := 9) (f := (fun r => C.own (ints r))) rfl cle_nilO) ?_
  refine run_s (ss_assign rfl) rfl ?_
  refine run_nil ?_
  refine aw_seq ?_
  refine aw_seq ?_
  refine aw_region ?_
  refine run_s (ss_move rfl) rfl ?_
  refine run_s (ss_lenR (f := (fun r => C.own (ints r))) rfl rfl) rfl ?_
  refine run_s (ss_move rfl) rfl ?_
  refine run_nil ?_
  refine aw_block ?_
  obtain ⟨H1, m1, q2, h⟩ := h
  refine aw_loop2 (fun (v12 : Int) (o9 : List (List Int)) => ⟨[(9, ⟨orows o9, []⟩)], [(0, .c (ci n)), (1, .c (.clo value_g value_c)), (5, .ref 9), (11, .c (ci ((List.replicate n.toNat ([] : List Int)).length : Int))), (12, .c (ci v12))], 41⟩) H1 m1 ⟨0, List.replicate n.toNat ([] : List Int), ghe_to (n := 41) rfl rfl ⟨rfl, rfl, rfl, rfl, rfl, trivial⟩, q2⟩ ?_
  rintro v12 o9 q2
  replace h := h v12 o9 q2
  refine aw_seq ?_
  refine aw_region ?_
  refine run_s (ss_lss rfl rfl) rfl ?_
  refine run_nil ?_
  refine aw_seq ?_
  refine aw_cond rfl (fun q3 => ?_) (fun q3 => ?_)
  · replace h := h.1 (of_decide_eq_true q3)
    refine aw_skip ?_
    refine aw_seq ?_
    refine aw_block ?_
    refine aw_seq ?_
    refine aw_region ?_
    refine run_s (ss_move rfl) rfl ?_
    refine run_s (ss_assign rfl) rfl ?_
    refine run_nil ?_
    refine aw_seq ?_
    refine aw_region ?_
    refine run_s (ss_move rfl) rfl ?_
    refine run_s (ss_move rfl) rfl ?_
    refine run_s (ss_move rfl) rfl ?_
    obtain ⟨q4, h⟩ := h
    refine run_w (ws_mk (id := 18) ci (0 : Int) rfl rfl rfl q4 (Nat.le_of_ble_eq_true rfl) rfl ⟨rfl, ?_⟩)
    obtain ⟨q5, h⟩ := h
    refine run_s (ss_idxR (f := (fun r => C.own (ints r))) rfl rfl rfl q5) rfl ?_
    refine run_w (ws_storeV rfl rfl (map_lt q5) rfl rfl rfl rfl ⟨rfl, ?_⟩)
    refine run_nil ?_
    refine aw_seq ?_
    refine aw_region ?_
    refine run_s (ss_move rfl) rfl ?_
    refine run_s (ss_move rfl) rfl ?_
    obtain ⟨q6, h⟩ := h
    refine run_s (ss_indexAddr_ref rfl rfl rfl (set_bd (f := (fun r => C.own (ints r))) q6)) rfl ?_
    refine run_s (ss_loadH rfl rfl lk_self rfl) rfl ?_
    refine run_s (ss_lenR (f := ci) rfl rfl) rfl ?_
    refine run_s (ss_move rfl) rfl ?_
    refine run_nil ?_
    refine aw_block ?_
    obtain ⟨H2, m2, q7, h⟩ := h
    refine aw_loop2 (fun (v25 : Int) (o18 : List Int) => ⟨[(18, ⟨ints o18, []⟩), (9, ⟨(orows o9).set v12.toNat .hole, [(v12.toNat, .ref 18)]⟩)], [(0, .c (ci n)), (1, .c (.clo value_g value_c)), (5, .ref 9), (6, .c (ci v12)), (11, .c (ci ((List.replicate n.toNat ([] : List Int)).length : Int))), (12, .c (ci v12)), (24, .c (ci ((List.replicate n.toNat (0 : Int)).length : Int))), (25, .c (ci v25))], 41⟩) H2 m2 ⟨0, List.replicate n.toNat (0 : Int), ghe_to (n := 41) rfl rfl ⟨rfl, rfl, rfl, rfl, rfl, rfl, rfl, rfl, trivial⟩, q7⟩ ?_
    rintro v25 o18 q7
    replace h := h v25 o18 q7
    refine aw_seq ?_
    refine aw_region ?_
    refine run_s (ss_lss rfl rfl) rfl ?_
    refine run_nil ?_
    refine aw_seq ?_
    refine aw_cond rfl (fun q8 => ?_) (fun q8 => ?_)
    · replace h := h.1 (of_decide_eq_true q8)
      refine aw_skip ?_
      refine aw_seq ?_
      refine aw_block ?_
      refine aw_seq ?_
      refine aw_region ?_
      refine run_s (ss_move rfl) rfl ?_
      refine run_s (ss_assign rfl) rfl ?_
      refine run_nil ?_
      refine aw_gh (gh_to (n := 41) (σ' := [(18, ⟨ints o18, []⟩), (9, ⟨(orows o9).set v12.toNat .hole, [(v12.toNat, .ref 18)]⟩)]) (env' := [(0, .c (ci n)), (1, .c (.clo value_g value_c)), (5, .ref 9), (6, .c (ci v12)), (7, .c (ci v25)), (11, .c (ci ((List.replicate n.toNat ([] : List Int)).length : Int))), (12, .c (ci v12)), (24, .c (ci ((List.replicate n.toNat (0 : Int)).length : Int))), (25, .c (ci v25))]) rfl rfl ⟨rfl, rfl, rfl, rfl, rfl, rfl, rfl, rfl, rfl, trivial⟩) ?_
      refine aw_regionD (kd := kdl [0, 0, 0, 1, 0, 0, 0, 0, 2, 0, 3]) (ord := [0, 1, 2, 4, 5, 6, 7, 3, 8, 9, 10]) [] mixed (by kernel_rfl) ?_
      refine rd_s rfl rfl trivial (ss_move rfl) rfl ?_
      refine rd_s rfl rfl trivial (ss_move rfl) rfl ?_
      obtain ⟨q9, h⟩ := h
      refine rd_s rfl rfl trivial (ss_indexAddr_ref rfl rfl rfl (set_bd (f := (fun r => C.own (ints r))) q9)) rfl ?_
      refine rd_s rfl rfl trivial (ss_move rfl) rfl ?_
      refine rd_s rfl rfl trivial (ss_move rfl) rfl ?_
      refine rd_s rfl rfl trivial (ss_move rfl) rfl ?_
      refine rd_s rfl rfl trivial (ss_move rfl) rfl ?_
      refine rd_l rfl rfl trivial (ss_loadH rfl rfl lk_self rfl) rfl ?_
      obtain ⟨q10, h⟩ := h
      refine rd_w rfl rfl trivial rfl rfl (ws_call (xs := [.tmp 34, .tmp 35]) (ids := []) rfl rfl rfl rfl (value_h v12 v25 q10) rfl ?_ )
      rintro _ rfl
      refine ⟨rfl, ?_⟩
      obtain ⟨q11, h⟩ := h
      refine rd_s rfl rfl trivial (ss_idxR (f := ci) rfl rfl rfl q11) rfl ?_
      refine rd_f rfl rfl trivial (ws_storeE rfl rfl (map_lt q11) rfl rfl (map_se (f := ci)) rfl ⟨rfl, ?_⟩)
      refine rd_nil ?_
      refine aw_gh (gh_to (n := 41) (σ' := [(18, ⟨ints (se o18 v25 (value v12 v25)), []⟩), (9, ⟨(orows o9).set v12.toNat .hole, [(v12.toNat, .ref 18)]⟩)]) (env' := [(0, .c (ci n)), (1, .c (.clo value_g value_c)), (5, .ref 9), (6, .c (ci v12)), (11, .c (ci ((List.replicate n.toNat ([] : List Int)).length : Int))), (12, .c (ci v12)), (24, .c (ci ((List.replicate n.toNat (0 : Int)).length : Int))), (25, .c (ci v25))]) rfl rfl ⟨rfl, rfl, rfl, rfl, rfl, rfl, rfl, rfl, trivial⟩) ?_
      refine aw_region ?_
      obtain ⟨q12, h⟩ := h
      refine run_s (ss_add rfl rfl q12) rfl ?_
      refine run_s (ss_move rfl) rfl ?_
      refine run_nil ?_
      exact ⟨v25 + 1, se o18 v25 (value v12 v25), ghe_to (n := 41) rfl rfl ⟨rfl, rfl, rfl, rfl, rfl, rfl, rfl, rfl, trivial⟩, h.1, h.2⟩
    · replace h := h.2 (of_decide_eq_false q8)
      refine aw_exit ?_
      refine aw_gh (gh_to (n := 41) (σ' := [(18, ⟨ints o18, []⟩), (9, ⟨(orows o9).set v12.toNat .hole, [(v12.toNat, .ref 18)]⟩)]) (env' := [(0, .c (ci n)), (1, .c (.clo value_g value_c)), (5, .ref 9), (11, .c (ci ((List.replicate n.toNat ([] : List Int)).length : Int))), (12, .c (ci v12))]) rfl rfl ⟨rfl, rfl, rfl, rfl, rfl, trivial⟩) ?_
      refine aw_region ?_
      obtain ⟨q13, h⟩ := h
      refine run_s (ss_add rfl rfl q13) rfl ?_
      refine run_s (ss_move rfl) rfl ?_
      refine run_nil ?_
      obtain ⟨q14, h⟩ := h
      exact ⟨v12 + 1, se o9 v12 o18, ghe_step (gh_fillA (id := 9) (id2 := 18) (f := (fun r => C.own (ints r))) (v := o18) rfl lk_self rfl q14 rfl rfl kr_self) (ghe_to (n := 41) rfl rfl ⟨rfl, rfl, rfl, rfl, rfl, trivial⟩), h.1, h.2⟩
  · replace h := h.2 (of_decide_eq_false q3)
    refine aw_exit ?_
    refine aw_seq ?_
    refine aw_gh (gh_to (n := 41) (σ' := [(9, ⟨orows o9, []⟩)]) (env' := [(5, .ref 9)]) rfl rfl ⟨rfl, trivial⟩) ?_
    refine aw_region ?_
    refine run_s (ss_move rfl) rfl ?_
    refine run_s (ss_assign rfl) rfl ?_
    refine run_nil ?_
    refine aw_ret ?_
    exact retAF_mk (retv1 rfl (rv_tmp rfl)) rfl rfl ⟨_, (cle_refl _), _, h, rfl⟩

theorem c_impl_tableBy (n : Int) (value_g : Nat) (value_c : List C) (value : Int → Int → Int) (value_D : Int → Int → Prop) (value_h : ∀ x0 x1, value_D x0 x1 → AF Try.prog value_g ([ci x0, ci x1] ++ value_c) (fun r => r = ci (value x0 x1))) (hp : 0 ≤ n ∧ n ≤ 1000000 ∧ ∀ x y, 0 ≤ x → x < n → 0 ≤ y → y < n → value_D x y) : AF Try.prog 56 [ci n, .clo value_g value_c] (fun r => r = .own (orows (tab n value))) :=
  (w_impl_tableBy n value_g value_c value value_D value_h (fun y0 => y0 = tab n value) (p_impl_tableBy n value value_D hp)).mono (by rintro r ⟨_, rfl, rfl⟩; rfl)

end Go.Proofs.Ytkekjlgidlbbcaa

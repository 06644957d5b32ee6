/- Walks of functions to their conditions, and their contracts; no condition. -/
import Derived.Test.YtkekjlgidlbbcaaCa
import Derived.Test.YtkekjlgidlbbcaaDb
import Derived.Test.YtkekjlgidlbbcaaQb
namespace Go.Proofs.Ytkekjlgidlbbcaa

set_option maxHeartbeats 1000000 in
theorem w_spec_l01Index (list : List Int) (n : Int) (Q : Int → Prop) (h : wp_spec_l01Index list n Q) : AF Try.prog 64 [.lst (ints list), ci n] (fun r => ∃ y0, Q y0 ∧ r = ci y0) := by
  refine AF.ofWQ (af_enter (n := 19) Try.func64 rfl (by rfl) rfl (Nat.le_of_ble_eq_true rfl) ?_)
  unfold wp_spec_l01Index at h
  refine aw_seq ?_
  refine aw_gh (gh_to (n := 19) (σ' := []) (env' := [(0, .c (.lst (ints list))), (1, .c (ci n))]) rfl rfl ⟨rfl, rfl, trivial⟩) ?_
  refine aw_region ?_
  refine run_s (ss_assign rfl) rfl ?_
  refine run_nil ?_
  refine aw_seq ?_
  refine aw_seq ?_
  refine aw_region ?_
  refine run_s (ss_assign rfl) rfl ?_
  refine run_nil ?_
  refine aw_block ?_
  obtain ⟨H1, m1, q1, h⟩ := h
  refine aw_loop1 (fun (v5 : Int) => ⟨[], [(0, .c (.lst (ints list))), (1, .c (ci n)), (5, .c (ci v5))], 19⟩) H1 m1 ⟨0, ghe_to (n := 19) rfl rfl ⟨rfl, rfl, rfl, trivial⟩, q1⟩ ?_
  rintro v5 q1
  replace h := h v5 q1
  refine aw_seq ?_
  refine aw_seq ?_
  refine aw_region ?_
  refine run_s (ss_move rfl) rfl ?_
  refine run_s (ss_move rfl) rfl ?_
  refine run_s (ss_lenL (f := ci) rfl) rfl ?_
  refine run_s (ss_lss rfl rfl) rfl ?_
  refine run_nil ?_
  refine aw_cond rfl (fun q2 => ?_) (fun q2 => ?_)
  · replace h := h.1 (of_decide_eq_true q2)
    refine aw_skip ?_
    refine aw_seq ?_
    refine aw_block ?_
    refine aw_seq ?_
    refine aw_region ?_
    refine run_s (ss_move rfl) rfl ?_
    refine run_s (ss_move rfl) rfl ?_
    obtain ⟨q3, h⟩ := h
    refine run_s (ss_idxL rfl rfl q3) rfl ?_
    refine run_s (ss_loadL (f := ci) rfl q3) rfl ?_
    refine run_s (ss_move rfl) rfl ?_
    refine run_s (ss_eql rfl rfl) rfl ?_
    refine run_nil ?_
    refine aw_cond rfl (fun q4 => ?_) (fun q4 => ?_)
    · replace h := h.1 (of_decide_eq_true q4)
      refine aw_seq ?_
      refine aw_gh (gh_to (n := 19) (σ' := []) (env' := [(5, .c (ci v5))]) rfl rfl ⟨rfl, trivial⟩) ?_
      refine aw_region ?_
      refine run_s (ss_move rfl) rfl ?_
      refine run_s (ss_assign rfl) rfl ?_
      refine run_nil ?_
      refine aw_ret ?_
      exact retAF_mk (retv1 rfl (rv_tmp rfl)) rfl rfl ⟨_, (cle_refl _), _, h, rfl⟩
    · replace h := h.2 (of_decide_eq_false q4)
      refine aw_skip ?_
      refine aw_gh (gh_to (n := 19) (σ' := []) (env' := [(0, .c (.lst (ints list))), (1, .c (ci n)), (5, .c (ci v5))]) rfl rfl ⟨rfl, rfl, rfl, trivial⟩) ?_
      refine aw_region ?_
      refine run_s (ss_move rfl) rfl ?_
      obtain ⟨q5, h⟩ := h
      refine run_s (ss_add rfl rfl q5) rfl ?_
      refine run_s (ss_assign rfl) rfl ?_
      refine run_nil ?_
      exact ⟨v5 + 1, ghe_to (n := 19) rfl rfl ⟨rfl, rfl, rfl, trivial⟩, h.1, h.2⟩
  · replace h := h.2 (of_decide_eq_false q2)
    refine aw_exit ?_
    refine aw_seq ?_
    refine aw_gh (gh_to (n := 19) (σ' := []) (env' := []) rfl rfl trivial) ?_
    refine aw_region ?_
    refine run_s (ss_assign rfl) rfl ?_
    refine run_nil ?_
    refine aw_ret ?_
    exact retAF_mk (retv1 rfl (rv_tmp rfl)) rfl rfl ⟨_, (cle_refl _), _, h, rfl⟩

theorem c_spec_l01Index (list : List Int) (n : Int) (hp : small list) : AF Try.prog 64 [.lst (ints list), ci n] (fun r => r = ci (idxI list n)) :=
  (w_spec_l01Index list n (fun y0 => y0 = idxI list n) (p_spec_l01Index list n hp)).mono (by rintro r ⟨_, rfl, rfl⟩; rfl)

set_option maxHeartbeats 1000000 in
theorem w_spec_l01Has (list : List Int) (n : Int) (Q : Bool → Prop) (h : wp_spec_l01Has list n Q) : AF Try.prog 58 [.lst (ints list), ci n] (fun r => ∃ y0, Q y0 ∧ r = cb y0) := by
  refine AF.ofWQ (af_enter (n := 9) Try.func58 rfl (by rfl) rfl (Nat.le_of_ble_eq_true rfl) ?_)
  unfold wp_spec_l01Has at h
  refine aw_seq ?_
  refine aw_gh (gh_to (n := 9) (σ' := []) (env' := [(0, .c (.lst (ints list))), (1, .c (ci n))]) rfl rfl ⟨rfl, rfl, trivial⟩) ?_
  refine aw_region ?_
  refine run_s (ss_assign rfl) rfl ?_
  refine run_nil ?_
  refine aw_seq ?_
  refine aw_region ?_
  refine run_s (ss_move rfl) rfl ?_
  refine run_s (ss_move rfl) rfl ?_
  obtain ⟨q1, h⟩ := h
  refine run_w (ws_call (xs := [.tmp 5, .tmp 6]) (ids := []) rfl rfl rfl rfl (c_spec_l01Index list n q1) rfl ?_ )
  rintro _ rfl
  refine ⟨rfl, ?_⟩
  refine run_s (ss_geq rfl rfl) rfl ?_
  refine run_s (ss_assign rfl) rfl ?_
  refine run_nil ?_
  refine aw_ret ?_
  exact retAF_mk (retv1 rfl (rv_tmp rfl)) rfl rfl ⟨_, (cle_refl _), _, h, rfl⟩

theorem c_spec_l01Has (list : List Int) (n : Int) (hp : small list) : AF Try.prog 58 [.lst (ints list), ci n] (fun r => r = cb (list.contains n)) :=
  (w_spec_l01Has list n (fun y0 => y0 = list.contains n) (p_spec_l01Has list n hp)).mono (by rintro r ⟨_, rfl, rfl⟩; rfl)

set_option maxHeartbeats 1000000 in
theorem w_spec_l01Perm (p : List Int) (Q : Bool → Prop) (h : wp_spec_l01Perm p Q) : AF Try.prog 44 [.lst (ints p)] (fun r => ∃ y0, Q y0 ∧ r = cb y0) := by
  refine AF.ofWQ (af_enter (n := 19) Try.func44 rfl (by rfl) rfl (Nat.le_of_ble_eq_true rfl) ?_)
  unfold wp_spec_l01Perm at h
  refine aw_seq ?_
  refine aw_gh (gh_to (n := 19) (σ' := []) (env' := [(0, .c (.lst (ints p)))]) rfl rfl ⟨rfl, trivial⟩) ?_
  refine aw_region ?_
  refine run_s (ss_assign rfl) rfl ?_
  refine run_nil ?_
  refine aw_seq ?_
  refine aw_region ?_
  refine run_s (ss_move rfl) rfl ?_
  refine run_s (ss_lenL (f := ci) rfl) rfl ?_
  refine run_s (ss_assign rfl) rfl ?_
  refine run_nil ?_
  refine aw_seq ?_
  refine aw_seq ?_
  refine aw_region ?_
  refine run_s (ss_move rfl) rfl ?_
  refine run_w (ws_call (xs := [.tmp 7, .const (.int .i64 (1)), .const (.int .i64 (12))]) (ids := []) rfl rfl rfl rfl (c_spec_l01In (p.length : Int) 1 12) rfl ?_ )
  rintro _ rfl
  refine ⟨rfl, ?_⟩
  refine run_s (ss_not rfl) rfl ?_
  refine run_nil ?_
  refine aw_cond rfl (fun q2 => ?_) (fun q2 => ?_)
  · replace h := h.1 ((bnot_t q2))
    refine aw_seq ?_
    refine aw_gh (gh_to (n := 19) (σ' := []) (env' := [(2, .c (cb false))]) rfl rfl ⟨rfl, trivial⟩) ?_
    refine aw_region ?_
    refine run_s (ss_assign rfl) rfl ?_
    refine run_nil ?_
    refine aw_ret ?_
    exact retAF_mk (retv1 rfl (rv_tmp rfl)) rfl rfl ⟨_, (cle_refl _), _, h, rfl⟩
  · replace h := h.2 ((bnot_f q2))
    refine aw_skip ?_
    refine aw_seq ?_
    refine aw_seq ?_
    refine aw_gh (gh_to (n := 19) (σ' := []) (env' := [(0, .c (.lst (ints p))), (3, .c (ci (p.length : Int)))]) rfl rfl ⟨rfl, rfl, trivial⟩) ?_
    refine aw_region ?_
    refine run_s (ss_assign rfl) rfl ?_
    refine run_nil ?_
    refine aw_block ?_
    obtain ⟨H1, m1, q3, h⟩ := h
    refine aw_loop1 (fun (v4 : Int) => ⟨[], [(0, .c (.lst (ints p))), (3, .c (ci (p.length : Int))), (4, .c (ci v4))], 19⟩) H1 m1 ⟨0, ghe_to (n := 19) rfl rfl ⟨rfl, rfl, rfl, trivial⟩, q3⟩ ?_
    rintro v4 q3
    replace h := h v4 q3
    refine aw_seq ?_
    refine aw_seq ?_
    refine aw_region ?_
    refine run_s (ss_move rfl) rfl ?_
    refine run_s (ss_move rfl) rfl ?_
    refine run_s (ss_lss rfl rfl) rfl ?_
    refine run_nil ?_
    refine aw_cond rfl (fun q4 => ?_) (fun q4 => ?_)
    · replace h := h.1 (of_decide_eq_true q4)
      refine aw_skip ?_
      refine aw_seq ?_
      refine aw_block ?_
      refine aw_seq ?_
      refine aw_region ?_
      refine run_s (ss_move rfl) rfl ?_
      refine run_s (ss_move rfl) rfl ?_
      obtain ⟨q5, h⟩ := h
      refine run_w (ws_call (xs := [.tmp 15, .tmp 16]) (ids := []) rfl rfl rfl rfl (c_spec_l01Has p v4 q5) rfl ?_ )
      rintro _ rfl
      refine ⟨rfl, ?_⟩
      refine run_s (ss_not rfl) rfl ?_
      refine run_nil ?_
      refine aw_cond rfl (fun q7 => ?_) (fun q7 => ?_)
      · replace h := h.1 ((bnot_t q7))
        refine aw_seq ?_
        refine aw_gh (gh_to (n := 19) (σ' := []) (env' := []) rfl rfl trivial) ?_
        refine aw_region ?_
        refine run_s (ss_assign rfl) rfl ?_
        refine run_nil ?_
        refine aw_ret ?_
        exact retAF_mk (retv1 rfl (rv_tmp rfl)) rfl rfl ⟨_, (cle_refl _), _, h, rfl⟩
      · replace h := h.2 ((bnot_f q7))
        refine aw_skip ?_
        refine aw_gh (gh_to (n := 19) (σ' := []) (env' := [(0, .c (.lst (ints p))), (3, .c (ci (p.length : Int))), (4, .c (ci v4))]) rfl rfl ⟨rfl, rfl, rfl, trivial⟩) ?_
        refine aw_region ?_
        refine run_s (ss_move rfl) rfl ?_
        obtain ⟨q8, h⟩ := h
        refine run_s (ss_add rfl rfl q8) rfl ?_
        refine run_s (ss_assign rfl) rfl ?_
        refine run_nil ?_
        exact ⟨v4 + 1, ghe_to (n := 19) rfl rfl ⟨rfl, rfl, rfl, trivial⟩, h.1, h.2⟩
    · replace h := h.2 (of_decide_eq_false q4)
      refine aw_exit ?_
      refine aw_seq ?_
      refine aw_gh (gh_to (n := 19) (σ' := []) (env' := []) rfl rfl trivial) ?_
      refine aw_region ?_
      refine run_s (ss_assign rfl) rfl ?_
      refine run_nil ?_
      refine aw_ret ?_
      exact retAF_mk (retv1 rfl (rv_tmp rfl)) rfl rfl ⟨_, (cle_refl _), _, h, rfl⟩

theorem c_spec_l01Perm (p : List Int) (hp : small p) : AF Try.prog 44 [.lst (ints p)] (fun r => r = cb (permB p)) :=
  (w_spec_l01Perm p (fun y0 => y0 = permB p) (p_spec_l01Perm p hp)).mono (by rintro r ⟨_, rfl, rfl⟩; rfl)

set_option maxHeartbeats 1000000 in
theorem w_spec_l01Own (list : List Int) (Q : List Int → Prop) (h : wp_spec_l01Own list Q) : AF Try.prog 45 [.lst (ints list)] (fun r => ∃ y0, Q y0 ∧ r = .own (ints y0)) := by
  refine AF.ofWQ (af_enter (n := 6) Try.func45 rfl (by rfl) rfl (Nat.le_of_ble_eq_true rfl) ?_)
  unfold wp_spec_l01Own at h
  refine aw_seq ?_
  refine aw_gh (gh_to (n := 6) (σ' := []) (env' := [(0, .c (.lst (ints list)))]) rfl rfl ⟨rfl, trivial⟩) ?_
  refine aw_region ?_
  refine run_s (ss_assign rfl) rfl ?_
  refine run_nil ?_
  refine aw_seq ?_
  refine aw_region ?_
  refine run_w (ws_buildSlice (id := 3) (ps := []) rfl rfl (Nat.le_of_ble_eq_true rfl) rfl ⟨rfl, ?_⟩)
  refine run_s (ss_move rfl) rfl ?_
  obtain ⟨q1, h⟩ := h
  refine run_w (ws_appL ci (l := ([] : List Int)) (m := list) rfl rfl rfl (Nat.le_of_ble_eq_true rfl) q1 ⟨rfl, ?_⟩)
  refine run_s (ss_assign rfl) rfl ?_
  refine run_nil ?_
  refine aw_ret ?_
  exact retAF_mk (retv1 rfl (rv_tmp rfl)) rfl rfl ⟨_, (cle_refl _), _, h, rfl⟩

theorem c_spec_l01Own (list : List Int) (hp : small list) : AF Try.prog 45 [.lst (ints list)] (fun r => r = .own (ints list)) :=
  (w_spec_l01Own list (fun y0 => y0 = list) (p_spec_l01Own list hp)).mono (by rintro r ⟨_, rfl, rfl⟩; rfl)

set_option maxHeartbeats 1000000 in
theorem w_spec_l01Table (t : List (List Int)) (Q : Bool → Prop) (h : wp_spec_l01Table t Q) : AF Try.prog 49 [.lst (rows t)] (fun r => ∃ y0, Q y0 ∧ r = cb y0) := by
  refine AF.ofWQ (af_enter (n := 41) Try.func49 rfl (by rfl) rfl (Nat.le_of_ble_eq_true rfl) ?_)
  unfold wp_spec_l01Table at h
  refine aw_seq ?_
  refine aw_gh (gh_to (n := 41) (σ' := []) (env' := [(0, .c (.lst (rows t)))]) rfl rfl ⟨rfl, trivial⟩) ?_
  refine aw_region ?_
  refine run_s (ss_assign rfl) rfl ?_
  refine run_nil ?_
  refine aw_seq ?_
  refine aw_region ?_
  refine run_s (ss_move rfl) rfl ?_
  refine run_s (ss_lenL (f := (fun r => C.lst (ints r))) rfl) rfl ?_
  refine run_s (ss_assign rfl) rfl ?_
  refine run_nil ?_
  refine aw_seq ?_
  refine aw_seq ?_
  refine aw_region ?_
  refine run_s (ss_move rfl) rfl ?_
  refine run_w (ws_call (xs := [.tmp 8, .const (.int .i64 (1)), .const (.int .i64 (12))]) (ids := []) rfl rfl rfl rfl (c_spec_l01In (t.length : Int) 1 12) rfl ?_ )
  rintro _ rfl
  refine ⟨rfl, ?_⟩
  refine run_s (ss_not rfl) rfl ?_
  refine run_nil ?_
  refine aw_cond rfl (fun q2 => ?_) (fun q2 => ?_)
  · replace h := h.1 ((bnot_t q2))
    refine aw_seq ?_
    refine aw_gh (gh_to (n := 41) (σ' := []) (env' := [(2, .c (cb false))]) rfl rfl ⟨rfl, trivial⟩) ?_
    refine aw_region ?_
    refine run_s (ss_assign rfl) rfl ?_
    refine run_nil ?_
    refine aw_ret ?_
    exact retAF_mk (retv1 rfl (rv_tmp rfl)) rfl rfl ⟨_, (cle_refl _), _, h, rfl⟩
  · replace h := h.2 ((bnot_f q2))
    refine aw_skip ?_
    refine aw_seq ?_
    refine aw_seq ?_
    refine aw_gh (gh_to (n := 41) (σ' := []) (env' := [(0, .c (.lst (rows t))), (3, .c (ci (t.length : Int)))]) rfl rfl ⟨rfl, rfl, trivial⟩) ?_
    refine aw_region ?_
    refine run_s (ss_assign rfl) rfl ?_
    refine run_nil ?_
    refine aw_block ?_
    obtain ⟨H1, m1, q3, h⟩ := h
    refine aw_loop1 (fun (v4 : Int) => ⟨[], [(0, .c (.lst (rows t))), (3, .c (ci (t.length : Int))), (4, .c (ci v4))], 41⟩) H1 m1 ⟨0, ghe_to (n := 41) rfl rfl ⟨rfl, rfl, rfl, trivial⟩, q3⟩ ?_
    rintro v4 q3
    replace h := h v4 q3
    refine aw_seq ?_
    refine aw_seq ?_
    refine aw_region ?_
    refine run_s (ss_move rfl) rfl ?_
    refine run_s (ss_move rfl) rfl ?_
    refine run_s (ss_lenL (f := (fun r => C.lst (ints r))) rfl) rfl ?_
    refine run_s (ss_lss rfl rfl) rfl ?_
    refine run_nil ?_
    refine aw_cond rfl (fun q4 => ?_) (fun q4 => ?_)
    · replace h := h.1 (of_decide_eq_true q4)
      refine aw_skip ?_
      refine aw_seq ?_
      refine aw_block ?_
      refine aw_seq ?_
      refine aw_seq ?_
      refine aw_region ?_
      refine run_s (ss_move rfl) rfl ?_
      refine run_s (ss_move rfl) rfl ?_
      obtain ⟨q5, h⟩ := h
      refine run_s (ss_idxL rfl rfl q5) rfl ?_
      refine run_s (ss_loadL (f := (fun r => C.lst (ints r))) rfl q5) rfl ?_
      refine run_s (ss_lenL (f := ci) rfl) rfl ?_
      refine run_s (ss_move rfl) rfl ?_
      refine run_s (ss_neq rfl rfl) rfl ?_
      refine run_nil ?_
      refine aw_cond rfl (fun q6 => ?_) (fun q6 => ?_)
      · replace h := h.1 (of_decide_eq_false (bnot_t q6))
        refine aw_seq ?_
        refine aw_gh (gh_to (n := 41) (σ' := []) (env' := []) rfl rfl trivial) ?_
        refine aw_region ?_
        refine run_s (ss_assign rfl) rfl ?_
        refine run_nil ?_
        refine aw_ret ?_
        exact retAF_mk (retv1 rfl (rv_tmp rfl)) rfl rfl ⟨_, (cle_refl _), _, h, rfl⟩
      · replace h := h.2 (of_decide_eq_true (bnot_f q6))
        refine aw_skip ?_
        refine aw_seq ?_
        refine aw_gh (gh_to (n := 41) (σ' := []) (env' := [(0, .c (.lst (rows t))), (3, .c (ci (t.length : Int))), (4, .c (ci v4))]) rfl rfl ⟨rfl, rfl, rfl, trivial⟩) ?_
        refine aw_region ?_
        refine run_s (ss_assign rfl) rfl ?_
        refine run_nil ?_
        refine aw_block ?_
        obtain ⟨H2, m2, q7, h⟩ := h
        refine aw_loop1 (fun (v5 : Int) => ⟨[], [(0, .c (.lst (rows t))), (3, .c (ci (t.length : Int))), (4, .c (ci v4)), (5, .c (ci v5))], 41⟩) H2 m2 ⟨0, ghe_to (n := 41) rfl rfl ⟨rfl, rfl, rfl, rfl, trivial⟩, q7⟩ ?_
        rintro v5 q7
        replace h := h v5 q7
        refine aw_seq ?_
        refine aw_seq ?_
        refine aw_region ?_
        refine run_s (ss_move rfl) rfl ?_
        refine run_s (ss_move rfl) rfl ?_
        refine run_s (ss_lenL (f := (fun r => C.lst (ints r))) rfl) rfl ?_
        refine run_s (ss_lss rfl rfl) rfl ?_
        refine run_nil ?_
        refine aw_cond rfl (fun q8 => ?_) (fun q8 => ?_)
        · replace h := h.1 (of_decide_eq_true q8)
          refine aw_skip ?_
          refine aw_seq ?_
          refine aw_block ?_
          refine aw_seq ?_
          refine aw_region ?_
          refine run_s (ss_move rfl) rfl ?_
          refine run_s (ss_move rfl) rfl ?_
          obtain ⟨q9, h⟩ := h
          refine run_s (ss_idxL rfl rfl q9) rfl ?_
          refine run_s (ss_loadL (f := (fun r => C.lst (ints r))) rfl q9) rfl ?_
          refine run_s (ss_move rfl) rfl ?_
          obtain ⟨q10, h⟩ := h
          refine run_s (ss_idxL rfl rfl q10) rfl ?_
          refine run_s (ss_loadL (f := ci) rfl q10) rfl ?_
          refine run_s (ss_move rfl) rfl ?_
          obtain ⟨q11, h⟩ := h
          refine run_s (ss_sub rfl rfl q11) rfl ?_
          refine run_w (ws_call (xs := [.tmp 36, .const (.int .i64 (0)), .tmp 38]) (ids := []) rfl rfl rfl rfl (c_spec_l01In (el (el t v4) v5) 0 ((t.length : Int) - 1)) rfl ?_ )
          rintro _ rfl
          refine ⟨rfl, ?_⟩
          refine run_s (ss_not rfl) rfl ?_
          refine run_nil ?_
          refine aw_cond rfl (fun q13 => ?_) (fun q13 => ?_)
          · replace h := h.1 ((bnot_t q13))
            refine aw_seq ?_
            refine aw_gh (gh_to (n := 41) (σ' := []) (env' := []) rfl rfl trivial) ?_
            refine aw_region ?_
            refine run_s (ss_assign rfl) rfl ?_
            refine run_nil ?_
            refine aw_ret ?_
            exact retAF_mk (retv1 rfl (rv_tmp rfl)) rfl rfl ⟨_, (cle_refl _), _, h, rfl⟩
          · replace h := h.2 ((bnot_f q13))
            refine aw_skip ?_
            refine aw_gh (gh_to (n := 41) (σ' := []) (env' := [(0, .c (.lst (rows t))), (3, .c (ci (t.length : Int))), (4, .c (ci v4)), (5, .c (ci v5))]) rfl rfl ⟨rfl, rfl, rfl, rfl, trivial⟩) ?_
            refine aw_region ?_
            refine run_s (ss_move rfl) rfl ?_
            obtain ⟨q14, h⟩ := h
            refine run_s (ss_add rfl rfl q14) rfl ?_
            refine run_s (ss_assign rfl) rfl ?_
            refine run_nil ?_
            exact ⟨v5 + 1, ghe_to (n := 41) rfl rfl ⟨rfl, rfl, rfl, rfl, trivial⟩, h.1, h.2⟩
        · replace h := h.2 (of_decide_eq_false q8)
          refine aw_exit ?_
          refine aw_gh (gh_to (n := 41) (σ' := []) (env' := [(0, .c (.lst (rows t))), (3, .c (ci (t.length : Int))), (4, .c (ci v4))]) rfl rfl ⟨rfl, rfl, rfl, trivial⟩) ?_
          refine aw_region ?_
          refine run_s (ss_move rfl) rfl ?_
          obtain ⟨q15, h⟩ := h
          refine run_s (ss_add rfl rfl q15) rfl ?_
          refine run_s (ss_assign rfl) rfl ?_
          refine run_nil ?_
          exact ⟨v4 + 1, ghe_to (n := 41) rfl rfl ⟨rfl, rfl, rfl, trivial⟩, h.1, h.2⟩
    · replace h := h.2 (of_decide_eq_false q4)
      refine aw_exit ?_
      refine aw_seq ?_
      refine aw_gh (gh_to (n := 41) (σ' := []) (env' := []) rfl rfl trivial) ?_
      refine aw_region ?_
      refine run_s (ss_assign rfl) rfl ?_
      refine run_nil ?_
      refine aw_ret ?_
      exact retAF_mk (retv1 rfl (rv_tmp rfl)) rfl rfl ⟨_, (cle_refl _), _, h, rfl⟩

theorem c_spec_l01Table (t : List (List Int)) (hp : small2 t) : AF Try.prog 49 [.lst (rows t)] (fun r => r = cb (isTab t)) :=
  (w_spec_l01Table t (fun y0 => y0 = isTab t) (p_spec_l01Table t hp)).mono (by rintro r ⟨_, rfl, rfl⟩; rfl)

set_option maxHeartbeats 1000000 in
theorem w_impl_IsPermutation (p : List Int) (Q : Bool → Prop) (h : wp_impl_IsPermutation p Q) : AF Try.prog 46 [.lst (ints p)] (fun r => ∃ y0, Q y0 ∧ r = cb y0) := by
  refine AF.ofWQ (af_enter (n := 10) Try.func46 rfl (by rfl) rfl (Nat.le_of_ble_eq_true rfl) ?_)
  unfold wp_impl_IsPermutation at h
  refine aw_seq ?_
  refine aw_gh (gh_to (n := 10) (σ' := []) (env' := [(0, .c (.lst (ints p)))]) rfl rfl ⟨rfl, trivial⟩) ?_
  refine aw_region ?_
  refine run_s (ss_assign rfl) rfl ?_
  refine run_nil ?_
  refine aw_seq ?_
  refine aw_region ?_
  refine run_s (ss_move rfl) rfl ?_
  refine run_s (ss_lenL (f := ci) rfl) rfl ?_
  refine run_w (ws_call (xs := [.tmp 4, .const (.int .i64 (1)), .const (.int .i64 (12))]) (ids := []) rfl rfl rfl rfl (c_impl_within (p.length : Int) 1 12) rfl ?_ )
  rintro _ rfl
  refine ⟨rfl, ?_⟩
  refine run_s (ss_move rfl) rfl ?_
  refine run_split (s := 6) rfl (fun q2 => ?_) (fun q2 => ?_)
  · replace h := h.1 (q2)
    refine run_gt rfl rfl q2 ?_
    refine run_s (ss_move rfl) rfl ?_
    refine run_gt rfl rfl q2 ?_
    obtain ⟨q3, h⟩ := h
    refine run_w (ws_call (xs := [.tmp 7]) (ids := []) rfl rfl rfl rfl (c_impl_isPermuted p q3) rfl ?_ )
    rintro _ rfl
    refine ⟨rfl, ?_⟩
    refine run_s (ss_pickT rfl q2 rfl) rfl ?_
    refine run_s (ss_assign rfl) rfl ?_
    refine run_nil ?_
    refine aw_ret ?_
    exact retAF_mk (retv1 rfl (rv_tmp rfl)) rfl rfl ⟨_, (cle_refl _), _, h, rfl⟩
  · replace h := h.2 (q2)
    refine run_gf rfl rfl q2 rfl ?_
    refine run_gf rfl rfl q2 rfl ?_
    refine run_s (ss_pickF rfl q2 rfl) rfl ?_
    refine run_s (ss_assign rfl) rfl ?_
    refine run_nil ?_
    refine aw_ret ?_
    exact retAF_mk (retv1 rfl (rv_tmp rfl)) rfl rfl ⟨_, (cle_refl _), _, h, rfl⟩

theorem c_impl_IsPermutation (p : List Int) (hp : small p) : AF Try.prog 46 [.lst (ints p)] (fun r => r = cb (permB p)) :=
  (w_impl_IsPermutation p (fun y0 => y0 = permB p) (p_impl_IsPermutation p hp)).mono (by rintro r ⟨_, rfl, rfl⟩; rfl)

set_option maxHeartbeats 1000000 in
theorem w_impl_divisorOf (a : Int) (b : Int) (Q : Int → Prop) (h : wp_impl_divisorOf a b Q) : AF Try.prog 42 [ci a, ci b] (fun r => ∃ y0, Q y0 ∧ r = ci y0) := by
  refine AF.ofWQ (af_enter (n := 12) Try.func42 rfl (by rfl) rfl (Nat.le_of_ble_eq_true rfl) ?_)
  unfold wp_impl_divisorOf at h
  refine aw_seq ?_
  refine aw_gh (gh_to (n := 12) (σ' := []) (env' := [(0, .c (ci a)), (1, .c (ci b))]) rfl rfl ⟨rfl, rfl, trivial⟩) ?_
  refine aw_region ?_
  refine run_s (ss_assign rfl) rfl ?_
  refine run_nil ?_
  refine aw_seq ?_
  refine aw_block ?_
  obtain ⟨H1, m1, q1, h⟩ := h
  refine aw_loop2 (fun (v0 : Int) (v1 : Int) => ⟨[], [(0, .c (ci v0)), (1, .c (ci v1))], 12⟩) H1 m1 ⟨a, b, ghe_to (n := 12) rfl rfl ⟨rfl, rfl, trivial⟩, q1⟩ ?_
  rintro v0 v1 q1
  replace h := h v0 v1 q1
  refine aw_seq ?_
  refine aw_seq ?_
  refine aw_region ?_
  refine run_s (ss_move rfl) rfl ?_
  refine run_s (ss_gtr rfl rfl) rfl ?_
  refine run_nil ?_
  refine aw_cond rfl (fun q2 => ?_) (fun q2 => ?_)
  · replace h := h.1 (of_decide_eq_true q2)
    refine aw_skip ?_
    refine aw_block ?_
    refine aw_gh (gh_to (n := 12) (σ' := []) (env' := [(0, .c (ci v0)), (1, .c (ci v1))]) rfl rfl ⟨rfl, rfl, trivial⟩) ?_
    refine aw_regionD (kd := kdl [0, 0, 0, 0, 0, 0]) (ord := [0, 1, 2, 3, 4, 5]) [] mixed (by kernel_rfl) ?_
    refine rd_s rfl rfl trivial (ss_move rfl) rfl ?_
    refine rd_s rfl rfl trivial (ss_move rfl) rfl ?_
    refine rd_s rfl rfl trivial (ss_move rfl) rfl ?_
    obtain ⟨q3, h⟩ := h
    refine rd_s rfl rfl trivial (ss_rem rfl rfl q3) rfl ?_
    refine rd_s rfl rfl trivial (ss_assign rfl) rfl ?_
    refine rd_s rfl rfl trivial (ss_assign rfl) rfl ?_
    refine rd_nil ?_
    exact ⟨v1, v0 % v1, ghe_to (n := 12) rfl rfl ⟨rfl, rfl, trivial⟩, h.1, h.2⟩
  · replace h := h.2 (of_decide_eq_false q2)
    refine aw_exit ?_
    refine aw_seq ?_
    refine aw_region ?_
    refine run_s (ss_move rfl) rfl ?_
    refine run_s (ss_assign rfl) rfl ?_
    refine run_nil ?_
    refine aw_ret ?_
    exact retAF_mk (retv1 rfl (rv_tmp rfl)) rfl rfl ⟨_, (cle_refl _), _, h, rfl⟩

theorem c_impl_divisorOf (a : Int) (b : Int) (hp : 0 ≤ a ∧ 0 ≤ b) : AF Try.prog 42 [ci a, ci b] (fun r => r = ci (gcdI a b)) :=
  (w_impl_divisorOf a b (fun y0 => y0 = gcdI a b) (p_impl_divisorOf a b hp)).mono (by rintro r ⟨_, rfl, rfl⟩; rfl)

set_option maxHeartbeats 1000000 in
theorem w_spec_l03Coprime (a : Int) (n : Int) (Q : Bool → Prop) (h : wp_spec_l03Coprime a n Q) : AF Try.prog 41 [ci a, ci n] (fun r => ∃ y0, Q y0 ∧ r = cb y0) := by
  refine AF.ofWQ (af_enter (n := 21) Try.func41 rfl (by rfl) rfl (Nat.le_of_ble_eq_true rfl) ?_)
  unfold wp_spec_l03Coprime at h
  refine aw_seq ?_
  refine aw_gh (gh_to (n := 21) (σ' := []) (env' := [(0, .c (ci a)), (1, .c (ci n))]) rfl rfl ⟨rfl, rfl, trivial⟩) ?_
  refine aw_region ?_
  refine run_s (ss_assign rfl) rfl ?_
  refine run_nil ?_
  refine aw_seq ?_
  refine aw_seq ?_
  refine aw_region ?_
  refine run_s (ss_assign rfl) rfl ?_
  refine run_nil ?_
  refine aw_block ?_
  obtain ⟨H1, m1, q1, h⟩ := h
  refine aw_loop1 (fun (v5 : Int) => ⟨[], [(0, .c (ci a)), (1, .c (ci n)), (5, .c (ci v5))], 21⟩) H1 m1 ⟨2, ghe_to (n := 21) rfl rfl ⟨rfl, rfl, rfl, trivial⟩, q1⟩ ?_
  rintro v5 q1
  replace h := h v5 q1
  refine aw_seq ?_
  refine aw_seq ?_
  refine aw_region ?_
  refine run_s (ss_move rfl) rfl ?_
  refine run_s (ss_move rfl) rfl ?_
  refine run_s (ss_leq rfl rfl) rfl ?_
  refine run_nil ?_
  refine aw_cond rfl (fun q2 => ?_) (fun q2 => ?_)
  · replace h := h.1 (of_decide_eq_true q2)
    refine aw_skip ?_
    refine aw_seq ?_
    refine aw_block ?_
    refine aw_seq ?_
    refine aw_region ?_
    refine run_s (ss_move rfl) rfl ?_
    refine run_s (ss_move rfl) rfl ?_
    obtain ⟨q3, h⟩ := h
    refine run_s (ss_rem rfl rfl q3) rfl ?_
    refine run_s (ss_eql rfl rfl) rfl ?_
    refine run_s (ss_move rfl) rfl ?_
    refine run_split (s := 15) rfl (fun q4 => ?_) (fun q4 => ?_)
    · replace h := h.1 (of_decide_eq_true q4)
      refine run_gt rfl rfl q4 ?_
      refine run_s (ss_move rfl) rfl ?_
      refine run_gt rfl rfl q4 ?_
      refine run_s (ss_move rfl) rfl ?_
      refine run_gt rfl rfl q4 ?_
      obtain ⟨q5, h⟩ := h
      refine run_s (ss_rem rfl rfl q5) rfl ?_
      refine run_gt rfl rfl q4 ?_
      refine run_s (ss_eql rfl rfl) rfl ?_
      refine run_s (ss_pickT rfl q4 rfl) rfl ?_
      refine run_nil ?_
      refine aw_cond rfl (fun q6 => ?_) (fun q6 => ?_)
      · replace h := h.1 (of_decide_eq_true q6)
        refine aw_seq ?_
        refine aw_gh (gh_to (n := 21) (σ' := []) (env' := []) rfl rfl trivial) ?_
        refine aw_region ?_
        refine run_s (ss_assign rfl) rfl ?_
        refine run_nil ?_
        refine aw_ret ?_
        exact retAF_mk (retv1 rfl (rv_tmp rfl)) rfl rfl ⟨_, (cle_refl _), _, h, rfl⟩
      · replace h := h.2 (of_decide_eq_false q6)
        refine aw_skip ?_
        refine aw_gh (gh_to (n := 21) (σ' := []) (env' := [(0, .c (ci a)), (1, .c (ci n)), (5, .c (ci v5)), (16, .c (ci n)), (17, .c (ci v5)), (18, .c (ci (n % v5))), (19, .c (cb (decide (n % v5 = 0))))]) rfl rfl ⟨rfl, rfl, rfl, rfl, rfl, rfl, rfl, trivial⟩) ?_
        refine aw_region ?_
        refine run_s (ss_move rfl) rfl ?_
        obtain ⟨q7, h⟩ := h
        refine run_s (ss_add rfl rfl q7) rfl ?_
        refine run_s (ss_assign rfl) rfl ?_
        refine run_nil ?_
        exact ⟨v5 + 1, ghe_to (n := 21) rfl rfl ⟨rfl, rfl, rfl, trivial⟩, h.1, h.2⟩
    · replace h := h.2 (of_decide_eq_false q4)
      refine run_gf rfl rfl q4 rfl ?_
      refine run_gf rfl rfl q4 rfl ?_
      refine run_gf rfl rfl q4 rfl ?_
      refine run_gf rfl rfl q4 rfl ?_
      refine run_s (ss_pickF rfl q4 rfl) rfl ?_
      refine run_nil ?_
      refine aw_cond rfl (fun q8 => ?_) (fun q8 => ?_)
      · cases q8
      · skip
        refine aw_skip ?_
        refine aw_gh (gh_to (n := 21) (σ' := []) (env' := [(0, .c (ci a)), (1, .c (ci n)), (5, .c (ci v5))]) rfl rfl ⟨rfl, rfl, rfl, trivial⟩) ?_
        refine aw_region ?_
        refine run_s (ss_move rfl) rfl ?_
        obtain ⟨q9, h⟩ := h
        refine run_s (ss_add rfl rfl q9) rfl ?_
        refine run_s (ss_assign rfl) rfl ?_
        refine run_nil ?_
        exact ⟨v5 + 1, ghe_to (n := 21) rfl rfl ⟨rfl, rfl, rfl, trivial⟩, h.1, h.2⟩
  · replace h := h.2 (of_decide_eq_false q2)
    refine aw_exit ?_
    refine aw_seq ?_
    refine aw_gh (gh_to (n := 21) (σ' := []) (env' := []) rfl rfl trivial) ?_
    refine aw_region ?_
    refine run_s (ss_assign rfl) rfl ?_
    refine run_nil ?_
    refine aw_ret ?_
    exact retAF_mk (retv1 rfl (rv_tmp rfl)) rfl rfl ⟨_, (cle_refl _), _, h, rfl⟩

theorem c_spec_l03Coprime (a : Int) (n : Int) (hp : 0 ≤ a ∧ 1 ≤ n ∧ n ≤ 1000) : AF Try.prog 41 [ci a, ci n] (fun r => r = cb (!decide (1 < gcdI n a))) :=
  (w_spec_l03Coprime a n (fun y0 => y0 = !decide (1 < gcdI n a)) (p_spec_l03Coprime a n hp)).mono (by rintro r ⟨_, rfl, rfl⟩; rfl)

set_option maxHeartbeats 1000000 in
theorem w_spec_l03Alexander (n : Int) (a : Int) (b : Int) (Q : List (List Int) → Prop) (h : wp_spec_l03Alexander n a b Q) : AF Try.prog 33 [ci n, ci a, ci b] (fun r => ∃ y0, Q y0 ∧ r = .own (orows y0)) := by
  refine AF.ofWQ (af_enter (n := 40) Try.func33 rfl (by rfl) rfl (Nat.le_of_ble_eq_true rfl) ?_)
  unfold wp_spec_l03Alexander at h
  refine aw_seq ?_
  refine aw_gh (gh_to (n := 40) (σ' := []) (env' := [(0, .c (ci n)), (1, .c (ci a)), (2, .c (ci b))]) rfl rfl ⟨rfl, rfl, rfl, trivial⟩) ?_
  refine aw_region ?_
  refine run_s (ss_assign rfl) rfl ?_
  refine run_nil ?_
  refine aw_seq ?_
  refine aw_region ?_
  refine run_w (ws_buildSlice (id := 11) (ps := []) rfl rfl (Nat.le_of_ble_eq_true rfl) rfl ⟨rfl, ?_⟩)
  refine run_s (ss_assign rfl) rfl ?_
  refine run_nil ?_
  refine aw_seq ?_
  refine aw_seq ?_
  refine aw_region ?_
  refine run_s (ss_assign rfl) rfl ?_
  refine run_nil ?_
  refine aw_block ?_
  obtain ⟨H1, m1, q1, h⟩ := h
  refine aw_loop2 (fun (v8 : Int) (o11 : List (List Int)) => ⟨[(11, ⟨orows o11, []⟩)], [(0, .c (ci n)), (1, .c (ci a)), (2, .c (ci b)), (7, .ref 11), (8, .c (ci v8))], 40⟩) H1 m1 ⟨0, ([] : List (List Int)), ghe_to (n := 40) rfl rfl ⟨rfl, rfl, rfl, rfl, rfl, trivial⟩, q1⟩ ?_
  rintro v8 o11 q1
  replace h := h v8 o11 q1
  refine aw_seq ?_
  refine aw_seq ?_
  refine aw_region ?_
  refine run_s (ss_move rfl) rfl ?_
  refine run_s (ss_move rfl) rfl ?_
  refine run_s (ss_lss rfl rfl) rfl ?_
  refine run_nil ?_
  refine aw_cond rfl (fun q2 => ?_) (fun q2 => ?_)
  · replace h := h.1 (of_decide_eq_true q2)
    refine aw_skip ?_
    refine aw_seq ?_
    refine aw_block ?_
    refine aw_seq ?_
    refine aw_region ?_
    refine run_w (ws_buildSlice (id := 17) (ps := []) rfl rfl (Nat.le_of_ble_eq_true rfl) rfl ⟨rfl, ?_⟩)
    refine run_s (ss_assign rfl) rfl ?_
    refine run_nil ?_
    refine aw_seq ?_
    refine aw_seq ?_
    refine aw_gh (gh_to (n := 40) (σ' := [(17, ⟨ints ([] : List Int), []⟩), (11, ⟨orows o11, []⟩)]) (env' := [(0, .c (ci n)), (1, .c (ci a)), (2, .c (ci b)), (7, .ref 11), (8, .c (ci v8)), (9, .ref 17)]) rfl rfl ⟨rfl, rfl, rfl, rfl, rfl, rfl, trivial⟩) ?_
    refine aw_region ?_
    refine run_s (ss_assign rfl) rfl ?_
    refine run_nil ?_
    refine aw_block ?_
    obtain ⟨H2, m2, q3, h⟩ := h
    refine aw_loop2 (fun (v10 : Int) (o17 : List Int) => ⟨[(17, ⟨ints o17, []⟩), (11, ⟨orows o11, []⟩)], [(0, .c (ci n)), (1, .c (ci a)), (2, .c (ci b)), (7, .ref 11), (8, .c (ci v8)), (9, .ref 17), (10, .c (ci v10))], 40⟩) H2 m2 ⟨0, ([] : List Int), ghe_to (n := 40) rfl rfl ⟨rfl, rfl, rfl, rfl, rfl, rfl, rfl, trivial⟩, q3⟩ ?_
    rintro v10 o17 q3
    replace h := h v10 o17 q3
    refine aw_seq ?_
    refine aw_seq ?_
    refine aw_region ?_
    refine run_s (ss_move rfl) rfl ?_
    refine run_s (ss_move rfl) rfl ?_
    refine run_s (ss_lss rfl rfl) rfl ?_
    refine run_nil ?_
    refine aw_cond rfl (fun q4 => ?_) (fun q4 => ?_)
    · replace h := h.1 (of_decide_eq_true q4)
      refine aw_skip ?_
      refine aw_seq ?_
      refine aw_block ?_
      refine aw_region ?_
      refine run_s (ss_move rfl) rfl ?_
      refine run_s (ss_move rfl) rfl ?_
      refine run_s (ss_move rfl) rfl ?_
      obtain ⟨q5, h⟩ := h
      refine run_s (ss_mul rfl rfl q5) rfl ?_
      refine run_s (ss_move rfl) rfl ?_
      refine run_s (ss_move rfl) rfl ?_
      obtain ⟨q6, h⟩ := h
      refine run_s (ss_mul rfl rfl q6) rfl ?_
      obtain ⟨q7, h⟩ := h
      refine run_s (ss_add rfl rfl q7) rfl ?_
      refine run_s (ss_move rfl) rfl ?_
      obtain ⟨q8, h⟩ := h
      refine run_s (ss_rem rfl rfl q8) rfl ?_
      refine run_w (ws_buildSlice (id := 33) (ps := [(0, .tmp 32)]) rfl rfl (Nat.le_of_ble_eq_true rfl) rfl ⟨rfl, ?_⟩)
      obtain ⟨q9, h⟩ := h
      refine run_w (ws_app1 ci (l := o17) (m := [((b * v8) + (a * v10)) % n]) rfl rfl rfl rfl rfl (Nat.le_of_ble_eq_true rfl) q9 ⟨rfl, ?_⟩)
      refine run_s (ss_assign rfl) rfl ?_
      refine run_nil ?_
      refine aw_gh (gh_to (n := 40) (σ' := [(17, ⟨ints (o17 ++ ([((b * v8) + (a * v10)) % n])), []⟩), (11, ⟨orows o11, []⟩)]) (env' := [(0, .c (ci n)), (1, .c (ci a)), (2, .c (ci b)), (7, .ref 11), (8, .c (ci v8)), (9, .ref 17), (10, .c (ci v10))]) rfl rfl ⟨rfl, rfl, rfl, rfl, rfl, rfl, rfl, trivial⟩) ?_
      refine aw_region ?_
      refine run_s (ss_move rfl) rfl ?_
      obtain ⟨q10, h⟩ := h
      refine run_s (ss_add rfl rfl q10) rfl ?_
      refine run_s (ss_assign rfl) rfl ?_
      refine run_nil ?_
      exact ⟨v10 + 1, o17 ++ ([((b * v8) + (a * v10)) % n]), ghe_to (n := 40) rfl rfl ⟨rfl, rfl, rfl, rfl, rfl, rfl, rfl, trivial⟩, h.1, h.2⟩
    · replace h := h.2 (of_decide_eq_false q4)
      refine aw_exit ?_
      refine aw_region ?_
      refine run_s (ss_move rfl) rfl ?_
      refine run_s (ss_move rfl) rfl ?_
      refine run_w (ws_buildSlice (id := 37) (ps := [(0, .tmp 36)]) rfl rfl (Nat.le_of_ble_eq_true rfl) rfl ⟨rfl, ?_⟩)
      refine run_gh (gh_fill (id := 37) (id2 := 17) (j := 0) rfl rfl (Nat.le_of_ble_eq_true rfl) rfl rfl rfl) ?_
      obtain ⟨q11, h⟩ := h
      refine run_w (ws_app1 (fun r => C.own (ints r)) (l := o11) (m := [o17]) rfl rfl rfl rfl rfl (Nat.le_of_ble_eq_true rfl) q11 ⟨rfl, ?_⟩)
      refine run_s (ss_assign rfl) rfl ?_
      refine run_nil ?_
      refine aw_gh (gh_to (n := 40) (σ' := [(11, ⟨orows (o11 ++ ([o17])), []⟩)]) (env' := [(0, .c (ci n)), (1, .c (ci a)), (2, .c (ci b)), (7, .ref 11), (8, .c (ci v8))]) rfl rfl ⟨rfl, rfl, rfl, rfl, rfl, trivial⟩) ?_
      refine aw_region ?_
      refine run_s (ss_move rfl) rfl ?_
      obtain ⟨q12, h⟩ := h
      refine run_s (ss_add rfl rfl q12) rfl ?_
      refine run_s (ss_assign rfl) rfl ?_
      refine run_nil ?_
      exact ⟨v8 + 1, o11 ++ ([o17]), ghe_to (n := 40) rfl rfl ⟨rfl, rfl, rfl, rfl, rfl, trivial⟩, h.1, h.2⟩
  · replace h := h.2 (of_decide_eq_false q2)
    refine aw_exit ?_
    refine aw_seq ?_
    refine aw_gh (gh_to (n := 40) (σ' := [(11, ⟨orows o11, []⟩)]) (env' := [(7, .ref 11)]) rfl rfl ⟨rfl, trivial⟩) ?_
    refine aw_region ?_
    refine run_s (ss_move rfl) rfl ?_
    refine run_s (ss_assign rfl) rfl ?_
    refine run_nil ?_
    refine aw_ret ?_
    exact retAF_mk (retv1 rfl (rv_tmp rfl)) rfl rfl ⟨_, (cle_refl _), _, h, rfl⟩

theorem c_spec_l03Alexander (n : Int) (a : Int) (b : Int) (hp : 1 ≤ n ∧ n ≤ 1000 ∧ 0 ≤ a ∧ a ≤ 1000 ∧ 0 ≤ b ∧ b ≤ 1000) : AF Try.prog 33 [ci n, ci a, ci b] (fun r => r = .own (orows (tab n (fun x_ y_ => (b * x_ + a * y_) % n)))) :=
  (w_spec_l03Alexander n a b (fun y0 => y0 = tab n (fun x_ y_ => (b * x_ + a * y_) % n)) (p_spec_l03Alexander n a b hp)).mono (by rintro r ⟨_, rfl, rfl⟩; rfl)

set_option maxHeartbeats 1000000 in
theorem w_impl_rackBy_1 (x : Int) (y : Int) (value_g : Nat) (value_c : List C) (value : Int → Int → Int) (value_D : Int → Int → Prop) (value_h : ∀ x0 x1, value_D x0 x1 → AF Try.prog value_g ([ci x0, ci x1] ++ value_c) (fun r => r = ci (value x0 x1))) (Q : Int → Prop) (h : wp_impl_rackBy_1 x y value value_D Q) : AF Try.prog 57 [ci x, ci y, .ptr [.clo value_g value_c]] (fun r => ∃ y0, Q y0 ∧ r = ci y0) := by
  refine AF.ofWQ (af_enter (n := 10) Try.func57 rfl (by rfl) rfl (Nat.le_of_ble_eq_true rfl) ?_)
  unfold wp_impl_rackBy_1 at h
  refine aw_seq ?_
  refine aw_gh (gh_to (n := 10) (σ' := []) (env' := [(0, .c (ci x)), (1, .c (ci y)), (2, .c (.ptr [.clo value_g value_c]))]) rfl rfl ⟨rfl, rfl, rfl, trivial⟩) ?_
  refine aw_region ?_
  refine run_s (ss_assign rfl) rfl ?_
  refine run_nil ?_
  refine aw_seq ?_
  refine aw_region ?_
  refine run_s (ss_load_ptr rfl rfl) rfl ?_
  refine run_s (ss_move rfl) rfl ?_
  refine run_s (ss_move rfl) rfl ?_
  obtain ⟨q1, h⟩ := h
  refine run_w (ws_call (xs := [.tmp 7, .tmp 8]) (ids := []) rfl rfl rfl rfl (value_h x y q1) rfl ?_ )
  rintro _ rfl
  refine ⟨rfl, ?_⟩
  refine run_s (ss_assign rfl) rfl ?_
  refine run_nil ?_
  refine aw_ret ?_
  exact retAF_mk (retv1 rfl (rv_tmp rfl)) rfl rfl ⟨_, (cle_refl _), _, h, rfl⟩

theorem c_impl_rackBy_1 (x : Int) (y : Int) (value_g : Nat) (value_c : List C) (value : Int → Int → Int) (value_D : Int → Int → Prop) (value_h : ∀ x0 x1, value_D x0 x1 → AF Try.prog value_g ([ci x0, ci x1] ++ value_c) (fun r => r = ci (value x0 x1))) (hp : value_D x y ∧ InI (value x y)) : AF Try.prog 57 [ci x, ci y, .ptr [.clo value_g value_c]] (fun r => r = ci (value x y)) :=
  (w_impl_rackBy_1 x y value_g value_c value value_D value_h (fun y0 => y0 = value x y) (p_impl_rackBy_1 x y value value_D hp)).mono (by rintro r ⟨_, rfl, rfl⟩; rfl)

set_option maxHeartbeats 1000000 in
theorem w_impl_rackBy (n : Int) (value_g : Nat) (value_c : List C) (value : Int → Int → Int) (value_D : Int → Int → Prop) (value_h : ∀ x0 x1, value_D x0 x1 → AF Try.prog value_g ([ci x0, ci x1] ++ value_c) (fun r => r = ci (value x0 x1))) (Q : List (List Int) → Prop) (h : wp_impl_rackBy n value value_D Q) : AF Try.prog 35 [ci n, .clo value_g value_c] (fun r => ∃ y0, Q y0 ∧ r = .agg [.own (orows y0)]) := by
  refine AF.ofWQ (af_enter (n := 9) Try.func35 rfl (by rfl) rfl (Nat.le_of_ble_eq_true rfl) ?_)
  unfold wp_impl_rackBy at h
  refine aw_seq ?_
  refine aw_gh (gh_to (n := 9) (σ' := []) (env' := [(0, .c (ci n)), (1, .c (.clo value_g value_c))]) rfl rfl ⟨rfl, rfl, trivial⟩) ?_
  refine aw_region ?_
  refine run_w (ws_boxR rfl (.inr rfl) rfl ⟨rfl, ?_⟩)
  refine run_w (ws_alloc (id := 4) rfl (Nat.le_of_ble_eq_true rfl) ⟨rfl, ?_⟩)
  refine run_nil ?_
  refine aw_seq ?_
  refine aw_region ?_
  refine run_s (ss_move rfl) rfl ?_
  refine run_s (ss_makeFunc (os := [.tmp 3]) rfl) rfl ?_
  obtain ⟨q1, h⟩ := h
  refine run_w (ws_call (xs := [.tmp 5, .tmp 6]) (ids := [7]) rfl rfl rfl rfl (c_impl_tableBy n 57 [.ptr [.clo value_g value_c]] (fun z0 z1 => value z0 z1) (fun z0 z1 => value_D z0 z1 ∧ InI (value z0 z1)) (fun z0 z1 hD => c_impl_rackBy_1 z0 z1 value_g value_c value value_D value_h hD) q1) rfl ?_ )
  rintro _ rfl
  refine ⟨rfl, ?_⟩
  refine run_s (ss_build (ps := [(0, .tmp 7)]) rfl rfl) rfl ?_
  refine run_w (ws_storeS rfl rfl (Nat.le_of_ble_eq_true rfl) rfl rfl rfl ⟨rfl, ?_⟩)
  refine run_nil ?_
  refine aw_ret ?_
  exact retAF_mk (retv1 rfl (rv_struct rfl rfl rfl)) rfl rfl ⟨_, (cle_refl _), _, h, rfl⟩

theorem c_impl_rackBy (n : Int) (value_g : Nat) (value_c : List C) (value : Int → Int → Int) (value_D : Int → Int → Prop) (value_h : ∀ x0 x1, value_D x0 x1 → AF Try.prog value_g ([ci x0, ci x1] ++ value_c) (fun r => r = ci (value x0 x1))) (hp : 0 ≤ n ∧ n ≤ 1000000 ∧ ∀ x_ y_, 0 ≤ x_ → x_ < n → 0 ≤ y_ → y_ < n → value_D x_ y_ ∧ InI (value x_ y_)) : AF Try.prog 35 [ci n, .clo value_g value_c] (fun r => r = .agg [.own (orows (tab n value))]) :=
  (w_impl_rackBy n value_g value_c value value_D value_h (fun y0 => y0 = tab n value) (p_impl_rackBy n value value_D hp)).mono (by rintro r ⟨_, rfl, rfl⟩; rfl)

set_option maxHeartbeats 1000000 in
theorem w_impl_TrivialRack_1 (x : Int) (y : Int) (Q : Int → Prop) (h : wp_impl_TrivialRack_1 x y Q) : AF Try.prog 40 [ci x, ci y] (fun r => ∃ y0, Q y0 ∧ r = ci y0) := by
  refine AF.ofWQ (af_enter (n := 6) Try.func40 rfl (by rfl) rfl (Nat.le_of_ble_eq_true rfl) ?_)
  unfold wp_impl_TrivialRack_1 at h
  refine aw_seq ?_
  refine aw_gh (gh_to (n := 6) (σ' := []) (env' := [(1, .c (ci y))]) rfl rfl ⟨rfl, trivial⟩) ?_
  refine aw_region ?_
  refine run_s (ss_assign rfl) rfl ?_
  refine run_nil ?_
  refine aw_seq ?_
  refine aw_region ?_
  refine run_s (ss_move rfl) rfl ?_
  refine run_s (ss_assign rfl) rfl ?_
  refine run_nil ?_
  refine aw_ret ?_
  exact retAF_mk (retv1 rfl (rv_tmp rfl)) rfl rfl ⟨_, (cle_refl _), _, h, rfl⟩

theorem c_impl_TrivialRack_1 (x : Int) (y : Int)  : AF Try.prog 40 [ci x, ci y] (fun r => r = ci y) :=
  (w_impl_TrivialRack_1 x y (fun y0 => y0 = y) (p_impl_TrivialRack_1 x y)).mono (by rintro r ⟨_, rfl, rfl⟩; rfl)

set_option maxHeartbeats 1000000 in
theorem w_impl_DihedralQuandle_1 (x : Int) (y : Int) (n : Int) (Q : Int → Prop) (h : wp_impl_DihedralQuandle_1 x y n Q) : AF Try.prog 36 [ci x, ci y, .ptr [ci n]] (fun r => ∃ y0, Q y0 ∧ r = ci y0) := by
  refine AF.ofWQ (af_enter (n := 14) Try.func36 rfl (by rfl) rfl (Nat.le_of_ble_eq_true rfl) ?_)
  unfold wp_impl_DihedralQuandle_1 at h
  refine aw_seq ?_
  refine aw_gh (gh_to (n := 14) (σ' := []) (env' := [(0, .c (ci x)), (1, .c (ci y)), (2, .c (.ptr [ci n]))]) rfl rfl ⟨rfl, rfl, rfl, trivial⟩) ?_
  refine aw_region ?_
  refine run_s (ss_assign rfl) rfl ?_
  refine run_nil ?_
  refine aw_seq ?_
  refine aw_region ?_
  refine run_s (ss_move rfl) rfl ?_
  obtain ⟨q1, h⟩ := h
  refine run_s (ss_mul rfl rfl q1) rfl ?_
  refine run_s (ss_move rfl) rfl ?_
  obtain ⟨q2, h⟩ := h
  refine run_s (ss_sub rfl rfl q2) rfl ?_
  refine run_s (ss_load_ptr rfl rfl) rfl ?_
  obtain ⟨q3, h⟩ := h
  refine run_s (ss_add rfl rfl q3) rfl ?_
  refine run_s (ss_load_ptr rfl rfl) rfl ?_
  obtain ⟨q4, h⟩ := h
  refine run_s (ss_rem rfl rfl q4) rfl ?_
  refine run_s (ss_assign rfl) rfl ?_
  refine run_nil ?_
  refine aw_ret ?_
  exact retAF_mk (retv1 rfl (rv_tmp rfl)) rfl rfl ⟨_, (cle_refl _), _, h, rfl⟩

theorem c_impl_DihedralQuandle_1 (x : Int) (y : Int) (n : Int) (hp : 1 ≤ n ∧ n ≤ 1000 ∧ 0 ≤ x ∧ x < n ∧ 0 ≤ y ∧ y < n) : AF Try.prog 36 [ci x, ci y, .ptr [ci n]] (fun r => r = ci ((2 * x - y + n) % n)) :=
  (w_impl_DihedralQuandle_1 x y n (fun y0 => y0 = (2 * x - y + n) % n) (p_impl_DihedralQuandle_1 x y n hp)).mono (by rintro r ⟨_, rfl, rfl⟩; rfl)

set_option maxHeartbeats 1000000 in
theorem w_impl_AlexanderQuandle_1 (x : Int) (y : Int) (m : Int) (b : Int) (Q : Int → Prop) (h : wp_impl_AlexanderQuandle_1 x y m b Q) : AF Try.prog 43 [ci x, ci y, .ptr [ci m], .ptr [ci b]] (fun r => ∃ y0, Q y0 ∧ r = ci y0) := by
  refine AF.ofWQ (af_enter (n := 19) Try.func43 rfl (by rfl) rfl (Nat.le_of_ble_eq_true rfl) ?_)
  unfold wp_impl_AlexanderQuandle_1 at h
  refine aw_seq ?_
  refine aw_gh (gh_to (n := 19) (σ' := []) (env' := [(0, .c (ci x)), (1, .c (ci y)), (2, .c (.ptr [ci m])), (3, .c (.ptr [ci b]))]) rfl rfl ⟨rfl, rfl, rfl, rfl, trivial⟩) ?_
  refine aw_region ?_
  refine run_s (ss_assign rfl) rfl ?_
  refine run_nil ?_
  refine aw_seq ?_
  refine aw_region ?_
  refine run_s (ss_load_ptr rfl rfl) rfl ?_
  obtain ⟨q1, h⟩ := h
  refine run_s (ss_add rfl rfl q1) rfl ?_
  refine run_s (ss_load_ptr rfl rfl) rfl ?_
  obtain ⟨q2, h⟩ := h
  refine run_s (ss_sub rfl rfl q2) rfl ?_
  refine run_s (ss_move rfl) rfl ?_
  obtain ⟨q3, h⟩ := h
  refine run_s (ss_mul rfl rfl q3) rfl ?_
  refine run_s (ss_load_ptr rfl rfl) rfl ?_
  refine run_s (ss_move rfl) rfl ?_
  obtain ⟨q4, h⟩ := h
  refine run_s (ss_mul rfl rfl q4) rfl ?_
  obtain ⟨q5, h⟩ := h
  refine run_s (ss_add rfl rfl q5) rfl ?_
  refine run_s (ss_load_ptr rfl rfl) rfl ?_
  obtain ⟨q6, h⟩ := h
  refine run_s (ss_rem rfl rfl q6) rfl ?_
  refine run_s (ss_assign rfl) rfl ?_
  refine run_nil ?_
  refine aw_ret ?_
  exact retAF_mk (retv1 rfl (rv_tmp rfl)) rfl rfl ⟨_, (cle_refl _), _, h, rfl⟩

theorem c_impl_AlexanderQuandle_1 (x : Int) (y : Int) (m : Int) (b : Int) (hp : 1 ≤ m ∧ m ≤ 1000 ∧ 0 ≤ b ∧ b < m ∧ 0 ≤ x ∧ x < m ∧ 0 ≤ y ∧ y < m) : AF Try.prog 43 [ci x, ci y, .ptr [ci m], .ptr [ci b]] (fun r => r = ci (((m + 1 - b) * x + b * y) % m)) :=
  (w_impl_AlexanderQuandle_1 x y m b (fun y0 => y0 = ((m + 1 - b) * x + b * y) % m) (p_impl_AlexanderQuandle_1 x y m b hp)).mono (by rintro r ⟨_, rfl, rfl⟩; rfl)

set_option maxHeartbeats 1000000 in
theorem w_impl_PermutationRack_1 (x : Int) (y : Int) (p : List Int) (Q : Int → Prop) (h : wp_impl_PermutationRack_1 x y p Q) : AF Try.prog 47 [ci x, ci y, .ptr [.lst (ints p)]] (fun r => ∃ y0, Q y0 ∧ r = ci y0) := by
  refine AF.ofWQ (af_enter (n := 10) Try.func47 rfl (by rfl) rfl (Nat.le_of_ble_eq_true rfl) ?_)
  unfold wp_impl_PermutationRack_1 at h
  refine aw_seq ?_
  refine aw_gh (gh_to (n := 10) (σ' := []) (env' := [(1, .c (ci y)), (2, .c (.ptr [.lst (ints p)]))]) rfl rfl ⟨rfl, rfl, trivial⟩) ?_
  refine aw_region ?_
  refine run_s (ss_assign rfl) rfl ?_
  refine run_nil ?_
  refine aw_seq ?_
  refine aw_region ?_
  refine run_s (ss_load_ptr rfl rfl) rfl ?_
  refine run_s (ss_move rfl) rfl ?_
  obtain ⟨q1, h⟩ := h
  refine run_s (ss_idxL rfl rfl q1) rfl ?_
  refine run_s (ss_loadL (f := ci) rfl q1) rfl ?_
  refine run_s (ss_assign rfl) rfl ?_
  refine run_nil ?_
  refine aw_ret ?_
  exact retAF_mk (retv1 rfl (rv_tmp rfl)) rfl rfl ⟨_, (cle_refl _), _, h, rfl⟩

theorem c_impl_PermutationRack_1 (x : Int) (y : Int) (p : List Int) (hp : 0 ≤ y ∧ y < (p.length : Int) ∧ InI (el p y)) : AF Try.prog 47 [ci x, ci y, .ptr [.lst (ints p)]] (fun r => r = ci (el p y)) :=
  (w_impl_PermutationRack_1 x y p (fun y0 => y0 = el p y) (p_impl_PermutationRack_1 x y p hp)).mono (by rintro r ⟨_, rfl, rfl⟩; rfl)

set_option maxHeartbeats 1000000 in
theorem w_spec_TrivialRack (n : Int) (Q : List (List Int) → Int → Prop) (h : wp_spec_TrivialRack n Q) : AF Try.prog 14 [ci n] (fun r => ∃ y0 y1, Q y0 y1 ∧ r = .tup [.agg [.own (orows y0)], ci y1]) := by
  refine AF.ofWQ (af_enter (n := 13) Try.func14 rfl (by rfl) rfl (Nat.le_of_ble_eq_true rfl) ?_)
  unfold wp_spec_TrivialRack at h
  refine aw_seq ?_
  refine aw_gh (gh_to (n := 13) (σ' := []) (env' := [(0, .c (ci n))]) rfl rfl ⟨rfl, trivial⟩) ?_
  refine aw_region ?_
  refine run_w (ws_alloc (id := 2) rfl (Nat.le_of_ble_eq_true rfl) ⟨rfl, ?_⟩)
  refine run_s (ss_assign rfl) rfl ?_
  refine run_nil ?_
  refine aw_seq ?_
  refine aw_seq ?_
  refine aw_region ?_
  refine run_s (ss_move rfl) rfl ?_
  refine run_w (ws_call (xs := [.tmp 4, .const (.int .i64 (1)), .const (.int .i64 (12))]) (ids := []) rfl rfl rfl rfl (c_spec_l01In n 1 12) rfl ?_ )
  rintro _ rfl
  refine ⟨rfl, ?_⟩
  refine run_s (ss_not rfl) rfl ?_
  refine run_nil ?_
  refine aw_cond rfl (fun q2 => ?_) (fun q2 => ?_)
  · replace h := h.1 ((bnot_t q2))
    refine aw_seq ?_
    refine aw_gh (gh_to (n := 13) (σ' := [(2, ⟨[cnil], []⟩)]) (env' := [(2, .cell 2 0), (3, .c (ci 0))]) rfl rfl ⟨rfl, rfl, trivial⟩) ?_
    refine aw_region ?_
    refine run_s (ss_build0) rfl ?_
    refine run_w (ws_storeS rfl rfl (Nat.le_of_ble_eq_true rfl) rfl rfl rfl ⟨rfl, ?_⟩)
    refine run_s (ss_assign rfl) rfl ?_
    refine run_nil ?_
    refine aw_ret ?_
    exact retAF_mk (retv2 rfl (rv_struct rfl rfl rfl) (rv_tmp rfl)) rfl rfl ⟨_, (cle_tup (cleL_cons (cle_agg (cleL_cons cle_nilO cleL_nil)) (cleL_cons (cle_refl _) cleL_nil))), _, _, h, rfl⟩
  · replace h := h.2 ((bnot_f q2))
    refine aw_skip ?_
    refine aw_seq ?_
    refine aw_region ?_
    refine run_s (ss_move rfl) rfl ?_
    refine run_s (ss_move rfl) rfl ?_
    obtain ⟨q3, h⟩ := h
    refine run_s (ss_rem rfl rfl q3) rfl ?_
    obtain ⟨q4, h⟩ := h
    refine run_w (ws_call (xs := [.tmp 8, .tmp 10, .const (.int .i64 (0))]) (ids := [11]) rfl rfl rfl rfl (c_spec_l03Alexander n (1 % n) 0 q4) rfl ?_ )
    rintro _ rfl
    refine ⟨rfl, ?_⟩
    refine run_s (ss_build (ps := [(0, .tmp 11)]) rfl rfl) rfl ?_
    refine run_w (ws_storeS rfl rfl (Nat.le_of_ble_eq_true rfl) rfl rfl rfl ⟨rfl, ?_⟩)
    refine run_s (ss_assign rfl) rfl ?_
    refine run_nil ?_
    refine aw_ret ?_
    exact retAF_mk (retv2 rfl (rv_struct rfl rfl rfl) (rv_tmp rfl)) rfl rfl ⟨_, (cle_refl _), _, _, h, rfl⟩

theorem c_spec_TrivialRack (n : Int)  : AF Try.prog 14 [ci n] (fun r => r = .tup [.agg [.own (orows (TrivT n))], ci (TrivE n)]) :=
  (w_spec_TrivialRack n (fun y0 y1 => y0 = TrivT n ∧ y1 = TrivE n) (p_spec_TrivialRack n)).mono (by rintro r ⟨_, _, ⟨rfl, rfl⟩, rfl⟩; rfl)

set_option maxHeartbeats 1000000 in
theorem w_spec_DihedralQuandle (n : Int) (Q : List (List Int) → Int → Prop) (h : wp_spec_DihedralQuandle n Q) : AF Try.prog 9 [ci n] (fun r => ∃ y0 y1, Q y0 y1 ∧ r = .tup [.agg [.own (orows y0)], ci y1]) := by
  refine AF.ofWQ (af_enter (n := 15) Try.func9 rfl (by rfl) rfl (Nat.le_of_ble_eq_true rfl) ?_)
  unfold wp_spec_DihedralQuandle at h
  refine aw_seq ?_
  refine aw_gh (gh_to (n := 15) (σ' := []) (env' := [(0, .c (ci n))]) rfl rfl ⟨rfl, trivial⟩) ?_
  refine aw_region ?_
  refine run_w (ws_alloc (id := 2) rfl (Nat.le_of_ble_eq_true rfl) ⟨rfl, ?_⟩)
  refine run_s (ss_assign rfl) rfl ?_
  refine run_nil ?_
  refine aw_seq ?_
  refine aw_seq ?_
  refine aw_region ?_
  refine run_s (ss_move rfl) rfl ?_
  refine run_w (ws_call (xs := [.tmp 4, .const (.int .i64 (1)), .const (.int .i64 (12))]) (ids := []) rfl rfl rfl rfl (c_spec_l01In n 1 12) rfl ?_ )
  rintro _ rfl
  refine ⟨rfl, ?_⟩
  refine run_s (ss_not rfl) rfl ?_
  refine run_nil ?_
  refine aw_cond rfl (fun q2 => ?_) (fun q2 => ?_)
  · replace h := h.1 ((bnot_t q2))
    refine aw_seq ?_
    refine aw_gh (gh_to (n := 15) (σ' := [(2, ⟨[cnil], []⟩)]) (env' := [(2, .cell 2 0), (3, .c (ci 0))]) rfl rfl ⟨rfl, rfl, trivial⟩) ?_
    refine aw_region ?_
    refine run_s (ss_build0) rfl ?_
    refine run_w (ws_storeS rfl rfl (Nat.le_of_ble_eq_true rfl) rfl rfl rfl ⟨rfl, ?_⟩)
    refine run_s (ss_assign rfl) rfl ?_
    refine run_nil ?_
    refine aw_ret ?_
    exact retAF_mk (retv2 rfl (rv_struct rfl rfl rfl) (rv_tmp rfl)) rfl rfl ⟨_, (cle_tup (cleL_cons (cle_agg (cleL_cons cle_nilO cleL_nil)) (cleL_cons (cle_refl _) cleL_nil))), _, _, h, rfl⟩
  · replace h := h.2 ((bnot_f q2))
    refine aw_skip ?_
    refine aw_seq ?_
    refine aw_region ?_
    refine run_s (ss_move rfl) rfl ?_
    refine run_s (ss_move rfl) rfl ?_
    obtain ⟨q3, h⟩ := h
    refine run_s (ss_sub rfl rfl q3) rfl ?_
    refine run_s (ss_move rfl) rfl ?_
    obtain ⟨q4, h⟩ := h
    refine run_s (ss_rem rfl rfl q4) rfl ?_
    obtain ⟨q5, h⟩ := h
    refine run_w (ws_call (xs := [.tmp 8, .tmp 10, .tmp 12]) (ids := [13]) rfl rfl rfl rfl (c_spec_l03Alexander n (n - 1) (2 % n) q5) rfl ?_ )
    rintro _ rfl
    refine ⟨rfl, ?_⟩
    refine run_s (ss_build (ps := [(0, .tmp 13)]) rfl rfl) rfl ?_
    refine run_w (ws_storeS rfl rfl (Nat.le_of_ble_eq_true rfl) rfl rfl rfl ⟨rfl, ?_⟩)
    refine run_s (ss_assign rfl) rfl ?_
    refine run_nil ?_
    refine aw_ret ?_
    exact retAF_mk (retv2 rfl (rv_struct rfl rfl rfl) (rv_tmp rfl)) rfl rfl ⟨_, (cle_refl _), _, _, h, rfl⟩

theorem c_spec_DihedralQuandle (n : Int)  : AF Try.prog 9 [ci n] (fun r => r = .tup [.agg [.own (orows (DiheT n))], ci (TrivE n)]) :=
  (w_spec_DihedralQuandle n (fun y0 y1 => y0 = DiheT n ∧ y1 = TrivE n) (p_spec_DihedralQuandle n)).mono (by rintro r ⟨_, _, ⟨rfl, rfl⟩, rfl⟩; rfl)

set_option maxHeartbeats 1000000 in
theorem w_spec_AlexanderQuandle (n : Int) (a : Int) (Q : List (List Int) → Int → Prop) (h : wp_spec_AlexanderQuandle n a Q) : AF Try.prog 16 [ci n, ci a] (fun r => ∃ y0 y1, Q y0 y1 ∧ r = .tup [.agg [.own (orows y0)], ci y1]) := by
  refine AF.ofWQ (af_enter (n := 34) Try.func16 rfl (by rfl) rfl (Nat.le_of_ble_eq_true rfl) ?_)
  unfold wp_spec_AlexanderQuandle at h
  refine aw_seq ?_
  refine aw_gh (gh_to (n := 34) (σ' := []) (env' := [(0, .c (ci n)), (1, .c (ci a))]) rfl rfl ⟨rfl, rfl, trivial⟩) ?_
  refine aw_region ?_
  refine run_w (ws_alloc (id := 4) rfl (Nat.le_of_ble_eq_true rfl) ⟨rfl, ?_⟩)
  refine run_s (ss_assign rfl) rfl ?_
  refine run_nil ?_
  refine aw_seq ?_
  refine aw_block ?_
  refine aw_seq ?_
  refine aw_region ?_
  refine run_s (ss_move rfl) rfl ?_
  refine run_w (ws_call (xs := [.tmp 7, .const (.int .i64 (1)), .const (.int .i64 (12))]) (ids := []) rfl rfl rfl rfl (c_spec_l01In n 1 12) rfl ?_ )
  rintro _ rfl
  refine ⟨rfl, ?_⟩
  refine run_s (ss_not rfl) rfl ?_
  refine run_s (ss_move rfl) rfl ?_
  refine run_split (s := 10) rfl (fun q2 => ?_) (fun q2 => ?_)
  · replace h := h.1 ((bnot_t q2))
    refine run_gf rfl rfl q2 rfl ?_
    refine run_gf rfl rfl q2 rfl ?_
    refine run_gf rfl rfl q2 rfl ?_
    refine run_gf rfl rfl q2 rfl ?_
    refine run_gf rfl rfl q2 rfl ?_
    refine run_s (ss_pickT rfl q2 rfl) rfl ?_
    refine run_s (ss_assign rfl) rfl ?_
    refine run_nil ?_
    refine aw_cond rfl (fun q3 => ?_) (fun q3 => ?_)
    · skip
      refine aw_seq ?_
      refine aw_gh (gh_to (n := 34) (σ' := [(4, ⟨[cnil], []⟩)]) (env' := [(4, .cell 4 0), (5, .c (ci 0))]) rfl rfl ⟨rfl, rfl, trivial⟩) ?_
      refine aw_region ?_
      refine run_s (ss_build0) rfl ?_
      refine run_w (ws_storeS rfl rfl (Nat.le_of_ble_eq_true rfl) rfl rfl rfl ⟨rfl, ?_⟩)
      refine run_s (ss_assign rfl) rfl ?_
      refine run_nil ?_
      refine aw_ret ?_
      exact retAF_mk (retv2 rfl (rv_struct rfl rfl rfl) (rv_tmp rfl)) rfl rfl ⟨_, (cle_tup (cleL_cons (cle_agg (cleL_cons cle_nilO cleL_nil)) (cleL_cons (cle_refl _) cleL_nil))), _, _, h, rfl⟩
    · cases q3
  · replace h := h.2 ((bnot_f q2))
    refine run_gt rfl rfl q2 ?_
    refine run_s (ss_move rfl) rfl ?_
    refine run_gt rfl rfl q2 ?_
    refine run_s (ss_move rfl) rfl ?_
    refine run_gt rfl rfl q2 ?_
    obtain ⟨q4, h⟩ := h
    refine run_s (ss_sub rfl rfl q4) rfl ?_
    refine run_gt rfl rfl q2 ?_
    refine run_w (ws_call (xs := [.tmp 11, .const (.int .i64 (0)), .tmp 13]) (ids := []) rfl rfl rfl rfl (c_spec_l01In a 0 (n - 1)) rfl ?_ )
    rintro _ rfl
    refine ⟨rfl, ?_⟩
    refine run_gt rfl rfl q2 ?_
    refine run_s (ss_not rfl) rfl ?_
    refine run_s (ss_pickF rfl q2 rfl) rfl ?_
    refine run_s (ss_assign rfl) rfl ?_
    refine run_nil ?_
    refine aw_cond rfl (fun q6 => ?_) (fun q6 => ?_)
    · replace h := h.1 ((bnot_t q6))
      refine aw_seq ?_
      refine aw_gh (gh_to (n := 34) (σ' := [(4, ⟨[cnil], []⟩)]) (env' := [(4, .cell 4 0), (5, .c (ci 0))]) rfl rfl ⟨rfl, rfl, trivial⟩) ?_
      refine aw_region ?_
      refine run_s (ss_build0) rfl ?_
      refine run_w (ws_storeS rfl rfl (Nat.le_of_ble_eq_true rfl) rfl rfl rfl ⟨rfl, ?_⟩)
      refine run_s (ss_assign rfl) rfl ?_
      refine run_nil ?_
      refine aw_ret ?_
      exact retAF_mk (retv2 rfl (rv_struct rfl rfl rfl) (rv_tmp rfl)) rfl rfl ⟨_, (cle_tup (cleL_cons (cle_agg (cleL_cons cle_nilO cleL_nil)) (cleL_cons (cle_refl _) cleL_nil))), _, _, h, rfl⟩
    · replace h := h.2 ((bnot_f q6))
      refine aw_seq ?_
      refine aw_gh (gh_to (n := 34) (σ' := [(4, ⟨[cnil], []⟩)]) (env' := [(0, .c (ci n)), (1, .c (ci a)), (4, .cell 4 0)]) rfl rfl ⟨rfl, rfl, rfl, trivial⟩) ?_
      refine aw_region ?_
      refine run_s (ss_move rfl) rfl ?_
      refine run_s (ss_move rfl) rfl ?_
      obtain ⟨q7, h⟩ := h
      refine run_w (ws_call (xs := [.tmp 19, .tmp 20]) (ids := []) rfl rfl rfl rfl (c_spec_l03Coprime a n q7) rfl ?_ )
      rintro _ rfl
      refine ⟨rfl, ?_⟩
      refine run_s (ss_not rfl) rfl ?_
      refine run_s (ss_assign rfl) rfl ?_
      refine run_nil ?_
      refine aw_cond rfl (fun q9 => ?_) (fun q9 => ?_)
      · replace h := h.1 ((bnot_t q9))
        refine aw_seq ?_
        refine aw_gh (gh_to (n := 34) (σ' := [(4, ⟨[cnil], []⟩)]) (env' := [(4, .cell 4 0)]) rfl rfl ⟨rfl, trivial⟩) ?_
        refine aw_region ?_
        refine run_s (ss_build0) rfl ?_
        refine run_w (ws_storeS rfl rfl (Nat.le_of_ble_eq_true rfl) rfl rfl rfl ⟨rfl, ?_⟩)
        refine run_s (ss_assign rfl) rfl ?_
        refine run_nil ?_
        refine aw_ret ?_
        exact retAF_mk (retv2 rfl (rv_struct rfl rfl rfl) (rv_tmp rfl)) rfl rfl ⟨_, (cle_tup (cleL_cons (cle_agg (cleL_cons cle_nilO cleL_nil)) (cleL_cons (cle_refl _) cleL_nil))), _, _, h, rfl⟩
      · replace h := h.2 ((bnot_f q9))
        refine aw_skip ?_
        refine aw_seq ?_
        refine aw_region ?_
        refine run_s (ss_move rfl) rfl ?_
        refine run_s (ss_move rfl) rfl ?_
        refine run_s (ss_move rfl) rfl ?_
        obtain ⟨q10, h⟩ := h
        refine run_s (ss_sub rfl rfl q10) rfl ?_
        refine run_s (ss_move rfl) rfl ?_
        obtain ⟨q11, h⟩ := h
        refine run_s (ss_add rfl rfl q11) rfl ?_
        refine run_s (ss_move rfl) rfl ?_
        obtain ⟨q12, h⟩ := h
        refine run_s (ss_rem rfl rfl q12) rfl ?_
        obtain ⟨q13, h⟩ := h
        refine run_w (ws_call (xs := [.tmp 24, .tmp 25, .tmp 31]) (ids := [32]) rfl rfl rfl rfl (c_spec_l03Alexander n a (((1 - a) + n) % n) q13) rfl ?_ )
        rintro _ rfl
        refine ⟨rfl, ?_⟩
        refine run_s (ss_build (ps := [(0, .tmp 32)]) rfl rfl) rfl ?_
        refine run_w (ws_storeS rfl rfl (Nat.le_of_ble_eq_true rfl) rfl rfl rfl ⟨rfl, ?_⟩)
        refine run_s (ss_assign rfl) rfl ?_
        refine run_nil ?_
        refine aw_ret ?_
        exact retAF_mk (retv2 rfl (rv_struct rfl rfl rfl) (rv_tmp rfl)) rfl rfl ⟨_, (cle_refl _), _, _, h, rfl⟩

theorem c_spec_AlexanderQuandle (n : Int) (a : Int) (hp : InI n) : AF Try.prog 16 [ci n, ci a] (fun r => r = .tup [.agg [.own (orows (AlexT n a))], ci (AlexE n a)]) :=
  (w_spec_AlexanderQuandle n a (fun y0 y1 => y0 = AlexT n a ∧ y1 = AlexE n a) (p_spec_AlexanderQuandle n a hp)).mono (by rintro r ⟨_, _, ⟨rfl, rfl⟩, rfl⟩; rfl)

set_option maxHeartbeats 1000000 in
theorem w_spec_PermutationRack (p : List Int) (Q : List (List Int) → Int → Prop) (h : wp_spec_PermutationRack p Q) : AF Try.prog 18 [.lst (ints p)] (fun r => ∃ y0 y1, Q y0 y1 ∧ r = .tup [.agg [.own (orows y0)], ci y1]) := by
  refine AF.ofWQ (af_enter (n := 25) Try.func18 rfl (by rfl) rfl (Nat.le_of_ble_eq_true rfl) ?_)
  unfold wp_spec_PermutationRack at h
  refine aw_seq ?_
  refine aw_gh (gh_to (n := 25) (σ' := []) (env' := [(0, .c (.lst (ints p)))]) rfl rfl ⟨rfl, trivial⟩) ?_
  refine aw_region ?_
  refine run_w (ws_alloc (id := 2) rfl (Nat.le_of_ble_eq_true rfl) ⟨rfl, ?_⟩)
  refine run_s (ss_assign rfl) rfl ?_
  refine run_nil ?_
  refine aw_seq ?_
  refine aw_seq ?_
  refine aw_region ?_
  refine run_s (ss_move rfl) rfl ?_
  obtain ⟨q1, h⟩ := h
  refine run_w (ws_call (xs := [.tmp 6]) (ids := []) rfl rfl rfl rfl (c_spec_l01Perm p q1) rfl ?_ )
  rintro _ rfl
  refine ⟨rfl, ?_⟩
  refine run_s (ss_not rfl) rfl ?_
  refine run_nil ?_
  refine aw_cond rfl (fun q3 => ?_) (fun q3 => ?_)
  · replace h := h.1 ((bnot_t q3))
    refine aw_seq ?_
    refine aw_gh (gh_to (n := 25) (σ' := [(2, ⟨[cnil], []⟩)]) (env' := [(2, .cell 2 0), (3, .c (ci 0))]) rfl rfl ⟨rfl, rfl, trivial⟩) ?_
    refine aw_region ?_
    refine run_s (ss_build0) rfl ?_
    refine run_w (ws_storeS rfl rfl (Nat.le_of_ble_eq_true rfl) rfl rfl rfl ⟨rfl, ?_⟩)
    refine run_s (ss_assign rfl) rfl ?_
    refine run_nil ?_
    refine aw_ret ?_
    exact retAF_mk (retv2 rfl (rv_struct rfl rfl rfl) (rv_tmp rfl)) rfl rfl ⟨_, (cle_tup (cleL_cons (cle_agg (cleL_cons cle_nilO cleL_nil)) (cleL_cons (cle_refl _) cleL_nil))), _, _, h, rfl⟩
  · replace h := h.2 ((bnot_f q3))
    refine aw_skip ?_
    refine aw_seq ?_
    refine aw_region ?_
    refine run_s (ss_build0) rfl ?_
    refine run_w (ws_alloc (id := 4) rfl (Nat.le_of_ble_eq_true rfl) ⟨rfl, ?_⟩)
    refine run_w (ws_storeS rfl rfl (Nat.le_of_ble_eq_true rfl) rfl rfl rfl ⟨rfl, ?_⟩)
    refine run_nil ?_
    refine aw_seq ?_
    refine aw_seq ?_
    refine aw_gh (gh_to (n := 25) (σ' := [(4, ⟨[cnil], []⟩), (2, ⟨[cnil], []⟩)]) (env' := [(0, .c (.lst (ints p))), (2, .cell 2 0), (4, .cell 4 0)]) rfl rfl ⟨rfl, rfl, rfl, trivial⟩) ?_
    refine aw_region ?_
    refine run_s (ss_assign rfl) rfl ?_
    refine run_nil ?_
    refine aw_block ?_
    obtain ⟨H1, m1, q4, h⟩ := h
    refine aw_loop2 (fun (v5 : Int) (o764 : List (List Int)) => ⟨[(764, ⟨orows o764, []⟩), (4, ⟨[.hole], [(0, .ref 764)]⟩), (2, ⟨[cnil], []⟩)], [(0, .c (.lst (ints p))), (2, .cell 2 0), (4, .cell 4 0), (5, .c (ci v5))], 25⟩) H1 m1 ⟨0, ([] : List (List Int)), ghe_step (gh_nilH (id0 := 4) (j := 0) (id := 764) rfl rfl rfl rfl) (ghe_to (n := 25) rfl rfl ⟨rfl, rfl, rfl, rfl, trivial⟩), q4⟩ ?_
    rintro v5 o764 q4
    replace h := h v5 o764 q4
    refine aw_seq ?_
    refine aw_seq ?_
    refine aw_region ?_
    refine run_s (ss_move rfl) rfl ?_
    refine run_s (ss_move rfl) rfl ?_
    refine run_s (ss_lenL (f := ci) rfl) rfl ?_
    refine run_s (ss_lss rfl rfl) rfl ?_
    refine run_nil ?_
    refine aw_cond rfl (fun q5 => ?_) (fun q5 => ?_)
    · replace h := h.1 (of_decide_eq_true q5)
      refine aw_skip ?_
      refine aw_seq ?_
      refine aw_block ?_
      refine aw_gh (gh_to (n := 25) (σ' := [(764, ⟨orows o764, []⟩), (4, ⟨[.hole], [(0, .ref 764)]⟩), (2, ⟨[cnil], []⟩)]) (env' := [(0, .c (.lst (ints p))), (2, .cell 2 0), (4, .cell 4 0), (5, .c (ci v5))]) rfl rfl ⟨rfl, rfl, rfl, rfl, trivial⟩) ?_
      refine aw_regionD (kd := kdl [0, 1, 0, 2, 2, 2, 0, 3]) (ord := [0, 2, 1, 3, 4, 5, 6, 7]) [20, 21, 764] mixed (by kernel_rfl) ?_
      refine rd_s rfl rfl trivial (ss_field_cell rfl) rfl ?_
      refine rd_s rfl rfl trivial (ss_move rfl) rfl ?_
      refine rd_l rfl rfl trivial (ss_loadH rfl rfl rfl rfl) rfl ?_
      obtain ⟨q6, h⟩ := h
      refine rd_w rfl rfl trivial rfl rfl (ws_call (xs := [.tmp 19]) (ids := [20]) rfl rfl rfl rfl (c_spec_l01Own p q6) rfl ?_ )
      rintro _ rfl
      refine ⟨rfl, ?_⟩
      refine rd_w rfl rfl trivial rfl rfl (ws_buildSlice (id := 21) (ps := [(0, .tmp 20)]) rfl rfl (Nat.le_of_ble_eq_true rfl) rfl ⟨rfl, ?_⟩)
      obtain ⟨q8, h⟩ := h
      refine rd_w rfl rfl trivial rfl rfl (ws_gh (gh_fill (id := 21) (id2 := 20) (j := 0) rfl rfl (Nat.le_of_ble_eq_true rfl) rfl rfl rfl) (ws_app1 (fun r => C.own (ints r)) (l := o764) (m := [p]) rfl rfl rfl rfl rfl (Nat.le_of_ble_eq_true rfl) q8 ⟨rfl, ?_⟩))
      refine rd_s rfl rfl trivial (ss_field_cell rfl) rfl ?_
      refine rd_f rfl rfl trivial (ws_store rfl rfl (Nat.le_of_ble_eq_true rfl) rfl rfl ⟨rfl, ?_⟩)
      refine rd_nil ?_
      refine aw_gh (gh_to (n := 25) (σ' := [(764, ⟨orows (o764 ++ ([p])), []⟩), (4, ⟨[.hole], [(0, .ref 764)]⟩), (2, ⟨[cnil], []⟩)]) (env' := [(0, .c (.lst (ints p))), (2, .cell 2 0), (4, .cell 4 0), (5, .c (ci v5))]) rfl rfl ⟨rfl, rfl, rfl, rfl, trivial⟩) ?_
      refine aw_region ?_
      refine run_s (ss_move rfl) rfl ?_
      obtain ⟨q9, h⟩ := h
      refine run_s (ss_add rfl rfl q9) rfl ?_
      refine run_s (ss_assign rfl) rfl ?_
      refine run_nil ?_
      exact ⟨v5 + 1, o764 ++ ([p]), ghe_to (n := 25) rfl rfl ⟨rfl, rfl, rfl, rfl, trivial⟩, h.1, h.2⟩
    · replace h := h.2 (of_decide_eq_false q5)
      refine aw_exit ?_
      refine aw_seq ?_
      refine aw_gh (gh_to (n := 25) (σ' := [(764, ⟨orows o764, []⟩), (4, ⟨[.hole], [(0, .ref 764)]⟩), (2, ⟨[cnil], []⟩)]) (env' := [(2, .cell 2 0), (4, .cell 4 0)]) rfl rfl ⟨rfl, rfl, trivial⟩) ?_
      refine aw_region ?_
      refine run_s (ss_loadS rfl rfl rfl rfl) rfl ?_
      refine run_w (ws_storeS rfl rfl (Nat.le_of_ble_eq_true rfl) rfl rfl rfl ⟨rfl, ?_⟩)
      refine run_s (ss_assign rfl) rfl ?_
      refine run_nil ?_
      refine aw_ret ?_
      exact retAF_mk (retv2 rfl (rv_struct rfl rfl rfl) (rv_tmp rfl)) rfl rfl ⟨_, (cle_refl _), _, _, h, rfl⟩

theorem c_spec_PermutationRack (p : List Int) (hp : small p) : AF Try.prog 18 [.lst (ints p)] (fun r => r = .tup [.agg [.own (orows (PermT p))], ci (PermE p)]) :=
  (w_spec_PermutationRack p (fun y0 y1 => y0 = PermT p ∧ y1 = PermE p) (p_spec_PermutationRack p hp)).mono (by rintro r ⟨_, _, ⟨rfl, rfl⟩, rfl⟩; rfl)

set_option maxHeartbeats 1000000 in
theorem w_impl_TrivialRack (n : Int) (Q : List (List Int) → Int → Prop) (h : wp_impl_TrivialRack n Q) : AF Try.prog 15 [ci n] (fun r => ∃ y0 y1, Q y0 y1 ∧ r = .tup [.agg [.own (orows y0)], ci y1]) := by
  refine AF.ofWQ (af_enter (n := 10) Try.func15 rfl (by rfl) rfl (Nat.le_of_ble_eq_true rfl) ?_)
  unfold wp_impl_TrivialRack at h
  refine aw_seq ?_
  refine aw_gh (gh_to (n := 10) (σ' := []) (env' := [(0, .c (ci n))]) rfl rfl ⟨rfl, trivial⟩) ?_
  refine aw_region ?_
  refine run_w (ws_alloc (id := 2) rfl (Nat.le_of_ble_eq_true rfl) ⟨rfl, ?_⟩)
  refine run_s (ss_assign rfl) rfl ?_
  refine run_nil ?_
  refine aw_seq ?_
  refine aw_seq ?_
  refine aw_region ?_
  refine run_s (ss_move rfl) rfl ?_
  refine run_w (ws_call (xs := [.tmp 4, .const (.int .i64 (1)), .const (.int .i64 (12))]) (ids := []) rfl rfl rfl rfl (c_impl_within n 1 12) rfl ?_ )
  rintro _ rfl
  refine ⟨rfl, ?_⟩
  refine run_s (ss_not rfl) rfl ?_
  refine run_nil ?_
  refine aw_cond rfl (fun q2 => ?_) (fun q2 => ?_)
  · replace h := h.1 ((bnot_t q2))
    refine aw_seq ?_
    refine aw_gh (gh_to (n := 10) (σ' := [(2, ⟨[cnil], []⟩)]) (env' := [(2, .cell 2 0), (3, .c (ci 0))]) rfl rfl ⟨rfl, rfl, trivial⟩) ?_
    refine aw_region ?_
    refine run_s (ss_build0) rfl ?_
    refine run_w (ws_storeS rfl rfl (Nat.le_of_ble_eq_true rfl) rfl rfl rfl ⟨rfl, ?_⟩)
    refine run_s (ss_assign rfl) rfl ?_
    refine run_nil ?_
    refine aw_ret ?_
    exact retAF_mk (retv2 rfl (rv_struct rfl rfl rfl) (rv_tmp rfl)) rfl rfl ⟨_, (cle_tup (cleL_cons (cle_agg (cleL_cons cle_nilO cleL_nil)) (cleL_cons (cle_refl _) cleL_nil))), _, _, h, rfl⟩
  · replace h := h.2 ((bnot_f q2))
    refine aw_skip ?_
    refine aw_seq ?_
    refine aw_region ?_
    refine run_s (ss_move rfl) rfl ?_
    obtain ⟨q3, h⟩ := h
    refine run_w (ws_call (xs := [.tmp 8, .func 40]) (ids := [9]) rfl rfl rfl rfl (c_impl_rackBy n 40 [] (fun z0 z1 => z1) (fun z0 z1 => True) (fun z0 z1 hD => c_impl_TrivialRack_1 z0 z1) q3) rfl ?_ )
    rintro _ rfl
    refine ⟨rfl, ?_⟩
    refine run_w (ws_storeS rfl rfl (Nat.le_of_ble_eq_true rfl) rfl rfl rfl ⟨rfl, ?_⟩)
    refine run_s (ss_assign rfl) rfl ?_
    refine run_nil ?_
    refine aw_ret ?_
    exact retAF_mk (retv2 rfl (rv_struct rfl rfl rfl) (rv_tmp rfl)) rfl rfl ⟨_, (cle_refl _), _, _, h, rfl⟩

theorem c_impl_TrivialRack (n : Int)  : AF Try.prog 15 [ci n] (fun r => r = .tup [.agg [.own (orows (TrivT n))], ci (TrivE n)]) :=
  (w_impl_TrivialRack n (fun y0 y1 => y0 = TrivT n ∧ y1 = TrivE n) (p_impl_TrivialRack n)).mono (by rintro r ⟨_, _, ⟨rfl, rfl⟩, rfl⟩; rfl)

set_option maxHeartbeats 1000000 in
theorem w_impl_DihedralQuandle (n : Int) (Q : List (List Int) → Int → Prop) (h : wp_impl_DihedralQuandle n Q) : AF Try.prog 10 [ci n] (fun r => ∃ y0 y1, Q y0 y1 ∧ r = .tup [.agg [.own (orows y0)], ci y1]) := by
  refine AF.ofWQ (af_enter (n := 11) Try.func10 rfl (by rfl) rfl (Nat.le_of_ble_eq_true rfl) ?_)
  unfold wp_impl_DihedralQuandle at h
  refine aw_seq ?_
  refine aw_gh (gh_to (n := 11) (σ' := []) (env' := [(0, .c (ci n))]) rfl rfl ⟨rfl, trivial⟩) ?_
  refine aw_region ?_
  refine run_w (ws_boxR rfl (.inr rfl) rfl ⟨rfl, ?_⟩)
  refine run_w (ws_alloc (id := 2) rfl (Nat.le_of_ble_eq_true rfl) ⟨rfl, ?_⟩)
  refine run_s (ss_assign rfl) rfl ?_
  refine run_nil ?_
  refine aw_seq ?_
  refine aw_seq ?_
  refine aw_region ?_
  refine run_s (ss_load_ptr rfl rfl) rfl ?_
  refine run_w (ws_call (xs := [.tmp 4, .const (.int .i64 (1)), .const (.int .i64 (12))]) (ids := []) rfl rfl rfl rfl (c_impl_within n 1 12) rfl ?_ )
  rintro _ rfl
  refine ⟨rfl, ?_⟩
  refine run_s (ss_not rfl) rfl ?_
  refine run_nil ?_
  refine aw_cond rfl (fun q2 => ?_) (fun q2 => ?_)
  · replace h := h.1 ((bnot_t q2))
    refine aw_seq ?_
    refine aw_gh (gh_to (n := 11) (σ' := [(2, ⟨[cnil], []⟩)]) (env' := [(2, .cell 2 0), (3, .c (ci 0))]) rfl rfl ⟨rfl, rfl, trivial⟩) ?_
    refine aw_region ?_
    refine run_s (ss_build0) rfl ?_
    refine run_w (ws_storeS rfl rfl (Nat.le_of_ble_eq_true rfl) rfl rfl rfl ⟨rfl, ?_⟩)
    refine run_s (ss_assign rfl) rfl ?_
    refine run_nil ?_
    refine aw_ret ?_
    exact retAF_mk (retv2 rfl (rv_struct rfl rfl rfl) (rv_tmp rfl)) rfl rfl ⟨_, (cle_tup (cleL_cons (cle_agg (cleL_cons cle_nilO cleL_nil)) (cleL_cons (cle_refl _) cleL_nil))), _, _, h, rfl⟩
  · replace h := h.2 ((bnot_f q2))
    refine aw_skip ?_
    refine aw_seq ?_
    refine aw_region ?_
    refine run_s (ss_load_ptr rfl rfl) rfl ?_
    refine run_s (ss_makeFunc (os := [.tmp 1]) rfl) rfl ?_
    obtain ⟨q3, h⟩ := h
    refine run_w (ws_call (xs := [.tmp 8, .tmp 9]) (ids := [10]) rfl rfl rfl rfl (c_impl_rackBy n 36 [.ptr [ci n]] (fun z0 z1 => (2 * z0 - z1 + n) % n) (fun z0 z1 => 1 ≤ n ∧ n ≤ 1000 ∧ 0 ≤ z0 ∧ z0 < n ∧ 0 ≤ z1 ∧ z1 < n) (fun z0 z1 hD => c_impl_DihedralQuandle_1 z0 z1 n hD) q3) rfl ?_ )
    rintro _ rfl
    refine ⟨rfl, ?_⟩
    refine run_w (ws_storeS rfl rfl (Nat.le_of_ble_eq_true rfl) rfl rfl rfl ⟨rfl, ?_⟩)
    refine run_s (ss_assign rfl) rfl ?_
    refine run_nil ?_
    refine aw_ret ?_
    exact retAF_mk (retv2 rfl (rv_struct rfl rfl rfl) (rv_tmp rfl)) rfl rfl ⟨_, (cle_refl _), _, _, h, rfl⟩

theorem c_impl_DihedralQuandle (n : Int)  : AF Try.prog 10 [ci n] (fun r => r = .tup [.agg [.own (orows (DiheT n))], ci (TrivE n)]) :=
  (w_impl_DihedralQuandle n (fun y0 y1 => y0 = DiheT n ∧ y1 = TrivE n) (p_impl_DihedralQuandle n)).mono (by rintro r ⟨_, _, ⟨rfl, rfl⟩, rfl⟩; rfl)

set_option maxHeartbeats 1000000 in
theorem w_impl_AlexanderQuandle (n : Int) (a : Int) (Q : List (List Int) → Int → Prop) (h : wp_impl_AlexanderQuandle n a Q) : AF Try.prog 17 [ci n, ci a] (fun r => ∃ y0 y1, Q y0 y1 ∧ r = .tup [.agg [.own (orows y0)], ci y1]) := by
  refine AF.ofWQ (af_enter (n := 29) Try.func17 rfl (by rfl) rfl (Nat.le_of_ble_eq_true rfl) ?_)
  unfold wp_impl_AlexanderQuandle at h
  refine aw_seq ?_
  refine aw_gh (gh_to (n := 29) (σ' := []) (env' := [(0, .c (ci n)), (1, .c (ci a))]) rfl rfl ⟨rfl, rfl, trivial⟩) ?_
  refine aw_region ?_
  refine run_w (ws_alloc (id := 4) rfl (Nat.le_of_ble_eq_true rfl) ⟨rfl, ?_⟩)
  refine run_s (ss_assign rfl) rfl ?_
  refine run_nil ?_
  refine aw_seq ?_
  refine aw_seq ?_
  refine aw_region ?_
  refine run_s (ss_move rfl) rfl ?_
  refine run_w (ws_call (xs := [.tmp 8, .const (.int .i64 (1)), .const (.int .i64 (12))]) (ids := []) rfl rfl rfl rfl (c_impl_within n 1 12) rfl ?_ )
  rintro _ rfl
  refine ⟨rfl, ?_⟩
  refine run_s (ss_not rfl) rfl ?_
  refine run_s (ss_move rfl) rfl ?_
  refine run_split (s := 11) rfl (fun q2 => ?_) (fun q2 => ?_)
  · replace h := h.1 ((bnot_t q2))
    refine run_gf rfl rfl q2 rfl ?_
    refine run_gf rfl rfl q2 rfl ?_
    refine run_gf rfl rfl q2 rfl ?_
    refine run_gf rfl rfl q2 rfl ?_
    refine run_gf rfl rfl q2 rfl ?_
    refine run_s (ss_pickT rfl q2 rfl) rfl ?_
    refine run_nil ?_
    refine aw_cond rfl (fun q3 => ?_) (fun q3 => ?_)
    · skip
      refine aw_seq ?_
      refine aw_gh (gh_to (n := 29) (σ' := [(4, ⟨[cnil], []⟩)]) (env' := [(4, .cell 4 0), (5, .c (ci 0))]) rfl rfl ⟨rfl, rfl, trivial⟩) ?_
      refine aw_region ?_
      refine run_s (ss_build0) rfl ?_
      refine run_w (ws_storeS rfl rfl (Nat.le_of_ble_eq_true rfl) rfl rfl rfl ⟨rfl, ?_⟩)
      refine run_s (ss_assign rfl) rfl ?_
      refine run_nil ?_
      refine aw_ret ?_
      exact retAF_mk (retv2 rfl (rv_struct rfl rfl rfl) (rv_tmp rfl)) rfl rfl ⟨_, (cle_tup (cleL_cons (cle_agg (cleL_cons cle_nilO cleL_nil)) (cleL_cons (cle_refl _) cleL_nil))), _, _, h, rfl⟩
    · cases q3
  · replace h := h.2 ((bnot_f q2))
    refine run_gt rfl rfl q2 ?_
    refine run_s (ss_move rfl) rfl ?_
    refine run_gt rfl rfl q2 ?_
    refine run_s (ss_move rfl) rfl ?_
    refine run_gt rfl rfl q2 ?_
    obtain ⟨q4, h⟩ := h
    refine run_s (ss_sub rfl rfl q4) rfl ?_
    refine run_gt rfl rfl q2 ?_
    refine run_w (ws_call (xs := [.tmp 12, .const (.int .i64 (0)), .tmp 14]) (ids := []) rfl rfl rfl rfl (c_impl_within a 0 (n - 1)) rfl ?_ )
    rintro _ rfl
    refine ⟨rfl, ?_⟩
    refine run_gt rfl rfl q2 ?_
    refine run_s (ss_not rfl) rfl ?_
    refine run_s (ss_pickF rfl q2 rfl) rfl ?_
    refine run_nil ?_
    refine aw_cond rfl (fun q6 => ?_) (fun q6 => ?_)
    · replace h := h.1 ((bnot_t q6))
      refine aw_seq ?_
      refine aw_gh (gh_to (n := 29) (σ' := [(4, ⟨[cnil], []⟩)]) (env' := [(4, .cell 4 0), (5, .c (ci 0))]) rfl rfl ⟨rfl, rfl, trivial⟩) ?_
      refine aw_region ?_
      refine run_s (ss_build0) rfl ?_
      refine run_w (ws_storeS rfl rfl (Nat.le_of_ble_eq_true rfl) rfl rfl rfl ⟨rfl, ?_⟩)
      refine run_s (ss_assign rfl) rfl ?_
      refine run_nil ?_
      refine aw_ret ?_
      exact retAF_mk (retv2 rfl (rv_struct rfl rfl rfl) (rv_tmp rfl)) rfl rfl ⟨_, (cle_tup (cleL_cons (cle_agg (cleL_cons cle_nilO cleL_nil)) (cleL_cons (cle_refl _) cleL_nil))), _, _, h, rfl⟩
    · replace h := h.2 ((bnot_f q6))
      refine aw_skip ?_
      refine aw_seq ?_
      refine aw_seq ?_
      refine aw_gh (gh_to (n := 29) (σ' := [(4, ⟨[cnil], []⟩)]) (env' := [(0, .c (ci n)), (1, .c (ci a)), (4, .cell 4 0)]) rfl rfl ⟨rfl, rfl, rfl, trivial⟩) ?_
      refine aw_region ?_
      refine run_s (ss_move rfl) rfl ?_
      refine run_s (ss_move rfl) rfl ?_
      obtain ⟨q7, h⟩ := h
      refine run_w (ws_call (xs := [.tmp 19, .tmp 20]) (ids := []) rfl rfl rfl rfl (c_impl_divisorOf n a q7) rfl ?_ )
      rintro _ rfl
      refine ⟨rfl, ?_⟩
      refine run_s (ss_gtr rfl rfl) rfl ?_
      refine run_nil ?_
      refine aw_cond rfl (fun q9 => ?_) (fun q9 => ?_)
      · replace h := h.1 (of_decide_eq_true q9)
        refine aw_seq ?_
        refine aw_gh (gh_to (n := 29) (σ' := [(4, ⟨[cnil], []⟩)]) (env' := [(4, .cell 4 0)]) rfl rfl ⟨rfl, trivial⟩) ?_
        refine aw_region ?_
        refine run_s (ss_build0) rfl ?_
        refine run_w (ws_storeS rfl rfl (Nat.le_of_ble_eq_true rfl) rfl rfl rfl ⟨rfl, ?_⟩)
        refine run_s (ss_assign rfl) rfl ?_
        refine run_nil ?_
        refine aw_ret ?_
        exact retAF_mk (retv2 rfl (rv_struct rfl rfl rfl) (rv_tmp rfl)) rfl rfl ⟨_, (cle_tup (cleL_cons (cle_agg (cleL_cons cle_nilO cleL_nil)) (cleL_cons (cle_refl _) cleL_nil))), _, _, h, rfl⟩
      · replace h := h.2 (of_decide_eq_false q9)
        refine aw_skip ?_
        refine aw_seq ?_
        refine aw_region ?_
        refine run_s (ss_move rfl) rfl ?_
        refine run_s (ss_move rfl) rfl ?_
        refine run_w (ws_alloc (id := 6) rfl (Nat.le_of_ble_eq_true rfl) ⟨rfl, ?_⟩)
        refine run_w (ws_alloc (id := 7) rfl (Nat.le_of_ble_eq_true rfl) ⟨rfl, ?_⟩)
        refine run_w (ws_store rfl rfl (Nat.le_of_ble_eq_true rfl) rfl rfl ⟨rfl, ?_⟩)
        refine run_w (ws_store rfl rfl (Nat.le_of_ble_eq_true rfl) rfl rfl ⟨rfl, ?_⟩)
        refine run_nil ?_
        refine aw_seq ?_
        refine aw_gh (gh_to (n := 29) (σ' := [(7, ⟨[ci a], []⟩), (6, ⟨[ci n], []⟩), (4, ⟨[cnil], []⟩)]) (env' := [(4, .cell 4 0), (6, .cell 6 0), (7, .cell 7 0)]) rfl rfl ⟨rfl, rfl, rfl, trivial⟩) ?_
        refine aw_region ?_
        refine run_s (ss_loadC rfl rfl rfl rfl rfl) rfl ?_
        refine run_gh (gh_freeze (id := 6) rfl rfl) ?_
        refine run_gh (gh_freeze (id := 7) rfl rfl) ?_
        refine run_s (ss_makeFunc (os := [.tmp 6, .tmp 7]) rfl) rfl ?_
        obtain ⟨q10, h⟩ := h
        refine run_w (ws_call (xs := [.tmp 26, .tmp 27]) (ids := [28]) rfl rfl rfl rfl (c_impl_rackBy n 43 [.ptr [ci n], .ptr [ci a]] (fun z0 z1 => ((n + 1 - a) * z0 + a * z1) % n) (fun z0 z1 => 1 ≤ n ∧ n ≤ 1000 ∧ 0 ≤ a ∧ a < n ∧ 0 ≤ z0 ∧ z0 < n ∧ 0 ≤ z1 ∧ z1 < n) (fun z0 z1 hD => c_impl_AlexanderQuandle_1 z0 z1 n a hD) q10) rfl ?_ )
        rintro _ rfl
        refine ⟨rfl, ?_⟩
        refine run_w (ws_storeS rfl rfl (Nat.le_of_ble_eq_true rfl) rfl rfl rfl ⟨rfl, ?_⟩)
        refine run_s (ss_assign rfl) rfl ?_
        refine run_nil ?_
        refine aw_ret ?_
        exact retAF_mk (retv2 rfl (rv_struct rfl rfl rfl) (rv_tmp rfl)) rfl rfl ⟨_, (cle_refl _), _, _, h, rfl⟩

theorem c_impl_AlexanderQuandle (n : Int) (a : Int) (hp : InI n) : AF Try.prog 17 [ci n, ci a] (fun r => r = .tup [.agg [.own (orows (AlexT n a))], ci (AlexE n a)]) :=
  (w_impl_AlexanderQuandle n a (fun y0 y1 => y0 = AlexT n a ∧ y1 = AlexE n a) (p_impl_AlexanderQuandle n a hp)).mono (by rintro r ⟨_, _, ⟨rfl, rfl⟩, rfl⟩; rfl)

set_option maxHeartbeats 1000000 in
theorem w_impl_PermutationRack (p : List Int) (Q : List (List Int) → Int → Prop) (h : wp_impl_PermutationRack p Q) : AF Try.prog 20 [.lst (ints p)] (fun r => ∃ y0 y1, Q y0 y1 ∧ r = .tup [.agg [.own (orows y0)], ci y1]) := by
  refine AF.ofWQ (af_enter (n := 12) Try.func20 rfl (by rfl) rfl (Nat.le_of_ble_eq_true rfl) ?_)
  unfold wp_impl_PermutationRack at h
  refine aw_seq ?_
  refine aw_gh (gh_to (n := 12) (σ' := []) (env' := [(0, .c (.lst (ints p)))]) rfl rfl ⟨rfl, trivial⟩) ?_
  refine aw_region ?_
  refine run_w (ws_boxR rfl (.inr rfl) rfl ⟨rfl, ?_⟩)
  refine run_w (ws_alloc (id := 2) rfl (Nat.le_of_ble_eq_true rfl) ⟨rfl, ?_⟩)
  refine run_s (ss_assign rfl) rfl ?_
  refine run_nil ?_
  refine aw_seq ?_
  refine aw_seq ?_
  refine aw_region ?_
  refine run_s (ss_load_ptr rfl rfl) rfl ?_
  obtain ⟨q1, h⟩ := h
  refine run_w (ws_call (xs := [.tmp 4]) (ids := []) rfl rfl rfl rfl (c_impl_IsPermutation p q1) rfl ?_ )
  rintro _ rfl
  refine ⟨rfl, ?_⟩
  refine run_s (ss_not rfl) rfl ?_
  refine run_nil ?_
  refine aw_cond rfl (fun q3 => ?_) (fun q3 => ?_)
  · replace h := h.1 ((bnot_t q3))
    refine aw_seq ?_
    refine aw_gh (gh_to (n := 12) (σ' := [(2, ⟨[cnil], []⟩)]) (env' := [(2, .cell 2 0), (3, .c (ci 0))]) rfl rfl ⟨rfl, rfl, trivial⟩) ?_
    refine aw_region ?_
    refine run_s (ss_build0) rfl ?_
    refine run_w (ws_storeS rfl rfl (Nat.le_of_ble_eq_true rfl) rfl rfl rfl ⟨rfl, ?_⟩)
    refine run_s (ss_assign rfl) rfl ?_
    refine run_nil ?_
    refine aw_ret ?_
    exact retAF_mk (retv2 rfl (rv_struct rfl rfl rfl) (rv_tmp rfl)) rfl rfl ⟨_, (cle_tup (cleL_cons (cle_agg (cleL_cons cle_nilO cleL_nil)) (cleL_cons (cle_refl _) cleL_nil))), _, _, h, rfl⟩
  · replace h := h.2 ((bnot_f q3))
    refine aw_skip ?_
    refine aw_seq ?_
    refine aw_region ?_
    refine run_s (ss_load_ptr rfl rfl) rfl ?_
    refine run_s (ss_lenL (f := ci) rfl) rfl ?_
    refine run_s (ss_makeFunc (os := [.tmp 1]) rfl) rfl ?_
    obtain ⟨q4, h⟩ := h
    refine run_w (ws_call (xs := [.tmp 9, .tmp 10]) (ids := [11]) rfl rfl rfl rfl (c_impl_rackBy (p.length : Int) 47 [.ptr [.lst (ints p)]] (fun z0 z1 => el p z1) (fun z0 z1 => 0 ≤ z1 ∧ z1 < (p.length : Int) ∧ InI (el p z1)) (fun z0 z1 hD => c_impl_PermutationRack_1 z0 z1 p hD) q4) rfl ?_ )
    rintro _ rfl
    refine ⟨rfl, ?_⟩
    refine run_w (ws_storeS rfl rfl (Nat.le_of_ble_eq_true rfl) rfl rfl rfl ⟨rfl, ?_⟩)
    refine run_s (ss_assign rfl) rfl ?_
    refine run_nil ?_
    refine aw_ret ?_
    exact retAF_mk (retv2 rfl (rv_struct rfl rfl rfl) (rv_tmp rfl)) rfl rfl ⟨_, (cle_refl _), _, _, h, rfl⟩

theorem c_impl_PermutationRack (p : List Int) (hp : small p) : AF Try.prog 20 [.lst (ints p)] (fun r => r = .tup [.agg [.own (orows (PermT p))], ci (PermE p)]) :=
  (w_impl_PermutationRack p (fun y0 y1 => y0 = PermT p ∧ y1 = PermE p) (p_impl_PermutationRack p hp)).mono (by rintro r ⟨_, _, ⟨rfl, rfl⟩, rfl⟩; rfl)

set_option maxHeartbeats 1000000 in
theorem w_spec_l05Squares (t : List (List Int)) (Q : List Int → Prop) (h : wp_spec_l05Squares t Q) : AF Try.prog 50 [.lst (rows t)] (fun r => ∃ y0, Q y0 ∧ r = .own (ints y0)) := by
  refine AF.ofWQ (af_enter (n := 23) Try.func50 rfl (by rfl) rfl (Nat.le_of_ble_eq_true rfl) ?_)
  unfold wp_spec_l05Squares at h
  refine aw_seq ?_
  refine aw_gh (gh_to (n := 23) (σ' := []) (env' := [(0, .c (.lst (rows t)))]) rfl rfl ⟨rfl, trivial⟩) ?_
  refine aw_region ?_
  refine run_s (ss_assign rfl) rfl ?_
  refine run_nil ?_
  refine aw_seq ?_
  refine aw_region ?_
  refine run_w (ws_buildSlice (id := 5) (ps := []) rfl rfl (Nat.le_of_ble_eq_true rfl) rfl ⟨rfl, ?_⟩)
  refine run_s (ss_assign rfl) rfl ?_
  refine run_nil ?_
  refine aw_seq ?_
  refine aw_seq ?_
  refine aw_region ?_
  refine run_s (ss_assign rfl) rfl ?_
  refine run_nil ?_
  refine aw_block ?_
  obtain ⟨H1, m1, q1, h⟩ := h
  refine aw_loop2 (fun (v4 : Int) (o5 : List Int) => ⟨[(5, ⟨ints o5, []⟩)], [(0, .c (.lst (rows t))), (3, .ref 5), (4, .c (ci v4))], 23⟩) H1 m1 ⟨0, ([] : List Int), ghe_to (n := 23) rfl rfl ⟨rfl, rfl, rfl, trivial⟩, q1⟩ ?_
  rintro v4 o5 q1
  replace h := h v4 o5 q1
  refine aw_seq ?_
  refine aw_seq ?_
  refine aw_region ?_
  refine run_s (ss_move rfl) rfl ?_
  refine run_s (ss_move rfl) rfl ?_
  refine run_s (ss_lenL (f := (fun r => C.lst (ints r))) rfl) rfl ?_
  refine run_s (ss_lss rfl rfl) rfl ?_
  refine run_nil ?_
  refine aw_cond rfl (fun q2 => ?_) (fun q2 => ?_)
  · replace h := h.1 (of_decide_eq_true q2)
    refine aw_skip ?_
    refine aw_seq ?_
    refine aw_block ?_
    refine aw_region ?_
    refine run_s (ss_move rfl) rfl ?_
    refine run_s (ss_move rfl) rfl ?_
    refine run_s (ss_move rfl) rfl ?_
    obtain ⟨q3, h⟩ := h
    refine run_s (ss_idxL rfl rfl q3) rfl ?_
    refine run_s (ss_loadL (f := (fun r => C.lst (ints r))) rfl q3) rfl ?_
    refine run_s (ss_move rfl) rfl ?_
    obtain ⟨q4, h⟩ := h
    refine run_s (ss_idxL rfl rfl q4) rfl ?_
    refine run_s (ss_loadL (f := ci) rfl q4) rfl ?_
    refine run_w (ws_buildSlice (id := 20) (ps := [(0, .tmp 19)]) rfl rfl (Nat.le_of_ble_eq_true rfl) rfl ⟨rfl, ?_⟩)
    obtain ⟨q5, h⟩ := h
    refine run_w (ws_app1 ci (l := o5) (m := [el (el t v4) v4]) rfl rfl rfl rfl rfl (Nat.le_of_ble_eq_true rfl) q5 ⟨rfl, ?_⟩)
    refine run_s (ss_assign rfl) rfl ?_
    refine run_nil ?_
    refine aw_gh (gh_to (n := 23) (σ' := [(5, ⟨ints (o5 ++ ([el (el t v4) v4])), []⟩)]) (env' := [(0, .c (.lst (rows t))), (3, .ref 5), (4, .c (ci v4))]) rfl rfl ⟨rfl, rfl, rfl, trivial⟩) ?_
    refine aw_region ?_
    refine run_s (ss_move rfl) rfl ?_
    obtain ⟨q6, h⟩ := h
    refine run_s (ss_add rfl rfl q6) rfl ?_
    refine run_s (ss_assign rfl) rfl ?_
    refine run_nil ?_
    exact ⟨v4 + 1, o5 ++ ([el (el t v4) v4]), ghe_to (n := 23) rfl rfl ⟨rfl, rfl, rfl, trivial⟩, h.1, h.2⟩
  · replace h := h.2 (of_decide_eq_false q2)
    refine aw_exit ?_
    refine aw_seq ?_
    refine aw_gh (gh_to (n := 23) (σ' := [(5, ⟨ints o5, []⟩)]) (env' := [(3, .ref 5)]) rfl rfl ⟨rfl, trivial⟩) ?_
    refine aw_region ?_
    refine run_s (ss_move rfl) rfl ?_
    refine run_s (ss_assign rfl) rfl ?_
    refine run_nil ?_
    refine aw_ret ?_
    exact retAF_mk (retv1 rfl (rv_tmp rfl)) rfl rfl ⟨_, (cle_refl _), _, h, rfl⟩

theorem c_spec_l05Squares (t : List (List Int)) (hp : isTab t = true) : AF Try.prog 50 [.lst (rows t)] (fun r => r = .own (ints (diag t))) :=
  (w_spec_l05Squares t (fun y0 => y0 = diag t) (p_spec_l05Squares t hp)).mono (by rintro r ⟨_, rfl, rfl⟩; rfl)

set_option maxHeartbeats 1000000 in
theorem w_spec_l05Fault (t : List (List Int)) (Q : List Int → Prop) (h : wp_spec_l05Fault t Q) : AF Try.prog 54 [.lst (rows t)] (fun r => ∃ y0, Q y0 ∧ r = .own (ints y0)) := by
  refine AF.ofWQ (af_enter (n := 68) Try.func54 rfl (by rfl) rfl (Nat.le_of_ble_eq_true rfl) ?_)
  unfold wp_spec_l05Fault at h
  refine aw_seq ?_
  refine aw_gh (gh_to (n := 68) (σ' := []) (env' := [(0, .c (.lst (rows t)))]) rfl rfl ⟨rfl, trivial⟩) ?_
  refine aw_region ?_
  refine run_s (ss_assign rfl) rfl ?_
  refine run_nil ?_
  refine aw_seq ?_
  refine aw_region ?_
  refine run_s (ss_move rfl) rfl ?_
  refine run_s (ss_lenL (f := (fun r => C.lst (ints r))) rfl) rfl ?_
  refine run_s (ss_assign rfl) rfl ?_
  refine run_nil ?_
  refine aw_seq ?_
  refine aw_seq ?_
  refine aw_region ?_
  refine run_s (ss_assign rfl) rfl ?_
  refine run_nil ?_
  refine aw_block ?_
  obtain ⟨H1, m1, q1, h⟩ := h
  refine aw_loop1 (fun (v4 : Int) => ⟨[], [(0, .c (.lst (rows t))), (3, .c (ci (t.length : Int))), (4, .c (ci v4))], 68⟩) H1 m1 ⟨0, ghe_to (n := 68) rfl rfl ⟨rfl, rfl, rfl, trivial⟩, q1⟩ ?_
  rintro v4 q1
  replace h := h v4 q1
  refine aw_seq ?_
  refine aw_seq ?_
  refine aw_region ?_
  refine run_s (ss_move rfl) rfl ?_
  refine run_s (ss_move rfl) rfl ?_
  refine run_s (ss_lss rfl rfl) rfl ?_
  refine run_nil ?_
  refine aw_cond rfl (fun q2 => ?_) (fun q2 => ?_)
  · replace h := h.1 (of_decide_eq_true q2)
    refine aw_skip ?_
    refine aw_seq ?_
    refine aw_block ?_
    refine aw_seq ?_
    refine aw_region ?_
    refine run_s (ss_assign rfl) rfl ?_
    refine run_nil ?_
    refine aw_block ?_
    obtain ⟨H2, m2, q3, h⟩ := h
    refine aw_loop1 (fun (v5 : Int) => ⟨[], [(0, .c (.lst (rows t))), (3, .c (ci (t.length : Int))), (4, .c (ci v4)), (5, .c (ci v5))], 68⟩) H2 m2 ⟨0, ghe_to (n := 68) rfl rfl ⟨rfl, rfl, rfl, rfl, trivial⟩, q3⟩ ?_
    rintro v5 q3
    replace h := h v5 q3
    refine aw_seq ?_
    refine aw_seq ?_
    refine aw_region ?_
    refine run_s (ss_move rfl) rfl ?_
    refine run_s (ss_move rfl) rfl ?_
    refine run_s (ss_lss rfl rfl) rfl ?_
    refine run_nil ?_
    refine aw_cond rfl (fun q4 => ?_) (fun q4 => ?_)
    · replace h := h.1 (of_decide_eq_true q4)
      refine aw_skip ?_
      refine aw_seq ?_
      refine aw_block ?_
      refine aw_seq ?_
      refine aw_region ?_
      refine run_s (ss_assign rfl) rfl ?_
      refine run_nil ?_
      refine aw_block ?_
      obtain ⟨H3, m3, q5, h⟩ := h
      refine aw_loop1 (fun (v6 : Int) => ⟨[], [(0, .c (.lst (rows t))), (3, .c (ci (t.length : Int))), (4, .c (ci v4)), (5, .c (ci v5)), (6, .c (ci v6))], 68⟩) H3 m3 ⟨0, ghe_to (n := 68) rfl rfl ⟨rfl, rfl, rfl, rfl, rfl, trivial⟩, q5⟩ ?_
      rintro v6 q5
      replace h := h v6 q5
      refine aw_seq ?_
      refine aw_seq ?_
      refine aw_region ?_
      refine run_s (ss_move rfl) rfl ?_
      refine run_s (ss_move rfl) rfl ?_
      refine run_s (ss_lss rfl rfl) rfl ?_
      refine run_nil ?_
      refine aw_cond rfl (fun q6 => ?_) (fun q6 => ?_)
      · replace h := h.1 (of_decide_eq_true q6)
        refine aw_skip ?_
        refine aw_seq ?_
        refine aw_block ?_
        refine aw_seq ?_
        refine aw_gh (gh_to (n := 68) (σ' := []) (env' := [(0, .c (.lst (rows t))), (3, .c (ci (t.length : Int))), (4, .c (ci v4)), (5, .c (ci v5)), (6, .c (ci v6))]) rfl rfl ⟨rfl, rfl, rfl, rfl, rfl, trivial⟩) ?_
        refine aw_regionD (kd := kdl [0, 0, 0, 0, 1, 0, 0, 1, 0, 1, 0, 0, 0, 1, 0, 0, 1, 0, 1, 0, 0, 0, 0, 1, 0, 0, 1, 0, 1, 0, 0, 0, 1, 0, 0, 1, 0, 1, 0]) (ord := [0, 1, 2, 3, 5, 10, 11, 12, 14, 19, 20, 21, 22, 24, 29, 30, 31, 33, 4, 6, 7, 8, 9, 13, 15, 16, 17, 18, 23, 25, 26, 27, 28, 32, 34, 35, 36, 37, 38]) [] mixed (by kernel_rfl) ?_
        refine rd_s rfl rfl trivial (ss_move rfl) rfl ?_
        refine rd_s rfl rfl trivial (ss_move rfl) rfl ?_
        refine rd_s rfl rfl trivial (ss_move rfl) rfl ?_
        obtain ⟨q7, h⟩ := h
        refine rd_s rfl rfl trivial (ss_idxL rfl rfl q7) rfl ?_
        refine rd_s rfl rfl trivial (ss_move rfl) rfl ?_
        refine rd_s rfl rfl trivial (ss_move rfl) rfl ?_
        refine rd_s rfl rfl trivial (ss_move rfl) rfl ?_
        obtain ⟨q8, h⟩ := h
        refine rd_s rfl rfl trivial (ss_idxL rfl rfl q8) rfl ?_
        refine rd_s rfl rfl trivial (ss_move rfl) rfl ?_
        refine rd_s rfl rfl trivial (ss_move rfl) rfl ?_
        refine rd_s rfl rfl trivial (ss_move rfl) rfl ?_
        refine rd_s rfl rfl trivial (ss_move rfl) rfl ?_
        obtain ⟨q9, h⟩ := h
        refine rd_s rfl rfl trivial (ss_idxL rfl rfl q9) rfl ?_
        refine rd_s rfl rfl trivial (ss_move rfl) rfl ?_
        refine rd_s rfl rfl trivial (ss_move rfl) rfl ?_
        refine rd_s rfl rfl trivial (ss_move rfl) rfl ?_
        obtain ⟨q10, h⟩ := h
        refine rd_s rfl rfl trivial (ss_idxL rfl rfl q10) rfl ?_
        refine rd_s rfl rfl trivial (ss_move rfl) rfl ?_
        refine rd_l rfl rfl trivial (ss_loadL (f := (fun r => C.lst (ints r))) rfl q7) rfl ?_
        obtain ⟨q11, h⟩ := h
        refine rd_s rfl rfl trivial (ss_idxL rfl rfl q11) rfl ?_
        refine rd_l rfl rfl trivial (ss_loadL (f := ci) rfl q11) rfl ?_
        obtain ⟨q12, h⟩ := h
        refine rd_s rfl rfl trivial (ss_idxL rfl rfl q12) rfl ?_
        refine rd_l rfl rfl trivial (ss_loadL (f := (fun r => C.lst (ints r))) rfl q12) rfl ?_
        refine rd_l rfl rfl trivial (ss_loadL (f := (fun r => C.lst (ints r))) rfl q8) rfl ?_
        obtain ⟨q13, h⟩ := h
        refine rd_s rfl rfl trivial (ss_idxL rfl rfl q13) rfl ?_
        refine rd_l rfl rfl trivial (ss_loadL (f := ci) rfl q13) rfl ?_
        obtain ⟨q14, h⟩ := h
        refine rd_s rfl rfl trivial (ss_idxL rfl rfl q14) rfl ?_
        refine rd_l rfl rfl trivial (ss_loadL (f := ci) rfl q14) rfl ?_
        refine rd_l rfl rfl trivial (ss_loadL (f := (fun r => C.lst (ints r))) rfl q9) rfl ?_
        obtain ⟨q15, h⟩ := h
        refine rd_s rfl rfl trivial (ss_idxL rfl rfl q15) rfl ?_
        refine rd_l rfl rfl trivial (ss_loadL (f := ci) rfl q15) rfl ?_
        obtain ⟨q16, h⟩ := h
        refine rd_s rfl rfl trivial (ss_idxL rfl rfl q16) rfl ?_
        refine rd_l rfl rfl trivial (ss_loadL (f := (fun r => C.lst (ints r))) rfl q16) rfl ?_
        refine rd_l rfl rfl trivial (ss_loadL (f := (fun r => C.lst (ints r))) rfl q10) rfl ?_
        obtain ⟨q17, h⟩ := h
        refine rd_s rfl rfl trivial (ss_idxL rfl rfl q17) rfl ?_
        refine rd_l rfl rfl trivial (ss_loadL (f := ci) rfl q17) rfl ?_
        obtain ⟨q18, h⟩ := h
        refine rd_s rfl rfl trivial (ss_idxL rfl rfl q18) rfl ?_
        refine rd_l rfl rfl trivial (ss_loadL (f := ci) rfl q18) rfl ?_
        refine rd_s rfl rfl trivial (ss_neq rfl rfl) rfl ?_
        refine rd_nil ?_
        refine aw_cond rfl (fun q19 => ?_) (fun q19 => ?_)
        · replace h := h.1 (of_decide_eq_false (bnot_t q19))
          refine aw_seq ?_
          refine aw_gh (gh_to (n := 68) (σ' := []) (env' := [(4, .c (ci v4)), (5, .c (ci v5)), (6, .c (ci v6))]) rfl rfl ⟨rfl, rfl, rfl, trivial⟩) ?_
          refine aw_region ?_
          refine run_s (ss_move rfl) rfl ?_
          refine run_s (ss_move rfl) rfl ?_
          refine run_s (ss_move rfl) rfl ?_
          refine run_w (ws_buildSlice (id := 66) (ps := [(0, .tmp 63), (1, .tmp 64), (2, .tmp 65)]) rfl rfl (Nat.le_of_ble_eq_true rfl) rfl ⟨rfl, ?_⟩)
          refine run_s (ss_assign rfl) rfl ?_
          refine run_nil ?_
          refine aw_ret ?_
          exact retAF_mk (retv1 rfl (rv_tmp rfl)) rfl rfl ⟨_, (cle_refl _), _, h, rfl⟩
        · replace h := h.2 (of_decide_eq_true (bnot_f q19))
          refine aw_skip ?_
          refine aw_gh (gh_to (n := 68) (σ' := []) (env' := [(0, .c (.lst (rows t))), (3, .c (ci (t.length : Int))), (4, .c (ci v4)), (5, .c (ci v5)), (6, .c (ci v6))]) rfl rfl ⟨rfl, rfl, rfl, rfl, rfl, trivial⟩) ?_
          refine aw_region ?_
          refine run_s (ss_move rfl) rfl ?_
          obtain ⟨q20, h⟩ := h
          refine run_s (ss_add rfl rfl q20) rfl ?_
          refine run_s (ss_assign rfl) rfl ?_
          refine run_nil ?_
          exact ⟨v6 + 1, ghe_to (n := 68) rfl rfl ⟨rfl, rfl, rfl, rfl, rfl, trivial⟩, h.1, h.2⟩
      · replace h := h.2 (of_decide_eq_false q6)
        refine aw_exit ?_
        refine aw_region ?_
        refine run_s (ss_move rfl) rfl ?_
        obtain ⟨q21, h⟩ := h
        refine run_s (ss_add rfl rfl q21) rfl ?_
        refine run_s (ss_assign rfl) rfl ?_
        refine run_nil ?_
        exact ⟨v5 + 1, ghe_to (n := 68) rfl rfl ⟨rfl, rfl, rfl, rfl, trivial⟩, h.1, h.2⟩
    · replace h := h.2 (of_decide_eq_false q4)
      refine aw_exit ?_
      refine aw_region ?_
      refine run_s (ss_move rfl) rfl ?_
      obtain ⟨q22, h⟩ := h
      refine run_s (ss_add rfl rfl q22) rfl ?_
      refine run_s (ss_assign rfl) rfl ?_
      refine run_nil ?_
      exact ⟨v4 + 1, ghe_to (n := 68) rfl rfl ⟨rfl, rfl, rfl, trivial⟩, h.1, h.2⟩
  · replace h := h.2 (of_decide_eq_false q2)
    refine aw_exit ?_
    refine aw_seq ?_
    refine aw_gh (gh_to (n := 68) (σ' := []) (env' := []) rfl rfl trivial) ?_
    refine aw_region ?_
    refine run_w (ws_buildSlice (id := 67) (ps := []) rfl rfl (Nat.le_of_ble_eq_true rfl) rfl ⟨rfl, ?_⟩)
    refine run_s (ss_assign rfl) rfl ?_
    refine run_nil ?_
    refine aw_ret ?_
    exact retAF_mk (retv1 rfl (rv_tmp rfl)) rfl rfl ⟨_, (cle_refl _), _, h, rfl⟩

theorem c_spec_l05Fault (t : List (List Int)) (hp : isTab t = true) : AF Try.prog 54 [.lst (rows t)] (fun r => r = .own (ints (cycF t))) :=
  (w_spec_l05Fault t (fun y0 => y0 = cycF t) (p_spec_l05Fault t hp)).mono (by rintro r ⟨_, rfl, rfl⟩; rfl)

set_option maxHeartbeats 1000000 in
theorem w_impl_cycleFault (t : List (List Int)) (Q : List Int → Prop) (h : wp_impl_cycleFault t Q) : AF Try.prog 55 [.lst (rows t)] (fun r => ∃ y0, Q y0 ∧ r = onil y0) := by
  refine AF.ofWQ (af_enter (n := 67) Try.func55 rfl (by rfl) rfl (Nat.le_of_ble_eq_true rfl) ?_)
  unfold wp_impl_cycleFault at h
  refine aw_seq ?_
  refine aw_gh (gh_to (n := 67) (σ' := []) (env' := [(0, .c (.lst (rows t)))]) rfl rfl ⟨rfl, trivial⟩) ?_
  refine aw_region ?_
  refine run_s (ss_assign rfl) rfl ?_
  refine run_nil ?_
  refine aw_seq ?_
  refine aw_region ?_
  refine run_s (ss_move rfl) rfl ?_
  refine run_s (ss_lenL (f := (fun r => C.lst (ints r))) rfl) rfl ?_
  refine run_s (ss_assign rfl) rfl ?_
  refine run_nil ?_
  refine aw_seq ?_
  refine aw_seq ?_
  refine aw_region ?_
  refine run_s (ss_move rfl) rfl ?_
  refine run_s (ss_move rfl) rfl ?_
  refine run_nil ?_
  refine aw_block ?_
  obtain ⟨H1, m1, q1, h⟩ := h
  refine aw_loop1 (fun (v10 : Int) => ⟨[], [(0, .c (.lst (rows t))), (3, .c (ci (t.length : Int))), (9, .c (ci (t.length : Int))), (10, .c (ci v10))], 67⟩) H1 m1 ⟨0, ghe_to (n := 67) rfl rfl ⟨rfl, rfl, rfl, rfl, trivial⟩, q1⟩ ?_
  rintro v10 q1
  replace h := h v10 q1
  refine aw_seq ?_
  refine aw_region ?_
  refine run_s (ss_lss rfl rfl) rfl ?_
  refine run_nil ?_
  refine aw_seq ?_
  refine aw_cond rfl (fun q2 => ?_) (fun q2 => ?_)
  · replace h := h.1 (of_decide_eq_true q2)
    refine aw_skip ?_
    refine aw_seq ?_
    refine aw_block ?_
    refine aw_seq ?_
    refine aw_region ?_
    refine run_s (ss_move rfl) rfl ?_
    refine run_s (ss_assign rfl) rfl ?_
    refine run_nil ?_
    refine aw_seq ?_
    refine aw_region ?_
    refine run_s (ss_move rfl) rfl ?_
    refine run_s (ss_move rfl) rfl ?_
    refine run_nil ?_
    refine aw_block ?_
    obtain ⟨H2, m2, q3, h⟩ := h
    refine aw_loop1 (fun (v14 : Int) => ⟨[], [(0, .c (.lst (rows t))), (3, .c (ci (t.length : Int))), (4, .c (ci v10)), (9, .c (ci (t.length : Int))), (10, .c (ci v10)), (13, .c (ci (t.length : Int))), (14, .c (ci v14))], 67⟩) H2 m2 ⟨0, ghe_to (n := 67) rfl rfl ⟨rfl, rfl, rfl, rfl, rfl, rfl, rfl, trivial⟩, q3⟩ ?_
    rintro v14 q3
    replace h := h v14 q3
    refine aw_seq ?_
    refine aw_region ?_
    refine run_s (ss_lss rfl rfl) rfl ?_
    refine run_nil ?_
    refine aw_seq ?_
    refine aw_cond rfl (fun q4 => ?_) (fun q4 => ?_)
    · replace h := h.1 (of_decide_eq_true q4)
      refine aw_skip ?_
      refine aw_seq ?_
      refine aw_block ?_
      refine aw_seq ?_
      refine aw_region ?_
      refine run_s (ss_move rfl) rfl ?_
      refine run_s (ss_assign rfl) rfl ?_
      refine run_nil ?_
      refine aw_seq ?_
      refine aw_region ?_
      refine run_s (ss_move rfl) rfl ?_
      refine run_s (ss_move rfl) rfl ?_
      refine run_nil ?_
      refine aw_block ?_
      obtain ⟨H3, m3, q5, h⟩ := h
      refine aw_loop1 (fun (v18 : Int) => ⟨[], [(0, .c (.lst (rows t))), (3, .c (ci (t.length : Int))), (4, .c (ci v10)), (5, .c (ci v14)), (9, .c (ci (t.length : Int))), (10, .c (ci v10)), (13, .c (ci (t.length : Int))), (14, .c (ci v14)), (17, .c (ci (t.length : Int))), (18, .c (ci v18))], 67⟩) H3 m3 ⟨0, ghe_to (n := 67) rfl rfl ⟨rfl, rfl, rfl, rfl, rfl, rfl, rfl, rfl, rfl, rfl, trivial⟩, q5⟩ ?_
      rintro v18 q5
      replace h := h v18 q5
      refine aw_seq ?_
      refine aw_region ?_
      refine run_s (ss_lss rfl rfl) rfl ?_
      refine run_nil ?_
      refine aw_seq ?_
      refine aw_cond rfl (fun q6 => ?_) (fun q6 => ?_)
      · replace h := h.1 (of_decide_eq_true q6)
        refine aw_skip ?_
        refine aw_seq ?_
        refine aw_block ?_
        refine aw_seq ?_
        refine aw_region ?_
        refine run_s (ss_move rfl) rfl ?_
        refine run_s (ss_assign rfl) rfl ?_
        refine run_nil ?_
        refine aw_seq ?_
        refine aw_gh (gh_to (n := 67) (σ' := []) (env' := [(0, .c (.lst (rows t))), (3, .c (ci (t.length : Int))), (4, .c (ci v10)), (5, .c (ci v14)), (6, .c (ci v18)), (9, .c (ci (t.length : Int))), (10, .c (ci v10)), (13, .c (ci (t.length : Int))), (14, .c (ci v14)), (17, .c (ci (t.length : Int))), (18, .c (ci v18))]) rfl rfl ⟨rfl, rfl, rfl, rfl, rfl, rfl, rfl, rfl, rfl, rfl, rfl, trivial⟩) ?_
        refine aw_regionD (kd := kdl [0, 0, 0, 0, 1, 0, 0, 1, 0, 1, 0, 0, 0, 1, 0, 0, 1, 0, 1, 0, 0, 0, 0, 1, 0, 0, 1, 0, 1, 0, 0, 0, 1, 0, 0, 1, 0, 1, 0]) (ord := [0, 1, 2, 3, 5, 10, 11, 12, 14, 19, 20, 21, 22, 24, 29, 30, 31, 33, 4, 6, 7, 8, 9, 13, 15, 16, 17, 18, 23, 25, 26, 27, 28, 32, 34, 35, 36, 37, 38]) [] mixed (by kernel_rfl) ?_
        refine rd_s rfl rfl trivial (ss_move rfl) rfl ?_
        refine rd_s rfl rfl trivial (ss_move rfl) rfl ?_
        refine rd_s rfl rfl trivial (ss_move rfl) rfl ?_
        obtain ⟨q7, h⟩ := h
        refine rd_s rfl rfl trivial (ss_idxL rfl rfl q7) rfl ?_
        refine rd_s rfl rfl trivial (ss_move rfl) rfl ?_
        refine rd_s rfl rfl trivial (ss_move rfl) rfl ?_
        refine rd_s rfl rfl trivial (ss_move rfl) rfl ?_
        obtain ⟨q8, h⟩ := h
        refine rd_s rfl rfl trivial (ss_idxL rfl rfl q8) rfl ?_
        refine rd_s rfl rfl trivial (ss_move rfl) rfl ?_
        refine rd_s rfl rfl trivial (ss_move rfl) rfl ?_
        refine rd_s rfl rfl trivial (ss_move rfl) rfl ?_
        refine rd_s rfl rfl trivial (ss_move rfl) rfl ?_
        obtain ⟨q9, h⟩ := h
        refine rd_s rfl rfl trivial (ss_idxL rfl rfl q9) rfl ?_
        refine rd_s rfl rfl trivial (ss_move rfl) rfl ?_
        refine rd_s rfl rfl trivial (ss_move rfl) rfl ?_
        refine rd_s rfl rfl trivial (ss_move rfl) rfl ?_
        obtain ⟨q10, h⟩ := h
        refine rd_s rfl rfl trivial (ss_idxL rfl rfl q10) rfl ?_
        refine rd_s rfl rfl trivial (ss_move rfl) rfl ?_
        refine rd_l rfl rfl trivial (ss_loadL (f := (fun r => C.lst (ints r))) rfl q7) rfl ?_
        obtain ⟨q11, h⟩ := h
        refine rd_s rfl rfl trivial (ss_idxL rfl rfl q11) rfl ?_
        refine rd_l rfl rfl trivial (ss_loadL (f := ci) rfl q11) rfl ?_
        obtain ⟨q12, h⟩ := h
        refine rd_s rfl rfl trivial (ss_idxL rfl rfl q12) rfl ?_
        refine rd_l rfl rfl trivial (ss_loadL (f := (fun r => C.lst (ints r))) rfl q12) rfl ?_
        refine rd_l rfl rfl trivial (ss_loadL (f := (fun r => C.lst (ints r))) rfl q8) rfl ?_
        obtain ⟨q13, h⟩ := h
        refine rd_s rfl rfl trivial (ss_idxL rfl rfl q13) rfl ?_
        refine rd_l rfl rfl trivial (ss_loadL (f := ci) rfl q13) rfl ?_
        obtain ⟨q14, h⟩ := h
        refine rd_s rfl rfl trivial (ss_idxL rfl rfl q14) rfl ?_
        refine rd_l rfl rfl trivial (ss_loadL (f := ci) rfl q14) rfl ?_
        refine rd_l rfl rfl trivial (ss_loadL (f := (fun r => C.lst (ints r))) rfl q9) rfl ?_
        obtain ⟨q15, h⟩ := h
        refine rd_s rfl rfl trivial (ss_idxL rfl rfl q15) rfl ?_
        refine rd_l rfl rfl trivial (ss_loadL (f := ci) rfl q15) rfl ?_
        obtain ⟨q16, h⟩ := h
        refine rd_s rfl rfl trivial (ss_idxL rfl rfl q16) rfl ?_
        refine rd_l rfl rfl trivial (ss_loadL (f := (fun r => C.lst (ints r))) rfl q16) rfl ?_
        refine rd_l rfl rfl trivial (ss_loadL (f := (fun r => C.lst (ints r))) rfl q10) rfl ?_
        obtain ⟨q17, h⟩ := h
        refine rd_s rfl rfl trivial (ss_idxL rfl rfl q17) rfl ?_
        refine rd_l rfl rfl trivial (ss_loadL (f := ci) rfl q17) rfl ?_
        obtain ⟨q18, h⟩ := h
        refine rd_s rfl rfl trivial (ss_idxL rfl rfl q18) rfl ?_
        refine rd_l rfl rfl trivial (ss_loadL (f := ci) rfl q18) rfl ?_
        refine rd_s rfl rfl trivial (ss_neq rfl rfl) rfl ?_
        refine rd_nil ?_
        refine aw_cond rfl (fun q19 => ?_) (fun q19 => ?_)
        · replace h := h.1 (of_decide_eq_false (bnot_t q19))
          refine aw_seq ?_
          refine aw_gh (gh_to (n := 67) (σ' := []) (env' := [(4, .c (ci v10)), (5, .c (ci v14)), (6, .c (ci v18))]) rfl rfl ⟨rfl, rfl, rfl, trivial⟩) ?_
          refine aw_region ?_
          refine run_s (ss_move rfl) rfl ?_
          refine run_s (ss_move rfl) rfl ?_
          refine run_s (ss_move rfl) rfl ?_
          refine run_w (ws_buildSlice (id := 63) (ps := [(0, .tmp 60), (1, .tmp 61), (2, .tmp 62)]) rfl rfl (Nat.le_of_ble_eq_true rfl) rfl ⟨rfl, ?_⟩)
          refine run_s (ss_assign rfl) rfl ?_
          refine run_nil ?_
          refine aw_ret ?_
          exact retAF_mk (retv1 rfl (rv_tmp rfl)) rfl rfl ⟨_, (cle_refl _), _, h, rfl⟩
        · replace h := h.2 (of_decide_eq_true (bnot_f q19))
          refine aw_skip ?_
          refine aw_gh (gh_to (n := 67) (σ' := []) (env' := [(0, .c (.lst (rows t))), (3, .c (ci (t.length : Int))), (4, .c (ci v10)), (5, .c (ci v14)), (9, .c (ci (t.length : Int))), (10, .c (ci v10)), (13, .c (ci (t.length : Int))), (14, .c (ci v14)), (17, .c (ci (t.length : Int))), (18, .c (ci v18))]) rfl rfl ⟨rfl, rfl, rfl, rfl, rfl, rfl, rfl, rfl, rfl, rfl, trivial⟩) ?_
          refine aw_region ?_
          obtain ⟨q20, h⟩ := h
          refine run_s (ss_add rfl rfl q20) rfl ?_
          refine run_s (ss_move rfl) rfl ?_
          refine run_nil ?_
          exact ⟨v18 + 1, ghe_to (n := 67) rfl rfl ⟨rfl, rfl, rfl, rfl, rfl, rfl, rfl, rfl, rfl, rfl, trivial⟩, h.1, h.2⟩
      · replace h := h.2 (of_decide_eq_false q6)
        refine aw_exit ?_
        refine aw_gh (gh_to (n := 67) (σ' := []) (env' := [(0, .c (.lst (rows t))), (3, .c (ci (t.length : Int))), (4, .c (ci v10)), (9, .c (ci (t.length : Int))), (10, .c (ci v10)), (13, .c (ci (t.length : Int))), (14, .c (ci v14))]) rfl rfl ⟨rfl, rfl, rfl, rfl, rfl, rfl, rfl, trivial⟩) ?_
        refine aw_region ?_
        obtain ⟨q21, h⟩ := h
        refine run_s (ss_add rfl rfl q21) rfl ?_
        refine run_s (ss_move rfl) rfl ?_
        refine run_nil ?_
        exact ⟨v14 + 1, ghe_to (n := 67) rfl rfl ⟨rfl, rfl, rfl, rfl, rfl, rfl, rfl, trivial⟩, h.1, h.2⟩
    · replace h := h.2 (of_decide_eq_false q4)
      refine aw_exit ?_
      refine aw_gh (gh_to (n := 67) (σ' := []) (env' := [(0, .c (.lst (rows t))), (3, .c (ci (t.length : Int))), (9, .c (ci (t.length : Int))), (10, .c (ci v10))]) rfl rfl ⟨rfl, rfl, rfl, rfl, trivial⟩) ?_
      refine aw_region ?_
      obtain ⟨q22, h⟩ := h
      refine run_s (ss_add rfl rfl q22) rfl ?_
      refine run_s (ss_move rfl) rfl ?_
      refine run_nil ?_
      exact ⟨v10 + 1, ghe_to (n := 67) rfl rfl ⟨rfl, rfl, rfl, rfl, trivial⟩, h.1, h.2⟩
  · replace h := h.2 (of_decide_eq_false q2)
    refine aw_exit ?_
    refine aw_seq ?_
    refine aw_gh (gh_to (n := 67) (σ' := []) (env' := []) rfl rfl trivial) ?_
    refine aw_region ?_
    refine run_s (ss_assign rfl) rfl ?_
    refine run_nil ?_
    refine aw_ret ?_
    exact retAF_mk (retv1 rfl (rv_tmp rfl)) rfl rfl ⟨_, (cle_refl _), _, h, rfl⟩

theorem c_impl_cycleFault (t : List (List Int)) (hp : isTab t = true) : AF Try.prog 55 [.lst (rows t)] (fun r => r = onil (cycF t)) :=
  (w_impl_cycleFault t (fun y0 => y0 = cycF t) (p_impl_cycleFault t hp)).mono (by rintro r ⟨_, rfl, rfl⟩; rfl)

set_option maxHeartbeats 1000000 in
theorem w_spec_SquaresOf (c : List (List Int)) (Q : List Int → Int → Prop) (h : wp_spec_SquaresOf c Q) : AF Try.prog 24 [.agg [.lst (rows c)]] (fun r => ∃ y0 y1, Q y0 y1 ∧ r = .tup [.own (ints y0), ci y1]) := by
  refine AF.ofWQ (af_enter (n := 11) Try.func24 rfl (by rfl) rfl (Nat.le_of_ble_eq_true rfl) ?_)
  unfold wp_spec_SquaresOf at h
  refine aw_seq ?_
  refine aw_gh (gh_to (n := 11) (σ' := []) (env' := [(0, .c (.agg [.lst (rows c)]))]) rfl rfl ⟨rfl, trivial⟩) ?_
  refine aw_region ?_
  refine run_w (ws_boxR rfl (.inl rfl) rfl ⟨rfl, ?_⟩)
  refine run_s (ss_assign rfl) rfl ?_
  refine run_s (ss_assign rfl) rfl ?_
  refine run_nil ?_
  refine aw_seq ?_
  refine aw_seq ?_
  refine aw_region ?_
  refine run_s (ss_field_ptr rfl) rfl ?_
  refine run_s (ss_load_ptr rfl rfl) rfl ?_
  obtain ⟨q1, h⟩ := h
  refine run_w (ws_call (xs := [.tmp 5]) (ids := []) rfl rfl rfl rfl (c_spec_l01Table c q1) rfl ?_ )
  rintro _ rfl
  refine ⟨rfl, ?_⟩
  refine run_s (ss_not rfl) rfl ?_
  refine run_nil ?_
  refine aw_cond rfl (fun q3 => ?_) (fun q3 => ?_)
  · replace h := h.1 ((bnot_t q3))
    refine aw_seq ?_
    refine aw_gh (gh_to (n := 11) (σ' := []) (env' := [(2, .c (cnil)), (3, .c (ci 0))]) rfl rfl ⟨rfl, rfl, trivial⟩) ?_
    refine aw_region ?_
    refine run_s (ss_assign rfl) rfl ?_
    refine run_s (ss_assign rfl) rfl ?_
    refine run_nil ?_
    refine aw_ret ?_
    exact retAF_mk (retv2 rfl (rv_tmp rfl) (rv_tmp rfl)) rfl rfl ⟨_, (cle_tup (cleL_cons cle_nilO (cleL_cons (cle_refl _) cleL_nil))), _, _, h, rfl⟩
  · replace h := h.2 ((bnot_f q3))
    refine aw_skip ?_
    refine aw_seq ?_
    refine aw_region ?_
    refine run_s (ss_field_ptr rfl) rfl ?_
    refine run_s (ss_load_ptr rfl rfl) rfl ?_
    obtain ⟨q4, h⟩ := h
    refine run_w (ws_call (xs := [.tmp 9]) (ids := [10]) rfl rfl rfl rfl (c_spec_l05Squares c q4) rfl ?_ )
    rintro _ rfl
    refine ⟨rfl, ?_⟩
    refine run_s (ss_assign rfl) rfl ?_
    refine run_s (ss_assign rfl) rfl ?_
    refine run_nil ?_
    refine aw_ret ?_
    exact retAF_mk (retv2 rfl (rv_tmp rfl) (rv_tmp rfl)) rfl rfl ⟨_, (cle_refl _), _, _, h, rfl⟩

theorem c_spec_SquaresOf (c : List (List Int)) (hp : small2 c) : AF Try.prog 24 [.agg [.lst (rows c)]] (fun r => r = .tup [.own (ints (SquaT c)), ci (SquaE c)]) :=
  (w_spec_SquaresOf c (fun y0 y1 => y0 = SquaT c ∧ y1 = SquaE c) (p_spec_SquaresOf c hp)).mono (by rintro r ⟨_, _, ⟨rfl, rfl⟩, rfl⟩; rfl)

set_option maxHeartbeats 1000000 in
theorem w_impl_SquaresOf (c : List (List Int)) (Q : List Int → Int → Prop) (h : wp_impl_SquaresOf c Q) : AF Try.prog 26 [.agg [.lst (rows c)]] (fun r => ∃ y0 y1, Q y0 y1 ∧ r = .tup [.own (ints y0), ci y1]) := by
  refine AF.ofWQ (af_enter (n := 10) Try.func26 rfl (by rfl) rfl (Nat.le_of_ble_eq_true rfl) ?_)
  unfold wp_impl_SquaresOf at h
  refine aw_seq ?_
  refine aw_gh (gh_to (n := 10) (σ' := []) (env' := [(0, .c (.agg [.lst (rows c)]))]) rfl rfl ⟨rfl, trivial⟩) ?_
  refine aw_region ?_
  refine run_w (ws_boxR rfl (.inl rfl) rfl ⟨rfl, ?_⟩)
  refine run_s (ss_assign rfl) rfl ?_
  refine run_s (ss_assign rfl) rfl ?_
  refine run_nil ?_
  refine aw_seq ?_
  refine aw_seq ?_
  refine aw_region ?_
  refine run_s (ss_field_ptr rfl) rfl ?_
  refine run_s (ss_load_ptr rfl rfl) rfl ?_
  obtain ⟨q1, h⟩ := h
  refine run_w (ws_call (xs := [.tmp 5]) (ids := []) rfl rfl rfl rfl (c_impl_IsTable c q1) rfl ?_ )
  rintro _ rfl
  refine ⟨rfl, ?_⟩
  refine run_s (ss_not rfl) rfl ?_
  refine run_nil ?_
  refine aw_cond rfl (fun q3 => ?_) (fun q3 => ?_)
  · replace h := h.1 ((bnot_t q3))
    refine aw_seq ?_
    refine aw_gh (gh_to (n := 10) (σ' := []) (env' := [(2, .c (cnil)), (3, .c (ci 0))]) rfl rfl ⟨rfl, rfl, trivial⟩) ?_
    refine aw_region ?_
    refine run_s (ss_assign rfl) rfl ?_
    refine run_s (ss_assign rfl) rfl ?_
    refine run_nil ?_
    refine aw_ret ?_
    exact retAF_mk (retv2 rfl (rv_tmp rfl) (rv_tmp rfl)) rfl rfl ⟨_, (cle_tup (cleL_cons cle_nilO (cleL_cons (cle_refl _) cleL_nil))), _, _, h, rfl⟩
  · replace h := h.2 ((bnot_f q3))
    refine aw_skip ?_
    refine aw_seq ?_
    refine aw_gh (gh_to (n := 10) (σ' := []) (env' := [(1, .c (.ptr [.lst (rows c)])), (2, .c (cnil)), (3, .c (ci 0))]) rfl rfl ⟨rfl, rfl, rfl, trivial⟩) ?_
    refine aw_region ?_
    refine run_s (ss_load_struct rfl (Nat.le_of_ble_eq_true rfl)) rfl ?_
    obtain ⟨q4, h⟩ := h
    refine run_w (ws_call (xs := [.tmp 8]) (ids := [9]) rfl rfl rfl rfl (c_impl_squaresOf c q4) rfl ?_ )
    rintro _ rfl
    refine ⟨rfl, ?_⟩
    refine run_s (ss_assign rfl) rfl ?_
    refine run_s (ss_assign rfl) rfl ?_
    refine run_nil ?_
    refine aw_ret ?_
    exact retAF_mk (retv2 rfl (rv_tmp rfl) (rv_tmp rfl)) rfl rfl ⟨_, (cle_refl _), _, _, h, rfl⟩

theorem c_impl_SquaresOf (c : List (List Int)) (hp : small2 c) : AF Try.prog 26 [.agg [.lst (rows c)]] (fun r => r = .tup [.own (ints (SquaT c)), ci (SquaE c)]) :=
  (w_impl_SquaresOf c (fun y0 y1 => y0 = SquaT c ∧ y1 = SquaE c) (p_impl_SquaresOf c hp)).mono (by rintro r ⟨_, _, ⟨rfl, rfl⟩, rfl⟩; rfl)

set_option maxHeartbeats 1000000 in
theorem w_spec_CycleFault (c : List (List Int)) (Q : List Int → Int → Prop) (h : wp_spec_CycleFault c Q) : AF Try.prog 30 [.agg [.lst (rows c)]] (fun r => ∃ y0 y1, Q y0 y1 ∧ r = .tup [.own (ints y0), ci y1]) := by
  refine AF.ofWQ (af_enter (n := 16) Try.func30 rfl (by rfl) rfl (Nat.le_of_ble_eq_true rfl) ?_)
  unfold wp_spec_CycleFault at h
  refine aw_seq ?_
  refine aw_gh (gh_to (n := 16) (σ' := []) (env' := [(0, .c (.agg [.lst (rows c)]))]) rfl rfl ⟨rfl, trivial⟩) ?_
  refine aw_region ?_
  refine run_w (ws_boxR rfl (.inl rfl) rfl ⟨rfl, ?_⟩)
  refine run_s (ss_assign rfl) rfl ?_
  refine run_s (ss_assign rfl) rfl ?_
  refine run_nil ?_
  refine aw_seq ?_
  refine aw_seq ?_
  refine aw_region ?_
  refine run_s (ss_field_ptr rfl) rfl ?_
  refine run_s (ss_load_ptr rfl rfl) rfl ?_
  obtain ⟨q1, h⟩ := h
  refine run_w (ws_call (xs := [.tmp 6]) (ids := []) rfl rfl rfl rfl (c_spec_l01Table c q1) rfl ?_ )
  rintro _ rfl
  refine ⟨rfl, ?_⟩
  refine run_s (ss_not rfl) rfl ?_
  refine run_nil ?_
  refine aw_cond rfl (fun q3 => ?_) (fun q3 => ?_)
  · replace h := h.1 ((bnot_t q3))
    refine aw_seq ?_
    refine aw_gh (gh_to (n := 16) (σ' := []) (env' := [(2, .c (cnil)), (3, .c (ci 0))]) rfl rfl ⟨rfl, rfl, trivial⟩) ?_
    refine aw_region ?_
    refine run_s (ss_assign rfl) rfl ?_
    refine run_s (ss_assign rfl) rfl ?_
    refine run_nil ?_
    refine aw_ret ?_
    exact retAF_mk (retv2 rfl (rv_tmp rfl) (rv_tmp rfl)) rfl rfl ⟨_, (cle_tup (cleL_cons cle_nilO (cleL_cons (cle_refl _) cleL_nil))), _, _, h, rfl⟩
  · replace h := h.2 ((bnot_f q3))
    refine aw_skip ?_
    refine aw_seq ?_
    refine aw_gh (gh_to (n := 16) (σ' := []) (env' := [(1, .c (.ptr [.lst (rows c)]))]) rfl rfl ⟨rfl, trivial⟩) ?_
    refine aw_region ?_
    refine run_s (ss_field_ptr rfl) rfl ?_
    refine run_s (ss_load_ptr rfl rfl) rfl ?_
    obtain ⟨q4, h⟩ := h
    refine run_w (ws_call (xs := [.tmp 10]) (ids := [11]) rfl rfl rfl rfl (c_spec_l05Fault c q4) rfl ?_ )
    rintro _ rfl
    refine ⟨rfl, ?_⟩
    refine run_s (ss_assign rfl) rfl ?_
    refine run_nil ?_
    refine aw_seq ?_
    refine aw_seq ?_
    refine aw_region ?_
    refine run_s (ss_move rfl) rfl ?_
    refine run_s (ss_lenR (f := ci) rfl rfl) rfl ?_
    refine run_s (ss_eql rfl rfl) rfl ?_
    refine run_nil ?_
    refine aw_cond rfl (fun q6 => ?_) (fun q6 => ?_)
    · replace h := h.1 (of_decide_eq_true q6)
      refine aw_seq ?_
      refine aw_gh (gh_to (n := 16) (σ' := [(11, ⟨ints (cycF c), []⟩)]) (env' := []) rfl rfl trivial) ?_
      refine aw_region ?_
      refine run_s (ss_assign rfl) rfl ?_
      refine run_s (ss_assign rfl) rfl ?_
      refine run_nil ?_
      refine aw_ret ?_
      exact retAF_mk (retv2 rfl (rv_tmp rfl) (rv_tmp rfl)) rfl rfl ⟨_, (cle_tup (cleL_cons cle_nilO (cleL_cons (cle_refl _) cleL_nil))), _, _, h, rfl⟩
    · replace h := h.2 (of_decide_eq_false q6)
      refine aw_skip ?_
      refine aw_seq ?_
      refine aw_gh (gh_to (n := 16) (σ' := [(11, ⟨ints (cycF c), []⟩)]) (env' := [(4, .ref 11)]) rfl rfl ⟨rfl, trivial⟩) ?_
      refine aw_region ?_
      refine run_s (ss_move rfl) rfl ?_
      refine run_s (ss_assign rfl) rfl ?_
      refine run_s (ss_assign rfl) rfl ?_
      refine run_nil ?_
      refine aw_ret ?_
      exact retAF_mk (retv2 rfl (rv_tmp rfl) (rv_tmp rfl)) rfl rfl ⟨_, (cle_refl _), _, _, h, rfl⟩

theorem c_spec_CycleFault (c : List (List Int)) (hp : small2 c) : AF Try.prog 30 [.agg [.lst (rows c)]] (fun r => r = .tup [.own (ints (CycfT c)), ci (CycfE c)]) :=
  (w_spec_CycleFault c (fun y0 y1 => y0 = CycfT c ∧ y1 = CycfE c) (p_spec_CycleFault c hp)).mono (by rintro r ⟨_, _, ⟨rfl, rfl⟩, rfl⟩; rfl)

set_option maxHeartbeats 1000000 in
theorem w_impl_CycleFault (c : List (List Int)) (Q : List Int → Int → Prop) (h : wp_impl_CycleFault c Q) : AF Try.prog 31 [.agg [.lst (rows c)]] (fun r => ∃ y0 y1, Q y0 y1 ∧ r = .tup [.own (ints y0), ci y1]) := by
  refine AF.ofWQ (af_enter (n := 15) Try.func31 rfl (by rfl) rfl (Nat.le_of_ble_eq_true rfl) ?_)
  unfold wp_impl_CycleFault at h
  refine aw_seq ?_
  refine aw_gh (gh_to (n := 15) (σ' := []) (env' := [(0, .c (.agg [.lst (rows c)]))]) rfl rfl ⟨rfl, trivial⟩) ?_
  refine aw_region ?_
  refine run_w (ws_boxR rfl (.inl rfl) rfl ⟨rfl, ?_⟩)
  refine run_s (ss_assign rfl) rfl ?_
  refine run_s (ss_assign rfl) rfl ?_
  refine run_nil ?_
  refine aw_seq ?_
  refine aw_seq ?_
  refine aw_region ?_
  refine run_s (ss_field_ptr rfl) rfl ?_
  refine run_s (ss_load_ptr rfl rfl) rfl ?_
  obtain ⟨q1, h⟩ := h
  refine run_w (ws_call (xs := [.tmp 6]) (ids := []) rfl rfl rfl rfl (c_impl_IsTable c q1) rfl ?_ )
  rintro _ rfl
  refine ⟨rfl, ?_⟩
  refine run_s (ss_not rfl) rfl ?_
  refine run_nil ?_
  refine aw_cond rfl (fun q3 => ?_) (fun q3 => ?_)
  · replace h := h.1 ((bnot_t q3))
    refine aw_seq ?_
    refine aw_gh (gh_to (n := 15) (σ' := []) (env' := [(2, .c (cnil)), (3, .c (ci 0))]) rfl rfl ⟨rfl, rfl, trivial⟩) ?_
    refine aw_region ?_
    refine run_s (ss_assign rfl) rfl ?_
    refine run_s (ss_assign rfl) rfl ?_
    refine run_nil ?_
    refine aw_ret ?_
    exact retAF_mk (retv2 rfl (rv_tmp rfl) (rv_tmp rfl)) rfl rfl ⟨_, (cle_tup (cleL_cons cle_nilO (cleL_cons (cle_refl _) cleL_nil))), _, _, h, rfl⟩
  · replace h := h.2 ((bnot_f q3))
    refine aw_skip ?_
    refine aw_seq ?_
    refine aw_gh (gh_to (n := 15) (σ' := []) (env' := [(1, .c (.ptr [.lst (rows c)]))]) rfl rfl ⟨rfl, trivial⟩) ?_
    refine aw_region ?_
    refine run_s (ss_field_ptr rfl) rfl ?_
    refine run_s (ss_load_ptr rfl rfl) rfl ?_
    by_cases q4 : (cycF c) = []
    · replace h := h.1 q4
      obtain ⟨q5, h⟩ := h
      refine run_w (ws_call (xs := [.tmp 10]) (ids := []) rfl rfl rfl rfl (AF.onil_n (c_impl_cycleFault c q5) q4) rfl ?_ )
      rintro _ rfl
      refine ⟨rfl, ?_⟩
      refine run_s (ss_assign rfl) rfl ?_
      refine run_nil ?_
      refine aw_seq ?_
      refine aw_seq ?_
      refine aw_region ?_
      refine run_s (ss_move rfl) rfl ?_
      refine run_s (ss_eql_nil (b' := none) rfl rfl) rfl ?_
      refine run_nil ?_
      refine aw_cond rfl (fun q7 => ?_) (fun q7 => ?_)
      · skip
        refine aw_seq ?_
        refine aw_gh (gh_to (n := 15) (σ' := []) (env' := []) rfl rfl trivial) ?_
        refine aw_region ?_
        refine run_s (ss_assign rfl) rfl ?_
        refine run_s (ss_assign rfl) rfl ?_
        refine run_nil ?_
        refine aw_ret ?_
        exact retAF_mk (retv2 rfl (rv_tmp rfl) (rv_tmp rfl)) rfl rfl ⟨_, (cle_tup (cleL_cons cle_nilO (cleL_cons (cle_refl _) cleL_nil))), _, _, h, rfl⟩
      · cases q7
    · replace h := h.2 q4
      obtain ⟨q8, h⟩ := h
      refine run_w (ws_call (xs := [.tmp 10]) (ids := [11]) rfl rfl rfl rfl (AF.onil_o (c_impl_cycleFault c q8) q4) rfl ?_ )
      rintro _ rfl
      refine ⟨rfl, ?_⟩
      refine run_s (ss_assign rfl) rfl ?_
      refine run_nil ?_
      refine aw_seq ?_
      refine aw_seq ?_
      refine aw_region ?_
      refine run_s (ss_move rfl) rfl ?_
      refine run_s (ss_eql_refNil rfl rfl (map_ne q4) rfl) rfl ?_
      refine run_nil ?_
      refine aw_cond rfl (fun q10 => ?_) (fun q10 => ?_)
      · cases q10
      · skip
        refine aw_skip ?_
        refine aw_seq ?_
        refine aw_gh (gh_to (n := 15) (σ' := [(11, ⟨ints (cycF c), []⟩)]) (env' := [(4, .ref 11)]) rfl rfl ⟨rfl, trivial⟩) ?_
        refine aw_region ?_
        refine run_s (ss_move rfl) rfl ?_
        refine run_s (ss_assign rfl) rfl ?_
        refine run_s (ss_assign rfl) rfl ?_
        refine run_nil ?_
        refine aw_ret ?_
        exact retAF_mk (retv2 rfl (rv_tmp rfl) (rv_tmp rfl)) rfl rfl ⟨_, (cle_refl _), _, _, h, rfl⟩

theorem c_impl_CycleFault (c : List (List Int)) (hp : small2 c) : AF Try.prog 31 [.agg [.lst (rows c)]] (fun r => r = .tup [.own (ints (CycfT c)), ci (CycfE c)]) :=
  (w_impl_CycleFault c (fun y0 y1 => y0 = CycfT c ∧ y1 = CycfE c) (p_impl_CycleFault c hp)).mono (by rintro r ⟨_, _, ⟨rfl, rfl⟩, rfl⟩; rfl)

end Go.Proofs.Ytkekjlgidlbbcaa

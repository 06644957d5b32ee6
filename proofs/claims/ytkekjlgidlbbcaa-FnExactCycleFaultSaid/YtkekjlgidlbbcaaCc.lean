/- Walks of functions to their conditions, and their contracts; no condition. -/
import Derived.Test.YtkekjlgidlbbcaaCb
import Derived.Test.YtkekjlgidlbbcaaDc
import Derived.Test.YtkekjlgidlbbcaaQc
namespace Go.Proofs.Ytkekjlgidlbbcaa

set_option maxHeartbeats 1000000 in
theorem w_laws_FnExactTrivialRack (a0 : Int) (Q : Bool → Prop) (h : wp_laws_FnExactTrivialRack a0 Q) : AF Try.prog 4 [ci a0] (fun r => ∃ y0, Q y0 ∧ r = cb y0) := by
  refine AF.ofWQ (af_enter (n := 63) Try.func4 rfl (by rfl) rfl (Nat.le_of_ble_eq_true rfl) ?_)
  unfold wp_laws_FnExactTrivialRack at h
  refine aw_seq ?_
  refine aw_gh (gh_to (n := 63) (σ' := []) (env' := [(0, .c (ci a0))]) rfl rfl ⟨rfl, trivial⟩) ?_
  refine aw_region ?_
  refine run_s (ss_assign rfl) rfl ?_
  refine run_nil ?_
  refine aw_seq ?_
  refine aw_region ?_
  refine run_s (ss_move rfl) rfl ?_
  refine run_w (ws_call (xs := [.tmp 12]) (ids := [13]) rfl rfl rfl rfl (c_spec_TrivialRack a0) rfl ?_ )
  rintro _ rfl
  refine ⟨rfl, ?_⟩
  refine run_s (ss_move rfl) rfl ?_
  refine run_s (ss_extract rfl rfl) rfl ?_
  refine run_s (ss_extract rfl rfl) rfl ?_
  refine run_w (ws_alloc (id := 3) rfl (Nat.le_of_ble_eq_true rfl) ⟨rfl, ?_⟩)
  refine run_w (ws_storeS rfl rfl (Nat.le_of_ble_eq_true rfl) rfl rfl rfl ⟨rfl, ?_⟩)
  refine run_s (ss_assign rfl) rfl ?_
  refine run_nil ?_
  refine aw_seq ?_
  refine aw_region ?_
  refine run_s (ss_move rfl) rfl ?_
  refine run_w (ws_call (xs := [.tmp 17]) (ids := [18]) rfl rfl rfl rfl (c_impl_TrivialRack a0) rfl ?_ )
  rintro _ rfl
  refine ⟨rfl, ?_⟩
  refine run_s (ss_move rfl) rfl ?_
  refine run_s (ss_extract rfl rfl) rfl ?_
  refine run_s (ss_extract rfl rfl) rfl ?_
  refine run_w (ws_alloc (id := 5) rfl (Nat.le_of_ble_eq_true rfl) ⟨rfl, ?_⟩)
  refine run_w (ws_storeS rfl rfl (Nat.le_of_ble_eq_true rfl) rfl rfl rfl ⟨rfl, ?_⟩)
  refine run_s (ss_assign rfl) rfl ?_
  refine run_nil ?_
  refine aw_seq ?_
  refine aw_seq ?_
  refine aw_region ?_
  refine run_s (ss_loadS rfl rfl rfl rfl) rfl ?_
  refine run_s (ss_loadS rfl rfl rfl rfl) rfl ?_
  obtain ⟨q3, h⟩ := h
  refine run_w (ws_callR (xs := [.tmp 21, .tmp 22]) (cs := [.agg [.own (orows (TrivT a0))], .agg [.own (orows (TrivT a0))]]) (ids := []) rfl (.inr ⟨rfl, rfl⟩) rfl rfl (fz_cons (fz_agg (fz_cons (fz_own (fz_map (fun _ => (fz_own (fz_map (fun _ => rfl) _))) _)) fz_nil)) (fz_cons (fz_agg (fz_cons (fz_own (fz_map (fun _ => (fz_own (fz_map (fun _ => rfl) _))) _)) fz_nil)) fz_nil)) (c_laws_eqRack (TrivT a0) (TrivT a0) q3) rfl ?_ )
  rintro _ rfl
  refine ⟨rfl, rfl, ?_⟩
  refine run_s (ss_not rfl) rfl ?_
  refine run_s (ss_move rfl) rfl ?_
  refine run_split (s := 25) rfl (fun q5 => ?_) (fun q5 => ?_)
  · replace h := h.1 (of_decide_eq_false (bnot_t q5))
    refine run_gf rfl rfl q5 rfl ?_
    refine run_gf rfl rfl q5 rfl ?_
    refine run_gf rfl rfl q5 rfl ?_
    refine run_s (ss_pickT rfl q5 rfl) rfl ?_
    refine run_nil ?_
    refine aw_cond rfl (fun q6 => ?_) (fun q6 => ?_)
    · skip
      refine aw_seq ?_
      refine aw_gh (gh_to (n := 63) (σ' := [(5, ⟨[.hole], [(0, .ref 18)]⟩), (18, ⟨orows (TrivT a0), []⟩), (3, ⟨[.hole], [(0, .ref 13)]⟩), (13, ⟨orows (TrivT a0), []⟩)]) (env' := [(2, .c (cb false))]) rfl rfl ⟨rfl, trivial⟩) ?_
      refine aw_region ?_
      refine run_s (ss_assign rfl) rfl ?_
      refine run_nil ?_
      refine aw_ret ?_
      exact retAF_mk (retv1 rfl (rv_tmp rfl)) rfl rfl ⟨_, (cle_refl _), _, h, rfl⟩
    · cases q6
  · replace h := h.2 (of_decide_eq_true (bnot_f q5))
    refine run_gt rfl rfl q5 ?_
    refine run_s (ss_move rfl) rfl ?_
    refine run_gt rfl rfl q5 ?_
    refine run_s (ss_move rfl) rfl ?_
    refine run_gt rfl rfl q5 ?_
    refine run_s (ss_neq rfl rfl) rfl ?_
    refine run_s (ss_pickF rfl q5 rfl) rfl ?_
    refine run_nil ?_
    refine aw_cond rfl (fun q7 => ?_) (fun q7 => ?_)
    · replace h := h.1 (of_decide_eq_false (bnot_t q7))
      refine aw_seq ?_
      refine aw_gh (gh_to (n := 63) (σ' := [(5, ⟨[.hole], [(0, .ref 18)]⟩), (18, ⟨orows (TrivT a0), []⟩), (3, ⟨[.hole], [(0, .ref 13)]⟩), (13, ⟨orows (TrivT a0), []⟩)]) (env' := [(2, .c (cb false))]) rfl rfl ⟨rfl, trivial⟩) ?_
      refine aw_region ?_
      refine run_s (ss_assign rfl) rfl ?_
      refine run_nil ?_
      refine aw_ret ?_
      exact retAF_mk (retv1 rfl (rv_tmp rfl)) rfl rfl ⟨_, (cle_refl _), _, h, rfl⟩
    · replace h := h.2 (of_decide_eq_true (bnot_f q7))
      refine aw_skip ?_
      refine aw_seq ?_
      refine aw_gh (gh_to (n := 63) (σ' := [(5, ⟨[.hole], [(0, .ref 18)]⟩), (18, ⟨orows (TrivT a0), []⟩), (3, ⟨[.hole], [(0, .ref 13)]⟩), (13, ⟨orows (TrivT a0), []⟩)]) (env' := [(0, .c (ci a0)), (3, .cell 3 0), (4, .c (ci (TrivE a0))), (5, .cell 5 0)]) rfl rfl ⟨rfl, rfl, rfl, rfl, trivial⟩) ?_
      refine aw_region ?_
      refine run_s (ss_assign rfl) rfl ?_
      refine run_nil ?_
      refine aw_seq ?_
      refine aw_region ?_
      refine run_s (ss_loadS rfl rfl rfl rfl) rfl ?_
      refine run_s (ss_move rfl) rfl ?_
      obtain ⟨q8, h⟩ := h
      refine run_w (ws_callM (xs := [.tmp 30, .tmp 31]) (cs := [.agg [.own (orows (TrivT a0))], ci 1]) (ids := []) rfl (.inr ⟨rfl, rfl⟩) rfl rfl rfl (c_laws_markRack (TrivT a0) 1 q8) rfl ?_ )
      rintro _ _ ⟨rfl, rfl⟩
      refine ⟨rfl, rfl, ?_⟩
      refine run_s (ss_assign rfl) rfl ?_
      refine run_nil ?_
      refine aw_seq ?_
      refine aw_region ?_
      refine run_s (ss_assign rfl) rfl ?_
      refine run_nil ?_
      refine aw_seq ?_
      refine aw_region ?_
      refine run_s (ss_loadS rfl rfl rfl rfl) rfl ?_
      refine run_s (ss_move rfl) rfl ?_
      obtain ⟨q10, h⟩ := h
      refine run_w (ws_callR (xs := [.tmp 33, .tmp 34]) (cs := [.agg [.own (orows (mkII (1 : Int) (TrivT a0)))], ci 1]) (ids := []) rfl (.inr ⟨rfl, rfl⟩) rfl rfl (fz_cons (fz_agg (fz_cons (fz_own (fz_map (fun _ => (fz_own (fz_map (fun _ => rfl) _))) _)) fz_nil)) (fz_cons rfl fz_nil)) (c_laws_heldRack (mkII (1 : Int) (TrivT a0)) 1 q10) rfl ?_ )
      rintro _ rfl
      refine ⟨rfl, rfl, ?_⟩
      refine run_s (ss_assign rfl) rfl ?_
      refine run_nil ?_
      refine aw_seq ?_
      refine aw_seq ?_
      refine aw_region ?_
      refine run_s (ss_move rfl) rfl ?_
      refine run_s (ss_lss rfl rfl) rfl ?_
      refine run_nil ?_
      refine aw_cond rfl (fun q12 => ?_) (fun q12 => ?_)
      · replace h := h.1 (of_decide_eq_true q12)
        refine aw_seq ?_
        refine aw_gh (gh_to (n := 63) (σ' := [(5, ⟨[.hole], [(0, .ref 18)]⟩), (18, ⟨orows (mkII (1 : Int) (TrivT a0)), []⟩), (3, ⟨[.hole], [(0, .ref 13)]⟩), (13, ⟨orows (TrivT a0), []⟩)]) (env' := []) rfl rfl trivial) ?_
        refine aw_region ?_
        refine run_s (ss_assign rfl) rfl ?_
        refine run_nil ?_
        refine aw_ret ?_
        exact retAF_mk (retv1 rfl (rv_tmp rfl)) rfl rfl ⟨_, (cle_refl _), _, h, rfl⟩
      · replace h := h.2 (of_decide_eq_false q12)
        refine aw_skip ?_
        refine aw_seq ?_
        refine aw_seq ?_
        refine aw_region ?_
        refine run_s (ss_move rfl) rfl ?_
        refine run_s (ss_move rfl) rfl ?_
        refine run_s (ss_neq rfl rfl) rfl ?_
        refine run_nil ?_
        refine aw_cond rfl (fun q13 => ?_) (fun q13 => ?_)
        · replace h := h.1 (of_decide_eq_false (bnot_t q13))
          refine aw_seq ?_
          refine aw_gh (gh_to (n := 63) (σ' := [(5, ⟨[.hole], [(0, .ref 18)]⟩), (18, ⟨orows (mkII (1 : Int) (TrivT a0)), []⟩), (3, ⟨[.hole], [(0, .ref 13)]⟩), (13, ⟨orows (TrivT a0), []⟩)]) (env' := []) rfl rfl trivial) ?_
          refine aw_region ?_
          refine run_s (ss_assign rfl) rfl ?_
          refine run_nil ?_
          refine aw_ret ?_
          exact retAF_mk (retv1 rfl (rv_tmp rfl)) rfl rfl ⟨_, (cle_refl _), _, h, rfl⟩
        · replace h := h.2 (of_decide_eq_true (bnot_f q13))
          refine aw_skip ?_
          refine aw_seq ?_
          refine aw_region ?_
          refine run_s (ss_move rfl) rfl ?_
          refine run_w (ws_call (xs := [.tmp 42]) (ids := [43]) rfl rfl rfl rfl (c_impl_TrivialRack a0) rfl ?_ )
          rintro _ rfl
          refine ⟨rfl, ?_⟩
          refine run_s (ss_move rfl) rfl ?_
          refine run_s (ss_extract rfl rfl) rfl ?_
          refine run_s (ss_extract rfl rfl) rfl ?_
          refine run_w (ws_alloc (id := 9) rfl (Nat.le_of_ble_eq_true rfl) ⟨rfl, ?_⟩)
          refine run_w (ws_storeS rfl rfl (Nat.le_of_ble_eq_true rfl) rfl rfl rfl ⟨rfl, ?_⟩)
          refine run_s (ss_assign rfl) rfl ?_
          refine run_nil ?_
          refine aw_seq ?_
          refine aw_seq ?_
          refine aw_gh (gh_to (n := 63) (σ' := [(9, ⟨[.hole], [(0, .ref 43)]⟩), (43, ⟨orows (TrivT a0), []⟩), (5, ⟨[.hole], [(0, .ref 18)]⟩), (18, ⟨orows (mkII (1 : Int) (TrivT a0)), []⟩), (3, ⟨[.hole], [(0, .ref 13)]⟩), (13, ⟨orows (TrivT a0), []⟩)]) (env' := [(3, .cell 3 0), (4, .c (ci (TrivE a0))), (5, .cell 5 0), (7, .c (ci ((1 : Int) + tot (TrivT a0)))), (9, .cell 9 0), (10, .c (ci (TrivE a0)))]) rfl rfl ⟨rfl, rfl, rfl, rfl, rfl, rfl, trivial⟩) ?_
          refine aw_region ?_
          refine run_s (ss_loadS rfl rfl rfl rfl) rfl ?_
          refine run_s (ss_loadS rfl rfl rfl rfl) rfl ?_
          obtain ⟨q15, h⟩ := h
          refine run_w (ws_callR (xs := [.tmp 46, .tmp 47]) (cs := [.agg [.own (orows (TrivT a0))], .agg [.own (orows (TrivT a0))]]) (ids := []) rfl (.inr ⟨rfl, rfl⟩) rfl rfl (fz_cons (fz_agg (fz_cons (fz_own (fz_map (fun _ => (fz_own (fz_map (fun _ => rfl) _))) _)) fz_nil)) (fz_cons (fz_agg (fz_cons (fz_own (fz_map (fun _ => (fz_own (fz_map (fun _ => rfl) _))) _)) fz_nil)) fz_nil)) (c_laws_eqRack (TrivT a0) (TrivT a0) q15) rfl ?_ )
          rintro _ rfl
          refine ⟨rfl, rfl, ?_⟩
          refine run_s (ss_not rfl) rfl ?_
          refine run_s (ss_move rfl) rfl ?_
          refine run_split (s := 50) rfl (fun q17 => ?_) (fun q17 => ?_)
          · replace h := h.1 (of_decide_eq_false (bnot_t q17))
            refine run_gf rfl rfl q17 rfl ?_
            refine run_gf rfl rfl q17 rfl ?_
            refine run_gf rfl rfl q17 rfl ?_
            refine run_s (ss_pickT rfl q17 rfl) rfl ?_
            refine run_nil ?_
            refine aw_cond rfl (fun q18 => ?_) (fun q18 => ?_)
            · skip
              refine aw_seq ?_
              refine aw_gh (gh_to (n := 63) (σ' := [(9, ⟨[.hole], [(0, .ref 43)]⟩), (43, ⟨orows (TrivT a0), []⟩), (5, ⟨[.hole], [(0, .ref 18)]⟩), (18, ⟨orows (mkII (1 : Int) (TrivT a0)), []⟩), (3, ⟨[.hole], [(0, .ref 13)]⟩), (13, ⟨orows (TrivT a0), []⟩)]) (env' := []) rfl rfl trivial) ?_
              refine aw_region ?_
              refine run_s (ss_assign rfl) rfl ?_
              refine run_nil ?_
              refine aw_ret ?_
              exact retAF_mk (retv1 rfl (rv_tmp rfl)) rfl rfl ⟨_, (cle_refl _), _, h, rfl⟩
            · cases q18
          · replace h := h.2 (of_decide_eq_true (bnot_f q17))
            refine run_gt rfl rfl q17 ?_
            refine run_s (ss_move rfl) rfl ?_
            refine run_gt rfl rfl q17 ?_
            refine run_s (ss_move rfl) rfl ?_
            refine run_gt rfl rfl q17 ?_
            refine run_s (ss_neq rfl rfl) rfl ?_
            refine run_s (ss_pickF rfl q17 rfl) rfl ?_
            refine run_nil ?_
            refine aw_cond rfl (fun q19 => ?_) (fun q19 => ?_)
            · replace h := h.1 (of_decide_eq_false (bnot_t q19))
              refine aw_seq ?_
              refine aw_gh (gh_to (n := 63) (σ' := [(9, ⟨[.hole], [(0, .ref 43)]⟩), (43, ⟨orows (TrivT a0), []⟩), (5, ⟨[.hole], [(0, .ref 18)]⟩), (18, ⟨orows (mkII (1 : Int) (TrivT a0)), []⟩), (3, ⟨[.hole], [(0, .ref 13)]⟩), (13, ⟨orows (TrivT a0), []⟩)]) (env' := []) rfl rfl trivial) ?_
              refine aw_region ?_
              refine run_s (ss_assign rfl) rfl ?_
              refine run_nil ?_
              refine aw_ret ?_
              exact retAF_mk (retv1 rfl (rv_tmp rfl)) rfl rfl ⟨_, (cle_refl _), _, h, rfl⟩
            · replace h := h.2 (of_decide_eq_true (bnot_f q19))
              refine aw_skip ?_
              refine aw_seq ?_
              refine aw_gh (gh_to (n := 63) (σ' := [(9, ⟨[.hole], [(0, .ref 43)]⟩), (43, ⟨orows (TrivT a0), []⟩), (5, ⟨[.hole], [(0, .ref 18)]⟩), (18, ⟨orows (mkII (1 : Int) (TrivT a0)), []⟩), (3, ⟨[.hole], [(0, .ref 13)]⟩), (13, ⟨orows (TrivT a0), []⟩)]) (env' := [(5, .cell 5 0), (7, .c (ci ((1 : Int) + tot (TrivT a0))))]) rfl rfl ⟨rfl, rfl, trivial⟩) ?_
              refine aw_region ?_
              refine run_s (ss_assign rfl) rfl ?_
              refine run_nil ?_
              refine aw_seq ?_
              refine aw_region ?_
              refine run_s (ss_loadS rfl rfl rfl rfl) rfl ?_
              refine run_s (ss_move rfl) rfl ?_
              obtain ⟨q20, h⟩ := h
              refine run_w (ws_callR (xs := [.tmp 55, .tmp 56]) (cs := [.agg [.own (orows (mkII (1 : Int) (TrivT a0)))], ci 1]) (ids := []) rfl (.inr ⟨rfl, rfl⟩) rfl rfl (fz_cons (fz_agg (fz_cons (fz_own (fz_map (fun _ => (fz_own (fz_map (fun _ => rfl) _))) _)) fz_nil)) (fz_cons rfl fz_nil)) (c_laws_heldRack (mkII (1 : Int) (TrivT a0)) 1 q20) rfl ?_ )
              rintro _ rfl
              refine ⟨rfl, rfl, ?_⟩
              refine run_s (ss_assign rfl) rfl ?_
              refine run_nil ?_
              refine aw_seq ?_
              refine aw_seq ?_
              refine aw_region ?_
              refine run_s (ss_move rfl) rfl ?_
              refine run_s (ss_lss rfl rfl) rfl ?_
              refine run_nil ?_
              refine aw_cond rfl (fun q22 => ?_) (fun q22 => ?_)
              · replace h := h.1 (of_decide_eq_true q22)
                refine aw_seq ?_
                refine aw_gh (gh_to (n := 63) (σ' := [(9, ⟨[.hole], [(0, .ref 43)]⟩), (43, ⟨orows (TrivT a0), []⟩), (5, ⟨[.hole], [(0, .ref 18)]⟩), (18, ⟨orows (mkII (1 : Int) (TrivT a0)), []⟩), (3, ⟨[.hole], [(0, .ref 13)]⟩), (13, ⟨orows (TrivT a0), []⟩)]) (env' := []) rfl rfl trivial) ?_
                refine aw_region ?_
                refine run_s (ss_assign rfl) rfl ?_
                refine run_nil ?_
                refine aw_ret ?_
                exact retAF_mk (retv1 rfl (rv_tmp rfl)) rfl rfl ⟨_, (cle_refl _), _, h, rfl⟩
              · replace h := h.2 (of_decide_eq_false q22)
                refine aw_skip ?_
                refine aw_seq ?_
                refine aw_seq ?_
                refine aw_gh (gh_to (n := 63) (σ' := [(9, ⟨[.hole], [(0, .ref 43)]⟩), (43, ⟨orows (TrivT a0), []⟩), (5, ⟨[.hole], [(0, .ref 18)]⟩), (18, ⟨orows (mkII (1 : Int) (TrivT a0)), []⟩), (3, ⟨[.hole], [(0, .ref 13)]⟩), (13, ⟨orows (TrivT a0), []⟩)]) (env' := [(7, .c (ci ((1 : Int) + tot (TrivT a0)))), (8, .c (ci (heII (1 : Int) (mkII (1 : Int) (TrivT a0)))))]) rfl rfl ⟨rfl, rfl, trivial⟩) ?_
                refine aw_region ?_
                refine run_s (ss_move rfl) rfl ?_
                refine run_s (ss_move rfl) rfl ?_
                refine run_s (ss_neq rfl rfl) rfl ?_
                refine run_nil ?_
                refine aw_cond rfl (fun q23 => ?_) (fun q23 => ?_)
                · replace h := h.1 (of_decide_eq_false (bnot_t q23))
                  refine aw_seq ?_
                  refine aw_gh (gh_to (n := 63) (σ' := [(9, ⟨[.hole], [(0, .ref 43)]⟩), (43, ⟨orows (TrivT a0), []⟩), (5, ⟨[.hole], [(0, .ref 18)]⟩), (18, ⟨orows (mkII (1 : Int) (TrivT a0)), []⟩), (3, ⟨[.hole], [(0, .ref 13)]⟩), (13, ⟨orows (TrivT a0), []⟩)]) (env' := []) rfl rfl trivial) ?_
                  refine aw_region ?_
                  refine run_s (ss_assign rfl) rfl ?_
                  refine run_nil ?_
                  refine aw_ret ?_
                  exact retAF_mk (retv1 rfl (rv_tmp rfl)) rfl rfl ⟨_, (cle_refl _), _, h, rfl⟩
                · replace h := h.2 (of_decide_eq_true (bnot_f q23))
                  refine aw_skip ?_
                  refine aw_seq ?_
                  refine aw_gh (gh_to (n := 63) (σ' := [(9, ⟨[.hole], [(0, .ref 43)]⟩), (43, ⟨orows (TrivT a0), []⟩), (5, ⟨[.hole], [(0, .ref 18)]⟩), (18, ⟨orows (mkII (1 : Int) (TrivT a0)), []⟩), (3, ⟨[.hole], [(0, .ref 13)]⟩), (13, ⟨orows (TrivT a0), []⟩)]) (env' := []) rfl rfl trivial) ?_
                  refine aw_region ?_
                  refine run_s (ss_assign rfl) rfl ?_
                  refine run_nil ?_
                  refine aw_ret ?_
                  exact retAF_mk (retv1 rfl (rv_tmp rfl)) rfl rfl ⟨_, (cle_refl _), _, h, rfl⟩

theorem c_laws_FnExactTrivialRack (a0 : Int) (hp : InI a0) : AF Try.prog 4 [ci a0] (fun r => r = cb true) :=
  (w_laws_FnExactTrivialRack a0 (fun y0 => y0 = true) (p_laws_FnExactTrivialRack a0 hp)).mono (by rintro r ⟨_, rfl, rfl⟩; rfl)

set_option maxHeartbeats 1000000 in
theorem w_laws_FnExactDihedralQuandle (a0 : Int) (Q : Bool → Prop) (h : wp_laws_FnExactDihedralQuandle a0 Q) : AF Try.prog 3 [ci a0] (fun r => ∃ y0, Q y0 ∧ r = cb y0) := by
  refine AF.ofWQ (af_enter (n := 63) Try.func3 rfl (by rfl) rfl (Nat.le_of_ble_eq_true rfl) ?_)
  unfold wp_laws_FnExactDihedralQuandle at h
  refine aw_seq ?_
  refine aw_gh (gh_to (n := 63) (σ' := []) (env' := [(0, .c (ci a0))]) rfl rfl ⟨rfl, trivial⟩) ?_
  refine aw_region ?_
  refine run_s (ss_assign rfl) rfl ?_
  refine run_nil ?_
  refine aw_seq ?_
  refine aw_region ?_
  refine run_s (ss_move rfl) rfl ?_
  refine run_w (ws_call (xs := [.tmp 12]) (ids := [13]) rfl rfl rfl rfl (c_spec_DihedralQuandle a0) rfl ?_ )
  rintro _ rfl
  refine ⟨rfl, ?_⟩
  refine run_s (ss_move rfl) rfl ?_
  refine run_s (ss_extract rfl rfl) rfl ?_
  refine run_s (ss_extract rfl rfl) rfl ?_
  refine run_w (ws_alloc (id := 3) rfl (Nat.le_of_ble_eq_true rfl) ⟨rfl, ?_⟩)
  refine run_w (ws_storeS rfl rfl (Nat.le_of_ble_eq_true rfl) rfl rfl rfl ⟨rfl, ?_⟩)
  refine run_s (ss_assign rfl) rfl ?_
  refine run_nil ?_
  refine aw_seq ?_
  refine aw_region ?_
  refine run_s (ss_move rfl) rfl ?_
  refine run_w (ws_call (xs := [.tmp 17]) (ids := [18]) rfl rfl rfl rfl (c_impl_DihedralQuandle a0) rfl ?_ )
  rintro _ rfl
  refine ⟨rfl, ?_⟩
  refine run_s (ss_move rfl) rfl ?_
  refine run_s (ss_extract rfl rfl) rfl ?_
  refine run_s (ss_extract rfl rfl) rfl ?_
  refine run_w (ws_alloc (id := 5) rfl (Nat.le_of_ble_eq_true rfl) ⟨rfl, ?_⟩)
  refine run_w (ws_storeS rfl rfl (Nat.le_of_ble_eq_true rfl) rfl rfl rfl ⟨rfl, ?_⟩)
  refine run_s (ss_assign rfl) rfl ?_
  refine run_nil ?_
  refine aw_seq ?_
  refine aw_seq ?_
  refine aw_region ?_
  refine run_s (ss_loadS rfl rfl rfl rfl) rfl ?_
  refine run_s (ss_loadS rfl rfl rfl rfl) rfl ?_
  obtain ⟨q3, h⟩ := h
  refine run_w (ws_callR (xs := [.tmp 21, .tmp 22]) (cs := [.agg [.own (orows (DiheT a0))], .agg [.own (orows (DiheT a0))]]) (ids := []) rfl (.inr ⟨rfl, rfl⟩) rfl rfl (fz_cons (fz_agg (fz_cons (fz_own (fz_map (fun _ => (fz_own (fz_map (fun _ => rfl) _))) _)) fz_nil)) (fz_cons (fz_agg (fz_cons (fz_own (fz_map (fun _ => (fz_own (fz_map (fun _ => rfl) _))) _)) fz_nil)) fz_nil)) (c_laws_eqRack (DiheT a0) (DiheT a0) q3) rfl ?_ )
  rintro _ rfl
  refine ⟨rfl, rfl, ?_⟩
  refine run_s (ss_not rfl) rfl ?_
  refine run_s (ss_move rfl) rfl ?_
  refine run_split (s := 25) rfl (fun q5 => ?_) (fun q5 => ?_)
  · replace h := h.1 (of_decide_eq_false (bnot_t q5))
    refine run_gf rfl rfl q5 rfl ?_
    refine run_gf rfl rfl q5 rfl ?_
    refine run_gf rfl rfl q5 rfl ?_
    refine run_s (ss_pickT rfl q5 rfl) rfl ?_
    refine run_nil ?_
    refine aw_cond rfl (fun q6 => ?_) (fun q6 => ?_)
    · skip
      refine aw_seq ?_
      refine aw_gh (gh_to (n := 63) (σ' := [(5, ⟨[.hole], [(0, .ref 18)]⟩), (18, ⟨orows (DiheT a0), []⟩), (3, ⟨[.hole], [(0, .ref 13)]⟩), (13, ⟨orows (DiheT a0), []⟩)]) (env' := [(2, .c (cb false))]) rfl rfl ⟨rfl, trivial⟩) ?_
      refine aw_region ?_
      refine run_s (ss_assign rfl) rfl ?_
      refine run_nil ?_
      refine aw_ret ?_
      exact retAF_mk (retv1 rfl (rv_tmp rfl)) rfl rfl ⟨_, (cle_refl _), _, h, rfl⟩
    · cases q6
  · replace h := h.2 (of_decide_eq_true (bnot_f q5))
    refine run_gt rfl rfl q5 ?_
    refine run_s (ss_move rfl) rfl ?_
    refine run_gt rfl rfl q5 ?_
    refine run_s (ss_move rfl) rfl ?_
    refine run_gt rfl rfl q5 ?_
    refine run_s (ss_neq rfl rfl) rfl ?_
    refine run_s (ss_pickF rfl q5 rfl) rfl ?_
    refine run_nil ?_
    refine aw_cond rfl (fun q7 => ?_) (fun q7 => ?_)
    · replace h := h.1 (of_decide_eq_false (bnot_t q7))
      refine aw_seq ?_
      refine aw_gh (gh_to (n := 63) (σ' := [(5, ⟨[.hole], [(0, .ref 18)]⟩), (18, ⟨orows (DiheT a0), []⟩), (3, ⟨[.hole], [(0, .ref 13)]⟩), (13, ⟨orows (DiheT a0), []⟩)]) (env' := [(2, .c (cb false))]) rfl rfl ⟨rfl, trivial⟩) ?_
      refine aw_region ?_
      refine run_s (ss_assign rfl) rfl ?_
      refine run_nil ?_
      refine aw_ret ?_
      exact retAF_mk (retv1 rfl (rv_tmp rfl)) rfl rfl ⟨_, (cle_refl _), _, h, rfl⟩
    · replace h := h.2 (of_decide_eq_true (bnot_f q7))
      refine aw_skip ?_
      refine aw_seq ?_
      refine aw_gh (gh_to (n := 63) (σ' := [(5, ⟨[.hole], [(0, .ref 18)]⟩), (18, ⟨orows (DiheT a0), []⟩), (3, ⟨[.hole], [(0, .ref 13)]⟩), (13, ⟨orows (DiheT a0), []⟩)]) (env' := [(0, .c (ci a0)), (3, .cell 3 0), (4, .c (ci (TrivE a0))), (5, .cell 5 0)]) rfl rfl ⟨rfl, rfl, rfl, rfl, trivial⟩) ?_
      refine aw_region ?_
      refine run_s (ss_assign rfl) rfl ?_
      refine run_nil ?_
      refine aw_seq ?_
      refine aw_region ?_
      refine run_s (ss_loadS rfl rfl rfl rfl) rfl ?_
      refine run_s (ss_move rfl) rfl ?_
      obtain ⟨q8, h⟩ := h
      refine run_w (ws_callM (xs := [.tmp 30, .tmp 31]) (cs := [.agg [.own (orows (DiheT a0))], ci 1]) (ids := []) rfl (.inr ⟨rfl, rfl⟩) rfl rfl rfl (c_laws_markRack (DiheT a0) 1 q8) rfl ?_ )
      rintro _ _ ⟨rfl, rfl⟩
      refine ⟨rfl, rfl, ?_⟩
      refine run_s (ss_assign rfl) rfl ?_
      refine run_nil ?_
      refine aw_seq ?_
      refine aw_region ?_
      refine run_s (ss_assign rfl) rfl ?_
      refine run_nil ?_
      refine aw_seq ?_
      refine aw_region ?_
      refine run_s (ss_loadS rfl rfl rfl rfl) rfl ?_
      refine run_s (ss_move rfl) rfl ?_
      obtain ⟨q10, h⟩ := h
      refine run_w (ws_callR (xs := [.tmp 33, .tmp 34]) (cs := [.agg [.own (orows (mkII (1 : Int) (DiheT a0)))], ci 1]) (ids := []) rfl (.inr ⟨rfl, rfl⟩) rfl rfl (fz_cons (fz_agg (fz_cons (fz_own (fz_map (fun _ => (fz_own (fz_map (fun _ => rfl) _))) _)) fz_nil)) (fz_cons rfl fz_nil)) (c_laws_heldRack (mkII (1 : Int) (DiheT a0)) 1 q10) rfl ?_ )
      rintro _ rfl
      refine ⟨rfl, rfl, ?_⟩
      refine run_s (ss_assign rfl) rfl ?_
      refine run_nil ?_
      refine aw_seq ?_
      refine aw_seq ?_
      refine aw_region ?_
      refine run_s (ss_move rfl) rfl ?_
      refine run_s (ss_lss rfl rfl) rfl ?_
      refine run_nil ?_
      refine aw_cond rfl (fun q12 => ?_) (fun q12 => ?_)
      · replace h := h.1 (of_decide_eq_true q12)
        refine aw_seq ?_
        refine aw_gh (gh_to (n := 63) (σ' := [(5, ⟨[.hole], [(0, .ref 18)]⟩), (18, ⟨orows (mkII (1 : Int) (DiheT a0)), []⟩), (3, ⟨[.hole], [(0, .ref 13)]⟩), (13, ⟨orows (DiheT a0), []⟩)]) (env' := []) rfl rfl trivial) ?_
        refine aw_region ?_
        refine run_s (ss_assign rfl) rfl ?_
        refine run_nil ?_
        refine aw_ret ?_
        exact retAF_mk (retv1 rfl (rv_tmp rfl)) rfl rfl ⟨_, (cle_refl _), _, h, rfl⟩
      · replace h := h.2 (of_decide_eq_false q12)
        refine aw_skip ?_
        refine aw_seq ?_
        refine aw_seq ?_
        refine aw_region ?_
        refine run_s (ss_move rfl) rfl ?_
        refine run_s (ss_move rfl) rfl ?_
        refine run_s (ss_neq rfl rfl) rfl ?_
        refine run_nil ?_
        refine aw_cond rfl (fun q13 => ?_) (fun q13 => ?_)
        · replace h := h.1 (of_decide_eq_false (bnot_t q13))
          refine aw_seq ?_
          refine aw_gh (gh_to (n := 63) (σ' := [(5, ⟨[.hole], [(0, .ref 18)]⟩), (18, ⟨orows (mkII (1 : Int) (DiheT a0)), []⟩), (3, ⟨[.hole], [(0, .ref 13)]⟩), (13, ⟨orows (DiheT a0), []⟩)]) (env' := []) rfl rfl trivial) ?_
          refine aw_region ?_
          refine run_s (ss_assign rfl) rfl ?_
          refine run_nil ?_
          refine aw_ret ?_
          exact retAF_mk (retv1 rfl (rv_tmp rfl)) rfl rfl ⟨_, (cle_refl _), _, h, rfl⟩
        · replace h := h.2 (of_decide_eq_true (bnot_f q13))
          refine aw_skip ?_
          refine aw_seq ?_
          refine aw_region ?_
          refine run_s (ss_move rfl) rfl ?_
          refine run_w (ws_call (xs := [.tmp 42]) (ids := [43]) rfl rfl rfl rfl (c_impl_DihedralQuandle a0) rfl ?_ )
          rintro _ rfl
          refine ⟨rfl, ?_⟩
          refine run_s (ss_move rfl) rfl ?_
          refine run_s (ss_extract rfl rfl) rfl ?_
          refine run_s (ss_extract rfl rfl) rfl ?_
          refine run_w (ws_alloc (id := 9) rfl (Nat.le_of_ble_eq_true rfl) ⟨rfl, ?_⟩)
          refine run_w (ws_storeS rfl rfl (Nat.le_of_ble_eq_true rfl) rfl rfl rfl ⟨rfl, ?_⟩)
          refine run_s (ss_assign rfl) rfl ?_
          refine run_nil ?_
          refine aw_seq ?_
          refine aw_seq ?_
          refine aw_gh (gh_to (n := 63) (σ' := [(9, ⟨[.hole], [(0, .ref 43)]⟩), (43, ⟨orows (DiheT a0), []⟩), (5, ⟨[.hole], [(0, .ref 18)]⟩), (18, ⟨orows (mkII (1 : Int) (DiheT a0)), []⟩), (3, ⟨[.hole], [(0, .ref 13)]⟩), (13, ⟨orows (DiheT a0), []⟩)]) (env' := [(3, .cell 3 0), (4, .c (ci (TrivE a0))), (5, .cell 5 0), (7, .c (ci ((1 : Int) + tot (DiheT a0)))), (9, .cell 9 0), (10, .c (ci (TrivE a0)))]) rfl rfl ⟨rfl, rfl, rfl, rfl, rfl, rfl, trivial⟩) ?_
          refine aw_region ?_
          refine run_s (ss_loadS rfl rfl rfl rfl) rfl ?_
          refine run_s (ss_loadS rfl rfl rfl rfl) rfl ?_
          obtain ⟨q15, h⟩ := h
          refine run_w (ws_callR (xs := [.tmp 46, .tmp 47]) (cs := [.agg [.own (orows (DiheT a0))], .agg [.own (orows (DiheT a0))]]) (ids := []) rfl (.inr ⟨rfl, rfl⟩) rfl rfl (fz_cons (fz_agg (fz_cons (fz_own (fz_map (fun _ => (fz_own (fz_map (fun _ => rfl) _))) _)) fz_nil)) (fz_cons (fz_agg (fz_cons (fz_own (fz_map (fun _ => (fz_own (fz_map (fun _ => rfl) _))) _)) fz_nil)) fz_nil)) (c_laws_eqRack (DiheT a0) (DiheT a0) q15) rfl ?_ )
          rintro _ rfl
          refine ⟨rfl, rfl, ?_⟩
          refine run_s (ss_not rfl) rfl ?_
          refine run_s (ss_move rfl) rfl ?_
          refine run_split (s := 50) rfl (fun q17 => ?_) (fun q17 => ?_)
          · replace h := h.1 (of_decide_eq_false (bnot_t q17))
            refine run_gf rfl rfl q17 rfl ?_
            refine run_gf rfl rfl q17 rfl ?_
            refine run_gf rfl rfl q17 rfl ?_
            refine run_s (ss_pickT rfl q17 rfl) rfl ?_
            refine run_nil ?_
            refine aw_cond rfl (fun q18 => ?_) (fun q18 => ?_)
            · skip
              refine aw_seq ?_
              refine aw_gh (gh_to (n := 63) (σ' := [(9, ⟨[.hole], [(0, .ref 43)]⟩), (43, ⟨orows (DiheT a0), []⟩), (5, ⟨[.hole], [(0, .ref 18)]⟩), (18, ⟨orows (mkII (1 : Int) (DiheT a0)), []⟩), (3, ⟨[.hole], [(0, .ref 13)]⟩), (13, ⟨orows (DiheT a0), []⟩)]) (env' := []) rfl rfl trivial) ?_
              refine aw_region ?_
              refine run_s (ss_assign rfl) rfl ?_
              refine run_nil ?_
              refine aw_ret ?_
              exact retAF_mk (retv1 rfl (rv_tmp rfl)) rfl rfl ⟨_, (cle_refl _), _, h, rfl⟩
            · cases q18
          · replace h := h.2 (of_decide_eq_true (bnot_f q17))
            refine run_gt rfl rfl q17 ?_
            refine run_s (ss_move rfl) rfl ?_
            refine run_gt rfl rfl q17 ?_
            refine run_s (ss_move rfl) rfl ?_
            refine run_gt rfl rfl q17 ?_
            refine run_s (ss_neq rfl rfl) rfl ?_
            refine run_s (ss_pickF rfl q17 rfl) rfl ?_
            refine run_nil ?_
            refine aw_cond rfl (fun q19 => ?_) (fun q19 => ?_)
            · replace h := h.1 (of_decide_eq_false (bnot_t q19))
              refine aw_seq ?_
              refine aw_gh (gh_to (n := 63) (σ' := [(9, ⟨[.hole], [(0, .ref 43)]⟩), (43, ⟨orows (DiheT a0), []⟩), (5, ⟨[.hole], [(0, .ref 18)]⟩), (18, ⟨orows (mkII (1 : Int) (DiheT a0)), []⟩), (3, ⟨[.hole], [(0, .ref 13)]⟩), (13, ⟨orows (DiheT a0), []⟩)]) (env' := []) rfl rfl trivial) ?_
              refine aw_region ?_
              refine run_s (ss_assign rfl) rfl ?_
              refine run_nil ?_
              refine aw_ret ?_
              exact retAF_mk (retv1 rfl (rv_tmp rfl)) rfl rfl ⟨_, (cle_refl _), _, h, rfl⟩
            · replace h := h.2 (of_decide_eq_true (bnot_f q19))
              refine aw_skip ?_
              refine aw_seq ?_
              refine aw_gh (gh_to (n := 63) (σ' := [(9, ⟨[.hole], [(0, .ref 43)]⟩), (43, ⟨orows (DiheT a0), []⟩), (5, ⟨[.hole], [(0, .ref 18)]⟩), (18, ⟨orows (mkII (1 : Int) (DiheT a0)), []⟩), (3, ⟨[.hole], [(0, .ref 13)]⟩), (13, ⟨orows (DiheT a0), []⟩)]) (env' := [(5, .cell 5 0), (7, .c (ci ((1 : Int) + tot (DiheT a0))))]) rfl rfl ⟨rfl, rfl, trivial⟩) ?_
              refine aw_region ?_
              refine run_s (ss_assign rfl) rfl ?_
              refine run_nil ?_
              refine aw_seq ?_
              refine aw_region ?_
              refine run_s (ss_loadS rfl rfl rfl rfl) rfl ?_
              refine run_s (ss_move rfl) rfl ?_
              obtain ⟨q20, h⟩ := h
              refine run_w (ws_callR (xs := [.tmp 55, .tmp 56]) (cs := [.agg [.own (orows (mkII (1 : Int) (DiheT a0)))], ci 1]) (ids := []) rfl (.inr ⟨rfl, rfl⟩) rfl rfl (fz_cons (fz_agg (fz_cons (fz_own (fz_map (fun _ => (fz_own (fz_map (fun _ => rfl) _))) _)) fz_nil)) (fz_cons rfl fz_nil)) (c_laws_heldRack (mkII (1 : Int) (DiheT a0)) 1 q20) rfl ?_ )
              rintro _ rfl
              refine ⟨rfl, rfl, ?_⟩
              refine run_s (ss_assign rfl) rfl ?_
              refine run_nil ?_
              refine aw_seq ?_
              refine aw_seq ?_
              refine aw_region ?_
              refine run_s (ss_move rfl) rfl ?_
              refine run_s (ss_lss rfl rfl) rfl ?_
              refine run_nil ?_
              refine aw_cond rfl (fun q22 => ?_) (fun q22 => ?_)
              · replace h := h.1 (of_decide_eq_true q22)
                refine aw_seq ?_
                refine aw_gh (gh_to (n := 63) (σ' := [(9, ⟨[.hole], [(0, .ref 43)]⟩), (43, ⟨orows (DiheT a0), []⟩), (5, ⟨[.hole], [(0, .ref 18)]⟩), (18, ⟨orows (mkII (1 : Int) (DiheT a0)), []⟩), (3, ⟨[.hole], [(0, .ref 13)]⟩), (13, ⟨orows (DiheT a0), []⟩)]) (env' := []) rfl rfl trivial) ?_
                refine aw_region ?_
                refine run_s (ss_assign rfl) rfl ?_
                refine run_nil ?_
                refine aw_ret ?_
                exact retAF_mk (retv1 rfl (rv_tmp rfl)) rfl rfl ⟨_, (cle_refl _), _, h, rfl⟩
              · replace h := h.2 (of_decide_eq_false q22)
                refine aw_skip ?_
                refine aw_seq ?_
                refine aw_seq ?_
                refine aw_gh (gh_to (n := 63) (σ' := [(9, ⟨[.hole], [(0, .ref 43)]⟩), (43, ⟨orows (DiheT a0), []⟩), (5, ⟨[.hole], [(0, .ref 18)]⟩), (18, ⟨orows (mkII (1 : Int) (DiheT a0)), []⟩), (3, ⟨[.hole], [(0, .ref 13)]⟩), (13, ⟨orows (DiheT a0), []⟩)]) (env' := [(7, .c (ci ((1 : Int) + tot (DiheT a0)))), (8, .c (ci (heII (1 : Int) (mkII (1 : Int) (DiheT a0)))))]) rfl rfl ⟨rfl, rfl, trivial⟩) ?_
                refine aw_region ?_
                refine run_s (ss_move rfl) rfl ?_
                refine run_s (ss_move rfl) rfl ?_
                refine run_s (ss_neq rfl rfl) rfl ?_
                refine run_nil ?_
                refine aw_cond rfl (fun q23 => ?_) (fun q23 => ?_)
                · replace h := h.1 (of_decide_eq_false (bnot_t q23))
                  refine aw_seq ?_
                  refine aw_gh (gh_to (n := 63) (σ' := [(9, ⟨[.hole], [(0, .ref 43)]⟩), (43, ⟨orows (DiheT a0), []⟩), (5, ⟨[.hole], [(0, .ref 18)]⟩), (18, ⟨orows (mkII (1 : Int) (DiheT a0)), []⟩), (3, ⟨[.hole], [(0, .ref 13)]⟩), (13, ⟨orows (DiheT a0), []⟩)]) (env' := []) rfl rfl trivial) ?_
                  refine aw_region ?_
                  refine run_s (ss_assign rfl) rfl ?_
                  refine run_nil ?_
                  refine aw_ret ?_
                  exact retAF_mk (retv1 rfl (rv_tmp rfl)) rfl rfl ⟨_, (cle_refl _), _, h, rfl⟩
                · replace h := h.2 (of_decide_eq_true (bnot_f q23))
                  refine aw_skip ?_
                  refine aw_seq ?_
                  refine aw_gh (gh_to (n := 63) (σ' := [(9, ⟨[.hole], [(0, .ref 43)]⟩), (43, ⟨orows (DiheT a0), []⟩), (5, ⟨[.hole], [(0, .ref 18)]⟩), (18, ⟨orows (mkII (1 : Int) (DiheT a0)), []⟩), (3, ⟨[.hole], [(0, .ref 13)]⟩), (13, ⟨orows (DiheT a0), []⟩)]) (env' := []) rfl rfl trivial) ?_
                  refine aw_region ?_
                  refine run_s (ss_assign rfl) rfl ?_
                  refine run_nil ?_
                  refine aw_ret ?_
                  exact retAF_mk (retv1 rfl (rv_tmp rfl)) rfl rfl ⟨_, (cle_refl _), _, h, rfl⟩

theorem c_laws_FnExactDihedralQuandle (a0 : Int) (hp : InI a0) : AF Try.prog 3 [ci a0] (fun r => r = cb true) :=
  (w_laws_FnExactDihedralQuandle a0 (fun y0 => y0 = true) (p_laws_FnExactDihedralQuandle a0 hp)).mono (by rintro r ⟨_, rfl, rfl⟩; rfl)

set_option maxHeartbeats 1000000 in
theorem w_laws_FnExactAlexanderQuandle (a0 : Int) (a1 : Int) (Q : Bool → Prop) (h : wp_laws_FnExactAlexanderQuandle a0 a1 Q) : AF Try.prog 5 [ci a0, ci a1] (fun r => ∃ y0, Q y0 ∧ r = cb y0) := by
  refine AF.ofWQ (af_enter (n := 68) Try.func5 rfl (by rfl) rfl (Nat.le_of_ble_eq_true rfl) ?_)
  unfold wp_laws_FnExactAlexanderQuandle at h
  refine aw_seq ?_
  refine aw_gh (gh_to (n := 68) (σ' := []) (env' := [(0, .c (ci a0)), (1, .c (ci a1))]) rfl rfl ⟨rfl, rfl, trivial⟩) ?_
  refine aw_region ?_
  refine run_s (ss_assign rfl) rfl ?_
  refine run_nil ?_
  refine aw_seq ?_
  refine aw_region ?_
  refine run_s (ss_move rfl) rfl ?_
  refine run_s (ss_move rfl) rfl ?_
  obtain ⟨q1, h⟩ := h
  refine run_w (ws_call (xs := [.tmp 14, .tmp 15]) (ids := [16]) rfl rfl rfl rfl (c_spec_AlexanderQuandle a0 a1 q1) rfl ?_ )
  rintro _ rfl
  refine ⟨rfl, ?_⟩
  refine run_s (ss_move rfl) rfl ?_
  refine run_s (ss_extract rfl rfl) rfl ?_
  refine run_s (ss_extract rfl rfl) rfl ?_
  refine run_w (ws_alloc (id := 5) rfl (Nat.le_of_ble_eq_true rfl) ⟨rfl, ?_⟩)
  refine run_w (ws_storeS rfl rfl (Nat.le_of_ble_eq_true rfl) rfl rfl rfl ⟨rfl, ?_⟩)
  refine run_s (ss_assign rfl) rfl ?_
  refine run_nil ?_
  refine aw_seq ?_
  refine aw_region ?_
  refine run_s (ss_move rfl) rfl ?_
  refine run_s (ss_move rfl) rfl ?_
  obtain ⟨q3, h⟩ := h
  refine run_w (ws_call (xs := [.tmp 20, .tmp 21]) (ids := [22]) rfl rfl rfl rfl (c_impl_AlexanderQuandle a0 a1 q3) rfl ?_ )
  rintro _ rfl
  refine ⟨rfl, ?_⟩
  refine run_s (ss_move rfl) rfl ?_
  refine run_s (ss_extract rfl rfl) rfl ?_
  refine run_s (ss_extract rfl rfl) rfl ?_
  refine run_w (ws_alloc (id := 7) rfl (Nat.le_of_ble_eq_true rfl) ⟨rfl, ?_⟩)
  refine run_w (ws_storeS rfl rfl (Nat.le_of_ble_eq_true rfl) rfl rfl rfl ⟨rfl, ?_⟩)
  refine run_s (ss_assign rfl) rfl ?_
  refine run_nil ?_
  refine aw_seq ?_
  refine aw_seq ?_
  refine aw_region ?_
  refine run_s (ss_loadS rfl rfl rfl rfl) rfl ?_
  refine run_s (ss_loadS rfl rfl rfl rfl) rfl ?_
  obtain ⟨q5, h⟩ := h
  refine run_w (ws_callR (xs := [.tmp 25, .tmp 26]) (cs := [.agg [.own (orows (AlexT a0 a1))], .agg [.own (orows (AlexT a0 a1))]]) (ids := []) rfl (.inr ⟨rfl, rfl⟩) rfl rfl (fz_cons (fz_agg (fz_cons (fz_own (fz_map (fun _ => (fz_own (fz_map (fun _ => rfl) _))) _)) fz_nil)) (fz_cons (fz_agg (fz_cons (fz_own (fz_map (fun _ => (fz_own (fz_map (fun _ => rfl) _))) _)) fz_nil)) fz_nil)) (c_laws_eqRack (AlexT a0 a1) (AlexT a0 a1) q5) rfl ?_ )
  rintro _ rfl
  refine ⟨rfl, rfl, ?_⟩
  refine run_s (ss_not rfl) rfl ?_
  refine run_s (ss_move rfl) rfl ?_
  refine run_split (s := 29) rfl (fun q7 => ?_) (fun q7 => ?_)
  · replace h := h.1 (of_decide_eq_false (bnot_t q7))
    refine run_gf rfl rfl q7 rfl ?_
    refine run_gf rfl rfl q7 rfl ?_
    refine run_gf rfl rfl q7 rfl ?_
    refine run_s (ss_pickT rfl q7 rfl) rfl ?_
    refine run_nil ?_
    refine aw_cond rfl (fun q8 => ?_) (fun q8 => ?_)
    · skip
      refine aw_seq ?_
      refine aw_gh (gh_to (n := 68) (σ' := [(7, ⟨[.hole], [(0, .ref 22)]⟩), (22, ⟨orows (AlexT a0 a1), []⟩), (5, ⟨[.hole], [(0, .ref 16)]⟩), (16, ⟨orows (AlexT a0 a1), []⟩)]) (env' := [(4, .c (cb false))]) rfl rfl ⟨rfl, trivial⟩) ?_
      refine aw_region ?_
      refine run_s (ss_assign rfl) rfl ?_
      refine run_nil ?_
      refine aw_ret ?_
      exact retAF_mk (retv1 rfl (rv_tmp rfl)) rfl rfl ⟨_, (cle_refl _), _, h, rfl⟩
    · cases q8
  · replace h := h.2 (of_decide_eq_true (bnot_f q7))
    refine run_gt rfl rfl q7 ?_
    refine run_s (ss_move rfl) rfl ?_
    refine run_gt rfl rfl q7 ?_
    refine run_s (ss_move rfl) rfl ?_
    refine run_gt rfl rfl q7 ?_
    refine run_s (ss_neq rfl rfl) rfl ?_
    refine run_s (ss_pickF rfl q7 rfl) rfl ?_
    refine run_nil ?_
    refine aw_cond rfl (fun q9 => ?_) (fun q9 => ?_)
    · replace h := h.1 (of_decide_eq_false (bnot_t q9))
      refine aw_seq ?_
      refine aw_gh (gh_to (n := 68) (σ' := [(7, ⟨[.hole], [(0, .ref 22)]⟩), (22, ⟨orows (AlexT a0 a1), []⟩), (5, ⟨[.hole], [(0, .ref 16)]⟩), (16, ⟨orows (AlexT a0 a1), []⟩)]) (env' := [(4, .c (cb false))]) rfl rfl ⟨rfl, trivial⟩) ?_
      refine aw_region ?_
      refine run_s (ss_assign rfl) rfl ?_
      refine run_nil ?_
      refine aw_ret ?_
      exact retAF_mk (retv1 rfl (rv_tmp rfl)) rfl rfl ⟨_, (cle_refl _), _, h, rfl⟩
    · replace h := h.2 (of_decide_eq_true (bnot_f q9))
      refine aw_skip ?_
      refine aw_seq ?_
      refine aw_gh (gh_to (n := 68) (σ' := [(7, ⟨[.hole], [(0, .ref 22)]⟩), (22, ⟨orows (AlexT a0 a1), []⟩), (5, ⟨[.hole], [(0, .ref 16)]⟩), (16, ⟨orows (AlexT a0 a1), []⟩)]) (env' := [(0, .c (ci a0)), (1, .c (ci a1)), (5, .cell 5 0), (6, .c (ci (AlexE a0 a1))), (7, .cell 7 0)]) rfl rfl ⟨rfl, rfl, rfl, rfl, rfl, trivial⟩) ?_
      refine aw_region ?_
      refine run_s (ss_assign rfl) rfl ?_
      refine run_nil ?_
      refine aw_seq ?_
      refine aw_region ?_
      refine run_s (ss_loadS rfl rfl rfl rfl) rfl ?_
      refine run_s (ss_move rfl) rfl ?_
      obtain ⟨q10, h⟩ := h
      refine run_w (ws_callM (xs := [.tmp 34, .tmp 35]) (cs := [.agg [.own (orows (AlexT a0 a1))], ci 1]) (ids := []) rfl (.inr ⟨rfl, rfl⟩) rfl rfl rfl (c_laws_markRack (AlexT a0 a1) 1 q10) rfl ?_ )
      rintro _ _ ⟨rfl, rfl⟩
      refine ⟨rfl, rfl, ?_⟩
      refine run_s (ss_assign rfl) rfl ?_
      refine run_nil ?_
      refine aw_seq ?_
      refine aw_region ?_
      refine run_s (ss_assign rfl) rfl ?_
      refine run_nil ?_
      refine aw_seq ?_
      refine aw_region ?_
      refine run_s (ss_loadS rfl rfl rfl rfl) rfl ?_
      refine run_s (ss_move rfl) rfl ?_
      obtain ⟨q12, h⟩ := h
      refine run_w (ws_callR (xs := [.tmp 37, .tmp 38]) (cs := [.agg [.own (orows (mkII (1 : Int) (AlexT a0 a1)))], ci 1]) (ids := []) rfl (.inr ⟨rfl, rfl⟩) rfl rfl (fz_cons (fz_agg (fz_cons (fz_own (fz_map (fun _ => (fz_own (fz_map (fun _ => rfl) _))) _)) fz_nil)) (fz_cons rfl fz_nil)) (c_laws_heldRack (mkII (1 : Int) (AlexT a0 a1)) 1 q12) rfl ?_ )
      rintro _ rfl
      refine ⟨rfl, rfl, ?_⟩
      refine run_s (ss_assign rfl) rfl ?_
      refine run_nil ?_
      refine aw_seq ?_
      refine aw_seq ?_
      refine aw_region ?_
      refine run_s (ss_move rfl) rfl ?_
      refine run_s (ss_lss rfl rfl) rfl ?_
      refine run_nil ?_
      refine aw_cond rfl (fun q14 => ?_) (fun q14 => ?_)
      · replace h := h.1 (of_decide_eq_true q14)
        refine aw_seq ?_
        refine aw_gh (gh_to (n := 68) (σ' := [(7, ⟨[.hole], [(0, .ref 22)]⟩), (22, ⟨orows (mkII (1 : Int) (AlexT a0 a1)), []⟩), (5, ⟨[.hole], [(0, .ref 16)]⟩), (16, ⟨orows (AlexT a0 a1), []⟩)]) (env' := []) rfl rfl trivial) ?_
        refine aw_region ?_
        refine run_s (ss_assign rfl) rfl ?_
        refine run_nil ?_
        refine aw_ret ?_
        exact retAF_mk (retv1 rfl (rv_tmp rfl)) rfl rfl ⟨_, (cle_refl _), _, h, rfl⟩
      · replace h := h.2 (of_decide_eq_false q14)
        refine aw_skip ?_
        refine aw_seq ?_
        refine aw_seq ?_
        refine aw_region ?_
        refine run_s (ss_move rfl) rfl ?_
        refine run_s (ss_move rfl) rfl ?_
        refine run_s (ss_neq rfl rfl) rfl ?_
        refine run_nil ?_
        refine aw_cond rfl (fun q15 => ?_) (fun q15 => ?_)
        · replace h := h.1 (of_decide_eq_false (bnot_t q15))
          refine aw_seq ?_
          refine aw_gh (gh_to (n := 68) (σ' := [(7, ⟨[.hole], [(0, .ref 22)]⟩), (22, ⟨orows (mkII (1 : Int) (AlexT a0 a1)), []⟩), (5, ⟨[.hole], [(0, .ref 16)]⟩), (16, ⟨orows (AlexT a0 a1), []⟩)]) (env' := []) rfl rfl trivial) ?_
          refine aw_region ?_
          refine run_s (ss_assign rfl) rfl ?_
          refine run_nil ?_
          refine aw_ret ?_
          exact retAF_mk (retv1 rfl (rv_tmp rfl)) rfl rfl ⟨_, (cle_refl _), _, h, rfl⟩
        · replace h := h.2 (of_decide_eq_true (bnot_f q15))
          refine aw_skip ?_
          refine aw_seq ?_
          refine aw_region ?_
          refine run_s (ss_move rfl) rfl ?_
          refine run_s (ss_move rfl) rfl ?_
          obtain ⟨q16, h⟩ := h
          refine run_w (ws_call (xs := [.tmp 46, .tmp 47]) (ids := [48]) rfl rfl rfl rfl (c_impl_AlexanderQuandle a0 a1 q16) rfl ?_ )
          rintro _ rfl
          refine ⟨rfl, ?_⟩
          refine run_s (ss_move rfl) rfl ?_
          refine run_s (ss_extract rfl rfl) rfl ?_
          refine run_s (ss_extract rfl rfl) rfl ?_
          refine run_w (ws_alloc (id := 11) rfl (Nat.le_of_ble_eq_true rfl) ⟨rfl, ?_⟩)
          refine run_w (ws_storeS rfl rfl (Nat.le_of_ble_eq_true rfl) rfl rfl rfl ⟨rfl, ?_⟩)
          refine run_s (ss_assign rfl) rfl ?_
          refine run_nil ?_
          refine aw_seq ?_
          refine aw_seq ?_
          refine aw_gh (gh_to (n := 68) (σ' := [(11, ⟨[.hole], [(0, .ref 48)]⟩), (48, ⟨orows (AlexT a0 a1), []⟩), (7, ⟨[.hole], [(0, .ref 22)]⟩), (22, ⟨orows (mkII (1 : Int) (AlexT a0 a1)), []⟩), (5, ⟨[.hole], [(0, .ref 16)]⟩), (16, ⟨orows (AlexT a0 a1), []⟩)]) (env' := [(5, .cell 5 0), (6, .c (ci (AlexE a0 a1))), (7, .cell 7 0), (9, .c (ci ((1 : Int) + tot (AlexT a0 a1)))), (11, .cell 11 0), (12, .c (ci (AlexE a0 a1)))]) rfl rfl ⟨rfl, rfl, rfl, rfl, rfl, rfl, trivial⟩) ?_
          refine aw_region ?_
          refine run_s (ss_loadS rfl rfl rfl rfl) rfl ?_
          refine run_s (ss_loadS rfl rfl rfl rfl) rfl ?_
          obtain ⟨q18, h⟩ := h
          refine run_w (ws_callR (xs := [.tmp 51, .tmp 52]) (cs := [.agg [.own (orows (AlexT a0 a1))], .agg [.own (orows (AlexT a0 a1))]]) (ids := []) rfl (.inr ⟨rfl, rfl⟩) rfl rfl (fz_cons (fz_agg (fz_cons (fz_own (fz_map (fun _ => (fz_own (fz_map (fun _ => rfl) _))) _)) fz_nil)) (fz_cons (fz_agg (fz_cons (fz_own (fz_map (fun _ => (fz_own (fz_map (fun _ => rfl) _))) _)) fz_nil)) fz_nil)) (c_laws_eqRack (AlexT a0 a1) (AlexT a0 a1) q18) rfl ?_ )
          rintro _ rfl
          refine ⟨rfl, rfl, ?_⟩
          refine run_s (ss_not rfl) rfl ?_
          refine run_s (ss_move rfl) rfl ?_
          refine run_split (s := 55) rfl (fun q20 => ?_) (fun q20 => ?_)
          · replace h := h.1 (of_decide_eq_false (bnot_t q20))
            refine run_gf rfl rfl q20 rfl ?_
            refine run_gf rfl rfl q20 rfl ?_
            refine run_gf rfl rfl q20 rfl ?_
            refine run_s (ss_pickT rfl q20 rfl) rfl ?_
            refine run_nil ?_
            refine aw_cond rfl (fun q21 => ?_) (fun q21 => ?_)
            · skip
              refine aw_seq ?_
              refine aw_gh (gh_to (n := 68) (σ' := [(11, ⟨[.hole], [(0, .ref 48)]⟩), (48, ⟨orows (AlexT a0 a1), []⟩), (7, ⟨[.hole], [(0, .ref 22)]⟩), (22, ⟨orows (mkII (1 : Int) (AlexT a0 a1)), []⟩), (5, ⟨[.hole], [(0, .ref 16)]⟩), (16, ⟨orows (AlexT a0 a1), []⟩)]) (env' := []) rfl rfl trivial) ?_
              refine aw_region ?_
              refine run_s (ss_assign rfl) rfl ?_
              refine run_nil ?_
              refine aw_ret ?_
              exact retAF_mk (retv1 rfl (rv_tmp rfl)) rfl rfl ⟨_, (cle_refl _), _, h, rfl⟩
            · cases q21
          · replace h := h.2 (of_decide_eq_true (bnot_f q20))
            refine run_gt rfl rfl q20 ?_
            refine run_s (ss_move rfl) rfl ?_
            refine run_gt rfl rfl q20 ?_
            refine run_s (ss_move rfl) rfl ?_
            refine run_gt rfl rfl q20 ?_
            refine run_s (ss_neq rfl rfl) rfl ?_
            refine run_s (ss_pickF rfl q20 rfl) rfl ?_
            refine run_nil ?_
            refine aw_cond rfl (fun q22 => ?_) (fun q22 => ?_)
            · replace h := h.1 (of_decide_eq_false (bnot_t q22))
              refine aw_seq ?_
              refine aw_gh (gh_to (n := 68) (σ' := [(11, ⟨[.hole], [(0, .ref 48)]⟩), (48, ⟨orows (AlexT a0 a1), []⟩), (7, ⟨[.hole], [(0, .ref 22)]⟩), (22, ⟨orows (mkII (1 : Int) (AlexT a0 a1)), []⟩), (5, ⟨[.hole], [(0, .ref 16)]⟩), (16, ⟨orows (AlexT a0 a1), []⟩)]) (env' := []) rfl rfl trivial) ?_
              refine aw_region ?_
              refine run_s (ss_assign rfl) rfl ?_
              refine run_nil ?_
              refine aw_ret ?_
              exact retAF_mk (retv1 rfl (rv_tmp rfl)) rfl rfl ⟨_, (cle_refl _), _, h, rfl⟩
            · replace h := h.2 (of_decide_eq_true (bnot_f q22))
              refine aw_skip ?_
              refine aw_seq ?_
              refine aw_gh (gh_to (n := 68) (σ' := [(11, ⟨[.hole], [(0, .ref 48)]⟩), (48, ⟨orows (AlexT a0 a1), []⟩), (7, ⟨[.hole], [(0, .ref 22)]⟩), (22, ⟨orows (mkII (1 : Int) (AlexT a0 a1)), []⟩), (5, ⟨[.hole], [(0, .ref 16)]⟩), (16, ⟨orows (AlexT a0 a1), []⟩)]) (env' := [(7, .cell 7 0), (9, .c (ci ((1 : Int) + tot (AlexT a0 a1))))]) rfl rfl ⟨rfl, rfl, trivial⟩) ?_
              refine aw_region ?_
              refine run_s (ss_assign rfl) rfl ?_
              refine run_nil ?_
              refine aw_seq ?_
              refine aw_region ?_
              refine run_s (ss_loadS rfl rfl rfl rfl) rfl ?_
              refine run_s (ss_move rfl) rfl ?_
              obtain ⟨q23, h⟩ := h
              refine run_w (ws_callR (xs := [.tmp 60, .tmp 61]) (cs := [.agg [.own (orows (mkII (1 : Int) (AlexT a0 a1)))], ci 1]) (ids := []) rfl (.inr ⟨rfl, rfl⟩) rfl rfl (fz_cons (fz_agg (fz_cons (fz_own (fz_map (fun _ => (fz_own (fz_map (fun _ => rfl) _))) _)) fz_nil)) (fz_cons rfl fz_nil)) (c_laws_heldRack (mkII (1 : Int) (AlexT a0 a1)) 1 q23) rfl ?_ )
              rintro _ rfl
              refine ⟨rfl, rfl, ?_⟩
              refine run_s (ss_assign rfl) rfl ?_
              refine run_nil ?_
              refine aw_seq ?_
              refine aw_seq ?_
              refine aw_region ?_
              refine run_s (ss_move rfl) rfl ?_
              refine run_s (ss_lss rfl rfl) rfl ?_
              refine run_nil ?_
              refine aw_cond rfl (fun q25 => ?_) (fun q25 => ?_)
              · replace h := h.1 (of_decide_eq_true q25)
                refine aw_seq ?_
                refine aw_gh (gh_to (n := 68) (σ' := [(11, ⟨[.hole], [(0, .ref 48)]⟩), (48, ⟨orows (AlexT a0 a1), []⟩), (7, ⟨[.hole], [(0, .ref 22)]⟩), (22, ⟨orows (mkII (1 : Int) (AlexT a0 a1)), []⟩), (5, ⟨[.hole], [(0, .ref 16)]⟩), (16, ⟨orows (AlexT a0 a1), []⟩)]) (env' := []) rfl rfl trivial) ?_
                refine aw_region ?_
                refine run_s (ss_assign rfl) rfl ?_
                refine run_nil ?_
                refine aw_ret ?_
                exact retAF_mk (retv1 rfl (rv_tmp rfl)) rfl rfl ⟨_, (cle_refl _), _, h, rfl⟩
              · replace h := h.2 (of_decide_eq_false q25)
                refine aw_skip ?_
                refine aw_seq ?_
                refine aw_seq ?_
                refine aw_gh (gh_to (n := 68) (σ' := [(11, ⟨[.hole], [(0, .ref 48)]⟩), (48, ⟨orows (AlexT a0 a1), []⟩), (7, ⟨[.hole], [(0, .ref 22)]⟩), (22, ⟨orows (mkII (1 : Int) (AlexT a0 a1)), []⟩), (5, ⟨[.hole], [(0, .ref 16)]⟩), (16, ⟨orows (AlexT a0 a1), []⟩)]) (env' := [(9, .c (ci ((1 : Int) + tot (AlexT a0 a1)))), (10, .c (ci (heII (1 : Int) (mkII (1 : Int) (AlexT a0 a1)))))]) rfl rfl ⟨rfl, rfl, trivial⟩) ?_
                refine aw_region ?_
                refine run_s (ss_move rfl) rfl ?_
                refine run_s (ss_move rfl) rfl ?_
                refine run_s (ss_neq rfl rfl) rfl ?_
                refine run_nil ?_
                refine aw_cond rfl (fun q26 => ?_) (fun q26 => ?_)
                · replace h := h.1 (of_decide_eq_false (bnot_t q26))
                  refine aw_seq ?_
                  refine aw_gh (gh_to (n := 68) (σ' := [(11, ⟨[.hole], [(0, .ref 48)]⟩), (48, ⟨orows (AlexT a0 a1), []⟩), (7, ⟨[.hole], [(0, .ref 22)]⟩), (22, ⟨orows (mkII (1 : Int) (AlexT a0 a1)), []⟩), (5, ⟨[.hole], [(0, .ref 16)]⟩), (16, ⟨orows (AlexT a0 a1), []⟩)]) (env' := []) rfl rfl trivial) ?_
                  refine aw_region ?_
                  refine run_s (ss_assign rfl) rfl ?_
                  refine run_nil ?_
                  refine aw_ret ?_
                  exact retAF_mk (retv1 rfl (rv_tmp rfl)) rfl rfl ⟨_, (cle_refl _), _, h, rfl⟩
                · replace h := h.2 (of_decide_eq_true (bnot_f q26))
                  refine aw_skip ?_
                  refine aw_seq ?_
                  refine aw_gh (gh_to (n := 68) (σ' := [(11, ⟨[.hole], [(0, .ref 48)]⟩), (48, ⟨orows (AlexT a0 a1), []⟩), (7, ⟨[.hole], [(0, .ref 22)]⟩), (22, ⟨orows (mkII (1 : Int) (AlexT a0 a1)), []⟩), (5, ⟨[.hole], [(0, .ref 16)]⟩), (16, ⟨orows (AlexT a0 a1), []⟩)]) (env' := []) rfl rfl trivial) ?_
                  refine aw_region ?_
                  refine run_s (ss_assign rfl) rfl ?_
                  refine run_nil ?_
                  refine aw_ret ?_
                  exact retAF_mk (retv1 rfl (rv_tmp rfl)) rfl rfl ⟨_, (cle_refl _), _, h, rfl⟩

theorem c_laws_FnExactAlexanderQuandle (a0 : Int) (a1 : Int) (hp : InI a0 ∧ InI a1) : AF Try.prog 5 [ci a0, ci a1] (fun r => r = cb true) :=
  (w_laws_FnExactAlexanderQuandle a0 a1 (fun y0 => y0 = true) (p_laws_FnExactAlexanderQuandle a0 a1 hp)).mono (by rintro r ⟨_, rfl, rfl⟩; rfl)

set_option maxHeartbeats 1000000 in
theorem w_laws_FnExactPermutationRack (a0 : List Int) (Q : Bool → Prop) (h : wp_laws_FnExactPermutationRack a0 Q) : AF Try.prog 6 [.lst (ints a0)] (fun r => ∃ y0, Q y0 ∧ r = cb y0) := by
  refine AF.ofWQ (af_enter (n := 93) Try.func6 rfl (by rfl) rfl (Nat.le_of_ble_eq_true rfl) ?_)
  unfold wp_laws_FnExactPermutationRack at h
  refine aw_seq ?_
  refine aw_gh (gh_to (n := 93) (σ' := []) (env' := [(0, .c (.lst (ints a0)))]) rfl rfl ⟨rfl, trivial⟩) ?_
  refine aw_region ?_
  refine run_s (ss_assign rfl) rfl ?_
  refine run_nil ?_
  refine aw_seq ?_
  refine aw_seq ?_
  refine aw_region ?_
  refine run_s (ss_move rfl) rfl ?_
  refine run_s (ss_lenL (f := ci) rfl) rfl ?_
  refine run_s (ss_gtr rfl rfl) rfl ?_
  refine run_nil ?_
  refine aw_cond rfl (fun q1 => ?_) (fun q1 => ?_)
  · replace h := h.1 (of_decide_eq_true q1)
    refine aw_seq ?_
    refine aw_gh (gh_to (n := 93) (σ' := []) (env' := [(2, .c (cb false))]) rfl rfl ⟨rfl, trivial⟩) ?_
    refine aw_region ?_
    refine run_s (ss_assign rfl) rfl ?_
    refine run_nil ?_
    refine aw_ret ?_
    exact retAF_mk (retv1 rfl (rv_tmp rfl)) rfl rfl ⟨_, (cle_refl _), _, h, rfl⟩
  · replace h := h.2 (of_decide_eq_false q1)
    refine aw_skip ?_
    refine aw_seq ?_
    refine aw_region ?_
    refine run_s (ss_move rfl) rfl ?_
    obtain ⟨q2, h⟩ := h
    refine run_w (ws_call (xs := [.tmp 17]) (ids := [18]) rfl rfl rfl rfl (c_laws_toInt64S a0 q2) rfl ?_ )
    rintro _ rfl
    refine ⟨rfl, ?_⟩
    obtain ⟨q4, h⟩ := h
    refine run_w (ws_callR (xs := [.tmp 18]) (cs := [.own (ints a0)]) (ids := [19]) rfl (.inr ⟨rfl, rfl⟩) rfl rfl (fz_cons (fz_own (fz_map (fun _ => rfl) _)) fz_nil) (c_spec_PermutationRack a0 q4) rfl ?_ )
    rintro _ rfl
    refine ⟨(slf_tup (slf_cons (slf_agg (slf_cons (slf_own (slfL_map (f := (fun r => C.own (ints r))) (fun _ => (slf_own (slfL_map (f := ci) (fun _ => rfl) _))) _)) slf_nil)) (slf_cons rfl slf_nil))), rfl, ?_⟩
    refine run_s (ss_move rfl) rfl ?_
    refine run_s (ss_extract rfl rfl) rfl ?_
    refine run_s (ss_extract rfl rfl) rfl ?_
    refine run_w (ws_alloc (id := 3) rfl (Nat.le_of_ble_eq_true rfl) ⟨rfl, ?_⟩)
    refine run_w (ws_storeS rfl rfl (Nat.le_of_ble_eq_true rfl) rfl rfl rfl ⟨rfl, ?_⟩)
    refine run_s (ss_assign rfl) rfl ?_
    refine run_nil ?_
    refine aw_seq ?_
    refine aw_region ?_
    refine run_s (ss_move rfl) rfl ?_
    obtain ⟨q6, h⟩ := h
    refine run_w (ws_call (xs := [.tmp 22]) (ids := [23]) rfl rfl rfl rfl (c_laws_toInt64S a0 q6) rfl ?_ )
    rintro _ rfl
    refine ⟨rfl, ?_⟩
    refine run_s (ss_assign rfl) rfl ?_
    refine run_nil ?_
    refine aw_seq ?_
    refine aw_region ?_
    refine run_s (ss_move rfl) rfl ?_
    obtain ⟨q8, h⟩ := h
    refine run_w (ws_callR (xs := [.tmp 25]) (cs := [.own (ints a0)]) (ids := [26]) rfl (.inr ⟨rfl, rfl⟩) rfl rfl (fz_cons (fz_own (fz_map (fun _ => rfl) _)) fz_nil) (c_impl_PermutationRack a0 q8) rfl ?_ )
    rintro _ rfl
    refine ⟨(slf_tup (slf_cons (slf_agg (slf_cons (slf_own (slfL_map (f := (fun r => C.own (ints r))) (fun _ => (slf_own (slfL_map (f := ci) (fun _ => rfl) _))) _)) slf_nil)) (slf_cons rfl slf_nil))), rfl, ?_⟩
    refine run_s (ss_move rfl) rfl ?_
    refine run_s (ss_extract rfl rfl) rfl ?_
    refine run_s (ss_extract rfl rfl) rfl ?_
    refine run_w (ws_alloc (id := 6) rfl (Nat.le_of_ble_eq_true rfl) ⟨rfl, ?_⟩)
    refine run_w (ws_storeS rfl rfl (Nat.le_of_ble_eq_true rfl) rfl rfl rfl ⟨rfl, ?_⟩)
    refine run_s (ss_assign rfl) rfl ?_
    refine run_nil ?_
    refine aw_seq ?_
    refine aw_seq ?_
    refine aw_region ?_
    refine run_s (ss_loadS rfl rfl rfl rfl) rfl ?_
    refine run_s (ss_loadS rfl rfl rfl rfl) rfl ?_
    obtain ⟨q10, h⟩ := h
    refine run_w (ws_callR (xs := [.tmp 29, .tmp 30]) (cs := [.agg [.own (orows (PermT a0))], .agg [.own (orows (PermT a0))]]) (ids := []) rfl (.inr ⟨rfl, rfl⟩) rfl rfl (fz_cons (fz_agg (fz_cons (fz_own (fz_map (fun _ => (fz_own (fz_map (fun _ => rfl) _))) _)) fz_nil)) (fz_cons (fz_agg (fz_cons (fz_own (fz_map (fun _ => (fz_own (fz_map (fun _ => rfl) _))) _)) fz_nil)) fz_nil)) (c_laws_eqRack (PermT a0) (PermT a0) q10) rfl ?_ )
    rintro _ rfl
    refine ⟨rfl, rfl, ?_⟩
    refine run_s (ss_not rfl) rfl ?_
    refine run_s (ss_move rfl) rfl ?_
    refine run_split (s := 33) rfl (fun q12 => ?_) (fun q12 => ?_)
    · replace h := h.1 (of_decide_eq_false (bnot_t q12))
      refine run_gf rfl rfl q12 rfl ?_
      refine run_gf rfl rfl q12 rfl ?_
      refine run_gf rfl rfl q12 rfl ?_
      refine run_s (ss_pickT rfl q12 rfl) rfl ?_
      refine run_nil ?_
      refine aw_cond rfl (fun q13 => ?_) (fun q13 => ?_)
      · skip
        refine aw_seq ?_
        refine aw_gh (gh_to (n := 93) (σ' := [(6, ⟨[.hole], [(0, .ref 26)]⟩), (26, ⟨orows (PermT a0), []⟩), (23, ⟨ints a0, []⟩), (3, ⟨[.hole], [(0, .ref 19)]⟩), (19, ⟨orows (PermT a0), []⟩), (18, ⟨ints a0, []⟩)]) (env' := [(2, .c (cb false))]) rfl rfl ⟨rfl, trivial⟩) ?_
        refine aw_region ?_
        refine run_s (ss_assign rfl) rfl ?_
        refine run_nil ?_
        refine aw_ret ?_
        exact retAF_mk (retv1 rfl (rv_tmp rfl)) rfl rfl ⟨_, (cle_refl _), _, h, rfl⟩
      · cases q13
    · replace h := h.2 (of_decide_eq_true (bnot_f q12))
      refine run_gt rfl rfl q12 ?_
      refine run_s (ss_move rfl) rfl ?_
      refine run_gt rfl rfl q12 ?_
      refine run_s (ss_move rfl) rfl ?_
      refine run_gt rfl rfl q12 ?_
      refine run_s (ss_neq rfl rfl) rfl ?_
      refine run_s (ss_pickF rfl q12 rfl) rfl ?_
      refine run_nil ?_
      refine aw_cond rfl (fun q14 => ?_) (fun q14 => ?_)
      · replace h := h.1 (of_decide_eq_false (bnot_t q14))
        refine aw_seq ?_
        refine aw_gh (gh_to (n := 93) (σ' := [(6, ⟨[.hole], [(0, .ref 26)]⟩), (26, ⟨orows (PermT a0), []⟩), (23, ⟨ints a0, []⟩), (3, ⟨[.hole], [(0, .ref 19)]⟩), (19, ⟨orows (PermT a0), []⟩), (18, ⟨ints a0, []⟩)]) (env' := [(2, .c (cb false))]) rfl rfl ⟨rfl, trivial⟩) ?_
        refine aw_region ?_
        refine run_s (ss_assign rfl) rfl ?_
        refine run_nil ?_
        refine aw_ret ?_
        exact retAF_mk (retv1 rfl (rv_tmp rfl)) rfl rfl ⟨_, (cle_refl _), _, h, rfl⟩
      · replace h := h.2 (of_decide_eq_true (bnot_f q14))
        refine aw_skip ?_
        refine aw_seq ?_
        refine aw_seq ?_
        refine aw_gh (gh_to (n := 93) (σ' := [(6, ⟨[.hole], [(0, .ref 26)]⟩), (26, ⟨orows (PermT a0), []⟩), (23, ⟨ints a0, []⟩), (3, ⟨[.hole], [(0, .ref 19)]⟩), (19, ⟨orows (PermT a0), []⟩), (18, ⟨ints a0, []⟩)]) (env' := [(0, .c (.lst (ints a0))), (3, .cell 3 0), (4, .c (ci (PermE a0))), (5, .ref 23), (6, .cell 6 0), (7, .c (ci (PermE a0)))]) rfl rfl ⟨rfl, rfl, rfl, rfl, rfl, rfl, trivial⟩) ?_
        refine aw_region ?_
        refine run_s (ss_move rfl) rfl ?_
        refine run_s (ss_move rfl) rfl ?_
        obtain ⟨q15, h⟩ := h
        refine run_w (ws_call (xs := [.tmp 39]) (ids := [40]) rfl rfl rfl rfl (c_laws_toInt64S a0 q15) rfl ?_ )
        rintro _ rfl
        refine ⟨rfl, ?_⟩
        obtain ⟨q17, h⟩ := h
        refine run_w (ws_callR (xs := [.tmp 38, .tmp 40]) (cs := [.own (ints a0), .own (ints a0)]) (ids := []) rfl (.inr ⟨rfl, rfl⟩) rfl rfl (fz_cons (fz_own (fz_map (fun _ => rfl) _)) (fz_cons (fz_own (fz_map (fun _ => rfl) _)) fz_nil)) (c_laws_eqInt64S a0 a0 q17) rfl ?_ )
        rintro _ rfl
        refine ⟨rfl, rfl, ?_⟩
        refine run_s (ss_not rfl) rfl ?_
        refine run_nil ?_
        refine aw_cond rfl (fun q19 => ?_) (fun q19 => ?_)
        · replace h := h.1 (of_decide_eq_false (bnot_t q19))
          refine aw_seq ?_
          refine aw_gh (gh_to (n := 93) (σ' := [(40, ⟨ints a0, []⟩), (6, ⟨[.hole], [(0, .ref 26)]⟩), (26, ⟨orows (PermT a0), []⟩), (23, ⟨ints a0, []⟩), (3, ⟨[.hole], [(0, .ref 19)]⟩), (19, ⟨orows (PermT a0), []⟩), (18, ⟨ints a0, []⟩)]) (env' := []) rfl rfl trivial) ?_
          refine aw_region ?_
          refine run_s (ss_assign rfl) rfl ?_
          refine run_nil ?_
          refine aw_ret ?_
          exact retAF_mk (retv1 rfl (rv_tmp rfl)) rfl rfl ⟨_, (cle_refl _), _, h, rfl⟩
        · replace h := h.2 (of_decide_eq_true (bnot_f q19))
          refine aw_skip ?_
          refine aw_seq ?_
          refine aw_region ?_
          refine run_s (ss_assign rfl) rfl ?_
          refine run_nil ?_
          refine aw_seq ?_
          refine aw_region ?_
          refine run_s (ss_move rfl) rfl ?_
          refine run_s (ss_move rfl) rfl ?_
          obtain ⟨q20, h⟩ := h
          refine run_w (ws_callM (xs := [.tmp 43, .tmp 44]) (cs := [.own (ints a0), ci 1]) (ids := []) rfl (.inr ⟨rfl, rfl⟩) rfl rfl rfl (c_laws_markInt64S a0 1 q20) rfl ?_ )
          rintro _ _ ⟨rfl, rfl⟩
          refine ⟨rfl, rfl, ?_⟩
          refine run_s (ss_assign rfl) rfl ?_
          refine run_nil ?_
          refine aw_seq ?_
          refine aw_seq ?_
          refine aw_region ?_
          refine run_s (ss_move rfl) rfl ?_
          refine run_s (ss_lss rfl rfl) rfl ?_
          refine run_s (ss_move rfl) rfl ?_
          refine run_split (s := 48) rfl (fun q22 => ?_) (fun q22 => ?_)
          · replace h := h.1 (of_decide_eq_true q22)
            refine run_gf rfl rfl q22 rfl ?_
            refine run_gf rfl rfl q22 rfl ?_
            refine run_gf rfl rfl q22 rfl ?_
            refine run_gf rfl rfl q22 rfl ?_
            refine run_s (ss_pickT rfl q22 rfl) rfl ?_
            refine run_s (ss_move rfl) rfl ?_
            refine run_split (s := 54) rfl (fun q23 => ?_) (fun q23 => ?_)
            · skip
              refine run_gf rfl rfl q23 rfl ?_
              refine run_gf rfl rfl q23 rfl ?_
              refine run_gf rfl rfl q23 rfl ?_
              refine run_s (ss_pickT rfl q23 rfl) rfl ?_
              refine run_nil ?_
              refine aw_cond rfl (fun q24 => ?_) (fun q24 => ?_)
              · skip
                refine aw_seq ?_
                refine aw_gh (gh_to (n := 93) (σ' := [(40, ⟨ints a0, []⟩), (6, ⟨[.hole], [(0, .ref 26)]⟩), (26, ⟨orows (PermT a0), []⟩), (23, ⟨ints (mkI (1 : Int) a0), []⟩), (3, ⟨[.hole], [(0, .ref 19)]⟩), (19, ⟨orows (PermT a0), []⟩), (18, ⟨ints a0, []⟩)]) (env' := []) rfl rfl trivial) ?_
                refine aw_region ?_
                refine run_s (ss_assign rfl) rfl ?_
                refine run_nil ?_
                refine aw_ret ?_
                exact retAF_mk (retv1 rfl (rv_tmp rfl)) rfl rfl ⟨_, (cle_refl _), _, h, rfl⟩
              · cases q24
            · cases q23
          · replace h := h.2 (of_decide_eq_false q22)
            refine run_gt rfl rfl q22 ?_
            refine run_s (ss_loadS rfl rfl rfl rfl) rfl ?_
            refine run_gt rfl rfl q22 ?_
            refine run_s (ss_loadS rfl rfl rfl rfl) rfl ?_
            refine run_gt rfl rfl q22 ?_
            obtain ⟨q25, h⟩ := h
            refine run_w (ws_callR (xs := [.tmp 49, .tmp 50]) (cs := [.agg [.own (orows (PermT a0))], .agg [.own (orows (PermT a0))]]) (ids := []) rfl (.inr ⟨rfl, rfl⟩) rfl rfl (fz_cons (fz_agg (fz_cons (fz_own (fz_map (fun _ => (fz_own (fz_map (fun _ => rfl) _))) _)) fz_nil)) (fz_cons (fz_agg (fz_cons (fz_own (fz_map (fun _ => (fz_own (fz_map (fun _ => rfl) _))) _)) fz_nil)) fz_nil)) (c_laws_eqRack (PermT a0) (PermT a0) q25) rfl ?_ )
            rintro _ rfl
            refine ⟨rfl, rfl, ?_⟩
            refine run_gt rfl rfl q22 ?_
            refine run_s (ss_not rfl) rfl ?_
            refine run_s (ss_pickF rfl q22 rfl) rfl ?_
            refine run_s (ss_move rfl) rfl ?_
            refine run_split (s := 54) rfl (fun q27 => ?_) (fun q27 => ?_)
            · replace h := h.1 (of_decide_eq_false (bnot_t q27))
              refine run_gf rfl rfl q27 rfl ?_
              refine run_gf rfl rfl q27 rfl ?_
              refine run_gf rfl rfl q27 rfl ?_
              refine run_s (ss_pickT rfl q27 rfl) rfl ?_
              refine run_nil ?_
              refine aw_cond rfl (fun q28 => ?_) (fun q28 => ?_)
              · skip
                refine aw_seq ?_
                refine aw_gh (gh_to (n := 93) (σ' := [(40, ⟨ints a0, []⟩), (6, ⟨[.hole], [(0, .ref 26)]⟩), (26, ⟨orows (PermT a0), []⟩), (23, ⟨ints (mkI (1 : Int) a0), []⟩), (3, ⟨[.hole], [(0, .ref 19)]⟩), (19, ⟨orows (PermT a0), []⟩), (18, ⟨ints a0, []⟩)]) (env' := []) rfl rfl trivial) ?_
                refine aw_region ?_
                refine run_s (ss_assign rfl) rfl ?_
                refine run_nil ?_
                refine aw_ret ?_
                exact retAF_mk (retv1 rfl (rv_tmp rfl)) rfl rfl ⟨_, (cle_refl _), _, h, rfl⟩
              · cases q28
            · replace h := h.2 (of_decide_eq_true (bnot_f q27))
              refine run_gt rfl rfl q27 ?_
              refine run_s (ss_move rfl) rfl ?_
              refine run_gt rfl rfl q27 ?_
              refine run_s (ss_move rfl) rfl ?_
              refine run_gt rfl rfl q27 ?_
              refine run_s (ss_neq rfl rfl) rfl ?_
              refine run_s (ss_pickF rfl q27 rfl) rfl ?_
              refine run_nil ?_
              refine aw_cond rfl (fun q29 => ?_) (fun q29 => ?_)
              · replace h := h.1 (of_decide_eq_false (bnot_t q29))
                refine aw_seq ?_
                refine aw_gh (gh_to (n := 93) (σ' := [(40, ⟨ints a0, []⟩), (6, ⟨[.hole], [(0, .ref 26)]⟩), (26, ⟨orows (PermT a0), []⟩), (23, ⟨ints (mkI (1 : Int) a0), []⟩), (3, ⟨[.hole], [(0, .ref 19)]⟩), (19, ⟨orows (PermT a0), []⟩), (18, ⟨ints a0, []⟩)]) (env' := []) rfl rfl trivial) ?_
                refine aw_region ?_
                refine run_s (ss_assign rfl) rfl ?_
                refine run_nil ?_
                refine aw_ret ?_
                exact retAF_mk (retv1 rfl (rv_tmp rfl)) rfl rfl ⟨_, (cle_refl _), _, h, rfl⟩
              · replace h := h.2 (of_decide_eq_true (bnot_f q29))
                refine aw_skip ?_
                refine aw_seq ?_
                refine aw_gh (gh_to (n := 93) (σ' := [(40, ⟨ints a0, []⟩), (6, ⟨[.hole], [(0, .ref 26)]⟩), (26, ⟨orows (PermT a0), []⟩), (23, ⟨ints (mkI (1 : Int) a0), []⟩), (3, ⟨[.hole], [(0, .ref 19)]⟩), (19, ⟨orows (PermT a0), []⟩), (18, ⟨ints a0, []⟩)]) (env' := [(0, .c (.lst (ints a0))), (3, .cell 3 0), (4, .c (ci (PermE a0))), (6, .cell 6 0)]) rfl rfl ⟨rfl, rfl, rfl, rfl, trivial⟩) ?_
                refine aw_region ?_
                refine run_s (ss_assign rfl) rfl ?_
                refine run_nil ?_
                refine aw_seq ?_
                refine aw_region ?_
                refine run_s (ss_loadS rfl rfl rfl rfl) rfl ?_
                refine run_s (ss_move rfl) rfl ?_
                obtain ⟨q30, h⟩ := h
                refine run_w (ws_callM (xs := [.tmp 59, .tmp 60]) (cs := [.agg [.own (orows (PermT a0))], ci 1]) (ids := []) rfl (.inr ⟨rfl, rfl⟩) rfl rfl rfl (c_laws_markRack (PermT a0) 1 q30) rfl ?_ )
                rintro _ _ ⟨rfl, rfl⟩
                refine ⟨rfl, rfl, ?_⟩
                refine run_s (ss_assign rfl) rfl ?_
                refine run_nil ?_
                refine aw_seq ?_
                refine aw_region ?_
                refine run_s (ss_assign rfl) rfl ?_
                refine run_nil ?_
                refine aw_seq ?_
                refine aw_region ?_
                refine run_s (ss_loadS rfl rfl rfl rfl) rfl ?_
                refine run_s (ss_move rfl) rfl ?_
                obtain ⟨q32, h⟩ := h
                refine run_w (ws_callR (xs := [.tmp 62, .tmp 63]) (cs := [.agg [.own (orows (mkII (1 : Int) (PermT a0)))], ci 1]) (ids := []) rfl (.inr ⟨rfl, rfl⟩) rfl rfl (fz_cons (fz_agg (fz_cons (fz_own (fz_map (fun _ => (fz_own (fz_map (fun _ => rfl) _))) _)) fz_nil)) (fz_cons rfl fz_nil)) (c_laws_heldRack (mkII (1 : Int) (PermT a0)) 1 q32) rfl ?_ )
                rintro _ rfl
                refine ⟨rfl, rfl, ?_⟩
                refine run_s (ss_assign rfl) rfl ?_
                refine run_nil ?_
                refine aw_seq ?_
                refine aw_seq ?_
                refine aw_region ?_
                refine run_s (ss_move rfl) rfl ?_
                refine run_s (ss_lss rfl rfl) rfl ?_
                refine run_nil ?_
                refine aw_cond rfl (fun q34 => ?_) (fun q34 => ?_)
                · replace h := h.1 (of_decide_eq_true q34)
                  refine aw_seq ?_
                  refine aw_gh (gh_to (n := 93) (σ' := [(40, ⟨ints a0, []⟩), (6, ⟨[.hole], [(0, .ref 26)]⟩), (26, ⟨orows (mkII (1 : Int) (PermT a0)), []⟩), (23, ⟨ints (mkI (1 : Int) a0), []⟩), (3, ⟨[.hole], [(0, .ref 19)]⟩), (19, ⟨orows (PermT a0), []⟩), (18, ⟨ints a0, []⟩)]) (env' := []) rfl rfl trivial) ?_
                  refine aw_region ?_
                  refine run_s (ss_assign rfl) rfl ?_
                  refine run_nil ?_
                  refine aw_ret ?_
                  exact retAF_mk (retv1 rfl (rv_tmp rfl)) rfl rfl ⟨_, (cle_refl _), _, h, rfl⟩
                · replace h := h.2 (of_decide_eq_false q34)
                  refine aw_skip ?_
                  refine aw_seq ?_
                  refine aw_seq ?_
                  refine aw_region ?_
                  refine run_s (ss_move rfl) rfl ?_
                  refine run_s (ss_move rfl) rfl ?_
                  refine run_s (ss_neq rfl rfl) rfl ?_
                  refine run_nil ?_
                  refine aw_cond rfl (fun q35 => ?_) (fun q35 => ?_)
                  · replace h := h.1 (of_decide_eq_false (bnot_t q35))
                    refine aw_seq ?_
                    refine aw_gh (gh_to (n := 93) (σ' := [(40, ⟨ints a0, []⟩), (6, ⟨[.hole], [(0, .ref 26)]⟩), (26, ⟨orows (mkII (1 : Int) (PermT a0)), []⟩), (23, ⟨ints (mkI (1 : Int) a0), []⟩), (3, ⟨[.hole], [(0, .ref 19)]⟩), (19, ⟨orows (PermT a0), []⟩), (18, ⟨ints a0, []⟩)]) (env' := []) rfl rfl trivial) ?_
                    refine aw_region ?_
                    refine run_s (ss_assign rfl) rfl ?_
                    refine run_nil ?_
                    refine aw_ret ?_
                    exact retAF_mk (retv1 rfl (rv_tmp rfl)) rfl rfl ⟨_, (cle_refl _), _, h, rfl⟩
                  · replace h := h.2 (of_decide_eq_true (bnot_f q35))
                    refine aw_skip ?_
                    refine aw_seq ?_
                    refine aw_region ?_
                    refine run_s (ss_move rfl) rfl ?_
                    obtain ⟨q36, h⟩ := h
                    refine run_w (ws_call (xs := [.tmp 71]) (ids := [72]) rfl rfl rfl rfl (c_laws_toInt64S a0 q36) rfl ?_ )
                    rintro _ rfl
                    refine ⟨rfl, ?_⟩
                    obtain ⟨q38, h⟩ := h
                    refine run_w (ws_callR (xs := [.tmp 72]) (cs := [.own (ints a0)]) (ids := [73]) rfl (.inr ⟨rfl, rfl⟩) rfl rfl (fz_cons (fz_own (fz_map (fun _ => rfl) _)) fz_nil) (c_impl_PermutationRack a0 q38) rfl ?_ )
                    rintro _ rfl
                    refine ⟨(slf_tup (slf_cons (slf_agg (slf_cons (slf_own (slfL_map (f := (fun r => C.own (ints r))) (fun _ => (slf_own (slfL_map (f := ci) (fun _ => rfl) _))) _)) slf_nil)) (slf_cons rfl slf_nil))), rfl, ?_⟩
                    refine run_s (ss_move rfl) rfl ?_
                    refine run_s (ss_extract rfl rfl) rfl ?_
                    refine run_s (ss_extract rfl rfl) rfl ?_
                    refine run_w (ws_alloc (id := 11) rfl (Nat.le_of_ble_eq_true rfl) ⟨rfl, ?_⟩)
                    refine run_w (ws_storeS rfl rfl (Nat.le_of_ble_eq_true rfl) rfl rfl rfl ⟨rfl, ?_⟩)
                    refine run_s (ss_assign rfl) rfl ?_
                    refine run_nil ?_
                    refine aw_seq ?_
                    refine aw_seq ?_
                    refine aw_gh (gh_to (n := 93) (σ' := [(11, ⟨[.hole], [(0, .ref 73)]⟩), (73, ⟨orows (PermT a0), []⟩), (72, ⟨ints a0, []⟩), (40, ⟨ints a0, []⟩), (6, ⟨[.hole], [(0, .ref 26)]⟩), (26, ⟨orows (mkII (1 : Int) (PermT a0)), []⟩), (23, ⟨ints (mkI (1 : Int) a0), []⟩), (3, ⟨[.hole], [(0, .ref 19)]⟩), (19, ⟨orows (PermT a0), []⟩), (18, ⟨ints a0, []⟩)]) (env' := [(3, .cell 3 0), (4, .c (ci (PermE a0))), (6, .cell 6 0), (9, .c (ci ((1 : Int) + tot (PermT a0)))), (11, .cell 11 0), (12, .c (ci (PermE a0)))]) rfl rfl ⟨rfl, rfl, rfl, rfl, rfl, rfl, trivial⟩) ?_
                    refine aw_region ?_
                    refine run_s (ss_loadS rfl rfl rfl rfl) rfl ?_
                    refine run_s (ss_loadS rfl rfl rfl rfl) rfl ?_
                    obtain ⟨q40, h⟩ := h
                    refine run_w (ws_callR (xs := [.tmp 76, .tmp 77]) (cs := [.agg [.own (orows (PermT a0))], .agg [.own (orows (PermT a0))]]) (ids := []) rfl (.inr ⟨rfl, rfl⟩) rfl rfl (fz_cons (fz_agg (fz_cons (fz_own (fz_map (fun _ => (fz_own (fz_map (fun _ => rfl) _))) _)) fz_nil)) (fz_cons (fz_agg (fz_cons (fz_own (fz_map (fun _ => (fz_own (fz_map (fun _ => rfl) _))) _)) fz_nil)) fz_nil)) (c_laws_eqRack (PermT a0) (PermT a0) q40) rfl ?_ )
                    rintro _ rfl
                    refine ⟨rfl, rfl, ?_⟩
                    refine run_s (ss_not rfl) rfl ?_
                    refine run_s (ss_move rfl) rfl ?_
                    refine run_split (s := 80) rfl (fun q42 => ?_) (fun q42 => ?_)
                    · replace h := h.1 (of_decide_eq_false (bnot_t q42))
                      refine run_gf rfl rfl q42 rfl ?_
                      refine run_gf rfl rfl q42 rfl ?_
                      refine run_gf rfl rfl q42 rfl ?_
                      refine run_s (ss_pickT rfl q42 rfl) rfl ?_
                      refine run_nil ?_
                      refine aw_cond rfl (fun q43 => ?_) (fun q43 => ?_)
                      · skip
                        refine aw_seq ?_
                        refine aw_gh (gh_to (n := 93) (σ' := [(11, ⟨[.hole], [(0, .ref 73)]⟩), (73, ⟨orows (PermT a0), []⟩), (72, ⟨ints a0, []⟩), (40, ⟨ints a0, []⟩), (6, ⟨[.hole], [(0, .ref 26)]⟩), (26, ⟨orows (mkII (1 : Int) (PermT a0)), []⟩), (23, ⟨ints (mkI (1 : Int) a0), []⟩), (3, ⟨[.hole], [(0, .ref 19)]⟩), (19, ⟨orows (PermT a0), []⟩), (18, ⟨ints a0, []⟩)]) (env' := []) rfl rfl trivial) ?_
                        refine aw_region ?_
                        refine run_s (ss_assign rfl) rfl ?_
                        refine run_nil ?_
                        refine aw_ret ?_
                        exact retAF_mk (retv1 rfl (rv_tmp rfl)) rfl rfl ⟨_, (cle_refl _), _, h, rfl⟩
                      · cases q43
                    · replace h := h.2 (of_decide_eq_true (bnot_f q42))
                      refine run_gt rfl rfl q42 ?_
                      refine run_s (ss_move rfl) rfl ?_
                      refine run_gt rfl rfl q42 ?_
                      refine run_s (ss_move rfl) rfl ?_
                      refine run_gt rfl rfl q42 ?_
                      refine run_s (ss_neq rfl rfl) rfl ?_
                      refine run_s (ss_pickF rfl q42 rfl) rfl ?_
                      refine run_nil ?_
                      refine aw_cond rfl (fun q44 => ?_) (fun q44 => ?_)
                      · replace h := h.1 (of_decide_eq_false (bnot_t q44))
                        refine aw_seq ?_
                        refine aw_gh (gh_to (n := 93) (σ' := [(11, ⟨[.hole], [(0, .ref 73)]⟩), (73, ⟨orows (PermT a0), []⟩), (72, ⟨ints a0, []⟩), (40, ⟨ints a0, []⟩), (6, ⟨[.hole], [(0, .ref 26)]⟩), (26, ⟨orows (mkII (1 : Int) (PermT a0)), []⟩), (23, ⟨ints (mkI (1 : Int) a0), []⟩), (3, ⟨[.hole], [(0, .ref 19)]⟩), (19, ⟨orows (PermT a0), []⟩), (18, ⟨ints a0, []⟩)]) (env' := []) rfl rfl trivial) ?_
                        refine aw_region ?_
                        refine run_s (ss_assign rfl) rfl ?_
                        refine run_nil ?_
                        refine aw_ret ?_
                        exact retAF_mk (retv1 rfl (rv_tmp rfl)) rfl rfl ⟨_, (cle_refl _), _, h, rfl⟩
                      · replace h := h.2 (of_decide_eq_true (bnot_f q44))
                        refine aw_skip ?_
                        refine aw_seq ?_
                        refine aw_gh (gh_to (n := 93) (σ' := [(11, ⟨[.hole], [(0, .ref 73)]⟩), (73, ⟨orows (PermT a0), []⟩), (72, ⟨ints a0, []⟩), (40, ⟨ints a0, []⟩), (6, ⟨[.hole], [(0, .ref 26)]⟩), (26, ⟨orows (mkII (1 : Int) (PermT a0)), []⟩), (23, ⟨ints (mkI (1 : Int) a0), []⟩), (3, ⟨[.hole], [(0, .ref 19)]⟩), (19, ⟨orows (PermT a0), []⟩), (18, ⟨ints a0, []⟩)]) (env' := [(6, .cell 6 0), (9, .c (ci ((1 : Int) + tot (PermT a0))))]) rfl rfl ⟨rfl, rfl, trivial⟩) ?_
                        refine aw_region ?_
                        refine run_s (ss_assign rfl) rfl ?_
                        refine run_nil ?_
                        refine aw_seq ?_
                        refine aw_region ?_
                        refine run_s (ss_loadS rfl rfl rfl rfl) rfl ?_
                        refine run_s (ss_move rfl) rfl ?_
                        obtain ⟨q45, h⟩ := h
                        refine run_w (ws_callR (xs := [.tmp 85, .tmp 86]) (cs := [.agg [.own (orows (mkII (1 : Int) (PermT a0)))], ci 1]) (ids := []) rfl (.inr ⟨rfl, rfl⟩) rfl rfl (fz_cons (fz_agg (fz_cons (fz_own (fz_map (fun _ => (fz_own (fz_map (fun _ => rfl) _))) _)) fz_nil)) (fz_cons rfl fz_nil)) (c_laws_heldRack (mkII (1 : Int) (PermT a0)) 1 q45) rfl ?_ )
                        rintro _ rfl
                        refine ⟨rfl, rfl, ?_⟩
                        refine run_s (ss_assign rfl) rfl ?_
                        refine run_nil ?_
                        refine aw_seq ?_
                        refine aw_seq ?_
                        refine aw_region ?_
                        refine run_s (ss_move rfl) rfl ?_
                        refine run_s (ss_lss rfl rfl) rfl ?_
                        refine run_nil ?_
                        refine aw_cond rfl (fun q47 => ?_) (fun q47 => ?_)
                        · replace h := h.1 (of_decide_eq_true q47)
                          refine aw_seq ?_
                          refine aw_gh (gh_to (n := 93) (σ' := [(11, ⟨[.hole], [(0, .ref 73)]⟩), (73, ⟨orows (PermT a0), []⟩), (72, ⟨ints a0, []⟩), (40, ⟨ints a0, []⟩), (6, ⟨[.hole], [(0, .ref 26)]⟩), (26, ⟨orows (mkII (1 : Int) (PermT a0)), []⟩), (23, ⟨ints (mkI (1 : Int) a0), []⟩), (3, ⟨[.hole], [(0, .ref 19)]⟩), (19, ⟨orows (PermT a0), []⟩), (18, ⟨ints a0, []⟩)]) (env' := []) rfl rfl trivial) ?_
                          refine aw_region ?_
                          refine run_s (ss_assign rfl) rfl ?_
                          refine run_nil ?_
                          refine aw_ret ?_
                          exact retAF_mk (retv1 rfl (rv_tmp rfl)) rfl rfl ⟨_, (cle_refl _), _, h, rfl⟩
                        · replace h := h.2 (of_decide_eq_false q47)
                          refine aw_skip ?_
                          refine aw_seq ?_
                          refine aw_seq ?_
                          refine aw_gh (gh_to (n := 93) (σ' := [(11, ⟨[.hole], [(0, .ref 73)]⟩), (73, ⟨orows (PermT a0), []⟩), (72, ⟨ints a0, []⟩), (40, ⟨ints a0, []⟩), (6, ⟨[.hole], [(0, .ref 26)]⟩), (26, ⟨orows (mkII (1 : Int) (PermT a0)), []⟩), (23, ⟨ints (mkI (1 : Int) a0), []⟩), (3, ⟨[.hole], [(0, .ref 19)]⟩), (19, ⟨orows (PermT a0), []⟩), (18, ⟨ints a0, []⟩)]) (env' := [(9, .c (ci ((1 : Int) + tot (PermT a0)))), (10, .c (ci (heII (1 : Int) (mkII (1 : Int) (PermT a0)))))]) rfl rfl ⟨rfl, rfl, trivial⟩) ?_
                          refine aw_region ?_
                          refine run_s (ss_move rfl) rfl ?_
                          refine run_s (ss_move rfl) rfl ?_
                          refine run_s (ss_neq rfl rfl) rfl ?_
                          refine run_nil ?_
                          refine aw_cond rfl (fun q48 => ?_) (fun q48 => ?_)
                          · replace h := h.1 (of_decide_eq_false (bnot_t q48))
                            refine aw_seq ?_
                            refine aw_gh (gh_to (n := 93) (σ' := [(11, ⟨[.hole], [(0, .ref 73)]⟩), (73, ⟨orows (PermT a0), []⟩), (72, ⟨ints a0, []⟩), (40, ⟨ints a0, []⟩), (6, ⟨[.hole], [(0, .ref 26)]⟩), (26, ⟨orows (mkII (1 : Int) (PermT a0)), []⟩), (23, ⟨ints (mkI (1 : Int) a0), []⟩), (3, ⟨[.hole], [(0, .ref 19)]⟩), (19, ⟨orows (PermT a0), []⟩), (18, ⟨ints a0, []⟩)]) (env' := []) rfl rfl trivial) ?_
                            refine aw_region ?_
                            refine run_s (ss_assign rfl) rfl ?_
                            refine run_nil ?_
                            refine aw_ret ?_
                            exact retAF_mk (retv1 rfl (rv_tmp rfl)) rfl rfl ⟨_, (cle_refl _), _, h, rfl⟩
                          · replace h := h.2 (of_decide_eq_true (bnot_f q48))
                            refine aw_skip ?_
                            refine aw_seq ?_
                            refine aw_gh (gh_to (n := 93) (σ' := [(11, ⟨[.hole], [(0, .ref 73)]⟩), (73, ⟨orows (PermT a0), []⟩), (72, ⟨ints a0, []⟩), (40, ⟨ints a0, []⟩), (6, ⟨[.hole], [(0, .ref 26)]⟩), (26, ⟨orows (mkII (1 : Int) (PermT a0)), []⟩), (23, ⟨ints (mkI (1 : Int) a0), []⟩), (3, ⟨[.hole], [(0, .ref 19)]⟩), (19, ⟨orows (PermT a0), []⟩), (18, ⟨ints a0, []⟩)]) (env' := []) rfl rfl trivial) ?_
                            refine aw_region ?_
                            refine run_s (ss_assign rfl) rfl ?_
                            refine run_nil ?_
                            refine aw_ret ?_
                            exact retAF_mk (retv1 rfl (rv_tmp rfl)) rfl rfl ⟨_, (cle_refl _), _, h, rfl⟩

theorem c_laws_FnExactPermutationRack (a0 : List Int) (hp : a0.length ≤ 9223372036854775807) : AF Try.prog 6 [.lst (ints a0)] (fun r => r = cb true) :=
  (w_laws_FnExactPermutationRack a0 (fun y0 => y0 = true) (p_laws_FnExactPermutationRack a0 hp)).mono (by rintro r ⟨_, rfl, rfl⟩; rfl)

set_option maxHeartbeats 1000000 in
theorem w_laws_FnExactSquaresOf (a0 : List (List Int)) (Q : Bool → Prop) (h : wp_laws_FnExactSquaresOf a0 Q) : AF Try.prog 7 [.agg [.lst (rows a0)]] (fun r => ∃ y0, Q y0 ∧ r = cb y0) := by
  refine AF.ofWQ (af_enter (n := 96) Try.func7 rfl (by rfl) rfl (Nat.le_of_ble_eq_true rfl) ?_)
  unfold wp_laws_FnExactSquaresOf at h
  refine aw_seq ?_
  refine aw_gh (gh_to (n := 96) (σ' := []) (env' := [(0, .c (.agg [.lst (rows a0)]))]) rfl rfl ⟨rfl, trivial⟩) ?_
  refine aw_region ?_
  refine run_w (ws_boxR rfl (.inl rfl) rfl ⟨rfl, ?_⟩)
  refine run_s (ss_assign rfl) rfl ?_
  refine run_nil ?_
  refine aw_seq ?_
  refine aw_region ?_
  refine run_s (ss_assign rfl) rfl ?_
  refine run_nil ?_
  refine aw_seq ?_
  refine aw_region ?_
  refine run_s (ss_load_struct rfl (Nat.le_of_ble_eq_true rfl)) rfl ?_
  refine run_s (ss_move rfl) rfl ?_
  obtain ⟨q1, h⟩ := h
  refine run_w (ws_call (xs := [.tmp 14, .tmp 15]) (ids := []) rfl rfl rfl rfl (c_laws_szCycleSet a0 1048576 q1) rfl ?_ )
  rintro _ rfl
  refine ⟨rfl, ?_⟩
  refine run_s (ss_assign rfl) rfl ?_
  refine run_nil ?_
  refine aw_seq ?_
  refine aw_seq ?_
  refine aw_region ?_
  refine run_s (ss_move rfl) rfl ?_
  refine run_s (ss_lss rfl rfl) rfl ?_
  refine run_nil ?_
  refine aw_cond rfl (fun q3 => ?_) (fun q3 => ?_)
  · replace h := h.1 (of_decide_eq_true q3)
    refine aw_seq ?_
    refine aw_gh (gh_to (n := 96) (σ' := []) (env' := [(2, .c (cb false))]) rfl rfl ⟨rfl, trivial⟩) ?_
    refine aw_region ?_
    refine run_s (ss_assign rfl) rfl ?_
    refine run_nil ?_
    refine aw_ret ?_
    exact retAF_mk (retv1 rfl (rv_tmp rfl)) rfl rfl ⟨_, (cle_refl _), _, h, rfl⟩
  · replace h := h.2 (of_decide_eq_false q3)
    refine aw_skip ?_
    refine aw_seq ?_
    refine aw_region ?_
    refine run_s (ss_load_struct rfl (Nat.le_of_ble_eq_true rfl)) rfl ?_
    obtain ⟨q4, h⟩ := h
    refine run_w (ws_call (xs := [.tmp 20]) (ids := [21]) rfl rfl rfl rfl (c_laws_toCycleSet a0 q4) rfl ?_ )
    rintro _ rfl
    refine ⟨rfl, ?_⟩
    obtain ⟨q6, h⟩ := h
    refine run_w (ws_callR (xs := [.tmp 21]) (cs := [.agg [.own (orows a0)]]) (ids := [22]) rfl (.inr ⟨rfl, rfl⟩) rfl rfl (fz_cons (fz_agg (fz_cons (fz_own (fz_map (fun _ => (fz_own (fz_map (fun _ => rfl) _))) _)) fz_nil)) fz_nil) (c_spec_SquaresOf a0 q6) rfl ?_ )
    rintro _ rfl
    refine ⟨(slf_tup (slf_cons (slf_own (slfL_map (f := ci) (fun _ => rfl) _)) (slf_cons rfl slf_nil))), rfl, ?_⟩
    refine run_s (ss_move rfl) rfl ?_
    refine run_s (ss_extract rfl rfl) rfl ?_
    refine run_s (ss_extract rfl rfl) rfl ?_
    refine run_s (ss_assign rfl) rfl ?_
    refine run_s (ss_assign rfl) rfl ?_
    refine run_nil ?_
    refine aw_seq ?_
    refine aw_region ?_
    refine run_s (ss_load_struct rfl (Nat.le_of_ble_eq_true rfl)) rfl ?_
    obtain ⟨q8, h⟩ := h
    refine run_w (ws_call (xs := [.tmp 25]) (ids := [26]) rfl rfl rfl rfl (c_laws_toCycleSet a0 q8) rfl ?_ )
    rintro _ rfl
    refine ⟨rfl, ?_⟩
    refine run_w (ws_alloc (id := 6) rfl (Nat.le_of_ble_eq_true rfl) ⟨rfl, ?_⟩)
    refine run_w (ws_storeS rfl rfl (Nat.le_of_ble_eq_true rfl) rfl rfl rfl ⟨rfl, ?_⟩)
    refine run_nil ?_
    refine aw_seq ?_
    refine aw_region ?_
    refine run_s (ss_loadS rfl rfl rfl rfl) rfl ?_
    obtain ⟨q10, h⟩ := h
    refine run_w (ws_callR (xs := [.tmp 28]) (cs := [.agg [.own (orows a0)]]) (ids := [29]) rfl (.inr ⟨rfl, rfl⟩) rfl rfl (fz_cons (fz_agg (fz_cons (fz_own (fz_map (fun _ => (fz_own (fz_map (fun _ => rfl) _))) _)) fz_nil)) fz_nil) (c_impl_SquaresOf a0 q10) rfl ?_ )
    rintro _ rfl
    refine ⟨(slf_tup (slf_cons (slf_own (slfL_map (f := ci) (fun _ => rfl) _)) (slf_cons rfl slf_nil))), rfl, ?_⟩
    refine run_s (ss_move rfl) rfl ?_
    refine run_s (ss_extract rfl rfl) rfl ?_
    refine run_s (ss_extract rfl rfl) rfl ?_
    refine run_s (ss_assign rfl) rfl ?_
    refine run_s (ss_assign rfl) rfl ?_
    refine run_nil ?_
    refine aw_seq ?_
    refine aw_seq ?_
    refine aw_region ?_
    refine run_s (ss_move rfl) rfl ?_
    refine run_s (ss_move rfl) rfl ?_
    obtain ⟨q12, h⟩ := h
    refine run_w (ws_callR (xs := [.tmp 32, .tmp 33]) (cs := [.own (ints (SquaT a0)), .own (ints (SquaT a0))]) (ids := []) rfl (.inr ⟨rfl, rfl⟩) rfl rfl (fz_cons (fz_own (fz_map (fun _ => rfl) _)) (fz_cons (fz_own (fz_map (fun _ => rfl) _)) fz_nil)) (c_laws_eqInt64S (SquaT a0) (SquaT a0) q12) rfl ?_ )
    rintro _ rfl
    refine ⟨rfl, rfl, ?_⟩
    refine run_s (ss_not rfl) rfl ?_
    refine run_s (ss_move rfl) rfl ?_
    refine run_split (s := 36) rfl (fun q14 => ?_) (fun q14 => ?_)
    · replace h := h.1 (of_decide_eq_false (bnot_t q14))
      refine run_gf rfl rfl q14 rfl ?_
      refine run_gf rfl rfl q14 rfl ?_
      refine run_gf rfl rfl q14 rfl ?_
      refine run_s (ss_pickT rfl q14 rfl) rfl ?_
      refine run_nil ?_
      refine aw_cond rfl (fun q15 => ?_) (fun q15 => ?_)
      · skip
        refine aw_seq ?_
        refine aw_gh (gh_to (n := 96) (σ' := [(29, ⟨ints (SquaT a0), []⟩), (6, ⟨[.hole], [(0, .ref 26)]⟩), (26, ⟨orows a0, []⟩), (22, ⟨ints (SquaT a0), []⟩), (21, ⟨orows a0, []⟩)]) (env' := [(2, .c (cb false))]) rfl rfl ⟨rfl, trivial⟩) ?_
        refine aw_region ?_
        refine run_s (ss_assign rfl) rfl ?_
        refine run_nil ?_
        refine aw_ret ?_
        exact retAF_mk (retv1 rfl (rv_tmp rfl)) rfl rfl ⟨_, (cle_refl _), _, h, rfl⟩
      · cases q15
    · replace h := h.2 (of_decide_eq_true (bnot_f q14))
      refine run_gt rfl rfl q14 ?_
      refine run_s (ss_move rfl) rfl ?_
      refine run_gt rfl rfl q14 ?_
      refine run_s (ss_move rfl) rfl ?_
      refine run_gt rfl rfl q14 ?_
      refine run_s (ss_neq rfl rfl) rfl ?_
      refine run_s (ss_pickF rfl q14 rfl) rfl ?_
      refine run_nil ?_
      refine aw_cond rfl (fun q16 => ?_) (fun q16 => ?_)
      · replace h := h.1 (of_decide_eq_false (bnot_t q16))
        refine aw_seq ?_
        refine aw_gh (gh_to (n := 96) (σ' := [(29, ⟨ints (SquaT a0), []⟩), (6, ⟨[.hole], [(0, .ref 26)]⟩), (26, ⟨orows a0, []⟩), (22, ⟨ints (SquaT a0), []⟩), (21, ⟨orows a0, []⟩)]) (env' := [(2, .c (cb false))]) rfl rfl ⟨rfl, trivial⟩) ?_
        refine aw_region ?_
        refine run_s (ss_assign rfl) rfl ?_
        refine run_nil ?_
        refine aw_ret ?_
        exact retAF_mk (retv1 rfl (rv_tmp rfl)) rfl rfl ⟨_, (cle_refl _), _, h, rfl⟩
      · replace h := h.2 (of_decide_eq_true (bnot_f q16))
        refine aw_skip ?_
        refine aw_seq ?_
        refine aw_seq ?_
        refine aw_gh (gh_to (n := 96) (σ' := [(29, ⟨ints (SquaT a0), []⟩), (6, ⟨[.hole], [(0, .ref 26)]⟩), (26, ⟨orows a0, []⟩), (22, ⟨ints (SquaT a0), []⟩), (21, ⟨orows a0, []⟩)]) (env' := [(1, .c (.ptr [.lst (rows a0)])), (4, .ref 22), (5, .c (ci (SquaE a0))), (6, .cell 6 0), (7, .ref 29), (8, .c (ci (SquaE a0)))]) rfl rfl ⟨rfl, rfl, rfl, rfl, rfl, rfl, trivial⟩) ?_
        refine aw_regionD (kd := kdl [1, 1, 2, 2, 0]) (ord := [0, 1, 2, 3, 4]) [] mixed (by kernel_rfl) ?_
        refine rd_l rfl rfl trivial (ss_loadS rfl rfl rfl rfl) rfl ?_
        refine rd_l rfl rfl trivial (ss_load_struct rfl (Nat.le_of_ble_eq_true rfl)) rfl ?_
        obtain ⟨q17, h⟩ := h
        refine rd_w rfl rfl trivial rfl rfl (ws_call (xs := [.tmp 42]) (ids := [43]) rfl rfl rfl rfl (c_laws_toCycleSet a0 q17) rfl ?_ )
        rintro _ rfl
        refine ⟨rfl, ?_⟩
        obtain ⟨q19, h⟩ := h
        refine rd_w rfl rfl trivial rfl rfl (ws_callR (xs := [.tmp 41, .tmp 43]) (cs := [.agg [.own (orows a0)], .agg [.own (orows a0)]]) (ids := []) rfl (.inr ⟨rfl, rfl⟩) rfl rfl (fz_cons (fz_agg (fz_cons (fz_own (fz_map (fun _ => (fz_own (fz_map (fun _ => rfl) _))) _)) fz_nil)) (fz_cons (fz_agg (fz_cons (fz_own (fz_map (fun _ => (fz_own (fz_map (fun _ => rfl) _))) _)) fz_nil)) fz_nil)) (c_laws_eqCycleSet a0 a0 q19) rfl ?_ )
        rintro _ rfl
        refine ⟨rfl, rfl, ?_⟩
        refine rd_s rfl rfl trivial (ss_not rfl) rfl ?_
        refine rd_nil ?_
        refine aw_cond rfl (fun q21 => ?_) (fun q21 => ?_)
        · replace h := h.1 (of_decide_eq_false (bnot_t q21))
          refine aw_seq ?_
          refine aw_gh (gh_to (n := 96) (σ' := [(43, ⟨orows a0, []⟩), (29, ⟨ints (SquaT a0), []⟩), (6, ⟨[.hole], [(0, .ref 26)]⟩), (26, ⟨orows a0, []⟩), (22, ⟨ints (SquaT a0), []⟩), (21, ⟨orows a0, []⟩)]) (env' := []) rfl rfl trivial) ?_
          refine aw_region ?_
          refine run_s (ss_assign rfl) rfl ?_
          refine run_nil ?_
          refine aw_ret ?_
          exact retAF_mk (retv1 rfl (rv_tmp rfl)) rfl rfl ⟨_, (cle_refl _), _, h, rfl⟩
        · replace h := h.2 (of_decide_eq_true (bnot_f q21))
          refine aw_skip ?_
          refine aw_seq ?_
          refine aw_region ?_
          refine run_s (ss_assign rfl) rfl ?_
          refine run_nil ?_
          refine aw_seq ?_
          refine aw_region ?_
          refine run_s (ss_loadS rfl rfl rfl rfl) rfl ?_
          refine run_s (ss_move rfl) rfl ?_
          obtain ⟨q22, h⟩ := h
          refine run_w (ws_callM (xs := [.tmp 46, .tmp 47]) (cs := [.agg [.own (orows a0)], ci 1]) (ids := []) rfl (.inr ⟨rfl, rfl⟩) rfl rfl rfl (c_laws_markCycleSet a0 1 q22) rfl ?_ )
          rintro _ _ ⟨rfl, rfl⟩
          refine ⟨rfl, rfl, ?_⟩
          refine run_s (ss_assign rfl) rfl ?_
          refine run_nil ?_
          refine aw_seq ?_
          refine aw_seq ?_
          refine aw_region ?_
          refine run_s (ss_move rfl) rfl ?_
          refine run_s (ss_lss rfl rfl) rfl ?_
          refine run_s (ss_move rfl) rfl ?_
          refine run_split (s := 51) rfl (fun q24 => ?_) (fun q24 => ?_)
          · replace h := h.1 (of_decide_eq_true q24)
            refine run_gf rfl rfl q24 rfl ?_
            refine run_gf rfl rfl q24 rfl ?_
            refine run_gf rfl rfl q24 rfl ?_
            refine run_gf rfl rfl q24 rfl ?_
            refine run_s (ss_pickT rfl q24 rfl) rfl ?_
            refine run_s (ss_move rfl) rfl ?_
            refine run_split (s := 57) rfl (fun q25 => ?_) (fun q25 => ?_)
            · skip
              refine run_gf rfl rfl q25 rfl ?_
              refine run_gf rfl rfl q25 rfl ?_
              refine run_gf rfl rfl q25 rfl ?_
              refine run_s (ss_pickT rfl q25 rfl) rfl ?_
              refine run_nil ?_
              refine aw_cond rfl (fun q26 => ?_) (fun q26 => ?_)
              · skip
                refine aw_seq ?_
                refine aw_gh (gh_to (n := 96) (σ' := [(43, ⟨orows a0, []⟩), (29, ⟨ints (SquaT a0), []⟩), (6, ⟨[.hole], [(0, .ref 26)]⟩), (26, ⟨orows (mkII (1 : Int) a0), []⟩), (22, ⟨ints (SquaT a0), []⟩), (21, ⟨orows a0, []⟩)]) (env' := []) rfl rfl trivial) ?_
                refine aw_region ?_
                refine run_s (ss_assign rfl) rfl ?_
                refine run_nil ?_
                refine aw_ret ?_
                exact retAF_mk (retv1 rfl (rv_tmp rfl)) rfl rfl ⟨_, (cle_refl _), _, h, rfl⟩
              · cases q26
            · cases q25
          · replace h := h.2 (of_decide_eq_false q24)
            refine run_gt rfl rfl q24 ?_
            refine run_s (ss_move rfl) rfl ?_
            refine run_gt rfl rfl q24 ?_
            refine run_s (ss_move rfl) rfl ?_
            refine run_gt rfl rfl q24 ?_
            obtain ⟨q27, h⟩ := h
            refine run_w (ws_callR (xs := [.tmp 52, .tmp 53]) (cs := [.own (ints (SquaT a0)), .own (ints (SquaT a0))]) (ids := []) rfl (.inr ⟨rfl, rfl⟩) rfl rfl (fz_cons (fz_own (fz_map (fun _ => rfl) _)) (fz_cons (fz_own (fz_map (fun _ => rfl) _)) fz_nil)) (c_laws_eqInt64S (SquaT a0) (SquaT a0) q27) rfl ?_ )
            rintro _ rfl
            refine ⟨rfl, rfl, ?_⟩
            refine run_gt rfl rfl q24 ?_
            refine run_s (ss_not rfl) rfl ?_
            refine run_s (ss_pickF rfl q24 rfl) rfl ?_
            refine run_s (ss_move rfl) rfl ?_
            refine run_split (s := 57) rfl (fun q29 => ?_) (fun q29 => ?_)
            · replace h := h.1 (of_decide_eq_false (bnot_t q29))
              refine run_gf rfl rfl q29 rfl ?_
              refine run_gf rfl rfl q29 rfl ?_
              refine run_gf rfl rfl q29 rfl ?_
              refine run_s (ss_pickT rfl q29 rfl) rfl ?_
              refine run_nil ?_
              refine aw_cond rfl (fun q30 => ?_) (fun q30 => ?_)
              · skip
                refine aw_seq ?_
                refine aw_gh (gh_to (n := 96) (σ' := [(43, ⟨orows a0, []⟩), (29, ⟨ints (SquaT a0), []⟩), (6, ⟨[.hole], [(0, .ref 26)]⟩), (26, ⟨orows (mkII (1 : Int) a0), []⟩), (22, ⟨ints (SquaT a0), []⟩), (21, ⟨orows a0, []⟩)]) (env' := []) rfl rfl trivial) ?_
                refine aw_region ?_
                refine run_s (ss_assign rfl) rfl ?_
                refine run_nil ?_
                refine aw_ret ?_
                exact retAF_mk (retv1 rfl (rv_tmp rfl)) rfl rfl ⟨_, (cle_refl _), _, h, rfl⟩
              · cases q30
            · replace h := h.2 (of_decide_eq_true (bnot_f q29))
              refine run_gt rfl rfl q29 ?_
              refine run_s (ss_move rfl) rfl ?_
              refine run_gt rfl rfl q29 ?_
              refine run_s (ss_move rfl) rfl ?_
              refine run_gt rfl rfl q29 ?_
              refine run_s (ss_neq rfl rfl) rfl ?_
              refine run_s (ss_pickF rfl q29 rfl) rfl ?_
              refine run_nil ?_
              refine aw_cond rfl (fun q31 => ?_) (fun q31 => ?_)
              · replace h := h.1 (of_decide_eq_false (bnot_t q31))
                refine aw_seq ?_
                refine aw_gh (gh_to (n := 96) (σ' := [(43, ⟨orows a0, []⟩), (29, ⟨ints (SquaT a0), []⟩), (6, ⟨[.hole], [(0, .ref 26)]⟩), (26, ⟨orows (mkII (1 : Int) a0), []⟩), (22, ⟨ints (SquaT a0), []⟩), (21, ⟨orows a0, []⟩)]) (env' := []) rfl rfl trivial) ?_
                refine aw_region ?_
                refine run_s (ss_assign rfl) rfl ?_
                refine run_nil ?_
                refine aw_ret ?_
                exact retAF_mk (retv1 rfl (rv_tmp rfl)) rfl rfl ⟨_, (cle_refl _), _, h, rfl⟩
              · replace h := h.2 (of_decide_eq_true (bnot_f q31))
                refine aw_skip ?_
                refine aw_seq ?_
                refine aw_gh (gh_to (n := 96) (σ' := [(43, ⟨orows a0, []⟩), (29, ⟨ints (SquaT a0), []⟩), (6, ⟨[.hole], [(0, .ref 26)]⟩), (26, ⟨orows (mkII (1 : Int) a0), []⟩), (22, ⟨ints (SquaT a0), []⟩), (21, ⟨orows a0, []⟩)]) (env' := [(1, .c (.ptr [.lst (rows a0)])), (4, .ref 22), (5, .c (ci (SquaE a0))), (7, .ref 29)]) rfl rfl ⟨rfl, rfl, rfl, rfl, trivial⟩) ?_
                refine aw_region ?_
                refine run_s (ss_assign rfl) rfl ?_
                refine run_nil ?_
                refine aw_seq ?_
                refine aw_region ?_
                refine run_s (ss_move rfl) rfl ?_
                refine run_s (ss_move rfl) rfl ?_
                obtain ⟨q32, h⟩ := h
                refine run_w (ws_callM (xs := [.tmp 62, .tmp 63]) (cs := [.own (ints (SquaT a0)), ci 1]) (ids := []) rfl (.inr ⟨rfl, rfl⟩) rfl rfl rfl (c_laws_markInt64S (SquaT a0) 1 q32) rfl ?_ )
                rintro _ _ ⟨rfl, rfl⟩
                refine ⟨rfl, rfl, ?_⟩
                refine run_s (ss_assign rfl) rfl ?_
                refine run_nil ?_
                refine aw_seq ?_
                refine aw_region ?_
                refine run_s (ss_assign rfl) rfl ?_
                refine run_nil ?_
                refine aw_seq ?_
                refine aw_region ?_
                refine run_s (ss_move rfl) rfl ?_
                refine run_s (ss_move rfl) rfl ?_
                obtain ⟨q34, h⟩ := h
                refine run_w (ws_callR (xs := [.tmp 65, .tmp 66]) (cs := [.own (ints (mkI (1 : Int) (SquaT a0))), ci 1]) (ids := []) rfl (.inr ⟨rfl, rfl⟩) rfl rfl (fz_cons (fz_own (fz_map (fun _ => rfl) _)) (fz_cons rfl fz_nil)) (c_laws_heldInt64S (mkI (1 : Int) (SquaT a0)) 1 q34) rfl ?_ )
                rintro _ rfl
                refine ⟨rfl, rfl, ?_⟩
                refine run_s (ss_assign rfl) rfl ?_
                refine run_nil ?_
                refine aw_seq ?_
                refine aw_seq ?_
                refine aw_region ?_
                refine run_s (ss_move rfl) rfl ?_
                refine run_s (ss_lss rfl rfl) rfl ?_
                refine run_nil ?_
                refine aw_cond rfl (fun q36 => ?_) (fun q36 => ?_)
                · replace h := h.1 (of_decide_eq_true q36)
                  refine aw_seq ?_
                  refine aw_gh (gh_to (n := 96) (σ' := [(43, ⟨orows a0, []⟩), (29, ⟨ints (mkI (1 : Int) (SquaT a0)), []⟩), (6, ⟨[.hole], [(0, .ref 26)]⟩), (26, ⟨orows (mkII (1 : Int) a0), []⟩), (22, ⟨ints (SquaT a0), []⟩), (21, ⟨orows a0, []⟩)]) (env' := []) rfl rfl trivial) ?_
                  refine aw_region ?_
                  refine run_s (ss_assign rfl) rfl ?_
                  refine run_nil ?_
                  refine aw_ret ?_
                  exact retAF_mk (retv1 rfl (rv_tmp rfl)) rfl rfl ⟨_, (cle_refl _), _, h, rfl⟩
                · replace h := h.2 (of_decide_eq_false q36)
                  refine aw_skip ?_
                  refine aw_seq ?_
                  refine aw_seq ?_
                  refine aw_region ?_
                  refine run_s (ss_move rfl) rfl ?_
                  refine run_s (ss_move rfl) rfl ?_
                  refine run_s (ss_neq rfl rfl) rfl ?_
                  refine run_nil ?_
                  refine aw_cond rfl (fun q37 => ?_) (fun q37 => ?_)
                  · replace h := h.1 (of_decide_eq_false (bnot_t q37))
                    refine aw_seq ?_
                    refine aw_gh (gh_to (n := 96) (σ' := [(43, ⟨orows a0, []⟩), (29, ⟨ints (mkI (1 : Int) (SquaT a0)), []⟩), (6, ⟨[.hole], [(0, .ref 26)]⟩), (26, ⟨orows (mkII (1 : Int) a0), []⟩), (22, ⟨ints (SquaT a0), []⟩), (21, ⟨orows a0, []⟩)]) (env' := []) rfl rfl trivial) ?_
                    refine aw_region ?_
                    refine run_s (ss_assign rfl) rfl ?_
                    refine run_nil ?_
                    refine aw_ret ?_
                    exact retAF_mk (retv1 rfl (rv_tmp rfl)) rfl rfl ⟨_, (cle_refl _), _, h, rfl⟩
                  · replace h := h.2 (of_decide_eq_true (bnot_f q37))
                    refine aw_skip ?_
                    refine aw_seq ?_
                    refine aw_region ?_
                    refine run_s (ss_load_struct rfl (Nat.le_of_ble_eq_true rfl)) rfl ?_
                    obtain ⟨q38, h⟩ := h
                    refine run_w (ws_call (xs := [.tmp 74]) (ids := [75]) rfl rfl rfl rfl (c_laws_toCycleSet a0 q38) rfl ?_ )
                    rintro _ rfl
                    refine ⟨rfl, ?_⟩
                    obtain ⟨q40, h⟩ := h
                    refine run_w (ws_callR (xs := [.tmp 75]) (cs := [.agg [.own (orows a0)]]) (ids := [76]) rfl (.inr ⟨rfl, rfl⟩) rfl rfl (fz_cons (fz_agg (fz_cons (fz_own (fz_map (fun _ => (fz_own (fz_map (fun _ => rfl) _))) _)) fz_nil)) fz_nil) (c_impl_SquaresOf a0 q40) rfl ?_ )
                    rintro _ rfl
                    refine ⟨(slf_tup (slf_cons (slf_own (slfL_map (f := ci) (fun _ => rfl) _)) (slf_cons rfl slf_nil))), rfl, ?_⟩
                    refine run_s (ss_move rfl) rfl ?_
                    refine run_s (ss_extract rfl rfl) rfl ?_
                    refine run_s (ss_extract rfl rfl) rfl ?_
                    refine run_s (ss_assign rfl) rfl ?_
                    refine run_s (ss_assign rfl) rfl ?_
                    refine run_nil ?_
                    refine aw_seq ?_
                    refine aw_seq ?_
                    refine aw_gh (gh_to (n := 96) (σ' := [(76, ⟨ints (SquaT a0), []⟩), (75, ⟨orows a0, []⟩), (43, ⟨orows a0, []⟩), (29, ⟨ints (mkI (1 : Int) (SquaT a0)), []⟩), (6, ⟨[.hole], [(0, .ref 26)]⟩), (26, ⟨orows (mkII (1 : Int) a0), []⟩), (22, ⟨ints (SquaT a0), []⟩), (21, ⟨orows a0, []⟩)]) (env' := [(4, .ref 22), (5, .c (ci (SquaE a0))), (7, .ref 29), (10, .c (ci ((1 : Int) + ((SquaT a0).length : Int)))), (12, .ref 76), (13, .c (ci (SquaE a0)))]) rfl rfl ⟨rfl, rfl, rfl, rfl, rfl, rfl, trivial⟩) ?_
                    refine aw_region ?_
                    refine run_s (ss_move rfl) rfl ?_
                    refine run_s (ss_move rfl) rfl ?_
                    obtain ⟨q42, h⟩ := h
                    refine run_w (ws_callR (xs := [.tmp 79, .tmp 80]) (cs := [.own (ints (SquaT a0)), .own (ints (SquaT a0))]) (ids := []) rfl (.inr ⟨rfl, rfl⟩) rfl rfl (fz_cons (fz_own (fz_map (fun _ => rfl) _)) (fz_cons (fz_own (fz_map (fun _ => rfl) _)) fz_nil)) (c_laws_eqInt64S (SquaT a0) (SquaT a0) q42) rfl ?_ )
                    rintro _ rfl
                    refine ⟨rfl, rfl, ?_⟩
                    refine run_s (ss_not rfl) rfl ?_
                    refine run_s (ss_move rfl) rfl ?_
                    refine run_split (s := 83) rfl (fun q44 => ?_) (fun q44 => ?_)
                    · replace h := h.1 (of_decide_eq_false (bnot_t q44))
                      refine run_gf rfl rfl q44 rfl ?_
                      refine run_gf rfl rfl q44 rfl ?_
                      refine run_gf rfl rfl q44 rfl ?_
                      refine run_s (ss_pickT rfl q44 rfl) rfl ?_
                      refine run_nil ?_
                      refine aw_cond rfl (fun q45 => ?_) (fun q45 => ?_)
                      · skip
                        refine aw_seq ?_
                        refine aw_gh (gh_to (n := 96) (σ' := [(76, ⟨ints (SquaT a0), []⟩), (75, ⟨orows a0, []⟩), (43, ⟨orows a0, []⟩), (29, ⟨ints (mkI (1 : Int) (SquaT a0)), []⟩), (6, ⟨[.hole], [(0, .ref 26)]⟩), (26, ⟨orows (mkII (1 : Int) a0), []⟩), (22, ⟨ints (SquaT a0), []⟩), (21, ⟨orows a0, []⟩)]) (env' := []) rfl rfl trivial) ?_
                        refine aw_region ?_
                        refine run_s (ss_assign rfl) rfl ?_
                        refine run_nil ?_
                        refine aw_ret ?_
                        exact retAF_mk (retv1 rfl (rv_tmp rfl)) rfl rfl ⟨_, (cle_refl _), _, h, rfl⟩
                      · cases q45
                    · replace h := h.2 (of_decide_eq_true (bnot_f q44))
                      refine run_gt rfl rfl q44 ?_
                      refine run_s (ss_move rfl) rfl ?_
                      refine run_gt rfl rfl q44 ?_
                      refine run_s (ss_move rfl) rfl ?_
                      refine run_gt rfl rfl q44 ?_
                      refine run_s (ss_neq rfl rfl) rfl ?_
                      refine run_s (ss_pickF rfl q44 rfl) rfl ?_
                      refine run_nil ?_
                      refine aw_cond rfl (fun q46 => ?_) (fun q46 => ?_)
                      · replace h := h.1 (of_decide_eq_false (bnot_t q46))
                        refine aw_seq ?_
                        refine aw_gh (gh_to (n := 96) (σ' := [(76, ⟨ints (SquaT a0), []⟩), (75, ⟨orows a0, []⟩), (43, ⟨orows a0, []⟩), (29, ⟨ints (mkI (1 : Int) (SquaT a0)), []⟩), (6, ⟨[.hole], [(0, .ref 26)]⟩), (26, ⟨orows (mkII (1 : Int) a0), []⟩), (22, ⟨ints (SquaT a0), []⟩), (21, ⟨orows a0, []⟩)]) (env' := []) rfl rfl trivial) ?_
                        refine aw_region ?_
                        refine run_s (ss_assign rfl) rfl ?_
                        refine run_nil ?_
                        refine aw_ret ?_
                        exact retAF_mk (retv1 rfl (rv_tmp rfl)) rfl rfl ⟨_, (cle_refl _), _, h, rfl⟩
                      · replace h := h.2 (of_decide_eq_true (bnot_f q46))
                        refine aw_skip ?_
                        refine aw_seq ?_
                        refine aw_gh (gh_to (n := 96) (σ' := [(76, ⟨ints (SquaT a0), []⟩), (75, ⟨orows a0, []⟩), (43, ⟨orows a0, []⟩), (29, ⟨ints (mkI (1 : Int) (SquaT a0)), []⟩), (6, ⟨[.hole], [(0, .ref 26)]⟩), (26, ⟨orows (mkII (1 : Int) a0), []⟩), (22, ⟨ints (SquaT a0), []⟩), (21, ⟨orows a0, []⟩)]) (env' := [(7, .ref 29), (10, .c (ci ((1 : Int) + ((SquaT a0).length : Int))))]) rfl rfl ⟨rfl, rfl, trivial⟩) ?_
                        refine aw_region ?_
                        refine run_s (ss_assign rfl) rfl ?_
                        refine run_nil ?_
                        refine aw_seq ?_
                        refine aw_region ?_
                        refine run_s (ss_move rfl) rfl ?_
                        refine run_s (ss_move rfl) rfl ?_
                        obtain ⟨q47, h⟩ := h
                        refine run_w (ws_callR (xs := [.tmp 88, .tmp 89]) (cs := [.own (ints (mkI (1 : Int) (SquaT a0))), ci 1]) (ids := []) rfl (.inr ⟨rfl, rfl⟩) rfl rfl (fz_cons (fz_own (fz_map (fun _ => rfl) _)) (fz_cons rfl fz_nil)) (c_laws_heldInt64S (mkI (1 : Int) (SquaT a0)) 1 q47) rfl ?_ )
                        rintro _ rfl
                        refine ⟨rfl, rfl, ?_⟩
                        refine run_s (ss_assign rfl) rfl ?_
                        refine run_nil ?_
                        refine aw_seq ?_
                        refine aw_seq ?_
                        refine aw_region ?_
                        refine run_s (ss_move rfl) rfl ?_
                        refine run_s (ss_lss rfl rfl) rfl ?_
                        refine run_nil ?_
                        refine aw_cond rfl (fun q49 => ?_) (fun q49 => ?_)
                        · replace h := h.1 (of_decide_eq_true q49)
                          refine aw_seq ?_
                          refine aw_gh (gh_to (n := 96) (σ' := [(76, ⟨ints (SquaT a0), []⟩), (75, ⟨orows a0, []⟩), (43, ⟨orows a0, []⟩), (29, ⟨ints (mkI (1 : Int) (SquaT a0)), []⟩), (6, ⟨[.hole], [(0, .ref 26)]⟩), (26, ⟨orows (mkII (1 : Int) a0), []⟩), (22, ⟨ints (SquaT a0), []⟩), (21, ⟨orows a0, []⟩)]) (env' := []) rfl rfl trivial) ?_
                          refine aw_region ?_
                          refine run_s (ss_assign rfl) rfl ?_
                          refine run_nil ?_
                          refine aw_ret ?_
                          exact retAF_mk (retv1 rfl (rv_tmp rfl)) rfl rfl ⟨_, (cle_refl _), _, h, rfl⟩
                        · replace h := h.2 (of_decide_eq_false q49)
                          refine aw_skip ?_
                          refine aw_seq ?_
                          refine aw_seq ?_
                          refine aw_gh (gh_to (n := 96) (σ' := [(76, ⟨ints (SquaT a0), []⟩), (75, ⟨orows a0, []⟩), (43, ⟨orows a0, []⟩), (29, ⟨ints (mkI (1 : Int) (SquaT a0)), []⟩), (6, ⟨[.hole], [(0, .ref 26)]⟩), (26, ⟨orows (mkII (1 : Int) a0), []⟩), (22, ⟨ints (SquaT a0), []⟩), (21, ⟨orows a0, []⟩)]) (env' := [(10, .c (ci ((1 : Int) + ((SquaT a0).length : Int)))), (11, .c (ci (heI (1 : Int) (mkI (1 : Int) (SquaT a0)))))]) rfl rfl ⟨rfl, rfl, trivial⟩) ?_
                          refine aw_region ?_
                          refine run_s (ss_move rfl) rfl ?_
                          refine run_s (ss_move rfl) rfl ?_
                          refine run_s (ss_neq rfl rfl) rfl ?_
                          refine run_nil ?_
                          refine aw_cond rfl (fun q50 => ?_) (fun q50 => ?_)
                          · replace h := h.1 (of_decide_eq_false (bnot_t q50))
                            refine aw_seq ?_
                            refine aw_gh (gh_to (n := 96) (σ' := [(76, ⟨ints (SquaT a0), []⟩), (75, ⟨orows a0, []⟩), (43, ⟨orows a0, []⟩), (29, ⟨ints (mkI (1 : Int) (SquaT a0)), []⟩), (6, ⟨[.hole], [(0, .ref 26)]⟩), (26, ⟨orows (mkII (1 : Int) a0), []⟩), (22, ⟨ints (SquaT a0), []⟩), (21, ⟨orows a0, []⟩)]) (env' := []) rfl rfl trivial) ?_
                            refine aw_region ?_
                            refine run_s (ss_assign rfl) rfl ?_
                            refine run_nil ?_
                            refine aw_ret ?_
                            exact retAF_mk (retv1 rfl (rv_tmp rfl)) rfl rfl ⟨_, (cle_refl _), _, h, rfl⟩
                          · replace h := h.2 (of_decide_eq_true (bnot_f q50))
                            refine aw_skip ?_
                            refine aw_seq ?_
                            refine aw_gh (gh_to (n := 96) (σ' := [(76, ⟨ints (SquaT a0), []⟩), (75, ⟨orows a0, []⟩), (43, ⟨orows a0, []⟩), (29, ⟨ints (mkI (1 : Int) (SquaT a0)), []⟩), (6, ⟨[.hole], [(0, .ref 26)]⟩), (26, ⟨orows (mkII (1 : Int) a0), []⟩), (22, ⟨ints (SquaT a0), []⟩), (21, ⟨orows a0, []⟩)]) (env' := []) rfl rfl trivial) ?_
                            refine aw_region ?_
                            refine run_s (ss_assign rfl) rfl ?_
                            refine run_nil ?_
                            refine aw_ret ?_
                            exact retAF_mk (retv1 rfl (rv_tmp rfl)) rfl rfl ⟨_, (cle_refl _), _, h, rfl⟩

theorem c_laws_FnExactSquaresOf (a0 : List (List Int)) (hp : huge2 a0) : AF Try.prog 7 [.agg [.lst (rows a0)]] (fun r => r = cb true) :=
  (w_laws_FnExactSquaresOf a0 (fun y0 => y0 = true) (p_laws_FnExactSquaresOf a0 hp)).mono (by rintro r ⟨_, rfl, rfl⟩; rfl)

set_option maxHeartbeats 1000000 in
theorem w_laws_FnExactCycleFault (a0 : List (List Int)) (Q : Bool → Prop) (h : wp_laws_FnExactCycleFault a0 Q) : AF Try.prog 8 [.agg [.lst (rows a0)]] (fun r => ∃ y0, Q y0 ∧ r = cb y0) := by
  refine AF.ofWQ (af_enter (n := 96) Try.func8 rfl (by rfl) rfl (Nat.le_of_ble_eq_true rfl) ?_)
  unfold wp_laws_FnExactCycleFault at h
  refine aw_seq ?_
  refine aw_gh (gh_to (n := 96) (σ' := []) (env' := [(0, .c (.agg [.lst (rows a0)]))]) rfl rfl ⟨rfl, trivial⟩) ?_
  refine aw_region ?_
  refine run_w (ws_boxR rfl (.inl rfl) rfl ⟨rfl, ?_⟩)
  refine run_s (ss_assign rfl) rfl ?_
  refine run_nil ?_
  refine aw_seq ?_
  refine aw_region ?_
  refine run_s (ss_assign rfl) rfl ?_
  refine run_nil ?_
  refine aw_seq ?_
  refine aw_region ?_
  refine run_s (ss_load_struct rfl (Nat.le_of_ble_eq_true rfl)) rfl ?_
  refine run_s (ss_move rfl) rfl ?_
  obtain ⟨q1, h⟩ := h
  refine run_w (ws_call (xs := [.tmp 14, .tmp 15]) (ids := []) rfl rfl rfl rfl (c_laws_szCycleSet a0 1048576 q1) rfl ?_ )
  rintro _ rfl
  refine ⟨rfl, ?_⟩
  refine run_s (ss_assign rfl) rfl ?_
  refine run_nil ?_
  refine aw_seq ?_
  refine aw_seq ?_
  refine aw_region ?_
  refine run_s (ss_move rfl) rfl ?_
  refine run_s (ss_lss rfl rfl) rfl ?_
  refine run_nil ?_
  refine aw_cond rfl (fun q3 => ?_) (fun q3 => ?_)
  · replace h := h.1 (of_decide_eq_true q3)
    refine aw_seq ?_
    refine aw_gh (gh_to (n := 96) (σ' := []) (env' := [(2, .c (cb false))]) rfl rfl ⟨rfl, trivial⟩) ?_
    refine aw_region ?_
    refine run_s (ss_assign rfl) rfl ?_
    refine run_nil ?_
    refine aw_ret ?_
    exact retAF_mk (retv1 rfl (rv_tmp rfl)) rfl rfl ⟨_, (cle_refl _), _, h, rfl⟩
  · replace h := h.2 (of_decide_eq_false q3)
    refine aw_skip ?_
    refine aw_seq ?_
    refine aw_region ?_
    refine run_s (ss_load_struct rfl (Nat.le_of_ble_eq_true rfl)) rfl ?_
    obtain ⟨q4, h⟩ := h
    refine run_w (ws_call (xs := [.tmp 20]) (ids := [21]) rfl rfl rfl rfl (c_laws_toCycleSet a0 q4) rfl ?_ )
    rintro _ rfl
    refine ⟨rfl, ?_⟩
    obtain ⟨q6, h⟩ := h
    refine run_w (ws_callR (xs := [.tmp 21]) (cs := [.agg [.own (orows a0)]]) (ids := [22]) rfl (.inr ⟨rfl, rfl⟩) rfl rfl (fz_cons (fz_agg (fz_cons (fz_own (fz_map (fun _ => (fz_own (fz_map (fun _ => rfl) _))) _)) fz_nil)) fz_nil) (c_spec_CycleFault a0 q6) rfl ?_ )
    rintro _ rfl
    refine ⟨(slf_tup (slf_cons (slf_own (slfL_map (f := ci) (fun _ => rfl) _)) (slf_cons rfl slf_nil))), rfl, ?_⟩
    refine run_s (ss_move rfl) rfl ?_
    refine run_s (ss_extract rfl rfl) rfl ?_
    refine run_s (ss_extract rfl rfl) rfl ?_
    refine run_s (ss_assign rfl) rfl ?_
    refine run_s (ss_assign rfl) rfl ?_
    refine run_nil ?_
    refine aw_seq ?_
    refine aw_region ?_
    refine run_s (ss_load_struct rfl (Nat.le_of_ble_eq_true rfl)) rfl ?_
    obtain ⟨q8, h⟩ := h
    refine run_w (ws_call (xs := [.tmp 25]) (ids := [26]) rfl rfl rfl rfl (c_laws_toCycleSet a0 q8) rfl ?_ )
    rintro _ rfl
    refine ⟨rfl, ?_⟩
    refine run_w (ws_alloc (id := 6) rfl (Nat.le_of_ble_eq_true rfl) ⟨rfl, ?_⟩)
    refine run_w (ws_storeS rfl rfl (Nat.le_of_ble_eq_true rfl) rfl rfl rfl ⟨rfl, ?_⟩)
    refine run_nil ?_
    refine aw_seq ?_
    refine aw_region ?_
    refine run_s (ss_loadS rfl rfl rfl rfl) rfl ?_
    obtain ⟨q10, h⟩ := h
    refine run_w (ws_callR (xs := [.tmp 28]) (cs := [.agg [.own (orows a0)]]) (ids := [29]) rfl (.inr ⟨rfl, rfl⟩) rfl rfl (fz_cons (fz_agg (fz_cons (fz_own (fz_map (fun _ => (fz_own (fz_map (fun _ => rfl) _))) _)) fz_nil)) fz_nil) (c_impl_CycleFault a0 q10) rfl ?_ )
    rintro _ rfl
    refine ⟨(slf_tup (slf_cons (slf_own (slfL_map (f := ci) (fun _ => rfl) _)) (slf_cons rfl slf_nil))), rfl, ?_⟩
    refine run_s (ss_move rfl) rfl ?_
    refine run_s (ss_extract rfl rfl) rfl ?_
    refine run_s (ss_extract rfl rfl) rfl ?_
    refine run_s (ss_assign rfl) rfl ?_
    refine run_s (ss_assign rfl) rfl ?_
    refine run_nil ?_
    refine aw_seq ?_
    refine aw_seq ?_
    refine aw_region ?_
    refine run_s (ss_move rfl) rfl ?_
    refine run_s (ss_move rfl) rfl ?_
    obtain ⟨q12, h⟩ := h
    refine run_w (ws_callR (xs := [.tmp 32, .tmp 33]) (cs := [.own (ints (CycfT a0)), .own (ints (CycfT a0))]) (ids := []) rfl (.inr ⟨rfl, rfl⟩) rfl rfl (fz_cons (fz_own (fz_map (fun _ => rfl) _)) (fz_cons (fz_own (fz_map (fun _ => rfl) _)) fz_nil)) (c_laws_eqInt64S (CycfT a0) (CycfT a0) q12) rfl ?_ )
    rintro _ rfl
    refine ⟨rfl, rfl, ?_⟩
    refine run_s (ss_not rfl) rfl ?_
    refine run_s (ss_move rfl) rfl ?_
    refine run_split (s := 36) rfl (fun q14 => ?_) (fun q14 => ?_)
    · replace h := h.1 (of_decide_eq_false (bnot_t q14))
      refine run_gf rfl rfl q14 rfl ?_
      refine run_gf rfl rfl q14 rfl ?_
      refine run_gf rfl rfl q14 rfl ?_
      refine run_s (ss_pickT rfl q14 rfl) rfl ?_
      refine run_nil ?_
      refine aw_cond rfl (fun q15 => ?_) (fun q15 => ?_)
      · skip
        refine aw_seq ?_
        refine aw_gh (gh_to (n := 96) (σ' := [(29, ⟨ints (CycfT a0), []⟩), (6, ⟨[.hole], [(0, .ref 26)]⟩), (26, ⟨orows a0, []⟩), (22, ⟨ints (CycfT a0), []⟩), (21, ⟨orows a0, []⟩)]) (env' := [(2, .c (cb false))]) rfl rfl ⟨rfl, trivial⟩) ?_
        refine aw_region ?_
        refine run_s (ss_assign rfl) rfl ?_
        refine run_nil ?_
        refine aw_ret ?_
        exact retAF_mk (retv1 rfl (rv_tmp rfl)) rfl rfl ⟨_, (cle_refl _), _, h, rfl⟩
      · cases q15
    · replace h := h.2 (of_decide_eq_true (bnot_f q14))
      refine run_gt rfl rfl q14 ?_
      refine run_s (ss_move rfl) rfl ?_
      refine run_gt rfl rfl q14 ?_
      refine run_s (ss_move rfl) rfl ?_
      refine run_gt rfl rfl q14 ?_
      refine run_s (ss_neq rfl rfl) rfl ?_
      refine run_s (ss_pickF rfl q14 rfl) rfl ?_
      refine run_nil ?_
      refine aw_cond rfl (fun q16 => ?_) (fun q16 => ?_)
      · replace h := h.1 (of_decide_eq_false (bnot_t q16))
        refine aw_seq ?_
        refine aw_gh (gh_to (n := 96) (σ' := [(29, ⟨ints (CycfT a0), []⟩), (6, ⟨[.hole], [(0, .ref 26)]⟩), (26, ⟨orows a0, []⟩), (22, ⟨ints (CycfT a0), []⟩), (21, ⟨orows a0, []⟩)]) (env' := [(2, .c (cb false))]) rfl rfl ⟨rfl, trivial⟩) ?_
        refine aw_region ?_
        refine run_s (ss_assign rfl) rfl ?_
        refine run_nil ?_
        refine aw_ret ?_
        exact retAF_mk (retv1 rfl (rv_tmp rfl)) rfl rfl ⟨_, (cle_refl _), _, h, rfl⟩
      · replace h := h.2 (of_decide_eq_true (bnot_f q16))
        refine aw_skip ?_
        refine aw_seq ?_
        refine aw_seq ?_
        refine aw_gh (gh_to (n := 96) (σ' := [(29, ⟨ints (CycfT a0), []⟩), (6, ⟨[.hole], [(0, .ref 26)]⟩), (26, ⟨orows a0, []⟩), (22, ⟨ints (CycfT a0), []⟩), (21, ⟨orows a0, []⟩)]) (env' := [(1, .c (.ptr [.lst (rows a0)])), (4, .ref 22), (5, .c (ci (CycfE a0))), (6, .cell 6 0), (7, .ref 29), (8, .c (ci (CycfE a0)))]) rfl rfl ⟨rfl, rfl, rfl, rfl, rfl, rfl, trivial⟩) ?_
        refine aw_regionD (kd := kdl [1, 1, 2, 2, 0]) (ord := [0, 1, 2, 3, 4]) [] mixed (by kernel_rfl) ?_
        refine rd_l rfl rfl trivial (ss_loadS rfl rfl rfl rfl) rfl ?_
        refine rd_l rfl rfl trivial (ss_load_struct rfl (Nat.le_of_ble_eq_true rfl)) rfl ?_
        obtain ⟨q17, h⟩ := h
        refine rd_w rfl rfl trivial rfl rfl (ws_call (xs := [.tmp 42]) (ids := [43]) rfl rfl rfl rfl (c_laws_toCycleSet a0 q17) rfl ?_ )
        rintro _ rfl
        refine ⟨rfl, ?_⟩
        obtain ⟨q19, h⟩ := h
        refine rd_w rfl rfl trivial rfl rfl (ws_callR (xs := [.tmp 41, .tmp 43]) (cs := [.agg [.own (orows a0)], .agg [.own (orows a0)]]) (ids := []) rfl (.inr ⟨rfl, rfl⟩) rfl rfl (fz_cons (fz_agg (fz_cons (fz_own (fz_map (fun _ => (fz_own (fz_map (fun _ => rfl) _))) _)) fz_nil)) (fz_cons (fz_agg (fz_cons (fz_own (fz_map (fun _ => (fz_own (fz_map (fun _ => rfl) _))) _)) fz_nil)) fz_nil)) (c_laws_eqCycleSet a0 a0 q19) rfl ?_ )
        rintro _ rfl
        refine ⟨rfl, rfl, ?_⟩
        refine rd_s rfl rfl trivial (ss_not rfl) rfl ?_
        refine rd_nil ?_
        refine aw_cond rfl (fun q21 => ?_) (fun q21 => ?_)
        · replace h := h.1 (of_decide_eq_false (bnot_t q21))
          refine aw_seq ?_
          refine aw_gh (gh_to (n := 96) (σ' := [(43, ⟨orows a0, []⟩), (29, ⟨ints (CycfT a0), []⟩), (6, ⟨[.hole], [(0, .ref 26)]⟩), (26, ⟨orows a0, []⟩), (22, ⟨ints (CycfT a0), []⟩), (21, ⟨orows a0, []⟩)]) (env' := []) rfl rfl trivial) ?_
          refine aw_region ?_
          refine run_s (ss_assign rfl) rfl ?_
          refine run_nil ?_
          refine aw_ret ?_
          exact retAF_mk (retv1 rfl (rv_tmp rfl)) rfl rfl ⟨_, (cle_refl _), _, h, rfl⟩
        · replace h := h.2 (of_decide_eq_true (bnot_f q21))
          refine aw_skip ?_
          refine aw_seq ?_
          refine aw_region ?_
          refine run_s (ss_assign rfl) rfl ?_
          refine run_nil ?_
          refine aw_seq ?_
          refine aw_region ?_
          refine run_s (ss_loadS rfl rfl rfl rfl) rfl ?_
          refine run_s (ss_move rfl) rfl ?_
          obtain ⟨q22, h⟩ := h
          refine run_w (ws_callM (xs := [.tmp 46, .tmp 47]) (cs := [.agg [.own (orows a0)], ci 1]) (ids := []) rfl (.inr ⟨rfl, rfl⟩) rfl rfl rfl (c_laws_markCycleSet a0 1 q22) rfl ?_ )
          rintro _ _ ⟨rfl, rfl⟩
          refine ⟨rfl, rfl, ?_⟩
          refine run_s (ss_assign rfl) rfl ?_
          refine run_nil ?_
          refine aw_seq ?_
          refine aw_seq ?_
          refine aw_region ?_
          refine run_s (ss_move rfl) rfl ?_
          refine run_s (ss_lss rfl rfl) rfl ?_
          refine run_s (ss_move rfl) rfl ?_
          refine run_split (s := 51) rfl (fun q24 => ?_) (fun q24 => ?_)
          · replace h := h.1 (of_decide_eq_true q24)
            refine run_gf rfl rfl q24 rfl ?_
            refine run_gf rfl rfl q24 rfl ?_
            refine run_gf rfl rfl q24 rfl ?_
            refine run_gf rfl rfl q24 rfl ?_
            refine run_s (ss_pickT rfl q24 rfl) rfl ?_
            refine run_s (ss_move rfl) rfl ?_
            refine run_split (s := 57) rfl (fun q25 => ?_) (fun q25 => ?_)
            · skip
              refine run_gf rfl rfl q25 rfl ?_
              refine run_gf rfl rfl q25 rfl ?_
              refine run_gf rfl rfl q25 rfl ?_
              refine run_s (ss_pickT rfl q25 rfl) rfl ?_
              refine run_nil ?_
              refine aw_cond rfl (fun q26 => ?_) (fun q26 => ?_)
              · skip
                refine aw_seq ?_
                refine aw_gh (gh_to (n := 96) (σ' := [(43, ⟨orows a0, []⟩), (29, ⟨ints (CycfT a0), []⟩), (6, ⟨[.hole], [(0, .ref 26)]⟩), (26, ⟨orows (mkII (1 : Int) a0), []⟩), (22, ⟨ints (CycfT a0), []⟩), (21, ⟨orows a0, []⟩)]) (env' := []) rfl rfl trivial) ?_
                refine aw_region ?_
                refine run_s (ss_assign rfl) rfl ?_
                refine run_nil ?_
                refine aw_ret ?_
                exact retAF_mk (retv1 rfl (rv_tmp rfl)) rfl rfl ⟨_, (cle_refl _), _, h, rfl⟩
              · cases q26
            · cases q25
          · replace h := h.2 (of_decide_eq_false q24)
            refine run_gt rfl rfl q24 ?_
            refine run_s (ss_move rfl) rfl ?_
            refine run_gt rfl rfl q24 ?_
            refine run_s (ss_move rfl) rfl ?_
            refine run_gt rfl rfl q24 ?_
            obtain ⟨q27, h⟩ := h
            refine run_w (ws_callR (xs := [.tmp 52, .tmp 53]) (cs := [.own (ints (CycfT a0)), .own (ints (CycfT a0))]) (ids := []) rfl (.inr ⟨rfl, rfl⟩) rfl rfl (fz_cons (fz_own (fz_map (fun _ => rfl) _)) (fz_cons (fz_own (fz_map (fun _ => rfl) _)) fz_nil)) (c_laws_eqInt64S (CycfT a0) (CycfT a0) q27) rfl ?_ )
            rintro _ rfl
            refine ⟨rfl, rfl, ?_⟩
            refine run_gt rfl rfl q24 ?_
            refine run_s (ss_not rfl) rfl ?_
            refine run_s (ss_pickF rfl q24 rfl) rfl ?_
            refine run_s (ss_move rfl) rfl ?_
            refine run_split (s := 57) rfl (fun q29 => ?_) (fun q29 => ?_)
            · replace h := h.1 (of_decide_eq_false (bnot_t q29))
              refine run_gf rfl rfl q29 rfl ?_
              refine run_gf rfl rfl q29 rfl ?_
              refine run_gf rfl rfl q29 rfl ?_
              refine run_s (ss_pickT rfl q29 rfl) rfl ?_
              refine run_nil ?_
              refine aw_cond rfl (fun q30 => ?_) (fun q30 => ?_)
              · skip
                refine aw_seq ?_
                refine aw_gh (gh_to (n := 96) (σ' := [(43, ⟨orows a0, []⟩), (29, ⟨ints (CycfT a0), []⟩), (6, ⟨[.hole], [(0, .ref 26)]⟩), (26, ⟨orows (mkII (1 : Int) a0), []⟩), (22, ⟨ints (CycfT a0), []⟩), (21, ⟨orows a0, []⟩)]) (env' := []) rfl rfl trivial) ?_
                refine aw_region ?_
                refine run_s (ss_assign rfl) rfl ?_
                refine run_nil ?_
                refine aw_ret ?_
                exact retAF_mk (retv1 rfl (rv_tmp rfl)) rfl rfl ⟨_, (cle_refl _), _, h, rfl⟩
              · cases q30
            · replace h := h.2 (of_decide_eq_true (bnot_f q29))
              refine run_gt rfl rfl q29 ?_
              refine run_s (ss_move rfl) rfl ?_
              refine run_gt rfl rfl q29 ?_
              refine run_s (ss_move rfl) rfl ?_
              refine run_gt rfl rfl q29 ?_
              refine run_s (ss_neq rfl rfl) rfl ?_
              refine run_s (ss_pickF rfl q29 rfl) rfl ?_
              refine run_nil ?_
              refine aw_cond rfl (fun q31 => ?_) (fun q31 => ?_)
              · replace h := h.1 (of_decide_eq_false (bnot_t q31))
                refine aw_seq ?_
                refine aw_gh (gh_to (n := 96) (σ' := [(43, ⟨orows a0, []⟩), (29, ⟨ints (CycfT a0), []⟩), (6, ⟨[.hole], [(0, .ref 26)]⟩), (26, ⟨orows (mkII (1 : Int) a0), []⟩), (22, ⟨ints (CycfT a0), []⟩), (21, ⟨orows a0, []⟩)]) (env' := []) rfl rfl trivial) ?_
                refine aw_region ?_
                refine run_s (ss_assign rfl) rfl ?_
                refine run_nil ?_
                refine aw_ret ?_
                exact retAF_mk (retv1 rfl (rv_tmp rfl)) rfl rfl ⟨_, (cle_refl _), _, h, rfl⟩
              · replace h := h.2 (of_decide_eq_true (bnot_f q31))
                refine aw_skip ?_
                refine aw_seq ?_
                refine aw_gh (gh_to (n := 96) (σ' := [(43, ⟨orows a0, []⟩), (29, ⟨ints (CycfT a0), []⟩), (6, ⟨[.hole], [(0, .ref 26)]⟩), (26, ⟨orows (mkII (1 : Int) a0), []⟩), (22, ⟨ints (CycfT a0), []⟩), (21, ⟨orows a0, []⟩)]) (env' := [(1, .c (.ptr [.lst (rows a0)])), (4, .ref 22), (5, .c (ci (CycfE a0))), (7, .ref 29)]) rfl rfl ⟨rfl, rfl, rfl, rfl, trivial⟩) ?_
                refine aw_region ?_
                refine run_s (ss_assign rfl) rfl ?_
                refine run_nil ?_
                refine aw_seq ?_
                refine aw_region ?_
                refine run_s (ss_move rfl) rfl ?_
                refine run_s (ss_move rfl) rfl ?_
                obtain ⟨q32, h⟩ := h
                refine run_w (ws_callM (xs := [.tmp 62, .tmp 63]) (cs := [.own (ints (CycfT a0)), ci 1]) (ids := []) rfl (.inr ⟨rfl, rfl⟩) rfl rfl rfl (c_laws_markInt64S (CycfT a0) 1 q32) rfl ?_ )
                rintro _ _ ⟨rfl, rfl⟩
                refine ⟨rfl, rfl, ?_⟩
                refine run_s (ss_assign rfl) rfl ?_
                refine run_nil ?_
                refine aw_seq ?_
                refine aw_region ?_
                refine run_s (ss_assign rfl) rfl ?_
                refine run_nil ?_
                refine aw_seq ?_
                refine aw_region ?_
                refine run_s (ss_move rfl) rfl ?_
                refine run_s (ss_move rfl) rfl ?_
                obtain ⟨q34, h⟩ := h
                refine run_w (ws_callR (xs := [.tmp 65, .tmp 66]) (cs := [.own (ints (mkI (1 : Int) (CycfT a0))), ci 1]) (ids := []) rfl (.inr ⟨rfl, rfl⟩) rfl rfl (fz_cons (fz_own (fz_map (fun _ => rfl) _)) (fz_cons rfl fz_nil)) (c_laws_heldInt64S (mkI (1 : Int) (CycfT a0)) 1 q34) rfl ?_ )
                rintro _ rfl
                refine ⟨rfl, rfl, ?_⟩
                refine run_s (ss_assign rfl) rfl ?_
                refine run_nil ?_
                refine aw_seq ?_
                refine aw_seq ?_
                refine aw_region ?_
                refine run_s (ss_move rfl) rfl ?_
                refine run_s (ss_lss rfl rfl) rfl ?_
                refine run_nil ?_
                refine aw_cond rfl (fun q36 => ?_) (fun q36 => ?_)
                · replace h := h.1 (of_decide_eq_true q36)
                  refine aw_seq ?_
                  refine aw_gh (gh_to (n := 96) (σ' := [(43, ⟨orows a0, []⟩), (29, ⟨ints (mkI (1 : Int) (CycfT a0)), []⟩), (6, ⟨[.hole], [(0, .ref 26)]⟩), (26, ⟨orows (mkII (1 : Int) a0), []⟩), (22, ⟨ints (CycfT a0), []⟩), (21, ⟨orows a0, []⟩)]) (env' := []) rfl rfl trivial) ?_
                  refine aw_region ?_
                  refine run_s (ss_assign rfl) rfl ?_
                  refine run_nil ?_
                  refine aw_ret ?_
                  exact retAF_mk (retv1 rfl (rv_tmp rfl)) rfl rfl ⟨_, (cle_refl _), _, h, rfl⟩
                · replace h := h.2 (of_decide_eq_false q36)
                  refine aw_skip ?_
                  refine aw_seq ?_
                  refine aw_seq ?_
                  refine aw_region ?_
                  refine run_s (ss_move rfl) rfl ?_
                  refine run_s (ss_move rfl) rfl ?_
                  refine run_s (ss_neq rfl rfl) rfl ?_
                  refine run_nil ?_
                  refine aw_cond rfl (fun q37 => ?_) (fun q37 => ?_)
                  · replace h := h.1 (of_decide_eq_false (bnot_t q37))
                    refine aw_seq ?_
                    refine aw_gh (gh_to (n := 96) (σ' := [(43, ⟨orows a0, []⟩), (29, ⟨ints (mkI (1 : Int) (CycfT a0)), []⟩), (6, ⟨[.hole], [(0, .ref 26)]⟩), (26, ⟨orows (mkII (1 : Int) a0), []⟩), (22, ⟨ints (CycfT a0), []⟩), (21, ⟨orows a0, []⟩)]) (env' := []) rfl rfl trivial) ?_
                    refine aw_region ?_
                    refine run_s (ss_assign rfl) rfl ?_
                    refine run_nil ?_
                    refine aw_ret ?_
                    exact retAF_mk (retv1 rfl (rv_tmp rfl)) rfl rfl ⟨_, (cle_refl _), _, h, rfl⟩
                  · replace h := h.2 (of_decide_eq_true (bnot_f q37))
                    refine aw_skip ?_
                    refine aw_seq ?_
                    refine aw_region ?_
                    refine run_s (ss_load_struct rfl (Nat.le_of_ble_eq_true rfl)) rfl ?_
                    obtain ⟨q38, h⟩ := h
                    refine run_w (ws_call (xs := [.tmp 74]) (ids := [75]) rfl rfl rfl rfl (c_laws_toCycleSet a0 q38) rfl ?_ )
                    rintro _ rfl
                    refine ⟨rfl, ?_⟩
                    obtain ⟨q40, h⟩ := h
                    refine run_w (ws_callR (xs := [.tmp 75]) (cs := [.agg [.own (orows a0)]]) (ids := [76]) rfl (.inr ⟨rfl, rfl⟩) rfl rfl (fz_cons (fz_agg (fz_cons (fz_own (fz_map (fun _ => (fz_own (fz_map (fun _ => rfl) _))) _)) fz_nil)) fz_nil) (c_impl_CycleFault a0 q40) rfl ?_ )
                    rintro _ rfl
                    refine ⟨(slf_tup (slf_cons (slf_own (slfL_map (f := ci) (fun _ => rfl) _)) (slf_cons rfl slf_nil))), rfl, ?_⟩
                    refine run_s (ss_move rfl) rfl ?_
                    refine run_s (ss_extract rfl rfl) rfl ?_
                    refine run_s (ss_extract rfl rfl) rfl ?_
                    refine run_s (ss_assign rfl) rfl ?_
                    refine run_s (ss_assign rfl) rfl ?_
                    refine run_nil ?_
                    refine aw_seq ?_
                    refine aw_seq ?_
                    refine aw_gh (gh_to (n := 96) (σ' := [(76, ⟨ints (CycfT a0), []⟩), (75, ⟨orows a0, []⟩), (43, ⟨orows a0, []⟩), (29, ⟨ints (mkI (1 : Int) (CycfT a0)), []⟩), (6, ⟨[.hole], [(0, .ref 26)]⟩), (26, ⟨orows (mkII (1 : Int) a0), []⟩), (22, ⟨ints (CycfT a0), []⟩), (21, ⟨orows a0, []⟩)]) (env' := [(4, .ref 22), (5, .c (ci (CycfE a0))), (7, .ref 29), (10, .c (ci ((1 : Int) + ((CycfT a0).length : Int)))), (12, .ref 76), (13, .c (ci (CycfE a0)))]) rfl rfl ⟨rfl, rfl, rfl, rfl, rfl, rfl, trivial⟩) ?_
                    refine aw_region ?_
                    refine run_s (ss_move rfl) rfl ?_
                    refine run_s (ss_move rfl) rfl ?_
                    obtain ⟨q42, h⟩ := h
                    refine run_w (ws_callR (xs := [.tmp 79, .tmp 80]) (cs := [.own (ints (CycfT a0)), .own (ints (CycfT a0))]) (ids := []) rfl (.inr ⟨rfl, rfl⟩) rfl rfl (fz_cons (fz_own (fz_map (fun _ => rfl) _)) (fz_cons (fz_own (fz_map (fun _ => rfl) _)) fz_nil)) (c_laws_eqInt64S (CycfT a0) (CycfT a0) q42) rfl ?_ )
                    rintro _ rfl
                    refine ⟨rfl, rfl, ?_⟩
                    refine run_s (ss_not rfl) rfl ?_
                    refine run_s (ss_move rfl) rfl ?_
                    refine run_split (s := 83) rfl (fun q44 => ?_) (fun q44 => ?_)
                    · replace h := h.1 (of_decide_eq_false (bnot_t q44))
                      refine run_gf rfl rfl q44 rfl ?_
                      refine run_gf rfl rfl q44 rfl ?_
                      refine run_gf rfl rfl q44 rfl ?_
                      refine run_s (ss_pickT rfl q44 rfl) rfl ?_
                      refine run_nil ?_
                      refine aw_cond rfl (fun q45 => ?_) (fun q45 => ?_)
                      · skip
                        refine aw_seq ?_
                        refine aw_gh (gh_to (n := 96) (σ' := [(76, ⟨ints (CycfT a0), []⟩), (75, ⟨orows a0, []⟩), (43, ⟨orows a0, []⟩), (29, ⟨ints (mkI (1 : Int) (CycfT a0)), []⟩), (6, ⟨[.hole], [(0, .ref 26)]⟩), (26, ⟨orows (mkII (1 : Int) a0), []⟩), (22, ⟨ints (CycfT a0), []⟩), (21, ⟨orows a0, []⟩)]) (env' := []) rfl rfl trivial) ?_
                        refine aw_region ?_
                        refine run_s (ss_assign rfl) rfl ?_
                        refine run_nil ?_
                        refine aw_ret ?_
                        exact retAF_mk (retv1 rfl (rv_tmp rfl)) rfl rfl ⟨_, (cle_refl _), _, h, rfl⟩
                      · cases q45
                    · replace h := h.2 (of_decide_eq_true (bnot_f q44))
                      refine run_gt rfl rfl q44 ?_
                      refine run_s (ss_move rfl) rfl ?_
                      refine run_gt rfl rfl q44 ?_
                      refine run_s (ss_move rfl) rfl ?_
                      refine run_gt rfl rfl q44 ?_
                      refine run_s (ss_neq rfl rfl) rfl ?_
                      refine run_s (ss_pickF rfl q44 rfl) rfl ?_
                      refine run_nil ?_
                      refine aw_cond rfl (fun q46 => ?_) (fun q46 => ?_)
                      · replace h := h.1 (of_decide_eq_false (bnot_t q46))
                        refine aw_seq ?_
                        refine aw_gh (gh_to (n := 96) (σ' := [(76, ⟨ints (CycfT a0), []⟩), (75, ⟨orows a0, []⟩), (43, ⟨orows a0, []⟩), (29, ⟨ints (mkI (1 : Int) (CycfT a0)), []⟩), (6, ⟨[.hole], [(0, .ref 26)]⟩), (26, ⟨orows (mkII (1 : Int) a0), []⟩), (22, ⟨ints (CycfT a0), []⟩), (21, ⟨orows a0, []⟩)]) (env' := []) rfl rfl trivial) ?_
                        refine aw_region ?_
                        refine run_s (ss_assign rfl) rfl ?_
                        refine run_nil ?_
                        refine aw_ret ?_
                        exact retAF_mk (retv1 rfl (rv_tmp rfl)) rfl rfl ⟨_, (cle_refl _), _, h, rfl⟩
                      · replace h := h.2 (of_decide_eq_true (bnot_f q46))
                        refine aw_skip ?_
                        refine aw_seq ?_
                        refine aw_gh (gh_to (n := 96) (σ' := [(76, ⟨ints (CycfT a0), []⟩), (75, ⟨orows a0, []⟩), (43, ⟨orows a0, []⟩), (29, ⟨ints (mkI (1 : Int) (CycfT a0)), []⟩), (6, ⟨[.hole], [(0, .ref 26)]⟩), (26, ⟨orows (mkII (1 : Int) a0), []⟩), (22, ⟨ints (CycfT a0), []⟩), (21, ⟨orows a0, []⟩)]) (env' := [(7, .ref 29), (10, .c (ci ((1 : Int) + ((CycfT a0).length : Int))))]) rfl rfl ⟨rfl, rfl, trivial⟩) ?_
                        refine aw_region ?_
                        refine run_s (ss_assign rfl) rfl ?_
                        refine run_nil ?_
                        refine aw_seq ?_
                        refine aw_region ?_
                        refine run_s (ss_move rfl) rfl ?_
                        refine run_s (ss_move rfl) rfl ?_
                        obtain ⟨q47, h⟩ := h
                        refine run_w (ws_callR (xs := [.tmp 88, .tmp 89]) (cs := [.own (ints (mkI (1 : Int) (CycfT a0))), ci 1]) (ids := []) rfl (.inr ⟨rfl, rfl⟩) rfl rfl (fz_cons (fz_own (fz_map (fun _ => rfl) _)) (fz_cons rfl fz_nil)) (c_laws_heldInt64S (mkI (1 : Int) (CycfT a0)) 1 q47) rfl ?_ )
                        rintro _ rfl
                        refine ⟨rfl, rfl, ?_⟩
                        refine run_s (ss_assign rfl) rfl ?_
                        refine run_nil ?_
                        refine aw_seq ?_
                        refine aw_seq ?_
                        refine aw_region ?_
                        refine run_s (ss_move rfl) rfl ?_
                        refine run_s (ss_lss rfl rfl) rfl ?_
                        refine run_nil ?_
                        refine aw_cond rfl (fun q49 => ?_) (fun q49 => ?_)
                        · replace h := h.1 (of_decide_eq_true q49)
                          refine aw_seq ?_
                          refine aw_gh (gh_to (n := 96) (σ' := [(76, ⟨ints (CycfT a0), []⟩), (75, ⟨orows a0, []⟩), (43, ⟨orows a0, []⟩), (29, ⟨ints (mkI (1 : Int) (CycfT a0)), []⟩), (6, ⟨[.hole], [(0, .ref 26)]⟩), (26, ⟨orows (mkII (1 : Int) a0), []⟩), (22, ⟨ints (CycfT a0), []⟩), (21, ⟨orows a0, []⟩)]) (env' := []) rfl rfl trivial) ?_
                          refine aw_region ?_
                          refine run_s (ss_assign rfl) rfl ?_
                          refine run_nil ?_
                          refine aw_ret ?_
                          exact retAF_mk (retv1 rfl (rv_tmp rfl)) rfl rfl ⟨_, (cle_refl _), _, h, rfl⟩
                        · replace h := h.2 (of_decide_eq_false q49)
                          refine aw_skip ?_
                          refine aw_seq ?_
                          refine aw_seq ?_
                          refine aw_gh (gh_to (n := 96) (σ' := [(76, ⟨ints (CycfT a0), []⟩), (75, ⟨orows a0, []⟩), (43, ⟨orows a0, []⟩), (29, ⟨ints (mkI (1 : Int) (CycfT a0)), []⟩), (6, ⟨[.hole], [(0, .ref 26)]⟩), (26, ⟨orows (mkII (1 : Int) a0), []⟩), (22, ⟨ints (CycfT a0), []⟩), (21, ⟨orows a0, []⟩)]) (env' := [(10, .c (ci ((1 : Int) + ((CycfT a0).length : Int)))), (11, .c (ci (heI (1 : Int) (mkI (1 : Int) (CycfT a0)))))]) rfl rfl ⟨rfl, rfl, trivial⟩) ?_
                          refine aw_region ?_
                          refine run_s (ss_move rfl) rfl ?_
                          refine run_s (ss_move rfl) rfl ?_
                          refine run_s (ss_neq rfl rfl) rfl ?_
                          refine run_nil ?_
                          refine aw_cond rfl (fun q50 => ?_) (fun q50 => ?_)
                          · replace h := h.1 (of_decide_eq_false (bnot_t q50))
                            refine aw_seq ?_
                            refine aw_gh (gh_to (n := 96) (σ' := [(76, ⟨ints (CycfT a0), []⟩), (75, ⟨orows a0, []⟩), (43, ⟨orows a0, []⟩), (29, ⟨ints (mkI (1 : Int) (CycfT a0)), []⟩), (6, ⟨[.hole], [(0, .ref 26)]⟩), (26, ⟨orows (mkII (1 : Int) a0), []⟩), (22, ⟨ints (CycfT a0), []⟩), (21, ⟨orows a0, []⟩)]) (env' := []) rfl rfl trivial) ?_
                            refine aw_region ?_
                            refine run_s (ss_assign rfl) rfl ?_
                            refine run_nil ?_
                            refine aw_ret ?_
                            exact retAF_mk (retv1 rfl (rv_tmp rfl)) rfl rfl ⟨_, (cle_refl _), _, h, rfl⟩
                          · replace h := h.2 (of_decide_eq_true (bnot_f q50))
                            refine aw_skip ?_
                            refine aw_seq ?_
                            refine aw_gh (gh_to (n := 96) (σ' := [(76, ⟨ints (CycfT a0), []⟩), (75, ⟨orows a0, []⟩), (43, ⟨orows a0, []⟩), (29, ⟨ints (mkI (1 : Int) (CycfT a0)), []⟩), (6, ⟨[.hole], [(0, .ref 26)]⟩), (26, ⟨orows (mkII (1 : Int) a0), []⟩), (22, ⟨ints (CycfT a0), []⟩), (21, ⟨orows a0, []⟩)]) (env' := []) rfl rfl trivial) ?_
                            refine aw_region ?_
                            refine run_s (ss_assign rfl) rfl ?_
                            refine run_nil ?_
                            refine aw_ret ?_
                            exact retAF_mk (retv1 rfl (rv_tmp rfl)) rfl rfl ⟨_, (cle_refl _), _, h, rfl⟩

theorem c_laws_FnExactCycleFault (a0 : List (List Int)) (hp : huge2 a0) : AF Try.prog 8 [.agg [.lst (rows a0)]] (fun r => r = cb true) :=
  (w_laws_FnExactCycleFault a0 (fun y0 => y0 = true) (p_laws_FnExactCycleFault a0 hp)).mono (by rintro r ⟨_, rfl, rfl⟩; rfl)

end Go.Proofs.Ytkekjlgidlbbcaa

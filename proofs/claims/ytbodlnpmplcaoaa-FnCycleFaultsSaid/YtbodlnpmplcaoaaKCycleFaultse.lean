/- Contracts of functions that the law FnCycleFaults reaches: conditions, plain proofs, walks; no condition. -/
import Derived.Test.YtbodlnpmplcaoaaKCycleFaultsd
namespace Go.Proofs.Ytbodlnpmplcaoaa

set_option maxRecDepth 100000 in
set_option maxHeartbeats 4000000 in
theorem w_spec_l02Any (s1 : List Int) (s2 : Int) (s3 : Int) (most : Int) (Q : List (List Int) → List (List Int) → List Int → Int → Int → Prop) (hrec : ∀ (s1' : List Int) (s2' : Int) (s3' : Int) (most' : Int), most'.toNat < most.toNat → (okS s1' s2' s3' ∧ 1 ≤ most' ∧ most' ≤ 12) → AM Try.prog 198 [.obox [.lst (bys s1'), ci s2', cu s3'], ci most'] (fun R_ O_ => ∃ y0 y1 w0 w1 w2, ((pairM most' y0 y1) ∧ w0 = s1' ∧ okS s1' w1 w2) ∧ R_ = .agg [.own (orows y0), .own (orows y1)] ∧ O_ = [.obox [.lst (bys w0), ci w1, cu w2], ci most'])) (h : wp_spec_l02Any s1 s2 s3 most Q) : AM Try.prog 198 [.obox [.lst (bys s1), ci s2, cu s3], ci most] (fun R_ O_ => ∃ y0 y1 w0 w1 w2, Q y0 y1 w0 w1 w2 ∧ R_ = .agg [.own (orows y0), .own (orows y1)] ∧ O_ = [.obox [.lst (bys w0), ci w1, cu w2], ci most]) := by
  refine am_enter (n := 88) (m := 2) Try.func198 rfl (by rfl) rfl rfl (Nat.le_of_ble_eq_true rfl) [800] rfl ?_
  unfold wp_spec_l02Any at h
  refine aw_seq ?_
  refine aw_gh (gh_to (n := 88) (σ' := [(800, ⟨[.lst (bys s1), ci s2, cu s3], []⟩)]) (env' := [(0, .cell 800 0), (1, .c (ci most)), (88, .cell 800 0), (89, .c (ci most))]) rfl rfl ⟨rfl, rfl, rfl, rfl, trivial⟩) ?_
  refine aw_region ?_
  refine run_w (ws_alloc (id := 4) rfl (Nat.le_of_ble_eq_true rfl) ⟨rfl, ?_⟩)
  refine run_nil ?_
  refine aw_seq ?_
  refine aw_region ?_
  refine run_s (ss_move rfl) rfl ?_
  refine run_s (ss_move rfl) rfl ?_
  obtain ⟨q1, h⟩ := h
  refine run_w (ws_callM (xs := [.tmp 9, .tmp 10]) (cs := [.obox [.lst (bys s1), ci s2, cu s3], ci most]) (ids := []) rfl (.inr ⟨rfl, rfl⟩) rfl rfl rfl (c_spec_l01Next s1 s2 s3 most q1) rfl rfl ?_ )
  rintro _ _ ⟨r1_0, o1_0, o1_1, o1_2, q2, rfl, rfl⟩
  replace h := h r1_0 o1_0 o1_1 o1_2 q2
  refine ⟨rfl, rfl, ?_⟩
  obtain ⟨q3, h⟩ := h
  refine run_s (ss_add rfl rfl q3) rfl ?_
  refine run_s (ss_assign rfl) rfl ?_
  refine run_nil ?_
  refine aw_seq ?_
  refine aw_seq ?_
  refine aw_region ?_
  refine run_s (ss_move rfl) rfl ?_
  obtain ⟨q4, h⟩ := h
  refine run_w (ws_callM (xs := [.tmp 13, .const (.int .i64 (8))]) (cs := [.obox [.lst (bys o1_0), ci o1_1, cu o1_2], ci 8]) (ids := []) rfl (.inr ⟨rfl, rfl⟩) rfl rfl rfl (c_spec_l01Next o1_0 o1_1 o1_2 8 q4) rfl rfl ?_ )
  rintro _ _ ⟨r2_0, o2_0, o2_1, o2_2, q5, rfl, rfl⟩
  replace h := h r2_0 o2_0 o2_1 o2_2 q5
  refine ⟨rfl, rfl, ?_⟩
  refine run_nil ?_
  refine aw_block ?_
  refine aw_seq ?_
  refine aw_region ?_
  refine run_s (ss_eql rfl rfl) rfl ?_
  refine run_s (ss_assign rfl) rfl ?_
  refine run_nil ?_
  refine aw_cond rfl (fun q6 => ?_) (fun q6 => ?_)
  ·replace h := h.1 (of_decide_eq_true q6)
   refine aw_seq ?_
   refine aw_gh (gh_to (n := 88) (σ' := [(4, ⟨[cnil, cnil], []⟩), (800, ⟨[.lst (bys o2_0), ci o2_1, cu o2_2], []⟩)]) (env' := [(4, .cell 4 0), (5, .c (ci (1 + r1_0))), (88, .cell 800 0), (89, .c (ci most))]) rfl rfl ⟨rfl, rfl, rfl, rfl, trivial⟩) ?_
   refine aw_region ?_
   refine run_s (ss_move rfl) rfl ?_
   obtain ⟨q7, h⟩ := h
   refine run_w (ws_call (xs := [.tmp 17]) (ids := [18, 1001]) rfl rfl rfl rfl (c_spec_l02Flip (1 + r1_0) q7) rfl ?_ )
   rintro _ rfl
   refine ⟨rfl, ?_⟩
   refine run_w (ws_storeN rfl rfl (Nat.le_of_ble_eq_true rfl) rfl rfl rfl rfl ⟨rfl, ?_⟩)
   refine run_nil ?_
   refine aw_ret ?_
   exact retAM_mk (retv1 rfl (rv_struct rfl rfl rfl)) rfl rfl rfl ⟨_, _, _, _, _, h, rfl, rfl⟩
  ·replace h := h.2 (of_decide_eq_false q6)
   refine aw_seq ?_
   refine aw_gh (gh_to (n := 88) (σ' := [(4, ⟨[cnil, cnil], []⟩), (800, ⟨[.lst (bys o2_0), ci o2_1, cu o2_2], []⟩)]) (env' := [(0, .cell 800 0), (1, .c (ci most)), (4, .cell 4 0), (5, .c (ci (1 + r1_0))), (14, .c (ci r2_0)), (88, .cell 800 0), (89, .c (ci most))]) rfl rfl ⟨rfl, rfl, rfl, rfl, rfl, rfl, rfl, trivial⟩) ?_
   refine aw_region ?_
   refine run_s (ss_eql rfl rfl) rfl ?_
   refine run_s (ss_assign rfl) rfl ?_
   refine run_nil ?_
   refine aw_cond rfl (fun q9 => ?_) (fun q9 => ?_)
   ·replace h := h.1 (of_decide_eq_true q9)
    refine aw_seq ?_
    refine aw_gh (gh_to (n := 88) (σ' := [(4, ⟨[cnil, cnil], []⟩), (800, ⟨[.lst (bys o2_0), ci o2_1, cu o2_2], []⟩)]) (env' := [(4, .cell 4 0), (5, .c (ci (1 + r1_0))), (88, .cell 800 0), (89, .c (ci most))]) rfl rfl ⟨rfl, rfl, rfl, rfl, trivial⟩) ?_
    refine aw_region ?_
    refine run_s (ss_move rfl) rfl ?_
    obtain ⟨q10, h⟩ := h
    refine run_w (ws_call (xs := [.tmp 21]) (ids := [22, 1002]) rfl rfl rfl rfl (c_spec_l02Polygon (1 + r1_0) q10) rfl ?_ )
    rintro _ rfl
    refine ⟨rfl, ?_⟩
    refine run_w (ws_storeN rfl rfl (Nat.le_of_ble_eq_true rfl) rfl rfl rfl rfl ⟨rfl, ?_⟩)
    refine run_nil ?_
    refine aw_ret ?_
    exact retAM_mk (retv1 rfl (rv_struct rfl rfl rfl)) rfl rfl rfl ⟨_, _, _, _, _, h, rfl, rfl⟩
   ·replace h := h.2 (of_decide_eq_false q9)
    refine aw_seq ?_
    refine aw_region ?_
    refine run_s (ss_eql rfl rfl) rfl ?_
    refine run_s (ss_assign rfl) rfl ?_
    refine run_nil ?_
    refine aw_cond rfl (fun q12 => ?_) (fun q12 => ?_)
    ·replace h := h.1 (of_decide_eq_true q12)
     refine aw_seq ?_
     refine aw_region ?_
     refine run_s (ss_move rfl) rfl ?_
     refine run_s (ss_geq rfl rfl) rfl ?_
     refine run_s (ss_move rfl) rfl ?_
     refine run_split (s := 27) rfl (fun q13 => ?_) (fun q13 => ?_)
     ·replace h := h.1 (of_decide_eq_true q13)
      refine run_gt rfl rfl q13 ?_
      refine run_s (ss_move rfl) rfl ?_
      refine run_gt rfl rfl q13 ?_
      obtain ⟨q14, h⟩ := h
      refine run_s (ss_rem rfl rfl q14) rfl ?_
      refine run_gt rfl rfl q13 ?_
      refine run_s (ss_eql rfl rfl) rfl ?_
      refine run_s (ss_pickT rfl q13 rfl) rfl ?_
      refine run_nil ?_
      refine aw_cond rfl (fun q15 => ?_) (fun q15 => ?_)
      ·replace h := h.1 (of_decide_eq_true q15)
       refine aw_seq ?_
       refine aw_gh (gh_to (n := 88) (σ' := [(4, ⟨[cnil, cnil], []⟩), (800, ⟨[.lst (bys o2_0), ci o2_1, cu o2_2], []⟩)]) (env' := [(0, .cell 800 0), (4, .cell 4 0), (5, .c (ci (1 + r1_0))), (88, .cell 800 0), (89, .c (ci most))]) rfl rfl ⟨rfl, rfl, rfl, rfl, rfl, trivial⟩) ?_
       refine aw_region ?_
       refine run_s (ss_move rfl) rfl ?_
       refine run_s (ss_move rfl) rfl ?_
       obtain ⟨q16, h⟩ := h
       refine run_s (ss_quo rfl rfl q16) rfl ?_
       obtain ⟨q17, h⟩ := h
       refine run_w (ws_callM (xs := [.tmp 32, .tmp 34]) (cs := [.obox [.lst (bys o2_0), ci o2_1, cu o2_2], ci ((1 + r1_0) / 2)]) (ids := [35, 1003]) rfl (.inr ⟨rfl, rfl⟩) rfl rfl rfl (c_spec_l02Twisted o2_0 o2_1 o2_2 ((1 + r1_0) / 2) q17) rfl rfl ?_ )
       rintro _ _ ⟨r3_0, r3_1, o3_0, o3_1, o3_2, q18, rfl, rfl⟩
       replace h := h r3_0 r3_1 o3_0 o3_1 o3_2 q18
       refine ⟨rfl, rfl, ?_⟩
       refine run_s (ss_move rfl) rfl ?_
       obtain ⟨q19, h⟩ := h
       refine run_w (ws_callM (xs := [.tmp 36, .const (.int .i64 (2))]) (cs := [.obox [.lst (bys o3_0), ci o3_1, cu o3_2], ci 2]) (ids := [37, 1004]) rfl (.inr ⟨rfl, rfl⟩) rfl rfl rfl (c_spec_l02Twisted o3_0 o3_1 o3_2 2 q19) rfl rfl ?_ )
       rintro _ _ ⟨r4_0, r4_1, o4_0, o4_1, o4_2, q20, rfl, rfl⟩
       replace h := h r4_0 r4_1 o4_0 o4_1 o4_2 q20
       refine ⟨rfl, rfl, ?_⟩
       obtain ⟨q21, h⟩ := h
       refine run_w (ws_callR (xs := [.tmp 35, .tmp 37]) (cs := [.agg [.own (orows r3_0), .own (orows r3_1)], .agg [.own (orows r4_0), .own (orows r4_1)]]) (ids := [38, 1005]) rfl (.inr ⟨rfl, rfl⟩) rfl rfl (fz_cons (fz_agg (fz_cons (fz_own (fz_map (fun _ => (fz_own (fz_map (fun _ => rfl) _))) _)) (fz_cons (fz_own (fz_map (fun _ => (fz_own (fz_map (fun _ => rfl) _))) _)) fz_nil))) (fz_cons (fz_agg (fz_cons (fz_own (fz_map (fun _ => (fz_own (fz_map (fun _ => rfl) _))) _)) (fz_cons (fz_own (fz_map (fun _ => (fz_own (fz_map (fun _ => rfl) _))) _)) fz_nil))) fz_nil)) (c_spec_l02Product r3_0 r3_1 r4_0 r4_1 q21) rfl ?_ )
       rintro _ ⟨r5_0, r5_1, q22, rfl⟩
       replace h := h r5_0 r5_1 q22
       refine ⟨(slf_agg (slf_cons (slf_own (slfL_map (f := (fun r => C.own (ints r))) (fun _ => (slf_own (slfL_map (f := ci) (fun _ => rfl) _))) _)) (slf_cons (slf_own (slfL_map (f := (fun r => C.own (ints r))) (fun _ => (slf_own (slfL_map (f := ci) (fun _ => rfl) _))) _)) slf_nil))), rfl, ?_⟩
       refine run_w (ws_storeN rfl rfl (Nat.le_of_ble_eq_true rfl) rfl rfl rfl rfl ⟨rfl, ?_⟩)
       refine run_nil ?_
       refine aw_ret ?_
       exact retAM_mk (retv1 rfl (rv_struct rfl rfl rfl)) rfl rfl rfl ⟨_, _, _, _, _, h, rfl, rfl⟩
      ·replace h := h.2 (of_decide_eq_false q15)
       refine aw_skip ?_
       refine aw_seq ?_
       refine aw_gh (gh_to (n := 88) (σ' := [(4, ⟨[cnil, cnil], []⟩), (800, ⟨[.lst (bys o2_0), ci o2_1, cu o2_2], []⟩)]) (env' := [(0, .cell 800 0), (4, .cell 4 0), (5, .c (ci (1 + r1_0))), (88, .cell 800 0), (89, .c (ci most))]) rfl rfl ⟨rfl, rfl, rfl, rfl, rfl, trivial⟩) ?_
       refine aw_region ?_
       refine run_s (ss_move rfl) rfl ?_
       refine run_s (ss_move rfl) rfl ?_
       obtain ⟨q23, h⟩ := h
       refine run_w (ws_callM (xs := [.tmp 85, .tmp 86]) (cs := [.obox [.lst (bys o2_0), ci o2_1, cu o2_2], ci (1 + r1_0)]) (ids := [87, 1006]) rfl (.inr ⟨rfl, rfl⟩) rfl rfl rfl (c_spec_l02Twisted o2_0 o2_1 o2_2 (1 + r1_0) q23) rfl rfl ?_ )
       rintro _ _ ⟨r6_0, r6_1, o6_0, o6_1, o6_2, q24, rfl, rfl⟩
       replace h := h r6_0 r6_1 o6_0 o6_1 o6_2 q24
       refine ⟨rfl, rfl, ?_⟩
       refine run_w (ws_storeN rfl rfl (Nat.le_of_ble_eq_true rfl) rfl rfl rfl rfl ⟨rfl, ?_⟩)
       refine run_nil ?_
       refine aw_ret ?_
       exact retAM_mk (retv1 rfl (rv_struct rfl rfl rfl)) rfl rfl rfl ⟨_, _, _, _, _, h, rfl, rfl⟩
     ·replace h := h.2 (of_decide_eq_false q13)
      refine run_gf rfl rfl q13 rfl ?_
      refine run_gf rfl rfl q13 rfl ?_
      refine run_gf rfl rfl q13 rfl ?_
      refine run_s (ss_pickF rfl q13 rfl) rfl ?_
      refine run_nil ?_
      refine aw_cond rfl (fun q25 => ?_) (fun q25 => ?_)
      ·cases q25
      ·skip
       refine aw_skip ?_
       refine aw_seq ?_
       refine aw_gh (gh_to (n := 88) (σ' := [(4, ⟨[cnil, cnil], []⟩), (800, ⟨[.lst (bys o2_0), ci o2_1, cu o2_2], []⟩)]) (env' := [(0, .cell 800 0), (4, .cell 4 0), (5, .c (ci (1 + r1_0))), (88, .cell 800 0), (89, .c (ci most))]) rfl rfl ⟨rfl, rfl, rfl, rfl, rfl, trivial⟩) ?_
       refine aw_region ?_
       refine run_s (ss_move rfl) rfl ?_
       refine run_s (ss_move rfl) rfl ?_
       obtain ⟨q26, h⟩ := h
       refine run_w (ws_callM (xs := [.tmp 85, .tmp 86]) (cs := [.obox [.lst (bys o2_0), ci o2_1, cu o2_2], ci (1 + r1_0)]) (ids := [87, 1007]) rfl (.inr ⟨rfl, rfl⟩) rfl rfl rfl (c_spec_l02Twisted o2_0 o2_1 o2_2 (1 + r1_0) q26) rfl rfl ?_ )
       rintro _ _ ⟨r7_0, r7_1, o7_0, o7_1, o7_2, q27, rfl, rfl⟩
       replace h := h r7_0 r7_1 o7_0 o7_1 o7_2 q27
       refine ⟨rfl, rfl, ?_⟩
       refine run_w (ws_storeN rfl rfl (Nat.le_of_ble_eq_true rfl) rfl rfl rfl rfl ⟨rfl, ?_⟩)
       refine run_nil ?_
       refine aw_ret ?_
       exact retAM_mk (retv1 rfl (rv_struct rfl rfl rfl)) rfl rfl rfl ⟨_, _, _, _, _, h, rfl, rfl⟩
    ·replace h := h.2 (of_decide_eq_false q12)
     refine aw_seq ?_
     refine aw_gh (gh_to (n := 88) (σ' := [(4, ⟨[cnil, cnil], []⟩), (800, ⟨[.lst (bys o2_0), ci o2_1, cu o2_2], []⟩)]) (env' := [(0, .cell 800 0), (1, .c (ci most)), (4, .cell 4 0), (5, .c (ci (1 + r1_0))), (14, .c (ci r2_0)), (88, .cell 800 0), (89, .c (ci most))]) rfl rfl ⟨rfl, rfl, rfl, rfl, rfl, rfl, rfl, trivial⟩) ?_
     refine aw_region ?_
     refine run_s (ss_eql rfl rfl) rfl ?_
     refine run_s (ss_assign rfl) rfl ?_
     refine run_nil ?_
     refine aw_cond rfl (fun q28 => ?_) (fun q28 => ?_)
     ·replace h := h.1 (of_decide_eq_true q28)
      refine aw_seq ?_
      refine aw_gh (gh_to (n := 88) (σ' := [(4, ⟨[cnil, cnil], []⟩), (800, ⟨[.lst (bys o2_0), ci o2_1, cu o2_2], []⟩)]) (env' := [(0, .cell 800 0), (4, .cell 4 0), (5, .c (ci (1 + r1_0))), (88, .cell 800 0), (89, .c (ci most))]) rfl rfl ⟨rfl, rfl, rfl, rfl, rfl, trivial⟩) ?_
      refine aw_region ?_
      refine run_s (ss_move rfl) rfl ?_
      refine run_s (ss_geq rfl rfl) rfl ?_
      refine run_nil ?_
      refine aw_cond rfl (fun q29 => ?_) (fun q29 => ?_)
      ·replace h := h.1 (of_decide_eq_true q29)
       refine aw_seq ?_
       refine aw_region ?_
       refine run_s (ss_move rfl) rfl ?_
       refine run_s (ss_move rfl) rfl ?_
       obtain ⟨q30, h⟩ := h
       refine run_s (ss_sub rfl rfl q30) rfl ?_
       obtain ⟨q31, h⟩ := h
       refine run_w (ws_callM (xs := [.tmp 43, .tmp 45]) (cs := [.obox [.lst (bys o2_0), ci o2_1, cu o2_2], ci ((1 + r1_0) - 1)]) (ids := []) rfl (.inr ⟨rfl, rfl⟩) rfl rfl rfl (c_spec_l01Next o2_0 o2_1 o2_2 ((1 + r1_0) - 1) q31) rfl rfl ?_ )
       rintro _ _ ⟨r8_0, o8_0, o8_1, o8_2, q32, rfl, rfl⟩
       replace h := h r8_0 o8_0 o8_1 o8_2 q32
       refine ⟨rfl, rfl, ?_⟩
       obtain ⟨q33, h⟩ := h
       refine run_s (ss_add rfl rfl q33) rfl ?_
       refine run_s (ss_assign rfl) rfl ?_
       refine run_nil ?_
       refine aw_seq ?_
       refine aw_region ?_
       refine run_s (ss_move rfl) rfl ?_
       refine run_s (ss_move rfl) rfl ?_
       obtain ⟨q34, h⟩ := h
       obtain ⟨q35, h⟩ := h
       refine run_w (ws_callM (xs := [.tmp 48, .tmp 49]) (cs := [.obox [.lst (bys o8_0), ci o8_1, cu o8_2], ci (1 + r8_0)]) (ids := [50, 1008]) rfl (.inr ⟨rfl, rfl⟩) rfl rfl rfl (hrec o8_0 o8_1 o8_2 (1 + r8_0) q34 q35) rfl rfl ?_ )
       rintro _ _ ⟨r9_0, r9_1, o9_0, o9_1, o9_2, q36, rfl, rfl⟩
       replace h := h r9_0 r9_1 o9_0 o9_1 o9_2 q36
       refine ⟨rfl, rfl, ?_⟩
       refine run_s (ss_move rfl) rfl ?_
       refine run_s (ss_move rfl) rfl ?_
       refine run_s (ss_move rfl) rfl ?_
       obtain ⟨q37, h⟩ := h
       refine run_s (ss_sub rfl rfl q37) rfl ?_
       obtain ⟨q38, h⟩ := h
       refine run_w (ws_callM (xs := [.tmp 51, .tmp 54]) (cs := [.obox [.lst (bys o9_0), ci o9_1, cu o9_2], ci ((1 + r1_0) - (1 + r8_0))]) (ids := [55, 1009]) rfl (.inr ⟨rfl, rfl⟩) rfl rfl rfl (c_spec_l02Twisted o9_0 o9_1 o9_2 ((1 + r1_0) - (1 + r8_0)) q38) rfl rfl ?_ )
       rintro _ _ ⟨r10_0, r10_1, o10_0, o10_1, o10_2, q39, rfl, rfl⟩
       replace h := h r10_0 r10_1 o10_0 o10_1 o10_2 q39
       refine ⟨rfl, rfl, ?_⟩
       obtain ⟨q40, h⟩ := h
       refine run_w (ws_callR (xs := [.tmp 50, .tmp 55]) (cs := [.agg [.own (orows r9_0), .own (orows r9_1)], .agg [.own (orows r10_0), .own (orows r10_1)]]) (ids := [56, 1010]) rfl (.inr ⟨rfl, rfl⟩) rfl rfl (fz_cons (fz_agg (fz_cons (fz_own (fz_map (fun _ => (fz_own (fz_map (fun _ => rfl) _))) _)) (fz_cons (fz_own (fz_map (fun _ => (fz_own (fz_map (fun _ => rfl) _))) _)) fz_nil))) (fz_cons (fz_agg (fz_cons (fz_own (fz_map (fun _ => (fz_own (fz_map (fun _ => rfl) _))) _)) (fz_cons (fz_own (fz_map (fun _ => (fz_own (fz_map (fun _ => rfl) _))) _)) fz_nil))) fz_nil)) (c_spec_l02Union r9_0 r9_1 r10_0 r10_1 q40) rfl ?_ )
       rintro _ ⟨r11_0, r11_1, q41, rfl⟩
       replace h := h r11_0 r11_1 q41
       refine ⟨(slf_agg (slf_cons (slf_own (slfL_map (f := (fun r => C.own (ints r))) (fun _ => (slf_own (slfL_map (f := ci) (fun _ => rfl) _))) _)) (slf_cons (slf_own (slfL_map (f := (fun r => C.own (ints r))) (fun _ => (slf_own (slfL_map (f := ci) (fun _ => rfl) _))) _)) slf_nil))), rfl, ?_⟩
       refine run_w (ws_storeN rfl rfl (Nat.le_of_ble_eq_true rfl) rfl rfl rfl rfl ⟨rfl, ?_⟩)
       refine run_nil ?_
       refine aw_ret ?_
       exact retAM_mk (retv1 rfl (rv_struct rfl rfl rfl)) rfl rfl rfl ⟨_, _, _, _, _, h, rfl, rfl⟩
      ·replace h := h.2 (of_decide_eq_false q29)
       refine aw_skip ?_
       refine aw_seq ?_
       refine aw_gh (gh_to (n := 88) (σ' := [(4, ⟨[cnil, cnil], []⟩), (800, ⟨[.lst (bys o2_0), ci o2_1, cu o2_2], []⟩)]) (env' := [(0, .cell 800 0), (4, .cell 4 0), (5, .c (ci (1 + r1_0))), (88, .cell 800 0), (89, .c (ci most))]) rfl rfl ⟨rfl, rfl, rfl, rfl, rfl, trivial⟩) ?_
       refine aw_region ?_
       refine run_s (ss_move rfl) rfl ?_
       refine run_s (ss_move rfl) rfl ?_
       obtain ⟨q42, h⟩ := h
       refine run_w (ws_callM (xs := [.tmp 85, .tmp 86]) (cs := [.obox [.lst (bys o2_0), ci o2_1, cu o2_2], ci (1 + r1_0)]) (ids := [87, 1011]) rfl (.inr ⟨rfl, rfl⟩) rfl rfl rfl (c_spec_l02Twisted o2_0 o2_1 o2_2 (1 + r1_0) q42) rfl rfl ?_ )
       rintro _ _ ⟨r12_0, r12_1, o12_0, o12_1, o12_2, q43, rfl, rfl⟩
       replace h := h r12_0 r12_1 o12_0 o12_1 o12_2 q43
       refine ⟨rfl, rfl, ?_⟩
       refine run_w (ws_storeN rfl rfl (Nat.le_of_ble_eq_true rfl) rfl rfl rfl rfl ⟨rfl, ?_⟩)
       refine run_nil ?_
       refine aw_ret ?_
       exact retAM_mk (retv1 rfl (rv_struct rfl rfl rfl)) rfl rfl rfl ⟨_, _, _, _, _, h, rfl, rfl⟩
     ·replace h := h.2 (of_decide_eq_false q28)
      refine aw_seq ?_
      refine aw_region ?_
      refine run_s (ss_eql rfl rfl) rfl ?_
      refine run_s (ss_assign rfl) rfl ?_
      refine run_nil ?_
      refine aw_cond rfl (fun q44 => ?_) (fun q44 => ?_)
      ·replace h := h.1 (of_decide_eq_true q44)
       refine aw_seq ?_
       refine aw_gh (gh_to (n := 88) (σ' := [(4, ⟨[cnil, cnil], []⟩), (800, ⟨[.lst (bys o2_0), ci o2_1, cu o2_2], []⟩)]) (env' := [(0, .cell 800 0), (1, .c (ci most)), (4, .cell 4 0), (5, .c (ci (1 + r1_0))), (88, .cell 800 0), (89, .c (ci most))]) rfl rfl ⟨rfl, rfl, rfl, rfl, rfl, rfl, trivial⟩) ?_
       refine aw_region ?_
       refine run_s (ss_move rfl) rfl ?_
       refine run_s (ss_geq rfl rfl) rfl ?_
       refine run_nil ?_
       refine aw_cond rfl (fun q45 => ?_) (fun q45 => ?_)
       ·replace h := h.1 (of_decide_eq_true q45)
        refine aw_seq ?_
        refine aw_region ?_
        refine run_w (ws_buildSlice (id := 61) (ps := [(0, .const (.int .i64 (0))), (1, .const (.int .i64 (1))), (2, .const (.int .i64 (3))), (3, .const (.int .i64 (2)))]) rfl rfl (Nat.le_of_ble_eq_true rfl) rfl ⟨rfl, ?_⟩)
        refine run_w (ws_buildSlice (id := 62) (ps := [(0, .const (.int .i64 (0))), (1, .const (.int .i64 (1))), (2, .const (.int .i64 (3))), (3, .const (.int .i64 (2)))]) rfl rfl (Nat.le_of_ble_eq_true rfl) rfl ⟨rfl, ?_⟩)
        refine run_w (ws_buildSlice (id := 63) (ps := [(0, .const (.int .i64 (1))), (1, .const (.int .i64 (0))), (2, .const (.int .i64 (2))), (3, .const (.int .i64 (3)))]) rfl rfl (Nat.le_of_ble_eq_true rfl) rfl ⟨rfl, ?_⟩)
        refine run_w (ws_buildSlice (id := 64) (ps := [(0, .const (.int .i64 (1))), (1, .const (.int .i64 (0))), (2, .const (.int .i64 (2))), (3, .const (.int .i64 (3)))]) rfl rfl (Nat.le_of_ble_eq_true rfl) rfl ⟨rfl, ?_⟩)
        refine run_w (ws_buildSlice (id := 65) (ps := [(0, .tmp 61), (1, .tmp 62), (2, .tmp 63), (3, .tmp 64)]) rfl rfl (Nat.le_of_ble_eq_true rfl) rfl ⟨rfl, ?_⟩)
        refine run_s (ss_assign rfl) rfl ?_
        refine run_nil ?_
        refine aw_gh (gh_fill (id := 65) (id2 := 61) (j := 0) rfl rfl (Nat.le_of_ble_eq_true rfl) rfl rfl rfl) ?_
        refine aw_gh (gh_fill (id := 65) (id2 := 62) (j := 1) rfl rfl (Nat.le_of_ble_eq_true rfl) rfl rfl rfl) ?_
        refine aw_gh (gh_fill (id := 65) (id2 := 63) (j := 2) rfl rfl (Nat.le_of_ble_eq_true rfl) rfl rfl rfl) ?_
        refine aw_gh (gh_fill (id := 65) (id2 := 64) (j := 3) rfl rfl (Nat.le_of_ble_eq_true rfl) rfl rfl rfl) ?_
        refine aw_gh (gh_to (n := 88) (σ' := [(65, ⟨orows ([[0, 1, 3, 2], [0, 1, 3, 2], [1, 0, 2, 3], [1, 0, 2, 3]] : List (List Int)), []⟩), (4, ⟨[cnil, cnil], []⟩), (800, ⟨[.lst (bys o2_0), ci o2_1, cu o2_2], []⟩)]) (env' := [(0, .cell 800 0), (1, .c (ci most)), (4, .cell 4 0), (5, .c (ci (1 + r1_0))), (7, .ref 65), (59, .c (ci most)), (60, .c (cb (decide (4 ≤ most)))), (65, .ref 65), (88, .cell 800 0), (89, .c (ci most))]) rfl rfl ⟨rfl, rfl, rfl, rfl, rfl, rfl, rfl, rfl, rfl, rfl, trivial⟩) ?_
        refine aw_gh (gh_frzE (id := 65) (fun r => C.lst (ints r)) rfl (fun _ => (fz_own (fz_map (fun _ => rfl) _)))) ?_
        refine aw_seq ?_
        refine aw_gh (gh_to (n := 88) (σ' := [(4, ⟨[cnil, cnil], []⟩), (800, ⟨[.lst (bys o2_0), ci o2_1, cu o2_2], []⟩)]) (env' := [(4, .cell 4 0), (7, .c (.lst (rows ([[0, 1, 3, 2], [0, 1, 3, 2], [1, 0, 2, 3], [1, 0, 2, 3]] : List (List Int))))), (88, .cell 800 0), (89, .c (ci most))]) rfl rfl ⟨rfl, rfl, rfl, rfl, trivial⟩) ?_
        refine aw_region ?_
        refine run_s (ss_move rfl) rfl ?_
        obtain ⟨q46, h⟩ := h
        refine run_w (ws_call (xs := [.tmp 66]) (ids := [67, 1012]) rfl rfl rfl rfl (c_spec_l02Involutive ([[0, 1, 3, 2], [0, 1, 3, 2], [1, 0, 2, 3], [1, 0, 2, 3]] : List (List Int)) q46) rfl ?_ )
        rintro _ ⟨r13_0, r13_1, q47, rfl⟩
        replace h := h r13_0 r13_1 q47
        refine ⟨rfl, ?_⟩
        refine run_w (ws_storeN rfl rfl (Nat.le_of_ble_eq_true rfl) rfl rfl rfl rfl ⟨rfl, ?_⟩)
        refine run_nil ?_
        refine aw_ret ?_
        exact retAM_mk (retv1 rfl (rv_struct rfl rfl rfl)) rfl rfl rfl ⟨_, _, _, _, _, h, rfl, rfl⟩
       ·replace h := h.2 (of_decide_eq_false q45)
        refine aw_skip ?_
        refine aw_seq ?_
        refine aw_region ?_
        refine run_s (ss_move rfl) rfl ?_
        refine run_s (ss_move rfl) rfl ?_
        obtain ⟨q48, h⟩ := h
        refine run_w (ws_callM (xs := [.tmp 85, .tmp 86]) (cs := [.obox [.lst (bys o2_0), ci o2_1, cu o2_2], ci (1 + r1_0)]) (ids := [87, 1013]) rfl (.inr ⟨rfl, rfl⟩) rfl rfl rfl (c_spec_l02Twisted o2_0 o2_1 o2_2 (1 + r1_0) q48) rfl rfl ?_ )
        rintro _ _ ⟨r14_0, r14_1, o14_0, o14_1, o14_2, q49, rfl, rfl⟩
        replace h := h r14_0 r14_1 o14_0 o14_1 o14_2 q49
        refine ⟨rfl, rfl, ?_⟩
        refine run_w (ws_storeN rfl rfl (Nat.le_of_ble_eq_true rfl) rfl rfl rfl rfl ⟨rfl, ?_⟩)
        refine run_nil ?_
        refine aw_ret ?_
        exact retAM_mk (retv1 rfl (rv_struct rfl rfl rfl)) rfl rfl rfl ⟨_, _, _, _, _, h, rfl, rfl⟩
      ·replace h := h.2 (of_decide_eq_false q44)
       refine aw_seq ?_
       refine aw_gh (gh_to (n := 88) (σ' := [(4, ⟨[cnil, cnil], []⟩), (800, ⟨[.lst (bys o2_0), ci o2_1, cu o2_2], []⟩)]) (env' := [(0, .cell 800 0), (1, .c (ci most)), (4, .cell 4 0), (5, .c (ci (1 + r1_0))), (14, .c (ci r2_0)), (88, .cell 800 0), (89, .c (ci most))]) rfl rfl ⟨rfl, rfl, rfl, rfl, rfl, rfl, rfl, trivial⟩) ?_
       refine aw_region ?_
       refine run_s (ss_eql rfl rfl) rfl ?_
       refine run_s (ss_assign rfl) rfl ?_
       refine run_nil ?_
       refine aw_cond rfl (fun q50 => ?_) (fun q50 => ?_)
       ·replace h := h.1 (of_decide_eq_true q50)
        refine aw_seq ?_
        refine aw_gh (gh_to (n := 88) (σ' := [(4, ⟨[cnil, cnil], []⟩), (800, ⟨[.lst (bys o2_0), ci o2_1, cu o2_2], []⟩)]) (env' := [(0, .cell 800 0), (4, .cell 4 0), (5, .c (ci (1 + r1_0))), (88, .cell 800 0), (89, .c (ci most))]) rfl rfl ⟨rfl, rfl, rfl, rfl, rfl, trivial⟩) ?_
        refine aw_region ?_
        refine run_s (ss_move rfl) rfl ?_
        refine run_s (ss_geq rfl rfl) rfl ?_
        refine run_nil ?_
        refine aw_cond rfl (fun q51 => ?_) (fun q51 => ?_)
        ·replace h := h.1 (of_decide_eq_true q51)
         refine aw_seq ?_
         refine aw_region ?_
         refine run_s (ss_move rfl) rfl ?_
         obtain ⟨q52, h⟩ := h
         refine run_w (ws_call (xs := [.tmp 72]) (ids := [73, 1014]) rfl rfl rfl rfl (c_spec_l02Polygon (1 + r1_0) q52) rfl ?_ )
         rintro _ rfl
         refine ⟨rfl, ?_⟩
         obtain ⟨q54, h⟩ := h
         refine run_w (ws_callR (xs := [.tmp 73]) (cs := [.agg [.own (orows (tab (1 + r1_0) (fun x_ y_ => (2 * x_ - y_ + (1 + r1_0)) % (1 + r1_0)))), .own (orows (tab (1 + r1_0) (fun x_ _ => x_)))]]) (ids := [74, 1015]) rfl (.inr ⟨rfl, rfl⟩) rfl rfl (fz_cons (fz_agg (fz_cons (fz_own (fz_map (fun _ => (fz_own (fz_map (fun _ => rfl) _))) _)) (fz_cons (fz_own (fz_map (fun _ => (fz_own (fz_map (fun _ => rfl) _))) _)) fz_nil))) fz_nil) (c_spec_l02Inverse (tab (1 + r1_0) (fun x_ y_ => (2 * x_ - y_ + (1 + r1_0)) % (1 + r1_0))) (tab (1 + r1_0) (fun x_ _ => x_)) q54) rfl ?_ )
         rintro _ ⟨r15_0, r15_1, q55, rfl⟩
         replace h := h r15_0 r15_1 q55
         refine ⟨(slf_agg (slf_cons (slf_own (slfL_map (f := (fun r => C.own (ints r))) (fun _ => (slf_own (slfL_map (f := ci) (fun _ => rfl) _))) _)) (slf_cons (slf_own (slfL_map (f := (fun r => C.own (ints r))) (fun _ => (slf_own (slfL_map (f := ci) (fun _ => rfl) _))) _)) slf_nil))), rfl, ?_⟩
         refine run_w (ws_storeN rfl rfl (Nat.le_of_ble_eq_true rfl) rfl rfl rfl rfl ⟨rfl, ?_⟩)
         refine run_nil ?_
         refine aw_ret ?_
         exact retAM_mk (retv1 rfl (rv_struct rfl rfl rfl)) rfl rfl rfl ⟨_, _, _, _, _, h, rfl, rfl⟩
        ·replace h := h.2 (of_decide_eq_false q51)
         refine aw_skip ?_
         refine aw_seq ?_
         refine aw_gh (gh_to (n := 88) (σ' := [(4, ⟨[cnil, cnil], []⟩), (800, ⟨[.lst (bys o2_0), ci o2_1, cu o2_2], []⟩)]) (env' := [(0, .cell 800 0), (4, .cell 4 0), (5, .c (ci (1 + r1_0))), (88, .cell 800 0), (89, .c (ci most))]) rfl rfl ⟨rfl, rfl, rfl, rfl, rfl, trivial⟩) ?_
         refine aw_region ?_
         refine run_s (ss_move rfl) rfl ?_
         refine run_s (ss_move rfl) rfl ?_
         obtain ⟨q56, h⟩ := h
         refine run_w (ws_callM (xs := [.tmp 85, .tmp 86]) (cs := [.obox [.lst (bys o2_0), ci o2_1, cu o2_2], ci (1 + r1_0)]) (ids := [87, 1016]) rfl (.inr ⟨rfl, rfl⟩) rfl rfl rfl (c_spec_l02Twisted o2_0 o2_1 o2_2 (1 + r1_0) q56) rfl rfl ?_ )
         rintro _ _ ⟨r16_0, r16_1, o16_0, o16_1, o16_2, q57, rfl, rfl⟩
         replace h := h r16_0 r16_1 o16_0 o16_1 o16_2 q57
         refine ⟨rfl, rfl, ?_⟩
         refine run_w (ws_storeN rfl rfl (Nat.le_of_ble_eq_true rfl) rfl rfl rfl rfl ⟨rfl, ?_⟩)
         refine run_nil ?_
         refine aw_ret ?_
         exact retAM_mk (retv1 rfl (rv_struct rfl rfl rfl)) rfl rfl rfl ⟨_, _, _, _, _, h, rfl, rfl⟩
       ·replace h := h.2 (of_decide_eq_false q50)
        refine aw_seq ?_
        refine aw_region ?_
        refine run_s (ss_eql rfl rfl) rfl ?_
        refine run_s (ss_assign rfl) rfl ?_
        refine run_nil ?_
        refine aw_cond rfl (fun q58 => ?_) (fun q58 => ?_)
        ·replace h := h.1 (of_decide_eq_true q58)
         refine aw_seq ?_
         refine aw_gh (gh_to (n := 88) (σ' := [(4, ⟨[cnil, cnil], []⟩), (800, ⟨[.lst (bys o2_0), ci o2_1, cu o2_2], []⟩)]) (env' := [(0, .cell 800 0), (1, .c (ci most)), (4, .cell 4 0), (5, .c (ci (1 + r1_0))), (88, .cell 800 0), (89, .c (ci most))]) rfl rfl ⟨rfl, rfl, rfl, rfl, rfl, rfl, trivial⟩) ?_
         refine aw_region ?_
         refine run_s (ss_move rfl) rfl ?_
         refine run_s (ss_geq rfl rfl) rfl ?_
         refine run_nil ?_
         refine aw_cond rfl (fun q59 => ?_) (fun q59 => ?_)
         ·replace h := h.1 (of_decide_eq_true q59)
          refine aw_seq ?_
          refine aw_region ?_
          refine run_w (ws_buildSlice (id := 79) (ps := [(0, .const (.int .i64 (0))), (1, .const (.int .i64 (1))), (2, .const (.int .i64 (2)))]) rfl rfl (Nat.le_of_ble_eq_true rfl) rfl ⟨rfl, ?_⟩)
          refine run_w (ws_buildSlice (id := 80) (ps := [(0, .const (.int .i64 (0))), (1, .const (.int .i64 (1))), (2, .const (.int .i64 (2)))]) rfl rfl (Nat.le_of_ble_eq_true rfl) rfl ⟨rfl, ?_⟩)
          refine run_w (ws_buildSlice (id := 81) (ps := [(0, .const (.int .i64 (1))), (1, .const (.int .i64 (0))), (2, .const (.int .i64 (2)))]) rfl rfl (Nat.le_of_ble_eq_true rfl) rfl ⟨rfl, ?_⟩)
          refine run_w (ws_buildSlice (id := 82) (ps := [(0, .tmp 79), (1, .tmp 80), (2, .tmp 81)]) rfl rfl (Nat.le_of_ble_eq_true rfl) rfl ⟨rfl, ?_⟩)
          refine run_s (ss_assign rfl) rfl ?_
          refine run_nil ?_
          refine aw_gh (gh_fill (id := 82) (id2 := 79) (j := 0) rfl rfl (Nat.le_of_ble_eq_true rfl) rfl rfl rfl) ?_
          refine aw_gh (gh_fill (id := 82) (id2 := 80) (j := 1) rfl rfl (Nat.le_of_ble_eq_true rfl) rfl rfl rfl) ?_
          refine aw_gh (gh_fill (id := 82) (id2 := 81) (j := 2) rfl rfl (Nat.le_of_ble_eq_true rfl) rfl rfl rfl) ?_
          refine aw_gh (gh_to (n := 88) (σ' := [(82, ⟨orows ([[0, 1, 2], [0, 1, 2], [1, 0, 2]] : List (List Int)), []⟩), (4, ⟨[cnil, cnil], []⟩), (800, ⟨[.lst (bys o2_0), ci o2_1, cu o2_2], []⟩)]) (env' := [(0, .cell 800 0), (1, .c (ci most)), (4, .cell 4 0), (5, .c (ci (1 + r1_0))), (8, .ref 82), (77, .c (ci most)), (78, .c (cb (decide (3 ≤ most)))), (82, .ref 82), (88, .cell 800 0), (89, .c (ci most))]) rfl rfl ⟨rfl, rfl, rfl, rfl, rfl, rfl, rfl, rfl, rfl, rfl, trivial⟩) ?_
          refine aw_gh (gh_frzE (id := 82) (fun r => C.lst (ints r)) rfl (fun _ => (fz_own (fz_map (fun _ => rfl) _)))) ?_
          refine aw_seq ?_
          refine aw_gh (gh_to (n := 88) (σ' := [(4, ⟨[cnil, cnil], []⟩), (800, ⟨[.lst (bys o2_0), ci o2_1, cu o2_2], []⟩)]) (env' := [(4, .cell 4 0), (8, .c (.lst (rows ([[0, 1, 2], [0, 1, 2], [1, 0, 2]] : List (List Int))))), (88, .cell 800 0), (89, .c (ci most))]) rfl rfl ⟨rfl, rfl, rfl, rfl, trivial⟩) ?_
          refine aw_region ?_
          refine run_s (ss_move rfl) rfl ?_
          obtain ⟨q60, h⟩ := h
          refine run_w (ws_call (xs := [.tmp 83]) (ids := [84, 1017]) rfl rfl rfl rfl (c_spec_l02Involutive ([[0, 1, 2], [0, 1, 2], [1, 0, 2]] : List (List Int)) q60) rfl ?_ )
          rintro _ ⟨r17_0, r17_1, q61, rfl⟩
          replace h := h r17_0 r17_1 q61
          refine ⟨rfl, ?_⟩
          refine run_w (ws_storeN rfl rfl (Nat.le_of_ble_eq_true rfl) rfl rfl rfl rfl ⟨rfl, ?_⟩)
          refine run_nil ?_
          refine aw_ret ?_
          exact retAM_mk (retv1 rfl (rv_struct rfl rfl rfl)) rfl rfl rfl ⟨_, _, _, _, _, h, rfl, rfl⟩
         ·replace h := h.2 (of_decide_eq_false q59)
          refine aw_skip ?_
          refine aw_seq ?_
          refine aw_region ?_
          refine run_s (ss_move rfl) rfl ?_
          refine run_s (ss_move rfl) rfl ?_
          obtain ⟨q62, h⟩ := h
          refine run_w (ws_callM (xs := [.tmp 85, .tmp 86]) (cs := [.obox [.lst (bys o2_0), ci o2_1, cu o2_2], ci (1 + r1_0)]) (ids := [87, 1018]) rfl (.inr ⟨rfl, rfl⟩) rfl rfl rfl (c_spec_l02Twisted o2_0 o2_1 o2_2 (1 + r1_0) q62) rfl rfl ?_ )
          rintro _ _ ⟨r18_0, r18_1, o18_0, o18_1, o18_2, q63, rfl, rfl⟩
          replace h := h r18_0 r18_1 o18_0 o18_1 o18_2 q63
          refine ⟨rfl, rfl, ?_⟩
          refine run_w (ws_storeN rfl rfl (Nat.le_of_ble_eq_true rfl) rfl rfl rfl rfl ⟨rfl, ?_⟩)
          refine run_nil ?_
          refine aw_ret ?_
          exact retAM_mk (retv1 rfl (rv_struct rfl rfl rfl)) rfl rfl rfl ⟨_, _, _, _, _, h, rfl, rfl⟩
        ·replace h := h.2 (of_decide_eq_false q58)
         refine aw_skip ?_
         refine aw_seq ?_
         refine aw_gh (gh_to (n := 88) (σ' := [(4, ⟨[cnil, cnil], []⟩), (800, ⟨[.lst (bys o2_0), ci o2_1, cu o2_2], []⟩)]) (env' := [(0, .cell 800 0), (4, .cell 4 0), (5, .c (ci (1 + r1_0))), (88, .cell 800 0), (89, .c (ci most))]) rfl rfl ⟨rfl, rfl, rfl, rfl, rfl, trivial⟩) ?_
         refine aw_region ?_
         refine run_s (ss_move rfl) rfl ?_
         refine run_s (ss_move rfl) rfl ?_
         obtain ⟨q64, h⟩ := h
         refine run_w (ws_callM (xs := [.tmp 85, .tmp 86]) (cs := [.obox [.lst (bys o2_0), ci o2_1, cu o2_2], ci (1 + r1_0)]) (ids := [87, 1019]) rfl (.inr ⟨rfl, rfl⟩) rfl rfl rfl (c_spec_l02Twisted o2_0 o2_1 o2_2 (1 + r1_0) q64) rfl rfl ?_ )
         rintro _ _ ⟨r19_0, r19_1, o19_0, o19_1, o19_2, q65, rfl, rfl⟩
         replace h := h r19_0 r19_1 o19_0 o19_1 o19_2 q65
         refine ⟨rfl, rfl, ?_⟩
         refine run_w (ws_storeN rfl rfl (Nat.le_of_ble_eq_true rfl) rfl rfl rfl rfl ⟨rfl, ?_⟩)
         refine run_nil ?_
         refine aw_ret ?_
         exact retAM_mk (retv1 rfl (rv_struct rfl rfl rfl)) rfl rfl rfl ⟨_, _, _, _, _, h, rfl, rfl⟩

theorem c_spec_l02Any : ∀ (s1 : List Int) (s2 : Int) (s3 : Int) (most : Int), (okS s1 s2 s3 ∧ 1 ≤ most ∧ most ≤ 12) → AM Try.prog 198 [.obox [.lst (bys s1), ci s2, cu s3], ci most] (fun R_ O_ => ∃ y0 y1 w0 w1 w2, ((pairM most y0 y1) ∧ w0 = s1 ∧ okS s1 w1 w2) ∧ R_ = .agg [.own (orows y0), .own (orows y1)] ∧ O_ = [.obox [.lst (bys w0), ci w1, cu w2], ci most]) := by
  have key : ∀ (k_ : Nat) (s1 : List Int) (s2 : Int) (s3 : Int) (most : Int), most.toNat ≤ k_ → (okS s1 s2 s3 ∧ 1 ≤ most ∧ most ≤ 12) → AM Try.prog 198 [.obox [.lst (bys s1), ci s2, cu s3], ci most] (fun R_ O_ => ∃ y0 y1 w0 w1 w2, ((pairM most y0 y1) ∧ w0 = s1 ∧ okS s1 w1 w2) ∧ R_ = .agg [.own (orows y0), .own (orows y1)] ∧ O_ = [.obox [.lst (bys w0), ci w1, cu w2], ci most]) := by
    intro k_; induction k_ with
    | zero => intro s1 s2 s3 most hn hp; exact (w_spec_l02Any s1 s2 s3 most (fun y0 y1 w0 w1 w2 => (pairM most y0 y1) ∧ w0 = s1 ∧ okS s1 w1 w2) (fun _ _ _ _ hlt => absurd hlt (by omega)) (p_spec_l02Any s1 s2 s3 most hp)).mono (fun _ _ h => h)
    | succ k_ ih => intro s1 s2 s3 most hn hp; exact (w_spec_l02Any s1 s2 s3 most (fun y0 y1 w0 w1 w2 => (pairM most y0 y1) ∧ w0 = s1 ∧ okS s1 w1 w2) (fun s1' s2' s3' most' hlt => ih s1' s2' s3' most' (by omega)) (p_spec_l02Any s1 s2 s3 most hp)).mono (fun _ _ h => h)
  exact fun s1 s2 s3 most => key _ s1 s2 s3 most (Nat.le_refl _)

set_option maxRecDepth 100000 in
set_option maxHeartbeats 4000000 in
theorem w_spec_l02Draw (s1 : List Int) (s2 : Int) (s3 : Int) (most : Int) (Q : List (List Int) → List (List Int) → List Int → Int → Int → Prop) (h : wp_spec_l02Draw s1 s2 s3 most Q) : AM Try.prog 172 [.obox [.lst (bys s1), ci s2, cu s3], ci most] (fun R_ O_ => ∃ y0 y1 w0 w1 w2, Q y0 y1 w0 w1 w2 ∧ R_ = .agg [.own (orows y0), .own (orows y1)] ∧ O_ = [.obox [.lst (bys w0), ci w1, cu w2], ci most]) := by
  refine am_enter (n := 20) (m := 2) Try.func172 rfl (by rfl) rfl rfl (Nat.le_of_ble_eq_true rfl) [800] rfl ?_
  unfold wp_spec_l02Draw at h
  refine aw_seq ?_
  refine aw_gh (gh_to (n := 20) (σ' := [(800, ⟨[.lst (bys s1), ci s2, cu s3], []⟩)]) (env' := [(0, .cell 800 0), (1, .c (ci most)), (20, .cell 800 0), (21, .c (ci most))]) rfl rfl ⟨rfl, rfl, rfl, rfl, trivial⟩) ?_
  refine aw_region ?_
  refine run_w (ws_alloc (id := 4) rfl (Nat.le_of_ble_eq_true rfl) ⟨rfl, ?_⟩)
  refine run_nil ?_
  refine aw_seq ?_
  refine aw_region ?_
  refine run_s (ss_move rfl) rfl ?_
  refine run_s (ss_move rfl) rfl ?_
  obtain ⟨q1, h⟩ := h
  refine run_w (ws_callM (xs := [.tmp 6, .tmp 7]) (cs := [.obox [.lst (bys s1), ci s2, cu s3], ci most]) (ids := [8, 1001]) rfl (.inr ⟨rfl, rfl⟩) rfl rfl rfl (c_spec_l02Any s1 s2 s3 most q1) rfl rfl ?_ )
  rintro _ _ ⟨r1_0, r1_1, o1_0, o1_1, o1_2, q2, rfl, rfl⟩
  replace h := h r1_0 r1_1 o1_0 o1_1 o1_2 q2
  refine ⟨rfl, rfl, ?_⟩
  refine run_w (ws_alloc (id := 5) rfl (Nat.le_of_ble_eq_true rfl) ⟨rfl, ?_⟩)
  refine run_w (ws_storeN rfl rfl (Nat.le_of_ble_eq_true rfl) rfl rfl rfl rfl ⟨rfl, ?_⟩)
  refine run_nil ?_
  refine aw_seq ?_
  refine aw_seq ?_
  refine aw_gh (gh_to (n := 20) (σ' := [(5, ⟨[.hole, .hole], [(1, .ref 1001), (0, .ref 8)]⟩), (8, ⟨orows r1_0, []⟩), (1001, ⟨orows r1_1, []⟩), (4, ⟨[cnil, cnil], []⟩), (800, ⟨[.lst (bys o1_0), ci o1_1, cu o1_2], []⟩)]) (env' := [(0, .cell 800 0), (4, .cell 4 0), (5, .cell 5 0), (20, .cell 800 0), (21, .c (ci most))]) rfl rfl ⟨rfl, rfl, rfl, rfl, rfl, trivial⟩) ?_
  refine aw_region ?_
  refine run_s (ss_move rfl) rfl ?_
  obtain ⟨q3, h⟩ := h
  refine run_w (ws_callM (xs := [.tmp 9, .const (.int .i64 (4))]) (cs := [.obox [.lst (bys o1_0), ci o1_1, cu o1_2], ci 4]) (ids := []) rfl (.inr ⟨rfl, rfl⟩) rfl rfl rfl (c_spec_l01Next o1_0 o1_1 o1_2 4 q3) rfl rfl ?_ )
  rintro _ _ ⟨r2_0, o2_0, o2_1, o2_2, q4, rfl, rfl⟩
  replace h := h r2_0 o2_0 o2_1 o2_2 q4
  refine ⟨rfl, rfl, ?_⟩
  refine run_s (ss_gtr rfl rfl) rfl ?_
  refine run_nil ?_
  refine aw_cond rfl (fun q5 => ?_) (fun q5 => ?_)
  ·replace h := h.1 (of_decide_eq_true q5)
   refine aw_seq ?_
   refine aw_gh (gh_to (n := 20) (σ' := [(5, ⟨[.hole, .hole], [(1, .ref 1001), (0, .ref 8)]⟩), (8, ⟨orows r1_0, []⟩), (1001, ⟨orows r1_1, []⟩), (4, ⟨[cnil, cnil], []⟩), (800, ⟨[.lst (bys o2_0), ci o2_1, cu o2_2], []⟩)]) (env' := [(0, .cell 800 0), (4, .cell 4 0), (5, .cell 5 0), (20, .cell 800 0), (21, .c (ci most))]) rfl rfl ⟨rfl, rfl, rfl, rfl, rfl, trivial⟩) ?_
   refine aw_regionD (kd := kdl [1, 0, 0, 1, 0, 2, 2, 3]) (ord := [1, 2, 0, 3, 4, 5, 6, 7]) [800] mixed (by kernel_rfl) ?_
   refine rd_s rfl rfl trivial (ss_move rfl) rfl ?_
   refine rd_s rfl rfl trivial (ss_field_cell rfl) rfl ?_
   refine rd_l rfl rfl trivial (ss_loadS rfl rfl rfl rfl) rfl ?_
   refine rd_l rfl rfl trivial (ss_loadH rfl rfl rfl rfl) rfl ?_
   refine rd_s rfl rfl trivial (ss_lenR (f := (fun r => C.own (ints r))) rfl rfl) rfl ?_
   obtain ⟨q6, h⟩ := h
   refine rd_w rfl rfl trivial rfl rfl (ws_callM (xs := [.tmp 13, .tmp 16]) (cs := [.obox [.lst (bys o2_0), ci o2_1, cu o2_2], ci (r1_0.length : Int)]) (ids := [17]) rfl (.inr ⟨rfl, rfl⟩) rfl rfl rfl (c_spec_l01Draw o2_0 o2_1 o2_2 (r1_0.length : Int) q6) rfl rfl ?_ )
   rintro _ _ ⟨r3_0, o3_0, o3_1, o3_2, q7, rfl, rfl⟩
   replace h := h r3_0 o3_0 o3_1 o3_2 q7
   refine ⟨rfl, rfl, ?_⟩
   obtain ⟨q8, h⟩ := h
   refine rd_w rfl rfl trivial rfl rfl (ws_callR (xs := [.tmp 12, .tmp 17]) (cs := [.agg [.own (orows r1_0), .own (orows r1_1)], .own (ints r3_0)]) (ids := [18, 1002]) rfl (.inr ⟨rfl, rfl⟩) rfl rfl (fz_cons (fz_agg (fz_cons (fz_own (fz_map (fun _ => (fz_own (fz_map (fun _ => rfl) _))) _)) (fz_cons (fz_own (fz_map (fun _ => (fz_own (fz_map (fun _ => rfl) _))) _)) fz_nil))) (fz_cons (fz_own (fz_map (fun _ => rfl) _)) fz_nil)) (c_spec_l02Rename r1_0 r1_1 r3_0 q8) rfl ?_ )
   rintro _ rfl
   refine ⟨(slf_agg (slf_cons (slf_own (slfL_map (f := (fun r => C.own (ints r))) (fun _ => (slf_own (slfL_map (f := ci) (fun _ => rfl) _))) _)) (slf_cons (slf_own (slfL_map (f := (fun r => C.own (ints r))) (fun _ => (slf_own (slfL_map (f := ci) (fun _ => rfl) _))) _)) slf_nil))), rfl, ?_⟩
   refine rd_f rfl rfl trivial (ws_storeN rfl rfl (Nat.le_of_ble_eq_true rfl) rfl rfl rfl rfl ⟨rfl, ?_⟩)
   refine rd_nil ?_
   refine aw_ret ?_
   exact retAM_mk (retv1 rfl (rv_struct rfl rfl rfl)) rfl rfl rfl ⟨_, _, _, _, _, h, rfl, rfl⟩
  ·replace h := h.2 (of_decide_eq_false q5)
   refine aw_skip ?_
   refine aw_seq ?_
   refine aw_gh (gh_to (n := 20) (σ' := [(5, ⟨[.hole, .hole], [(1, .ref 1001), (0, .ref 8)]⟩), (8, ⟨orows r1_0, []⟩), (1001, ⟨orows r1_1, []⟩), (4, ⟨[cnil, cnil], []⟩), (800, ⟨[.lst (bys o2_0), ci o2_1, cu o2_2], []⟩)]) (env' := [(4, .cell 4 0), (5, .cell 5 0), (20, .cell 800 0), (21, .c (ci most))]) rfl rfl ⟨rfl, rfl, rfl, rfl, trivial⟩) ?_
   refine aw_region ?_
   refine run_s (ss_loadS rfl rfl rfl rfl) rfl ?_
   refine run_w (ws_storeN rfl rfl (Nat.le_of_ble_eq_true rfl) rfl rfl rfl rfl ⟨rfl, ?_⟩)
   refine run_nil ?_
   refine aw_ret ?_
   exact retAM_mk (retv1 rfl (rv_struct rfl rfl rfl)) rfl rfl rfl ⟨_, _, _, _, _, h, rfl, rfl⟩

theorem c_spec_l02Draw (s1 : List Int) (s2 : Int) (s3 : Int) (most : Int) (hp : okS s1 s2 s3 ∧ 1 ≤ most ∧ most ≤ 12) : AM Try.prog 172 [.obox [.lst (bys s1), ci s2, cu s3], ci most] (fun R_ O_ => ∃ y0 y1 w0 w1 w2, ((pairM most y0 y1) ∧ w0 = s1 ∧ okS s1 w1 w2) ∧ R_ = .agg [.own (orows y0), .own (orows y1)] ∧ O_ = [.obox [.lst (bys w0), ci w1, cu w2], ci most]) :=
  w_spec_l02Draw s1 s2 s3 most (fun y0 y1 w0 w1 w2 => (pairM most y0 y1) ∧ w0 = s1 ∧ okS s1 w1 w2) (p_spec_l02Draw s1 s2 s3 most hp)

set_option maxRecDepth 100000 in
set_option maxHeartbeats 4000000 in
theorem w_spec_l05Any (s1 : List Int) (s2 : Int) (s3 : Int) (most : Int) (Q : List (List Int) → List Int → Int → Int → Prop) (h : wp_spec_l05Any s1 s2 s3 most Q) : AM Try.prog 170 [.obox [.lst (bys s1), ci s2, cu s3], ci most] (fun R_ O_ => ∃ y0 w0 w1 w2, Q y0 w0 w1 w2 ∧ R_ = .agg [.own (orows y0)] ∧ O_ = [.obox [.lst (bys w0), ci w1, cu w2], ci most]) := by
  refine am_enter (n := 53) (m := 2) Try.func170 rfl (by rfl) rfl rfl (Nat.le_of_ble_eq_true rfl) [800] rfl ?_
  unfold wp_spec_l05Any at h
  refine aw_seq ?_
  refine aw_gh (gh_to (n := 53) (σ' := [(800, ⟨[.lst (bys s1), ci s2, cu s3], []⟩)]) (env' := [(0, .cell 800 0), (1, .c (ci most)), (53, .cell 800 0), (54, .c (ci most))]) rfl rfl ⟨rfl, rfl, rfl, rfl, trivial⟩) ?_
  refine aw_region ?_
  refine run_w (ws_alloc (id := 4) rfl (Nat.le_of_ble_eq_true rfl) ⟨rfl, ?_⟩)
  refine run_nil ?_
  refine aw_seq ?_
  refine aw_region ?_
  refine run_s (ss_move rfl) rfl ?_
  refine run_s (ss_move rfl) rfl ?_
  obtain ⟨q1, h⟩ := h
  refine run_w (ws_callM (xs := [.tmp 10, .tmp 11]) (cs := [.obox [.lst (bys s1), ci s2, cu s3], ci most]) (ids := []) rfl (.inr ⟨rfl, rfl⟩) rfl rfl rfl (c_spec_l01Next s1 s2 s3 most q1) rfl rfl ?_ )
  rintro _ _ ⟨r1_0, o1_0, o1_1, o1_2, q2, rfl, rfl⟩
  replace h := h r1_0 o1_0 o1_1 o1_2 q2
  refine ⟨rfl, rfl, ?_⟩
  obtain ⟨q3, h⟩ := h
  refine run_s (ss_add rfl rfl q3) rfl ?_
  refine run_s (ss_assign rfl) rfl ?_
  refine run_nil ?_
  refine aw_seq ?_
  refine aw_seq ?_
  refine aw_region ?_
  refine run_s (ss_move rfl) rfl ?_
  obtain ⟨q4, h⟩ := h
  refine run_w (ws_callM (xs := [.tmp 14, .const (.int .i64 (3))]) (cs := [.obox [.lst (bys o1_0), ci o1_1, cu o1_2], ci 3]) (ids := []) rfl (.inr ⟨rfl, rfl⟩) rfl rfl rfl (c_spec_l01Next o1_0 o1_1 o1_2 3 q4) rfl rfl ?_ )
  rintro _ _ ⟨r2_0, o2_0, o2_1, o2_2, q5, rfl, rfl⟩
  replace h := h r2_0 o2_0 o2_1 o2_2 q5
  refine ⟨rfl, rfl, ?_⟩
  refine run_s (ss_eql rfl rfl) rfl ?_
  refine run_nil ?_
  refine aw_cond rfl (fun q6 => ?_) (fun q6 => ?_)
  ·replace h := h.1 (of_decide_eq_true q6)
   refine aw_seq ?_
   refine aw_gh (gh_to (n := 53) (σ' := [(4, ⟨[cnil], []⟩), (800, ⟨[.lst (bys o2_0), ci o2_1, cu o2_2], []⟩)]) (env' := [(0, .cell 800 0), (4, .cell 4 0), (5, .c (ci (1 + r1_0))), (53, .cell 800 0), (54, .c (ci most))]) rfl rfl ⟨rfl, rfl, rfl, rfl, rfl, trivial⟩) ?_
   refine aw_region ?_
   refine run_s (ss_assign rfl) rfl ?_
   refine run_nil ?_
   refine aw_block ?_
   obtain ⟨H1, m1, q7, h⟩ := h
   refine aw_loop4 (fun (v6_1 : Int) (f800_0_1 : List Int) (f800_1_1 : Int) (f800_2_1 : Int) => ⟨[(4, ⟨[cnil], []⟩), (800, ⟨[.lst (bys f800_0_1), ci f800_1_1, cu f800_2_1], []⟩)], [(0, .cell 800 0), (4, .cell 4 0), (5, .c (ci (1 + r1_0))), (6, .c (ci v6_1)), (53, .cell 800 0), (54, .c (ci most))], 53⟩) H1 m1 ⟨0, o2_0, o2_1, o2_2, ghe_to (n := 53) rfl rfl ⟨rfl, rfl, rfl, rfl, rfl, rfl, trivial⟩, q7⟩ ?_
   rintro v6_1 f800_0_1 f800_1_1 f800_2_1 q7
   replace h := h v6_1 f800_0_1 f800_1_1 f800_2_1 q7
   refine aw_seq ?_
   refine aw_seq ?_
   refine aw_region ?_
   refine run_s (ss_move rfl) rfl ?_
   refine run_s (ss_lss rfl rfl) rfl ?_
   refine run_nil ?_
   refine aw_cond rfl (fun q8 => ?_) (fun q8 => ?_)
   ·replace h := h.1 (of_decide_eq_true q8)
    refine aw_skip ?_
    refine aw_seq ?_
    refine aw_block ?_
    refine aw_seq ?_
    refine aw_region ?_
    refine run_s (ss_move rfl) rfl ?_
    refine run_s (ss_move rfl) rfl ?_
    refine run_s (ss_move rfl) rfl ?_
    obtain ⟨q9, h⟩ := h
    refine run_w (ws_callM (xs := [.tmp 22, .tmp 23]) (cs := [.obox [.lst (bys f800_0_1), ci f800_1_1, cu f800_2_1], ci (1 + r1_0)]) (ids := []) rfl (.inr ⟨rfl, rfl⟩) rfl rfl rfl (c_spec_l01Next f800_0_1 f800_1_1 f800_2_1 (1 + r1_0) q9) rfl rfl ?_ )
    rintro _ _ ⟨r3_0, o3_0, o3_1, o3_2, q10, rfl, rfl⟩
    replace h := h r3_0 o3_0 o3_1 o3_2 q10
    refine ⟨rfl, rfl, ?_⟩
    refine run_s (ss_move rfl) rfl ?_
    refine run_s (ss_move rfl) rfl ?_
    obtain ⟨q11, h⟩ := h
    refine run_w (ws_callM (xs := [.tmp 25, .tmp 26]) (cs := [.obox [.lst (bys o3_0), ci o3_1, cu o3_2], ci (1 + r1_0)]) (ids := []) rfl (.inr ⟨rfl, rfl⟩) rfl rfl rfl (c_spec_l01Next o3_0 o3_1 o3_2 (1 + r1_0) q11) rfl rfl ?_ )
    rintro _ _ ⟨r4_0, o4_0, o4_1, o4_2, q12, rfl, rfl⟩
    replace h := h r4_0 o4_0 o4_1 o4_2 q12
    refine ⟨rfl, rfl, ?_⟩
    refine run_s (ss_move rfl) rfl ?_
    refine run_s (ss_move rfl) rfl ?_
    obtain ⟨q13, h⟩ := h
    refine run_w (ws_callM (xs := [.tmp 28, .tmp 29]) (cs := [.obox [.lst (bys o4_0), ci o4_1, cu o4_2], ci (1 + r1_0)]) (ids := []) rfl (.inr ⟨rfl, rfl⟩) rfl rfl rfl (c_spec_l01Next o4_0 o4_1 o4_2 (1 + r1_0) q13) rfl rfl ?_ )
    rintro _ _ ⟨r5_0, o5_0, o5_1, o5_2, q14, rfl, rfl⟩
    replace h := h r5_0 o5_0 o5_1 o5_2 q14
    refine ⟨rfl, rfl, ?_⟩
    obtain ⟨q15, h⟩ := h
    refine run_w (ws_call (xs := [.tmp 21, .tmp 24, .tmp 27, .tmp 30]) (ids := [31]) rfl rfl rfl rfl (c_spec_l05Affine (1 + r1_0) r3_0 r4_0 r5_0 q15) rfl ?_ )
    rintro _ rfl
    refine ⟨rfl, ?_⟩
    refine run_w (ws_alloc (id := 7) rfl (Nat.le_of_ble_eq_true rfl) ⟨rfl, ?_⟩)
    refine run_w (ws_storeS rfl rfl (Nat.le_of_ble_eq_true rfl) rfl rfl rfl ⟨rfl, ?_⟩)
    refine run_nil ?_
    refine aw_seq ?_
    refine aw_gh (gh_to (n := 53) (σ' := [(7, ⟨[.hole], [(0, .ref 31)]⟩), (31, ⟨orows (tab (1 + r1_0) (fun x_ y_ => (r3_0 * x_ + r4_0 * y_ + r5_0) % (1 + r1_0))), []⟩), (4, ⟨[cnil], []⟩), (800, ⟨[.lst (bys o5_0), ci o5_1, cu o5_2], []⟩)]) (env' := [(0, .cell 800 0), (4, .cell 4 0), (5, .c (ci (1 + r1_0))), (6, .c (ci v6_1)), (7, .cell 7 0), (53, .cell 800 0), (54, .c (ci most))]) rfl rfl ⟨rfl, rfl, rfl, rfl, rfl, rfl, rfl, trivial⟩) ?_
    refine aw_region ?_
    refine run_s (ss_loadS rfl rfl rfl rfl) rfl ?_
    obtain ⟨q17, h⟩ := h
    refine run_w (ws_callR (xs := [.tmp 32]) (cs := [.agg [.own (orows (tab (1 + r1_0) (fun x_ y_ => (r3_0 * x_ + r4_0 * y_ + r5_0) % (1 + r1_0))))]]) (ids := []) rfl (.inr ⟨rfl, rfl⟩) rfl rfl (fz_cons (fz_agg (fz_cons (fz_own (fz_map (fun _ => (fz_own (fz_map (fun _ => rfl) _))) _)) fz_nil)) fz_nil) (c_spec_l05Is (tab (1 + r1_0) (fun x_ y_ => (r3_0 * x_ + r4_0 * y_ + r5_0) % (1 + r1_0))) q17) rfl ?_ )
    rintro _ rfl
    refine ⟨rfl, rfl, ?_⟩
    refine run_nil ?_
    refine aw_cond rfl (fun q19 => ?_) (fun q19 => ?_)
    ·replace h := h.1 (q19)
     refine aw_seq ?_
     refine aw_gh (gh_to (n := 53) (σ' := [(7, ⟨[.hole], [(0, .ref 31)]⟩), (31, ⟨orows (tab (1 + r1_0) (fun x_ y_ => (r3_0 * x_ + r4_0 * y_ + r5_0) % (1 + r1_0))), []⟩), (4, ⟨[cnil], []⟩), (800, ⟨[.lst (bys o5_0), ci o5_1, cu o5_2], []⟩)]) (env' := [(4, .cell 4 0), (7, .cell 7 0), (53, .cell 800 0), (54, .c (ci most))]) rfl rfl ⟨rfl, rfl, rfl, rfl, trivial⟩) ?_
     refine aw_region ?_
     refine run_s (ss_loadS rfl rfl rfl rfl) rfl ?_
     refine run_w (ws_storeS rfl rfl (Nat.le_of_ble_eq_true rfl) rfl rfl rfl ⟨rfl, ?_⟩)
     refine run_nil ?_
     refine aw_ret ?_
     exact retAM_mk (retv1 rfl (rv_struct rfl rfl rfl)) rfl rfl rfl ⟨_, _, _, _, h, rfl, rfl⟩
    ·replace h := h.2 (q19)
     refine aw_skip ?_
     refine aw_region ?_
     refine run_s (ss_move rfl) rfl ?_
     obtain ⟨q20, h⟩ := h
     refine run_s (ss_add rfl rfl q20) rfl ?_
     refine run_s (ss_assign rfl) rfl ?_
     refine run_nil ?_
     exact ⟨v6_1 + 1, o5_0, o5_1, o5_2, ghe_step (gh_unhole (id := 7) rfl) (ghe_step (gh_freeze (id := 7) rfl rfl) (ghe_step (gh_frzE (id := 31) (fun r => C.lst (ints r)) rfl (fun _ => (fz_own (fz_map (fun _ => rfl) _)))) (ghe_to (n := 53) rfl rfl ⟨rfl, rfl, rfl, rfl, rfl, rfl, trivial⟩))), h.1, h.2⟩
   ·replace h := h.2 (of_decide_eq_false q8)
    refine aw_exit ?_
    refine aw_seq ?_
    refine aw_seq ?_
    refine aw_region ?_
    refine run_s (ss_assign rfl) rfl ?_
    refine run_nil ?_
    refine aw_block ?_
    obtain ⟨H2, m2, q21, h⟩ := h
    refine aw_loop4 (fun (v8_2 : Int) (f800_0_2 : List Int) (f800_1_2 : Int) (f800_2_2 : Int) => ⟨[(4, ⟨[cnil], []⟩), (800, ⟨[.lst (bys f800_0_2), ci f800_1_2, cu f800_2_2], []⟩)], [(0, .cell 800 0), (4, .cell 4 0), (5, .c (ci (1 + r1_0))), (8, .c (ci v8_2)), (53, .cell 800 0), (54, .c (ci most))], 53⟩) H2 m2 ⟨0, f800_0_1, f800_1_1, f800_2_1, ghe_to (n := 53) rfl rfl ⟨rfl, rfl, rfl, rfl, rfl, rfl, trivial⟩, q21⟩ ?_
    rintro v8_2 f800_0_2 f800_1_2 f800_2_2 q21
    replace h := h v8_2 f800_0_2 f800_1_2 f800_2_2 q21
    refine aw_seq ?_
    refine aw_seq ?_
    refine aw_region ?_
    refine run_s (ss_move rfl) rfl ?_
    refine run_s (ss_lss rfl rfl) rfl ?_
    refine run_nil ?_
    refine aw_cond rfl (fun q22 => ?_) (fun q22 => ?_)
    ·replace h := h.1 (of_decide_eq_true q22)
     refine aw_skip ?_
     refine aw_seq ?_
     refine aw_block ?_
     refine aw_seq ?_
     refine aw_region ?_
     refine run_s (ss_move rfl) rfl ?_
     refine run_s (ss_move rfl) rfl ?_
     obtain ⟨q23, h⟩ := h
     refine run_w (ws_callM (xs := [.tmp 39, .tmp 40]) (cs := [.obox [.lst (bys f800_0_2), ci f800_1_2, cu f800_2_2], ci (1 + r1_0)]) (ids := [41, 1001]) rfl (.inr ⟨rfl, rfl⟩) rfl rfl rfl (c_spec_l02Draw f800_0_2 f800_1_2 f800_2_2 (1 + r1_0) q23) rfl rfl ?_ )
     rintro _ _ ⟨r6_0, r6_1, o6_0, o6_1, o6_2, q24, rfl, rfl⟩
     replace h := h r6_0 r6_1 o6_0 o6_1 o6_2 q24
     refine ⟨rfl, rfl, ?_⟩
     refine run_w (ws_alloc (id := 9) rfl (Nat.le_of_ble_eq_true rfl) ⟨rfl, ?_⟩)
     refine run_w (ws_storeN rfl rfl (Nat.le_of_ble_eq_true rfl) rfl rfl rfl rfl ⟨rfl, ?_⟩)
     refine run_nil ?_
     refine aw_seq ?_
     refine aw_region ?_
     refine run_s (ss_loadS rfl rfl rfl rfl) rfl ?_
     obtain ⟨q25, h⟩ := h
     refine run_w (ws_callR (xs := [.tmp 42]) (cs := [.agg [.own (orows r6_0), .own (orows r6_1)]]) (ids := []) rfl (.inr ⟨rfl, rfl⟩) rfl rfl (fz_cons (fz_agg (fz_cons (fz_own (fz_map (fun _ => (fz_own (fz_map (fun _ => rfl) _))) _)) (fz_cons (fz_own (fz_map (fun _ => (fz_own (fz_map (fun _ => rfl) _))) _)) fz_nil))) fz_nil) (c_spec_l02Good r6_0 r6_1 q25) rfl ?_ )
     rintro _ rfl
     refine ⟨rfl, rfl, ?_⟩
     refine run_s (ss_move rfl) rfl ?_
     refine run_split (s := 44) rfl (fun q27 => ?_) (fun q27 => ?_)
     ·replace h := h.1 (q27)
      refine run_gt rfl rfl q27 ?_
      refine run_s (ss_loadS rfl rfl rfl rfl) rfl ?_
      refine run_gt rfl rfl q27 ?_
      obtain ⟨q28, h⟩ := h
      refine run_w (ws_callR (xs := [.tmp 45]) (cs := [.agg [.own (orows r6_0), .own (orows r6_1)]]) (ids := []) rfl (.inr ⟨rfl, rfl⟩) rfl rfl (fz_cons (fz_agg (fz_cons (fz_own (fz_map (fun _ => (fz_own (fz_map (fun _ => rfl) _))) _)) (fz_cons (fz_own (fz_map (fun _ => (fz_own (fz_map (fun _ => rfl) _))) _)) fz_nil))) fz_nil) (c_spec_l02Twice r6_0 r6_1 q28) rfl ?_ )
      rintro _ rfl
      refine ⟨rfl, rfl, ?_⟩
      refine run_s (ss_pickT rfl q27 rfl) rfl ?_
      refine run_nil ?_
      refine aw_cond rfl (fun q30 => ?_) (fun q30 => ?_)
      ·replace h := h.1 (q30)
       refine aw_seq ?_
       refine aw_gh (gh_to (n := 53) (σ' := [(9, ⟨[.hole, .hole], [(1, .ref 1001), (0, .ref 41)]⟩), (41, ⟨orows r6_0, []⟩), (1001, ⟨orows r6_1, []⟩), (4, ⟨[cnil], []⟩), (800, ⟨[.lst (bys o6_0), ci o6_1, cu o6_2], []⟩)]) (env' := [(4, .cell 4 0), (9, .cell 9 0), (53, .cell 800 0), (54, .c (ci most))]) rfl rfl ⟨rfl, rfl, rfl, rfl, trivial⟩) ?_
       refine aw_region ?_
       refine run_s (ss_loadS rfl rfl rfl rfl) rfl ?_
       obtain ⟨q31, h⟩ := h
       refine run_w (ws_callR (xs := [.tmp 48]) (cs := [.agg [.own (orows r6_0), .own (orows r6_1)]]) (ids := [49]) rfl (.inr ⟨rfl, rfl⟩) rfl rfl (fz_cons (fz_agg (fz_cons (fz_own (fz_map (fun _ => (fz_own (fz_map (fun _ => rfl) _))) _)) (fz_cons (fz_own (fz_map (fun _ => (fz_own (fz_map (fun _ => rfl) _))) _)) fz_nil))) fz_nil) (c_spec_l05Cycle r6_0 r6_1 q31) rfl ?_ )
       rintro _ rfl
       refine ⟨(slf_agg (slf_cons (slf_own (slfL_map (f := (fun r => C.own (ints r))) (fun _ => (slf_own (slfL_map (f := ci) (fun _ => rfl) _))) _)) slf_nil)), rfl, ?_⟩
       refine run_w (ws_storeS rfl rfl (Nat.le_of_ble_eq_true rfl) rfl rfl rfl ⟨rfl, ?_⟩)
       refine run_nil ?_
       refine aw_ret ?_
       exact retAM_mk (retv1 rfl (rv_struct rfl rfl rfl)) rfl rfl rfl ⟨_, _, _, _, h, rfl, rfl⟩
      ·replace h := h.2 (q30)
       refine aw_skip ?_
       refine aw_gh (gh_to (n := 53) (σ' := [(9, ⟨[.hole, .hole], [(1, .ref 1001), (0, .ref 41)]⟩), (41, ⟨orows r6_0, []⟩), (1001, ⟨orows r6_1, []⟩), (4, ⟨[cnil], []⟩), (800, ⟨[.lst (bys o6_0), ci o6_1, cu o6_2], []⟩)]) (env' := [(0, .cell 800 0), (4, .cell 4 0), (5, .c (ci (1 + r1_0))), (8, .c (ci v8_2)), (45, .agg [.ref 41, .ref 1001]), (46, .c (cb (ivB r6_0 r6_1))), (53, .cell 800 0), (54, .c (ci most))]) rfl rfl ⟨rfl, rfl, rfl, rfl, rfl, rfl, rfl, rfl, trivial⟩) ?_
       refine aw_region ?_
       refine run_s (ss_move rfl) rfl ?_
       obtain ⟨q33, h⟩ := h
       refine run_s (ss_add rfl rfl q33) rfl ?_
       refine run_s (ss_assign rfl) rfl ?_
       refine run_nil ?_
       exact ⟨v8_2 + 1, o6_0, o6_1, o6_2, ghe_step (gh_unhole (id := 9) rfl) (ghe_step (gh_freeze (id := 9) rfl rfl) (ghe_step (gh_frzE (id := 41) (fun r => C.lst (ints r)) rfl (fun _ => (fz_own (fz_map (fun _ => rfl) _)))) (ghe_step (gh_frzE (id := 1001) (fun r => C.lst (ints r)) rfl (fun _ => (fz_own (fz_map (fun _ => rfl) _)))) (ghe_to (n := 53) rfl rfl ⟨rfl, rfl, rfl, rfl, rfl, rfl, trivial⟩)))), h.1, h.2⟩
     ·replace h := h.2 (q27)
      refine run_gf rfl rfl q27 rfl ?_
      refine run_gf rfl rfl q27 rfl ?_
      refine run_s (ss_pickF rfl q27 rfl) rfl ?_
      refine run_nil ?_
      refine aw_cond rfl (fun q34 => ?_) (fun q34 => ?_)
      ·cases q34
      ·skip
       refine aw_skip ?_
       refine aw_gh (gh_to (n := 53) (σ' := [(9, ⟨[.hole, .hole], [(1, .ref 1001), (0, .ref 41)]⟩), (41, ⟨orows r6_0, []⟩), (1001, ⟨orows r6_1, []⟩), (4, ⟨[cnil], []⟩), (800, ⟨[.lst (bys o6_0), ci o6_1, cu o6_2], []⟩)]) (env' := [(0, .cell 800 0), (4, .cell 4 0), (5, .c (ci (1 + r1_0))), (8, .c (ci v8_2)), (53, .cell 800 0), (54, .c (ci most))]) rfl rfl ⟨rfl, rfl, rfl, rfl, rfl, rfl, trivial⟩) ?_
       refine aw_region ?_
       refine run_s (ss_move rfl) rfl ?_
       obtain ⟨q35, h⟩ := h
       refine run_s (ss_add rfl rfl q35) rfl ?_
       refine run_s (ss_assign rfl) rfl ?_
       refine run_nil ?_
       exact ⟨v8_2 + 1, o6_0, o6_1, o6_2, ghe_step (gh_unhole (id := 9) rfl) (ghe_step (gh_freeze (id := 9) rfl rfl) (ghe_step (gh_frzE (id := 41) (fun r => C.lst (ints r)) rfl (fun _ => (fz_own (fz_map (fun _ => rfl) _)))) (ghe_step (gh_frzE (id := 1001) (fun r => C.lst (ints r)) rfl (fun _ => (fz_own (fz_map (fun _ => rfl) _)))) (ghe_to (n := 53) rfl rfl ⟨rfl, rfl, rfl, rfl, rfl, rfl, trivial⟩)))), h.1, h.2⟩
    ·replace h := h.2 (of_decide_eq_false q22)
     refine aw_exit ?_
     refine aw_seq ?_
     refine aw_gh (gh_to (n := 53) (σ' := [(4, ⟨[cnil], []⟩), (800, ⟨[.lst (bys f800_0_2), ci f800_1_2, cu f800_2_2], []⟩)]) (env' := [(4, .cell 4 0), (5, .c (ci (1 + r1_0))), (53, .cell 800 0), (54, .c (ci most))]) rfl rfl ⟨rfl, rfl, rfl, rfl, trivial⟩) ?_
     refine aw_region ?_
     refine run_s (ss_move rfl) rfl ?_
     obtain ⟨q36, h⟩ := h
     refine run_w (ws_call (xs := [.tmp 50]) (ids := [51, 1002]) rfl rfl rfl rfl (c_spec_l02Flip (1 + r1_0) q36) rfl ?_ )
     rintro _ rfl
     refine ⟨rfl, ?_⟩
     obtain ⟨q38, h⟩ := h
     refine run_w (ws_callR (xs := [.tmp 51]) (cs := [.agg [.own (orows (tab (1 + r1_0) (fun _ y_ => y_))), .own (orows (tab (1 + r1_0) (fun x_ _ => x_)))]]) (ids := [52]) rfl (.inr ⟨rfl, rfl⟩) rfl rfl (fz_cons (fz_agg (fz_cons (fz_own (fz_map (fun _ => (fz_own (fz_map (fun _ => rfl) _))) _)) (fz_cons (fz_own (fz_map (fun _ => (fz_own (fz_map (fun _ => rfl) _))) _)) fz_nil))) fz_nil) (c_spec_l05Cycle (tab (1 + r1_0) (fun _ y_ => y_)) (tab (1 + r1_0) (fun x_ _ => x_)) q38) rfl ?_ )
     rintro _ rfl
     refine ⟨(slf_agg (slf_cons (slf_own (slfL_map (f := (fun r => C.own (ints r))) (fun _ => (slf_own (slfL_map (f := ci) (fun _ => rfl) _))) _)) slf_nil)), rfl, ?_⟩
     refine run_w (ws_storeS rfl rfl (Nat.le_of_ble_eq_true rfl) rfl rfl rfl ⟨rfl, ?_⟩)
     refine run_nil ?_
     refine aw_ret ?_
     exact retAM_mk (retv1 rfl (rv_struct rfl rfl rfl)) rfl rfl rfl ⟨_, _, _, _, h, rfl, rfl⟩
  ·replace h := h.2 (of_decide_eq_false q6)
   refine aw_skip ?_
   refine aw_seq ?_
   refine aw_seq ?_
   refine aw_gh (gh_to (n := 53) (σ' := [(4, ⟨[cnil], []⟩), (800, ⟨[.lst (bys o2_0), ci o2_1, cu o2_2], []⟩)]) (env' := [(0, .cell 800 0), (4, .cell 4 0), (5, .c (ci (1 + r1_0))), (53, .cell 800 0), (54, .c (ci most))]) rfl rfl ⟨rfl, rfl, rfl, rfl, rfl, trivial⟩) ?_
   refine aw_region ?_
   refine run_s (ss_assign rfl) rfl ?_
   refine run_nil ?_
   refine aw_block ?_
   obtain ⟨H3, m3, q40, h⟩ := h
   refine aw_loop4 (fun (v8_1 : Int) (f800_0_1 : List Int) (f800_1_1 : Int) (f800_2_1 : Int) => ⟨[(4, ⟨[cnil], []⟩), (800, ⟨[.lst (bys f800_0_1), ci f800_1_1, cu f800_2_1], []⟩)], [(0, .cell 800 0), (4, .cell 4 0), (5, .c (ci (1 + r1_0))), (8, .c (ci v8_1)), (53, .cell 800 0), (54, .c (ci most))], 53⟩) H3 m3 ⟨0, o2_0, o2_1, o2_2, ghe_to (n := 53) rfl rfl ⟨rfl, rfl, rfl, rfl, rfl, rfl, trivial⟩, q40⟩ ?_
   rintro v8_1 f800_0_1 f800_1_1 f800_2_1 q40
   replace h := h v8_1 f800_0_1 f800_1_1 f800_2_1 q40
   refine aw_seq ?_
   refine aw_seq ?_
   refine aw_region ?_
   refine run_s (ss_move rfl) rfl ?_
   refine run_s (ss_lss rfl rfl) rfl ?_
   refine run_nil ?_
   refine aw_cond rfl (fun q41 => ?_) (fun q41 => ?_)
   ·replace h := h.1 (of_decide_eq_true q41)
    refine aw_skip ?_
    refine aw_seq ?_
    refine aw_block ?_
    refine aw_seq ?_
    refine aw_region ?_
    refine run_s (ss_move rfl) rfl ?_
    refine run_s (ss_move rfl) rfl ?_
    obtain ⟨q42, h⟩ := h
    refine run_w (ws_callM (xs := [.tmp 39, .tmp 40]) (cs := [.obox [.lst (bys f800_0_1), ci f800_1_1, cu f800_2_1], ci (1 + r1_0)]) (ids := [41, 1003]) rfl (.inr ⟨rfl, rfl⟩) rfl rfl rfl (c_spec_l02Draw f800_0_1 f800_1_1 f800_2_1 (1 + r1_0) q42) rfl rfl ?_ )
    rintro _ _ ⟨r7_0, r7_1, o7_0, o7_1, o7_2, q43, rfl, rfl⟩
    replace h := h r7_0 r7_1 o7_0 o7_1 o7_2 q43
    refine ⟨rfl, rfl, ?_⟩
    refine run_w (ws_alloc (id := 9) rfl (Nat.le_of_ble_eq_true rfl) ⟨rfl, ?_⟩)
    refine run_w (ws_storeN rfl rfl (Nat.le_of_ble_eq_true rfl) rfl rfl rfl rfl ⟨rfl, ?_⟩)
    refine run_nil ?_
    refine aw_seq ?_
    refine aw_region ?_
    refine run_s (ss_loadS rfl rfl rfl rfl) rfl ?_
    obtain ⟨q44, h⟩ := h
    refine run_w (ws_callR (xs := [.tmp 42]) (cs := [.agg [.own (orows r7_0), .own (orows r7_1)]]) (ids := []) rfl (.inr ⟨rfl, rfl⟩) rfl rfl (fz_cons (fz_agg (fz_cons (fz_own (fz_map (fun _ => (fz_own (fz_map (fun _ => rfl) _))) _)) (fz_cons (fz_own (fz_map (fun _ => (fz_own (fz_map (fun _ => rfl) _))) _)) fz_nil))) fz_nil) (c_spec_l02Good r7_0 r7_1 q44) rfl ?_ )
    rintro _ rfl
    refine ⟨rfl, rfl, ?_⟩
    refine run_s (ss_move rfl) rfl ?_
    refine run_split (s := 44) rfl (fun q46 => ?_) (fun q46 => ?_)
    ·replace h := h.1 (q46)
     refine run_gt rfl rfl q46 ?_
     refine run_s (ss_loadS rfl rfl rfl rfl) rfl ?_
     refine run_gt rfl rfl q46 ?_
     obtain ⟨q47, h⟩ := h
     refine run_w (ws_callR (xs := [.tmp 45]) (cs := [.agg [.own (orows r7_0), .own (orows r7_1)]]) (ids := []) rfl (.inr ⟨rfl, rfl⟩) rfl rfl (fz_cons (fz_agg (fz_cons (fz_own (fz_map (fun _ => (fz_own (fz_map (fun _ => rfl) _))) _)) (fz_cons (fz_own (fz_map (fun _ => (fz_own (fz_map (fun _ => rfl) _))) _)) fz_nil))) fz_nil) (c_spec_l02Twice r7_0 r7_1 q47) rfl ?_ )
     rintro _ rfl
     refine ⟨rfl, rfl, ?_⟩
     refine run_s (ss_pickT rfl q46 rfl) rfl ?_
     refine run_nil ?_
     refine aw_cond rfl (fun q49 => ?_) (fun q49 => ?_)
     ·replace h := h.1 (q49)
      refine aw_seq ?_
      refine aw_gh (gh_to (n := 53) (σ' := [(9, ⟨[.hole, .hole], [(1, .ref 1003), (0, .ref 41)]⟩), (41, ⟨orows r7_0, []⟩), (1003, ⟨orows r7_1, []⟩), (4, ⟨[cnil], []⟩), (800, ⟨[.lst (bys o7_0), ci o7_1, cu o7_2], []⟩)]) (env' := [(4, .cell 4 0), (9, .cell 9 0), (53, .cell 800 0), (54, .c (ci most))]) rfl rfl ⟨rfl, rfl, rfl, rfl, trivial⟩) ?_
      refine aw_region ?_
      refine run_s (ss_loadS rfl rfl rfl rfl) rfl ?_
      obtain ⟨q50, h⟩ := h
      refine run_w (ws_callR (xs := [.tmp 48]) (cs := [.agg [.own (orows r7_0), .own (orows r7_1)]]) (ids := [49]) rfl (.inr ⟨rfl, rfl⟩) rfl rfl (fz_cons (fz_agg (fz_cons (fz_own (fz_map (fun _ => (fz_own (fz_map (fun _ => rfl) _))) _)) (fz_cons (fz_own (fz_map (fun _ => (fz_own (fz_map (fun _ => rfl) _))) _)) fz_nil))) fz_nil) (c_spec_l05Cycle r7_0 r7_1 q50) rfl ?_ )
      rintro _ rfl
      refine ⟨(slf_agg (slf_cons (slf_own (slfL_map (f := (fun r => C.own (ints r))) (fun _ => (slf_own (slfL_map (f := ci) (fun _ => rfl) _))) _)) slf_nil)), rfl, ?_⟩
      refine run_w (ws_storeS rfl rfl (Nat.le_of_ble_eq_true rfl) rfl rfl rfl ⟨rfl, ?_⟩)
      refine run_nil ?_
      refine aw_ret ?_
      exact retAM_mk (retv1 rfl (rv_struct rfl rfl rfl)) rfl rfl rfl ⟨_, _, _, _, h, rfl, rfl⟩
     ·replace h := h.2 (q49)
      refine aw_skip ?_
      refine aw_gh (gh_to (n := 53) (σ' := [(9, ⟨[.hole, .hole], [(1, .ref 1003), (0, .ref 41)]⟩), (41, ⟨orows r7_0, []⟩), (1003, ⟨orows r7_1, []⟩), (4, ⟨[cnil], []⟩), (800, ⟨[.lst (bys o7_0), ci o7_1, cu o7_2], []⟩)]) (env' := [(0, .cell 800 0), (4, .cell 4 0), (5, .c (ci (1 + r1_0))), (8, .c (ci v8_1)), (45, .agg [.ref 41, .ref 1003]), (46, .c (cb (ivB r7_0 r7_1))), (53, .cell 800 0), (54, .c (ci most))]) rfl rfl ⟨rfl, rfl, rfl, rfl, rfl, rfl, rfl, rfl, trivial⟩) ?_
      refine aw_region ?_
      refine run_s (ss_move rfl) rfl ?_
      obtain ⟨q52, h⟩ := h
      refine run_s (ss_add rfl rfl q52) rfl ?_
      refine run_s (ss_assign rfl) rfl ?_
      refine run_nil ?_
      exact ⟨v8_1 + 1, o7_0, o7_1, o7_2, ghe_step (gh_unhole (id := 9) rfl) (ghe_step (gh_freeze (id := 9) rfl rfl) (ghe_step (gh_frzE (id := 41) (fun r => C.lst (ints r)) rfl (fun _ => (fz_own (fz_map (fun _ => rfl) _)))) (ghe_step (gh_frzE (id := 1003) (fun r => C.lst (ints r)) rfl (fun _ => (fz_own (fz_map (fun _ => rfl) _)))) (ghe_to (n := 53) rfl rfl ⟨rfl, rfl, rfl, rfl, rfl, rfl, trivial⟩)))), h.1, h.2⟩
    ·replace h := h.2 (q46)
     refine run_gf rfl rfl q46 rfl ?_
     refine run_gf rfl rfl q46 rfl ?_
     refine run_s (ss_pickF rfl q46 rfl) rfl ?_
     refine run_nil ?_
     refine aw_cond rfl (fun q53 => ?_) (fun q53 => ?_)
     ·cases q53
     ·skip
      refine aw_skip ?_
      refine aw_gh (gh_to (n := 53) (σ' := [(9, ⟨[.hole, .hole], [(1, .ref 1003), (0, .ref 41)]⟩), (41, ⟨orows r7_0, []⟩), (1003, ⟨orows r7_1, []⟩), (4, ⟨[cnil], []⟩), (800, ⟨[.lst (bys o7_0), ci o7_1, cu o7_2], []⟩)]) (env' := [(0, .cell 800 0), (4, .cell 4 0), (5, .c (ci (1 + r1_0))), (8, .c (ci v8_1)), (53, .cell 800 0), (54, .c (ci most))]) rfl rfl ⟨rfl, rfl, rfl, rfl, rfl, rfl, trivial⟩) ?_
      refine aw_region ?_
      refine run_s (ss_move rfl) rfl ?_
      obtain ⟨q54, h⟩ := h
      refine run_s (ss_add rfl rfl q54) rfl ?_
      refine run_s (ss_assign rfl) rfl ?_
      refine run_nil ?_
      exact ⟨v8_1 + 1, o7_0, o7_1, o7_2, ghe_step (gh_unhole (id := 9) rfl) (ghe_step (gh_freeze (id := 9) rfl rfl) (ghe_step (gh_frzE (id := 41) (fun r => C.lst (ints r)) rfl (fun _ => (fz_own (fz_map (fun _ => rfl) _)))) (ghe_step (gh_frzE (id := 1003) (fun r => C.lst (ints r)) rfl (fun _ => (fz_own (fz_map (fun _ => rfl) _)))) (ghe_to (n := 53) rfl rfl ⟨rfl, rfl, rfl, rfl, rfl, rfl, trivial⟩)))), h.1, h.2⟩
   ·replace h := h.2 (of_decide_eq_false q41)
    refine aw_exit ?_
    refine aw_seq ?_
    refine aw_gh (gh_to (n := 53) (σ' := [(4, ⟨[cnil], []⟩), (800, ⟨[.lst (bys f800_0_1), ci f800_1_1, cu f800_2_1], []⟩)]) (env' := [(4, .cell 4 0), (5, .c (ci (1 + r1_0))), (53, .cell 800 0), (54, .c (ci most))]) rfl rfl ⟨rfl, rfl, rfl, rfl, trivial⟩) ?_
    refine aw_region ?_
    refine run_s (ss_move rfl) rfl ?_
    obtain ⟨q55, h⟩ := h
    refine run_w (ws_call (xs := [.tmp 50]) (ids := [51, 1004]) rfl rfl rfl rfl (c_spec_l02Flip (1 + r1_0) q55) rfl ?_ )
    rintro _ rfl
    refine ⟨rfl, ?_⟩
    obtain ⟨q57, h⟩ := h
    refine run_w (ws_callR (xs := [.tmp 51]) (cs := [.agg [.own (orows (tab (1 + r1_0) (fun _ y_ => y_))), .own (orows (tab (1 + r1_0) (fun x_ _ => x_)))]]) (ids := [52]) rfl (.inr ⟨rfl, rfl⟩) rfl rfl (fz_cons (fz_agg (fz_cons (fz_own (fz_map (fun _ => (fz_own (fz_map (fun _ => rfl) _))) _)) (fz_cons (fz_own (fz_map (fun _ => (fz_own (fz_map (fun _ => rfl) _))) _)) fz_nil))) fz_nil) (c_spec_l05Cycle (tab (1 + r1_0) (fun _ y_ => y_)) (tab (1 + r1_0) (fun x_ _ => x_)) q57) rfl ?_ )
    rintro _ rfl
    refine ⟨(slf_agg (slf_cons (slf_own (slfL_map (f := (fun r => C.own (ints r))) (fun _ => (slf_own (slfL_map (f := ci) (fun _ => rfl) _))) _)) slf_nil)), rfl, ?_⟩
    refine run_w (ws_storeS rfl rfl (Nat.le_of_ble_eq_true rfl) rfl rfl rfl ⟨rfl, ?_⟩)
    refine run_nil ?_
    refine aw_ret ?_
    exact retAM_mk (retv1 rfl (rv_struct rfl rfl rfl)) rfl rfl rfl ⟨_, _, _, _, h, rfl, rfl⟩

theorem c_spec_l05Any (s1 : List Int) (s2 : Int) (s3 : Int) (most : Int) (hp : okS s1 s2 s3 ∧ 1 ≤ most ∧ most ≤ 12) : AM Try.prog 170 [.obox [.lst (bys s1), ci s2, cu s3], ci most] (fun R_ O_ => ∃ y0 w0 w1 w2, ((isTab y0 = true ∧ (y0.length : Int) ≤ most ∧ y0.all isPerm = true) ∧ w0 = s1 ∧ okS s1 w1 w2) ∧ R_ = .agg [.own (orows y0)] ∧ O_ = [.obox [.lst (bys w0), ci w1, cu w2], ci most]) :=
  w_spec_l05Any s1 s2 s3 most (fun y0 w0 w1 w2 => (isTab y0 = true ∧ (y0.length : Int) ≤ most ∧ y0.all isPerm = true) ∧ w0 = s1 ∧ okS s1 w1 w2) (p_spec_l05Any s1 s2 s3 most hp)

set_option maxRecDepth 100000 in
set_option maxHeartbeats 4000000 in
theorem w_spec_l05Draw (s1 : List Int) (s2 : Int) (s3 : Int) (most : Int) (Q : List (List Int) → List Int → Int → Int → Prop) (h : wp_spec_l05Draw s1 s2 s3 most Q) : AM Try.prog 140 [.obox [.lst (bys s1), ci s2, cu s3], ci most] (fun R_ O_ => ∃ y0 w0 w1 w2, Q y0 w0 w1 w2 ∧ R_ = .agg [.own (orows y0)] ∧ O_ = [.obox [.lst (bys w0), ci w1, cu w2], ci most]) := by
  refine am_enter (n := 22) (m := 2) Try.func140 rfl (by rfl) rfl rfl (Nat.le_of_ble_eq_true rfl) [800] rfl ?_
  unfold wp_spec_l05Draw at h
  refine aw_seq ?_
  refine aw_gh (gh_to (n := 22) (σ' := [(800, ⟨[.lst (bys s1), ci s2, cu s3], []⟩)]) (env' := [(0, .cell 800 0), (1, .c (ci most)), (22, .cell 800 0), (23, .c (ci most))]) rfl rfl ⟨rfl, rfl, rfl, rfl, trivial⟩) ?_
  refine aw_region ?_
  refine run_w (ws_alloc (id := 4) rfl (Nat.le_of_ble_eq_true rfl) ⟨rfl, ?_⟩)
  refine run_nil ?_
  refine aw_seq ?_
  refine aw_region ?_
  refine run_s (ss_move rfl) rfl ?_
  refine run_s (ss_move rfl) rfl ?_
  obtain ⟨q1, h⟩ := h
  refine run_w (ws_callM (xs := [.tmp 6, .tmp 7]) (cs := [.obox [.lst (bys s1), ci s2, cu s3], ci most]) (ids := [8]) rfl (.inr ⟨rfl, rfl⟩) rfl rfl rfl (c_spec_l05Any s1 s2 s3 most q1) rfl rfl ?_ )
  rintro _ _ ⟨r1_0, o1_0, o1_1, o1_2, q2, rfl, rfl⟩
  replace h := h r1_0 o1_0 o1_1 o1_2 q2
  refine ⟨rfl, rfl, ?_⟩
  refine run_w (ws_alloc (id := 5) rfl (Nat.le_of_ble_eq_true rfl) ⟨rfl, ?_⟩)
  refine run_w (ws_storeS rfl rfl (Nat.le_of_ble_eq_true rfl) rfl rfl rfl ⟨rfl, ?_⟩)
  refine run_nil ?_
  refine aw_seq ?_
  refine aw_seq ?_
  refine aw_gh (gh_to (n := 22) (σ' := [(5, ⟨[.hole], [(0, .ref 8)]⟩), (8, ⟨orows r1_0, []⟩), (4, ⟨[cnil], []⟩), (800, ⟨[.lst (bys o1_0), ci o1_1, cu o1_2], []⟩)]) (env' := [(0, .cell 800 0), (4, .cell 4 0), (5, .cell 5 0), (22, .cell 800 0), (23, .c (ci most))]) rfl rfl ⟨rfl, rfl, rfl, rfl, rfl, trivial⟩) ?_
  refine aw_region ?_
  refine run_s (ss_move rfl) rfl ?_
  obtain ⟨q3, h⟩ := h
  refine run_w (ws_callM (xs := [.tmp 9, .const (.int .i64 (3))]) (cs := [.obox [.lst (bys o1_0), ci o1_1, cu o1_2], ci 3]) (ids := []) rfl (.inr ⟨rfl, rfl⟩) rfl rfl rfl (c_spec_l01Next o1_0 o1_1 o1_2 3 q3) rfl rfl ?_ )
  rintro _ _ ⟨r2_0, o2_0, o2_1, o2_2, q4, rfl, rfl⟩
  replace h := h r2_0 o2_0 o2_1 o2_2 q4
  refine ⟨rfl, rfl, ?_⟩
  refine run_s (ss_gtr rfl rfl) rfl ?_
  refine run_nil ?_
  refine aw_cond rfl (fun q5 => ?_) (fun q5 => ?_)
  ·replace h := h.1 (of_decide_eq_true q5)
   refine aw_seq ?_
   refine aw_gh (gh_to (n := 22) (σ' := [(5, ⟨[.hole], [(0, .ref 8)]⟩), (8, ⟨orows r1_0, []⟩), (4, ⟨[cnil], []⟩), (800, ⟨[.lst (bys o2_0), ci o2_1, cu o2_2], []⟩)]) (env' := [(0, .cell 800 0), (4, .cell 4 0), (5, .cell 5 0), (22, .cell 800 0), (23, .c (ci most))]) rfl rfl ⟨rfl, rfl, rfl, rfl, rfl, trivial⟩) ?_
   refine aw_regionD (kd := kdl [0, 1, 0, 0, 1, 0, 2, 2, 0, 3]) (ord := [0, 2, 3, 1, 4, 5, 6, 7, 8, 9]) [800] mixed (by kernel_rfl) ?_
   refine rd_s rfl rfl trivial (ss_field_cell rfl) rfl ?_
   refine rd_s rfl rfl trivial (ss_move rfl) rfl ?_
   refine rd_s rfl rfl trivial (ss_field_cell rfl) rfl ?_
   refine rd_l rfl rfl trivial (ss_loadH rfl rfl rfl rfl) rfl ?_
   refine rd_l rfl rfl trivial (ss_loadH rfl rfl rfl rfl) rfl ?_
   refine rd_s rfl rfl trivial (ss_lenR (f := (fun r => C.own (ints r))) rfl rfl) rfl ?_
   obtain ⟨q6, h⟩ := h
   refine rd_w rfl rfl trivial rfl rfl (ws_callM (xs := [.tmp 14, .tmp 17]) (cs := [.obox [.lst (bys o2_0), ci o2_1, cu o2_2], ci (r1_0.length : Int)]) (ids := [18]) rfl (.inr ⟨rfl, rfl⟩) rfl rfl rfl (c_spec_l01Draw o2_0 o2_1 o2_2 (r1_0.length : Int) q6) rfl rfl ?_ )
   rintro _ _ ⟨r3_0, o3_0, o3_1, o3_2, q7, rfl, rfl⟩
   replace h := h r3_0 o3_0 o3_1 o3_2 q7
   refine ⟨rfl, rfl, ?_⟩
   obtain ⟨q8, h⟩ := h
   refine rd_w rfl rfl trivial rfl rfl (ws_callR (xs := [.tmp 13, .tmp 18]) (cs := [.own (orows r1_0), .own (ints r3_0)]) (ids := [19]) rfl (.inr ⟨rfl, rfl⟩) rfl rfl (fz_cons (fz_own (fz_map (fun _ => (fz_own (fz_map (fun _ => rfl) _))) _)) (fz_cons (fz_own (fz_map (fun _ => rfl) _)) fz_nil)) (c_spec_l01Rename r1_0 r3_0 q8) rfl ?_ )
   rintro _ rfl
   refine ⟨(slf_own (slfL_map (f := (fun r => C.own (ints r))) (fun _ => (slf_own (slfL_map (f := ci) (fun _ => rfl) _))) _)), rfl, ?_⟩
   refine rd_s rfl rfl trivial (ss_build (ps := [(0, .tmp 19)]) rfl rfl) rfl ?_
   refine rd_f rfl rfl trivial (ws_storeS rfl rfl (Nat.le_of_ble_eq_true rfl) rfl rfl rfl ⟨rfl, ?_⟩)
   refine rd_nil ?_
   refine aw_ret ?_
   exact retAM_mk (retv1 rfl (rv_struct rfl rfl rfl)) rfl rfl rfl ⟨_, _, _, _, h, rfl, rfl⟩
  ·replace h := h.2 (of_decide_eq_false q5)
   refine aw_skip ?_
   refine aw_seq ?_
   refine aw_gh (gh_to (n := 22) (σ' := [(5, ⟨[.hole], [(0, .ref 8)]⟩), (8, ⟨orows r1_0, []⟩), (4, ⟨[cnil], []⟩), (800, ⟨[.lst (bys o2_0), ci o2_1, cu o2_2], []⟩)]) (env' := [(4, .cell 4 0), (5, .cell 5 0), (22, .cell 800 0), (23, .c (ci most))]) rfl rfl ⟨rfl, rfl, rfl, rfl, trivial⟩) ?_
   refine aw_region ?_
   refine run_s (ss_loadS rfl rfl rfl rfl) rfl ?_
   refine run_w (ws_storeS rfl rfl (Nat.le_of_ble_eq_true rfl) rfl rfl rfl ⟨rfl, ?_⟩)
   refine run_nil ?_
   refine aw_ret ?_
   exact retAM_mk (retv1 rfl (rv_struct rfl rfl rfl)) rfl rfl rfl ⟨_, _, _, _, h, rfl, rfl⟩

theorem c_spec_l05Draw (s1 : List Int) (s2 : Int) (s3 : Int) (most : Int) (hp : okS s1 s2 s3 ∧ 1 ≤ most ∧ most ≤ 12) : AM Try.prog 140 [.obox [.lst (bys s1), ci s2, cu s3], ci most] (fun R_ O_ => ∃ y0 w0 w1 w2, ((isTab y0 = true ∧ (y0.length : Int) ≤ most ∧ y0.all isPerm = true) ∧ w0 = s1 ∧ okS s1 w1 w2) ∧ R_ = .agg [.own (orows y0)] ∧ O_ = [.obox [.lst (bys w0), ci w1, cu w2], ci most]) :=
  w_spec_l05Draw s1 s2 s3 most (fun y0 w0 w1 w2 => (isTab y0 = true ∧ (y0.length : Int) ≤ most ∧ y0.all isPerm = true) ∧ w0 = s1 ∧ okS s1 w1 w2) (p_spec_l05Draw s1 s2 s3 most hp)

set_option maxRecDepth 100000 in
set_option maxHeartbeats 4000000 in
theorem w_spec_l05Spoil (s1 : List Int) (s2 : Int) (s3 : Int) (most : Int) (Q : List (List Int) → List Int → Int → Int → Prop) (h : wp_spec_l05Spoil s1 s2 s3 most Q) : AM Try.prog 112 [.obox [.lst (bys s1), ci s2, cu s3], ci most] (fun R_ O_ => ∃ y0 w0 w1 w2, Q y0 w0 w1 w2 ∧ R_ = .agg [.own (orows y0)] ∧ O_ = [.obox [.lst (bys w0), ci w1, cu w2], ci most]) := by
  refine am_enter (n := 51) (m := 2) Try.func112 rfl (by rfl) rfl rfl (Nat.le_of_ble_eq_true rfl) [800] rfl ?_
  unfold wp_spec_l05Spoil at h
  refine aw_seq ?_
  refine aw_gh (gh_to (n := 51) (σ' := [(800, ⟨[.lst (bys s1), ci s2, cu s3], []⟩)]) (env' := [(0, .cell 800 0), (1, .c (ci most)), (51, .cell 800 0), (52, .c (ci most))]) rfl rfl ⟨rfl, rfl, rfl, rfl, trivial⟩) ?_
  refine aw_region ?_
  refine run_w (ws_alloc (id := 4) rfl (Nat.le_of_ble_eq_true rfl) ⟨rfl, ?_⟩)
  refine run_nil ?_
  refine aw_seq ?_
  refine aw_region ?_
  refine run_s (ss_move rfl) rfl ?_
  refine run_s (ss_move rfl) rfl ?_
  obtain ⟨q1, h⟩ := h
  refine run_w (ws_callM (xs := [.tmp 8, .tmp 9]) (cs := [.obox [.lst (bys s1), ci s2, cu s3], ci most]) (ids := [10]) rfl (.inr ⟨rfl, rfl⟩) rfl rfl rfl (c_spec_l05Draw s1 s2 s3 most q1) rfl rfl ?_ )
  rintro _ _ ⟨r1_0, o1_0, o1_1, o1_2, q2, rfl, rfl⟩
  replace h := h r1_0 o1_0 o1_1 o1_2 q2
  refine ⟨rfl, rfl, ?_⟩
  refine run_w (ws_alloc (id := 5) rfl (Nat.le_of_ble_eq_true rfl) ⟨rfl, ?_⟩)
  refine run_w (ws_storeS rfl rfl (Nat.le_of_ble_eq_true rfl) rfl rfl rfl ⟨rfl, ?_⟩)
  refine run_nil ?_
  refine aw_seq ?_
  refine aw_region ?_
  refine run_s (ss_field_cell rfl) rfl ?_
  refine run_s (ss_loadH rfl rfl rfl rfl) rfl ?_
  refine run_s (ss_lenR (f := (fun r => C.own (ints r))) rfl rfl) rfl ?_
  refine run_s (ss_assign rfl) rfl ?_
  refine run_nil ?_
  refine aw_seq ?_
  refine aw_seq ?_
  refine aw_gh (gh_to (n := 51) (σ' := [(5, ⟨[.hole], [(0, .ref 10)]⟩), (10, ⟨orows r1_0, []⟩), (4, ⟨[cnil], []⟩), (800, ⟨[.lst (bys o1_0), ci o1_1, cu o1_2], []⟩)]) (env' := [(0, .cell 800 0), (4, .cell 4 0), (5, .cell 5 0), (6, .c (ci (r1_0.length : Int))), (51, .cell 800 0), (52, .c (ci most))]) rfl rfl ⟨rfl, rfl, rfl, rfl, rfl, rfl, trivial⟩) ?_
  refine aw_region ?_
  refine run_s (ss_move rfl) rfl ?_
  obtain ⟨q3, h⟩ := h
  refine run_w (ws_callM (xs := [.tmp 14, .const (.int .i64 (20))]) (cs := [.obox [.lst (bys o1_0), ci o1_1, cu o1_2], ci 20]) (ids := []) rfl (.inr ⟨rfl, rfl⟩) rfl rfl rfl (c_spec_l01Next o1_0 o1_1 o1_2 20 q3) rfl rfl ?_ )
  rintro _ _ ⟨r2_0, o2_0, o2_1, o2_2, q4, rfl, rfl⟩
  replace h := h r2_0 o2_0 o2_1 o2_2 q4
  refine ⟨rfl, rfl, ?_⟩
  refine run_nil ?_
  refine aw_block ?_
  refine aw_seq ?_
  refine aw_region ?_
  refine run_s (ss_eql rfl rfl) rfl ?_
  refine run_s (ss_assign rfl) rfl ?_
  refine run_nil ?_
  refine aw_cond rfl (fun q5 => ?_) (fun q5 => ?_)
  ·replace h := h.1 (of_decide_eq_true q5)
   refine aw_gh (gh_to (n := 51) (σ' := [(5, ⟨[.hole], [(0, .ref 10)]⟩), (10, ⟨orows r1_0, []⟩), (4, ⟨[cnil], []⟩), (800, ⟨[.lst (bys o2_0), ci o2_1, cu o2_2], []⟩)]) (env' := [(0, .cell 800 0), (4, .cell 4 0), (5, .cell 5 0), (6, .c (ci (r1_0.length : Int))), (51, .cell 800 0), (52, .c (ci most))]) rfl rfl ⟨rfl, rfl, rfl, rfl, rfl, rfl, trivial⟩) ?_
   refine aw_regionD (kd := kdl [0, 1, 0, 0, 2, 0, 0, 2, 0, 3]) (ord := [0, 2, 3, 5, 6, 1, 4, 7, 8, 9]) [800] mixed (by kernel_rfl) ?_
   refine rd_s rfl rfl trivial (ss_field_cell rfl) rfl ?_
   refine rd_s rfl rfl trivial (ss_move rfl) rfl ?_
   refine rd_s rfl rfl trivial (ss_move rfl) rfl ?_
   refine rd_s rfl rfl trivial (ss_move rfl) rfl ?_
   refine rd_s rfl rfl trivial (ss_move rfl) rfl ?_
   refine rd_l rfl rfl trivial (ss_loadH rfl rfl rfl rfl) rfl ?_
   obtain ⟨q6, h⟩ := h
   refine rd_w rfl rfl trivial rfl rfl (ws_callM (xs := [.tmp 20, .tmp 21]) (cs := [.obox [.lst (bys o2_0), ci o2_1, cu o2_2], ci (r1_0.length : Int)]) (ids := []) rfl (.inr ⟨rfl, rfl⟩) rfl rfl rfl (c_spec_l01Next o2_0 o2_1 o2_2 (r1_0.length : Int) q6) rfl rfl ?_ )
   rintro _ _ ⟨r3_0, o3_0, o3_1, o3_2, q7, rfl, rfl⟩
   replace h := h r3_0 o3_0 o3_1 o3_2 q7
   refine ⟨rfl, rfl, ?_⟩
   obtain ⟨q8, h⟩ := h
   refine rd_w rfl rfl trivial rfl rfl (ws_callM (xs := [.tmp 23, .tmp 24]) (cs := [.obox [.lst (bys o3_0), ci o3_1, cu o3_2], ci (r1_0.length : Int)]) (ids := [25]) rfl (.inr ⟨rfl, rfl⟩) rfl rfl rfl (c_spec_l01Draw o3_0 o3_1 o3_2 (r1_0.length : Int) q8) rfl rfl ?_ )
   rintro _ _ ⟨r4_0, o4_0, o4_1, o4_2, q9, rfl, rfl⟩
   replace h := h r4_0 o4_0 o4_1 o4_2 q9
   refine ⟨rfl, rfl, ?_⟩
   obtain ⟨q10, h⟩ := h
   refine rd_s rfl rfl trivial (ss_idxR (f := (fun r => C.own (ints r))) rfl rfl rfl q10) rfl ?_
   refine rd_f rfl rfl trivial (ws_storeV rfl rfl (map_lt q10) rfl rfl rfl rfl ⟨rfl, ?_⟩)
   refine rd_nil ?_
   refine aw_seq ?_
   refine aw_gh (gh_to (n := 51) (σ' := [(25, ⟨ints r4_0, []⟩), (5, ⟨[.hole], [(0, .ref 10)]⟩), (10, ⟨(orows r1_0).set r3_0.toNat .hole, [(r3_0.toNat, .ref 25)]⟩), (4, ⟨[cnil], []⟩), (800, ⟨[.lst (bys o4_0), ci o4_1, cu o4_2], []⟩)]) (env' := [(4, .cell 4 0), (5, .cell 5 0), (51, .cell 800 0), (52, .c (ci most))]) rfl rfl ⟨rfl, rfl, rfl, rfl, trivial⟩) ?_
   refine aw_region ?_
   refine run_s (ss_loadS rfl rfl rfl rfl) rfl ?_
   refine run_w (ws_storeS rfl rfl (Nat.le_of_ble_eq_true rfl) rfl rfl rfl ⟨rfl, ?_⟩)
   refine run_nil ?_
   refine aw_gh (gh_fillA (id := 10) (id2 := 25) (f := (fun r => C.own (ints r))) (v := r4_0) rfl lk_self rfl q10 rfl rfl kr_self) ?_
   refine aw_ret ?_
   exact retAM_mk (retv1 rfl (rv_struct rfl rfl rfl)) rfl rfl rfl ⟨_, _, _, _, h, rfl, rfl⟩
  ·replace h := h.2 (of_decide_eq_false q5)
   refine aw_seq ?_
   refine aw_gh (gh_to (n := 51) (σ' := [(5, ⟨[.hole], [(0, .ref 10)]⟩), (10, ⟨orows r1_0, []⟩), (4, ⟨[cnil], []⟩), (800, ⟨[.lst (bys o2_0), ci o2_1, cu o2_2], []⟩)]) (env' := [(0, .cell 800 0), (4, .cell 4 0), (5, .cell 5 0), (6, .c (ci (r1_0.length : Int))), (15, .c (ci r2_0)), (51, .cell 800 0), (52, .c (ci most))]) rfl rfl ⟨rfl, rfl, rfl, rfl, rfl, rfl, rfl, trivial⟩) ?_
   refine aw_region ?_
   refine run_s (ss_eql rfl rfl) rfl ?_
   refine run_s (ss_assign rfl) rfl ?_
   refine run_nil ?_
   refine aw_cond rfl (fun q11 => ?_) (fun q11 => ?_)
   ·replace h := h.1 (of_decide_eq_true q11)
    refine aw_region ?_
    refine run_s (ss_move rfl) rfl ?_
    refine run_s (ss_move rfl) rfl ?_
    obtain ⟨q12, h⟩ := h
    refine run_w (ws_callM (xs := [.tmp 29, .tmp 30]) (cs := [.obox [.lst (bys o2_0), ci o2_1, cu o2_2], ci (r1_0.length : Int)]) (ids := [31]) rfl (.inr ⟨rfl, rfl⟩) rfl rfl rfl (c_spec_l01Bad o2_0 o2_1 o2_2 (r1_0.length : Int) q12) rfl rfl ?_ )
    rintro _ _ ⟨r5_0, o5_0, o5_1, o5_2, q13, rfl, rfl⟩
    replace h := h r5_0 o5_0 o5_1 o5_2 q13
    refine ⟨rfl, rfl, ?_⟩
    refine run_s (ss_field_cell rfl) rfl ?_
    refine run_w (ws_store rfl rfl (Nat.le_of_ble_eq_true rfl) rfl rfl ⟨rfl, ?_⟩)
    refine run_nil ?_
    refine aw_seq ?_
    refine aw_gh (gh_to (n := 51) (σ' := [(31, ⟨orows r5_0, []⟩), (5, ⟨[.hole], [(0, .ref 31)]⟩), (10, ⟨orows r1_0, []⟩), (4, ⟨[cnil], []⟩), (800, ⟨[.lst (bys o5_0), ci o5_1, cu o5_2], []⟩)]) (env' := [(4, .cell 4 0), (5, .cell 5 0), (51, .cell 800 0), (52, .c (ci most))]) rfl rfl ⟨rfl, rfl, rfl, rfl, trivial⟩) ?_
    refine aw_region ?_
    refine run_s (ss_loadS rfl rfl rfl rfl) rfl ?_
    refine run_w (ws_storeS rfl rfl (Nat.le_of_ble_eq_true rfl) rfl rfl rfl ⟨rfl, ?_⟩)
    refine run_nil ?_
    refine aw_ret ?_
    exact retAM_mk (retv1 rfl (rv_struct rfl rfl rfl)) rfl rfl rfl ⟨_, _, _, _, h, rfl, rfl⟩
   ·replace h := h.2 (of_decide_eq_false q11)
    refine aw_seq ?_
    refine aw_region ?_
    refine run_s (ss_eql rfl rfl) rfl ?_
    refine run_s (ss_assign rfl) rfl ?_
    refine run_nil ?_
    refine aw_cond rfl (fun q14 => ?_) (fun q14 => ?_)
    ·replace h := h.1 (of_decide_eq_true q14)
     refine aw_seq ?_
     refine aw_gh (gh_to (n := 51) (σ' := [(5, ⟨[.hole], [(0, .ref 10)]⟩), (10, ⟨orows r1_0, []⟩), (4, ⟨[cnil], []⟩), (800, ⟨[.lst (bys o2_0), ci o2_1, cu o2_2], []⟩)]) (env' := [(0, .cell 800 0), (4, .cell 4 0), (5, .cell 5 0), (6, .c (ci (r1_0.length : Int))), (51, .cell 800 0), (52, .c (ci most))]) rfl rfl ⟨rfl, rfl, rfl, rfl, rfl, rfl, trivial⟩) ?_
     refine aw_regionD (kd := kdl [0, 1, 0, 0, 2, 0, 1, 0]) (ord := [0, 2, 3, 1, 4, 5, 6, 7]) [800] mixed (by kernel_rfl) ?_
     refine rd_s rfl rfl trivial (ss_field_cell rfl) rfl ?_
     refine rd_s rfl rfl trivial (ss_move rfl) rfl ?_
     refine rd_s rfl rfl trivial (ss_move rfl) rfl ?_
     refine rd_l rfl rfl trivial (ss_loadH rfl rfl rfl rfl) rfl ?_
     obtain ⟨q15, h⟩ := h
     refine rd_w rfl rfl trivial rfl rfl (ws_callM (xs := [.tmp 37, .tmp 38]) (cs := [.obox [.lst (bys o2_0), ci o2_1, cu o2_2], ci (r1_0.length : Int)]) (ids := []) rfl (.inr ⟨rfl, rfl⟩) rfl rfl rfl (c_spec_l01Next o2_0 o2_1 o2_2 (r1_0.length : Int) q15) rfl rfl ?_ )
     rintro _ _ ⟨r6_0, o6_0, o6_1, o6_2, q16, rfl, rfl⟩
     replace h := h r6_0 o6_0 o6_1 o6_2 q16
     refine ⟨rfl, rfl, ?_⟩
     obtain ⟨q17, h⟩ := h
     refine rd_s rfl rfl trivial (ss_idxR (f := (fun r => C.own (ints r))) rfl rfl rfl q17) rfl ?_
     refine rd_open 1001 (id := 10) (j := r6_0.toNat) rfl (map_get (f := (fun r => C.own (ints r))) q17) rfl rfl rfl ?_
     refine rd_l rfl rfl trivial (ss_loadH rfl rfl lk_self rfl) rfl ?_
     refine rd_s rfl rfl trivial (ss_assign rfl) rfl ?_
     refine rd_nil ?_
     refine aw_region ?_
     refine run_s (ss_move rfl) rfl ?_
     refine run_s (ss_move rfl) rfl ?_
     refine run_s (ss_move rfl) rfl ?_
     obtain ⟨q18, h⟩ := h
     refine run_w (ws_callM (xs := [.tmp 43, .tmp 44]) (cs := [.obox [.lst (bys o6_0), ci o6_1, cu o6_2], ci (r1_0.length : Int)]) (ids := []) rfl (.inr ⟨rfl, rfl⟩) rfl rfl rfl (c_spec_l01Next o6_0 o6_1 o6_2 (r1_0.length : Int) q18) rfl rfl ?_ )
     rintro _ _ ⟨r7_0, o7_0, o7_1, o7_2, q19, rfl, rfl⟩
     replace h := h r7_0 o7_0 o7_1 o7_2 q19
     refine ⟨rfl, rfl, ?_⟩
     refine run_s (ss_move rfl) rfl ?_
     refine run_s (ss_move rfl) rfl ?_
     obtain ⟨q20, h⟩ := h
     refine run_w (ws_callM (xs := [.tmp 46, .tmp 47]) (cs := [.obox [.lst (bys o7_0), ci o7_1, cu o7_2], ci (r1_0.length : Int)]) (ids := []) rfl (.inr ⟨rfl, rfl⟩) rfl rfl rfl (c_spec_l01Next o7_0 o7_1 o7_2 (r1_0.length : Int) q20) rfl rfl ?_ )
     rintro _ _ ⟨r8_0, o8_0, o8_1, o8_2, q21, rfl, rfl⟩
     replace h := h r8_0 o8_0 o8_1 o8_2 q21
     refine ⟨rfl, rfl, ?_⟩
     obtain ⟨q22, h⟩ := h
     refine run_s (ss_idxR (f := ci) rfl rfl rfl q22) rfl ?_
     refine run_w (ws_storeE rfl rfl (map_lt q22) rfl rfl (map_se (f := ci)) rfl ⟨rfl, ?_⟩)
     refine run_nil ?_
     refine aw_seq ?_
     refine aw_gh (gh_to (n := 51) (σ' := [(1001, ⟨ints (se (el r1_0 r6_0) r7_0 r8_0), []⟩), (5, ⟨[.hole], [(0, .ref 10)]⟩), (10, ⟨(orows r1_0).set r6_0.toNat .hole, [(r6_0.toNat, .ref 1001)]⟩), (4, ⟨[cnil], []⟩), (800, ⟨[.lst (bys o8_0), ci o8_1, cu o8_2], []⟩)]) (env' := [(4, .cell 4 0), (5, .cell 5 0), (51, .cell 800 0), (52, .c (ci most))]) rfl rfl ⟨rfl, rfl, rfl, rfl, trivial⟩) ?_
     refine aw_region ?_
     refine run_s (ss_loadS rfl rfl rfl rfl) rfl ?_
     refine run_w (ws_storeS rfl rfl (Nat.le_of_ble_eq_true rfl) rfl rfl rfl ⟨rfl, ?_⟩)
     refine run_nil ?_
     refine aw_gh (gh_fillA (id := 10) (id2 := 1001) (f := (fun r => C.own (ints r))) (v := se (el r1_0 r6_0) r7_0 r8_0) rfl lk_self rfl q17 rfl rfl kr_self) ?_
     refine aw_ret ?_
     exact retAM_mk (retv1 rfl (rv_struct rfl rfl rfl)) rfl rfl rfl ⟨_, _, _, _, h, rfl, rfl⟩
    ·replace h := h.2 (of_decide_eq_false q14)
     refine aw_skip ?_
     refine aw_seq ?_
     refine aw_gh (gh_to (n := 51) (σ' := [(5, ⟨[.hole], [(0, .ref 10)]⟩), (10, ⟨orows r1_0, []⟩), (4, ⟨[cnil], []⟩), (800, ⟨[.lst (bys o2_0), ci o2_1, cu o2_2], []⟩)]) (env' := [(4, .cell 4 0), (5, .cell 5 0), (51, .cell 800 0), (52, .c (ci most))]) rfl rfl ⟨rfl, rfl, rfl, rfl, trivial⟩) ?_
     refine aw_region ?_
     refine run_s (ss_loadS rfl rfl rfl rfl) rfl ?_
     refine run_w (ws_storeS rfl rfl (Nat.le_of_ble_eq_true rfl) rfl rfl rfl ⟨rfl, ?_⟩)
     refine run_nil ?_
     refine aw_ret ?_
     exact retAM_mk (retv1 rfl (rv_struct rfl rfl rfl)) rfl rfl rfl ⟨_, _, _, _, h, rfl, rfl⟩

theorem c_spec_l05Spoil (s1 : List Int) (s2 : Int) (s3 : Int) (most : Int) (hp : okS s1 s2 s3 ∧ 1 ≤ most ∧ most ≤ 12) : AM Try.prog 112 [.obox [.lst (bys s1), ci s2, cu s3], ci most] (fun R_ O_ => ∃ y0 w0 w1 w2, ((szT y0) ∧ w0 = s1 ∧ okS s1 w1 w2) ∧ R_ = .agg [.own (orows y0)] ∧ O_ = [.obox [.lst (bys w0), ci w1, cu w2], ci most]) :=
  w_spec_l05Spoil s1 s2 s3 most (fun y0 w0 w1 w2 => (szT y0) ∧ w0 = s1 ∧ okS s1 w1 w2) (p_spec_l05Spoil s1 s2 s3 most hp)

set_option maxRecDepth 100000 in
set_option maxHeartbeats 4000000 in
theorem w_spec_DrawCycleFault (code : List Int) (Q : List (List Int) → Prop) (h : wp_spec_DrawCycleFault code Q) : AF Try.prog 40 [.lst (bys code)] (fun R_ => ∃ y0, Q y0 ∧ R_ = .agg [.own (orows y0)]) := by
  refine AF.ofWQ (af_enter (n := 31) Try.func40 rfl (by rfl) rfl (Nat.le_of_ble_eq_true rfl) ?_)
  unfold wp_spec_DrawCycleFault at h
  refine aw_seq ?_
  refine aw_gh (gh_to (n := 31) (σ' := []) (env' := [(0, .c (.lst (bys code)))]) rfl rfl ⟨rfl, trivial⟩) ?_
  refine aw_region ?_
  refine run_w (ws_alloc (id := 2) rfl (Nat.le_of_ble_eq_true rfl) ⟨rfl, ?_⟩)
  refine run_nil ?_
  refine aw_seq ?_
  refine aw_region ?_
  refine run_s (ss_move rfl) rfl ?_
  obtain ⟨q1, h⟩ := h
  refine run_w (ws_call (xs := [.tmp 6]) (ids := [7]) rfl rfl rfl rfl (c_spec_l01From code q1) rfl ?_ )
  rintro _ ⟨r1_0, r1_1, r1_2, q2, rfl⟩
  replace h := h r1_0 r1_1 r1_2 q2
  refine ⟨rfl, ?_⟩
  refine run_s (ss_assign rfl) rfl ?_
  refine run_nil ?_
  refine aw_seq ?_
  refine aw_region ?_
  refine run_s (ss_move rfl) rfl ?_
  obtain ⟨q3, h⟩ := h
  refine run_w (ws_callM (xs := [.tmp 8, .const (.int .i64 (7))]) (cs := [.obox [.lst (bys r1_0), ci r1_1, cu r1_2], ci 7]) (ids := [9]) rfl (.inr ⟨rfl, rfl⟩) rfl rfl rfl (c_spec_l05Spoil r1_0 r1_1 r1_2 7 q3) rfl rfl ?_ )
  rintro _ _ ⟨r2_0, o2_0, o2_1, o2_2, q4, rfl, rfl⟩
  replace h := h r2_0 o2_0 o2_1 o2_2 q4
  refine ⟨rfl, rfl, ?_⟩
  refine run_w (ws_alloc (id := 4) rfl (Nat.le_of_ble_eq_true rfl) ⟨rfl, ?_⟩)
  refine run_w (ws_storeS rfl rfl (Nat.le_of_ble_eq_true rfl) rfl rfl rfl ⟨rfl, ?_⟩)
  refine run_nil ?_
  refine aw_seq ?_
  refine aw_seq ?_
  refine aw_region ?_
  refine run_s (ss_field_cell rfl) rfl ?_
  refine run_s (ss_loadH rfl rfl rfl rfl) rfl ?_
  obtain ⟨q5, h⟩ := h
  refine run_w (ws_callR (xs := [.tmp 11]) (cs := [.own (orows r2_0)]) (ids := []) rfl (.inr ⟨rfl, rfl⟩) rfl rfl (fz_cons (fz_own (fz_map (fun _ => (fz_own (fz_map (fun _ => rfl) _))) _)) fz_nil) (c_spec_l01Table r2_0 q5) rfl ?_ )
  rintro _ rfl
  refine ⟨rfl, rfl, ?_⟩
  refine run_s (ss_move rfl) rfl ?_
  refine run_split (s := 13) rfl (fun q7 => ?_) (fun q7 => ?_)
  ·replace h := h.1 (q7)
   refine run_gt rfl rfl q7 ?_
   refine run_s (ss_move rfl) rfl ?_
   refine run_gt rfl rfl q7 ?_
   obtain ⟨q8, h⟩ := h
   refine run_w (ws_callM (xs := [.tmp 14, .const (.int .i64 (2))]) (cs := [.obox [.lst (bys o2_0), ci o2_1, cu o2_2], ci 2]) (ids := []) rfl (.inr ⟨rfl, rfl⟩) rfl rfl rfl (c_spec_l01Next o2_0 o2_1 o2_2 2 q8) rfl rfl ?_ )
   rintro _ _ ⟨r3_0, o3_0, o3_1, o3_2, q9, rfl, rfl⟩
   replace h := h r3_0 o3_0 o3_1 o3_2 q9
   refine ⟨rfl, rfl, ?_⟩
   refine run_gt rfl rfl q7 ?_
   refine run_s (ss_eql rfl rfl) rfl ?_
   refine run_s (ss_pickT rfl q7 rfl) rfl ?_
   refine run_nil ?_
   refine aw_cond rfl (fun q10 => ?_) (fun q10 => ?_)
   ·replace h := h.1 (of_decide_eq_true q10)
    refine aw_seq ?_
    refine aw_gh (gh_to (n := 31) (σ' := [(4, ⟨[.hole], [(0, .ref 9)]⟩), (9, ⟨orows r2_0, []⟩), (7, ⟨[.lst (bys o3_0), ci o3_1, cu o3_2], []⟩), (2, ⟨[cnil], []⟩)]) (env' := [(2, .cell 2 0), (3, .cell 7 0), (4, .cell 4 0)]) rfl rfl ⟨rfl, rfl, rfl, trivial⟩) ?_
    refine aw_region ?_
    refine run_s (ss_field_cell rfl) rfl ?_
    refine run_s (ss_loadH rfl rfl rfl rfl) rfl ?_
    refine run_s (ss_lenR (f := (fun r => C.own (ints r))) rfl rfl) rfl ?_
    refine run_s (ss_assign rfl) rfl ?_
    refine run_nil ?_
    refine aw_gh (gh_to (n := 31) (σ' := [(4, ⟨[.hole], [(0, .ref 9)]⟩), (9, ⟨orows r2_0, []⟩), (7, ⟨[.lst (bys o3_0), ci o3_1, cu o3_2], []⟩), (2, ⟨[cnil], []⟩)]) (env' := [(2, .cell 2 0), (3, .cell 7 0), (4, .cell 4 0), (5, .c (ci (r2_0.length : Int)))]) rfl rfl ⟨rfl, rfl, rfl, rfl, trivial⟩) ?_
    refine aw_regionD (kd := kdl [0, 1, 0, 0, 2, 0, 0, 2, 0, 3]) (ord := [0, 2, 3, 5, 6, 1, 4, 7, 8, 9]) [7] mixed (by kernel_rfl) ?_
    refine rd_s rfl rfl trivial (ss_field_cell rfl) rfl ?_
    refine rd_s rfl rfl trivial (ss_move rfl) rfl ?_
    refine rd_s rfl rfl trivial (ss_move rfl) rfl ?_
    refine rd_s rfl rfl trivial (ss_move rfl) rfl ?_
    refine rd_s rfl rfl trivial (ss_move rfl) rfl ?_
    refine rd_l rfl rfl trivial (ss_loadH rfl rfl rfl rfl) rfl ?_
    obtain ⟨q11, h⟩ := h
    refine rd_w rfl rfl trivial rfl rfl (ws_callM (xs := [.tmp 23, .tmp 24]) (cs := [.obox [.lst (bys o3_0), ci o3_1, cu o3_2], ci (r2_0.length : Int)]) (ids := []) rfl (.inr ⟨rfl, rfl⟩) rfl rfl rfl (c_spec_l01Next o3_0 o3_1 o3_2 (r2_0.length : Int) q11) rfl rfl ?_ )
    rintro _ _ ⟨r4_0, o4_0, o4_1, o4_2, q12, rfl, rfl⟩
    replace h := h r4_0 o4_0 o4_1 o4_2 q12
    refine ⟨rfl, rfl, ?_⟩
    obtain ⟨q13, h⟩ := h
    refine rd_w rfl rfl trivial rfl rfl (ws_callM (xs := [.tmp 26, .tmp 27]) (cs := [.obox [.lst (bys o4_0), ci o4_1, cu o4_2], ci (r2_0.length : Int)]) (ids := [28]) rfl (.inr ⟨rfl, rfl⟩) rfl rfl rfl (c_spec_l01Draw o4_0 o4_1 o4_2 (r2_0.length : Int) q13) rfl rfl ?_ )
    rintro _ _ ⟨r5_0, o5_0, o5_1, o5_2, q14, rfl, rfl⟩
    replace h := h r5_0 o5_0 o5_1 o5_2 q14
    refine ⟨rfl, rfl, ?_⟩
    obtain ⟨q15, h⟩ := h
    refine rd_s rfl rfl trivial (ss_idxR (f := (fun r => C.own (ints r))) rfl rfl rfl q15) rfl ?_
    refine rd_f rfl rfl trivial (ws_storeV rfl rfl (map_lt q15) rfl rfl rfl rfl ⟨rfl, ?_⟩)
    refine rd_nil ?_
    refine aw_seq ?_
    refine aw_gh (gh_to (n := 31) (σ' := [(28, ⟨ints r5_0, []⟩), (4, ⟨[.hole], [(0, .ref 9)]⟩), (9, ⟨(orows r2_0).set r4_0.toNat .hole, [(r4_0.toNat, .ref 28)]⟩), (7, ⟨[.lst (bys o5_0), ci o5_1, cu o5_2], []⟩), (2, ⟨[cnil], []⟩)]) (env' := [(2, .cell 2 0), (4, .cell 4 0)]) rfl rfl ⟨rfl, rfl, trivial⟩) ?_
    refine aw_region ?_
    refine run_s (ss_loadS rfl rfl rfl rfl) rfl ?_
    refine run_w (ws_storeS rfl rfl (Nat.le_of_ble_eq_true rfl) rfl rfl rfl ⟨rfl, ?_⟩)
    refine run_nil ?_
    refine aw_gh (gh_fillA (id := 9) (id2 := 28) (f := (fun r => C.own (ints r))) (v := r5_0) rfl lk_self rfl q15 rfl rfl kr_self) ?_
    refine aw_ret ?_
    exact retAF_mk (retv1 rfl (rv_struct rfl rfl rfl)) rfl rfl ⟨_, (cle_refl _), _, h, rfl⟩
   ·replace h := h.2 (of_decide_eq_false q10)
    refine aw_skip ?_
    refine aw_seq ?_
    refine aw_gh (gh_to (n := 31) (σ' := [(4, ⟨[.hole], [(0, .ref 9)]⟩), (9, ⟨orows r2_0, []⟩), (7, ⟨[.lst (bys o3_0), ci o3_1, cu o3_2], []⟩), (2, ⟨[cnil], []⟩)]) (env' := [(2, .cell 2 0), (4, .cell 4 0)]) rfl rfl ⟨rfl, rfl, trivial⟩) ?_
    refine aw_region ?_
    refine run_s (ss_loadS rfl rfl rfl rfl) rfl ?_
    refine run_w (ws_storeS rfl rfl (Nat.le_of_ble_eq_true rfl) rfl rfl rfl ⟨rfl, ?_⟩)
    refine run_nil ?_
    refine aw_ret ?_
    exact retAF_mk (retv1 rfl (rv_struct rfl rfl rfl)) rfl rfl ⟨_, (cle_refl _), _, h, rfl⟩
  ·replace h := h.2 (q7)
   refine run_gf rfl rfl q7 rfl ?_
   refine run_gf rfl rfl q7 rfl ?_
   refine run_gf rfl rfl q7 rfl ?_
   refine run_s (ss_pickF rfl q7 rfl) rfl ?_
   refine run_nil ?_
   refine aw_cond rfl (fun q16 => ?_) (fun q16 => ?_)
   ·cases q16
   ·skip
    refine aw_skip ?_
    refine aw_seq ?_
    refine aw_gh (gh_to (n := 31) (σ' := [(4, ⟨[.hole], [(0, .ref 9)]⟩), (9, ⟨orows r2_0, []⟩), (7, ⟨[.lst (bys o2_0), ci o2_1, cu o2_2], []⟩), (2, ⟨[cnil], []⟩)]) (env' := [(2, .cell 2 0), (4, .cell 4 0)]) rfl rfl ⟨rfl, rfl, trivial⟩) ?_
    refine aw_region ?_
    refine run_s (ss_loadS rfl rfl rfl rfl) rfl ?_
    refine run_w (ws_storeS rfl rfl (Nat.le_of_ble_eq_true rfl) rfl rfl rfl ⟨rfl, ?_⟩)
    refine run_nil ?_
    refine aw_ret ?_
    exact retAF_mk (retv1 rfl (rv_struct rfl rfl rfl)) rfl rfl ⟨_, (cle_refl _), _, h, rfl⟩

theorem c_spec_DrawCycleFault (code : List Int) (hp : small code ∧ bytes code) : AF Try.prog 40 [.lst (bys code)] (fun R_ => ∃ y0, (szT y0) ∧ R_ = .agg [.own (orows y0)]) :=
  w_spec_DrawCycleFault code (fun y0 => szT y0) (p_spec_DrawCycleFault code hp)

set_option maxRecDepth 100000 in
set_option maxHeartbeats 4000000 in
theorem w_impl_HasPermutationRows (t : List (List Int)) (Q : Bool → Int → Prop) (h : wp_impl_HasPermutationRows t Q) : AF Try.prog 45 [.lst (rows t)] (fun R_ => ∃ y0 y1, Q y0 y1 ∧ R_ = .tup [cb y0, ci y1]) := by
  refine AF.ofWQ (af_enter (n := 9) Try.func45 rfl (by rfl) rfl (Nat.le_of_ble_eq_true rfl) ?_)
  unfold wp_impl_HasPermutationRows at h
  refine aw_seq ?_
  refine aw_gh (gh_to (n := 9) (σ' := []) (env' := [(0, .c (.lst (rows t)))]) rfl rfl ⟨rfl, trivial⟩) ?_
  refine aw_region ?_
  refine run_s (ss_assign rfl) rfl ?_
  refine run_s (ss_assign rfl) rfl ?_
  refine run_nil ?_
  refine aw_seq ?_
  refine aw_seq ?_
  refine aw_region ?_
  refine run_s (ss_move rfl) rfl ?_
  obtain ⟨q1, h⟩ := h
  refine run_w (ws_call (xs := [.tmp 4]) (ids := []) rfl rfl rfl rfl (c_impl_IsTable t q1) rfl ?_ )
  rintro _ rfl
  refine ⟨rfl, ?_⟩
  refine run_s (ss_not rfl) rfl ?_
  refine run_nil ?_
  refine aw_cond rfl (fun q3 => ?_) (fun q3 => ?_)
  ·replace h := h.1 ((bnot_t q3))
   refine aw_seq ?_
   refine aw_gh (gh_to (n := 9) (σ' := []) (env' := [(2, .c (cb false)), (3, .c (ci 0))]) rfl rfl ⟨rfl, rfl, trivial⟩) ?_
   refine aw_region ?_
   refine run_s (ss_assign rfl) rfl ?_
   refine run_s (ss_assign rfl) rfl ?_
   refine run_nil ?_
   refine aw_ret ?_
   exact retAF_mk (retv2 rfl (rv_tmp rfl) (rv_tmp rfl)) rfl rfl ⟨_, (cle_refl _), _, _, h, rfl⟩
  ·replace h := h.2 ((bnot_f q3))
   refine aw_skip ?_
   refine aw_seq ?_
   refine aw_region ?_
   refine run_s (ss_move rfl) rfl ?_
   obtain ⟨q4, h⟩ := h
   refine run_w (ws_call (xs := [.tmp 7]) (ids := []) rfl rfl rfl rfl (c_impl_permutationRows t q4) rfl ?_ )
   rintro _ rfl
   refine ⟨rfl, ?_⟩
   refine run_s (ss_assign rfl) rfl ?_
   refine run_s (ss_assign rfl) rfl ?_
   refine run_nil ?_
   refine aw_ret ?_
   exact retAF_mk (retv2 rfl (rv_tmp rfl) (rv_tmp rfl)) rfl rfl ⟨_, (cle_refl _), _, _, h, rfl⟩

theorem c_impl_HasPermutationRows (t : List (List Int)) (hp : small2 t) : AF Try.prog 45 [.lst (rows t)] (fun R_ => R_ = .tup [cb (isTab t && t.all isPerm), ci (if isTab t then (0 : Int) else 1)]) :=
  (w_impl_HasPermutationRows t (fun y0 y1 => y0 = (isTab t && t.all isPerm) ∧ y1 = (if isTab t then (0 : Int) else 1)) (p_impl_HasPermutationRows t hp)).mono (by rintro r ⟨_, _, ⟨rfl, rfl⟩, rfl⟩; rfl)

end Go.Proofs.Ytbodlnpmplcaoaa

/- Contracts of functions that the law FnRackGroups reaches: conditions, plain proofs, walks; no condition. -/
import Derived.Test.YtggeeemecgmhiaaKRackGroupsd
import Derived.Test.YtggeeemecgmhiaaPP
namespace Go.Proofs.Ytggeeemecgmhiaa

set_option maxRecDepth 100000 in
set_option maxHeartbeats 4000000 in
theorem w_spec_l03Draw (s1 : List Int) (s2 : Int) (s3 : Int) (most : Int) (Q : List (List Int) → List Int → Int → Int → Prop) (h : wp_spec_l03Draw s1 s2 s3 most Q) : AM Try.prog 99 [.obox [.lst (bys s1), ci s2, cu s3], ci most] (fun R_ O_ => ∃ y0 w0 w1 w2, Q y0 w0 w1 w2 ∧ R_ = .agg [.own (orows y0)] ∧ O_ = [.obox [.lst (bys w0), ci w1, cu w2], ci most]) := by
  refine am_enter (n := 20) (m := 2) Try.func99 rfl (by rfl) rfl rfl (Nat.le_of_ble_eq_true rfl) [800] rfl ?_
  unfold wp_spec_l03Draw at h
  refine aw_seq ?_
  refine aw_gh (gh_to (n := 20) (σ' := [(800, ⟨[.lst (bys s1), ci s2, cu s3], []⟩)]) (env' := [(0, .cell 800 0), (1, .c (ci most)), (20, .cell 800 0), (21, .c (ci most))]) rfl rfl ⟨rfl, rfl, rfl, rfl, trivial⟩) ?_
  refine aw_region ?_
  refine run_w (ws_alloc (id := 4) rfl (Nat.le_of_ble_eq_true rfl) ⟨rfl, ?_⟩)
  refine run_nil ?_
  refine aw_seq ?_
  refine aw_region ?_
  refine run_s (ss_move rfl) rfl ?_
  refine run_s (ss_move rfl) rfl ?_
  obtain ⟨q1, h⟩ := h
  refine run_w (ws_callM (xs := [.tmp 6, .tmp 7]) (cs := [.obox [.lst (bys s1), ci s2, cu s3], ci most]) (ids := [8]) rfl (.inr ⟨rfl, rfl⟩) rfl rfl rfl (c_spec_l03DrawTable s1 s2 s3 most q1) rfl rfl ?_ )
  rintro _ _ ⟨r1_0, o1_0, o1_1, o1_2, q2, rfl, rfl⟩
  replace h := h r1_0 o1_0 o1_1 o1_2 q2
  refine ⟨rfl, rfl, ?_⟩
  refine run_s (ss_assign rfl) rfl ?_
  refine run_nil ?_
  refine aw_seq ?_
  refine aw_seq ?_
  refine aw_gh (gh_to (n := 20) (σ' := [(8, ⟨orows r1_0, []⟩), (4, ⟨[cnil], []⟩), (800, ⟨[.lst (bys o1_0), ci o1_1, cu o1_2], []⟩)]) (env' := [(0, .cell 800 0), (4, .cell 4 0), (5, .ref 8), (20, .cell 800 0), (21, .c (ci most))]) rfl rfl ⟨rfl, rfl, rfl, rfl, rfl, trivial⟩) ?_
  refine aw_region ?_
  refine run_s (ss_move rfl) rfl ?_
  obtain ⟨q3, h⟩ := h
  refine run_w (ws_callM (xs := [.tmp 9, .const (.int .i64 (2))]) (cs := [.obox [.lst (bys o1_0), ci o1_1, cu o1_2], ci 2]) (ids := []) rfl (.inr ⟨rfl, rfl⟩) rfl rfl rfl (c_spec_l01Next o1_0 o1_1 o1_2 2 q3) rfl rfl ?_ )
  rintro _ _ ⟨r2_0, o2_0, o2_1, o2_2, q4, rfl, rfl⟩
  replace h := h r2_0 o2_0 o2_1 o2_2 q4
  refine ⟨rfl, rfl, ?_⟩
  refine run_s (ss_eql rfl rfl) rfl ?_
  refine run_nil ?_
  refine aw_cond rfl (fun q5 => ?_) (fun q5 => ?_)
  ·replace h := h.1 (of_decide_eq_true q5)
   refine aw_region ?_
   refine run_s (ss_move rfl) rfl ?_
   refine run_s (ss_move rfl) rfl ?_
   refine run_s (ss_move rfl) rfl ?_
   refine run_s (ss_lenR (f := (fun r => C.own (ints r))) rfl rfl) rfl ?_
   obtain ⟨q6, h⟩ := h
   refine run_w (ws_callM (xs := [.tmp 13, .tmp 15]) (cs := [.obox [.lst (bys o2_0), ci o2_1, cu o2_2], ci (r1_0.length : Int)]) (ids := [16]) rfl (.inr ⟨rfl, rfl⟩) rfl rfl rfl (c_spec_l03DrawPerm o2_0 o2_1 o2_2 (r1_0.length : Int) q6) rfl rfl ?_ )
   rintro _ _ ⟨r3_0, o3_0, o3_1, o3_2, q7, rfl, rfl⟩
   replace h := h r3_0 o3_0 o3_1 o3_2 q7
   refine ⟨rfl, rfl, ?_⟩
   obtain ⟨q8, h⟩ := h
   refine run_w (ws_callR (xs := [.tmp 12, .tmp 16]) (cs := [.own (orows r1_0), .own (ints r3_0)]) (ids := [17]) rfl (.inr ⟨rfl, rfl⟩) rfl rfl (fz_cons (fz_own (fz_map (fun _ => (fz_own (fz_map (fun _ => rfl) _))) _)) (fz_cons (fz_own (fz_map (fun _ => rfl) _)) fz_nil)) (c_spec_l03Image r1_0 r3_0 q8) rfl ?_ )
   rintro _ ⟨r4_0, q9, rfl⟩
   replace h := h r4_0 q9
   refine ⟨(slf_own (slfL_map (f := (fun r => C.own (ints r))) (fun _ => (slf_own (slfL_map (f := ci) (fun _ => rfl) _))) _)), rfl, ?_⟩
   refine run_s (ss_assign rfl) rfl ?_
   refine run_nil ?_
   refine aw_seq ?_
   refine aw_gh (gh_to (n := 20) (σ' := [(17, ⟨orows r4_0, []⟩), (16, ⟨ints r3_0, []⟩), (8, ⟨orows r1_0, []⟩), (4, ⟨[cnil], []⟩), (800, ⟨[.lst (bys o3_0), ci o3_1, cu o3_2], []⟩)]) (env' := [(4, .cell 4 0), (5, .ref 17), (20, .cell 800 0), (21, .c (ci most))]) rfl rfl ⟨rfl, rfl, rfl, rfl, trivial⟩) ?_
   refine aw_region ?_
   refine run_s (ss_move rfl) rfl ?_
   refine run_s (ss_build (ps := [(0, .tmp 18)]) rfl rfl) rfl ?_
   refine run_w (ws_storeS rfl rfl (Nat.le_of_ble_eq_true rfl) rfl rfl rfl ⟨rfl, ?_⟩)
   refine run_nil ?_
   refine aw_ret ?_
   exact retAM_mk (retv1 rfl (rv_struct rfl rfl rfl)) rfl rfl rfl ⟨_, _, _, _, h, rfl, rfl⟩
  ·replace h := h.2 (of_decide_eq_false q5)
   refine aw_skip ?_
   refine aw_seq ?_
   refine aw_gh (gh_to (n := 20) (σ' := [(8, ⟨orows r1_0, []⟩), (4, ⟨[cnil], []⟩), (800, ⟨[.lst (bys o2_0), ci o2_1, cu o2_2], []⟩)]) (env' := [(4, .cell 4 0), (5, .ref 8), (20, .cell 800 0), (21, .c (ci most))]) rfl rfl ⟨rfl, rfl, rfl, rfl, trivial⟩) ?_
   refine aw_region ?_
   refine run_s (ss_move rfl) rfl ?_
   refine run_s (ss_build (ps := [(0, .tmp 18)]) rfl rfl) rfl ?_
   refine run_w (ws_storeS rfl rfl (Nat.le_of_ble_eq_true rfl) rfl rfl rfl ⟨rfl, ?_⟩)
   refine run_nil ?_
   refine aw_ret ?_
   exact retAM_mk (retv1 rfl (rv_struct rfl rfl rfl)) rfl rfl rfl ⟨_, _, _, _, h, rfl, rfl⟩

theorem c_spec_l03Draw (s1 : List Int) (s2 : Int) (s3 : Int) (most : Int) (hp : okS s1 s2 s3 ∧ 1 ≤ most ∧ most ≤ 12) : AM Try.prog 99 [.obox [.lst (bys s1), ci s2, cu s3], ci most] (fun R_ O_ => ∃ y0 w0 w1 w2, ((isTab y0 = true ∧ (y0.length : Int) ≤ most) ∧ w0 = s1 ∧ okS s1 w1 w2) ∧ R_ = .agg [.own (orows y0)] ∧ O_ = [.obox [.lst (bys w0), ci w1, cu w2], ci most]) :=
  w_spec_l03Draw s1 s2 s3 most (fun y0 w0 w1 w2 => (isTab y0 = true ∧ (y0.length : Int) ≤ most) ∧ w0 = s1 ∧ okS s1 w1 w2) (p_spec_l03Draw s1 s2 s3 most hp)

set_option maxRecDepth 100000 in
set_option maxHeartbeats 4000000 in
theorem w_spec_l03DrawAny (s1 : List Int) (s2 : Int) (s3 : Int) (most : Int) (Q : List (List Int) → List Int → Int → Int → Prop) (h : wp_spec_l03DrawAny s1 s2 s3 most Q) : AM Try.prog 58 [.obox [.lst (bys s1), ci s2, cu s3], ci most] (fun R_ O_ => ∃ y0 w0 w1 w2, Q y0 w0 w1 w2 ∧ R_ = .agg [.own (orows y0)] ∧ O_ = [.obox [.lst (bys w0), ci w1, cu w2], ci most]) := by
  refine am_enter (n := 50) (m := 2) Try.func58 rfl (by rfl) rfl rfl (Nat.le_of_ble_eq_true rfl) [800] rfl ?_
  unfold wp_spec_l03DrawAny at h
  refine aw_seq ?_
  refine aw_gh (gh_to (n := 50) (σ' := [(800, ⟨[.lst (bys s1), ci s2, cu s3], []⟩)]) (env' := [(0, .cell 800 0), (1, .c (ci most)), (50, .cell 800 0), (51, .c (ci most))]) rfl rfl ⟨rfl, rfl, rfl, rfl, trivial⟩) ?_
  refine aw_region ?_
  refine run_w (ws_alloc (id := 4) rfl (Nat.le_of_ble_eq_true rfl) ⟨rfl, ?_⟩)
  refine run_nil ?_
  refine aw_seq ?_
  refine aw_region ?_
  refine run_s (ss_move rfl) rfl ?_
  refine run_s (ss_move rfl) rfl ?_
  obtain ⟨q1, h⟩ := h
  refine run_w (ws_callM (xs := [.tmp 7, .tmp 8]) (cs := [.obox [.lst (bys s1), ci s2, cu s3], ci most]) (ids := [9]) rfl (.inr ⟨rfl, rfl⟩) rfl rfl rfl (c_spec_l03Draw s1 s2 s3 most q1) rfl rfl ?_ )
  rintro _ _ ⟨r1_0, o1_0, o1_1, o1_2, q2, rfl, rfl⟩
  replace h := h r1_0 o1_0 o1_1 o1_2 q2
  refine ⟨rfl, rfl, ?_⟩
  refine run_w (ws_alloc (id := 5) rfl (Nat.le_of_ble_eq_true rfl) ⟨rfl, ?_⟩)
  refine run_w (ws_storeS rfl rfl (Nat.le_of_ble_eq_true rfl) rfl rfl rfl ⟨rfl, ?_⟩)
  refine run_nil ?_
  refine aw_seq ?_
  refine aw_region ?_
  refine run_s (ss_field_cell rfl) rfl ?_
  refine run_s (ss_loadH rfl rfl rfl rfl) rfl ?_
  refine run_s (ss_lenR (f := (fun r => C.own (ints r))) rfl rfl) rfl ?_
  refine run_s (ss_assign rfl) rfl ?_
  refine run_nil ?_
  refine aw_seq ?_
  refine aw_seq ?_
  refine aw_gh (gh_to (n := 50) (σ' := [(5, ⟨[.hole], [(0, .ref 9)]⟩), (9, ⟨orows r1_0, []⟩), (4, ⟨[cnil], []⟩), (800, ⟨[.lst (bys o1_0), ci o1_1, cu o1_2], []⟩)]) (env' := [(0, .cell 800 0), (4, .cell 4 0), (5, .cell 5 0), (6, .c (ci (r1_0.length : Int))), (50, .cell 800 0), (51, .c (ci most))]) rfl rfl ⟨rfl, rfl, rfl, rfl, rfl, rfl, trivial⟩) ?_
  refine aw_region ?_
  refine run_s (ss_move rfl) rfl ?_
  obtain ⟨q3, h⟩ := h
  refine run_w (ws_callM (xs := [.tmp 13, .const (.int .i64 (24))]) (cs := [.obox [.lst (bys o1_0), ci o1_1, cu o1_2], ci 24]) (ids := []) rfl (.inr ⟨rfl, rfl⟩) rfl rfl rfl (c_spec_l01Next o1_0 o1_1 o1_2 24 q3) rfl rfl ?_ )
  rintro _ _ ⟨r2_0, o2_0, o2_1, o2_2, q4, rfl, rfl⟩
  replace h := h r2_0 o2_0 o2_1 o2_2 q4
  refine ⟨rfl, rfl, ?_⟩
  refine run_nil ?_
  refine aw_block ?_
  refine aw_seq ?_
  refine aw_region ?_
  refine run_s (ss_eql rfl rfl) rfl ?_
  refine run_s (ss_assign rfl) rfl ?_
  refine run_nil ?_
  refine aw_cond rfl (fun q5 => ?_) (fun q5 => ?_)
  ·replace h := h.1 (of_decide_eq_true q5)
   refine aw_gh (gh_to (n := 50) (σ' := [(5, ⟨[.hole], [(0, .ref 9)]⟩), (9, ⟨orows r1_0, []⟩), (4, ⟨[cnil], []⟩), (800, ⟨[.lst (bys o2_0), ci o2_1, cu o2_2], []⟩)]) (env' := [(0, .cell 800 0), (4, .cell 4 0), (5, .cell 5 0), (6, .c (ci (r1_0.length : Int))), (50, .cell 800 0), (51, .c (ci most))]) rfl rfl ⟨rfl, rfl, rfl, rfl, rfl, rfl, trivial⟩) ?_
   refine aw_regionD (kd := kdl [0, 1, 0, 0, 2, 0, 0, 2, 0, 3]) (ord := [0, 2, 3, 5, 6, 1, 4, 7, 8, 9]) [800] mixed (by kernel_rfl) ?_
   refine rd_s rfl rfl trivial (ss_field_cell rfl) rfl ?_
   refine rd_s rfl rfl trivial (ss_move rfl) rfl ?_
   refine rd_s rfl rfl trivial (ss_move rfl) rfl ?_
   refine rd_s rfl rfl trivial (ss_move rfl) rfl ?_
   refine rd_s rfl rfl trivial (ss_move rfl) rfl ?_
   refine rd_l rfl rfl trivial (ss_loadH rfl rfl rfl rfl) rfl ?_
   obtain ⟨q6, h⟩ := h
   refine rd_w rfl rfl trivial rfl rfl (ws_callM (xs := [.tmp 19, .tmp 20]) (cs := [.obox [.lst (bys o2_0), ci o2_1, cu o2_2], ci (r1_0.length : Int)]) (ids := []) rfl (.inr ⟨rfl, rfl⟩) rfl rfl rfl (c_spec_l01Next o2_0 o2_1 o2_2 (r1_0.length : Int) q6) rfl rfl ?_ )
   rintro _ _ ⟨r3_0, o3_0, o3_1, o3_2, q7, rfl, rfl⟩
   replace h := h r3_0 o3_0 o3_1 o3_2 q7
   refine ⟨rfl, rfl, ?_⟩
   obtain ⟨q8, h⟩ := h
   refine rd_w rfl rfl trivial rfl rfl (ws_callM (xs := [.tmp 22, .tmp 23]) (cs := [.obox [.lst (bys o3_0), ci o3_1, cu o3_2], ci (r1_0.length : Int)]) (ids := [24]) rfl (.inr ⟨rfl, rfl⟩) rfl rfl rfl (c_spec_l03DrawPerm o3_0 o3_1 o3_2 (r1_0.length : Int) q8) rfl rfl ?_ )
   rintro _ _ ⟨r4_0, o4_0, o4_1, o4_2, q9, rfl, rfl⟩
   replace h := h r4_0 o4_0 o4_1 o4_2 q9
   refine ⟨rfl, rfl, ?_⟩
   obtain ⟨q10, h⟩ := h
   refine rd_s rfl rfl trivial (ss_idxR (f := (fun r => C.own (ints r))) rfl rfl rfl q10) rfl ?_
   refine rd_f rfl rfl trivial (ws_storeV rfl rfl (map_lt q10) rfl rfl rfl rfl ⟨rfl, ?_⟩)
   refine rd_nil ?_
   refine aw_seq ?_
   refine aw_gh (gh_to (n := 50) (σ' := [(24, ⟨ints r4_0, []⟩), (5, ⟨[.hole], [(0, .ref 9)]⟩), (9, ⟨(orows r1_0).set r3_0.toNat .hole, [(r3_0.toNat, .ref 24)]⟩), (4, ⟨[cnil], []⟩), (800, ⟨[.lst (bys o4_0), ci o4_1, cu o4_2], []⟩)]) (env' := [(4, .cell 4 0), (5, .cell 5 0), (50, .cell 800 0), (51, .c (ci most))]) rfl rfl ⟨rfl, rfl, rfl, rfl, trivial⟩) ?_
   refine aw_region ?_
   refine run_s (ss_loadS rfl rfl rfl rfl) rfl ?_
   refine run_w (ws_storeS rfl rfl (Nat.le_of_ble_eq_true rfl) rfl rfl rfl ⟨rfl, ?_⟩)
   refine run_nil ?_
   refine aw_gh (gh_fillA (id := 9) (id2 := 24) (f := (fun r => C.own (ints r))) (v := r4_0) rfl lk_self rfl q10 rfl rfl kr_self) ?_
   refine aw_ret ?_
   exact retAM_mk (retv1 rfl (rv_struct rfl rfl rfl)) rfl rfl rfl ⟨_, _, _, _, h, rfl, rfl⟩
  ·replace h := h.2 (of_decide_eq_false q5)
   refine aw_seq ?_
   refine aw_gh (gh_to (n := 50) (σ' := [(5, ⟨[.hole], [(0, .ref 9)]⟩), (9, ⟨orows r1_0, []⟩), (4, ⟨[cnil], []⟩), (800, ⟨[.lst (bys o2_0), ci o2_1, cu o2_2], []⟩)]) (env' := [(0, .cell 800 0), (4, .cell 4 0), (5, .cell 5 0), (6, .c (ci (r1_0.length : Int))), (14, .c (ci r2_0)), (50, .cell 800 0), (51, .c (ci most))]) rfl rfl ⟨rfl, rfl, rfl, rfl, rfl, rfl, rfl, trivial⟩) ?_
   refine aw_region ?_
   refine run_s (ss_eql rfl rfl) rfl ?_
   refine run_s (ss_assign rfl) rfl ?_
   refine run_nil ?_
   refine aw_cond rfl (fun q11 => ?_) (fun q11 => ?_)
   ·replace h := h.1 (of_decide_eq_true q11)
    refine aw_gh (gh_to (n := 50) (σ' := [(5, ⟨[.hole], [(0, .ref 9)]⟩), (9, ⟨orows r1_0, []⟩), (4, ⟨[cnil], []⟩), (800, ⟨[.lst (bys o2_0), ci o2_1, cu o2_2], []⟩)]) (env' := [(0, .cell 800 0), (4, .cell 4 0), (5, .cell 5 0), (6, .c (ci (r1_0.length : Int))), (50, .cell 800 0), (51, .c (ci most))]) rfl rfl ⟨rfl, rfl, rfl, rfl, rfl, rfl, trivial⟩) ?_
    refine aw_regionD (kd := kdl [0, 1, 0, 0, 2, 0, 1, 0, 0, 2, 0, 0, 0, 2, 0, 3]) (ord := [0, 2, 3, 7, 8, 10, 11, 12, 1, 4, 5, 6, 9, 13, 14, 15]) [800] mixed (by kernel_rfl) ?_
    refine rd_s rfl rfl trivial (ss_field_cell rfl) rfl ?_
    refine rd_s rfl rfl trivial (ss_move rfl) rfl ?_
    refine rd_s rfl rfl trivial (ss_move rfl) rfl ?_
    refine rd_s rfl rfl trivial (ss_move rfl) rfl ?_
    refine rd_s rfl rfl trivial (ss_move rfl) rfl ?_
    refine rd_s rfl rfl trivial (ss_move rfl) rfl ?_
    refine rd_s rfl rfl trivial (ss_move rfl) rfl ?_
    obtain ⟨q12, h⟩ := h
    refine rd_s rfl rfl trivial (ss_add rfl rfl q12) rfl ?_
    refine rd_l rfl rfl trivial (ss_loadH rfl rfl rfl rfl) rfl ?_
    obtain ⟨q13, h⟩ := h
    refine rd_w rfl rfl trivial rfl rfl (ws_callM (xs := [.tmp 30, .tmp 31]) (cs := [.obox [.lst (bys o2_0), ci o2_1, cu o2_2], ci (r1_0.length : Int)]) (ids := []) rfl (.inr ⟨rfl, rfl⟩) rfl rfl rfl (c_spec_l01Next o2_0 o2_1 o2_2 (r1_0.length : Int) q13) rfl rfl ?_ )
    rintro _ _ ⟨r5_0, o5_0, o5_1, o5_2, q14, rfl, rfl⟩
    replace h := h r5_0 o5_0 o5_1 o5_2 q14
    refine ⟨rfl, rfl, ?_⟩
    obtain ⟨q15, h⟩ := h
    refine rd_s rfl rfl trivial (ss_idxR (f := (fun r => C.own (ints r))) rfl rfl rfl q15) rfl ?_
    refine rd_open 1001 (id := 9) (j := r5_0.toNat) rfl (map_get (f := (fun r => C.own (ints r))) q15) rfl rfl rfl ?_
    refine rd_l rfl rfl trivial (ss_loadH rfl rfl lk_self rfl) rfl ?_
    obtain ⟨q16, h⟩ := h
    refine rd_w rfl rfl trivial rfl rfl (ws_callM (xs := [.tmp 35, .tmp 36]) (cs := [.obox [.lst (bys o5_0), ci o5_1, cu o5_2], ci (r1_0.length : Int)]) (ids := []) rfl (.inr ⟨rfl, rfl⟩) rfl rfl rfl (c_spec_l01Next o5_0 o5_1 o5_2 (r1_0.length : Int) q16) rfl rfl ?_ )
    rintro _ _ ⟨r6_0, o6_0, o6_1, o6_2, q17, rfl, rfl⟩
    replace h := h r6_0 o6_0 o6_1 o6_2 q17
    refine ⟨rfl, rfl, ?_⟩
    obtain ⟨q18, h⟩ := h
    refine rd_w rfl rfl trivial rfl rfl (ws_callM (xs := [.tmp 38, .tmp 40]) (cs := [.obox [.lst (bys o6_0), ci o6_1, cu o6_2], ci ((r1_0.length : Int) + 1)]) (ids := []) rfl (.inr ⟨rfl, rfl⟩) rfl rfl rfl (c_spec_l01Next o6_0 o6_1 o6_2 ((r1_0.length : Int) + 1) q18) rfl rfl ?_ )
    rintro _ _ ⟨r7_0, o7_0, o7_1, o7_2, q19, rfl, rfl⟩
    replace h := h r7_0 o7_0 o7_1 o7_2 q19
    refine ⟨rfl, rfl, ?_⟩
    obtain ⟨q20, h⟩ := h
    refine rd_s rfl rfl trivial (ss_idxR (f := ci) rfl rfl rfl q20) rfl ?_
    refine rd_f rfl rfl trivial (ws_storeE rfl rfl (map_lt q20) rfl rfl (map_se (f := ci)) rfl ⟨rfl, ?_⟩)
    refine rd_nil ?_
    refine aw_seq ?_
    refine aw_gh (gh_to (n := 50) (σ' := [(1001, ⟨ints (se (el r1_0 r5_0) r6_0 r7_0), []⟩), (5, ⟨[.hole], [(0, .ref 9)]⟩), (9, ⟨(orows r1_0).set r5_0.toNat .hole, [(r5_0.toNat, .ref 1001)]⟩), (4, ⟨[cnil], []⟩), (800, ⟨[.lst (bys o7_0), ci o7_1, cu o7_2], []⟩)]) (env' := [(4, .cell 4 0), (5, .cell 5 0), (50, .cell 800 0), (51, .c (ci most))]) rfl rfl ⟨rfl, rfl, rfl, rfl, trivial⟩) ?_
    refine aw_region ?_
    refine run_s (ss_loadS rfl rfl rfl rfl) rfl ?_
    refine run_w (ws_storeS rfl rfl (Nat.le_of_ble_eq_true rfl) rfl rfl rfl ⟨rfl, ?_⟩)
    refine run_nil ?_
    refine aw_gh (gh_fillA (id := 9) (id2 := 1001) (f := (fun r => C.own (ints r))) (v := se (el r1_0 r5_0) r6_0 r7_0) rfl lk_self rfl q15 rfl rfl kr_self) ?_
    refine aw_ret ?_
    exact retAM_mk (retv1 rfl (rv_struct rfl rfl rfl)) rfl rfl rfl ⟨_, _, _, _, h, rfl, rfl⟩
   ·replace h := h.2 (of_decide_eq_false q11)
    refine aw_seq ?_
    refine aw_gh (gh_to (n := 50) (σ' := [(5, ⟨[.hole], [(0, .ref 9)]⟩), (9, ⟨orows r1_0, []⟩), (4, ⟨[cnil], []⟩), (800, ⟨[.lst (bys o2_0), ci o2_1, cu o2_2], []⟩)]) (env' := [(4, .cell 4 0), (5, .cell 5 0), (14, .c (ci r2_0)), (50, .cell 800 0), (51, .c (ci most))]) rfl rfl ⟨rfl, rfl, rfl, rfl, rfl, trivial⟩) ?_
    refine aw_region ?_
    refine run_s (ss_eql rfl rfl) rfl ?_
    refine run_s (ss_assign rfl) rfl ?_
    refine run_nil ?_
    refine aw_cond rfl (fun q21 => ?_) (fun q21 => ?_)
    ·replace h := h.1 (of_decide_eq_true q21)
     refine aw_region ?_
     refine run_s (ss_field_cell rfl) rfl ?_
     refine run_s (ss_loadH rfl rfl rfl rfl) rfl ?_
     obtain ⟨q22, h⟩ := h
     refine run_w (ws_slR (f := (fun r => C.own (ints r))) rfl rfl (bnd_some rfl) bnd_none q22 ⟨rfl, ?_⟩)
     refine run_s (ss_field_cell rfl) rfl ?_
     refine run_w (ws_store rfl rfl (Nat.le_of_ble_eq_true rfl) rfl rfl ⟨rfl, ?_⟩)
     refine run_nil ?_
     refine aw_seq ?_
     refine aw_gh (gh_to (n := 50) (σ' := [(5, ⟨[.hole], [(0, .ref 9)]⟩), (9, ⟨orows (sl r1_0 1 (r1_0.length : Int)), []⟩), (4, ⟨[cnil], []⟩), (800, ⟨[.lst (bys o2_0), ci o2_1, cu o2_2], []⟩)]) (env' := [(4, .cell 4 0), (5, .cell 5 0), (50, .cell 800 0), (51, .c (ci most))]) rfl rfl ⟨rfl, rfl, rfl, rfl, trivial⟩) ?_
     refine aw_region ?_
     refine run_s (ss_loadS rfl rfl rfl rfl) rfl ?_
     refine run_w (ws_storeS rfl rfl (Nat.le_of_ble_eq_true rfl) rfl rfl rfl ⟨rfl, ?_⟩)
     refine run_nil ?_
     refine aw_ret ?_
     exact retAM_mk (retv1 rfl (rv_struct rfl rfl rfl)) rfl rfl rfl ⟨_, _, _, _, h, rfl, rfl⟩
    ·replace h := h.2 (of_decide_eq_false q21)
     refine aw_skip ?_
     refine aw_seq ?_
     refine aw_gh (gh_to (n := 50) (σ' := [(5, ⟨[.hole], [(0, .ref 9)]⟩), (9, ⟨orows r1_0, []⟩), (4, ⟨[cnil], []⟩), (800, ⟨[.lst (bys o2_0), ci o2_1, cu o2_2], []⟩)]) (env' := [(4, .cell 4 0), (5, .cell 5 0), (50, .cell 800 0), (51, .c (ci most))]) rfl rfl ⟨rfl, rfl, rfl, rfl, trivial⟩) ?_
     refine aw_region ?_
     refine run_s (ss_loadS rfl rfl rfl rfl) rfl ?_
     refine run_w (ws_storeS rfl rfl (Nat.le_of_ble_eq_true rfl) rfl rfl rfl ⟨rfl, ?_⟩)
     refine run_nil ?_
     refine aw_ret ?_
     exact retAM_mk (retv1 rfl (rv_struct rfl rfl rfl)) rfl rfl rfl ⟨_, _, _, _, h, rfl, rfl⟩

theorem c_spec_l03DrawAny (s1 : List Int) (s2 : Int) (s3 : Int) (most : Int) (hp : okS s1 s2 s3 ∧ 1 ≤ most ∧ most ≤ 12) : AM Try.prog 58 [.obox [.lst (bys s1), ci s2, cu s3], ci most] (fun R_ O_ => ∃ y0 w0 w1 w2, (drT most y0 ∧ w0 = s1 ∧ okS s1 w1 w2) ∧ R_ = .agg [.own (orows y0)] ∧ O_ = [.obox [.lst (bys w0), ci w1, cu w2], ci most]) :=
  w_spec_l03DrawAny s1 s2 s3 most (fun y0 w0 w1 w2 => drT most y0 ∧ w0 = s1 ∧ okS s1 w1 w2) (p_spec_l03DrawAny s1 s2 s3 most hp)

set_option maxRecDepth 100000 in
set_option maxHeartbeats 4000000 in
theorem w_laws_big (code : List Int) (Q : Bool → Prop) (h : wp_laws_big code Q) : AF Try.prog 6 [.lst (bys code)] (fun R_ => ∃ y0, Q y0 ∧ R_ = cb y0) := by
  refine AF.ofWQ (af_enter (n := 6) Try.func6 rfl (by rfl) rfl (Nat.le_of_ble_eq_true rfl) ?_)
  unfold wp_laws_big at h
  refine aw_seq ?_
  refine aw_gh (gh_to (n := 6) (σ' := []) (env' := [(0, .c (.lst (bys code)))]) rfl rfl ⟨rfl, trivial⟩) ?_
  refine aw_region ?_
  refine run_s (ss_assign rfl) rfl ?_
  refine run_nil ?_
  refine aw_seq ?_
  refine aw_region ?_
  refine run_s (ss_move rfl) rfl ?_
  refine run_s (ss_lenL (f := cy) rfl) rfl ?_
  refine run_s (ss_gtr rfl rfl) rfl ?_
  refine run_s (ss_assign rfl) rfl ?_
  refine run_nil ?_
  refine aw_ret ?_
  exact retAF_mk (retv1 rfl (rv_tmp rfl)) rfl rfl ⟨_, (cle_refl _), _, h, rfl⟩

theorem c_laws_big (code : List Int)  : AF Try.prog 6 [.lst (bys code)] (fun R_ => R_ = cb (decide (4096 < (code.length : Int)))) :=
  (w_laws_big code (fun y0 => y0 = decide (4096 < (code.length : Int))) (p_laws_big code)).mono (by rintro r ⟨_, rfl, rfl⟩; rfl)

def wp_laws_most9 (list : List Int) (Q : Int → Prop) : Prop :=
 ∃ (H1 : Int → Int → Prop) (m1 : Int → Int → Nat),
 H1 0 0 ∧
 ∀ (v3_1 : Int) (v4_1 : Int), H1 v3_1 v4_1 →
 ( ((v4_1 < (list.length : Int) →
 (0 ≤ v4_1 ∧ v4_1 < (list.length : Int)) ∧
 ((v3_1 ≤ el list v4_1 →
 (0 ≤ v4_1 ∧ v4_1 < (list.length : Int)) ∧
 (InI ((el list v4_1) + 1)) ∧
 (InI (v4_1 + 1)) ∧
 (H1 ((el list v4_1) + 1) (v4_1 + 1) ∧ m1 ((el list v4_1) + 1) (v4_1 + 1) < m1 v3_1 v4_1)) ∧
 (¬ (v3_1 ≤ el list v4_1) →
 (InI (v4_1 + 1)) ∧
 (H1 v3_1 (v4_1 + 1) ∧ m1 v3_1 (v4_1 + 1) < m1 v3_1 v4_1)))) ∧
 (¬ (v4_1 < (list.length : Int)) →
 Q v3_1)))

theorem p_laws_most9 (list : List Int) (hp : small list ∧ ∀ z_ ∈ list, z_ ≤ 1000000000) : wp_laws_most9 list (fun y0 => y0 = mostI list) := by
  obtain ⟨hs, hz⟩ := hp
  have hs' : (list.length : Int) ≤ 1000000000 := hs
  refine ⟨fun n i => (0 ≤ i ∧ i ≤ (list.length : Int)) ∧ n = mostI (list.take i.toNat), fun _ i => ((list.length : Int) - i).toNat, ⟨⟨by omega, by omega⟩, rfl⟩, ?_⟩
  rintro n i ⟨⟨i0, i1⟩, rfl⟩
  dsimp only
  refine ⟨fun ilt => ?_, fun ige => by rw [List.take_of_length_le (by omega)]⟩
  have st := most_step ⟨i0, ilt⟩
  have hb := hz _ (el_mem ⟨i0, ilt⟩)
  have h0 := most_nonneg (list.take i.toNat)
  refine ⟨⟨i0, ilt⟩, fun hc => ⟨⟨i0, ilt⟩, ⟨by omega, by omega⟩, ⟨by omega, by omega⟩, ⟨⟨by omega, by omega⟩, by rw [st, if_pos hc]⟩, by omega⟩, fun hc => ⟨⟨by omega, by omega⟩, ⟨⟨by omega, by omega⟩, by rw [st, if_neg hc]⟩, by omega⟩⟩
set_option maxRecDepth 100000 in
set_option maxHeartbeats 4000000 in
theorem w_laws_most9 (list : List Int) (Q : Int → Prop) (h : wp_laws_most9 list Q) : AF Try.prog 32 [.lst (ints list)] (fun R_ => ∃ y0, Q y0 ∧ R_ = ci y0) := by
  refine AF.ofWQ (af_enter (n := 23) Try.func32 rfl (by rfl) rfl (Nat.le_of_ble_eq_true rfl) ?_)
  unfold wp_laws_most9 at h
  refine aw_seq ?_
  refine aw_gh (gh_to (n := 23) (σ' := []) (env' := [(0, .c (.lst (ints list)))]) rfl rfl ⟨rfl, trivial⟩) ?_
  refine aw_region ?_
  refine run_s (ss_assign rfl) rfl ?_
  refine run_nil ?_
  refine aw_seq ?_
  refine aw_region ?_
  refine run_s (ss_assign rfl) rfl ?_
  refine run_nil ?_
  refine aw_seq ?_
  refine aw_seq ?_
  refine aw_region ?_
  refine run_s (ss_assign rfl) rfl ?_
  refine run_nil ?_
  refine aw_block ?_
  obtain ⟨H1, m1, q1, h⟩ := h
  refine aw_loop2 (fun (v3_1 : Int) (v4_1 : Int) => ⟨[], [(0, .c (.lst (ints list))), (3, .c (ci v3_1)), (4, .c (ci v4_1))], 23⟩) H1 m1 ⟨0, 0, ghe_to (n := 23) rfl rfl ⟨rfl, rfl, rfl, trivial⟩, q1⟩ ?_
  rintro v3_1 v4_1 q1
  replace h := h v3_1 v4_1 q1
  refine aw_seq ?_
  refine aw_seq ?_
  refine aw_region ?_
  refine run_s (ss_move rfl) rfl ?_
  refine run_s (ss_move rfl) rfl ?_
  refine run_s (ss_lenL (f := ci) rfl) rfl ?_
  refine run_s (ss_lss rfl rfl) rfl ?_
  refine run_nil ?_
  refine aw_cond rfl (fun q2 => ?_) (fun q2 => ?_)
  ·replace h := h.1 (of_decide_eq_true q2)
   refine aw_skip ?_
   refine aw_seq ?_
   refine aw_block ?_
   refine aw_seq ?_
   refine aw_region ?_
   refine run_s (ss_move rfl) rfl ?_
   refine run_s (ss_move rfl) rfl ?_
   obtain ⟨q3, h⟩ := h
   refine run_s (ss_idxL rfl rfl q3) rfl ?_
   refine run_s (ss_loadL (f := ci) rfl q3) rfl ?_
   refine run_s (ss_move rfl) rfl ?_
   refine run_s (ss_geq rfl rfl) rfl ?_
   refine run_nil ?_
   refine aw_cond rfl (fun q4 => ?_) (fun q4 => ?_)
   ·replace h := h.1 (of_decide_eq_true q4)
    refine aw_gh (gh_to (n := 23) (σ' := []) (env' := [(0, .c (.lst (ints list))), (3, .c (ci v3_1)), (4, .c (ci v4_1))]) rfl rfl ⟨rfl, rfl, rfl, trivial⟩) ?_
    refine aw_region ?_
    refine run_s (ss_move rfl) rfl ?_
    refine run_s (ss_move rfl) rfl ?_
    obtain ⟨q5, h⟩ := h
    refine run_s (ss_idxL rfl rfl q5) rfl ?_
    refine run_s (ss_loadL (f := ci) rfl q5) rfl ?_
    obtain ⟨q6, h⟩ := h
    refine run_s (ss_add rfl rfl q6) rfl ?_
    refine run_s (ss_assign rfl) rfl ?_
    refine run_nil ?_
    refine aw_gh (gh_to (n := 23) (σ' := []) (env' := [(0, .c (.lst (ints list))), (3, .c (ci ((el list v4_1) + 1))), (4, .c (ci v4_1))]) rfl rfl ⟨rfl, rfl, rfl, trivial⟩) ?_
    refine aw_region ?_
    refine run_s (ss_move rfl) rfl ?_
    obtain ⟨q7, h⟩ := h
    refine run_s (ss_add rfl rfl q7) rfl ?_
    refine run_s (ss_assign rfl) rfl ?_
    refine run_nil ?_
    exact ⟨(el list v4_1) + 1, v4_1 + 1, ghe_to (n := 23) rfl rfl ⟨rfl, rfl, rfl, trivial⟩, h.1, h.2⟩
   ·replace h := h.2 (of_decide_eq_false q4)
    refine aw_skip ?_
    refine aw_gh (gh_to (n := 23) (σ' := []) (env' := [(0, .c (.lst (ints list))), (3, .c (ci v3_1)), (4, .c (ci v4_1))]) rfl rfl ⟨rfl, rfl, rfl, trivial⟩) ?_
    refine aw_region ?_
    refine run_s (ss_move rfl) rfl ?_
    obtain ⟨q8, h⟩ := h
    refine run_s (ss_add rfl rfl q8) rfl ?_
    refine run_s (ss_assign rfl) rfl ?_
    refine run_nil ?_
    exact ⟨v3_1, v4_1 + 1, ghe_to (n := 23) rfl rfl ⟨rfl, rfl, rfl, trivial⟩, h.1, h.2⟩
  ·replace h := h.2 (of_decide_eq_false q2)
   refine aw_exit ?_
   refine aw_seq ?_
   refine aw_gh (gh_to (n := 23) (σ' := []) (env' := [(3, .c (ci v3_1))]) rfl rfl ⟨rfl, trivial⟩) ?_
   refine aw_region ?_
   refine run_s (ss_move rfl) rfl ?_
   refine run_s (ss_assign rfl) rfl ?_
   refine run_nil ?_
   refine aw_ret ?_
   exact retAF_mk (retv1 rfl (rv_tmp rfl)) rfl rfl ⟨_, (cle_refl _), _, h, rfl⟩

theorem c_laws_most9 (list : List Int) (hp : small list ∧ ∀ z_ ∈ list, z_ ≤ 1000000000) : AF Try.prog 32 [.lst (ints list)] (fun R_ => R_ = ci (mostI list)) :=
  (w_laws_most9 list (fun y0 => y0 = mostI list) (p_laws_most9 list hp)).mono (by rintro r ⟨_, rfl, rfl⟩; rfl)

def wp_spec_l01Less (a : List Int) (b : List Int) (Q : Bool → Prop) : Prop :=
 ∃ (H1 : Int → Prop) (m1 : Int → Nat),
 H1 0 ∧
 ∀ (v5_1 : Int), H1 v5_1 →
 ( ((v5_1 < (a.length : Int) →
 ((v5_1 < (b.length : Int) →
 (0 ≤ v5_1 ∧ v5_1 < (a.length : Int)) ∧
 (0 ≤ v5_1 ∧ v5_1 < (b.length : Int)) ∧
 ((¬ (el a v5_1 = el b v5_1) →
 (0 ≤ v5_1 ∧ v5_1 < (a.length : Int)) ∧
 (0 ≤ v5_1 ∧ v5_1 < (b.length : Int)) ∧
 Q (decide (el a v5_1 < el b v5_1))) ∧
 (el a v5_1 = el b v5_1 →
 (InI (v5_1 + 1)) ∧
 (H1 (v5_1 + 1) ∧ m1 (v5_1 + 1) < m1 v5_1)))) ∧
 (¬ (v5_1 < (b.length : Int)) →
 Q (decide ((a.length : Int) < (b.length : Int)))))) ∧
 (¬ (v5_1 < (a.length : Int)) →
 Q (decide ((a.length : Int) < (b.length : Int))))))

theorem p_spec_l01Less (a b : List Int) (hp : small a ∧ small b) : wp_spec_l01Less a b (fun y0 => y0 = decide (cmpG cmp1 a b < 0)) := by
  have h1 : (a.length : Int) ≤ 1000000000 := hp.1
  refine ⟨fun i => (0 ≤ i ∧ i ≤ (a.length : Int) ∧ i ≤ (b.length : Int)) ∧ Upto i fun j => cmp1 (el a j) (el b j) = 0, fun i => ((a.length : Int) - i).toNat, ⟨⟨by omega, by omega, by omega⟩, upto0⟩, ?_⟩
  rintro i ⟨⟨i0, i1, i2⟩, hu⟩
  have fin : ¬ (i < (a.length : Int) ∧ i < (b.length : Int)) → decide ((a.length : Int) < (b.length : Int)) = decide (cmpG cmp1 a b < 0) := fun g => by
    by_cases ha : i < (a.length : Int)
    · rw [cmpG_long hu ⟨i0, ha⟩ (by omega)]; simp; omega
    · by_cases hb : i < (b.length : Int)
      · rw [cmpG_short hu ⟨i0, by omega⟩ hb]; simp; omega
      · rw [cmpG_same hu ⟨i0, by omega⟩ (by omega)]; simp; omega
  dsimp only
  refine ⟨fun hlt => ⟨fun hb => ⟨⟨i0, hlt⟩, ⟨i0, hb⟩, fun h => ⟨⟨i0, hlt⟩, ⟨i0, hb⟩, ?_⟩, fun h => ⟨⟨by omega, by omega⟩, ⟨⟨by omega, by omega, by omega⟩, upto1 hu (cmp1_zero.2 h)⟩, by omega⟩⟩, fun hb => fin fun g => hb g.2⟩, fun hge => fin fun g => hge g.1⟩
  rw [cmpG_ne hu ⟨i0, hlt⟩ hb fun g => h (cmp1_zero.1 g)]
  unfold cmp1
  split
  · simp [*]
  · split <;> simp [*]
set_option maxRecDepth 100000 in
set_option maxHeartbeats 4000000 in
theorem w_spec_l01Less (a : List Int) (b : List Int) (Q : Bool → Prop) (h : wp_spec_l01Less a b Q) : AF Try.prog 98 [.lst (ints a), .lst (ints b)] (fun R_ => ∃ y0, Q y0 ∧ R_ = cb y0) := by
  refine AF.ofWQ (af_enter (n := 41) Try.func98 rfl (by rfl) rfl (Nat.le_of_ble_eq_true rfl) ?_)
  unfold wp_spec_l01Less at h
  refine aw_seq ?_
  refine aw_gh (gh_to (n := 41) (σ' := []) (env' := [(0, .c (.lst (ints a))), (1, .c (.lst (ints b)))]) rfl rfl ⟨rfl, rfl, trivial⟩) ?_
  refine aw_region ?_
  refine run_s (ss_assign rfl) rfl ?_
  refine run_nil ?_
  refine aw_seq ?_
  refine aw_seq ?_
  refine aw_region ?_
  refine run_s (ss_assign rfl) rfl ?_
  refine run_nil ?_
  refine aw_block ?_
  obtain ⟨H1, m1, q1, h⟩ := h
  refine aw_loop1 (fun (v5_1 : Int) => ⟨[], [(0, .c (.lst (ints a))), (1, .c (.lst (ints b))), (5, .c (ci v5_1))], 41⟩) H1 m1 ⟨0, ghe_to (n := 41) rfl rfl ⟨rfl, rfl, rfl, trivial⟩, q1⟩ ?_
  rintro v5_1 q1
  replace h := h v5_1 q1
  refine aw_seq ?_
  refine aw_seq ?_
  refine aw_region ?_
  refine run_s (ss_move rfl) rfl ?_
  refine run_s (ss_move rfl) rfl ?_
  refine run_s (ss_lenL (f := ci) rfl) rfl ?_
  refine run_s (ss_lss rfl rfl) rfl ?_
  refine run_s (ss_move rfl) rfl ?_
  refine run_split (s := 10) rfl (fun q2 => ?_) (fun q2 => ?_)
  ·replace h := h.1 (of_decide_eq_true q2)
   refine run_gt rfl rfl q2 ?_
   refine run_s (ss_move rfl) rfl ?_
   refine run_gt rfl rfl q2 ?_
   refine run_s (ss_move rfl) rfl ?_
   refine run_gt rfl rfl q2 ?_
   refine run_s (ss_lenL (f := ci) rfl) rfl ?_
   refine run_gt rfl rfl q2 ?_
   refine run_s (ss_lss rfl rfl) rfl ?_
   refine run_s (ss_pickT rfl q2 rfl) rfl ?_
   refine run_nil ?_
   refine aw_cond rfl (fun q3 => ?_) (fun q3 => ?_)
   ·replace h := h.1 (of_decide_eq_true q3)
    refine aw_skip ?_
    refine aw_seq ?_
    refine aw_block ?_
    refine aw_seq ?_
    refine aw_gh (gh_to (n := 41) (σ' := []) (env' := [(0, .c (.lst (ints a))), (1, .c (.lst (ints b))), (5, .c (ci v5_1)), (11, .c (ci v5_1)), (12, .c (.lst (ints b))), (13, .c (ci (b.length : Int))), (14, .c (cb (decide (v5_1 < (b.length : Int)))))]) rfl rfl ⟨rfl, rfl, rfl, rfl, rfl, rfl, rfl, trivial⟩) ?_
    refine aw_regionD (kd := kdl [0, 0, 0, 1, 0, 0, 0, 1, 0]) (ord := [0, 1, 2, 4, 5, 6, 3, 7, 8]) [] mixed (by kernel_rfl) ?_
    refine rd_s rfl rfl trivial (ss_move rfl) rfl ?_
    refine rd_s rfl rfl trivial (ss_move rfl) rfl ?_
    obtain ⟨q4, h⟩ := h
    refine rd_s rfl rfl trivial (ss_idxL rfl rfl q4) rfl ?_
    refine rd_s rfl rfl trivial (ss_move rfl) rfl ?_
    refine rd_s rfl rfl trivial (ss_move rfl) rfl ?_
    obtain ⟨q5, h⟩ := h
    refine rd_s rfl rfl trivial (ss_idxL rfl rfl q5) rfl ?_
    refine rd_l rfl rfl trivial (ss_loadL (f := ci) rfl q4) rfl ?_
    refine rd_l rfl rfl trivial (ss_loadL (f := ci) rfl q5) rfl ?_
    refine rd_s rfl rfl trivial (ss_neq rfl rfl) rfl ?_
    refine rd_nil ?_
    refine aw_cond rfl (fun q6 => ?_) (fun q6 => ?_)
    ·replace h := h.1 (of_decide_eq_false (bnot_t q6))
     refine aw_seq ?_
     refine aw_gh (gh_to (n := 41) (σ' := []) (env' := [(0, .c (.lst (ints a))), (1, .c (.lst (ints b))), (5, .c (ci v5_1))]) rfl rfl ⟨rfl, rfl, rfl, trivial⟩) ?_
     refine aw_regionD (kd := kdl [0, 0, 0, 1, 0, 0, 0, 1, 0, 0]) (ord := [0, 1, 2, 4, 5, 6, 3, 7, 8, 9]) [] mixed (by kernel_rfl) ?_
     refine rd_s rfl rfl trivial (ss_move rfl) rfl ?_
     refine rd_s rfl rfl trivial (ss_move rfl) rfl ?_
     obtain ⟨q7, h⟩ := h
     refine rd_s rfl rfl trivial (ss_idxL rfl rfl q7) rfl ?_
     refine rd_s rfl rfl trivial (ss_move rfl) rfl ?_
     refine rd_s rfl rfl trivial (ss_move rfl) rfl ?_
     obtain ⟨q8, h⟩ := h
     refine rd_s rfl rfl trivial (ss_idxL rfl rfl q8) rfl ?_
     refine rd_l rfl rfl trivial (ss_loadL (f := ci) rfl q7) rfl ?_
     refine rd_l rfl rfl trivial (ss_loadL (f := ci) rfl q8) rfl ?_
     refine rd_s rfl rfl trivial (ss_lss rfl rfl) rfl ?_
     refine rd_s rfl rfl trivial (ss_assign rfl) rfl ?_
     refine rd_nil ?_
     refine aw_ret ?_
     exact retAF_mk (retv1 rfl (rv_tmp rfl)) rfl rfl ⟨_, (cle_refl _), _, h, rfl⟩
    ·replace h := h.2 (of_decide_eq_true (bnot_f q6))
     refine aw_skip ?_
     refine aw_gh (gh_to (n := 41) (σ' := []) (env' := [(0, .c (.lst (ints a))), (1, .c (.lst (ints b))), (5, .c (ci v5_1)), (11, .c (ci v5_1)), (12, .c (.lst (ints b))), (13, .c (ci (b.length : Int))), (14, .c (cb (decide (v5_1 < (b.length : Int)))))]) rfl rfl ⟨rfl, rfl, rfl, rfl, rfl, rfl, rfl, trivial⟩) ?_
     refine aw_region ?_
     refine run_s (ss_move rfl) rfl ?_
     obtain ⟨q9, h⟩ := h
     refine run_s (ss_add rfl rfl q9) rfl ?_
     refine run_s (ss_assign rfl) rfl ?_
     refine run_nil ?_
     exact ⟨v5_1 + 1, ghe_to (n := 41) rfl rfl ⟨rfl, rfl, rfl, trivial⟩, h.1, h.2⟩
   ·replace h := h.2 (of_decide_eq_false q3)
    refine aw_exit ?_
    refine aw_seq ?_
    refine aw_gh (gh_to (n := 41) (σ' := []) (env' := [(0, .c (.lst (ints a))), (1, .c (.lst (ints b)))]) rfl rfl ⟨rfl, rfl, trivial⟩) ?_
    refine aw_region ?_
    refine run_s (ss_move rfl) rfl ?_
    refine run_s (ss_lenL (f := ci) rfl) rfl ?_
    refine run_s (ss_move rfl) rfl ?_
    refine run_s (ss_lenL (f := ci) rfl) rfl ?_
    refine run_s (ss_lss rfl rfl) rfl ?_
    refine run_s (ss_assign rfl) rfl ?_
    refine run_nil ?_
    refine aw_ret ?_
    exact retAF_mk (retv1 rfl (rv_tmp rfl)) rfl rfl ⟨_, (cle_refl _), _, h, rfl⟩
  ·replace h := h.2 (of_decide_eq_false q2)
   refine run_gf rfl rfl q2 rfl ?_
   refine run_gf rfl rfl q2 rfl ?_
   refine run_gf rfl rfl q2 rfl ?_
   refine run_gf rfl rfl q2 rfl ?_
   refine run_s (ss_pickF rfl q2 rfl) rfl ?_
   refine run_nil ?_
   refine aw_cond rfl (fun q10 => ?_) (fun q10 => ?_)
   ·cases q10
   ·skip
    refine aw_exit ?_
    refine aw_seq ?_
    refine aw_gh (gh_to (n := 41) (σ' := []) (env' := [(0, .c (.lst (ints a))), (1, .c (.lst (ints b)))]) rfl rfl ⟨rfl, rfl, trivial⟩) ?_
    refine aw_region ?_
    refine run_s (ss_move rfl) rfl ?_
    refine run_s (ss_lenL (f := ci) rfl) rfl ?_
    refine run_s (ss_move rfl) rfl ?_
    refine run_s (ss_lenL (f := ci) rfl) rfl ?_
    refine run_s (ss_lss rfl rfl) rfl ?_
    refine run_s (ss_assign rfl) rfl ?_
    refine run_nil ?_
    refine aw_ret ?_
    exact retAF_mk (retv1 rfl (rv_tmp rfl)) rfl rfl ⟨_, (cle_refl _), _, h, rfl⟩

theorem c_spec_l01Less (a : List Int) (b : List Int) (hp : small a ∧ small b) : AF Try.prog 98 [.lst (ints a), .lst (ints b)] (fun R_ => R_ = cb (decide (cmpG cmp1 a b < 0))) :=
  (w_spec_l01Less a b (fun y0 => y0 = decide (cmpG cmp1 a b < 0)) (p_spec_l01Less a b hp)).mono (by rintro r ⟨_, rfl, rfl⟩; rfl)

def wp_spec_l03Search (lists : List (List Int)) (list : List Int) (Q : Int → Prop) : Prop :=
 ∃ (H1 : Int → Int → Prop) (m1 : Int → Int → Nat),
 H1 0 (lists.length : Int) ∧
 ∀ (v5_1 : Int) (v6_1 : Int), H1 v5_1 v6_1 →
 ( ((v5_1 < v6_1 →
 (InI (v5_1 + v6_1)) ∧
 ((0 : Int) ≤ v5_1 + v6_1 ∧ (0 : Int) < 2 ∧ v5_1 + v6_1 ≤ 9223372036854775807) ∧
 (0 ≤ (v5_1 + v6_1) / 2 ∧ (v5_1 + v6_1) / 2 < (lists.length : Int)) ∧
 (small (el lists ((v5_1 + v6_1) / 2)) ∧ small list) ∧
 ((cmpG cmp1 (el lists ((v5_1 + v6_1) / 2)) list < 0 →
 (InI (((v5_1 + v6_1) / 2) + 1)) ∧
 (H1 (((v5_1 + v6_1) / 2) + 1) v6_1 ∧ m1 (((v5_1 + v6_1) / 2) + 1) v6_1 < m1 v5_1 v6_1)) ∧
 (¬ (cmpG cmp1 (el lists ((v5_1 + v6_1) / 2)) list < 0) →
 (H1 v5_1 ((v5_1 + v6_1) / 2) ∧ m1 v5_1 ((v5_1 + v6_1) / 2) < m1 v5_1 v6_1)))) ∧
 (¬ (v5_1 < v6_1) →
 Q v5_1)))

set_option maxRecDepth 100000 in
theorem p_spec_l03Search (lists : List (List Int)) (list : List Int) (hp : small2 lists ∧ small list) : wp_spec_l03Search lists list (fun y0 => (0 ≤ y0 ∧ y0 ≤ (lists.length : Int)) ∧ (0 < y0 → cmpG cmp1 (el lists (y0 - 1)) list < 0) ∧ (y0 < (lists.length : Int) → ¬ cmpG cmp1 (el lists y0) list < 0)) := by
  unfold wp_spec_l03Search
  have hs : (lists.length : Int) ≤ 1000000000 := hp.1.1
  refine ⟨fun l h => (0 ≤ l ∧ l ≤ h ∧ h ≤ (lists.length : Int)) ∧ (0 < l → cmpG cmp1 (el lists (l - 1)) list < 0) ∧ (h < (lists.length : Int) → ¬ cmpG cmp1 (el lists h) list < 0), fun l h => (h - l).toNat, ⟨⟨by omega, by omega, by omega⟩, fun h => by omega, fun h => by omega⟩, ?_⟩
  rintro l h ⟨⟨h0, h1, h2⟩, hA, hB⟩
  dsimp only
  refine ⟨fun lt => ?_, fun ge => ⟨⟨h0, by omega⟩, hA, by rw [show l = h by omega]; exact hB⟩⟩
  have g1 : l ≤ (l + h) / 2 := by omega
  have g2 : (l + h) / 2 < h := by omega
  generalize (l + h) / 2 = m at *
  exact ⟨⟨by omega, by omega⟩, ⟨by omega, by omega, by omega⟩, ⟨by omega, by omega⟩, ⟨hp.1.2 _ (el_mem ⟨by omega, by omega⟩), hp.2⟩, fun hc => ⟨⟨by omega, by omega⟩, ⟨⟨by omega, by omega, by omega⟩, fun _ => by rw [Int.add_sub_cancel]; exact hc, hB⟩, by omega⟩, fun hc => ⟨⟨⟨by omega, by omega, by omega⟩, hA, fun _ => hc⟩, by omega⟩⟩
set_option maxRecDepth 100000 in
set_option maxHeartbeats 4000000 in
theorem w_spec_l03Search (lists : List (List Int)) (list : List Int) (Q : Int → Prop) (h : wp_spec_l03Search lists list Q) : AF Try.prog 56 [.lst (rows lists), .lst (ints list)] (fun R_ => ∃ y0, Q y0 ∧ R_ = ci y0) := by
  refine AF.ofWQ (af_enter (n := 27) Try.func56 rfl (by rfl) rfl (Nat.le_of_ble_eq_true rfl) ?_)
  unfold wp_spec_l03Search at h
  refine aw_seq ?_
  refine aw_gh (gh_to (n := 27) (σ' := []) (env' := [(0, .c (.lst (rows lists))), (1, .c (.lst (ints list)))]) rfl rfl ⟨rfl, rfl, trivial⟩) ?_
  refine aw_region ?_
  refine run_s (ss_assign rfl) rfl ?_
  refine run_nil ?_
  refine aw_seq ?_
  refine aw_region ?_
  refine run_s (ss_move rfl) rfl ?_
  refine run_s (ss_lenL (f := (fun r => C.lst (ints r))) rfl) rfl ?_
  refine run_s (ss_assign rfl) rfl ?_
  refine run_s (ss_assign rfl) rfl ?_
  refine run_nil ?_
  refine aw_seq ?_
  refine aw_block ?_
  obtain ⟨H1, m1, q1, h⟩ := h
  refine aw_loop2 (fun (v5_1 : Int) (v6_1 : Int) => ⟨[], [(0, .c (.lst (rows lists))), (1, .c (.lst (ints list))), (5, .c (ci v5_1)), (6, .c (ci v6_1))], 27⟩) H1 m1 ⟨0, (lists.length : Int), ghe_to (n := 27) rfl rfl ⟨rfl, rfl, rfl, rfl, trivial⟩, q1⟩ ?_
  rintro v5_1 v6_1 q1
  replace h := h v5_1 v6_1 q1
  refine aw_seq ?_
  refine aw_seq ?_
  refine aw_region ?_
  refine run_s (ss_move rfl) rfl ?_
  refine run_s (ss_move rfl) rfl ?_
  refine run_s (ss_lss rfl rfl) rfl ?_
  refine run_nil ?_
  refine aw_cond rfl (fun q2 => ?_) (fun q2 => ?_)
  ·replace h := h.1 (of_decide_eq_true q2)
   refine aw_skip ?_
   refine aw_block ?_
   refine aw_seq ?_
   refine aw_region ?_
   refine run_s (ss_move rfl) rfl ?_
   refine run_s (ss_move rfl) rfl ?_
   obtain ⟨q3, h⟩ := h
   refine run_s (ss_add rfl rfl q3) rfl ?_
   obtain ⟨q4, h⟩ := h
   refine run_s (ss_quo rfl rfl q4) rfl ?_
   refine run_s (ss_assign rfl) rfl ?_
   refine run_nil ?_
   refine aw_seq ?_
   refine aw_region ?_
   refine run_s (ss_move rfl) rfl ?_
   refine run_s (ss_move rfl) rfl ?_
   obtain ⟨q5, h⟩ := h
   refine run_s (ss_idxL rfl rfl q5) rfl ?_
   refine run_s (ss_loadL (f := (fun r => C.lst (ints r))) rfl q5) rfl ?_
   refine run_s (ss_move rfl) rfl ?_
   obtain ⟨q6, h⟩ := h
   refine run_w (ws_call (xs := [.tmp 20, .tmp 21]) (ids := []) rfl rfl rfl rfl (c_spec_l01Less (el lists ((v5_1 + v6_1) / 2)) list q6) rfl ?_ )
   rintro _ rfl
   refine ⟨rfl, ?_⟩
   refine run_nil ?_
   refine aw_cond rfl (fun q8 => ?_) (fun q8 => ?_)
   ·replace h := h.1 (of_decide_eq_true q8)
    refine aw_gh (gh_to (n := 27) (σ' := []) (env' := [(0, .c (.lst (rows lists))), (1, .c (.lst (ints list))), (5, .c (ci v5_1)), (6, .c (ci v6_1)), (7, .c (ci ((v5_1 + v6_1) / 2)))]) rfl rfl ⟨rfl, rfl, rfl, rfl, rfl, trivial⟩) ?_
    refine aw_region ?_
    refine run_s (ss_move rfl) rfl ?_
    obtain ⟨q9, h⟩ := h
    refine run_s (ss_add rfl rfl q9) rfl ?_
    refine run_s (ss_assign rfl) rfl ?_
    refine run_nil ?_
    exact ⟨((v5_1 + v6_1) / 2) + 1, v6_1, ghe_to (n := 27) rfl rfl ⟨rfl, rfl, rfl, rfl, trivial⟩, h.1, h.2⟩
   ·replace h := h.2 (of_decide_eq_false q8)
    refine aw_gh (gh_to (n := 27) (σ' := []) (env' := [(0, .c (.lst (rows lists))), (1, .c (.lst (ints list))), (5, .c (ci v5_1)), (6, .c (ci v6_1)), (7, .c (ci ((v5_1 + v6_1) / 2)))]) rfl rfl ⟨rfl, rfl, rfl, rfl, rfl, trivial⟩) ?_
    refine aw_region ?_
    refine run_s (ss_move rfl) rfl ?_
    refine run_s (ss_assign rfl) rfl ?_
    refine run_nil ?_
    exact ⟨v5_1, (v5_1 + v6_1) / 2, ghe_to (n := 27) rfl rfl ⟨rfl, rfl, rfl, rfl, trivial⟩, h.1, h.2⟩
  ·replace h := h.2 (of_decide_eq_false q2)
   refine aw_exit ?_
   refine aw_seq ?_
   refine aw_gh (gh_to (n := 27) (σ' := []) (env' := [(5, .c (ci v5_1))]) rfl rfl ⟨rfl, trivial⟩) ?_
   refine aw_region ?_
   refine run_s (ss_move rfl) rfl ?_
   refine run_s (ss_assign rfl) rfl ?_
   refine run_nil ?_
   refine aw_ret ?_
   exact retAF_mk (retv1 rfl (rv_tmp rfl)) rfl rfl ⟨_, (cle_refl _), _, h, rfl⟩

theorem c_spec_l03Search (lists : List (List Int)) (list : List Int) (hp : small2 lists ∧ small list) : AF Try.prog 56 [.lst (rows lists), .lst (ints list)] (fun R_ => ∃ y0, ((0 ≤ y0 ∧ y0 ≤ (lists.length : Int)) ∧ (0 < y0 → cmpG cmp1 (el lists (y0 - 1)) list < 0) ∧ (y0 < (lists.length : Int) → ¬ cmpG cmp1 (el lists y0) list < 0)) ∧ R_ = ci y0) :=
  w_spec_l03Search lists list (fun y0 => (0 ≤ y0 ∧ y0 ≤ (lists.length : Int)) ∧ (0 < y0 → cmpG cmp1 (el lists (y0 - 1)) list < 0) ∧ (y0 < (lists.length : Int) → ¬ cmpG cmp1 (el lists y0) list < 0)) (p_spec_l03Search lists list hp)

def wp_impl_groupOrder (n : Int) (list : List (List Int)) (limit : Int) (Q : Int → Prop) : Prop :=
 (0 ≤ n ∧ n ≤ 1000000) ∧
 (small (unitI n) ∧ digs (unitI n)) ∧
 (((digI (unitI n)).length : Int) ≤ 1000000) ∧
 ((([] : List (List UInt8)).length : Int) ≤ 1000000) ∧
 (0 ≤ n ∧ n ≤ 1000000) ∧
 ∃ (H1 : Int → List (List UInt8) → List (List Int) → Prop) (m1 : Int → List (List UInt8) → List (List Int) → Nat),
 H1 0 (([] : List (List UInt8)) ++ [digI (unitI n)]) ([unitI n]) ∧
 ∀ (v9_1 : Int) (z1 : List (List UInt8)) (o21_1 : List (List Int)), H1 v9_1 z1 o21_1 →
 ( ((v9_1 < (o21_1.length : Int) →
 ∃ (H2 : Int → List (List UInt8) → List (List Int) → Prop) (m2 : Int → List (List UInt8) → List (List Int) → Nat),
 H2 0 z1 o21_1 ∧
 ∀ (v30_2 : Int) (z2 : List (List UInt8)) (o21_2 : List (List Int)), H2 v30_2 z2 o21_2 →
 ( ((v30_2 < (list.length : Int) →
 (0 ≤ v30_2 ∧ v30_2 < (list.length : Int)) ∧
 (0 ≤ v9_1 ∧ v9_1 < (o21_2.length : Int)) ∧
 (small (el o21_2 v9_1) ∧ ∀ x_ ∈ (el o21_2 v9_1), 0 ≤ x_ ∧ x_ < ((el list v30_2).length : Int)) ∧
 (small ((el o21_2 v9_1).map (el (el list v30_2))) ∧ digs ((el o21_2 v9_1).map (el (el list v30_2)))) ∧
 (((digI ((el o21_2 v9_1).map (el (el list v30_2)))).length : Int) ≤ 1000000) ∧
 ((¬ ((digI ((el o21_2 v9_1).map (el (el list v30_2)))) ∈ z2) →
 (((o21_2.length : Int) = limit →
 (InI (limit + 1)) ∧
 Q (limit + 1)) ∧
 (¬ ((o21_2.length : Int) = limit) →
 (((digI ((el o21_2 v9_1).map (el (el list v30_2)))).length : Int) ≤ 1000000) ∧
 ((z2.length : Int) ≤ 1000000) ∧
 ((o21_2.length : Int) + (([(el o21_2 v9_1).map (el (el list v30_2))]).length : Int) ≤ 1000000000) ∧
 (InI (v30_2 + 1)) ∧
 (H2 (v30_2 + 1) (z2 ++ [digI ((el o21_2 v9_1).map (el (el list v30_2)))]) (o21_2 ++ ([(el o21_2 v9_1).map (el (el list v30_2))])) ∧ m2 (v30_2 + 1) (z2 ++ [digI ((el o21_2 v9_1).map (el (el list v30_2)))]) (o21_2 ++ ([(el o21_2 v9_1).map (el (el list v30_2))])) < m2 v30_2 z2 o21_2)))) ∧
 ((digI ((el o21_2 v9_1).map (el (el list v30_2)))) ∈ z2 →
 (InI (v30_2 + 1)) ∧
 (H2 (v30_2 + 1) z2 o21_2 ∧ m2 (v30_2 + 1) z2 o21_2 < m2 v30_2 z2 o21_2)))) ∧
 (¬ (v30_2 < (list.length : Int)) →
 (InI (v9_1 + 1)) ∧
 (H1 (v9_1 + 1) z2 o21_2 ∧ m1 (v9_1 + 1) z2 o21_2 < m1 v9_1 z1 o21_1))))) ∧
 (¬ (v9_1 < (o21_1.length : Int)) →
 Q (o21_1.length : Int))))

def wp_spec_l03Group (n : Int) (list : List (List Int)) (limit : Int) (Q : List (List Int) → Prop) : Prop :=
 ∃ (H1 : Int → List Int → Prop) (m1 : Int → List Int → Nat),
 H1 0 ([] : List Int) ∧
 ∀ (v8_1 : Int) (o16_1 : List Int), H1 v8_1 o16_1 →
 ( ((v8_1 < n →
 ((o16_1.length : Int) + (([v8_1]).length : Int) ≤ 1000000000) ∧
 (InI (v8_1 + 1)) ∧
 (H1 (v8_1 + 1) (o16_1 ++ ([v8_1])) ∧ m1 (v8_1 + 1) (o16_1 ++ ([v8_1])) < m1 v8_1 o16_1)) ∧
 (¬ (v8_1 < n) →
 ∃ (H2 : Int → List (List Int) → List (List Int) → Prop) (m2 : Int → List (List Int) → List (List Int) → Nat),
 H2 0 ([o16_1]) ([o16_1]) ∧
 ∀ (v11_2 : Int) (o27_2 : List (List Int)) (o29_2 : List (List Int)), H2 v11_2 o27_2 o29_2 →
 ( ((v11_2 < (o27_2.length : Int) →
 (((o27_2.length : Int) ≤ limit →
 ∃ (H3 : Int → List (List Int) → List (List Int) → Prop) (m3 : Int → List (List Int) → List (List Int) → Nat),
 H3 0 o27_2 o29_2 ∧
 ∀ (v12_3 : Int) (o27_3 : List (List Int)) (o29_3 : List (List Int)), H3 v12_3 o27_3 o29_3 →
 ( ((v12_3 < (list.length : Int) →
 (((o27_3.length : Int) ≤ limit →
 (0 ≤ v11_2 ∧ v11_2 < (o27_3.length : Int)) ∧
 (0 ≤ v12_3 ∧ v12_3 < (list.length : Int)) ∧
 (small (el o27_3 v11_2) ∧ ∀ x_ ∈ (el o27_3 v11_2), 0 ≤ x_ ∧ x_ < ((el list v12_3).length : Int)) ∧
 (small2 o29_3 ∧ small ((el o27_3 v11_2).map (el (el list v12_3)))) ∧
 ∀ (r1_0 : Int), ((0 ≤ r1_0 ∧ r1_0 ≤ (o29_3.length : Int)) ∧ (0 < r1_0 → cmpG cmp1 (el o29_3 (r1_0 - 1)) ((el o27_3 v11_2).map (el (el list v12_3))) < 0) ∧ (r1_0 < (o29_3.length : Int) → ¬ cmpG cmp1 (el o29_3 r1_0) ((el o27_3 v11_2).map (el (el list v12_3))) < 0)) →
 ((r1_0 < (o29_3.length : Int) →
 (0 ≤ r1_0 ∧ r1_0 < (o29_3.length : Int)) ∧
 (small (el o29_3 r1_0) ∧ small ((el o27_3 v11_2).map (el (el list v12_3)))) ∧
 (((el o29_3 r1_0) = ((el o27_3 v11_2).map (el (el list v12_3))) →
 (InI (v12_3 + 1)) ∧
 (H3 (v12_3 + 1) o27_3 o29_3 ∧ m3 (v12_3 + 1) o27_3 o29_3 < m3 v12_3 o27_3 o29_3)) ∧
 (¬ ((el o29_3 r1_0) = ((el o27_3 v11_2).map (el (el list v12_3)))) →
 (0 ≤ r1_0 ∧ r1_0 ≤ (o29_3.length : Int) ∧ (o29_3.length : Int) ≤ (o29_3.length : Int)) ∧
 ((([(el o27_3 v11_2).map (el (el list v12_3))]).length : Int) + ((sl o29_3 r1_0 (o29_3.length : Int)).length : Int) ≤ 1000000000) ∧
 ((0 : Int) ≤ 0 ∧ 0 ≤ r1_0 ∧ r1_0 ≤ (o29_3.length : Int)) ∧
 ((([] : List (List Int)).length : Int) + ((sl o29_3 0 r1_0).length : Int) ≤ 1000000000) ∧
 (((([] : List (List Int)) ++ (sl o29_3 0 r1_0)).length : Int) + ((([(el o27_3 v11_2).map (el (el list v12_3))]) ++ (sl o29_3 r1_0 (o29_3.length : Int))).length : Int) ≤ 1000000000) ∧
 ((o27_3.length : Int) + (([(el o27_3 v11_2).map (el (el list v12_3))]).length : Int) ≤ 1000000000) ∧
 (InI (v12_3 + 1)) ∧
 (H3 (v12_3 + 1) (o27_3 ++ ([(el o27_3 v11_2).map (el (el list v12_3))])) ((([] : List (List Int)) ++ (sl o29_3 0 r1_0)) ++ (([(el o27_3 v11_2).map (el (el list v12_3))]) ++ (sl o29_3 r1_0 (o29_3.length : Int)))) ∧ m3 (v12_3 + 1) (o27_3 ++ ([(el o27_3 v11_2).map (el (el list v12_3))])) ((([] : List (List Int)) ++ (sl o29_3 0 r1_0)) ++ (([(el o27_3 v11_2).map (el (el list v12_3))]) ++ (sl o29_3 r1_0 (o29_3.length : Int)))) < m3 v12_3 o27_3 o29_3)))) ∧
 (¬ (r1_0 < (o29_3.length : Int)) →
 (0 ≤ r1_0 ∧ r1_0 ≤ (o29_3.length : Int) ∧ (o29_3.length : Int) ≤ (o29_3.length : Int)) ∧
 ((([(el o27_3 v11_2).map (el (el list v12_3))]).length : Int) + ((sl o29_3 r1_0 (o29_3.length : Int)).length : Int) ≤ 1000000000) ∧
 ((0 : Int) ≤ 0 ∧ 0 ≤ r1_0 ∧ r1_0 ≤ (o29_3.length : Int)) ∧
 ((([] : List (List Int)).length : Int) + ((sl o29_3 0 r1_0).length : Int) ≤ 1000000000) ∧
 (((([] : List (List Int)) ++ (sl o29_3 0 r1_0)).length : Int) + ((([(el o27_3 v11_2).map (el (el list v12_3))]) ++ (sl o29_3 r1_0 (o29_3.length : Int))).length : Int) ≤ 1000000000) ∧
 ((o27_3.length : Int) + (([(el o27_3 v11_2).map (el (el list v12_3))]).length : Int) ≤ 1000000000) ∧
 (InI (v12_3 + 1)) ∧
 (H3 (v12_3 + 1) (o27_3 ++ ([(el o27_3 v11_2).map (el (el list v12_3))])) ((([] : List (List Int)) ++ (sl o29_3 0 r1_0)) ++ (([(el o27_3 v11_2).map (el (el list v12_3))]) ++ (sl o29_3 r1_0 (o29_3.length : Int)))) ∧ m3 (v12_3 + 1) (o27_3 ++ ([(el o27_3 v11_2).map (el (el list v12_3))])) ((([] : List (List Int)) ++ (sl o29_3 0 r1_0)) ++ (([(el o27_3 v11_2).map (el (el list v12_3))]) ++ (sl o29_3 r1_0 (o29_3.length : Int)))) < m3 v12_3 o27_3 o29_3)))) ∧
 (¬ ((o27_3.length : Int) ≤ limit) →
 (InI (v11_2 + 1)) ∧
 (H2 (v11_2 + 1) o27_3 o29_3 ∧ m2 (v11_2 + 1) o27_3 o29_3 < m2 v11_2 o27_2 o29_2)))) ∧
 (¬ (v12_3 < (list.length : Int)) →
 (InI (v11_2 + 1)) ∧
 (H2 (v11_2 + 1) o27_3 o29_3 ∧ m2 (v11_2 + 1) o27_3 o29_3 < m2 v11_2 o27_2 o29_2))))) ∧
 (¬ ((o27_2.length : Int) ≤ limit) →
 Q o27_2))) ∧
 (¬ (v11_2 < (o27_2.length : Int)) →
 Q o27_2))))))

def wp_impl_InnerOrder (r : List (List Int)) (Q : Int → Int → Prop) : Prop :=
 (small2 r) ∧
 (((isRk r) = false →
 Q 0 1) ∧
 ((isRk r) = true →
 ((1 ≤ (r.length : Int) ∧ (r.length : Int) ≤ 12) ∧ permsN (r.length : Int) r ∧ (r.length : Int) ≤ 1000000 ∧ 1 ≤ (5000 : Int) ∧ (5000 : Int) ≤ 5000) ∧
 ((5000 < (if grpN (r.length : Int) r ≤ (5000 : Int) then grpN (r.length : Int) r else (5000 : Int) + 1) →
 Q 0 3) ∧
 (¬ (5000 < (if grpN (r.length : Int) r ≤ (5000 : Int) then grpN (r.length : Int) r else (5000 : Int) + 1)) →
 Q (if grpN (r.length : Int) r ≤ (5000 : Int) then grpN (r.length : Int) r else (5000 : Int) + 1) 0))))

def wp_spec_InnerOrder (r : List (List Int)) (Q : Int → Int → Prop) : Prop :=
 (small2 r) ∧
 (((isRk r) = false →
 Q 0 1) ∧
 ((isRk r) = true →
 ((1 ≤ (r.length : Int) ∧ (r.length : Int) ≤ 12) ∧ permsN (r.length : Int) r ∧ (r.length : Int) ≤ 1000000 ∧ 1 ≤ (5000 : Int) ∧ (5000 : Int) ≤ 5000) ∧
 ∀ (r1_0 : List (List Int)), ((r1_0.length : Int) = (if grpN (r.length : Int) r ≤ (5000 : Int) then grpN (r.length : Int) r else (5000 : Int) + 1)) →
 ((5000 < (r1_0.length : Int) →
 Q 0 3) ∧
 (¬ (5000 < (r1_0.length : Int)) →
 Q (r1_0.length : Int) 0))))

def KsI (ks : List (List UInt8)) (q : List (List Int)) : Prop := (ks.length : Int) = (q.length : Int) ∧ ∀ s, s ∈ ks ↔ ∃ p ∈ q, digI p = s
theorem ks_app {ks : List (List UInt8)} {q : List (List Int)} {x : List Int} (h : KsI ks q) : KsI (ks ++ [digI x]) (q ++ [x]) := ⟨by have := h.1; simp; omega, fun s => by
  rw [List.mem_append, h.2, List.mem_singleton]
  constructor
  · rintro (⟨p, hp, e⟩ | e)
    · exact ⟨p, List.mem_append_left _ hp, e⟩
    · exact ⟨x, by simp, e.symm⟩
  · rintro ⟨p, hp, e⟩
    rcases List.mem_append.1 hp with hp | hp
    · exact .inl ⟨p, hp, e⟩
    · rw [List.mem_singleton.1 hp] at e; exact .inr e.symm⟩
theorem ks_mem {n : Int} {list q : List (List Int)} {ks : List (List UInt8)} (hn : 1 ≤ n ∧ n ≤ 12) (hP : permsN n list) (hB : GrB n list q) (h : KsI ks q) {x : List Int} (hx : Gn n list x) : digI x ∈ ks ↔ x ∈ q := by
  rw [h.2]
  constructor
  · rintro ⟨p, hp, e⟩
    have h1 := (perm_dig hn (gn_perm hn hP (hB.gn p hp))).2
    have h2 := (perm_dig hn (gn_perm hn hP hx)).2
    rw [← digI_inj h1 h2 e]; exact hp
  · intro h; exact ⟨x, h, rfl⟩
theorem thn_pre {n : Int} {p g : List Int} (hn : 1 ≤ n ∧ n ≤ 12) (hp : (p.length : Int) = n ∧ isPerm p = true) (hg : (g.length : Int) = n ∧ isPerm g = true) : small p ∧ ∀ x_ ∈ p, 0 ≤ x_ ∧ x_ < (g.length : Int) :=
  ⟨(perm_dig hn hp).1.1, fun x hx => by have := (isPerm_iff.1 hp.2).2 x hx; omega⟩
theorem p_impl_groupOrder (n : Int) (list : List (List Int)) (limit : Int) (hp : (1 ≤ n ∧ n ≤ 12) ∧ permsN n list ∧ (list.length : Int) ≤ 1000000 ∧ 1 ≤ limit ∧ limit ≤ 5000) :
    wp_impl_groupOrder n list limit (fun y0 => y0 = (if grpN n list ≤ limit then grpN n list else limit + 1)) := by
  obtain ⟨hn, hP, hl, hm0, hm1⟩ := hp
  unfold wp_impl_groupOrder
  have hu := perm_dig hn ⟨unit_len (n := n) (by omega), unit_perm (n := n) (by omega)⟩
  have hul := unit_len (n := n) (by omega)
  refine ⟨⟨by omega, by omega⟩, hu.1, by simp; omega, by simp, ⟨by omega, by omega⟩, ?_⟩
  refine ⟨fun i ks q => (0 ≤ i ∧ i ≤ (q.length : Int)) ∧ GrB n list q ∧ GrC list q i 0 ∧ KsI ks q ∧ (q.length : Int) ≤ limit, fun i _ _ => (limit + 1 - i).toNat, ⟨⟨by omega, by simp⟩, grb_one n list, grc_zero _ _, ⟨by simp, fun s => by simp [eq_comm]⟩, by simp; omega⟩, ?_⟩
  rintro i ks q ⟨⟨i0, i1⟩, hB, hC, hK, hq⟩
  dsimp only
  refine ⟨fun ilt => ?_, fun ige => ?_⟩
  · refine ⟨fun k ks q => (0 ≤ k ∧ k ≤ (list.length : Int)) ∧ i < (q.length : Int) ∧ GrB n list q ∧ GrC list q i k ∧ KsI ks q ∧ (q.length : Int) ≤ limit, fun k _ _ => ((list.length : Int) - k).toNat, ⟨⟨by omega, by omega⟩, ilt, hB, hC, hK, hq⟩, ?_⟩
    rintro k ks q ⟨⟨k0, k1⟩, ilt, hB, hC, hK, hq⟩
    dsimp only
    refine ⟨fun klt => ?_, fun kge => ⟨⟨by omega, by omega⟩, ⟨⟨by omega, by omega⟩, hB, grc_next (by rwa [show k = (list.length : Int) by omega] at hC), hK, hq⟩, by omega⟩⟩
    have hG := gn_next hB ⟨i0, ilt⟩ ⟨k0, klt⟩
    have hg := gn_perm hn hP hG
    have hd := perm_dig hn hg
    have hin := ks_mem hn hP hB hK hG
    have hpre := thn_pre hn (gn_perm hn hP (hB.gn _ (el_mem ⟨i0, ilt⟩))) (hP _ (el_mem ⟨k0, klt⟩))
    refine ⟨⟨k0, klt⟩, ⟨i0, ilt⟩, hpre, hd.1, ?_, fun hnew => ⟨fun hfull => ⟨⟨by omega, by omega⟩, ?_⟩, fun hroom => ?_⟩, fun hold => ⟨⟨by omega, by omega⟩, ⟨⟨by omega, by omega⟩, ilt, hB, grc_old hC (hin.1 hold), hK, hq⟩, by omega⟩⟩
    · have := hg.1
      simp only [digI_len]
      show ((thnI (el q i) (el list k)).length : Int) ≤ _
      omega
    · have := grb_len hn hP (grb_app hB hG fun h => hnew (hin.2 h))
      simp at this
      rw [if_neg (by omega)]
    · have := hg.1
      have hk := hK.1
      refine ⟨?_, by omega, by simp; omega, ⟨by omega, by omega⟩, ⟨⟨by omega, by omega⟩, by simp; omega, grb_app hB hG fun h => hnew (hin.2 h), grc_add ⟨i0, ilt⟩ hC, ks_app hK, by simp; omega⟩, by omega⟩
      simp only [digI_len]
      show ((thnI (el q i) (el list k)).length : Int) ≤ _
      omega
  · have := grc_end hn hP hB (by rwa [show i = (q.length : Int) by omega] at hC)
    rw [if_pos (by omega)]; exact this
theorem p_spec_l03Group (n : Int) (list : List (List Int)) (limit : Int) (hp : (1 ≤ n ∧ n ≤ 12) ∧ permsN n list ∧ (list.length : Int) ≤ 1000000 ∧ 1 ≤ limit ∧ limit ≤ 5000) :
    wp_spec_l03Group n list limit (fun y0 => (y0.length : Int) = (if grpN n list ≤ limit then grpN n list else limit + 1)) := by
  obtain ⟨hn, hP, hl, hm0, hm1⟩ := hp
  unfold wp_spec_l03Group
  refine ⟨fun i o => 0 ≤ i ∧ i ≤ n ∧ o = ran i id, fun i _ => (n - i).toNat, ⟨by omega, by omega, rfl⟩, ?_⟩
  rintro i o ⟨i0, i1, rfl⟩
  dsimp only
  refine ⟨fun ilt => ⟨by simp; omega, ⟨by omega, by omega⟩, ⟨by omega, by omega, ?_⟩, by omega⟩, fun ige => ?_⟩
  · exact eq_ran (by simp; omega) fun j j0 j1 => app1 (f := id) (by simp; omega) (fun m m0 m1 => el_ran ⟨m0, m1⟩) rfl j j0 j1
  have hi : i = n := by omega
  subst hi
  have hul := unit_len (n := i) (by omega)
  have hS1 : LexS i.toNat [unitI i] := ⟨List.pairwise_singleton _ _, fun x hx => by rw [List.mem_singleton.1 hx]; omega⟩
  refine ⟨fun j q s => (0 ≤ j ∧ j ≤ (q.length : Int)) ∧ GrB i list q ∧ ((q.length : Int) ≤ limit → GrC list q j 0) ∧ (LexS i.toNat s ∧ (s.length : Int) = (q.length : Int) ∧ ∀ x, x ∈ s ↔ x ∈ q) ∧ (q.length : Int) ≤ limit + 1, fun j _ _ => (limit + 2 - j).toNat,
    ⟨⟨by omega, by simp⟩, grb_one i list, fun _ => grc_zero _ _, ⟨hS1, rfl, fun _ => Iff.rfl⟩, by simp; omega⟩, ?_⟩
  rintro j q s ⟨⟨j0, j1⟩, hB, hC, hS, hq⟩
  dsimp only
  have big : ∀ {q : List (List Int)}, GrB i list q → (q.length : Int) ≤ limit + 1 → ¬ (q.length : Int) ≤ limit → (q.length : Int) = (if grpN i list ≤ limit then grpN i list else limit + 1) := fun hB hq hb => by
    have := grb_len hn hP hB
    rw [if_neg (by omega)]; omega
  refine ⟨fun jlt => ⟨fun hle => ?_, fun hb => big hB hq hb⟩, fun jge => ?_⟩
  · refine ⟨fun k q s => (0 ≤ k ∧ k ≤ (list.length : Int)) ∧ j < (q.length : Int) ∧ GrB i list q ∧ ((q.length : Int) ≤ limit → GrC list q j k) ∧ (LexS i.toNat s ∧ (s.length : Int) = (q.length : Int) ∧ ∀ x, x ∈ s ↔ x ∈ q) ∧ (q.length : Int) ≤ limit + 1, fun k _ _ => ((list.length : Int) - k).toNat,
      ⟨⟨by omega, by omega⟩, jlt, hB, hC, hS, hq⟩, ?_⟩
    rintro k q s ⟨⟨k0, k1⟩, jlt, hB, hC, ⟨hS, hSl, hSm⟩, hq⟩
    dsimp only
    refine ⟨fun klt => ⟨fun hle => ?_, fun hb => ⟨⟨by omega, by omega⟩, ⟨⟨by omega, by omega⟩, hB, fun h => absurd h hb, ⟨hS, hSl, hSm⟩, hq⟩, by omega⟩⟩, fun kge => ⟨⟨by omega, by omega⟩, ⟨⟨by omega, by omega⟩, hB, fun h => grc_next (by have := hC h; rwa [show k = (list.length : Int) by omega] at this), ⟨hS, hSl, hSm⟩, hq⟩, by omega⟩⟩
    have hG := gn_next hB ⟨j0, jlt⟩ ⟨k0, klt⟩
    have hg := gn_perm hn hP hG
    have hpre := thn_pre hn (gn_perm hn hP (hB.gn _ (el_mem ⟨j0, jlt⟩))) (hP _ (el_mem ⟨k0, klt⟩))
    have hsm : small2 s := ⟨by show _ ≤ (1000000000 : Int); omega, fun x hx => by have := hS.2 x hx; show _ ≤ (1000000000 : Int); omega⟩
    have hadd := grc_add (k := k) ⟨j0, jlt⟩ (hC hle)
    change _ ∧ _ ∧ _ ∧ (small2 s ∧ small (thnI (el q j) (el list k))) ∧ _
    have e0 : (el q j).map (el (el list k)) = thnI (el q j) (el list k) := rfl
    rw [e0]
    generalize hx : thnI (el q j) (el list k) = x at *
    have hsx : small x := by show _ ≤ (1000000000 : Int); omega
    refine ⟨⟨j0, jlt⟩, ⟨k0, klt⟩, hpre, ⟨hsm, hsx⟩, fun r ⟨⟨r0, r1⟩, rA, rB⟩ => ?_⟩
    have hlen : ∀ {m : Int}, 0 ≤ m → m < (s.length : Int) → (el s m).length = x.length := fun m0 m1 => by rw [hS.2 _ (el_mem ⟨m0, m1⟩)]; omega
    have put : (r < (s.length : Int) → el s r ≠ x) → (0 ≤ r ∧ r ≤ (s.length : Int) ∧ (s.length : Int) ≤ (s.length : Int)) ∧ ((([x]).length : Int) + ((sl s r (s.length : Int)).length : Int) ≤ 1000000000) ∧ ((0 : Int) ≤ 0 ∧ 0 ≤ r ∧ r ≤ (s.length : Int)) ∧
        ((([] : List (List Int)).length : Int) + ((sl s 0 r).length : Int) ≤ 1000000000) ∧ (((([] : List (List Int)) ++ (sl s 0 r)).length : Int) + ((([x]) ++ (sl s r (s.length : Int))).length : Int) ≤ 1000000000) ∧ ((q.length : Int) + (([x]).length : Int) ≤ 1000000000) ∧ (InI (k + 1)) ∧
        (((0 ≤ k + 1 ∧ k + 1 ≤ (list.length : Int)) ∧ j < ((q ++ ([x])).length : Int) ∧ GrB i list (q ++ ([x])) ∧ (((q ++ ([x])).length : Int) ≤ limit → GrC list (q ++ ([x])) j (k + 1)) ∧
          (LexS i.toNat ((([] : List (List Int)) ++ (sl s 0 r)) ++ (([x]) ++ (sl s r (s.length : Int)))) ∧ (((([] : List (List Int)) ++ (sl s 0 r)) ++ (([x]) ++ (sl s r (s.length : Int)))).length : Int) = ((q ++ ([x])).length : Int) ∧ ∀ z, z ∈ (([] : List (List Int)) ++ (sl s 0 r)) ++ (([x]) ++ (sl s r (s.length : Int))) ↔ z ∈ q ++ ([x])) ∧ ((q ++ ([x])).length : Int) ≤ limit + 1) ∧ ((list.length : Int) - (k + 1)).toNat < ((list.length : Int) - k).toNat) := fun hne => by
      have l1 := length_sl (l := s) (a := 0) (b := r) ⟨by omega, r0, r1⟩
      have l2 := length_sl (l := s) (a := r) (b := (s.length : Int)) ⟨r0, r1, by omega⟩
      have lo : 0 < r → lexL (el s (r - 1)) x := fun h0 => (cmp_lex (hlen (by omega) (by omega))).1 (rA h0)
      have hi : r < (s.length : Int) → lexL x (el s r) := fun hlt => (lexL_total (hlen r0 hlt).symm (Ne.symm (hne hlt))).resolve_right fun c => rB hlt ((cmp_lex (hlen r0 hlt)).2 c)
      obtain ⟨P1, P2⟩ := lexS_put (k := r) hS (by omega) ⟨r0, r1⟩ lo hi
      have hnin : x ∉ s := fun hx => by
        have e : s = s.take r.toNat ++ s.drop r.toNat := (List.take_append_drop _ _).symm
        have hnd := P1.nodup
        have e1 : sl s 0 r = s.take r.toNat := by simp [sl]
        have e2 : sl s r (s.length : Int) = s.drop r.toNat := by simp [sl]
        rw [e1, e2] at hnd
        rw [e] at hx
        obtain ⟨_, n2, n3⟩ := List.nodup_append.1 hnd
        rcases List.mem_append.1 hx with hx | hx
        · exact n3 x hx x (by simp) rfl
        · exact (List.nodup_cons.1 n2).1 hx
      have e : (([] : List (List Int)) ++ (sl s 0 r)) ++ (([x]) ++ (sl s r (s.length : Int))) = sl s 0 r ++ x :: sl s r (s.length : Int) := by simp
      rw [e]
      refine ⟨⟨r0, r1, by omega⟩, by simp; omega, ⟨by omega, r0, r1⟩, by simp; omega, by simp; omega, by simp; omega, ⟨by omega, by omega⟩, ⟨⟨by omega, by omega⟩, by simp; omega, grb_app hB hG (fun h => hnin ((hSm x).2 h)), fun _ => hadd, ⟨P1, by simp; omega, fun z => ?_⟩, by simp; omega⟩, by omega⟩
      rw [P2, hSm, List.mem_append, List.mem_singleton]; exact or_comm
    refine ⟨fun rlt => ⟨⟨r0, rlt⟩, ⟨hsm.2 _ (el_mem ⟨r0, rlt⟩), hsx⟩, fun he => ⟨⟨by omega, by omega⟩, ⟨⟨by omega, by omega⟩, jlt, hB, fun _ => grc_old (hC hle) ?_, ⟨hS, hSl, hSm⟩, hq⟩, by omega⟩, fun hd => put fun _ => hd⟩, fun rge => put fun hlt => absurd hlt rge⟩
    rw [hx, ← he]; exact (hSm _).1 (el_mem ⟨r0, rlt⟩)
  · by_cases hle : (q.length : Int) ≤ limit
    · have := grc_end hn hP hB (by have := hC hle; rwa [show j = (q.length : Int) by omega] at this)
      rw [if_pos (by omega)]; exact this
    · exact big hB hq hle
theorem p_impl_InnerOrder (r : List (List Int)) (hp : small2 r) : wp_impl_InnerOrder r (fun y0 y1 => y0 = InoV r ∧ y1 = InoE r) := by
  unfold wp_impl_InnerOrder
  refine ⟨hp, fun h => ino1 h, fun h => ⟨⟨isTab_len (isRk_tab h), permsN_rk h, by have := isTab_len (isRk_tab h); omega, by omega, by omega⟩, fun h1 => ino3 h ?_, fun h1 => ?_⟩⟩
  · split at h1 <;> omega
  · split at h1
    · rw [if_pos (by assumption)]; exact ino0 h h1
    · omega
theorem p_spec_InnerOrder (r : List (List Int)) (hp : small2 r) : wp_spec_InnerOrder r (fun y0 y1 => y0 = InoV r ∧ y1 = InoE r) := by
  unfold wp_spec_InnerOrder
  refine ⟨hp, fun h => ino1 h, fun h => ⟨⟨isTab_len (isRk_tab h), permsN_rk h, by have := isTab_len (isRk_tab h); omega, by omega, by omega⟩, fun o ho => ⟨fun h1 => ino3 h ?_, fun h1 => ?_⟩⟩⟩
  · split at ho <;> omega
  · split at ho
    · rw [ho]; exact ino0 h (by omega)
    · omega

set_option maxRecDepth 100000 in
set_option maxHeartbeats 4000000 in
theorem w_impl_groupOrder (n : Int) (list : List (List Int)) (limit : Int) (Q : Int → Prop) (h : wp_impl_groupOrder n list limit Q) : AF Try.prog 67 [ci n, .lst (rows list), ci limit] (fun R_ => ∃ y0, Q y0 ∧ R_ = ci y0) := by
  refine AF.ofWQ (af_enterZ (n := 61) Try.func67 rfl (by rfl) rfl (Nat.le_of_ble_eq_true rfl) 9 4 fun G0_ => ?_)
  have hMp : MpT Try.prog 100 9 4 := ⟨by kernel_rfl, by kernel_rfl, by kernel_rfl, fun _ => rfl⟩
  unfold wp_impl_groupOrder at h
  refine az_seq ?_
  refine az_gh (gh_to (n := 61) (σ' := []) (env' := [(0, .c (ci n)), (1, .c (.lst (rows list))), (2, .c (ci limit))]) rfl rfl ⟨rfl, rfl, rfl, trivial⟩) ?_
  refine az_region ?_
  refine rz_s (ss_assign rfl) rfl ?_
  refine rz_nil ?_
  refine az_seq ?_
  refine az_region ?_
  refine rz_makeMap rfl (fun b1 => ?_)
  refine rz_s (ss_move rfl) rfl ?_
  obtain ⟨q1, h⟩ := h
  refine rz_w (ws_call (xs := [.tmp 15]) (ids := [16]) rfl rfl rfl rfl (c_impl_identity n q1) rfl ?_ )
  rintro _ rfl
  refine ⟨rfl, ?_⟩
  obtain ⟨q3, h⟩ := h
  refine rz_w (ws_callR (xs := [.tmp 16]) (cs := [.own (ints (unitI n))]) (ids := []) rfl (.inr ⟨rfl, rfl⟩) rfl rfl (fz_cons (fz_own (fz_map (fun _ => rfl) _)) fz_nil) (c_impl_digitsText (unitI n) q3) rfl ?_ )
  rintro _ rfl
  refine ⟨rfl, rfl, ?_⟩
  obtain ⟨q5, h⟩ := h
  obtain ⟨q6, h⟩ := h
  refine rz_insert (s := digI (unitI n)) hMp rfl rfl rfl q5 q6 ?_
  refine rz_s (ss_move rfl) rfl ?_
  refine rz_s (ss_assign rfl) rfl ?_
  refine rz_nil ?_
  refine az_seq ?_
  refine az_gh (gh_to (n := 61) (σ' := [(16, ⟨ints (unitI n), []⟩)]) (env' := [(0, .c (ci n)), (1, .c (.lst (rows list))), (2, .c (ci limit)), (7, .c (.val (.map (some b1))))]) rfl rfl ⟨rfl, rfl, rfl, rfl, trivial⟩) ?_
  refine az_region ?_
  refine rz_s (ss_move rfl) rfl ?_
  obtain ⟨q7, h⟩ := h
  refine rz_w (ws_call (xs := [.tmp 19]) (ids := [20]) rfl rfl rfl rfl (c_impl_identity n q7) rfl ?_ )
  rintro _ rfl
  refine ⟨rfl, ?_⟩
  refine rz_gh (gh_frzE (id := 20) ci rfl (fun _ => rfl)) ?_
  refine rz_w (ws_buildSlice (id := 21) (ps := [(0, .tmp 20)]) rfl rfl (Nat.le_of_ble_eq_true rfl) rfl ⟨rfl, ?_⟩)
  refine rz_s (ss_assign rfl) rfl ?_
  refine rz_nil ?_
  refine az_seq ?_
  refine az_seq ?_
  refine az_gh (gh_to (n := 61) (σ' := [(21, ⟨rows ([unitI n]), []⟩), (16, ⟨ints (unitI n), []⟩)]) (env' := [(1, .c (.lst (rows list))), (2, .c (ci limit)), (7, .c (.val (.map (some b1)))), (8, .ref 21)]) rfl rfl ⟨rfl, rfl, rfl, rfl, trivial⟩) ?_
  refine az_region ?_
  refine rz_s (ss_assign rfl) rfl ?_
  refine rz_nil ?_
  refine az_block ?_
  refine az_gh (gh_frzE (id := 16) ci rfl (fun _ => rfl)) ?_
  obtain ⟨H1, m1, q9, h⟩ := h
  refine az_loop3 (fun (v9_1 : Int) (z1 : List (List UInt8)) (o21_1 : List (List Int)) => ⟨[(21, ⟨rows o21_1, []⟩)], [(1, .c (.lst (rows list))), (2, .c (ci limit)), (7, .c (.val (.map (some b1)))), (8, .ref 21), (9, .c (ci v9_1))], 61⟩) (fun (v9_1 : Int) (z1 : List (List UInt8)) (o21_1 : List (List Int)) => some (b1, z1)) H1 m1 ⟨0, ([] : List (List UInt8)) ++ [digI (unitI n)], [unitI n], ghe_to (n := 61) rfl rfl ⟨rfl, rfl, rfl, rfl, rfl, trivial⟩, rfl, q9⟩ ?_
  rintro v9_1 z1 o21_1 q9
  replace h := h v9_1 z1 o21_1 q9
  refine az_seq ?_
  refine az_seq ?_
  refine az_region ?_
  refine rz_s (ss_move rfl) rfl ?_
  refine rz_s (ss_move rfl) rfl ?_
  refine rz_s (ss_lenR (f := (fun r => C.lst (ints r))) rfl rfl) rfl ?_
  refine rz_s (ss_lss rfl rfl) rfl ?_
  refine rz_nil ?_
  refine az_cond rfl (fun q10 => ?_) (fun q10 => ?_)
  ·replace h := h.1 (of_decide_eq_true q10)
   refine az_skip ?_
   refine az_seq ?_
   refine az_block ?_
   refine az_seq ?_
   refine az_region ?_
   refine rz_s (ss_move rfl) rfl ?_
   refine rz_s (ss_lenL (f := (fun r => C.lst (ints r))) rfl) rfl ?_
   refine rz_s (ss_move rfl) rfl ?_
   refine rz_nil ?_
   refine az_block ?_
   obtain ⟨H2, m2, q11, h⟩ := h
   refine az_loop3 (fun (v30_2 : Int) (z2 : List (List UInt8)) (o21_2 : List (List Int)) => ⟨[(21, ⟨rows o21_2, []⟩)], [(1, .c (.lst (rows list))), (2, .c (ci limit)), (7, .c (.val (.map (some b1)))), (8, .ref 21), (9, .c (ci v9_1)), (28, .c (.lst (rows list))), (29, .c (ci (list.length : Int))), (30, .c (ci v30_2))], 61⟩) (fun (v30_2 : Int) (z2 : List (List UInt8)) (o21_2 : List (List Int)) => some (b1, z2)) H2 m2 ⟨0, z1, o21_1, ghe_to (n := 61) rfl rfl ⟨rfl, rfl, rfl, rfl, rfl, rfl, rfl, rfl, trivial⟩, rfl, q11⟩ ?_
   rintro v30_2 z2 o21_2 q11
   replace h := h v30_2 z2 o21_2 q11
   refine az_seq ?_
   refine az_region ?_
   refine rz_s (ss_lss rfl rfl) rfl ?_
   refine rz_nil ?_
   refine az_seq ?_
   refine az_cond rfl (fun q12 => ?_) (fun q12 => ?_)
   ·replace h := h.1 (of_decide_eq_true q12)
    refine az_skip ?_
    refine az_seq ?_
    refine az_block ?_
    refine az_seq ?_
    refine az_region ?_
    obtain ⟨q13, h⟩ := h
    refine rz_s (ss_idxL rfl rfl q13) rfl ?_
    refine rz_s (ss_loadL (f := (fun r => C.lst (ints r))) rfl q13) rfl ?_
    refine rz_s (ss_assign rfl) rfl ?_
    refine rz_nil ?_
    refine az_seq ?_
    refine az_region ?_
    refine rz_s (ss_move rfl) rfl ?_
    refine rz_s (ss_move rfl) rfl ?_
    obtain ⟨q14, h⟩ := h
    refine rz_s (ss_idxR (f := (fun r => C.lst (ints r))) rfl rfl rfl q14) rfl ?_
    refine rz_s (ss_loadR (f := (fun r => C.lst (ints r))) rfl rfl q14 rfl rfl) rfl ?_
    refine rz_s (ss_move rfl) rfl ?_
    obtain ⟨q15, h⟩ := h
    refine rz_w (ws_call (xs := [.tmp 37, .tmp 38]) (ids := [39]) rfl rfl rfl rfl (c_impl_then (el o21_2 v9_1) (el list v30_2) q15) rfl ?_ )
    rintro _ rfl
    refine ⟨rfl, ?_⟩
    refine rz_s (ss_assign rfl) rfl ?_
    refine rz_nil ?_
    refine az_gh (gh_frzE (id := 39) ci rfl (fun _ => rfl)) ?_
    refine az_seq ?_
    refine az_gh (gh_to (n := 61) (σ' := [(21, ⟨rows o21_2, []⟩)]) (env' := [(1, .c (.lst (rows list))), (2, .c (ci limit)), (7, .c (.val (.map (some b1)))), (8, .ref 21), (9, .c (ci v9_1)), (12, .c (.lst (ints ((el o21_2 v9_1).map (el (el list v30_2)))))), (28, .c (.lst (rows list))), (29, .c (ci (list.length : Int))), (30, .c (ci v30_2))]) rfl rfl ⟨rfl, rfl, rfl, rfl, rfl, rfl, rfl, rfl, rfl, trivial⟩) ?_
    refine az_region ?_
    refine rz_s (ss_move rfl) rfl ?_
    obtain ⟨q17, h⟩ := h
    refine rz_w (ws_call (xs := [.tmp 40]) (ids := []) rfl rfl rfl rfl (c_impl_digitsText ((el o21_2 v9_1).map (el (el list v30_2))) q17) rfl ?_ )
    rintro _ rfl
    refine ⟨rfl, ?_⟩
    refine rz_s (ss_assign rfl) rfl ?_
    refine rz_nil ?_
    refine az_seq ?_
    refine az_region ?_
    refine rz_s (ss_move rfl) rfl ?_
    refine rz_s (ss_move rfl) rfl ?_
    obtain ⟨q19, h⟩ := h
    refine rz_lookup (s := digI ((el o21_2 v9_1).map (el (el list v30_2)))) hMp rfl rfl q19 rfl ?_
    refine rz_s (ss_not rfl) rfl ?_
    refine rz_nil ?_
    refine az_cond rfl (fun q20 => ?_) (fun q20 => ?_)
    ·replace h := h.1 (of_decide_eq_false (bnot_t q20))
     refine az_seq ?_
     refine az_seq ?_
     refine az_region ?_
     refine rz_s (ss_move rfl) rfl ?_
     refine rz_s (ss_lenR (f := (fun r => C.lst (ints r))) rfl rfl) rfl ?_
     refine rz_s (ss_move rfl) rfl ?_
     refine rz_s (ss_eql rfl rfl) rfl ?_
     refine rz_nil ?_
     refine az_cond rfl (fun q21 => ?_) (fun q21 => ?_)
     ·replace h := h.1 (of_decide_eq_true q21)
      refine az_seq ?_
      refine az_gh (gh_to (n := 61) (σ' := [(21, ⟨rows o21_2, []⟩)]) (env' := [(2, .c (ci limit))]) rfl rfl ⟨rfl, trivial⟩) ?_
      refine az_region ?_
      refine rz_s (ss_move rfl) rfl ?_
      obtain ⟨q22, h⟩ := h
      refine rz_s (ss_add rfl rfl q22) rfl ?_
      refine rz_s (ss_assign rfl) rfl ?_
      refine rz_nil ?_
      refine az_ret ?_
      exact retAF_mk (retv1 rfl (rv_tmp rfl)) rfl rfl ⟨_, (cle_refl _), _, h, rfl⟩
     ·replace h := h.2 (of_decide_eq_false q21)
      refine az_skip ?_
      refine az_seq ?_
      refine az_gh (gh_to (n := 61) (σ' := [(21, ⟨rows o21_2, []⟩)]) (env' := [(1, .c (.lst (rows list))), (2, .c (ci limit)), (7, .c (.val (.map (some b1)))), (8, .ref 21), (9, .c (ci v9_1)), (12, .c (.lst (ints ((el o21_2 v9_1).map (el (el list v30_2)))))), (13, .c (cs (digI ((el o21_2 v9_1).map (el (el list v30_2)))))), (28, .c (.lst (rows list))), (29, .c (ci (list.length : Int))), (30, .c (ci v30_2))]) rfl rfl ⟨rfl, rfl, rfl, rfl, rfl, rfl, rfl, rfl, rfl, rfl, trivial⟩) ?_
      refine az_region ?_
      refine rz_s (ss_move rfl) rfl ?_
      refine rz_s (ss_move rfl) rfl ?_
      obtain ⟨q23, h⟩ := h
      obtain ⟨q24, h⟩ := h
      refine rz_mapUpdate (s := digI ((el o21_2 v9_1).map (el (el list v30_2)))) hMp rfl rfl rfl q23 q24 ?_
      refine rz_nil ?_
      refine az_region ?_
      refine rz_s (ss_move rfl) rfl ?_
      refine rz_s (ss_move rfl) rfl ?_
      refine rz_w (ws_buildSlice (id := 56) (ps := [(0, .tmp 55)]) rfl rfl (Nat.le_of_ble_eq_true rfl) rfl ⟨rfl, ?_⟩)
      obtain ⟨q25, h⟩ := h
      refine rz_w (ws_app1 (fun r => C.lst (ints r)) (l := o21_2) (m := [(el o21_2 v9_1).map (el (el list v30_2))]) rfl rfl rfl rfl rfl (Nat.le_of_ble_eq_true rfl) q25 ⟨rfl, ?_⟩)
      refine rz_s (ss_assign rfl) rfl ?_
      refine rz_nil ?_
      refine az_gh (gh_to (n := 61) (σ' := [(21, ⟨rows (o21_2 ++ ([(el o21_2 v9_1).map (el (el list v30_2))])), []⟩)]) (env' := [(1, .c (.lst (rows list))), (2, .c (ci limit)), (7, .c (.val (.map (some b1)))), (8, .ref 21), (9, .c (ci v9_1)), (28, .c (.lst (rows list))), (29, .c (ci (list.length : Int))), (30, .c (ci v30_2))]) rfl rfl ⟨rfl, rfl, rfl, rfl, rfl, rfl, rfl, rfl, trivial⟩) ?_
      refine az_region ?_
      obtain ⟨q26, h⟩ := h
      refine rz_s (ss_add rfl rfl q26) rfl ?_
      refine rz_s (ss_move rfl) rfl ?_
      refine rz_nil ?_
      exact ⟨v30_2 + 1, z2 ++ [digI ((el o21_2 v9_1).map (el (el list v30_2)))], o21_2 ++ ([(el o21_2 v9_1).map (el (el list v30_2))]), ghe_to (n := 61) rfl rfl ⟨rfl, rfl, rfl, rfl, rfl, rfl, rfl, rfl, trivial⟩, rfl, h.1, h.2⟩
    ·replace h := h.2 (of_decide_eq_true (bnot_f q20))
     refine az_skip ?_
     refine az_gh (gh_to (n := 61) (σ' := [(21, ⟨rows o21_2, []⟩)]) (env' := [(1, .c (.lst (rows list))), (2, .c (ci limit)), (7, .c (.val (.map (some b1)))), (8, .ref 21), (9, .c (ci v9_1)), (28, .c (.lst (rows list))), (29, .c (ci (list.length : Int))), (30, .c (ci v30_2))]) rfl rfl ⟨rfl, rfl, rfl, rfl, rfl, rfl, rfl, rfl, trivial⟩) ?_
     refine az_region ?_
     obtain ⟨q27, h⟩ := h
     refine rz_s (ss_add rfl rfl q27) rfl ?_
     refine rz_s (ss_move rfl) rfl ?_
     refine rz_nil ?_
     exact ⟨v30_2 + 1, z2, o21_2, ghe_to (n := 61) rfl rfl ⟨rfl, rfl, rfl, rfl, rfl, rfl, rfl, rfl, trivial⟩, rfl, h.1, h.2⟩
   ·replace h := h.2 (of_decide_eq_false q12)
    refine az_exit ?_
    refine az_region ?_
    refine rz_s (ss_move rfl) rfl ?_
    obtain ⟨q28, h⟩ := h
    refine rz_s (ss_add rfl rfl q28) rfl ?_
    refine rz_s (ss_assign rfl) rfl ?_
    refine rz_nil ?_
    exact ⟨v9_1 + 1, z2, o21_2, ghe_to (n := 61) rfl rfl ⟨rfl, rfl, rfl, rfl, rfl, trivial⟩, rfl, h.1, h.2⟩
  ·replace h := h.2 (of_decide_eq_false q10)
   refine az_exit ?_
   refine az_seq ?_
   refine az_gh (gh_to (n := 61) (σ' := [(21, ⟨rows o21_1, []⟩)]) (env' := [(8, .ref 21)]) rfl rfl ⟨rfl, trivial⟩) ?_
   refine az_region ?_
   refine rz_s (ss_move rfl) rfl ?_
   refine rz_s (ss_lenR (f := (fun r => C.lst (ints r))) rfl rfl) rfl ?_
   refine rz_s (ss_assign rfl) rfl ?_
   refine rz_nil ?_
   refine az_ret ?_
   exact retAF_mk (retv1 rfl (rv_tmp rfl)) rfl rfl ⟨_, (cle_refl _), _, h, rfl⟩

theorem c_impl_groupOrder (n : Int) (list : List (List Int)) (limit : Int) (hp : (1 ≤ n ∧ n ≤ 12) ∧ permsN n list ∧ (list.length : Int) ≤ 1000000 ∧ 1 ≤ limit ∧ limit ≤ 5000) : AF Try.prog 67 [ci n, .lst (rows list), ci limit] (fun R_ => R_ = ci (if grpN n list ≤ limit then grpN n list else limit + 1)) :=
  (w_impl_groupOrder n list limit (fun y0 => y0 = (if grpN n list ≤ limit then grpN n list else limit + 1)) (p_impl_groupOrder n list limit hp)).mono (by rintro r ⟨_, rfl, rfl⟩; rfl)

set_option maxRecDepth 100000 in
set_option maxHeartbeats 4000000 in
theorem w_spec_l03Group (n : Int) (list : List (List Int)) (limit : Int) (Q : List (List Int) → Prop) (h : wp_spec_l03Group n list limit Q) : AF Try.prog 68 [ci n, .lst (rows list), ci limit] (fun R_ => ∃ y0, Q y0 ∧ R_ = .lst (rows y0)) := by
  refine AF.ofWQ (af_enter (n := 96) Try.func68 rfl (by rfl) rfl (Nat.le_of_ble_eq_true rfl) ?_)
  unfold wp_spec_l03Group at h
  refine aw_seq ?_
  refine aw_gh (gh_to (n := 96) (σ' := []) (env' := [(0, .c (ci n)), (1, .c (.lst (rows list))), (2, .c (ci limit))]) rfl rfl ⟨rfl, rfl, rfl, trivial⟩) ?_
  refine aw_region ?_
  refine run_s (ss_assign rfl) rfl ?_
  refine run_nil ?_
  refine aw_seq ?_
  refine aw_region ?_
  refine run_w (ws_buildSlice (id := 16) (ps := []) rfl rfl (Nat.le_of_ble_eq_true rfl) rfl ⟨rfl, ?_⟩)
  refine run_s (ss_assign rfl) rfl ?_
  refine run_nil ?_
  refine aw_seq ?_
  refine aw_seq ?_
  refine aw_region ?_
  refine run_s (ss_assign rfl) rfl ?_
  refine run_nil ?_
  refine aw_block ?_
  obtain ⟨H1, m1, q1, h⟩ := h
  refine aw_loop2 (fun (v8_1 : Int) (o16_1 : List Int) => ⟨[(16, ⟨ints o16_1, []⟩)], [(0, .c (ci n)), (1, .c (.lst (rows list))), (2, .c (ci limit)), (7, .ref 16), (8, .c (ci v8_1))], 96⟩) H1 m1 ⟨0, ([] : List Int), ghe_to (n := 96) rfl rfl ⟨rfl, rfl, rfl, rfl, rfl, trivial⟩, q1⟩ ?_
  rintro v8_1 o16_1 q1
  replace h := h v8_1 o16_1 q1
  refine aw_seq ?_
  refine aw_seq ?_
  refine aw_region ?_
  refine run_s (ss_move rfl) rfl ?_
  refine run_s (ss_move rfl) rfl ?_
  refine run_s (ss_lss rfl rfl) rfl ?_
  refine run_nil ?_
  refine aw_cond rfl (fun q2 => ?_) (fun q2 => ?_)
  ·replace h := h.1 (of_decide_eq_true q2)
   refine aw_skip ?_
   refine aw_seq ?_
   refine aw_block ?_
   refine aw_region ?_
   refine run_s (ss_move rfl) rfl ?_
   refine run_s (ss_move rfl) rfl ?_
   refine run_w (ws_buildSlice (id := 24) (ps := [(0, .tmp 23)]) rfl rfl (Nat.le_of_ble_eq_true rfl) rfl ⟨rfl, ?_⟩)
   obtain ⟨q3, h⟩ := h
   refine run_w (ws_app1 ci (l := o16_1) (m := [v8_1]) rfl rfl rfl rfl rfl (Nat.le_of_ble_eq_true rfl) q3 ⟨rfl, ?_⟩)
   refine run_s (ss_assign rfl) rfl ?_
   refine run_nil ?_
   refine aw_region ?_
   refine run_s (ss_move rfl) rfl ?_
   obtain ⟨q4, h⟩ := h
   refine run_s (ss_add rfl rfl q4) rfl ?_
   refine run_s (ss_assign rfl) rfl ?_
   refine run_nil ?_
   exact ⟨v8_1 + 1, o16_1 ++ ([v8_1]), ghe_to (n := 96) rfl rfl ⟨rfl, rfl, rfl, rfl, rfl, trivial⟩, h.1, h.2⟩
  ·replace h := h.2 (of_decide_eq_false q2)
   refine aw_exit ?_
   refine aw_seq ?_
   refine aw_region ?_
   refine run_s (ss_move rfl) rfl ?_
   refine run_gh (gh_frzE (id := 16) ci rfl (fun _ => rfl)) ?_
   refine run_w (ws_buildSlice (id := 27) (ps := [(0, .tmp 26)]) rfl rfl (Nat.le_of_ble_eq_true rfl) rfl ⟨rfl, ?_⟩)
   refine run_s (ss_assign rfl) rfl ?_
   refine run_nil ?_
   refine aw_seq ?_
   refine aw_region ?_
   refine run_s (ss_move rfl) rfl ?_
   refine run_w (ws_buildSlice (id := 29) (ps := [(0, .tmp 28)]) rfl rfl (Nat.le_of_ble_eq_true rfl) rfl ⟨rfl, ?_⟩)
   refine run_s (ss_assign rfl) rfl ?_
   refine run_nil ?_
   refine aw_seq ?_
   refine aw_seq ?_
   refine aw_region ?_
   refine run_s (ss_assign rfl) rfl ?_
   refine run_nil ?_
   refine aw_block ?_
   obtain ⟨H2, m2, q5, h⟩ := h
   refine aw_loop3 (fun (v11_2 : Int) (o27_2 : List (List Int)) (o29_2 : List (List Int)) => ⟨[(29, ⟨rows o29_2, []⟩), (27, ⟨rows o27_2, []⟩)], [(1, .c (.lst (rows list))), (2, .c (ci limit)), (9, .ref 27), (10, .ref 29), (11, .c (ci v11_2))], 96⟩) H2 m2 ⟨0, [o16_1], [o16_1], ghe_to (n := 96) rfl rfl ⟨rfl, rfl, rfl, rfl, rfl, trivial⟩, q5⟩ ?_
   rintro v11_2 o27_2 o29_2 q5
   replace h := h v11_2 o27_2 o29_2 q5
   refine aw_seq ?_
   refine aw_seq ?_
   refine aw_region ?_
   refine run_s (ss_move rfl) rfl ?_
   refine run_s (ss_move rfl) rfl ?_
   refine run_s (ss_lenR (f := (fun r => C.lst (ints r))) rfl rfl) rfl ?_
   refine run_s (ss_lss rfl rfl) rfl ?_
   refine run_s (ss_move rfl) rfl ?_
   refine run_split (s := 34) rfl (fun q6 => ?_) (fun q6 => ?_)
   ·replace h := h.1 (of_decide_eq_true q6)
    refine run_gt rfl rfl q6 ?_
    refine run_s (ss_move rfl) rfl ?_
    refine run_gt rfl rfl q6 ?_
    refine run_s (ss_lenR (f := (fun r => C.lst (ints r))) rfl rfl) rfl ?_
    refine run_gt rfl rfl q6 ?_
    refine run_s (ss_move rfl) rfl ?_
    refine run_gt rfl rfl q6 ?_
    refine run_s (ss_leq rfl rfl) rfl ?_
    refine run_s (ss_pickT rfl q6 rfl) rfl ?_
    refine run_nil ?_
    refine aw_cond rfl (fun q7 => ?_) (fun q7 => ?_)
    ·replace h := h.1 (of_decide_eq_true q7)
     refine aw_skip ?_
     refine aw_seq ?_
     refine aw_block ?_
     refine aw_seq ?_
     refine aw_region ?_
     refine run_s (ss_assign rfl) rfl ?_
     refine run_nil ?_
     refine aw_block ?_
     obtain ⟨H3, m3, q8, h⟩ := h
     refine aw_loop3 (fun (v12_3 : Int) (o27_3 : List (List Int)) (o29_3 : List (List Int)) => ⟨[(29, ⟨rows o29_3, []⟩), (27, ⟨rows o27_3, []⟩)], [(1, .c (.lst (rows list))), (2, .c (ci limit)), (9, .ref 27), (10, .ref 29), (11, .c (ci v11_2)), (12, .c (ci v12_3)), (36, .c (ci (o27_2.length : Int))), (37, .c (ci limit)), (38, .c (cb (decide ((o27_2.length : Int) ≤ limit))))], 96⟩) H3 m3 ⟨0, o27_2, o29_2, ghe_to (n := 96) rfl rfl ⟨rfl, rfl, rfl, rfl, rfl, rfl, rfl, rfl, rfl, trivial⟩, q8⟩ ?_
     rintro v12_3 o27_3 o29_3 q8
     replace h := h v12_3 o27_3 o29_3 q8
     refine aw_seq ?_
     refine aw_seq ?_
     refine aw_region ?_
     refine run_s (ss_move rfl) rfl ?_
     refine run_s (ss_move rfl) rfl ?_
     refine run_s (ss_lenL (f := (fun r => C.lst (ints r))) rfl) rfl ?_
     refine run_s (ss_lss rfl rfl) rfl ?_
     refine run_s (ss_move rfl) rfl ?_
     refine run_split (s := 46) rfl (fun q9 => ?_) (fun q9 => ?_)
     ·replace h := h.1 (of_decide_eq_true q9)
      refine run_gt rfl rfl q9 ?_
      refine run_s (ss_move rfl) rfl ?_
      refine run_gt rfl rfl q9 ?_
      refine run_s (ss_lenR (f := (fun r => C.lst (ints r))) rfl rfl) rfl ?_
      refine run_gt rfl rfl q9 ?_
      refine run_s (ss_move rfl) rfl ?_
      refine run_gt rfl rfl q9 ?_
      refine run_s (ss_leq rfl rfl) rfl ?_
      refine run_s (ss_pickT rfl q9 rfl) rfl ?_
      refine run_nil ?_
      refine aw_cond rfl (fun q10 => ?_) (fun q10 => ?_)
      ·replace h := h.1 (of_decide_eq_true q10)
       refine aw_skip ?_
       refine aw_seq ?_
       refine aw_block ?_
       refine aw_seq ?_
       refine aw_gh (gh_to (n := 96) (σ' := [(29, ⟨rows o29_3, []⟩), (27, ⟨rows o27_3, []⟩)]) (env' := [(1, .c (.lst (rows list))), (2, .c (ci limit)), (9, .ref 27), (10, .ref 29), (11, .c (ci v11_2)), (12, .c (ci v12_3)), (36, .c (ci (o27_2.length : Int))), (37, .c (ci limit)), (38, .c (cb (decide ((o27_2.length : Int) ≤ limit)))), (47, .ref 27), (48, .c (ci (o27_3.length : Int))), (49, .c (ci limit)), (50, .c (cb (decide ((o27_3.length : Int) ≤ limit))))]) rfl rfl ⟨rfl, rfl, rfl, rfl, rfl, rfl, rfl, rfl, rfl, rfl, rfl, rfl, rfl, trivial⟩) ?_
       refine aw_regionD (kd := kdl [0, 0, 0, 1, 0, 0, 0, 1, 2, 0]) (ord := [0, 1, 2, 4, 5, 6, 3, 7, 8, 9]) [] mixed (by kernel_rfl) ?_
       refine rd_s rfl rfl trivial (ss_move rfl) rfl ?_
       refine rd_s rfl rfl trivial (ss_move rfl) rfl ?_
       obtain ⟨q11, h⟩ := h
       refine rd_s rfl rfl trivial (ss_idxR (f := (fun r => C.lst (ints r))) rfl rfl rfl q11) rfl ?_
       refine rd_s rfl rfl trivial (ss_move rfl) rfl ?_
       refine rd_s rfl rfl trivial (ss_move rfl) rfl ?_
       obtain ⟨q12, h⟩ := h
       refine rd_s rfl rfl trivial (ss_idxL rfl rfl q12) rfl ?_
       refine rd_l rfl rfl trivial (ss_loadR (f := (fun r => C.lst (ints r))) rfl rfl q11 rfl rfl) rfl ?_
       refine rd_l rfl rfl trivial (ss_loadL (f := (fun r => C.lst (ints r))) rfl q12) rfl ?_
       obtain ⟨q13, h⟩ := h
       refine rd_w rfl rfl trivial rfl rfl (ws_call (xs := [.tmp 57, .tmp 61]) (ids := [62]) rfl rfl rfl rfl (c_spec_l01Then (el o27_3 v11_2) (el list v12_3) q13) rfl ?_ )
       rintro _ rfl
       refine ⟨rfl, ?_⟩
       refine rd_s rfl rfl trivial (ss_assign rfl) rfl ?_
       refine rd_nil ?_
       refine aw_gh (gh_frzE (id := 62) ci rfl (fun _ => rfl)) ?_
       refine aw_seq ?_
       refine aw_region ?_
       refine run_s (ss_move rfl) rfl ?_
       refine run_s (ss_move rfl) rfl ?_
       obtain ⟨q15, h⟩ := h
       refine run_w (ws_callR (xs := [.tmp 63, .tmp 64]) (cs := [.own (rows o29_3), .lst (ints ((el o27_3 v11_2).map (el (el list v12_3))))]) (ids := []) rfl (.inr ⟨rfl, rfl⟩) rfl rfl (fz_cons (fz_own (fz_map (fun _ => rfl) _)) (fz_cons rfl fz_nil)) (c_spec_l03Search o29_3 ((el o27_3 v11_2).map (el (el list v12_3))) q15) rfl ?_ )
       rintro _ ⟨r1_0, q16, rfl⟩
       replace h := h r1_0 q16
       refine ⟨rfl, rfl, ?_⟩
       refine run_s (ss_assign rfl) rfl ?_
       refine run_nil ?_
       refine aw_seq ?_
       refine aw_seq ?_
       refine aw_gh (gh_to (n := 96) (σ' := [(29, ⟨rows o29_3, []⟩), (27, ⟨rows o27_3, []⟩)]) (env' := [(1, .c (.lst (rows list))), (2, .c (ci limit)), (9, .ref 27), (10, .ref 29), (11, .c (ci v11_2)), (12, .c (ci v12_3)), (13, .c (.lst (ints ((el o27_3 v11_2).map (el (el list v12_3)))))), (14, .c (ci r1_0)), (36, .c (ci (o27_2.length : Int))), (37, .c (ci limit)), (38, .c (cb (decide ((o27_2.length : Int) ≤ limit)))), (47, .ref 27), (48, .c (ci (o27_3.length : Int))), (49, .c (ci limit)), (50, .c (cb (decide ((o27_3.length : Int) ≤ limit))))]) rfl rfl ⟨rfl, rfl, rfl, rfl, rfl, rfl, rfl, rfl, rfl, rfl, rfl, rfl, rfl, rfl, rfl, trivial⟩) ?_
       refine aw_region ?_
       refine run_s (ss_move rfl) rfl ?_
       refine run_s (ss_move rfl) rfl ?_
       refine run_s (ss_lenR (f := (fun r => C.lst (ints r))) rfl rfl) rfl ?_
       refine run_s (ss_lss rfl rfl) rfl ?_
       refine run_s (ss_move rfl) rfl ?_
       refine run_split (s := 70) rfl (fun q17 => ?_) (fun q17 => ?_)
       ·replace h := h.1 (of_decide_eq_true q17)
        refine run_gt rfl rfl q17 ?_
        refine run_s (ss_move rfl) rfl ?_
        refine run_gt rfl rfl q17 ?_
        refine run_s (ss_move rfl) rfl ?_
        refine run_gt rfl rfl q17 ?_
        obtain ⟨q18, h⟩ := h
        refine run_s (ss_idxR (f := (fun r => C.lst (ints r))) rfl rfl rfl q18) rfl ?_
        refine run_gt rfl rfl q17 ?_
        refine run_s (ss_loadR (f := (fun r => C.lst (ints r))) rfl rfl q18 rfl rfl) rfl ?_
        refine run_gt rfl rfl q17 ?_
        refine run_s (ss_move rfl) rfl ?_
        refine run_gt rfl rfl q17 ?_
        obtain ⟨q19, h⟩ := h
        refine run_w (ws_call (xs := [.tmp 74, .tmp 75]) (ids := []) rfl rfl rfl rfl (c_spec_l01Same (el o29_3 r1_0) ((el o27_3 v11_2).map (el (el list v12_3))) q19) rfl ?_ )
        rintro _ rfl
        refine ⟨rfl, ?_⟩
        refine run_s (ss_pickT rfl q17 rfl) rfl ?_
        refine run_nil ?_
        refine aw_cond rfl (fun q21 => ?_) (fun q21 => ?_)
        ·replace h := h.1 (of_decide_eq_true q21)
         refine aw_exit ?_
         refine aw_gh (gh_to (n := 96) (σ' := [(29, ⟨rows o29_3, []⟩), (27, ⟨rows o27_3, []⟩)]) (env' := [(1, .c (.lst (rows list))), (2, .c (ci limit)), (9, .ref 27), (10, .ref 29), (11, .c (ci v11_2)), (12, .c (ci v12_3)), (36, .c (ci (o27_2.length : Int))), (37, .c (ci limit)), (38, .c (cb (decide ((o27_2.length : Int) ≤ limit)))), (47, .ref 27), (48, .c (ci (o27_3.length : Int))), (49, .c (ci limit)), (50, .c (cb (decide ((o27_3.length : Int) ≤ limit)))), (71, .ref 29), (72, .c (ci r1_0)), (73, .cell 29 r1_0.toNat), (74, .c (.lst (ints (el o29_3 r1_0)))), (75, .c (.lst (ints ((el o27_3 v11_2).map (el (el list v12_3)))))), (76, .c (cb (decide ((el o29_3 r1_0) = ((el o27_3 v11_2).map (el (el list v12_3)))))))]) rfl rfl ⟨rfl, rfl, rfl, rfl, rfl, rfl, rfl, rfl, rfl, rfl, rfl, rfl, rfl, rfl, rfl, rfl, rfl, rfl, rfl, trivial⟩) ?_
         refine aw_region ?_
         refine run_s (ss_move rfl) rfl ?_
         obtain ⟨q22, h⟩ := h
         refine run_s (ss_add rfl rfl q22) rfl ?_
         refine run_s (ss_assign rfl) rfl ?_
         refine run_nil ?_
         exact ⟨v12_3 + 1, o27_3, o29_3, ghe_to (n := 96) rfl rfl ⟨rfl, rfl, rfl, rfl, rfl, rfl, rfl, rfl, rfl, trivial⟩, h.1, h.2⟩
        ·replace h := h.2 (of_decide_eq_false q21)
         refine aw_skip ?_
         refine aw_seq ?_
         refine aw_region ?_
         refine run_s (ss_move rfl) rfl ?_
         refine run_w (ws_buildSlice (id := 79) (ps := [(0, .tmp 78)]) rfl rfl (Nat.le_of_ble_eq_true rfl) rfl ⟨rfl, ?_⟩)
         refine run_s (ss_move rfl) rfl ?_
         refine run_s (ss_move rfl) rfl ?_
         refine run_gh (gh_frzE (id := 29) (fun r => C.lst (ints r)) rfl (fun _ => rfl)) ?_
         obtain ⟨q23, h⟩ := h
         refine run_s (ss_slL (f := (fun r => C.lst (ints r))) rfl ⟨_, rfl⟩ rfl q23) rfl ?_
         obtain ⟨q24, h⟩ := h
         refine run_w (ws_appL (fun r => C.lst (ints r)) (l := [(el o27_3 v11_2).map (el (el list v12_3))]) (m := sl o29_3 r1_0 (o29_3.length : Int)) rfl rfl rfl (Nat.le_of_ble_eq_true rfl) q24 ⟨rfl, ?_⟩)
         refine run_s (ss_assign rfl) rfl ?_
         refine run_nil ?_
         refine aw_seq ?_
         refine aw_gh (gh_to (n := 96) (σ' := [(79, ⟨rows (([(el o27_3 v11_2).map (el (el list v12_3))]) ++ (sl o29_3 r1_0 (o29_3.length : Int))), []⟩), (27, ⟨rows o27_3, []⟩)]) (env' := [(1, .c (.lst (rows list))), (2, .c (ci limit)), (9, .ref 27), (10, .c (.lst (rows o29_3))), (11, .c (ci v11_2)), (12, .c (ci v12_3)), (13, .c (.lst (ints ((el o27_3 v11_2).map (el (el list v12_3)))))), (14, .c (ci r1_0)), (15, .ref 79), (36, .c (ci (o27_2.length : Int))), (37, .c (ci limit)), (38, .c (cb (decide ((o27_2.length : Int) ≤ limit)))), (47, .ref 27), (48, .c (ci (o27_3.length : Int))), (49, .c (ci limit)), (50, .c (cb (decide ((o27_3.length : Int) ≤ limit)))), (71, .c (.lst (rows o29_3))), (72, .c (ci r1_0)), (73, .c (.ptr ((rows o29_3).drop r1_0.toNat))), (74, .c (.lst (ints (el o29_3 r1_0)))), (75, .c (.lst (ints ((el o27_3 v11_2).map (el (el list v12_3)))))), (76, .c (cb (decide ((el o29_3 r1_0) = ((el o27_3 v11_2).map (el (el list v12_3)))))))]) rfl rfl ⟨rfl, rfl, rfl, rfl, rfl, rfl, rfl, rfl, rfl, rfl, rfl, rfl, rfl, rfl, rfl, rfl, rfl, rfl, rfl, rfl, rfl, rfl, trivial⟩) ?_
         refine aw_region ?_
         refine run_w (ws_buildSlice (id := 84) (ps := []) rfl rfl (Nat.le_of_ble_eq_true rfl) rfl ⟨rfl, ?_⟩)
         refine run_s (ss_move rfl) rfl ?_
         refine run_s (ss_move rfl) rfl ?_
         obtain ⟨q25, h⟩ := h
         refine run_s (ss_slL (f := (fun r => C.lst (ints r))) rfl rfl ⟨_, rfl⟩ q25) rfl ?_
         obtain ⟨q26, h⟩ := h
         refine run_w (ws_appL (fun r => C.lst (ints r)) (l := ([] : List (List Int))) (m := sl o29_3 0 r1_0) rfl rfl rfl (Nat.le_of_ble_eq_true rfl) q26 ⟨rfl, ?_⟩)
         refine run_s (ss_move rfl) rfl ?_
         obtain ⟨q27, h⟩ := h
         refine run_w (ws_app1 (fun r => C.lst (ints r)) (l := ([] : List (List Int)) ++ (sl o29_3 0 r1_0)) (m := ([(el o27_3 v11_2).map (el (el list v12_3))]) ++ (sl o29_3 r1_0 (o29_3.length : Int))) rfl rfl rfl rfl rfl (Nat.le_of_ble_eq_true rfl) q27 ⟨rfl, ?_⟩)
         refine run_s (ss_assign rfl) rfl ?_
         refine run_nil ?_
         refine aw_gh (gh_to (n := 96) (σ' := [(84, ⟨rows ((([] : List (List Int)) ++ (sl o29_3 0 r1_0)) ++ (([(el o27_3 v11_2).map (el (el list v12_3))]) ++ (sl o29_3 r1_0 (o29_3.length : Int)))), []⟩), (27, ⟨rows o27_3, []⟩)]) (env' := [(1, .c (.lst (rows list))), (2, .c (ci limit)), (9, .ref 27), (10, .ref 84), (11, .c (ci v11_2)), (12, .c (ci v12_3)), (13, .c (.lst (ints ((el o27_3 v11_2).map (el (el list v12_3)))))), (36, .c (ci (o27_2.length : Int))), (37, .c (ci limit)), (38, .c (cb (decide ((o27_2.length : Int) ≤ limit)))), (47, .ref 27), (48, .c (ci (o27_3.length : Int))), (49, .c (ci limit)), (50, .c (cb (decide ((o27_3.length : Int) ≤ limit)))), (71, .c (.lst (rows o29_3))), (72, .c (ci r1_0)), (73, .c (.ptr ((rows o29_3).drop r1_0.toNat))), (74, .c (.lst (ints (el o29_3 r1_0)))), (75, .c (.lst (ints ((el o27_3 v11_2).map (el (el list v12_3)))))), (76, .c (cb (decide ((el o29_3 r1_0) = ((el o27_3 v11_2).map (el (el list v12_3)))))))]) rfl rfl ⟨rfl, rfl, rfl, rfl, rfl, rfl, rfl, rfl, rfl, rfl, rfl, rfl, rfl, rfl, rfl, rfl, rfl, rfl, rfl, rfl, trivial⟩) ?_
         refine aw_region ?_
         refine run_s (ss_move rfl) rfl ?_
         refine run_s (ss_move rfl) rfl ?_
         refine run_w (ws_buildSlice (id := 93) (ps := [(0, .tmp 92)]) rfl rfl (Nat.le_of_ble_eq_true rfl) rfl ⟨rfl, ?_⟩)
         obtain ⟨q28, h⟩ := h
         refine run_w (ws_app1 (fun r => C.lst (ints r)) (l := o27_3) (m := [(el o27_3 v11_2).map (el (el list v12_3))]) rfl rfl rfl rfl rfl (Nat.le_of_ble_eq_true rfl) q28 ⟨rfl, ?_⟩)
         refine run_s (ss_assign rfl) rfl ?_
         refine run_nil ?_
         refine aw_region ?_
         refine run_s (ss_move rfl) rfl ?_
         obtain ⟨q29, h⟩ := h
         refine run_s (ss_add rfl rfl q29) rfl ?_
         refine run_s (ss_assign rfl) rfl ?_
         refine run_nil ?_
         exact ⟨v12_3 + 1, o27_3 ++ ([(el o27_3 v11_2).map (el (el list v12_3))]), (([] : List (List Int)) ++ (sl o29_3 0 r1_0)) ++ (([(el o27_3 v11_2).map (el (el list v12_3))]) ++ (sl o29_3 r1_0 (o29_3.length : Int))), ghe_step (gh_ren (a := 84) (b := 29) rfl rfl) (ghe_to (n := 96) rfl rfl ⟨rfl, rfl, rfl, rfl, rfl, rfl, rfl, rfl, rfl, trivial⟩), h.1, h.2⟩
       ·replace h := h.2 (of_decide_eq_false q17)
        refine run_gf rfl rfl q17 rfl ?_
        refine run_gf rfl rfl q17 rfl ?_
        refine run_gf rfl rfl q17 rfl ?_
        refine run_gf rfl rfl q17 rfl ?_
        refine run_gf rfl rfl q17 rfl ?_
        refine run_gf rfl rfl q17 rfl ?_
        refine run_s (ss_pickF rfl q17 rfl) rfl ?_
        refine run_nil ?_
        refine aw_cond rfl (fun q30 => ?_) (fun q30 => ?_)
        ·cases q30
        ·skip
         refine aw_skip ?_
         refine aw_seq ?_
         refine aw_region ?_
         refine run_s (ss_move rfl) rfl ?_
         refine run_w (ws_buildSlice (id := 79) (ps := [(0, .tmp 78)]) rfl rfl (Nat.le_of_ble_eq_true rfl) rfl ⟨rfl, ?_⟩)
         refine run_s (ss_move rfl) rfl ?_
         refine run_s (ss_move rfl) rfl ?_
         refine run_gh (gh_frzE (id := 29) (fun r => C.lst (ints r)) rfl (fun _ => rfl)) ?_
         obtain ⟨q31, h⟩ := h
         refine run_s (ss_slL (f := (fun r => C.lst (ints r))) rfl ⟨_, rfl⟩ rfl q31) rfl ?_
         obtain ⟨q32, h⟩ := h
         refine run_w (ws_appL (fun r => C.lst (ints r)) (l := [(el o27_3 v11_2).map (el (el list v12_3))]) (m := sl o29_3 r1_0 (o29_3.length : Int)) rfl rfl rfl (Nat.le_of_ble_eq_true rfl) q32 ⟨rfl, ?_⟩)
         refine run_s (ss_assign rfl) rfl ?_
         refine run_nil ?_
         refine aw_seq ?_
         refine aw_gh (gh_to (n := 96) (σ' := [(79, ⟨rows (([(el o27_3 v11_2).map (el (el list v12_3))]) ++ (sl o29_3 r1_0 (o29_3.length : Int))), []⟩), (27, ⟨rows o27_3, []⟩)]) (env' := [(1, .c (.lst (rows list))), (2, .c (ci limit)), (9, .ref 27), (10, .c (.lst (rows o29_3))), (11, .c (ci v11_2)), (12, .c (ci v12_3)), (13, .c (.lst (ints ((el o27_3 v11_2).map (el (el list v12_3)))))), (14, .c (ci r1_0)), (15, .ref 79), (36, .c (ci (o27_2.length : Int))), (37, .c (ci limit)), (38, .c (cb (decide ((o27_2.length : Int) ≤ limit)))), (47, .ref 27), (48, .c (ci (o27_3.length : Int))), (49, .c (ci limit)), (50, .c (cb (decide ((o27_3.length : Int) ≤ limit))))]) rfl rfl ⟨rfl, rfl, rfl, rfl, rfl, rfl, rfl, rfl, rfl, rfl, rfl, rfl, rfl, rfl, rfl, rfl, trivial⟩) ?_
         refine aw_region ?_
         refine run_w (ws_buildSlice (id := 84) (ps := []) rfl rfl (Nat.le_of_ble_eq_true rfl) rfl ⟨rfl, ?_⟩)
         refine run_s (ss_move rfl) rfl ?_
         refine run_s (ss_move rfl) rfl ?_
         obtain ⟨q33, h⟩ := h
         refine run_s (ss_slL (f := (fun r => C.lst (ints r))) rfl rfl ⟨_, rfl⟩ q33) rfl ?_
         obtain ⟨q34, h⟩ := h
         refine run_w (ws_appL (fun r => C.lst (ints r)) (l := ([] : List (List Int))) (m := sl o29_3 0 r1_0) rfl rfl rfl (Nat.le_of_ble_eq_true rfl) q34 ⟨rfl, ?_⟩)
         refine run_s (ss_move rfl) rfl ?_
         obtain ⟨q35, h⟩ := h
         refine run_w (ws_app1 (fun r => C.lst (ints r)) (l := ([] : List (List Int)) ++ (sl o29_3 0 r1_0)) (m := ([(el o27_3 v11_2).map (el (el list v12_3))]) ++ (sl o29_3 r1_0 (o29_3.length : Int))) rfl rfl rfl rfl rfl (Nat.le_of_ble_eq_true rfl) q35 ⟨rfl, ?_⟩)
         refine run_s (ss_assign rfl) rfl ?_
         refine run_nil ?_
         refine aw_region ?_
         refine run_s (ss_move rfl) rfl ?_
         refine run_s (ss_move rfl) rfl ?_
         refine run_w (ws_buildSlice (id := 93) (ps := [(0, .tmp 92)]) rfl rfl (Nat.le_of_ble_eq_true rfl) rfl ⟨rfl, ?_⟩)
         obtain ⟨q36, h⟩ := h
         refine run_w (ws_app1 (fun r => C.lst (ints r)) (l := o27_3) (m := [(el o27_3 v11_2).map (el (el list v12_3))]) rfl rfl rfl rfl rfl (Nat.le_of_ble_eq_true rfl) q36 ⟨rfl, ?_⟩)
         refine run_s (ss_assign rfl) rfl ?_
         refine run_nil ?_
         refine aw_gh (gh_to (n := 96) (σ' := [(84, ⟨rows ((([] : List (List Int)) ++ (sl o29_3 0 r1_0)) ++ (([(el o27_3 v11_2).map (el (el list v12_3))]) ++ (sl o29_3 r1_0 (o29_3.length : Int)))), []⟩), (27, ⟨rows (o27_3 ++ ([(el o27_3 v11_2).map (el (el list v12_3))])), []⟩)]) (env' := [(1, .c (.lst (rows list))), (2, .c (ci limit)), (9, .ref 27), (10, .ref 84), (11, .c (ci v11_2)), (12, .c (ci v12_3)), (36, .c (ci (o27_2.length : Int))), (37, .c (ci limit)), (38, .c (cb (decide ((o27_2.length : Int) ≤ limit)))), (48, .c (ci (o27_3.length : Int))), (49, .c (ci limit)), (50, .c (cb (decide ((o27_3.length : Int) ≤ limit))))]) rfl rfl ⟨rfl, rfl, rfl, rfl, rfl, rfl, rfl, rfl, rfl, rfl, rfl, rfl, trivial⟩) ?_
         refine aw_region ?_
         refine run_s (ss_move rfl) rfl ?_
         obtain ⟨q37, h⟩ := h
         refine run_s (ss_add rfl rfl q37) rfl ?_
         refine run_s (ss_assign rfl) rfl ?_
         refine run_nil ?_
         exact ⟨v12_3 + 1, o27_3 ++ ([(el o27_3 v11_2).map (el (el list v12_3))]), (([] : List (List Int)) ++ (sl o29_3 0 r1_0)) ++ (([(el o27_3 v11_2).map (el (el list v12_3))]) ++ (sl o29_3 r1_0 (o29_3.length : Int))), ghe_step (gh_ren (a := 84) (b := 29) rfl rfl) (ghe_to (n := 96) rfl rfl ⟨rfl, rfl, rfl, rfl, rfl, rfl, rfl, rfl, rfl, trivial⟩), h.1, h.2⟩
      ·replace h := h.2 (of_decide_eq_false q10)
       refine aw_exit ?_
       refine aw_region ?_
       refine run_s (ss_move rfl) rfl ?_
       obtain ⟨q38, h⟩ := h
       refine run_s (ss_add rfl rfl q38) rfl ?_
       refine run_s (ss_assign rfl) rfl ?_
       refine run_nil ?_
       exact ⟨v11_2 + 1, o27_3, o29_3, ghe_to (n := 96) rfl rfl ⟨rfl, rfl, rfl, rfl, rfl, trivial⟩, h.1, h.2⟩
     ·replace h := h.2 (of_decide_eq_false q9)
      refine run_gf rfl rfl q9 rfl ?_
      refine run_gf rfl rfl q9 rfl ?_
      refine run_gf rfl rfl q9 rfl ?_
      refine run_gf rfl rfl q9 rfl ?_
      refine run_s (ss_pickF rfl q9 rfl) rfl ?_
      refine run_nil ?_
      refine aw_cond rfl (fun q39 => ?_) (fun q39 => ?_)
      ·cases q39
      ·skip
       refine aw_exit ?_
       refine aw_region ?_
       refine run_s (ss_move rfl) rfl ?_
       obtain ⟨q40, h⟩ := h
       refine run_s (ss_add rfl rfl q40) rfl ?_
       refine run_s (ss_assign rfl) rfl ?_
       refine run_nil ?_
       exact ⟨v11_2 + 1, o27_3, o29_3, ghe_to (n := 96) rfl rfl ⟨rfl, rfl, rfl, rfl, rfl, trivial⟩, h.1, h.2⟩
    ·replace h := h.2 (of_decide_eq_false q7)
     refine aw_exit ?_
     refine aw_seq ?_
     refine aw_gh (gh_to (n := 96) (σ' := [(29, ⟨rows o29_2, []⟩), (27, ⟨rows o27_2, []⟩)]) (env' := [(9, .ref 27)]) rfl rfl ⟨rfl, trivial⟩) ?_
     refine aw_region ?_
     refine run_s (ss_move rfl) rfl ?_
     refine run_s (ss_assign rfl) rfl ?_
     refine run_nil ?_
     refine aw_gh (gh_frzE (id := 27) (fun r => C.lst (ints r)) rfl (fun _ => rfl)) ?_
     refine aw_ret ?_
     exact retAF_mk (retv1 rfl (rv_tmp rfl)) rfl rfl ⟨_, (cle_refl _), _, h, rfl⟩
   ·replace h := h.2 (of_decide_eq_false q6)
    refine run_gf rfl rfl q6 rfl ?_
    refine run_gf rfl rfl q6 rfl ?_
    refine run_gf rfl rfl q6 rfl ?_
    refine run_gf rfl rfl q6 rfl ?_
    refine run_s (ss_pickF rfl q6 rfl) rfl ?_
    refine run_nil ?_
    refine aw_cond rfl (fun q41 => ?_) (fun q41 => ?_)
    ·cases q41
    ·skip
     refine aw_exit ?_
     refine aw_seq ?_
     refine aw_gh (gh_to (n := 96) (σ' := [(29, ⟨rows o29_2, []⟩), (27, ⟨rows o27_2, []⟩)]) (env' := [(9, .ref 27)]) rfl rfl ⟨rfl, trivial⟩) ?_
     refine aw_region ?_
     refine run_s (ss_move rfl) rfl ?_
     refine run_s (ss_assign rfl) rfl ?_
     refine run_nil ?_
     refine aw_gh (gh_frzE (id := 27) (fun r => C.lst (ints r)) rfl (fun _ => rfl)) ?_
     refine aw_ret ?_
     exact retAF_mk (retv1 rfl (rv_tmp rfl)) rfl rfl ⟨_, (cle_refl _), _, h, rfl⟩

theorem c_spec_l03Group (n : Int) (list : List (List Int)) (limit : Int) (hp : (1 ≤ n ∧ n ≤ 12) ∧ permsN n list ∧ (list.length : Int) ≤ 1000000 ∧ 1 ≤ limit ∧ limit ≤ 5000) : AF Try.prog 68 [ci n, .lst (rows list), ci limit] (fun R_ => ∃ y0, ((y0.length : Int) = (if grpN n list ≤ limit then grpN n list else limit + 1)) ∧ R_ = .lst (rows y0)) :=
  w_spec_l03Group n list limit (fun y0 => (y0.length : Int) = (if grpN n list ≤ limit then grpN n list else limit + 1)) (p_spec_l03Group n list limit hp)

set_option maxRecDepth 100000 in
set_option maxHeartbeats 4000000 in
theorem w_impl_InnerOrder (r : List (List Int)) (Q : Int → Int → Prop) (h : wp_impl_InnerOrder r Q) : AF Try.prog 23 [.agg [.lst (rows r)]] (fun R_ => ∃ y0 y1, Q y0 y1 ∧ R_ = .tup [ci y0, ci y1]) := by
  refine AF.ofWQ (af_enter (n := 17) Try.func23 rfl (by rfl) rfl (Nat.le_of_ble_eq_true rfl) ?_)
  unfold wp_impl_InnerOrder at h
  refine aw_seq ?_
  refine aw_gh (gh_to (n := 17) (σ' := []) (env' := [(0, .c (.agg [.lst (rows r)]))]) rfl rfl ⟨rfl, trivial⟩) ?_
  refine aw_region ?_
  refine run_w (ws_boxR rfl (.inl rfl) rfl ⟨rfl, ?_⟩)
  refine run_s (ss_assign rfl) rfl ?_
  refine run_s (ss_assign rfl) rfl ?_
  refine run_nil ?_
  refine aw_seq ?_
  refine aw_seq ?_
  refine aw_region ?_
  refine run_s (ss_load_struct rfl (Nat.le_of_ble_eq_true rfl)) rfl ?_
  obtain ⟨q1, h⟩ := h
  refine run_w (ws_call (xs := [.tmp 5]) (ids := []) rfl rfl rfl rfl (c_impl_IsRack r q1) rfl ?_ )
  rintro _ rfl
  refine ⟨rfl, ?_⟩
  refine run_s (ss_not rfl) rfl ?_
  refine run_nil ?_
  refine aw_cond rfl (fun q3 => ?_) (fun q3 => ?_)
  ·replace h := h.1 ((bnot_t q3))
   refine aw_seq ?_
   refine aw_gh (gh_to (n := 17) (σ' := []) (env' := [(2, .c (ci 0)), (3, .c (ci 0))]) rfl rfl ⟨rfl, rfl, trivial⟩) ?_
   refine aw_region ?_
   refine run_s (ss_assign rfl) rfl ?_
   refine run_s (ss_assign rfl) rfl ?_
   refine run_nil ?_
   refine aw_ret ?_
   exact retAF_mk (retv2 rfl (rv_tmp rfl) (rv_tmp rfl)) rfl rfl ⟨_, (cle_refl _), _, _, h, rfl⟩
  ·replace h := h.2 ((bnot_f q3))
   refine aw_skip ?_
   refine aw_seq ?_
   refine aw_region ?_
   refine run_s (ss_field_ptr rfl) rfl ?_
   refine run_s (ss_load_ptr rfl rfl) rfl ?_
   refine run_s (ss_lenL (f := (fun r => C.lst (ints r))) rfl) rfl ?_
   refine run_s (ss_field_ptr rfl) rfl ?_
   refine run_s (ss_load_ptr rfl rfl) rfl ?_
   obtain ⟨q4, h⟩ := h
   refine run_w (ws_call (xs := [.tmp 10, .tmp 12, .const (.int .i64 (5000))]) (ids := []) rfl rfl rfl rfl (c_impl_groupOrder (r.length : Int) r 5000 q4) rfl ?_ )
   rintro _ rfl
   refine ⟨rfl, ?_⟩
   refine run_s (ss_assign rfl) rfl ?_
   refine run_nil ?_
   refine aw_seq ?_
   refine aw_seq ?_
   refine aw_gh (gh_to (n := 17) (σ' := []) (env' := [(4, .c (ci (if grpN (r.length : Int) r ≤ (5000 : Int) then grpN (r.length : Int) r else (5000 : Int) + 1)))]) rfl rfl ⟨rfl, trivial⟩) ?_
   refine aw_region ?_
   refine run_s (ss_move rfl) rfl ?_
   refine run_s (ss_gtr rfl rfl) rfl ?_
   refine run_nil ?_
   refine aw_cond rfl (fun q6 => ?_) (fun q6 => ?_)
   ·replace h := h.1 (of_decide_eq_true q6)
    refine aw_seq ?_
    refine aw_region ?_
    refine run_s (ss_assign rfl) rfl ?_
    refine run_s (ss_assign rfl) rfl ?_
    refine run_nil ?_
    refine aw_ret ?_
    exact retAF_mk (retv2 rfl (rv_tmp rfl) (rv_tmp rfl)) rfl rfl ⟨_, (cle_refl _), _, _, h, rfl⟩
   ·replace h := h.2 (of_decide_eq_false q6)
    refine aw_skip ?_
    refine aw_seq ?_
    refine aw_region ?_
    refine run_s (ss_move rfl) rfl ?_
    refine run_s (ss_assign rfl) rfl ?_
    refine run_s (ss_assign rfl) rfl ?_
    refine run_nil ?_
    refine aw_ret ?_
    exact retAF_mk (retv2 rfl (rv_tmp rfl) (rv_tmp rfl)) rfl rfl ⟨_, (cle_refl _), _, _, h, rfl⟩

theorem c_impl_InnerOrder (r : List (List Int)) (hp : small2 r) : AF Try.prog 23 [.agg [.lst (rows r)]] (fun R_ => R_ = .tup [ci (InoV r), ci (InoE r)]) :=
  (w_impl_InnerOrder r (fun y0 y1 => y0 = InoV r ∧ y1 = InoE r) (p_impl_InnerOrder r hp)).mono (by rintro r ⟨_, _, ⟨rfl, rfl⟩, rfl⟩; rfl)

set_option maxRecDepth 100000 in
set_option maxHeartbeats 4000000 in
theorem w_spec_InnerOrder (r : List (List Int)) (Q : Int → Int → Prop) (h : wp_spec_InnerOrder r Q) : AF Try.prog 24 [.agg [.lst (rows r)]] (fun R_ => ∃ y0 y1, Q y0 y1 ∧ R_ = .tup [ci y0, ci y1]) := by
  refine AF.ofWQ (af_enter (n := 19) Try.func24 rfl (by rfl) rfl (Nat.le_of_ble_eq_true rfl) ?_)
  unfold wp_spec_InnerOrder at h
  refine aw_seq ?_
  refine aw_gh (gh_to (n := 19) (σ' := []) (env' := [(0, .c (.agg [.lst (rows r)]))]) rfl rfl ⟨rfl, trivial⟩) ?_
  refine aw_region ?_
  refine run_w (ws_boxR rfl (.inl rfl) rfl ⟨rfl, ?_⟩)
  refine run_s (ss_assign rfl) rfl ?_
  refine run_s (ss_assign rfl) rfl ?_
  refine run_nil ?_
  refine aw_seq ?_
  refine aw_seq ?_
  refine aw_region ?_
  refine run_s (ss_load_struct rfl (Nat.le_of_ble_eq_true rfl)) rfl ?_
  obtain ⟨q1, h⟩ := h
  refine run_w (ws_call (xs := [.tmp 5]) (ids := []) rfl rfl rfl rfl (c_spec_l03Is r q1) rfl ?_ )
  rintro _ rfl
  refine ⟨rfl, ?_⟩
  refine run_s (ss_not rfl) rfl ?_
  refine run_nil ?_
  refine aw_cond rfl (fun q3 => ?_) (fun q3 => ?_)
  ·replace h := h.1 ((bnot_t q3))
   refine aw_seq ?_
   refine aw_gh (gh_to (n := 19) (σ' := []) (env' := [(2, .c (ci 0)), (3, .c (ci 0))]) rfl rfl ⟨rfl, rfl, trivial⟩) ?_
   refine aw_region ?_
   refine run_s (ss_assign rfl) rfl ?_
   refine run_s (ss_assign rfl) rfl ?_
   refine run_nil ?_
   refine aw_ret ?_
   exact retAF_mk (retv2 rfl (rv_tmp rfl) (rv_tmp rfl)) rfl rfl ⟨_, (cle_refl _), _, _, h, rfl⟩
  ·replace h := h.2 ((bnot_f q3))
   refine aw_skip ?_
   refine aw_seq ?_
   refine aw_region ?_
   refine run_s (ss_field_ptr rfl) rfl ?_
   refine run_s (ss_load_ptr rfl rfl) rfl ?_
   refine run_s (ss_lenL (f := (fun r => C.lst (ints r))) rfl) rfl ?_
   refine run_s (ss_field_ptr rfl) rfl ?_
   refine run_s (ss_load_ptr rfl rfl) rfl ?_
   obtain ⟨q4, h⟩ := h
   refine run_w (ws_call (xs := [.tmp 10, .tmp 12, .const (.int .i64 (5000))]) (ids := []) rfl rfl rfl rfl (c_spec_l03Group (r.length : Int) r 5000 q4) rfl ?_ )
   rintro _ ⟨r1_0, q5, rfl⟩
   replace h := h r1_0 q5
   refine ⟨rfl, ?_⟩
   refine run_s (ss_assign rfl) rfl ?_
   refine run_nil ?_
   refine aw_seq ?_
   refine aw_seq ?_
   refine aw_gh (gh_to (n := 19) (σ' := []) (env' := [(4, .c (.lst (rows r1_0)))]) rfl rfl ⟨rfl, trivial⟩) ?_
   refine aw_region ?_
   refine run_s (ss_move rfl) rfl ?_
   refine run_s (ss_lenL (f := (fun r => C.lst (ints r))) rfl) rfl ?_
   refine run_s (ss_gtr rfl rfl) rfl ?_
   refine run_nil ?_
   refine aw_cond rfl (fun q6 => ?_) (fun q6 => ?_)
   ·replace h := h.1 (of_decide_eq_true q6)
    refine aw_seq ?_
    refine aw_region ?_
    refine run_s (ss_assign rfl) rfl ?_
    refine run_s (ss_assign rfl) rfl ?_
    refine run_nil ?_
    refine aw_ret ?_
    exact retAF_mk (retv2 rfl (rv_tmp rfl) (rv_tmp rfl)) rfl rfl ⟨_, (cle_refl _), _, _, h, rfl⟩
   ·replace h := h.2 (of_decide_eq_false q6)
    refine aw_skip ?_
    refine aw_seq ?_
    refine aw_region ?_
    refine run_s (ss_move rfl) rfl ?_
    refine run_s (ss_lenL (f := (fun r => C.lst (ints r))) rfl) rfl ?_
    refine run_s (ss_assign rfl) rfl ?_
    refine run_s (ss_assign rfl) rfl ?_
    refine run_nil ?_
    refine aw_ret ?_
    exact retAF_mk (retv2 rfl (rv_tmp rfl) (rv_tmp rfl)) rfl rfl ⟨_, (cle_refl _), _, _, h, rfl⟩

theorem c_spec_InnerOrder (r : List (List Int)) (hp : small2 r) : AF Try.prog 24 [.agg [.lst (rows r)]] (fun R_ => R_ = .tup [ci (InoV r), ci (InoE r)]) :=
  (w_spec_InnerOrder r (fun y0 y1 => y0 = InoV r ∧ y1 = InoE r) (p_spec_InnerOrder r hp)).mono (by rintro r ⟨_, _, ⟨rfl, rfl⟩, rfl⟩; rfl)

section
variable {a b : List (List (List Int))} {f f1 f2 : List Int} {u1 u2 : List Bool} {s s1 s2 : List Int} {x v : Int}
end
section
variable {a b : List (List (List Int))} {f c c' p : List Int}
end
section
variable {n : Int} {l : List (List Int)}
end
end Go.Proofs.Ytggeeemecgmhiaa

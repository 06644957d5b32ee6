/- Contracts of functions that the law FnRackParts reaches: conditions, plain proofs, walks; no condition. -/
import Derived.Test.YtbodlnpmplcaoaaKRackPartsd
namespace Go.Proofs.Ytbodlnpmplcaoaa

set_option maxRecDepth 100000 in
set_option maxHeartbeats 4000000 in
theorem w_spec_l03DrawTable (s1 : List Int) (s2 : Int) (s3 : Int) (most : Int) (Q : List (List Int) → List Int → Int → Int → Prop) (h : wp_spec_l03DrawTable s1 s2 s3 most Q) : AM Try.prog 179 [.obox [.lst (bys s1), ci s2, cu s3], ci most] (fun R_ O_ => ∃ y0 w0 w1 w2, Q y0 w0 w1 w2 ∧ R_ = .own (orows y0) ∧ O_ = [.obox [.lst (bys w0), ci w1, cu w2], ci most]) := by
  refine am_enter (n := 233) (m := 2) Try.func179 rfl (by rfl) rfl rfl (Nat.le_of_ble_eq_true rfl) [800] rfl ?_
  unfold wp_spec_l03DrawTable at h
  refine aw_seq ?_
  refine aw_gh (gh_to (n := 233) (σ' := [(800, ⟨[.lst (bys s1), ci s2, cu s3], []⟩)]) (env' := [(0, .cell 800 0), (1, .c (ci most)), (233, .cell 800 0), (234, .c (ci most))]) rfl rfl ⟨rfl, rfl, rfl, rfl, trivial⟩) ?_
  refine aw_region ?_
  refine run_s (ss_assign rfl) rfl ?_
  refine run_nil ?_
  refine aw_seq ?_
  refine aw_region ?_
  refine run_s (ss_move rfl) rfl ?_
  refine run_s (ss_move rfl) rfl ?_
  obtain ⟨q1, h⟩ := h
  refine run_w (ws_callM (xs := [.tmp 26, .tmp 27]) (cs := [.obox [.lst (bys s1), ci s2, cu s3], ci most]) (ids := []) rfl (.inr ⟨rfl, rfl⟩) rfl rfl rfl (c_spec_l01Next s1 s2 s3 most q1) rfl rfl ?_ )
  rintro _ _ ⟨r1_0, o1_0, o1_1, o1_2, q2, rfl, rfl⟩
  replace h := h r1_0 o1_0 o1_1 o1_2 q2
  refine ⟨rfl, rfl, ?_⟩
  obtain ⟨q3, h⟩ := h
  refine run_s (ss_add rfl rfl q3) rfl ?_
  refine run_s (ss_assign rfl) rfl ?_
  refine run_nil ?_
  refine aw_seq ?_
  refine aw_seq ?_
  refine aw_region ?_
  refine run_s (ss_move rfl) rfl ?_
  obtain ⟨q4, h⟩ := h
  refine run_w (ws_callM (xs := [.tmp 30, .const (.int .i64 (5))]) (cs := [.obox [.lst (bys o1_0), ci o1_1, cu o1_2], ci 5]) (ids := []) rfl (.inr ⟨rfl, rfl⟩) rfl rfl rfl (c_spec_l01Next o1_0 o1_1 o1_2 5 q4) rfl rfl ?_ )
  rintro _ _ ⟨r2_0, o2_0, o2_1, o2_2, q5, rfl, rfl⟩
  replace h := h r2_0 o2_0 o2_1 o2_2 q5
  refine ⟨rfl, rfl, ?_⟩
  refine run_nil ?_
  refine aw_block ?_
  refine aw_seq ?_
  refine aw_region ?_
  refine run_s (ss_eql rfl rfl) rfl ?_
  refine run_s (ss_assign rfl) rfl ?_
  refine run_nil ?_
  refine aw_cond rfl (fun q6 => ?_) (fun q6 => ?_)
  · replace h := h.1 (of_decide_eq_true q6)
    refine aw_seq ?_
    refine aw_gh (gh_to (n := 233) (σ' := [(800, ⟨[.lst (bys o2_0), ci o2_1, cu o2_2], []⟩)]) (env' := [(0, .cell 800 0), (5, .c (ci (1 + r1_0))), (233, .cell 800 0), (234, .c (ci most))]) rfl rfl ⟨rfl, rfl, rfl, rfl, trivial⟩) ?_
    refine aw_region ?_
    refine run_s (ss_move rfl) rfl ?_
    refine run_s (ss_move rfl) rfl ?_
    obtain ⟨q7, h⟩ := h
    refine run_w (ws_callM (xs := [.tmp 34, .tmp 35]) (cs := [.obox [.lst (bys o2_0), ci o2_1, cu o2_2], ci (1 + r1_0)]) (ids := [36]) rfl (.inr ⟨rfl, rfl⟩) rfl rfl rfl (c_spec_l03DrawPerm o2_0 o2_1 o2_2 (1 + r1_0) q7) rfl rfl ?_ )
    rintro _ _ ⟨r3_0, o3_0, o3_1, o3_2, q8, rfl, rfl⟩
    replace h := h r3_0 o3_0 o3_1 o3_2 q8
    refine ⟨rfl, rfl, ?_⟩
    refine run_s (ss_assign rfl) rfl ?_
    refine run_nil ?_
    refine aw_seq ?_
    refine aw_gh (gh_to (n := 233) (σ' := [(36, ⟨ints r3_0, []⟩), (800, ⟨[.lst (bys o3_0), ci o3_1, cu o3_2], []⟩)]) (env' := [(5, .c (ci (1 + r1_0))), (6, .ref 36), (233, .cell 800 0), (234, .c (ci most))]) rfl rfl ⟨rfl, rfl, rfl, rfl, trivial⟩) ?_
    refine aw_region ?_
    refine run_w (ws_buildSlice (id := 37) (ps := []) rfl rfl (Nat.le_of_ble_eq_true rfl) rfl ⟨rfl, ?_⟩)
    refine run_s (ss_assign rfl) rfl ?_
    refine run_nil ?_
    refine aw_seq ?_
    refine aw_seq ?_
    refine aw_region ?_
    refine run_s (ss_assign rfl) rfl ?_
    refine run_nil ?_
    refine aw_block ?_
    obtain ⟨H1, m1, q9, h⟩ := h
    refine aw_loop2 (fun (v8_1 : Int) (o37_1 : List (List Int)) => ⟨[(37, ⟨orows o37_1, []⟩), (36, ⟨ints r3_0, []⟩), (800, ⟨[.lst (bys o3_0), ci o3_1, cu o3_2], []⟩)], [(5, .c (ci (1 + r1_0))), (6, .ref 36), (7, .ref 37), (8, .c (ci v8_1)), (233, .cell 800 0), (234, .c (ci most))], 233⟩) H1 m1 ⟨0, ([] : List (List Int)), ghe_to (n := 233) rfl rfl ⟨rfl, rfl, rfl, rfl, rfl, rfl, trivial⟩, q9⟩ ?_
    rintro v8_1 o37_1 q9
    replace h := h v8_1 o37_1 q9
    refine aw_seq ?_
    refine aw_seq ?_
    refine aw_region ?_
    refine run_s (ss_move rfl) rfl ?_
    refine run_s (ss_move rfl) rfl ?_
    refine run_s (ss_lss rfl rfl) rfl ?_
    refine run_nil ?_
    refine aw_cond rfl (fun q10 => ?_) (fun q10 => ?_)
    · replace h := h.1 (of_decide_eq_true q10)
      refine aw_skip ?_
      refine aw_seq ?_
      refine aw_block ?_
      refine aw_region ?_
      refine run_s (ss_move rfl) rfl ?_
      refine run_s (ss_move rfl) rfl ?_
      obtain ⟨q11, h⟩ := h
      refine run_w (ws_callR (xs := [.tmp 44]) (cs := [.own (ints r3_0)]) (ids := [45]) rfl (.inr ⟨rfl, rfl⟩) rfl rfl (fz_cons (fz_own (fz_map (fun _ => rfl) _)) fz_nil) (c_spec_l01Own r3_0 q11) rfl ?_ )
      rintro _ rfl
      refine ⟨(slf_own (slfL_map (f := ci) (fun _ => rfl) _)), rfl, ?_⟩
      refine run_w (ws_buildSlice (id := 46) (ps := [(0, .tmp 45)]) rfl rfl (Nat.le_of_ble_eq_true rfl) rfl ⟨rfl, ?_⟩)
      refine run_gh (gh_fill (id := 46) (id2 := 45) (j := 0) rfl rfl (Nat.le_of_ble_eq_true rfl) rfl rfl rfl) ?_
      obtain ⟨q13, h⟩ := h
      refine run_w (ws_app1 (fun r => C.own (ints r)) (l := o37_1) (m := [r3_0]) rfl rfl rfl rfl rfl (Nat.le_of_ble_eq_true rfl) q13 ⟨rfl, ?_⟩)
      refine run_s (ss_assign rfl) rfl ?_
      refine run_nil ?_
      refine aw_gh (gh_to (n := 233) (σ' := [(37, ⟨orows (o37_1 ++ ([r3_0])), []⟩), (36, ⟨ints r3_0, []⟩), (800, ⟨[.lst (bys o3_0), ci o3_1, cu o3_2], []⟩)]) (env' := [(5, .c (ci (1 + r1_0))), (6, .ref 36), (7, .ref 37), (8, .c (ci v8_1)), (233, .cell 800 0), (234, .c (ci most))]) rfl rfl ⟨rfl, rfl, rfl, rfl, rfl, rfl, trivial⟩) ?_
      refine aw_region ?_
      refine run_s (ss_move rfl) rfl ?_
      obtain ⟨q14, h⟩ := h
      refine run_s (ss_add rfl rfl q14) rfl ?_
      refine run_s (ss_assign rfl) rfl ?_
      refine run_nil ?_
      exact ⟨v8_1 + 1, o37_1 ++ ([r3_0]), ghe_to (n := 233) rfl rfl ⟨rfl, rfl, rfl, rfl, rfl, rfl, trivial⟩, h.1, h.2⟩
    · replace h := h.2 (of_decide_eq_false q10)
      refine aw_exit ?_
      refine aw_seq ?_
      refine aw_gh (gh_to (n := 233) (σ' := [(37, ⟨orows o37_1, []⟩), (36, ⟨ints r3_0, []⟩), (800, ⟨[.lst (bys o3_0), ci o3_1, cu o3_2], []⟩)]) (env' := [(7, .ref 37), (233, .cell 800 0), (234, .c (ci most))]) rfl rfl ⟨rfl, rfl, rfl, trivial⟩) ?_
      refine aw_region ?_
      refine run_s (ss_move rfl) rfl ?_
      refine run_s (ss_assign rfl) rfl ?_
      refine run_nil ?_
      refine aw_ret ?_
      exact retAM_mk (retv1 rfl (rv_tmp rfl)) rfl rfl rfl ⟨_, _, _, _, h, rfl, rfl⟩
  · replace h := h.2 (of_decide_eq_false q6)
    refine aw_seq ?_
    refine aw_region ?_
    refine run_s (ss_eql rfl rfl) rfl ?_
    refine run_s (ss_assign rfl) rfl ?_
    refine run_nil ?_
    refine aw_cond rfl (fun q15 => ?_) (fun q15 => ?_)
    · replace h := h.1 (of_decide_eq_true q15)
      refine aw_seq ?_
      refine aw_gh (gh_to (n := 233) (σ' := [(800, ⟨[.lst (bys o2_0), ci o2_1, cu o2_2], []⟩)]) (env' := [(4, .c (cnil)), (5, .c (ci (1 + r1_0))), (233, .cell 800 0), (234, .c (ci most))]) rfl rfl ⟨rfl, rfl, rfl, rfl, trivial⟩) ?_
      refine aw_region ?_
      refine run_s (ss_move rfl) rfl ?_
      refine run_s (ss_move rfl) rfl ?_
      obtain ⟨q16, h⟩ := h
      refine run_s (ss_sub rfl rfl q16) rfl ?_
      refine run_s (ss_move rfl) rfl ?_
      obtain ⟨q17, h⟩ := h
      refine run_s (ss_rem rfl rfl q17) rfl ?_
      obtain ⟨q18, h⟩ := h
      refine run_w (ws_call (xs := [.tmp 51, .tmp 53, .tmp 55]) (ids := [56]) rfl rfl rfl rfl (c_spec_l03Alexander (1 + r1_0) ((1 + r1_0) - 1) (2 % (1 + r1_0)) q18) rfl ?_ )
      rintro _ rfl
      refine ⟨rfl, ?_⟩
      refine run_s (ss_assign rfl) rfl ?_
      refine run_nil ?_
      refine aw_ret ?_
      exact retAM_mk (retv1 rfl (rv_tmp rfl)) rfl rfl rfl ⟨_, _, _, _, h, rfl, rfl⟩
    · replace h := h.2 (of_decide_eq_false q15)
      refine aw_seq ?_
      refine aw_gh (gh_to (n := 233) (σ' := [(800, ⟨[.lst (bys o2_0), ci o2_1, cu o2_2], []⟩)]) (env' := [(0, .cell 800 0), (1, .c (ci most)), (5, .c (ci (1 + r1_0))), (31, .c (ci r2_0)), (233, .cell 800 0), (234, .c (ci most))]) rfl rfl ⟨rfl, rfl, rfl, rfl, rfl, rfl, trivial⟩) ?_
      refine aw_region ?_
      refine run_s (ss_eql rfl rfl) rfl ?_
      refine run_s (ss_assign rfl) rfl ?_
      refine run_nil ?_
      refine aw_cond rfl (fun q20 => ?_) (fun q20 => ?_)
      · replace h := h.1 (of_decide_eq_true q20)
        refine aw_seq ?_
        refine aw_region ?_
        refine run_s (ss_assign rfl) rfl ?_
        refine run_nil ?_
        refine aw_block ?_
        obtain ⟨H2, m2, q21, h⟩ := h
        refine aw_loop4 (fun (v9_1 : Int) (f800_0_1 : List Int) (f800_1_1 : Int) (f800_2_1 : Int) => ⟨[(800, ⟨[.lst (bys f800_0_1), ci f800_1_1, cu f800_2_1], []⟩)], [(0, .cell 800 0), (5, .c (ci (1 + r1_0))), (9, .c (ci v9_1)), (233, .cell 800 0), (234, .c (ci most))], 233⟩) H2 m2 ⟨0, o2_0, o2_1, o2_2, ghe_to (n := 233) rfl rfl ⟨rfl, rfl, rfl, rfl, rfl, trivial⟩, q21⟩ ?_
        rintro v9_1 f800_0_1 f800_1_1 f800_2_1 q21
        replace h := h v9_1 f800_0_1 f800_1_1 f800_2_1 q21
        refine aw_seq ?_
        refine aw_seq ?_
        refine aw_region ?_
        refine run_s (ss_move rfl) rfl ?_
        refine run_s (ss_lss rfl rfl) rfl ?_
        refine run_nil ?_
        refine aw_cond rfl (fun q22 => ?_) (fun q22 => ?_)
        · replace h := h.1 (of_decide_eq_true q22)
          refine aw_skip ?_
          refine aw_seq ?_
          refine aw_block ?_
          refine aw_seq ?_
          refine aw_region ?_
          refine run_s (ss_move rfl) rfl ?_
          refine run_s (ss_move rfl) rfl ?_
          obtain ⟨q23, h⟩ := h
          refine run_w (ws_callM (xs := [.tmp 63, .tmp 64]) (cs := [.obox [.lst (bys f800_0_1), ci f800_1_1, cu f800_2_1], ci (1 + r1_0)]) (ids := []) rfl (.inr ⟨rfl, rfl⟩) rfl rfl rfl (c_spec_l01Next f800_0_1 f800_1_1 f800_2_1 (1 + r1_0) q23) rfl rfl ?_ )
          rintro _ _ ⟨r4_0, o4_0, o4_1, o4_2, q24, rfl, rfl⟩
          replace h := h r4_0 o4_0 o4_1 o4_2 q24
          refine ⟨rfl, rfl, ?_⟩
          refine run_s (ss_assign rfl) rfl ?_
          refine run_nil ?_
          refine aw_seq ?_
          refine aw_region ?_
          refine run_s (ss_move rfl) rfl ?_
          refine run_s (ss_move rfl) rfl ?_
          obtain ⟨q25, h⟩ := h
          refine run_w (ws_call (xs := [.tmp 66, .tmp 67]) (ids := []) rfl rfl rfl rfl (c_spec_l03Coprime r4_0 (1 + r1_0) q25) rfl ?_ )
          rintro _ rfl
          refine ⟨rfl, ?_⟩
          refine run_nil ?_
          refine aw_cond rfl (fun q27 => ?_) (fun q27 => ?_)
          · replace h := h.1 (q27)
            refine aw_seq ?_
            refine aw_region ?_
            refine run_s (ss_move rfl) rfl ?_
            refine run_s (ss_move rfl) rfl ?_
            refine run_s (ss_move rfl) rfl ?_
            obtain ⟨q28, h⟩ := h
            refine run_s (ss_sub rfl rfl q28) rfl ?_
            refine run_s (ss_move rfl) rfl ?_
            obtain ⟨q29, h⟩ := h
            refine run_s (ss_add rfl rfl q29) rfl ?_
            refine run_s (ss_move rfl) rfl ?_
            obtain ⟨q30, h⟩ := h
            refine run_s (ss_rem rfl rfl q30) rfl ?_
            obtain ⟨q31, h⟩ := h
            refine run_w (ws_call (xs := [.tmp 69, .tmp 70, .tmp 76]) (ids := [77]) rfl rfl rfl rfl (c_spec_l03Alexander (1 + r1_0) r4_0 (((1 - r4_0) + (1 + r1_0)) % (1 + r1_0)) q31) rfl ?_ )
            rintro _ rfl
            refine ⟨rfl, ?_⟩
            refine run_s (ss_assign rfl) rfl ?_
            refine run_nil ?_
            refine aw_ret ?_
            exact retAM_mk (retv1 rfl (rv_tmp rfl)) rfl rfl rfl ⟨_, _, _, _, h, rfl, rfl⟩
          · replace h := h.2 (q27)
            refine aw_skip ?_
            refine aw_gh (gh_to (n := 233) (σ' := [(800, ⟨[.lst (bys o4_0), ci o4_1, cu o4_2], []⟩)]) (env' := [(0, .cell 800 0), (5, .c (ci (1 + r1_0))), (9, .c (ci v9_1)), (233, .cell 800 0), (234, .c (ci most))]) rfl rfl ⟨rfl, rfl, rfl, rfl, rfl, trivial⟩) ?_
            refine aw_region ?_
            refine run_s (ss_move rfl) rfl ?_
            obtain ⟨q33, h⟩ := h
            refine run_s (ss_add rfl rfl q33) rfl ?_
            refine run_s (ss_assign rfl) rfl ?_
            refine run_nil ?_
            exact ⟨v9_1 + 1, o4_0, o4_1, o4_2, ghe_to (n := 233) rfl rfl ⟨rfl, rfl, rfl, rfl, rfl, trivial⟩, h.1, h.2⟩
        · replace h := h.2 (of_decide_eq_false q22)
          refine aw_exit ?_
          refine aw_seq ?_
          refine aw_region ?_
          refine run_s (ss_move rfl) rfl ?_
          refine run_s (ss_move rfl) rfl ?_
          obtain ⟨q34, h⟩ := h
          refine run_w (ws_callM (xs := [.tmp 137, .tmp 138]) (cs := [.obox [.lst (bys f800_0_1), ci f800_1_1, cu f800_2_1], ci (1 + r1_0)]) (ids := []) rfl (.inr ⟨rfl, rfl⟩) rfl rfl rfl (c_spec_l01Next f800_0_1 f800_1_1 f800_2_1 (1 + r1_0) q34) rfl rfl ?_ )
          rintro _ _ ⟨r5_0, o5_0, o5_1, o5_2, q35, rfl, rfl⟩
          replace h := h r5_0 o5_0 o5_1 o5_2 q35
          refine ⟨rfl, rfl, ?_⟩
          refine run_s (ss_assign rfl) rfl ?_
          refine run_nil ?_
          refine aw_seq ?_
          refine aw_gh (gh_to (n := 233) (σ' := [(800, ⟨[.lst (bys o5_0), ci o5_1, cu o5_2], []⟩)]) (env' := [(0, .cell 800 0), (5, .c (ci (1 + r1_0))), (18, .c (ci r5_0)), (233, .cell 800 0), (234, .c (ci most))]) rfl rfl ⟨rfl, rfl, rfl, rfl, rfl, trivial⟩) ?_
          refine aw_regionD (kd := kdl [0, 0, 0, 0, 0, 0, 0, 0, 2, 0, 0, 0, 0, 0, 0, 0, 2, 0, 0]) (ord := [0, 1, 2, 3, 4, 5, 6, 7, 9, 10, 11, 12, 13, 14, 15, 8, 16, 17, 18]) [] mixed (by kernel_rfl) ?_
          refine rd_s rfl rfl trivial (ss_move rfl) rfl ?_
          refine rd_s rfl rfl trivial (ss_max rfl rfl) rfl ?_
          refine rd_s rfl rfl trivial (ss_move rfl) rfl ?_
          refine rd_s rfl rfl trivial (ss_max rfl rfl) rfl ?_
          obtain ⟨q36, h⟩ := h
          refine rd_s rfl rfl trivial (ss_sub rfl rfl q36) rfl ?_
          refine rd_s rfl rfl trivial (ss_move rfl) rfl ?_
          refine rd_s rfl rfl trivial (ss_max rfl rfl) rfl ?_
          obtain ⟨q37, h⟩ := h
          refine rd_s rfl rfl trivial (ss_rem rfl rfl q37) rfl ?_
          refine rd_s rfl rfl trivial (ss_move rfl) rfl ?_
          refine rd_s rfl rfl trivial (ss_move rfl) rfl ?_
          obtain ⟨q38, h⟩ := h
          refine rd_s rfl rfl trivial (ss_sub rfl rfl q38) rfl ?_
          refine rd_s rfl rfl trivial (ss_move rfl) rfl ?_
          refine rd_s rfl rfl trivial (ss_move rfl) rfl ?_
          obtain ⟨q39, h⟩ := h
          refine rd_s rfl rfl trivial (ss_sub rfl rfl q39) rfl ?_
          obtain ⟨q40, h⟩ := h
          refine rd_s rfl rfl trivial (ss_rem rfl rfl q40) rfl ?_
          obtain ⟨q41, h⟩ := h
          refine rd_w rfl rfl trivial rfl rfl (ws_call (xs := [.tmp 141, .tmp 144, .tmp 147]) (ids := [148]) rfl rfl rfl rfl (c_spec_l03Alexander (if 1 < r5_0 then r5_0 else 1) ((if 1 < r5_0 then r5_0 else 1) - 1) (2 % (if 1 < r5_0 then r5_0 else 1)) q41) rfl ?_ )
          rintro _ rfl
          refine ⟨rfl, ?_⟩
          obtain ⟨q43, h⟩ := h
          refine rd_w rfl rfl trivial rfl rfl (ws_call (xs := [.tmp 151, .tmp 155, .const (.int .i64 (0))]) (ids := [156]) rfl rfl rfl rfl (c_spec_l03Alexander ((1 + r1_0) - r5_0) (1 % ((1 + r1_0) - r5_0)) 0 q43) rfl ?_ )
          rintro _ rfl
          refine ⟨rfl, ?_⟩
          refine rd_s rfl rfl trivial (ss_assign rfl) rfl ?_
          refine rd_s rfl rfl trivial (ss_assign rfl) rfl ?_
          refine rd_nil ?_
          refine aw_seq ?_
          refine aw_seq ?_
          refine aw_gh (gh_to (n := 233) (σ' := [(156, ⟨orows (tab ((1 + r1_0) - r5_0) (fun x_ y_ => ((0 : Int) * x_ + (1 % ((1 + r1_0) - r5_0)) * y_) % ((1 + r1_0) - r5_0))), []⟩), (148, ⟨orows (tab (if 1 < r5_0 then r5_0 else 1) (fun x_ y_ => ((2 % (if 1 < r5_0 then r5_0 else 1)) * x_ + ((if 1 < r5_0 then r5_0 else 1) - 1) * y_) % (if 1 < r5_0 then r5_0 else 1))), []⟩), (800, ⟨[.lst (bys o5_0), ci o5_1, cu o5_2], []⟩)]) (env' := [(0, .cell 800 0), (5, .c (ci (1 + r1_0))), (18, .c (ci r5_0)), (19, .ref 148), (20, .ref 156), (233, .cell 800 0), (234, .c (ci most))]) rfl rfl ⟨rfl, rfl, rfl, rfl, rfl, rfl, rfl, trivial⟩) ?_
          refine aw_region ?_
          refine run_s (ss_move rfl) rfl ?_
          refine run_s (ss_eql rfl rfl) rfl ?_
          refine run_nil ?_
          refine aw_cond rfl (fun q45 => ?_) (fun q45 => ?_)
          · replace h := h.1 (of_decide_eq_true q45)
            refine aw_seq ?_
            refine aw_gh (gh_to (n := 233) (σ' := [(156, ⟨orows (tab ((1 + r1_0) - r5_0) (fun x_ y_ => ((0 : Int) * x_ + (1 % ((1 + r1_0) - r5_0)) * y_) % ((1 + r1_0) - r5_0))), []⟩), (148, ⟨orows (tab (if 1 < r5_0 then r5_0 else 1) (fun x_ y_ => ((2 % (if 1 < r5_0 then r5_0 else 1)) * x_ + ((if 1 < r5_0 then r5_0 else 1) - 1) * y_) % (if 1 < r5_0 then r5_0 else 1))), []⟩), (800, ⟨[.lst (bys o5_0), ci o5_1, cu o5_2], []⟩)]) (env' := [(20, .ref 156), (233, .cell 800 0), (234, .c (ci most))]) rfl rfl ⟨rfl, rfl, rfl, trivial⟩) ?_
            refine aw_region ?_
            refine run_s (ss_move rfl) rfl ?_
            refine run_s (ss_assign rfl) rfl ?_
            refine run_nil ?_
            refine aw_ret ?_
            exact retAM_mk (retv1 rfl (rv_tmp rfl)) rfl rfl rfl ⟨_, _, _, _, h, rfl, rfl⟩
          · replace h := h.2 (of_decide_eq_false q45)
            refine aw_skip ?_
            refine aw_seq ?_
            refine aw_region ?_
            refine run_s (ss_move rfl) rfl ?_
            refine run_s (ss_move rfl) rfl ?_
            refine run_s (ss_move rfl) rfl ?_
            obtain ⟨q46, h⟩ := h
            refine run_s (ss_sub rfl rfl q46) rfl ?_
            obtain ⟨q47, h⟩ := h
            refine run_w (ws_callM (xs := [.tmp 160, .tmp 163]) (cs := [.obox [.lst (bys o5_0), ci o5_1, cu o5_2], ci ((1 + r1_0) - r5_0)]) (ids := [164]) rfl (.inr ⟨rfl, rfl⟩) rfl rfl rfl (c_spec_l03DrawPerm o5_0 o5_1 o5_2 ((1 + r1_0) - r5_0) q47) rfl rfl ?_ )
            rintro _ _ ⟨r6_0, o6_0, o6_1, o6_2, q48, rfl, rfl⟩
            replace h := h r6_0 o6_0 o6_1 o6_2 q48
            refine ⟨rfl, rfl, ?_⟩
            refine run_s (ss_assign rfl) rfl ?_
            refine run_nil ?_
            refine aw_seq ?_
            refine aw_region ?_
            refine run_w (ws_buildSlice (id := 165) (ps := []) rfl rfl (Nat.le_of_ble_eq_true rfl) rfl ⟨rfl, ?_⟩)
            refine run_s (ss_assign rfl) rfl ?_
            refine run_nil ?_
            refine aw_gh (gh_frzE (id := 148) (fun r => C.lst (ints r)) rfl (fun _ => (fz_own (fz_map (fun _ => rfl) _)))) ?_
            refine aw_gh (gh_frzE (id := 156) (fun r => C.lst (ints r)) rfl (fun _ => (fz_own (fz_map (fun _ => rfl) _)))) ?_
            refine aw_seq ?_
            refine aw_seq ?_
            refine aw_gh (gh_to (n := 233) (σ' := [(165, ⟨orows ([] : List (List Int)), []⟩), (164, ⟨ints r6_0, []⟩), (800, ⟨[.lst (bys o6_0), ci o6_1, cu o6_2], []⟩)]) (env' := [(5, .c (ci (1 + r1_0))), (18, .c (ci r5_0)), (19, .c (.lst (rows (tab (if 1 < r5_0 then r5_0 else 1) (fun x_ y_ => ((2 % (if 1 < r5_0 then r5_0 else 1)) * x_ + ((if 1 < r5_0 then r5_0 else 1) - 1) * y_) % (if 1 < r5_0 then r5_0 else 1)))))), (20, .c (.lst (rows (tab ((1 + r1_0) - r5_0) (fun x_ y_ => ((0 : Int) * x_ + (1 % ((1 + r1_0) - r5_0)) * y_) % ((1 + r1_0) - r5_0)))))), (21, .ref 164), (22, .ref 165), (233, .cell 800 0), (234, .c (ci most))]) rfl rfl ⟨rfl, rfl, rfl, rfl, rfl, rfl, rfl, rfl, trivial⟩) ?_
            refine aw_region ?_
            refine run_s (ss_assign rfl) rfl ?_
            refine run_nil ?_
            refine aw_block ?_
            obtain ⟨H3, m3, q49, h⟩ := h
            refine aw_loop2 (fun (v23_2 : Int) (o165_2 : List (List Int)) => ⟨[(165, ⟨orows o165_2, []⟩), (164, ⟨ints r6_0, []⟩), (800, ⟨[.lst (bys o6_0), ci o6_1, cu o6_2], []⟩)], [(5, .c (ci (1 + r1_0))), (18, .c (ci r5_0)), (19, .c (.lst (rows (tab (if 1 < r5_0 then r5_0 else 1) (fun x_ y_ => ((2 % (if 1 < r5_0 then r5_0 else 1)) * x_ + ((if 1 < r5_0 then r5_0 else 1) - 1) * y_) % (if 1 < r5_0 then r5_0 else 1)))))), (20, .c (.lst (rows (tab ((1 + r1_0) - r5_0) (fun x_ y_ => ((0 : Int) * x_ + (1 % ((1 + r1_0) - r5_0)) * y_) % ((1 + r1_0) - r5_0)))))), (21, .ref 164), (22, .ref 165), (23, .c (ci v23_2)), (233, .cell 800 0), (234, .c (ci most))], 233⟩) H3 m3 ⟨0, ([] : List (List Int)), ghe_to (n := 233) rfl rfl ⟨rfl, rfl, rfl, rfl, rfl, rfl, rfl, rfl, rfl, trivial⟩, q49⟩ ?_
            rintro v23_2 o165_2 q49
            replace h := h v23_2 o165_2 q49
            refine aw_seq ?_
            refine aw_seq ?_
            refine aw_region ?_
            refine run_s (ss_move rfl) rfl ?_
            refine run_s (ss_move rfl) rfl ?_
            refine run_s (ss_lss rfl rfl) rfl ?_
            refine run_nil ?_
            refine aw_cond rfl (fun q50 => ?_) (fun q50 => ?_)
            · replace h := h.1 (of_decide_eq_true q50)
              refine aw_skip ?_
              refine aw_seq ?_
              refine aw_block ?_
              refine aw_seq ?_
              refine aw_region ?_
              refine run_w (ws_buildSlice (id := 171) (ps := []) rfl rfl (Nat.le_of_ble_eq_true rfl) rfl ⟨rfl, ?_⟩)
              refine run_s (ss_assign rfl) rfl ?_
              refine run_nil ?_
              refine aw_seq ?_
              refine aw_seq ?_
              refine aw_region ?_
              refine run_s (ss_assign rfl) rfl ?_
              refine run_nil ?_
              refine aw_block ?_
              obtain ⟨H4, m4, q51, h⟩ := h
              refine aw_loop2 (fun (v25_3 : Int) (o171_3 : List Int) => ⟨[(171, ⟨ints o171_3, []⟩), (165, ⟨orows o165_2, []⟩), (164, ⟨ints r6_0, []⟩), (800, ⟨[.lst (bys o6_0), ci o6_1, cu o6_2], []⟩)], [(5, .c (ci (1 + r1_0))), (18, .c (ci r5_0)), (19, .c (.lst (rows (tab (if 1 < r5_0 then r5_0 else 1) (fun x_ y_ => ((2 % (if 1 < r5_0 then r5_0 else 1)) * x_ + ((if 1 < r5_0 then r5_0 else 1) - 1) * y_) % (if 1 < r5_0 then r5_0 else 1)))))), (20, .c (.lst (rows (tab ((1 + r1_0) - r5_0) (fun x_ y_ => ((0 : Int) * x_ + (1 % ((1 + r1_0) - r5_0)) * y_) % ((1 + r1_0) - r5_0)))))), (21, .ref 164), (22, .ref 165), (23, .c (ci v23_2)), (24, .ref 171), (25, .c (ci v25_3)), (233, .cell 800 0), (234, .c (ci most))], 233⟩) H4 m4 ⟨0, ([] : List Int), ghe_to (n := 233) rfl rfl ⟨rfl, rfl, rfl, rfl, rfl, rfl, rfl, rfl, rfl, rfl, rfl, trivial⟩, q51⟩ ?_
              rintro v25_3 o171_3 q51
              replace h := h v25_3 o171_3 q51
              refine aw_seq ?_
              refine aw_seq ?_
              refine aw_region ?_
              refine run_s (ss_move rfl) rfl ?_
              refine run_s (ss_move rfl) rfl ?_
              refine run_s (ss_lss rfl rfl) rfl ?_
              refine run_nil ?_
              refine aw_cond rfl (fun q52 => ?_) (fun q52 => ?_)
              · replace h := h.1 (of_decide_eq_true q52)
                refine aw_skip ?_
                refine aw_seq ?_
                refine aw_block ?_
                refine aw_block ?_
                refine aw_seq ?_
                refine aw_region ?_
                refine run_s (ss_move rfl) rfl ?_
                refine run_s (ss_move rfl) rfl ?_
                refine run_s (ss_lss rfl rfl) rfl ?_
                refine run_s (ss_move rfl) rfl ?_
                refine run_split (s := 185) rfl (fun q53 => ?_) (fun q53 => ?_)
                · replace h := h.1 (of_decide_eq_true q53)
                  refine run_gt rfl rfl q53 ?_
                  refine run_s (ss_move rfl) rfl ?_
                  refine run_gt rfl rfl q53 ?_
                  refine run_s (ss_move rfl) rfl ?_
                  refine run_gt rfl rfl q53 ?_
                  refine run_s (ss_lss rfl rfl) rfl ?_
                  refine run_s (ss_pickT rfl q53 rfl) rfl ?_
                  refine run_s (ss_assign rfl) rfl ?_
                  refine run_nil ?_
                  refine aw_cond rfl (fun q54 => ?_) (fun q54 => ?_)
                  · replace h := h.1 (of_decide_eq_true q54)
                    refine aw_region ?_
                    refine run_s (ss_move rfl) rfl ?_
                    refine run_s (ss_move rfl) rfl ?_
                    refine run_s (ss_move rfl) rfl ?_
                    obtain ⟨q55, h⟩ := h
                    refine run_s (ss_idxL rfl rfl q55) rfl ?_
                    refine run_s (ss_loadL (f := (fun r => C.lst (ints r))) rfl q55) rfl ?_
                    refine run_s (ss_move rfl) rfl ?_
                    obtain ⟨q56, h⟩ := h
                    refine run_s (ss_idxL rfl rfl q56) rfl ?_
                    refine run_s (ss_loadL (f := ci) rfl q56) rfl ?_
                    refine run_w (ws_buildSlice (id := 198) (ps := [(0, .tmp 197)]) rfl rfl (Nat.le_of_ble_eq_true rfl) rfl ⟨rfl, ?_⟩)
                    obtain ⟨q57, h⟩ := h
                    refine run_w (ws_app1 ci (l := o171_3) (m := [el (el (tab (if 1 < r5_0 then r5_0 else 1) (fun x_ y_ => ((2 % (if 1 < r5_0 then r5_0 else 1)) * x_ + ((if 1 < r5_0 then r5_0 else 1) - 1) * y_) % (if 1 < r5_0 then r5_0 else 1))) v23_2) v25_3]) rfl rfl rfl rfl rfl (Nat.le_of_ble_eq_true rfl) q57 ⟨rfl, ?_⟩)
                    refine run_s (ss_assign rfl) rfl ?_
                    refine run_nil ?_
                    refine aw_gh (gh_to (n := 233) (σ' := [(171, ⟨ints (o171_3 ++ ([el (el (tab (if 1 < r5_0 then r5_0 else 1) (fun x_ y_ => ((2 % (if 1 < r5_0 then r5_0 else 1)) * x_ + ((if 1 < r5_0 then r5_0 else 1) - 1) * y_) % (if 1 < r5_0 then r5_0 else 1))) v23_2) v25_3])), []⟩), (165, ⟨orows o165_2, []⟩), (164, ⟨ints r6_0, []⟩), (800, ⟨[.lst (bys o6_0), ci o6_1, cu o6_2], []⟩)]) (env' := [(5, .c (ci (1 + r1_0))), (18, .c (ci r5_0)), (19, .c (.lst (rows (tab (if 1 < r5_0 then r5_0 else 1) (fun x_ y_ => ((2 % (if 1 < r5_0 then r5_0 else 1)) * x_ + ((if 1 < r5_0 then r5_0 else 1) - 1) * y_) % (if 1 < r5_0 then r5_0 else 1)))))), (20, .c (.lst (rows (tab ((1 + r1_0) - r5_0) (fun x_ y_ => ((0 : Int) * x_ + (1 % ((1 + r1_0) - r5_0)) * y_) % ((1 + r1_0) - r5_0)))))), (21, .ref 164), (22, .ref 165), (23, .c (ci v23_2)), (24, .ref 171), (25, .c (ci v25_3)), (186, .c (ci v25_3)), (187, .c (ci r5_0)), (188, .c (cb (decide (v25_3 < r5_0)))), (233, .cell 800 0), (234, .c (ci most))]) rfl rfl ⟨rfl, rfl, rfl, rfl, rfl, rfl, rfl, rfl, rfl, rfl, rfl, rfl, rfl, rfl, trivial⟩) ?_
                    refine aw_region ?_
                    refine run_s (ss_move rfl) rfl ?_
                    obtain ⟨q58, h⟩ := h
                    refine run_s (ss_add rfl rfl q58) rfl ?_
                    refine run_s (ss_assign rfl) rfl ?_
                    refine run_nil ?_
                    exact ⟨v25_3 + 1, o171_3 ++ ([el (el (tab (if 1 < r5_0 then r5_0 else 1) (fun x_ y_ => ((2 % (if 1 < r5_0 then r5_0 else 1)) * x_ + ((if 1 < r5_0 then r5_0 else 1) - 1) * y_) % (if 1 < r5_0 then r5_0 else 1))) v23_2) v25_3]), ghe_to (n := 233) rfl rfl ⟨rfl, rfl, rfl, rfl, rfl, rfl, rfl, rfl, rfl, rfl, rfl, trivial⟩, h.1, h.2⟩
                  · replace h := h.2 (of_decide_eq_false q54)
                    refine aw_seq ?_
                    refine aw_region ?_
                    refine run_s (ss_move rfl) rfl ?_
                    refine run_s (ss_move rfl) rfl ?_
                    refine run_s (ss_geq rfl rfl) rfl ?_
                    refine run_s (ss_move rfl) rfl ?_
                    refine run_split (s := 204) rfl (fun q59 => ?_) (fun q59 => ?_)
                    · replace h := h.1 (of_decide_eq_true q59)
                      refine run_gt rfl rfl q59 ?_
                      refine run_s (ss_move rfl) rfl ?_
                      refine run_gt rfl rfl q59 ?_
                      refine run_s (ss_move rfl) rfl ?_
                      refine run_gt rfl rfl q59 ?_
                      refine run_s (ss_geq rfl rfl) rfl ?_
                      refine run_s (ss_pickT rfl q59 rfl) rfl ?_
                      refine run_s (ss_assign rfl) rfl ?_
                      refine run_nil ?_
                      refine aw_cond rfl (fun q60 => ?_) (fun q60 => ?_)
                      · replace h := h.1 (of_decide_eq_true q60)
                        refine aw_region ?_
                        refine run_s (ss_move rfl) rfl ?_
                        refine run_s (ss_move rfl) rfl ?_
                        refine run_s (ss_move rfl) rfl ?_
                        refine run_s (ss_move rfl) rfl ?_
                        refine run_s (ss_move rfl) rfl ?_
                        refine run_s (ss_move rfl) rfl ?_
                        obtain ⟨q61, h⟩ := h
                        refine run_s (ss_sub rfl rfl q61) rfl ?_
                        obtain ⟨q62, h⟩ := h
                        refine run_s (ss_idxL rfl rfl q62) rfl ?_
                        refine run_s (ss_loadL (f := (fun r => C.lst (ints r))) rfl q62) rfl ?_
                        refine run_s (ss_move rfl) rfl ?_
                        refine run_s (ss_move rfl) rfl ?_
                        obtain ⟨q63, h⟩ := h
                        refine run_s (ss_sub rfl rfl q63) rfl ?_
                        obtain ⟨q64, h⟩ := h
                        refine run_s (ss_idxL rfl rfl q64) rfl ?_
                        refine run_s (ss_loadL (f := ci) rfl q64) rfl ?_
                        obtain ⟨q65, h⟩ := h
                        refine run_s (ss_idxR (f := ci) rfl rfl rfl q65) rfl ?_
                        refine run_s (ss_loadR (f := ci) rfl rfl q65 rfl rfl) rfl ?_
                        obtain ⟨q66, h⟩ := h
                        refine run_s (ss_add rfl rfl q66) rfl ?_
                        refine run_w (ws_buildSlice (id := 226) (ps := [(0, .tmp 225)]) rfl rfl (Nat.le_of_ble_eq_true rfl) rfl ⟨rfl, ?_⟩)
                        obtain ⟨q67, h⟩ := h
                        refine run_w (ws_app1 ci (l := o171_3) (m := [r5_0 + (el r6_0 (el (el (tab ((1 + r1_0) - r5_0) (fun x_ y_ => ((0 : Int) * x_ + (1 % ((1 + r1_0) - r5_0)) * y_) % ((1 + r1_0) - r5_0))) (v23_2 - r5_0)) (v25_3 - r5_0)))]) rfl rfl rfl rfl rfl (Nat.le_of_ble_eq_true rfl) q67 ⟨rfl, ?_⟩)
                        refine run_s (ss_assign rfl) rfl ?_
                        refine run_nil ?_
                        refine aw_gh (gh_to (n := 233) (σ' := [(171, ⟨ints (o171_3 ++ ([r5_0 + (el r6_0 (el (el (tab ((1 + r1_0) - r5_0) (fun x_ y_ => ((0 : Int) * x_ + (1 % ((1 + r1_0) - r5_0)) * y_) % ((1 + r1_0) - r5_0))) (v23_2 - r5_0)) (v25_3 - r5_0)))])), []⟩), (165, ⟨orows o165_2, []⟩), (164, ⟨ints r6_0, []⟩), (800, ⟨[.lst (bys o6_0), ci o6_1, cu o6_2], []⟩)]) (env' := [(5, .c (ci (1 + r1_0))), (18, .c (ci r5_0)), (19, .c (.lst (rows (tab (if 1 < r5_0 then r5_0 else 1) (fun x_ y_ => ((2 % (if 1 < r5_0 then r5_0 else 1)) * x_ + ((if 1 < r5_0 then r5_0 else 1) - 1) * y_) % (if 1 < r5_0 then r5_0 else 1)))))), (20, .c (.lst (rows (tab ((1 + r1_0) - r5_0) (fun x_ y_ => ((0 : Int) * x_ + (1 % ((1 + r1_0) - r5_0)) * y_) % ((1 + r1_0) - r5_0)))))), (21, .ref 164), (22, .ref 165), (23, .c (ci v23_2)), (24, .ref 171), (25, .c (ci v25_3)), (186, .c (ci v25_3)), (187, .c (ci r5_0)), (188, .c (cb (decide (v25_3 < r5_0)))), (205, .c (ci v25_3)), (206, .c (ci r5_0)), (207, .c (cb (decide (r5_0 ≤ v25_3)))), (233, .cell 800 0), (234, .c (ci most))]) rfl rfl ⟨rfl, rfl, rfl, rfl, rfl, rfl, rfl, rfl, rfl, rfl, rfl, rfl, rfl, rfl, rfl, rfl, rfl, trivial⟩) ?_
                        refine aw_region ?_
                        refine run_s (ss_move rfl) rfl ?_
                        obtain ⟨q68, h⟩ := h
                        refine run_s (ss_add rfl rfl q68) rfl ?_
                        refine run_s (ss_assign rfl) rfl ?_
                        refine run_nil ?_
                        exact ⟨v25_3 + 1, o171_3 ++ ([r5_0 + (el r6_0 (el (el (tab ((1 + r1_0) - r5_0) (fun x_ y_ => ((0 : Int) * x_ + (1 % ((1 + r1_0) - r5_0)) * y_) % ((1 + r1_0) - r5_0))) (v23_2 - r5_0)) (v25_3 - r5_0)))]), ghe_to (n := 233) rfl rfl ⟨rfl, rfl, rfl, rfl, rfl, rfl, rfl, rfl, rfl, rfl, rfl, trivial⟩, h.1, h.2⟩
                      · replace h := h.2 (of_decide_eq_false q60)
                        refine aw_gh (gh_to (n := 233) (σ' := [(171, ⟨ints o171_3, []⟩), (165, ⟨orows o165_2, []⟩), (164, ⟨ints r6_0, []⟩), (800, ⟨[.lst (bys o6_0), ci o6_1, cu o6_2], []⟩)]) (env' := [(5, .c (ci (1 + r1_0))), (18, .c (ci r5_0)), (19, .c (.lst (rows (tab (if 1 < r5_0 then r5_0 else 1) (fun x_ y_ => ((2 % (if 1 < r5_0 then r5_0 else 1)) * x_ + ((if 1 < r5_0 then r5_0 else 1) - 1) * y_) % (if 1 < r5_0 then r5_0 else 1)))))), (20, .c (.lst (rows (tab ((1 + r1_0) - r5_0) (fun x_ y_ => ((0 : Int) * x_ + (1 % ((1 + r1_0) - r5_0)) * y_) % ((1 + r1_0) - r5_0)))))), (21, .ref 164), (22, .ref 165), (23, .c (ci v23_2)), (24, .ref 171), (25, .c (ci v25_3)), (186, .c (ci v25_3)), (187, .c (ci r5_0)), (188, .c (cb (decide (v25_3 < r5_0)))), (205, .c (ci v25_3)), (206, .c (ci r5_0)), (207, .c (cb (decide (r5_0 ≤ v25_3)))), (233, .cell 800 0), (234, .c (ci most))]) rfl rfl ⟨rfl, rfl, rfl, rfl, rfl, rfl, rfl, rfl, rfl, rfl, rfl, rfl, rfl, rfl, rfl, rfl, rfl, trivial⟩) ?_
                        refine aw_region ?_
                        refine run_s (ss_move rfl) rfl ?_
                        refine run_s (ss_move rfl) rfl ?_
                        refine run_w (ws_buildSlice (id := 179) (ps := [(0, .tmp 178)]) rfl rfl (Nat.le_of_ble_eq_true rfl) rfl ⟨rfl, ?_⟩)
                        obtain ⟨q69, h⟩ := h
                        refine run_w (ws_app1 ci (l := o171_3) (m := [v25_3]) rfl rfl rfl rfl rfl (Nat.le_of_ble_eq_true rfl) q69 ⟨rfl, ?_⟩)
                        refine run_s (ss_assign rfl) rfl ?_
                        refine run_nil ?_
                        refine aw_gh (gh_to (n := 233) (σ' := [(171, ⟨ints (o171_3 ++ ([v25_3])), []⟩), (165, ⟨orows o165_2, []⟩), (164, ⟨ints r6_0, []⟩), (800, ⟨[.lst (bys o6_0), ci o6_1, cu o6_2], []⟩)]) (env' := [(5, .c (ci (1 + r1_0))), (18, .c (ci r5_0)), (19, .c (.lst (rows (tab (if 1 < r5_0 then r5_0 else 1) (fun x_ y_ => ((2 % (if 1 < r5_0 then r5_0 else 1)) * x_ + ((if 1 < r5_0 then r5_0 else 1) - 1) * y_) % (if 1 < r5_0 then r5_0 else 1)))))), (20, .c (.lst (rows (tab ((1 + r1_0) - r5_0) (fun x_ y_ => ((0 : Int) * x_ + (1 % ((1 + r1_0) - r5_0)) * y_) % ((1 + r1_0) - r5_0)))))), (21, .ref 164), (22, .ref 165), (23, .c (ci v23_2)), (24, .ref 171), (25, .c (ci v25_3)), (186, .c (ci v25_3)), (187, .c (ci r5_0)), (188, .c (cb (decide (v25_3 < r5_0)))), (205, .c (ci v25_3)), (206, .c (ci r5_0)), (207, .c (cb (decide (r5_0 ≤ v25_3)))), (233, .cell 800 0), (234, .c (ci most))]) rfl rfl ⟨rfl, rfl, rfl, rfl, rfl, rfl, rfl, rfl, rfl, rfl, rfl, rfl, rfl, rfl, rfl, rfl, rfl, trivial⟩) ?_
                        refine aw_region ?_
                        refine run_s (ss_move rfl) rfl ?_
                        obtain ⟨q70, h⟩ := h
                        refine run_s (ss_add rfl rfl q70) rfl ?_
                        refine run_s (ss_assign rfl) rfl ?_
                        refine run_nil ?_
                        exact ⟨v25_3 + 1, o171_3 ++ ([v25_3]), ghe_to (n := 233) rfl rfl ⟨rfl, rfl, rfl, rfl, rfl, rfl, rfl, rfl, rfl, rfl, rfl, trivial⟩, h.1, h.2⟩
                    · replace h := h.2 (of_decide_eq_false q59)
                      refine run_gf rfl rfl q59 rfl ?_
                      refine run_gf rfl rfl q59 rfl ?_
                      refine run_gf rfl rfl q59 rfl ?_
                      refine run_s (ss_pickF rfl q59 rfl) rfl ?_
                      refine run_s (ss_assign rfl) rfl ?_
                      refine run_nil ?_
                      refine aw_cond rfl (fun q71 => ?_) (fun q71 => ?_)
                      · cases q71
                      · skip
                        refine aw_gh (gh_to (n := 233) (σ' := [(171, ⟨ints o171_3, []⟩), (165, ⟨orows o165_2, []⟩), (164, ⟨ints r6_0, []⟩), (800, ⟨[.lst (bys o6_0), ci o6_1, cu o6_2], []⟩)]) (env' := [(5, .c (ci (1 + r1_0))), (18, .c (ci r5_0)), (19, .c (.lst (rows (tab (if 1 < r5_0 then r5_0 else 1) (fun x_ y_ => ((2 % (if 1 < r5_0 then r5_0 else 1)) * x_ + ((if 1 < r5_0 then r5_0 else 1) - 1) * y_) % (if 1 < r5_0 then r5_0 else 1)))))), (20, .c (.lst (rows (tab ((1 + r1_0) - r5_0) (fun x_ y_ => ((0 : Int) * x_ + (1 % ((1 + r1_0) - r5_0)) * y_) % ((1 + r1_0) - r5_0)))))), (21, .ref 164), (22, .ref 165), (23, .c (ci v23_2)), (24, .ref 171), (25, .c (ci v25_3)), (186, .c (ci v25_3)), (187, .c (ci r5_0)), (188, .c (cb (decide (v25_3 < r5_0)))), (233, .cell 800 0), (234, .c (ci most))]) rfl rfl ⟨rfl, rfl, rfl, rfl, rfl, rfl, rfl, rfl, rfl, rfl, rfl, rfl, rfl, rfl, trivial⟩) ?_
                        refine aw_region ?_
                        refine run_s (ss_move rfl) rfl ?_
                        refine run_s (ss_move rfl) rfl ?_
                        refine run_w (ws_buildSlice (id := 179) (ps := [(0, .tmp 178)]) rfl rfl (Nat.le_of_ble_eq_true rfl) rfl ⟨rfl, ?_⟩)
                        obtain ⟨q72, h⟩ := h
                        refine run_w (ws_app1 ci (l := o171_3) (m := [v25_3]) rfl rfl rfl rfl rfl (Nat.le_of_ble_eq_true rfl) q72 ⟨rfl, ?_⟩)
                        refine run_s (ss_assign rfl) rfl ?_
                        refine run_nil ?_
                        refine aw_region ?_
                        refine run_s (ss_move rfl) rfl ?_
                        obtain ⟨q73, h⟩ := h
                        refine run_s (ss_add rfl rfl q73) rfl ?_
                        refine run_s (ss_assign rfl) rfl ?_
                        refine run_nil ?_
                        exact ⟨v25_3 + 1, o171_3 ++ ([v25_3]), ghe_to (n := 233) rfl rfl ⟨rfl, rfl, rfl, rfl, rfl, rfl, rfl, rfl, rfl, rfl, rfl, trivial⟩, h.1, h.2⟩
                · replace h := h.2 (of_decide_eq_false q53)
                  refine run_gf rfl rfl q53 rfl ?_
                  refine run_gf rfl rfl q53 rfl ?_
                  refine run_gf rfl rfl q53 rfl ?_
                  refine run_s (ss_pickF rfl q53 rfl) rfl ?_
                  refine run_s (ss_assign rfl) rfl ?_
                  refine run_nil ?_
                  refine aw_cond rfl (fun q74 => ?_) (fun q74 => ?_)
                  · cases q74
                  · skip
                    refine aw_seq ?_
                    refine aw_region ?_
                    refine run_s (ss_move rfl) rfl ?_
                    refine run_s (ss_move rfl) rfl ?_
                    refine run_s (ss_geq rfl rfl) rfl ?_
                    refine run_s (ss_move rfl) rfl ?_
                    refine run_split (s := 204) rfl (fun q75 => ?_) (fun q75 => ?_)
                    · replace h := h.1 (of_decide_eq_true q75)
                      refine run_gt rfl rfl q75 ?_
                      refine run_s (ss_move rfl) rfl ?_
                      refine run_gt rfl rfl q75 ?_
                      refine run_s (ss_move rfl) rfl ?_
                      refine run_gt rfl rfl q75 ?_
                      refine run_s (ss_geq rfl rfl) rfl ?_
                      refine run_s (ss_pickT rfl q75 rfl) rfl ?_
                      refine run_s (ss_assign rfl) rfl ?_
                      refine run_nil ?_
                      refine aw_cond rfl (fun q76 => ?_) (fun q76 => ?_)
                      · replace h := h.1 (of_decide_eq_true q76)
                        refine aw_region ?_
                        refine run_s (ss_move rfl) rfl ?_
                        refine run_s (ss_move rfl) rfl ?_
                        refine run_s (ss_move rfl) rfl ?_
                        refine run_s (ss_move rfl) rfl ?_
                        refine run_s (ss_move rfl) rfl ?_
                        refine run_s (ss_move rfl) rfl ?_
                        obtain ⟨q77, h⟩ := h
                        refine run_s (ss_sub rfl rfl q77) rfl ?_
                        obtain ⟨q78, h⟩ := h
                        refine run_s (ss_idxL rfl rfl q78) rfl ?_
                        refine run_s (ss_loadL (f := (fun r => C.lst (ints r))) rfl q78) rfl ?_
                        refine run_s (ss_move rfl) rfl ?_
                        refine run_s (ss_move rfl) rfl ?_
                        obtain ⟨q79, h⟩ := h
                        refine run_s (ss_sub rfl rfl q79) rfl ?_
                        obtain ⟨q80, h⟩ := h
                        refine run_s (ss_idxL rfl rfl q80) rfl ?_
                        refine run_s (ss_loadL (f := ci) rfl q80) rfl ?_
                        obtain ⟨q81, h⟩ := h
                        refine run_s (ss_idxR (f := ci) rfl rfl rfl q81) rfl ?_
                        refine run_s (ss_loadR (f := ci) rfl rfl q81 rfl rfl) rfl ?_
                        obtain ⟨q82, h⟩ := h
                        refine run_s (ss_add rfl rfl q82) rfl ?_
                        refine run_w (ws_buildSlice (id := 226) (ps := [(0, .tmp 225)]) rfl rfl (Nat.le_of_ble_eq_true rfl) rfl ⟨rfl, ?_⟩)
                        obtain ⟨q83, h⟩ := h
                        refine run_w (ws_app1 ci (l := o171_3) (m := [r5_0 + (el r6_0 (el (el (tab ((1 + r1_0) - r5_0) (fun x_ y_ => ((0 : Int) * x_ + (1 % ((1 + r1_0) - r5_0)) * y_) % ((1 + r1_0) - r5_0))) (v23_2 - r5_0)) (v25_3 - r5_0)))]) rfl rfl rfl rfl rfl (Nat.le_of_ble_eq_true rfl) q83 ⟨rfl, ?_⟩)
                        refine run_s (ss_assign rfl) rfl ?_
                        refine run_nil ?_
                        refine aw_gh (gh_to (n := 233) (σ' := [(171, ⟨ints (o171_3 ++ ([r5_0 + (el r6_0 (el (el (tab ((1 + r1_0) - r5_0) (fun x_ y_ => ((0 : Int) * x_ + (1 % ((1 + r1_0) - r5_0)) * y_) % ((1 + r1_0) - r5_0))) (v23_2 - r5_0)) (v25_3 - r5_0)))])), []⟩), (165, ⟨orows o165_2, []⟩), (164, ⟨ints r6_0, []⟩), (800, ⟨[.lst (bys o6_0), ci o6_1, cu o6_2], []⟩)]) (env' := [(5, .c (ci (1 + r1_0))), (18, .c (ci r5_0)), (19, .c (.lst (rows (tab (if 1 < r5_0 then r5_0 else 1) (fun x_ y_ => ((2 % (if 1 < r5_0 then r5_0 else 1)) * x_ + ((if 1 < r5_0 then r5_0 else 1) - 1) * y_) % (if 1 < r5_0 then r5_0 else 1)))))), (20, .c (.lst (rows (tab ((1 + r1_0) - r5_0) (fun x_ y_ => ((0 : Int) * x_ + (1 % ((1 + r1_0) - r5_0)) * y_) % ((1 + r1_0) - r5_0)))))), (21, .ref 164), (22, .ref 165), (23, .c (ci v23_2)), (24, .ref 171), (25, .c (ci v25_3)), (205, .c (ci v25_3)), (206, .c (ci r5_0)), (207, .c (cb (decide (r5_0 ≤ v25_3)))), (233, .cell 800 0), (234, .c (ci most))]) rfl rfl ⟨rfl, rfl, rfl, rfl, rfl, rfl, rfl, rfl, rfl, rfl, rfl, rfl, rfl, rfl, trivial⟩) ?_
                        refine aw_region ?_
                        refine run_s (ss_move rfl) rfl ?_
                        obtain ⟨q84, h⟩ := h
                        refine run_s (ss_add rfl rfl q84) rfl ?_
                        refine run_s (ss_assign rfl) rfl ?_
                        refine run_nil ?_
                        exact ⟨v25_3 + 1, o171_3 ++ ([r5_0 + (el r6_0 (el (el (tab ((1 + r1_0) - r5_0) (fun x_ y_ => ((0 : Int) * x_ + (1 % ((1 + r1_0) - r5_0)) * y_) % ((1 + r1_0) - r5_0))) (v23_2 - r5_0)) (v25_3 - r5_0)))]), ghe_to (n := 233) rfl rfl ⟨rfl, rfl, rfl, rfl, rfl, rfl, rfl, rfl, rfl, rfl, rfl, trivial⟩, h.1, h.2⟩
                      · replace h := h.2 (of_decide_eq_false q76)
                        refine aw_gh (gh_to (n := 233) (σ' := [(171, ⟨ints o171_3, []⟩), (165, ⟨orows o165_2, []⟩), (164, ⟨ints r6_0, []⟩), (800, ⟨[.lst (bys o6_0), ci o6_1, cu o6_2], []⟩)]) (env' := [(5, .c (ci (1 + r1_0))), (18, .c (ci r5_0)), (19, .c (.lst (rows (tab (if 1 < r5_0 then r5_0 else 1) (fun x_ y_ => ((2 % (if 1 < r5_0 then r5_0 else 1)) * x_ + ((if 1 < r5_0 then r5_0 else 1) - 1) * y_) % (if 1 < r5_0 then r5_0 else 1)))))), (20, .c (.lst (rows (tab ((1 + r1_0) - r5_0) (fun x_ y_ => ((0 : Int) * x_ + (1 % ((1 + r1_0) - r5_0)) * y_) % ((1 + r1_0) - r5_0)))))), (21, .ref 164), (22, .ref 165), (23, .c (ci v23_2)), (24, .ref 171), (25, .c (ci v25_3)), (205, .c (ci v25_3)), (206, .c (ci r5_0)), (207, .c (cb (decide (r5_0 ≤ v25_3)))), (233, .cell 800 0), (234, .c (ci most))]) rfl rfl ⟨rfl, rfl, rfl, rfl, rfl, rfl, rfl, rfl, rfl, rfl, rfl, rfl, rfl, rfl, trivial⟩) ?_
                        refine aw_region ?_
                        refine run_s (ss_move rfl) rfl ?_
                        refine run_s (ss_move rfl) rfl ?_
                        refine run_w (ws_buildSlice (id := 179) (ps := [(0, .tmp 178)]) rfl rfl (Nat.le_of_ble_eq_true rfl) rfl ⟨rfl, ?_⟩)
                        obtain ⟨q85, h⟩ := h
                        refine run_w (ws_app1 ci (l := o171_3) (m := [v25_3]) rfl rfl rfl rfl rfl (Nat.le_of_ble_eq_true rfl) q85 ⟨rfl, ?_⟩)
                        refine run_s (ss_assign rfl) rfl ?_
                        refine run_nil ?_
                        refine aw_region ?_
                        refine run_s (ss_move rfl) rfl ?_
                        obtain ⟨q86, h⟩ := h
                        refine run_s (ss_add rfl rfl q86) rfl ?_
                        refine run_s (ss_assign rfl) rfl ?_
                        refine run_nil ?_
                        exact ⟨v25_3 + 1, o171_3 ++ ([v25_3]), ghe_to (n := 233) rfl rfl ⟨rfl, rfl, rfl, rfl, rfl, rfl, rfl, rfl, rfl, rfl, rfl, trivial⟩, h.1, h.2⟩
                    · replace h := h.2 (of_decide_eq_false q75)
                      refine run_gf rfl rfl q75 rfl ?_
                      refine run_gf rfl rfl q75 rfl ?_
                      refine run_gf rfl rfl q75 rfl ?_
                      refine run_s (ss_pickF rfl q75 rfl) rfl ?_
                      refine run_s (ss_assign rfl) rfl ?_
                      refine run_nil ?_
                      refine aw_cond rfl (fun q87 => ?_) (fun q87 => ?_)
                      · cases q87
                      · skip
                        refine aw_gh (gh_to (n := 233) (σ' := [(171, ⟨ints o171_3, []⟩), (165, ⟨orows o165_2, []⟩), (164, ⟨ints r6_0, []⟩), (800, ⟨[.lst (bys o6_0), ci o6_1, cu o6_2], []⟩)]) (env' := [(5, .c (ci (1 + r1_0))), (18, .c (ci r5_0)), (19, .c (.lst (rows (tab (if 1 < r5_0 then r5_0 else 1) (fun x_ y_ => ((2 % (if 1 < r5_0 then r5_0 else 1)) * x_ + ((if 1 < r5_0 then r5_0 else 1) - 1) * y_) % (if 1 < r5_0 then r5_0 else 1)))))), (20, .c (.lst (rows (tab ((1 + r1_0) - r5_0) (fun x_ y_ => ((0 : Int) * x_ + (1 % ((1 + r1_0) - r5_0)) * y_) % ((1 + r1_0) - r5_0)))))), (21, .ref 164), (22, .ref 165), (23, .c (ci v23_2)), (24, .ref 171), (25, .c (ci v25_3)), (233, .cell 800 0), (234, .c (ci most))]) rfl rfl ⟨rfl, rfl, rfl, rfl, rfl, rfl, rfl, rfl, rfl, rfl, rfl, trivial⟩) ?_
                        refine aw_region ?_
                        refine run_s (ss_move rfl) rfl ?_
                        refine run_s (ss_move rfl) rfl ?_
                        refine run_w (ws_buildSlice (id := 179) (ps := [(0, .tmp 178)]) rfl rfl (Nat.le_of_ble_eq_true rfl) rfl ⟨rfl, ?_⟩)
                        obtain ⟨q88, h⟩ := h
                        refine run_w (ws_app1 ci (l := o171_3) (m := [v25_3]) rfl rfl rfl rfl rfl (Nat.le_of_ble_eq_true rfl) q88 ⟨rfl, ?_⟩)
                        refine run_s (ss_assign rfl) rfl ?_
                        refine run_nil ?_
                        refine aw_region ?_
                        refine run_s (ss_move rfl) rfl ?_
                        obtain ⟨q89, h⟩ := h
                        refine run_s (ss_add rfl rfl q89) rfl ?_
                        refine run_s (ss_assign rfl) rfl ?_
                        refine run_nil ?_
                        exact ⟨v25_3 + 1, o171_3 ++ ([v25_3]), ghe_to (n := 233) rfl rfl ⟨rfl, rfl, rfl, rfl, rfl, rfl, rfl, rfl, rfl, rfl, rfl, trivial⟩, h.1, h.2⟩
              · replace h := h.2 (of_decide_eq_false q52)
                refine aw_exit ?_
                refine aw_region ?_
                refine run_s (ss_move rfl) rfl ?_
                refine run_s (ss_move rfl) rfl ?_
                refine run_w (ws_buildSlice (id := 230) (ps := [(0, .tmp 229)]) rfl rfl (Nat.le_of_ble_eq_true rfl) rfl ⟨rfl, ?_⟩)
                refine run_gh (gh_fill (id := 230) (id2 := 171) (j := 0) rfl rfl (Nat.le_of_ble_eq_true rfl) rfl rfl rfl) ?_
                obtain ⟨q90, h⟩ := h
                refine run_w (ws_app1 (fun r => C.own (ints r)) (l := o165_2) (m := [o171_3]) rfl rfl rfl rfl rfl (Nat.le_of_ble_eq_true rfl) q90 ⟨rfl, ?_⟩)
                refine run_s (ss_assign rfl) rfl ?_
                refine run_nil ?_
                refine aw_gh (gh_to (n := 233) (σ' := [(165, ⟨orows (o165_2 ++ ([o171_3])), []⟩), (164, ⟨ints r6_0, []⟩), (800, ⟨[.lst (bys o6_0), ci o6_1, cu o6_2], []⟩)]) (env' := [(5, .c (ci (1 + r1_0))), (18, .c (ci r5_0)), (19, .c (.lst (rows (tab (if 1 < r5_0 then r5_0 else 1) (fun x_ y_ => ((2 % (if 1 < r5_0 then r5_0 else 1)) * x_ + ((if 1 < r5_0 then r5_0 else 1) - 1) * y_) % (if 1 < r5_0 then r5_0 else 1)))))), (20, .c (.lst (rows (tab ((1 + r1_0) - r5_0) (fun x_ y_ => ((0 : Int) * x_ + (1 % ((1 + r1_0) - r5_0)) * y_) % ((1 + r1_0) - r5_0)))))), (21, .ref 164), (22, .ref 165), (23, .c (ci v23_2)), (233, .cell 800 0), (234, .c (ci most))]) rfl rfl ⟨rfl, rfl, rfl, rfl, rfl, rfl, rfl, rfl, rfl, trivial⟩) ?_
                refine aw_region ?_
                refine run_s (ss_move rfl) rfl ?_
                obtain ⟨q91, h⟩ := h
                refine run_s (ss_add rfl rfl q91) rfl ?_
                refine run_s (ss_assign rfl) rfl ?_
                refine run_nil ?_
                exact ⟨v23_2 + 1, o165_2 ++ ([o171_3]), ghe_to (n := 233) rfl rfl ⟨rfl, rfl, rfl, rfl, rfl, rfl, rfl, rfl, rfl, trivial⟩, h.1, h.2⟩
            · replace h := h.2 (of_decide_eq_false q50)
              refine aw_exit ?_
              refine aw_seq ?_
              refine aw_gh (gh_to (n := 233) (σ' := [(165, ⟨orows o165_2, []⟩), (164, ⟨ints r6_0, []⟩), (800, ⟨[.lst (bys o6_0), ci o6_1, cu o6_2], []⟩)]) (env' := [(22, .ref 165), (233, .cell 800 0), (234, .c (ci most))]) rfl rfl ⟨rfl, rfl, rfl, trivial⟩) ?_
              refine aw_region ?_
              refine run_s (ss_move rfl) rfl ?_
              refine run_s (ss_assign rfl) rfl ?_
              refine run_nil ?_
              refine aw_ret ?_
              exact retAM_mk (retv1 rfl (rv_tmp rfl)) rfl rfl rfl ⟨_, _, _, _, h, rfl, rfl⟩
      · replace h := h.2 (of_decide_eq_false q20)
        refine aw_seq ?_
        refine aw_region ?_
        refine run_s (ss_eql rfl rfl) rfl ?_
        refine run_s (ss_assign rfl) rfl ?_
        refine run_nil ?_
        refine aw_cond rfl (fun q92 => ?_) (fun q92 => ?_)
        · replace h := h.1 (of_decide_eq_true q92)
          refine aw_seq ?_
          refine aw_region ?_
          refine run_s (ss_move rfl) rfl ?_
          refine run_s (ss_geq rfl rfl) rfl ?_
          refine run_nil ?_
          refine aw_cond rfl (fun q93 => ?_) (fun q93 => ?_)
          · replace h := h.1 (of_decide_eq_true q93)
            refine aw_seq ?_
            refine aw_gh (gh_to (n := 233) (σ' := [(800, ⟨[.lst (bys o2_0), ci o2_1, cu o2_2], []⟩)]) (env' := [(0, .cell 800 0), (233, .cell 800 0), (234, .c (ci most))]) rfl rfl ⟨rfl, rfl, rfl, trivial⟩) ?_
            refine aw_region ?_
            obtain ⟨q94, h⟩ := h
            refine run_w (ws_call (xs := [.const (.int .i64 (3))]) (ids := [82]) rfl rfl rfl rfl (c_spec_l01Perms 3 q94) rfl ?_ )
            rintro _ rfl
            refine ⟨rfl, ?_⟩
            refine run_w (ws_buildSlice (id := 83) (ps := []) rfl rfl (Nat.le_of_ble_eq_true rfl) rfl ⟨rfl, ?_⟩)
            refine run_s (ss_assign rfl) rfl ?_
            refine run_s (ss_assign rfl) rfl ?_
            refine run_nil ?_
            refine aw_gh (gh_frzE (id := 82) (fun r => C.lst (ints r)) rfl (fun _ => (fz_own (fz_map (fun _ => rfl) _)))) ?_
            refine aw_seq ?_
            refine aw_seq ?_
            refine aw_region ?_
            refine run_s (ss_move rfl) rfl ?_
            obtain ⟨q96, h⟩ := h
            refine run_w (ws_callM (xs := [.tmp 84, .const (.int .i64 (2))]) (cs := [.obox [.lst (bys o2_0), ci o2_1, cu o2_2], ci 2]) (ids := []) rfl (.inr ⟨rfl, rfl⟩) rfl rfl rfl (c_spec_l01Next o2_0 o2_1 o2_2 2 q96) rfl rfl ?_ )
            rintro _ _ ⟨r7_0, o7_0, o7_1, o7_2, q97, rfl, rfl⟩
            replace h := h r7_0 o7_0 o7_1 o7_2 q97
            refine ⟨rfl, rfl, ?_⟩
            refine run_s (ss_eql rfl rfl) rfl ?_
            refine run_nil ?_
            refine aw_cond rfl (fun q98 => ?_) (fun q98 => ?_)
            · replace h := h.1 (of_decide_eq_true q98)
              refine aw_gh (gh_to (n := 233) (σ' := [(83, ⟨orows ([] : List (List Int)), []⟩), (800, ⟨[.lst (bys o7_0), ci o7_1, cu o7_2], []⟩)]) (env' := [(11, .c (.lst (rows (growL (3 : Int) [])))), (12, .ref 83), (233, .cell 800 0), (234, .c (ci most))]) rfl rfl ⟨rfl, rfl, rfl, rfl, trivial⟩) ?_
              refine aw_region ?_
              refine run_w (ws_buildSlice (id := 87) (ps := [(0, .const (.int .i64 (0))), (1, .const (.int .i64 (2))), (2, .const (.int .i64 (1)))]) rfl rfl (Nat.le_of_ble_eq_true rfl) rfl ⟨rfl, ?_⟩)
              refine run_w (ws_buildSlice (id := 88) (ps := [(0, .const (.int .i64 (1))), (1, .const (.int .i64 (0))), (2, .const (.int .i64 (2)))]) rfl rfl (Nat.le_of_ble_eq_true rfl) rfl ⟨rfl, ?_⟩)
              refine run_w (ws_buildSlice (id := 89) (ps := [(0, .const (.int .i64 (2))), (1, .const (.int .i64 (1))), (2, .const (.int .i64 (0)))]) rfl rfl (Nat.le_of_ble_eq_true rfl) rfl ⟨rfl, ?_⟩)
              refine run_w (ws_buildSlice (id := 90) (ps := [(0, .tmp 87), (1, .tmp 88), (2, .tmp 89)]) rfl rfl (Nat.le_of_ble_eq_true rfl) rfl ⟨rfl, ?_⟩)
              refine run_s (ss_assign rfl) rfl ?_
              refine run_nil ?_
              refine aw_gh (gh_fill (id := 90) (id2 := 87) (j := 0) rfl rfl (Nat.le_of_ble_eq_true rfl) rfl rfl rfl) ?_
              refine aw_gh (gh_fill (id := 90) (id2 := 88) (j := 1) rfl rfl (Nat.le_of_ble_eq_true rfl) rfl rfl rfl) ?_
              refine aw_gh (gh_fill (id := 90) (id2 := 89) (j := 2) rfl rfl (Nat.le_of_ble_eq_true rfl) rfl rfl rfl) ?_
              refine aw_gh (gh_to (n := 233) (σ' := [(90, ⟨orows ([[0, 2, 1], [1, 0, 2], [2, 1, 0]] : List (List Int)), []⟩), (83, ⟨orows ([] : List (List Int)), []⟩), (800, ⟨[.lst (bys o7_0), ci o7_1, cu o7_2], []⟩)]) (env' := [(11, .ref 90), (12, .ref 83), (90, .ref 90), (233, .cell 800 0), (234, .c (ci most))]) rfl rfl ⟨rfl, rfl, rfl, rfl, rfl, trivial⟩) ?_
              refine aw_gh (gh_frzE (id := 90) (fun r => C.lst (ints r)) rfl (fun _ => (fz_own (fz_map (fun _ => rfl) _)))) ?_
              refine aw_seq ?_
              refine aw_seq ?_
              refine aw_region ?_
              refine run_s (ss_assign rfl) rfl ?_
              refine run_nil ?_
              refine aw_block ?_
              obtain ⟨H5, m5, q99, h⟩ := h
              refine aw_loop2 (fun (v13_1 : Int) (o83_1 : List (List Int)) => ⟨[(83, ⟨orows o83_1, []⟩), (800, ⟨[.lst (bys o7_0), ci o7_1, cu o7_2], []⟩)], [(11, .c (.lst (rows ([[0, 2, 1], [1, 0, 2], [2, 1, 0]] : List (List Int))))), (12, .ref 83), (13, .c (ci v13_1)), (233, .cell 800 0), (234, .c (ci most))], 233⟩) H5 m5 ⟨0, ([] : List (List Int)), ghe_to (n := 233) rfl rfl ⟨rfl, rfl, rfl, rfl, rfl, trivial⟩, q99⟩ ?_
              rintro v13_1 o83_1 q99
              replace h := h v13_1 o83_1 q99
              refine aw_seq ?_
              refine aw_seq ?_
              refine aw_region ?_
              refine run_s (ss_move rfl) rfl ?_
              refine run_s (ss_move rfl) rfl ?_
              refine run_s (ss_lenL (f := (fun r => C.lst (ints r))) rfl) rfl ?_
              refine run_s (ss_lss rfl rfl) rfl ?_
              refine run_nil ?_
              refine aw_cond rfl (fun q100 => ?_) (fun q100 => ?_)
              · replace h := h.1 (of_decide_eq_true q100)
                refine aw_skip ?_
                refine aw_seq ?_
                refine aw_block ?_
                refine aw_seq ?_
                refine aw_gh (gh_to (n := 233) (σ' := [(83, ⟨orows o83_1, []⟩), (800, ⟨[.lst (bys o7_0), ci o7_1, cu o7_2], []⟩)]) (env' := [(11, .c (.lst (rows ([[0, 2, 1], [1, 0, 2], [2, 1, 0]] : List (List Int))))), (12, .ref 83), (13, .c (ci v13_1)), (233, .cell 800 0), (234, .c (ci most))]) rfl rfl ⟨rfl, rfl, rfl, rfl, rfl, trivial⟩) ?_
                refine aw_region ?_
                refine run_w (ws_buildSlice (id := 97) (ps := []) rfl rfl (Nat.le_of_ble_eq_true rfl) rfl ⟨rfl, ?_⟩)
                refine run_s (ss_assign rfl) rfl ?_
                refine run_nil ?_
                refine aw_seq ?_
                refine aw_seq ?_
                refine aw_region ?_
                refine run_s (ss_assign rfl) rfl ?_
                refine run_nil ?_
                refine aw_block ?_
                obtain ⟨H6, m6, q101, h⟩ := h
                refine aw_loop2 (fun (v15_2 : Int) (o97_2 : List Int) => ⟨[(97, ⟨ints o97_2, []⟩), (83, ⟨orows o83_1, []⟩), (800, ⟨[.lst (bys o7_0), ci o7_1, cu o7_2], []⟩)], [(11, .c (.lst (rows ([[0, 2, 1], [1, 0, 2], [2, 1, 0]] : List (List Int))))), (12, .ref 83), (13, .c (ci v13_1)), (14, .ref 97), (15, .c (ci v15_2)), (233, .cell 800 0), (234, .c (ci most))], 233⟩) H6 m6 ⟨0, ([] : List Int), ghe_to (n := 233) rfl rfl ⟨rfl, rfl, rfl, rfl, rfl, rfl, rfl, trivial⟩, q101⟩ ?_
                rintro v15_2 o97_2 q101
                replace h := h v15_2 o97_2 q101
                refine aw_seq ?_
                refine aw_seq ?_
                refine aw_region ?_
                refine run_s (ss_move rfl) rfl ?_
                refine run_s (ss_move rfl) rfl ?_
                refine run_s (ss_lenL (f := (fun r => C.lst (ints r))) rfl) rfl ?_
                refine run_s (ss_lss rfl rfl) rfl ?_
                refine run_nil ?_
                refine aw_cond rfl (fun q102 => ?_) (fun q102 => ?_)
                · replace h := h.1 (of_decide_eq_true q102)
                  refine aw_skip ?_
                  refine aw_seq ?_
                  refine aw_block ?_
                  refine aw_seq ?_
                  refine aw_gh (gh_to (n := 233) (σ' := [(97, ⟨ints o97_2, []⟩), (83, ⟨orows o83_1, []⟩), (800, ⟨[.lst (bys o7_0), ci o7_1, cu o7_2], []⟩)]) (env' := [(11, .c (.lst (rows ([[0, 2, 1], [1, 0, 2], [2, 1, 0]] : List (List Int))))), (12, .ref 83), (13, .c (ci v13_1)), (14, .ref 97), (15, .c (ci v15_2)), (233, .cell 800 0), (234, .c (ci most))]) rfl rfl ⟨rfl, rfl, rfl, rfl, rfl, rfl, rfl, trivial⟩) ?_
                  refine aw_regionD (kd := kdl [0, 0, 0, 1, 2, 0, 0, 0, 1, 2, 0, 0, 0, 1, 2, 0]) (ord := [0, 1, 2, 5, 6, 7, 10, 11, 12, 3, 8, 13, 4, 9, 14, 15]) [] mixed (by kernel_rfl) ?_
                  refine rd_s rfl rfl trivial (ss_move rfl) rfl ?_
                  refine rd_s rfl rfl trivial (ss_move rfl) rfl ?_
                  obtain ⟨q103, h⟩ := h
                  refine rd_s rfl rfl trivial (ss_idxL rfl rfl q103) rfl ?_
                  refine rd_s rfl rfl trivial (ss_move rfl) rfl ?_
                  refine rd_s rfl rfl trivial (ss_move rfl) rfl ?_
                  obtain ⟨q104, h⟩ := h
                  refine rd_s rfl rfl trivial (ss_idxL rfl rfl q104) rfl ?_
                  refine rd_s rfl rfl trivial (ss_move rfl) rfl ?_
                  refine rd_s rfl rfl trivial (ss_move rfl) rfl ?_
                  obtain ⟨q105, h⟩ := h
                  refine rd_s rfl rfl trivial (ss_idxL rfl rfl q105) rfl ?_
                  refine rd_l rfl rfl trivial (ss_loadL (f := (fun r => C.lst (ints r))) rfl q103) rfl ?_
                  refine rd_l rfl rfl trivial (ss_loadL (f := (fun r => C.lst (ints r))) rfl q104) rfl ?_
                  refine rd_l rfl rfl trivial (ss_loadL (f := (fun r => C.lst (ints r))) rfl q105) rfl ?_
                  obtain ⟨q106, h⟩ := h
                  refine rd_w rfl rfl trivial rfl rfl (ws_call (xs := [.tmp 107]) (ids := [108]) rfl rfl rfl rfl (c_spec_l01Back (el ([[0, 2, 1], [1, 0, 2], [2, 1, 0]] : List (List Int)) v13_1) q106) rfl ?_ )
                  rintro _ rfl
                  refine ⟨rfl, ?_⟩
                  obtain ⟨q108, h⟩ := h
                  refine rd_w rfl rfl trivial rfl rfl (ws_callR (xs := [.tmp 108, .tmp 112]) (cs := [.own (ints (backI (el ([[0, 2, 1], [1, 0, 2], [2, 1, 0]] : List (List Int)) v13_1))), .lst (ints (el ([[0, 2, 1], [1, 0, 2], [2, 1, 0]] : List (List Int)) v15_2))]) (ids := [113]) rfl (.inr ⟨rfl, rfl⟩) rfl rfl (fz_cons (fz_own (fz_map (fun _ => rfl) _)) (fz_cons rfl fz_nil)) (c_spec_l01Then (backI (el ([[0, 2, 1], [1, 0, 2], [2, 1, 0]] : List (List Int)) v13_1)) (el ([[0, 2, 1], [1, 0, 2], [2, 1, 0]] : List (List Int)) v15_2) q108) rfl ?_ )
                  rintro _ rfl
                  refine ⟨(slf_own (slfL_map (f := ci) (fun _ => rfl) _)), rfl, ?_⟩
                  obtain ⟨q110, h⟩ := h
                  refine rd_w rfl rfl trivial rfl rfl (ws_callR (xs := [.tmp 113, .tmp 117]) (cs := [.own (ints ((backI (el ([[0, 2, 1], [1, 0, 2], [2, 1, 0]] : List (List Int)) v13_1)).map (el (el ([[0, 2, 1], [1, 0, 2], [2, 1, 0]] : List (List Int)) v15_2)))), .lst (ints (el ([[0, 2, 1], [1, 0, 2], [2, 1, 0]] : List (List Int)) v13_1))]) (ids := [118]) rfl (.inr ⟨rfl, rfl⟩) rfl rfl (fz_cons (fz_own (fz_map (fun _ => rfl) _)) (fz_cons rfl fz_nil)) (c_spec_l01Then ((backI (el ([[0, 2, 1], [1, 0, 2], [2, 1, 0]] : List (List Int)) v13_1)).map (el (el ([[0, 2, 1], [1, 0, 2], [2, 1, 0]] : List (List Int)) v15_2))) (el ([[0, 2, 1], [1, 0, 2], [2, 1, 0]] : List (List Int)) v13_1) q110) rfl ?_ )
                  rintro _ rfl
                  refine ⟨(slf_own (slfL_map (f := ci) (fun _ => rfl) _)), rfl, ?_⟩
                  refine rd_s rfl rfl trivial (ss_assign rfl) rfl ?_
                  refine rd_nil ?_
                  refine aw_seq ?_
                  refine aw_gh (gh_to (n := 233) (σ' := [(118, ⟨ints (((backI (el ([[0, 2, 1], [1, 0, 2], [2, 1, 0]] : List (List Int)) v13_1)).map (el (el ([[0, 2, 1], [1, 0, 2], [2, 1, 0]] : List (List Int)) v15_2))).map (el (el ([[0, 2, 1], [1, 0, 2], [2, 1, 0]] : List (List Int)) v13_1))), []⟩), (113, ⟨ints ((backI (el ([[0, 2, 1], [1, 0, 2], [2, 1, 0]] : List (List Int)) v13_1)).map (el (el ([[0, 2, 1], [1, 0, 2], [2, 1, 0]] : List (List Int)) v15_2))), []⟩), (108, ⟨ints (backI (el ([[0, 2, 1], [1, 0, 2], [2, 1, 0]] : List (List Int)) v13_1)), []⟩), (97, ⟨ints o97_2, []⟩), (83, ⟨orows o83_1, []⟩), (800, ⟨[.lst (bys o7_0), ci o7_1, cu o7_2], []⟩)]) (env' := [(11, .c (.lst (rows ([[0, 2, 1], [1, 0, 2], [2, 1, 0]] : List (List Int))))), (12, .ref 83), (13, .c (ci v13_1)), (14, .ref 97), (15, .c (ci v15_2)), (16, .ref 118), (233, .cell 800 0), (234, .c (ci most))]) rfl rfl ⟨rfl, rfl, rfl, rfl, rfl, rfl, rfl, rfl, trivial⟩) ?_
                  refine aw_region ?_
                  refine run_s (ss_assign rfl) rfl ?_
                  refine run_nil ?_
                  refine aw_seq ?_
                  refine aw_block ?_
                  refine aw_gh (gh_frzE (id := 113) ci rfl (fun _ => rfl)) ?_
                  refine aw_gh (gh_frzE (id := 108) ci rfl (fun _ => rfl)) ?_
                  obtain ⟨H7, m7, q112, h⟩ := h
                  refine aw_loop1 (fun (v17_3 : Int) => ⟨[(118, ⟨ints (((backI (el ([[0, 2, 1], [1, 0, 2], [2, 1, 0]] : List (List Int)) v13_1)).map (el (el ([[0, 2, 1], [1, 0, 2], [2, 1, 0]] : List (List Int)) v15_2))).map (el (el ([[0, 2, 1], [1, 0, 2], [2, 1, 0]] : List (List Int)) v13_1))), []⟩), (97, ⟨ints o97_2, []⟩), (83, ⟨orows o83_1, []⟩), (800, ⟨[.lst (bys o7_0), ci o7_1, cu o7_2], []⟩)], [(11, .c (.lst (rows ([[0, 2, 1], [1, 0, 2], [2, 1, 0]] : List (List Int))))), (12, .ref 83), (13, .c (ci v13_1)), (14, .ref 97), (15, .c (ci v15_2)), (16, .ref 118), (17, .c (ci v17_3)), (233, .cell 800 0), (234, .c (ci most))], 233⟩) H7 m7 ⟨0, ghe_to (n := 233) rfl rfl ⟨rfl, rfl, rfl, rfl, rfl, rfl, rfl, rfl, rfl, trivial⟩, q112⟩ ?_
                  rintro v17_3 q112
                  replace h := h v17_3 q112
                  refine aw_seq ?_
                  refine aw_seq ?_
                  refine aw_region ?_
                  refine run_s (ss_move rfl) rfl ?_
                  refine run_s (ss_move rfl) rfl ?_
                  obtain ⟨q113, h⟩ := h
                  refine run_s (ss_idxL rfl rfl q113) rfl ?_
                  refine run_s (ss_loadL (f := (fun r => C.lst (ints r))) rfl q113) rfl ?_
                  refine run_s (ss_move rfl) rfl ?_
                  obtain ⟨q114, h⟩ := h
                  refine run_w (ws_callR (xs := [.tmp 122, .tmp 123]) (cs := [.lst (ints (el ([[0, 2, 1], [1, 0, 2], [2, 1, 0]] : List (List Int)) v17_3)), .own (ints (((backI (el ([[0, 2, 1], [1, 0, 2], [2, 1, 0]] : List (List Int)) v13_1)).map (el (el ([[0, 2, 1], [1, 0, 2], [2, 1, 0]] : List (List Int)) v15_2))).map (el (el ([[0, 2, 1], [1, 0, 2], [2, 1, 0]] : List (List Int)) v13_1))))]) (ids := []) rfl (.inr ⟨rfl, rfl⟩) rfl rfl (fz_cons rfl (fz_cons (fz_own (fz_map (fun _ => rfl) _)) fz_nil)) (c_spec_l01Same (el ([[0, 2, 1], [1, 0, 2], [2, 1, 0]] : List (List Int)) v17_3) (((backI (el ([[0, 2, 1], [1, 0, 2], [2, 1, 0]] : List (List Int)) v13_1)).map (el (el ([[0, 2, 1], [1, 0, 2], [2, 1, 0]] : List (List Int)) v15_2))).map (el (el ([[0, 2, 1], [1, 0, 2], [2, 1, 0]] : List (List Int)) v13_1))) q114) rfl ?_ )
                  rintro _ rfl
                  refine ⟨rfl, rfl, ?_⟩
                  refine run_s (ss_not rfl) rfl ?_
                  refine run_nil ?_
                  refine aw_cond rfl (fun q116 => ?_) (fun q116 => ?_)
                  · replace h := h.1 (of_decide_eq_false (bnot_t q116))
                    refine aw_skip ?_
                    refine aw_block ?_
                    refine aw_gh (gh_to (n := 233) (σ' := [(118, ⟨ints (((backI (el ([[0, 2, 1], [1, 0, 2], [2, 1, 0]] : List (List Int)) v13_1)).map (el (el ([[0, 2, 1], [1, 0, 2], [2, 1, 0]] : List (List Int)) v15_2))).map (el (el ([[0, 2, 1], [1, 0, 2], [2, 1, 0]] : List (List Int)) v13_1))), []⟩), (97, ⟨ints o97_2, []⟩), (83, ⟨orows o83_1, []⟩), (800, ⟨[.lst (bys o7_0), ci o7_1, cu o7_2], []⟩)]) (env' := [(11, .c (.lst (rows ([[0, 2, 1], [1, 0, 2], [2, 1, 0]] : List (List Int))))), (12, .ref 83), (13, .c (ci v13_1)), (14, .ref 97), (15, .c (ci v15_2)), (16, .ref 118), (17, .c (ci v17_3)), (233, .cell 800 0), (234, .c (ci most))]) rfl rfl ⟨rfl, rfl, rfl, rfl, rfl, rfl, rfl, rfl, rfl, trivial⟩) ?_
                    refine aw_region ?_
                    refine run_s (ss_move rfl) rfl ?_
                    obtain ⟨q117, h⟩ := h
                    refine run_s (ss_add rfl rfl q117) rfl ?_
                    refine run_s (ss_assign rfl) rfl ?_
                    refine run_nil ?_
                    exact ⟨v17_3 + 1, ghe_to (n := 233) rfl rfl ⟨rfl, rfl, rfl, rfl, rfl, rfl, rfl, rfl, rfl, trivial⟩, h.1, h.2⟩
                  · replace h := h.2 (of_decide_eq_true (bnot_f q116))
                    refine aw_exit ?_
                    refine aw_gh (gh_to (n := 233) (σ' := [(118, ⟨ints (((backI (el ([[0, 2, 1], [1, 0, 2], [2, 1, 0]] : List (List Int)) v13_1)).map (el (el ([[0, 2, 1], [1, 0, 2], [2, 1, 0]] : List (List Int)) v15_2))).map (el (el ([[0, 2, 1], [1, 0, 2], [2, 1, 0]] : List (List Int)) v13_1))), []⟩), (97, ⟨ints o97_2, []⟩), (83, ⟨orows o83_1, []⟩), (800, ⟨[.lst (bys o7_0), ci o7_1, cu o7_2], []⟩)]) (env' := [(11, .c (.lst (rows ([[0, 2, 1], [1, 0, 2], [2, 1, 0]] : List (List Int))))), (12, .ref 83), (13, .c (ci v13_1)), (14, .ref 97), (15, .c (ci v15_2)), (17, .c (ci v17_3)), (233, .cell 800 0), (234, .c (ci most))]) rfl rfl ⟨rfl, rfl, rfl, rfl, rfl, rfl, rfl, rfl, trivial⟩) ?_
                    refine aw_region ?_
                    refine run_s (ss_move rfl) rfl ?_
                    refine run_s (ss_move rfl) rfl ?_
                    refine run_w (ws_buildSlice (id := 130) (ps := [(0, .tmp 129)]) rfl rfl (Nat.le_of_ble_eq_true rfl) rfl ⟨rfl, ?_⟩)
                    obtain ⟨q118, h⟩ := h
                    refine run_w (ws_app1 ci (l := o97_2) (m := [v17_3]) rfl rfl rfl rfl rfl (Nat.le_of_ble_eq_true rfl) q118 ⟨rfl, ?_⟩)
                    refine run_s (ss_assign rfl) rfl ?_
                    refine run_nil ?_
                    refine aw_gh (gh_to (n := 233) (σ' := [(118, ⟨ints (((backI (el ([[0, 2, 1], [1, 0, 2], [2, 1, 0]] : List (List Int)) v13_1)).map (el (el ([[0, 2, 1], [1, 0, 2], [2, 1, 0]] : List (List Int)) v15_2))).map (el (el ([[0, 2, 1], [1, 0, 2], [2, 1, 0]] : List (List Int)) v13_1))), []⟩), (97, ⟨ints (o97_2 ++ ([v17_3])), []⟩), (83, ⟨orows o83_1, []⟩), (800, ⟨[.lst (bys o7_0), ci o7_1, cu o7_2], []⟩)]) (env' := [(11, .c (.lst (rows ([[0, 2, 1], [1, 0, 2], [2, 1, 0]] : List (List Int))))), (12, .ref 83), (13, .c (ci v13_1)), (14, .ref 97), (15, .c (ci v15_2)), (233, .cell 800 0), (234, .c (ci most))]) rfl rfl ⟨rfl, rfl, rfl, rfl, rfl, rfl, rfl, trivial⟩) ?_
                    refine aw_region ?_
                    refine run_s (ss_move rfl) rfl ?_
                    obtain ⟨q119, h⟩ := h
                    refine run_s (ss_add rfl rfl q119) rfl ?_
                    refine run_s (ss_assign rfl) rfl ?_
                    refine run_nil ?_
                    exact ⟨v15_2 + 1, o97_2 ++ ([v17_3]), ghe_step (gh_frzE (id := 118) ci rfl (fun _ => rfl)) (ghe_to (n := 233) rfl rfl ⟨rfl, rfl, rfl, rfl, rfl, rfl, rfl, trivial⟩), h.1, h.2⟩
                · replace h := h.2 (of_decide_eq_false q102)
                  refine aw_exit ?_
                  refine aw_gh (gh_to (n := 233) (σ' := [(97, ⟨ints o97_2, []⟩), (83, ⟨orows o83_1, []⟩), (800, ⟨[.lst (bys o7_0), ci o7_1, cu o7_2], []⟩)]) (env' := [(11, .c (.lst (rows ([[0, 2, 1], [1, 0, 2], [2, 1, 0]] : List (List Int))))), (12, .ref 83), (13, .c (ci v13_1)), (14, .ref 97), (233, .cell 800 0), (234, .c (ci most))]) rfl rfl ⟨rfl, rfl, rfl, rfl, rfl, rfl, trivial⟩) ?_
                  refine aw_region ?_
                  refine run_s (ss_move rfl) rfl ?_
                  refine run_s (ss_move rfl) rfl ?_
                  refine run_w (ws_buildSlice (id := 134) (ps := [(0, .tmp 133)]) rfl rfl (Nat.le_of_ble_eq_true rfl) rfl ⟨rfl, ?_⟩)
                  refine run_gh (gh_fill (id := 134) (id2 := 97) (j := 0) rfl rfl (Nat.le_of_ble_eq_true rfl) rfl rfl rfl) ?_
                  obtain ⟨q120, h⟩ := h
                  refine run_w (ws_app1 (fun r => C.own (ints r)) (l := o83_1) (m := [o97_2]) rfl rfl rfl rfl rfl (Nat.le_of_ble_eq_true rfl) q120 ⟨rfl, ?_⟩)
                  refine run_s (ss_assign rfl) rfl ?_
                  refine run_nil ?_
                  refine aw_gh (gh_to (n := 233) (σ' := [(83, ⟨orows (o83_1 ++ ([o97_2])), []⟩), (800, ⟨[.lst (bys o7_0), ci o7_1, cu o7_2], []⟩)]) (env' := [(11, .c (.lst (rows ([[0, 2, 1], [1, 0, 2], [2, 1, 0]] : List (List Int))))), (12, .ref 83), (13, .c (ci v13_1)), (233, .cell 800 0), (234, .c (ci most))]) rfl rfl ⟨rfl, rfl, rfl, rfl, rfl, trivial⟩) ?_
                  refine aw_region ?_
                  refine run_s (ss_move rfl) rfl ?_
                  obtain ⟨q121, h⟩ := h
                  refine run_s (ss_add rfl rfl q121) rfl ?_
                  refine run_s (ss_assign rfl) rfl ?_
                  refine run_nil ?_
                  exact ⟨v13_1 + 1, o83_1 ++ ([o97_2]), ghe_to (n := 233) rfl rfl ⟨rfl, rfl, rfl, rfl, rfl, trivial⟩, h.1, h.2⟩
              · replace h := h.2 (of_decide_eq_false q100)
                refine aw_exit ?_
                refine aw_seq ?_
                refine aw_gh (gh_to (n := 233) (σ' := [(83, ⟨orows o83_1, []⟩), (800, ⟨[.lst (bys o7_0), ci o7_1, cu o7_2], []⟩)]) (env' := [(12, .ref 83), (233, .cell 800 0), (234, .c (ci most))]) rfl rfl ⟨rfl, rfl, rfl, trivial⟩) ?_
                refine aw_region ?_
                refine run_s (ss_move rfl) rfl ?_
                refine run_s (ss_assign rfl) rfl ?_
                refine run_nil ?_
                refine aw_ret ?_
                exact retAM_mk (retv1 rfl (rv_tmp rfl)) rfl rfl rfl ⟨_, _, _, _, h, rfl, rfl⟩
            · replace h := h.2 (of_decide_eq_false q98)
              refine aw_skip ?_
              refine aw_seq ?_
              refine aw_seq ?_
              refine aw_gh (gh_to (n := 233) (σ' := [(83, ⟨orows ([] : List (List Int)), []⟩), (800, ⟨[.lst (bys o7_0), ci o7_1, cu o7_2], []⟩)]) (env' := [(11, .c (.lst (rows (growL (3 : Int) [])))), (12, .ref 83), (233, .cell 800 0), (234, .c (ci most))]) rfl rfl ⟨rfl, rfl, rfl, rfl, trivial⟩) ?_
              refine aw_region ?_
              refine run_s (ss_assign rfl) rfl ?_
              refine run_nil ?_
              refine aw_block ?_
              obtain ⟨H8, m8, q122, h⟩ := h
              refine aw_loop2 (fun (v13_1 : Int) (o83_1 : List (List Int)) => ⟨[(83, ⟨orows o83_1, []⟩), (800, ⟨[.lst (bys o7_0), ci o7_1, cu o7_2], []⟩)], [(11, .c (.lst (rows (growL (3 : Int) [])))), (12, .ref 83), (13, .c (ci v13_1)), (233, .cell 800 0), (234, .c (ci most))], 233⟩) H8 m8 ⟨0, ([] : List (List Int)), ghe_to (n := 233) rfl rfl ⟨rfl, rfl, rfl, rfl, rfl, trivial⟩, q122⟩ ?_
              rintro v13_1 o83_1 q122
              replace h := h v13_1 o83_1 q122
              refine aw_seq ?_
              refine aw_seq ?_
              refine aw_region ?_
              refine run_s (ss_move rfl) rfl ?_
              refine run_s (ss_move rfl) rfl ?_
              refine run_s (ss_lenL (f := (fun r => C.lst (ints r))) rfl) rfl ?_
              refine run_s (ss_lss rfl rfl) rfl ?_
              refine run_nil ?_
              refine aw_cond rfl (fun q123 => ?_) (fun q123 => ?_)
              · replace h := h.1 (of_decide_eq_true q123)
                refine aw_skip ?_
                refine aw_seq ?_
                refine aw_block ?_
                refine aw_seq ?_
                refine aw_gh (gh_to (n := 233) (σ' := [(83, ⟨orows o83_1, []⟩), (800, ⟨[.lst (bys o7_0), ci o7_1, cu o7_2], []⟩)]) (env' := [(11, .c (.lst (rows (growL (3 : Int) [])))), (12, .ref 83), (13, .c (ci v13_1)), (233, .cell 800 0), (234, .c (ci most))]) rfl rfl ⟨rfl, rfl, rfl, rfl, rfl, trivial⟩) ?_
                refine aw_region ?_
                refine run_w (ws_buildSlice (id := 97) (ps := []) rfl rfl (Nat.le_of_ble_eq_true rfl) rfl ⟨rfl, ?_⟩)
                refine run_s (ss_assign rfl) rfl ?_
                refine run_nil ?_
                refine aw_seq ?_
                refine aw_seq ?_
                refine aw_region ?_
                refine run_s (ss_assign rfl) rfl ?_
                refine run_nil ?_
                refine aw_block ?_
                obtain ⟨H9, m9, q124, h⟩ := h
                refine aw_loop2 (fun (v15_2 : Int) (o97_2 : List Int) => ⟨[(97, ⟨ints o97_2, []⟩), (83, ⟨orows o83_1, []⟩), (800, ⟨[.lst (bys o7_0), ci o7_1, cu o7_2], []⟩)], [(11, .c (.lst (rows (growL (3 : Int) [])))), (12, .ref 83), (13, .c (ci v13_1)), (14, .ref 97), (15, .c (ci v15_2)), (233, .cell 800 0), (234, .c (ci most))], 233⟩) H9 m9 ⟨0, ([] : List Int), ghe_to (n := 233) rfl rfl ⟨rfl, rfl, rfl, rfl, rfl, rfl, rfl, trivial⟩, q124⟩ ?_
                rintro v15_2 o97_2 q124
                replace h := h v15_2 o97_2 q124
                refine aw_seq ?_
                refine aw_seq ?_
                refine aw_region ?_
                refine run_s (ss_move rfl) rfl ?_
                refine run_s (ss_move rfl) rfl ?_
                refine run_s (ss_lenL (f := (fun r => C.lst (ints r))) rfl) rfl ?_
                refine run_s (ss_lss rfl rfl) rfl ?_
                refine run_nil ?_
                refine aw_cond rfl (fun q125 => ?_) (fun q125 => ?_)
                · replace h := h.1 (of_decide_eq_true q125)
                  refine aw_skip ?_
                  refine aw_seq ?_
                  refine aw_block ?_
                  refine aw_seq ?_
                  refine aw_gh (gh_to (n := 233) (σ' := [(97, ⟨ints o97_2, []⟩), (83, ⟨orows o83_1, []⟩), (800, ⟨[.lst (bys o7_0), ci o7_1, cu o7_2], []⟩)]) (env' := [(11, .c (.lst (rows (growL (3 : Int) [])))), (12, .ref 83), (13, .c (ci v13_1)), (14, .ref 97), (15, .c (ci v15_2)), (233, .cell 800 0), (234, .c (ci most))]) rfl rfl ⟨rfl, rfl, rfl, rfl, rfl, rfl, rfl, trivial⟩) ?_
                  refine aw_regionD (kd := kdl [0, 0, 0, 1, 2, 0, 0, 0, 1, 2, 0, 0, 0, 1, 2, 0]) (ord := [0, 1, 2, 5, 6, 7, 10, 11, 12, 3, 8, 13, 4, 9, 14, 15]) [] mixed (by kernel_rfl) ?_
                  refine rd_s rfl rfl trivial (ss_move rfl) rfl ?_
                  refine rd_s rfl rfl trivial (ss_move rfl) rfl ?_
                  obtain ⟨q126, h⟩ := h
                  refine rd_s rfl rfl trivial (ss_idxL rfl rfl q126) rfl ?_
                  refine rd_s rfl rfl trivial (ss_move rfl) rfl ?_
                  refine rd_s rfl rfl trivial (ss_move rfl) rfl ?_
                  obtain ⟨q127, h⟩ := h
                  refine rd_s rfl rfl trivial (ss_idxL rfl rfl q127) rfl ?_
                  refine rd_s rfl rfl trivial (ss_move rfl) rfl ?_
                  refine rd_s rfl rfl trivial (ss_move rfl) rfl ?_
                  obtain ⟨q128, h⟩ := h
                  refine rd_s rfl rfl trivial (ss_idxL rfl rfl q128) rfl ?_
                  refine rd_l rfl rfl trivial (ss_loadL (f := (fun r => C.lst (ints r))) rfl q126) rfl ?_
                  refine rd_l rfl rfl trivial (ss_loadL (f := (fun r => C.lst (ints r))) rfl q127) rfl ?_
                  refine rd_l rfl rfl trivial (ss_loadL (f := (fun r => C.lst (ints r))) rfl q128) rfl ?_
                  obtain ⟨q129, h⟩ := h
                  refine rd_w rfl rfl trivial rfl rfl (ws_call (xs := [.tmp 107]) (ids := [108]) rfl rfl rfl rfl (c_spec_l01Back (el (growL (3 : Int) []) v13_1) q129) rfl ?_ )
                  rintro _ rfl
                  refine ⟨rfl, ?_⟩
                  obtain ⟨q131, h⟩ := h
                  refine rd_w rfl rfl trivial rfl rfl (ws_callR (xs := [.tmp 108, .tmp 112]) (cs := [.own (ints (backI (el (growL (3 : Int) []) v13_1))), .lst (ints (el (growL (3 : Int) []) v15_2))]) (ids := [113]) rfl (.inr ⟨rfl, rfl⟩) rfl rfl (fz_cons (fz_own (fz_map (fun _ => rfl) _)) (fz_cons rfl fz_nil)) (c_spec_l01Then (backI (el (growL (3 : Int) []) v13_1)) (el (growL (3 : Int) []) v15_2) q131) rfl ?_ )
                  rintro _ rfl
                  refine ⟨(slf_own (slfL_map (f := ci) (fun _ => rfl) _)), rfl, ?_⟩
                  obtain ⟨q133, h⟩ := h
                  refine rd_w rfl rfl trivial rfl rfl (ws_callR (xs := [.tmp 113, .tmp 117]) (cs := [.own (ints ((backI (el (growL (3 : Int) []) v13_1)).map (el (el (growL (3 : Int) []) v15_2)))), .lst (ints (el (growL (3 : Int) []) v13_1))]) (ids := [118]) rfl (.inr ⟨rfl, rfl⟩) rfl rfl (fz_cons (fz_own (fz_map (fun _ => rfl) _)) (fz_cons rfl fz_nil)) (c_spec_l01Then ((backI (el (growL (3 : Int) []) v13_1)).map (el (el (growL (3 : Int) []) v15_2))) (el (growL (3 : Int) []) v13_1) q133) rfl ?_ )
                  rintro _ rfl
                  refine ⟨(slf_own (slfL_map (f := ci) (fun _ => rfl) _)), rfl, ?_⟩
                  refine rd_s rfl rfl trivial (ss_assign rfl) rfl ?_
                  refine rd_nil ?_
                  refine aw_seq ?_
                  refine aw_gh (gh_to (n := 233) (σ' := [(118, ⟨ints (((backI (el (growL (3 : Int) []) v13_1)).map (el (el (growL (3 : Int) []) v15_2))).map (el (el (growL (3 : Int) []) v13_1))), []⟩), (113, ⟨ints ((backI (el (growL (3 : Int) []) v13_1)).map (el (el (growL (3 : Int) []) v15_2))), []⟩), (108, ⟨ints (backI (el (growL (3 : Int) []) v13_1)), []⟩), (97, ⟨ints o97_2, []⟩), (83, ⟨orows o83_1, []⟩), (800, ⟨[.lst (bys o7_0), ci o7_1, cu o7_2], []⟩)]) (env' := [(11, .c (.lst (rows (growL (3 : Int) [])))), (12, .ref 83), (13, .c (ci v13_1)), (14, .ref 97), (15, .c (ci v15_2)), (16, .ref 118), (233, .cell 800 0), (234, .c (ci most))]) rfl rfl ⟨rfl, rfl, rfl, rfl, rfl, rfl, rfl, rfl, trivial⟩) ?_
                  refine aw_region ?_
                  refine run_s (ss_assign rfl) rfl ?_
                  refine run_nil ?_
                  refine aw_seq ?_
                  refine aw_block ?_
                  refine aw_gh (gh_frzE (id := 113) ci rfl (fun _ => rfl)) ?_
                  refine aw_gh (gh_frzE (id := 108) ci rfl (fun _ => rfl)) ?_
                  obtain ⟨H10, m10, q135, h⟩ := h
                  refine aw_loop1 (fun (v17_3 : Int) => ⟨[(118, ⟨ints (((backI (el (growL (3 : Int) []) v13_1)).map (el (el (growL (3 : Int) []) v15_2))).map (el (el (growL (3 : Int) []) v13_1))), []⟩), (97, ⟨ints o97_2, []⟩), (83, ⟨orows o83_1, []⟩), (800, ⟨[.lst (bys o7_0), ci o7_1, cu o7_2], []⟩)], [(11, .c (.lst (rows (growL (3 : Int) [])))), (12, .ref 83), (13, .c (ci v13_1)), (14, .ref 97), (15, .c (ci v15_2)), (16, .ref 118), (17, .c (ci v17_3)), (233, .cell 800 0), (234, .c (ci most))], 233⟩) H10 m10 ⟨0, ghe_to (n := 233) rfl rfl ⟨rfl, rfl, rfl, rfl, rfl, rfl, rfl, rfl, rfl, trivial⟩, q135⟩ ?_
                  rintro v17_3 q135
                  replace h := h v17_3 q135
                  refine aw_seq ?_
                  refine aw_seq ?_
                  refine aw_region ?_
                  refine run_s (ss_move rfl) rfl ?_
                  refine run_s (ss_move rfl) rfl ?_
                  obtain ⟨q136, h⟩ := h
                  refine run_s (ss_idxL rfl rfl q136) rfl ?_
                  refine run_s (ss_loadL (f := (fun r => C.lst (ints r))) rfl q136) rfl ?_
                  refine run_s (ss_move rfl) rfl ?_
                  obtain ⟨q137, h⟩ := h
                  refine run_w (ws_callR (xs := [.tmp 122, .tmp 123]) (cs := [.lst (ints (el (growL (3 : Int) []) v17_3)), .own (ints (((backI (el (growL (3 : Int) []) v13_1)).map (el (el (growL (3 : Int) []) v15_2))).map (el (el (growL (3 : Int) []) v13_1))))]) (ids := []) rfl (.inr ⟨rfl, rfl⟩) rfl rfl (fz_cons rfl (fz_cons (fz_own (fz_map (fun _ => rfl) _)) fz_nil)) (c_spec_l01Same (el (growL (3 : Int) []) v17_3) (((backI (el (growL (3 : Int) []) v13_1)).map (el (el (growL (3 : Int) []) v15_2))).map (el (el (growL (3 : Int) []) v13_1))) q137) rfl ?_ )
                  rintro _ rfl
                  refine ⟨rfl, rfl, ?_⟩
                  refine run_s (ss_not rfl) rfl ?_
                  refine run_nil ?_
                  refine aw_cond rfl (fun q139 => ?_) (fun q139 => ?_)
                  · replace h := h.1 (of_decide_eq_false (bnot_t q139))
                    refine aw_skip ?_
                    refine aw_block ?_
                    refine aw_gh (gh_to (n := 233) (σ' := [(118, ⟨ints (((backI (el (growL (3 : Int) []) v13_1)).map (el (el (growL (3 : Int) []) v15_2))).map (el (el (growL (3 : Int) []) v13_1))), []⟩), (97, ⟨ints o97_2, []⟩), (83, ⟨orows o83_1, []⟩), (800, ⟨[.lst (bys o7_0), ci o7_1, cu o7_2], []⟩)]) (env' := [(11, .c (.lst (rows (growL (3 : Int) [])))), (12, .ref 83), (13, .c (ci v13_1)), (14, .ref 97), (15, .c (ci v15_2)), (16, .ref 118), (17, .c (ci v17_3)), (233, .cell 800 0), (234, .c (ci most))]) rfl rfl ⟨rfl, rfl, rfl, rfl, rfl, rfl, rfl, rfl, rfl, trivial⟩) ?_
                    refine aw_region ?_
                    refine run_s (ss_move rfl) rfl ?_
                    obtain ⟨q140, h⟩ := h
                    refine run_s (ss_add rfl rfl q140) rfl ?_
                    refine run_s (ss_assign rfl) rfl ?_
                    refine run_nil ?_
                    exact ⟨v17_3 + 1, ghe_to (n := 233) rfl rfl ⟨rfl, rfl, rfl, rfl, rfl, rfl, rfl, rfl, rfl, trivial⟩, h.1, h.2⟩
                  · replace h := h.2 (of_decide_eq_true (bnot_f q139))
                    refine aw_exit ?_
                    refine aw_gh (gh_to (n := 233) (σ' := [(118, ⟨ints (((backI (el (growL (3 : Int) []) v13_1)).map (el (el (growL (3 : Int) []) v15_2))).map (el (el (growL (3 : Int) []) v13_1))), []⟩), (97, ⟨ints o97_2, []⟩), (83, ⟨orows o83_1, []⟩), (800, ⟨[.lst (bys o7_0), ci o7_1, cu o7_2], []⟩)]) (env' := [(11, .c (.lst (rows (growL (3 : Int) [])))), (12, .ref 83), (13, .c (ci v13_1)), (14, .ref 97), (15, .c (ci v15_2)), (17, .c (ci v17_3)), (233, .cell 800 0), (234, .c (ci most))]) rfl rfl ⟨rfl, rfl, rfl, rfl, rfl, rfl, rfl, rfl, trivial⟩) ?_
                    refine aw_region ?_
                    refine run_s (ss_move rfl) rfl ?_
                    refine run_s (ss_move rfl) rfl ?_
                    refine run_w (ws_buildSlice (id := 130) (ps := [(0, .tmp 129)]) rfl rfl (Nat.le_of_ble_eq_true rfl) rfl ⟨rfl, ?_⟩)
                    obtain ⟨q141, h⟩ := h
                    refine run_w (ws_app1 ci (l := o97_2) (m := [v17_3]) rfl rfl rfl rfl rfl (Nat.le_of_ble_eq_true rfl) q141 ⟨rfl, ?_⟩)
                    refine run_s (ss_assign rfl) rfl ?_
                    refine run_nil ?_
                    refine aw_gh (gh_to (n := 233) (σ' := [(118, ⟨ints (((backI (el (growL (3 : Int) []) v13_1)).map (el (el (growL (3 : Int) []) v15_2))).map (el (el (growL (3 : Int) []) v13_1))), []⟩), (97, ⟨ints (o97_2 ++ ([v17_3])), []⟩), (83, ⟨orows o83_1, []⟩), (800, ⟨[.lst (bys o7_0), ci o7_1, cu o7_2], []⟩)]) (env' := [(11, .c (.lst (rows (growL (3 : Int) [])))), (12, .ref 83), (13, .c (ci v13_1)), (14, .ref 97), (15, .c (ci v15_2)), (233, .cell 800 0), (234, .c (ci most))]) rfl rfl ⟨rfl, rfl, rfl, rfl, rfl, rfl, rfl, trivial⟩) ?_
                    refine aw_region ?_
                    refine run_s (ss_move rfl) rfl ?_
                    obtain ⟨q142, h⟩ := h
                    refine run_s (ss_add rfl rfl q142) rfl ?_
                    refine run_s (ss_assign rfl) rfl ?_
                    refine run_nil ?_
                    exact ⟨v15_2 + 1, o97_2 ++ ([v17_3]), ghe_step (gh_frzE (id := 118) ci rfl (fun _ => rfl)) (ghe_to (n := 233) rfl rfl ⟨rfl, rfl, rfl, rfl, rfl, rfl, rfl, trivial⟩), h.1, h.2⟩
                · replace h := h.2 (of_decide_eq_false q125)
                  refine aw_exit ?_
                  refine aw_gh (gh_to (n := 233) (σ' := [(97, ⟨ints o97_2, []⟩), (83, ⟨orows o83_1, []⟩), (800, ⟨[.lst (bys o7_0), ci o7_1, cu o7_2], []⟩)]) (env' := [(11, .c (.lst (rows (growL (3 : Int) [])))), (12, .ref 83), (13, .c (ci v13_1)), (14, .ref 97), (233, .cell 800 0), (234, .c (ci most))]) rfl rfl ⟨rfl, rfl, rfl, rfl, rfl, rfl, trivial⟩) ?_
                  refine aw_region ?_
                  refine run_s (ss_move rfl) rfl ?_
                  refine run_s (ss_move rfl) rfl ?_
                  refine run_w (ws_buildSlice (id := 134) (ps := [(0, .tmp 133)]) rfl rfl (Nat.le_of_ble_eq_true rfl) rfl ⟨rfl, ?_⟩)
                  refine run_gh (gh_fill (id := 134) (id2 := 97) (j := 0) rfl rfl (Nat.le_of_ble_eq_true rfl) rfl rfl rfl) ?_
                  obtain ⟨q143, h⟩ := h
                  refine run_w (ws_app1 (fun r => C.own (ints r)) (l := o83_1) (m := [o97_2]) rfl rfl rfl rfl rfl (Nat.le_of_ble_eq_true rfl) q143 ⟨rfl, ?_⟩)
                  refine run_s (ss_assign rfl) rfl ?_
                  refine run_nil ?_
                  refine aw_gh (gh_to (n := 233) (σ' := [(83, ⟨orows (o83_1 ++ ([o97_2])), []⟩), (800, ⟨[.lst (bys o7_0), ci o7_1, cu o7_2], []⟩)]) (env' := [(11, .c (.lst (rows (growL (3 : Int) [])))), (12, .ref 83), (13, .c (ci v13_1)), (233, .cell 800 0), (234, .c (ci most))]) rfl rfl ⟨rfl, rfl, rfl, rfl, rfl, trivial⟩) ?_
                  refine aw_region ?_
                  refine run_s (ss_move rfl) rfl ?_
                  obtain ⟨q144, h⟩ := h
                  refine run_s (ss_add rfl rfl q144) rfl ?_
                  refine run_s (ss_assign rfl) rfl ?_
                  refine run_nil ?_
                  exact ⟨v13_1 + 1, o83_1 ++ ([o97_2]), ghe_to (n := 233) rfl rfl ⟨rfl, rfl, rfl, rfl, rfl, trivial⟩, h.1, h.2⟩
              · replace h := h.2 (of_decide_eq_false q123)
                refine aw_exit ?_
                refine aw_seq ?_
                refine aw_gh (gh_to (n := 233) (σ' := [(83, ⟨orows o83_1, []⟩), (800, ⟨[.lst (bys o7_0), ci o7_1, cu o7_2], []⟩)]) (env' := [(12, .ref 83), (233, .cell 800 0), (234, .c (ci most))]) rfl rfl ⟨rfl, rfl, rfl, trivial⟩) ?_
                refine aw_region ?_
                refine run_s (ss_move rfl) rfl ?_
                refine run_s (ss_assign rfl) rfl ?_
                refine run_nil ?_
                refine aw_ret ?_
                exact retAM_mk (retv1 rfl (rv_tmp rfl)) rfl rfl rfl ⟨_, _, _, _, h, rfl, rfl⟩
          · replace h := h.2 (of_decide_eq_false q93)
            refine aw_skip ?_
            refine aw_seq ?_
            refine aw_region ?_
            refine run_s (ss_move rfl) rfl ?_
            refine run_s (ss_move rfl) rfl ?_
            obtain ⟨q145, h⟩ := h
            refine run_w (ws_callM (xs := [.tmp 137, .tmp 138]) (cs := [.obox [.lst (bys o2_0), ci o2_1, cu o2_2], ci (1 + r1_0)]) (ids := []) rfl (.inr ⟨rfl, rfl⟩) rfl rfl rfl (c_spec_l01Next o2_0 o2_1 o2_2 (1 + r1_0) q145) rfl rfl ?_ )
            rintro _ _ ⟨r8_0, o8_0, o8_1, o8_2, q146, rfl, rfl⟩
            replace h := h r8_0 o8_0 o8_1 o8_2 q146
            refine ⟨rfl, rfl, ?_⟩
            refine run_s (ss_assign rfl) rfl ?_
            refine run_nil ?_
            refine aw_seq ?_
            refine aw_gh (gh_to (n := 233) (σ' := [(800, ⟨[.lst (bys o8_0), ci o8_1, cu o8_2], []⟩)]) (env' := [(0, .cell 800 0), (5, .c (ci (1 + r1_0))), (18, .c (ci r8_0)), (233, .cell 800 0), (234, .c (ci most))]) rfl rfl ⟨rfl, rfl, rfl, rfl, rfl, trivial⟩) ?_
            refine aw_regionD (kd := kdl [0, 0, 0, 0, 0, 0, 0, 0, 2, 0, 0, 0, 0, 0, 0, 0, 2, 0, 0]) (ord := [0, 1, 2, 3, 4, 5, 6, 7, 9, 10, 11, 12, 13, 14, 15, 8, 16, 17, 18]) [] mixed (by kernel_rfl) ?_
            refine rd_s rfl rfl trivial (ss_move rfl) rfl ?_
            refine rd_s rfl rfl trivial (ss_max rfl rfl) rfl ?_
            refine rd_s rfl rfl trivial (ss_move rfl) rfl ?_
            refine rd_s rfl rfl trivial (ss_max rfl rfl) rfl ?_
            obtain ⟨q147, h⟩ := h
            refine rd_s rfl rfl trivial (ss_sub rfl rfl q147) rfl ?_
            refine rd_s rfl rfl trivial (ss_move rfl) rfl ?_
            refine rd_s rfl rfl trivial (ss_max rfl rfl) rfl ?_
            obtain ⟨q148, h⟩ := h
            refine rd_s rfl rfl trivial (ss_rem rfl rfl q148) rfl ?_
            refine rd_s rfl rfl trivial (ss_move rfl) rfl ?_
            refine rd_s rfl rfl trivial (ss_move rfl) rfl ?_
            obtain ⟨q149, h⟩ := h
            refine rd_s rfl rfl trivial (ss_sub rfl rfl q149) rfl ?_
            refine rd_s rfl rfl trivial (ss_move rfl) rfl ?_
            refine rd_s rfl rfl trivial (ss_move rfl) rfl ?_
            obtain ⟨q150, h⟩ := h
            refine rd_s rfl rfl trivial (ss_sub rfl rfl q150) rfl ?_
            obtain ⟨q151, h⟩ := h
            refine rd_s rfl rfl trivial (ss_rem rfl rfl q151) rfl ?_
            obtain ⟨q152, h⟩ := h
            refine rd_w rfl rfl trivial rfl rfl (ws_call (xs := [.tmp 141, .tmp 144, .tmp 147]) (ids := [148]) rfl rfl rfl rfl (c_spec_l03Alexander (if 1 < r8_0 then r8_0 else 1) ((if 1 < r8_0 then r8_0 else 1) - 1) (2 % (if 1 < r8_0 then r8_0 else 1)) q152) rfl ?_ )
            rintro _ rfl
            refine ⟨rfl, ?_⟩
            obtain ⟨q154, h⟩ := h
            refine rd_w rfl rfl trivial rfl rfl (ws_call (xs := [.tmp 151, .tmp 155, .const (.int .i64 (0))]) (ids := [156]) rfl rfl rfl rfl (c_spec_l03Alexander ((1 + r1_0) - r8_0) (1 % ((1 + r1_0) - r8_0)) 0 q154) rfl ?_ )
            rintro _ rfl
            refine ⟨rfl, ?_⟩
            refine rd_s rfl rfl trivial (ss_assign rfl) rfl ?_
            refine rd_s rfl rfl trivial (ss_assign rfl) rfl ?_
            refine rd_nil ?_
            refine aw_seq ?_
            refine aw_seq ?_
            refine aw_gh (gh_to (n := 233) (σ' := [(156, ⟨orows (tab ((1 + r1_0) - r8_0) (fun x_ y_ => ((0 : Int) * x_ + (1 % ((1 + r1_0) - r8_0)) * y_) % ((1 + r1_0) - r8_0))), []⟩), (148, ⟨orows (tab (if 1 < r8_0 then r8_0 else 1) (fun x_ y_ => ((2 % (if 1 < r8_0 then r8_0 else 1)) * x_ + ((if 1 < r8_0 then r8_0 else 1) - 1) * y_) % (if 1 < r8_0 then r8_0 else 1))), []⟩), (800, ⟨[.lst (bys o8_0), ci o8_1, cu o8_2], []⟩)]) (env' := [(0, .cell 800 0), (5, .c (ci (1 + r1_0))), (18, .c (ci r8_0)), (19, .ref 148), (20, .ref 156), (233, .cell 800 0), (234, .c (ci most))]) rfl rfl ⟨rfl, rfl, rfl, rfl, rfl, rfl, rfl, trivial⟩) ?_
            refine aw_region ?_
            refine run_s (ss_move rfl) rfl ?_
            refine run_s (ss_eql rfl rfl) rfl ?_
            refine run_nil ?_
            refine aw_cond rfl (fun q156 => ?_) (fun q156 => ?_)
            · replace h := h.1 (of_decide_eq_true q156)
              refine aw_seq ?_
              refine aw_gh (gh_to (n := 233) (σ' := [(156, ⟨orows (tab ((1 + r1_0) - r8_0) (fun x_ y_ => ((0 : Int) * x_ + (1 % ((1 + r1_0) - r8_0)) * y_) % ((1 + r1_0) - r8_0))), []⟩), (148, ⟨orows (tab (if 1 < r8_0 then r8_0 else 1) (fun x_ y_ => ((2 % (if 1 < r8_0 then r8_0 else 1)) * x_ + ((if 1 < r8_0 then r8_0 else 1) - 1) * y_) % (if 1 < r8_0 then r8_0 else 1))), []⟩), (800, ⟨[.lst (bys o8_0), ci o8_1, cu o8_2], []⟩)]) (env' := [(20, .ref 156), (233, .cell 800 0), (234, .c (ci most))]) rfl rfl ⟨rfl, rfl, rfl, trivial⟩) ?_
              refine aw_region ?_
              refine run_s (ss_move rfl) rfl ?_
              refine run_s (ss_assign rfl) rfl ?_
              refine run_nil ?_
              refine aw_ret ?_
              exact retAM_mk (retv1 rfl (rv_tmp rfl)) rfl rfl rfl ⟨_, _, _, _, h, rfl, rfl⟩
            · replace h := h.2 (of_decide_eq_false q156)
              refine aw_skip ?_
              refine aw_seq ?_
              refine aw_region ?_
              refine run_s (ss_move rfl) rfl ?_
              refine run_s (ss_move rfl) rfl ?_
              refine run_s (ss_move rfl) rfl ?_
              obtain ⟨q157, h⟩ := h
              refine run_s (ss_sub rfl rfl q157) rfl ?_
              obtain ⟨q158, h⟩ := h
              refine run_w (ws_callM (xs := [.tmp 160, .tmp 163]) (cs := [.obox [.lst (bys o8_0), ci o8_1, cu o8_2], ci ((1 + r1_0) - r8_0)]) (ids := [164]) rfl (.inr ⟨rfl, rfl⟩) rfl rfl rfl (c_spec_l03DrawPerm o8_0 o8_1 o8_2 ((1 + r1_0) - r8_0) q158) rfl rfl ?_ )
              rintro _ _ ⟨r9_0, o9_0, o9_1, o9_2, q159, rfl, rfl⟩
              replace h := h r9_0 o9_0 o9_1 o9_2 q159
              refine ⟨rfl, rfl, ?_⟩
              refine run_s (ss_assign rfl) rfl ?_
              refine run_nil ?_
              refine aw_seq ?_
              refine aw_region ?_
              refine run_w (ws_buildSlice (id := 165) (ps := []) rfl rfl (Nat.le_of_ble_eq_true rfl) rfl ⟨rfl, ?_⟩)
              refine run_s (ss_assign rfl) rfl ?_
              refine run_nil ?_
              refine aw_gh (gh_frzE (id := 148) (fun r => C.lst (ints r)) rfl (fun _ => (fz_own (fz_map (fun _ => rfl) _)))) ?_
              refine aw_gh (gh_frzE (id := 156) (fun r => C.lst (ints r)) rfl (fun _ => (fz_own (fz_map (fun _ => rfl) _)))) ?_
              refine aw_seq ?_
              refine aw_seq ?_
              refine aw_gh (gh_to (n := 233) (σ' := [(165, ⟨orows ([] : List (List Int)), []⟩), (164, ⟨ints r9_0, []⟩), (800, ⟨[.lst (bys o9_0), ci o9_1, cu o9_2], []⟩)]) (env' := [(5, .c (ci (1 + r1_0))), (18, .c (ci r8_0)), (19, .c (.lst (rows (tab (if 1 < r8_0 then r8_0 else 1) (fun x_ y_ => ((2 % (if 1 < r8_0 then r8_0 else 1)) * x_ + ((if 1 < r8_0 then r8_0 else 1) - 1) * y_) % (if 1 < r8_0 then r8_0 else 1)))))), (20, .c (.lst (rows (tab ((1 + r1_0) - r8_0) (fun x_ y_ => ((0 : Int) * x_ + (1 % ((1 + r1_0) - r8_0)) * y_) % ((1 + r1_0) - r8_0)))))), (21, .ref 164), (22, .ref 165), (233, .cell 800 0), (234, .c (ci most))]) rfl rfl ⟨rfl, rfl, rfl, rfl, rfl, rfl, rfl, rfl, trivial⟩) ?_
              refine aw_region ?_
              refine run_s (ss_assign rfl) rfl ?_
              refine run_nil ?_
              refine aw_block ?_
              obtain ⟨H11, m11, q160, h⟩ := h
              refine aw_loop2 (fun (v23_1 : Int) (o165_1 : List (List Int)) => ⟨[(165, ⟨orows o165_1, []⟩), (164, ⟨ints r9_0, []⟩), (800, ⟨[.lst (bys o9_0), ci o9_1, cu o9_2], []⟩)], [(5, .c (ci (1 + r1_0))), (18, .c (ci r8_0)), (19, .c (.lst (rows (tab (if 1 < r8_0 then r8_0 else 1) (fun x_ y_ => ((2 % (if 1 < r8_0 then r8_0 else 1)) * x_ + ((if 1 < r8_0 then r8_0 else 1) - 1) * y_) % (if 1 < r8_0 then r8_0 else 1)))))), (20, .c (.lst (rows (tab ((1 + r1_0) - r8_0) (fun x_ y_ => ((0 : Int) * x_ + (1 % ((1 + r1_0) - r8_0)) * y_) % ((1 + r1_0) - r8_0)))))), (21, .ref 164), (22, .ref 165), (23, .c (ci v23_1)), (233, .cell 800 0), (234, .c (ci most))], 233⟩) H11 m11 ⟨0, ([] : List (List Int)), ghe_to (n := 233) rfl rfl ⟨rfl, rfl, rfl, rfl, rfl, rfl, rfl, rfl, rfl, trivial⟩, q160⟩ ?_
              rintro v23_1 o165_1 q160
              replace h := h v23_1 o165_1 q160
              refine aw_seq ?_
              refine aw_seq ?_
              refine aw_region ?_
              refine run_s (ss_move rfl) rfl ?_
              refine run_s (ss_move rfl) rfl ?_
              refine run_s (ss_lss rfl rfl) rfl ?_
              refine run_nil ?_
              refine aw_cond rfl (fun q161 => ?_) (fun q161 => ?_)
              · replace h := h.1 (of_decide_eq_true q161)
                refine aw_skip ?_
                refine aw_seq ?_
                refine aw_block ?_
                refine aw_seq ?_
                refine aw_region ?_
                refine run_w (ws_buildSlice (id := 171) (ps := []) rfl rfl (Nat.le_of_ble_eq_true rfl) rfl ⟨rfl, ?_⟩)
                refine run_s (ss_assign rfl) rfl ?_
                refine run_nil ?_
                refine aw_seq ?_
                refine aw_seq ?_
                refine aw_region ?_
                refine run_s (ss_assign rfl) rfl ?_
                refine run_nil ?_
                refine aw_block ?_
                obtain ⟨H12, m12, q162, h⟩ := h
                refine aw_loop2 (fun (v25_2 : Int) (o171_2 : List Int) => ⟨[(171, ⟨ints o171_2, []⟩), (165, ⟨orows o165_1, []⟩), (164, ⟨ints r9_0, []⟩), (800, ⟨[.lst (bys o9_0), ci o9_1, cu o9_2], []⟩)], [(5, .c (ci (1 + r1_0))), (18, .c (ci r8_0)), (19, .c (.lst (rows (tab (if 1 < r8_0 then r8_0 else 1) (fun x_ y_ => ((2 % (if 1 < r8_0 then r8_0 else 1)) * x_ + ((if 1 < r8_0 then r8_0 else 1) - 1) * y_) % (if 1 < r8_0 then r8_0 else 1)))))), (20, .c (.lst (rows (tab ((1 + r1_0) - r8_0) (fun x_ y_ => ((0 : Int) * x_ + (1 % ((1 + r1_0) - r8_0)) * y_) % ((1 + r1_0) - r8_0)))))), (21, .ref 164), (22, .ref 165), (23, .c (ci v23_1)), (24, .ref 171), (25, .c (ci v25_2)), (233, .cell 800 0), (234, .c (ci most))], 233⟩) H12 m12 ⟨0, ([] : List Int), ghe_to (n := 233) rfl rfl ⟨rfl, rfl, rfl, rfl, rfl, rfl, rfl, rfl, rfl, rfl, rfl, trivial⟩, q162⟩ ?_
                rintro v25_2 o171_2 q162
                replace h := h v25_2 o171_2 q162
                refine aw_seq ?_
                refine aw_seq ?_
                refine aw_region ?_
                refine run_s (ss_move rfl) rfl ?_
                refine run_s (ss_move rfl) rfl ?_
                refine run_s (ss_lss rfl rfl) rfl ?_
                refine run_nil ?_
                refine aw_cond rfl (fun q163 => ?_) (fun q163 => ?_)
                · replace h := h.1 (of_decide_eq_true q163)
                  refine aw_skip ?_
                  refine aw_seq ?_
                  refine aw_block ?_
                  refine aw_block ?_
                  refine aw_seq ?_
                  refine aw_region ?_
                  refine run_s (ss_move rfl) rfl ?_
                  refine run_s (ss_move rfl) rfl ?_
                  refine run_s (ss_lss rfl rfl) rfl ?_
                  refine run_s (ss_move rfl) rfl ?_
                  refine run_split (s := 185) rfl (fun q164 => ?_) (fun q164 => ?_)
                  · replace h := h.1 (of_decide_eq_true q164)
                    refine run_gt rfl rfl q164 ?_
                    refine run_s (ss_move rfl) rfl ?_
                    refine run_gt rfl rfl q164 ?_
                    refine run_s (ss_move rfl) rfl ?_
                    refine run_gt rfl rfl q164 ?_
                    refine run_s (ss_lss rfl rfl) rfl ?_
                    refine run_s (ss_pickT rfl q164 rfl) rfl ?_
                    refine run_s (ss_assign rfl) rfl ?_
                    refine run_nil ?_
                    refine aw_cond rfl (fun q165 => ?_) (fun q165 => ?_)
                    · replace h := h.1 (of_decide_eq_true q165)
                      refine aw_region ?_
                      refine run_s (ss_move rfl) rfl ?_
                      refine run_s (ss_move rfl) rfl ?_
                      refine run_s (ss_move rfl) rfl ?_
                      obtain ⟨q166, h⟩ := h
                      refine run_s (ss_idxL rfl rfl q166) rfl ?_
                      refine run_s (ss_loadL (f := (fun r => C.lst (ints r))) rfl q166) rfl ?_
                      refine run_s (ss_move rfl) rfl ?_
                      obtain ⟨q167, h⟩ := h
                      refine run_s (ss_idxL rfl rfl q167) rfl ?_
                      refine run_s (ss_loadL (f := ci) rfl q167) rfl ?_
                      refine run_w (ws_buildSlice (id := 198) (ps := [(0, .tmp 197)]) rfl rfl (Nat.le_of_ble_eq_true rfl) rfl ⟨rfl, ?_⟩)
                      obtain ⟨q168, h⟩ := h
                      refine run_w (ws_app1 ci (l := o171_2) (m := [el (el (tab (if 1 < r8_0 then r8_0 else 1) (fun x_ y_ => ((2 % (if 1 < r8_0 then r8_0 else 1)) * x_ + ((if 1 < r8_0 then r8_0 else 1) - 1) * y_) % (if 1 < r8_0 then r8_0 else 1))) v23_1) v25_2]) rfl rfl rfl rfl rfl (Nat.le_of_ble_eq_true rfl) q168 ⟨rfl, ?_⟩)
                      refine run_s (ss_assign rfl) rfl ?_
                      refine run_nil ?_
                      refine aw_gh (gh_to (n := 233) (σ' := [(171, ⟨ints (o171_2 ++ ([el (el (tab (if 1 < r8_0 then r8_0 else 1) (fun x_ y_ => ((2 % (if 1 < r8_0 then r8_0 else 1)) * x_ + ((if 1 < r8_0 then r8_0 else 1) - 1) * y_) % (if 1 < r8_0 then r8_0 else 1))) v23_1) v25_2])), []⟩), (165, ⟨orows o165_1, []⟩), (164, ⟨ints r9_0, []⟩), (800, ⟨[.lst (bys o9_0), ci o9_1, cu o9_2], []⟩)]) (env' := [(5, .c (ci (1 + r1_0))), (18, .c (ci r8_0)), (19, .c (.lst (rows (tab (if 1 < r8_0 then r8_0 else 1) (fun x_ y_ => ((2 % (if 1 < r8_0 then r8_0 else 1)) * x_ + ((if 1 < r8_0 then r8_0 else 1) - 1) * y_) % (if 1 < r8_0 then r8_0 else 1)))))), (20, .c (.lst (rows (tab ((1 + r1_0) - r8_0) (fun x_ y_ => ((0 : Int) * x_ + (1 % ((1 + r1_0) - r8_0)) * y_) % ((1 + r1_0) - r8_0)))))), (21, .ref 164), (22, .ref 165), (23, .c (ci v23_1)), (24, .ref 171), (25, .c (ci v25_2)), (186, .c (ci v25_2)), (187, .c (ci r8_0)), (188, .c (cb (decide (v25_2 < r8_0)))), (233, .cell 800 0), (234, .c (ci most))]) rfl rfl ⟨rfl, rfl, rfl, rfl, rfl, rfl, rfl, rfl, rfl, rfl, rfl, rfl, rfl, rfl, trivial⟩) ?_
                      refine aw_region ?_
                      refine run_s (ss_move rfl) rfl ?_
                      obtain ⟨q169, h⟩ := h
                      refine run_s (ss_add rfl rfl q169) rfl ?_
                      refine run_s (ss_assign rfl) rfl ?_
                      refine run_nil ?_
                      exact ⟨v25_2 + 1, o171_2 ++ ([el (el (tab (if 1 < r8_0 then r8_0 else 1) (fun x_ y_ => ((2 % (if 1 < r8_0 then r8_0 else 1)) * x_ + ((if 1 < r8_0 then r8_0 else 1) - 1) * y_) % (if 1 < r8_0 then r8_0 else 1))) v23_1) v25_2]), ghe_to (n := 233) rfl rfl ⟨rfl, rfl, rfl, rfl, rfl, rfl, rfl, rfl, rfl, rfl, rfl, trivial⟩, h.1, h.2⟩
                    · replace h := h.2 (of_decide_eq_false q165)
                      refine aw_seq ?_
                      refine aw_region ?_
                      refine run_s (ss_move rfl) rfl ?_
                      refine run_s (ss_move rfl) rfl ?_
                      refine run_s (ss_geq rfl rfl) rfl ?_
                      refine run_s (ss_move rfl) rfl ?_
                      refine run_split (s := 204) rfl (fun q170 => ?_) (fun q170 => ?_)
                      · replace h := h.1 (of_decide_eq_true q170)
                        refine run_gt rfl rfl q170 ?_
                        refine run_s (ss_move rfl) rfl ?_
                        refine run_gt rfl rfl q170 ?_
                        refine run_s (ss_move rfl) rfl ?_
                        refine run_gt rfl rfl q170 ?_
                        refine run_s (ss_geq rfl rfl) rfl ?_
                        refine run_s (ss_pickT rfl q170 rfl) rfl ?_
                        refine run_s (ss_assign rfl) rfl ?_
                        refine run_nil ?_
                        refine aw_cond rfl (fun q171 => ?_) (fun q171 => ?_)
                        · replace h := h.1 (of_decide_eq_true q171)
                          refine aw_region ?_
                          refine run_s (ss_move rfl) rfl ?_
                          refine run_s (ss_move rfl) rfl ?_
                          refine run_s (ss_move rfl) rfl ?_
                          refine run_s (ss_move rfl) rfl ?_
                          refine run_s (ss_move rfl) rfl ?_
                          refine run_s (ss_move rfl) rfl ?_
                          obtain ⟨q172, h⟩ := h
                          refine run_s (ss_sub rfl rfl q172) rfl ?_
                          obtain ⟨q173, h⟩ := h
                          refine run_s (ss_idxL rfl rfl q173) rfl ?_
                          refine run_s (ss_loadL (f := (fun r => C.lst (ints r))) rfl q173) rfl ?_
                          refine run_s (ss_move rfl) rfl ?_
                          refine run_s (ss_move rfl) rfl ?_
                          obtain ⟨q174, h⟩ := h
                          refine run_s (ss_sub rfl rfl q174) rfl ?_
                          obtain ⟨q175, h⟩ := h
                          refine run_s (ss_idxL rfl rfl q175) rfl ?_
                          refine run_s (ss_loadL (f := ci) rfl q175) rfl ?_
                          obtain ⟨q176, h⟩ := h
                          refine run_s (ss_idxR (f := ci) rfl rfl rfl q176) rfl ?_
                          refine run_s (ss_loadR (f := ci) rfl rfl q176 rfl rfl) rfl ?_
                          obtain ⟨q177, h⟩ := h
                          refine run_s (ss_add rfl rfl q177) rfl ?_
                          refine run_w (ws_buildSlice (id := 226) (ps := [(0, .tmp 225)]) rfl rfl (Nat.le_of_ble_eq_true rfl) rfl ⟨rfl, ?_⟩)
                          obtain ⟨q178, h⟩ := h
                          refine run_w (ws_app1 ci (l := o171_2) (m := [r8_0 + (el r9_0 (el (el (tab ((1 + r1_0) - r8_0) (fun x_ y_ => ((0 : Int) * x_ + (1 % ((1 + r1_0) - r8_0)) * y_) % ((1 + r1_0) - r8_0))) (v23_1 - r8_0)) (v25_2 - r8_0)))]) rfl rfl rfl rfl rfl (Nat.le_of_ble_eq_true rfl) q178 ⟨rfl, ?_⟩)
                          refine run_s (ss_assign rfl) rfl ?_
                          refine run_nil ?_
                          refine aw_gh (gh_to (n := 233) (σ' := [(171, ⟨ints (o171_2 ++ ([r8_0 + (el r9_0 (el (el (tab ((1 + r1_0) - r8_0) (fun x_ y_ => ((0 : Int) * x_ + (1 % ((1 + r1_0) - r8_0)) * y_) % ((1 + r1_0) - r8_0))) (v23_1 - r8_0)) (v25_2 - r8_0)))])), []⟩), (165, ⟨orows o165_1, []⟩), (164, ⟨ints r9_0, []⟩), (800, ⟨[.lst (bys o9_0), ci o9_1, cu o9_2], []⟩)]) (env' := [(5, .c (ci (1 + r1_0))), (18, .c (ci r8_0)), (19, .c (.lst (rows (tab (if 1 < r8_0 then r8_0 else 1) (fun x_ y_ => ((2 % (if 1 < r8_0 then r8_0 else 1)) * x_ + ((if 1 < r8_0 then r8_0 else 1) - 1) * y_) % (if 1 < r8_0 then r8_0 else 1)))))), (20, .c (.lst (rows (tab ((1 + r1_0) - r8_0) (fun x_ y_ => ((0 : Int) * x_ + (1 % ((1 + r1_0) - r8_0)) * y_) % ((1 + r1_0) - r8_0)))))), (21, .ref 164), (22, .ref 165), (23, .c (ci v23_1)), (24, .ref 171), (25, .c (ci v25_2)), (186, .c (ci v25_2)), (187, .c (ci r8_0)), (188, .c (cb (decide (v25_2 < r8_0)))), (205, .c (ci v25_2)), (206, .c (ci r8_0)), (207, .c (cb (decide (r8_0 ≤ v25_2)))), (233, .cell 800 0), (234, .c (ci most))]) rfl rfl ⟨rfl, rfl, rfl, rfl, rfl, rfl, rfl, rfl, rfl, rfl, rfl, rfl, rfl, rfl, rfl, rfl, rfl, trivial⟩) ?_
                          refine aw_region ?_
                          refine run_s (ss_move rfl) rfl ?_
                          obtain ⟨q179, h⟩ := h
                          refine run_s (ss_add rfl rfl q179) rfl ?_
                          refine run_s (ss_assign rfl) rfl ?_
                          refine run_nil ?_
                          exact ⟨v25_2 + 1, o171_2 ++ ([r8_0 + (el r9_0 (el (el (tab ((1 + r1_0) - r8_0) (fun x_ y_ => ((0 : Int) * x_ + (1 % ((1 + r1_0) - r8_0)) * y_) % ((1 + r1_0) - r8_0))) (v23_1 - r8_0)) (v25_2 - r8_0)))]), ghe_to (n := 233) rfl rfl ⟨rfl, rfl, rfl, rfl, rfl, rfl, rfl, rfl, rfl, rfl, rfl, trivial⟩, h.1, h.2⟩
                        · replace h := h.2 (of_decide_eq_false q171)
                          refine aw_gh (gh_to (n := 233) (σ' := [(171, ⟨ints o171_2, []⟩), (165, ⟨orows o165_1, []⟩), (164, ⟨ints r9_0, []⟩), (800, ⟨[.lst (bys o9_0), ci o9_1, cu o9_2], []⟩)]) (env' := [(5, .c (ci (1 + r1_0))), (18, .c (ci r8_0)), (19, .c (.lst (rows (tab (if 1 < r8_0 then r8_0 else 1) (fun x_ y_ => ((2 % (if 1 < r8_0 then r8_0 else 1)) * x_ + ((if 1 < r8_0 then r8_0 else 1) - 1) * y_) % (if 1 < r8_0 then r8_0 else 1)))))), (20, .c (.lst (rows (tab ((1 + r1_0) - r8_0) (fun x_ y_ => ((0 : Int) * x_ + (1 % ((1 + r1_0) - r8_0)) * y_) % ((1 + r1_0) - r8_0)))))), (21, .ref 164), (22, .ref 165), (23, .c (ci v23_1)), (24, .ref 171), (25, .c (ci v25_2)), (186, .c (ci v25_2)), (187, .c (ci r8_0)), (188, .c (cb (decide (v25_2 < r8_0)))), (205, .c (ci v25_2)), (206, .c (ci r8_0)), (207, .c (cb (decide (r8_0 ≤ v25_2)))), (233, .cell 800 0), (234, .c (ci most))]) rfl rfl ⟨rfl, rfl, rfl, rfl, rfl, rfl, rfl, rfl, rfl, rfl, rfl, rfl, rfl, rfl, rfl, rfl, rfl, trivial⟩) ?_
                          refine aw_region ?_
                          refine run_s (ss_move rfl) rfl ?_
                          refine run_s (ss_move rfl) rfl ?_
                          refine run_w (ws_buildSlice (id := 179) (ps := [(0, .tmp 178)]) rfl rfl (Nat.le_of_ble_eq_true rfl) rfl ⟨rfl, ?_⟩)
                          obtain ⟨q180, h⟩ := h
                          refine run_w (ws_app1 ci (l := o171_2) (m := [v25_2]) rfl rfl rfl rfl rfl (Nat.le_of_ble_eq_true rfl) q180 ⟨rfl, ?_⟩)
                          refine run_s (ss_assign rfl) rfl ?_
                          refine run_nil ?_
                          refine aw_gh (gh_to (n := 233) (σ' := [(171, ⟨ints (o171_2 ++ ([v25_2])), []⟩), (165, ⟨orows o165_1, []⟩), (164, ⟨ints r9_0, []⟩), (800, ⟨[.lst (bys o9_0), ci o9_1, cu o9_2], []⟩)]) (env' := [(5, .c (ci (1 + r1_0))), (18, .c (ci r8_0)), (19, .c (.lst (rows (tab (if 1 < r8_0 then r8_0 else 1) (fun x_ y_ => ((2 % (if 1 < r8_0 then r8_0 else 1)) * x_ + ((if 1 < r8_0 then r8_0 else 1) - 1) * y_) % (if 1 < r8_0 then r8_0 else 1)))))), (20, .c (.lst (rows (tab ((1 + r1_0) - r8_0) (fun x_ y_ => ((0 : Int) * x_ + (1 % ((1 + r1_0) - r8_0)) * y_) % ((1 + r1_0) - r8_0)))))), (21, .ref 164), (22, .ref 165), (23, .c (ci v23_1)), (24, .ref 171), (25, .c (ci v25_2)), (186, .c (ci v25_2)), (187, .c (ci r8_0)), (188, .c (cb (decide (v25_2 < r8_0)))), (205, .c (ci v25_2)), (206, .c (ci r8_0)), (207, .c (cb (decide (r8_0 ≤ v25_2)))), (233, .cell 800 0), (234, .c (ci most))]) rfl rfl ⟨rfl, rfl, rfl, rfl, rfl, rfl, rfl, rfl, rfl, rfl, rfl, rfl, rfl, rfl, rfl, rfl, rfl, trivial⟩) ?_
                          refine aw_region ?_
                          refine run_s (ss_move rfl) rfl ?_
                          obtain ⟨q181, h⟩ := h
                          refine run_s (ss_add rfl rfl q181) rfl ?_
                          refine run_s (ss_assign rfl) rfl ?_
                          refine run_nil ?_
                          exact ⟨v25_2 + 1, o171_2 ++ ([v25_2]), ghe_to (n := 233) rfl rfl ⟨rfl, rfl, rfl, rfl, rfl, rfl, rfl, rfl, rfl, rfl, rfl, trivial⟩, h.1, h.2⟩
                      · replace h := h.2 (of_decide_eq_false q170)
                        refine run_gf rfl rfl q170 rfl ?_
                        refine run_gf rfl rfl q170 rfl ?_
                        refine run_gf rfl rfl q170 rfl ?_
                        refine run_s (ss_pickF rfl q170 rfl) rfl ?_
                        refine run_s (ss_assign rfl) rfl ?_
                        refine run_nil ?_
                        refine aw_cond rfl (fun q182 => ?_) (fun q182 => ?_)
                        · cases q182
                        · skip
                          refine aw_gh (gh_to (n := 233) (σ' := [(171, ⟨ints o171_2, []⟩), (165, ⟨orows o165_1, []⟩), (164, ⟨ints r9_0, []⟩), (800, ⟨[.lst (bys o9_0), ci o9_1, cu o9_2], []⟩)]) (env' := [(5, .c (ci (1 + r1_0))), (18, .c (ci r8_0)), (19, .c (.lst (rows (tab (if 1 < r8_0 then r8_0 else 1) (fun x_ y_ => ((2 % (if 1 < r8_0 then r8_0 else 1)) * x_ + ((if 1 < r8_0 then r8_0 else 1) - 1) * y_) % (if 1 < r8_0 then r8_0 else 1)))))), (20, .c (.lst (rows (tab ((1 + r1_0) - r8_0) (fun x_ y_ => ((0 : Int) * x_ + (1 % ((1 + r1_0) - r8_0)) * y_) % ((1 + r1_0) - r8_0)))))), (21, .ref 164), (22, .ref 165), (23, .c (ci v23_1)), (24, .ref 171), (25, .c (ci v25_2)), (186, .c (ci v25_2)), (187, .c (ci r8_0)), (188, .c (cb (decide (v25_2 < r8_0)))), (233, .cell 800 0), (234, .c (ci most))]) rfl rfl ⟨rfl, rfl, rfl, rfl, rfl, rfl, rfl, rfl, rfl, rfl, rfl, rfl, rfl, rfl, trivial⟩) ?_
                          refine aw_region ?_
                          refine run_s (ss_move rfl) rfl ?_
                          refine run_s (ss_move rfl) rfl ?_
                          refine run_w (ws_buildSlice (id := 179) (ps := [(0, .tmp 178)]) rfl rfl (Nat.le_of_ble_eq_true rfl) rfl ⟨rfl, ?_⟩)
                          obtain ⟨q183, h⟩ := h
                          refine run_w (ws_app1 ci (l := o171_2) (m := [v25_2]) rfl rfl rfl rfl rfl (Nat.le_of_ble_eq_true rfl) q183 ⟨rfl, ?_⟩)
                          refine run_s (ss_assign rfl) rfl ?_
                          refine run_nil ?_
                          refine aw_region ?_
                          refine run_s (ss_move rfl) rfl ?_
                          obtain ⟨q184, h⟩ := h
                          refine run_s (ss_add rfl rfl q184) rfl ?_
                          refine run_s (ss_assign rfl) rfl ?_
                          refine run_nil ?_
                          exact ⟨v25_2 + 1, o171_2 ++ ([v25_2]), ghe_to (n := 233) rfl rfl ⟨rfl, rfl, rfl, rfl, rfl, rfl, rfl, rfl, rfl, rfl, rfl, trivial⟩, h.1, h.2⟩
                  · replace h := h.2 (of_decide_eq_false q164)
                    refine run_gf rfl rfl q164 rfl ?_
                    refine run_gf rfl rfl q164 rfl ?_
                    refine run_gf rfl rfl q164 rfl ?_
                    refine run_s (ss_pickF rfl q164 rfl) rfl ?_
                    refine run_s (ss_assign rfl) rfl ?_
                    refine run_nil ?_
                    refine aw_cond rfl (fun q185 => ?_) (fun q185 => ?_)
                    · cases q185
                    · skip
                      refine aw_seq ?_
                      refine aw_region ?_
                      refine run_s (ss_move rfl) rfl ?_
                      refine run_s (ss_move rfl) rfl ?_
                      refine run_s (ss_geq rfl rfl) rfl ?_
                      refine run_s (ss_move rfl) rfl ?_
                      refine run_split (s := 204) rfl (fun q186 => ?_) (fun q186 => ?_)
                      · replace h := h.1 (of_decide_eq_true q186)
                        refine run_gt rfl rfl q186 ?_
                        refine run_s (ss_move rfl) rfl ?_
                        refine run_gt rfl rfl q186 ?_
                        refine run_s (ss_move rfl) rfl ?_
                        refine run_gt rfl rfl q186 ?_
                        refine run_s (ss_geq rfl rfl) rfl ?_
                        refine run_s (ss_pickT rfl q186 rfl) rfl ?_
                        refine run_s (ss_assign rfl) rfl ?_
                        refine run_nil ?_
                        refine aw_cond rfl (fun q187 => ?_) (fun q187 => ?_)
                        · replace h := h.1 (of_decide_eq_true q187)
                          refine aw_region ?_
                          refine run_s (ss_move rfl) rfl ?_
                          refine run_s (ss_move rfl) rfl ?_
                          refine run_s (ss_move rfl) rfl ?_
                          refine run_s (ss_move rfl) rfl ?_
                          refine run_s (ss_move rfl) rfl ?_
                          refine run_s (ss_move rfl) rfl ?_
                          obtain ⟨q188, h⟩ := h
                          refine run_s (ss_sub rfl rfl q188) rfl ?_
                          obtain ⟨q189, h⟩ := h
                          refine run_s (ss_idxL rfl rfl q189) rfl ?_
                          refine run_s (ss_loadL (f := (fun r => C.lst (ints r))) rfl q189) rfl ?_
                          refine run_s (ss_move rfl) rfl ?_
                          refine run_s (ss_move rfl) rfl ?_
                          obtain ⟨q190, h⟩ := h
                          refine run_s (ss_sub rfl rfl q190) rfl ?_
                          obtain ⟨q191, h⟩ := h
                          refine run_s (ss_idxL rfl rfl q191) rfl ?_
                          refine run_s (ss_loadL (f := ci) rfl q191) rfl ?_
                          obtain ⟨q192, h⟩ := h
                          refine run_s (ss_idxR (f := ci) rfl rfl rfl q192) rfl ?_
                          refine run_s (ss_loadR (f := ci) rfl rfl q192 rfl rfl) rfl ?_
                          obtain ⟨q193, h⟩ := h
                          refine run_s (ss_add rfl rfl q193) rfl ?_
                          refine run_w (ws_buildSlice (id := 226) (ps := [(0, .tmp 225)]) rfl rfl (Nat.le_of_ble_eq_true rfl) rfl ⟨rfl, ?_⟩)
                          obtain ⟨q194, h⟩ := h
                          refine run_w (ws_app1 ci (l := o171_2) (m := [r8_0 + (el r9_0 (el (el (tab ((1 + r1_0) - r8_0) (fun x_ y_ => ((0 : Int) * x_ + (1 % ((1 + r1_0) - r8_0)) * y_) % ((1 + r1_0) - r8_0))) (v23_1 - r8_0)) (v25_2 - r8_0)))]) rfl rfl rfl rfl rfl (Nat.le_of_ble_eq_true rfl) q194 ⟨rfl, ?_⟩)
                          refine run_s (ss_assign rfl) rfl ?_
                          refine run_nil ?_
                          refine aw_gh (gh_to (n := 233) (σ' := [(171, ⟨ints (o171_2 ++ ([r8_0 + (el r9_0 (el (el (tab ((1 + r1_0) - r8_0) (fun x_ y_ => ((0 : Int) * x_ + (1 % ((1 + r1_0) - r8_0)) * y_) % ((1 + r1_0) - r8_0))) (v23_1 - r8_0)) (v25_2 - r8_0)))])), []⟩), (165, ⟨orows o165_1, []⟩), (164, ⟨ints r9_0, []⟩), (800, ⟨[.lst (bys o9_0), ci o9_1, cu o9_2], []⟩)]) (env' := [(5, .c (ci (1 + r1_0))), (18, .c (ci r8_0)), (19, .c (.lst (rows (tab (if 1 < r8_0 then r8_0 else 1) (fun x_ y_ => ((2 % (if 1 < r8_0 then r8_0 else 1)) * x_ + ((if 1 < r8_0 then r8_0 else 1) - 1) * y_) % (if 1 < r8_0 then r8_0 else 1)))))), (20, .c (.lst (rows (tab ((1 + r1_0) - r8_0) (fun x_ y_ => ((0 : Int) * x_ + (1 % ((1 + r1_0) - r8_0)) * y_) % ((1 + r1_0) - r8_0)))))), (21, .ref 164), (22, .ref 165), (23, .c (ci v23_1)), (24, .ref 171), (25, .c (ci v25_2)), (205, .c (ci v25_2)), (206, .c (ci r8_0)), (207, .c (cb (decide (r8_0 ≤ v25_2)))), (233, .cell 800 0), (234, .c (ci most))]) rfl rfl ⟨rfl, rfl, rfl, rfl, rfl, rfl, rfl, rfl, rfl, rfl, rfl, rfl, rfl, rfl, trivial⟩) ?_
                          refine aw_region ?_
                          refine run_s (ss_move rfl) rfl ?_
                          obtain ⟨q195, h⟩ := h
                          refine run_s (ss_add rfl rfl q195) rfl ?_
                          refine run_s (ss_assign rfl) rfl ?_
                          refine run_nil ?_
                          exact ⟨v25_2 + 1, o171_2 ++ ([r8_0 + (el r9_0 (el (el (tab ((1 + r1_0) - r8_0) (fun x_ y_ => ((0 : Int) * x_ + (1 % ((1 + r1_0) - r8_0)) * y_) % ((1 + r1_0) - r8_0))) (v23_1 - r8_0)) (v25_2 - r8_0)))]), ghe_to (n := 233) rfl rfl ⟨rfl, rfl, rfl, rfl, rfl, rfl, rfl, rfl, rfl, rfl, rfl, trivial⟩, h.1, h.2⟩
                        · replace h := h.2 (of_decide_eq_false q187)
                          refine aw_gh (gh_to (n := 233) (σ' := [(171, ⟨ints o171_2, []⟩), (165, ⟨orows o165_1, []⟩), (164, ⟨ints r9_0, []⟩), (800, ⟨[.lst (bys o9_0), ci o9_1, cu o9_2], []⟩)]) (env' := [(5, .c (ci (1 + r1_0))), (18, .c (ci r8_0)), (19, .c (.lst (rows (tab (if 1 < r8_0 then r8_0 else 1) (fun x_ y_ => ((2 % (if 1 < r8_0 then r8_0 else 1)) * x_ + ((if 1 < r8_0 then r8_0 else 1) - 1) * y_) % (if 1 < r8_0 then r8_0 else 1)))))), (20, .c (.lst (rows (tab ((1 + r1_0) - r8_0) (fun x_ y_ => ((0 : Int) * x_ + (1 % ((1 + r1_0) - r8_0)) * y_) % ((1 + r1_0) - r8_0)))))), (21, .ref 164), (22, .ref 165), (23, .c (ci v23_1)), (24, .ref 171), (25, .c (ci v25_2)), (205, .c (ci v25_2)), (206, .c (ci r8_0)), (207, .c (cb (decide (r8_0 ≤ v25_2)))), (233, .cell 800 0), (234, .c (ci most))]) rfl rfl ⟨rfl, rfl, rfl, rfl, rfl, rfl, rfl, rfl, rfl, rfl, rfl, rfl, rfl, rfl, trivial⟩) ?_
                          refine aw_region ?_
                          refine run_s (ss_move rfl) rfl ?_
                          refine run_s (ss_move rfl) rfl ?_
                          refine run_w (ws_buildSlice (id := 179) (ps := [(0, .tmp 178)]) rfl rfl (Nat.le_of_ble_eq_true rfl) rfl ⟨rfl, ?_⟩)
                          obtain ⟨q196, h⟩ := h
                          refine run_w (ws_app1 ci (l := o171_2) (m := [v25_2]) rfl rfl rfl rfl rfl (Nat.le_of_ble_eq_true rfl) q196 ⟨rfl, ?_⟩)
                          refine run_s (ss_assign rfl) rfl ?_
                          refine run_nil ?_
                          refine aw_region ?_
                          refine run_s (ss_move rfl) rfl ?_
                          obtain ⟨q197, h⟩ := h
                          refine run_s (ss_add rfl rfl q197) rfl ?_
                          refine run_s (ss_assign rfl) rfl ?_
                          refine run_nil ?_
                          exact ⟨v25_2 + 1, o171_2 ++ ([v25_2]), ghe_to (n := 233) rfl rfl ⟨rfl, rfl, rfl, rfl, rfl, rfl, rfl, rfl, rfl, rfl, rfl, trivial⟩, h.1, h.2⟩
                      · replace h := h.2 (of_decide_eq_false q186)
                        refine run_gf rfl rfl q186 rfl ?_
                        refine run_gf rfl rfl q186 rfl ?_
                        refine run_gf rfl rfl q186 rfl ?_
                        refine run_s (ss_pickF rfl q186 rfl) rfl ?_
                        refine run_s (ss_assign rfl) rfl ?_
                        refine run_nil ?_
                        refine aw_cond rfl (fun q198 => ?_) (fun q198 => ?_)
                        · cases q198
                        · skip
                          refine aw_gh (gh_to (n := 233) (σ' := [(171, ⟨ints o171_2, []⟩), (165, ⟨orows o165_1, []⟩), (164, ⟨ints r9_0, []⟩), (800, ⟨[.lst (bys o9_0), ci o9_1, cu o9_2], []⟩)]) (env' := [(5, .c (ci (1 + r1_0))), (18, .c (ci r8_0)), (19, .c (.lst (rows (tab (if 1 < r8_0 then r8_0 else 1) (fun x_ y_ => ((2 % (if 1 < r8_0 then r8_0 else 1)) * x_ + ((if 1 < r8_0 then r8_0 else 1) - 1) * y_) % (if 1 < r8_0 then r8_0 else 1)))))), (20, .c (.lst (rows (tab ((1 + r1_0) - r8_0) (fun x_ y_ => ((0 : Int) * x_ + (1 % ((1 + r1_0) - r8_0)) * y_) % ((1 + r1_0) - r8_0)))))), (21, .ref 164), (22, .ref 165), (23, .c (ci v23_1)), (24, .ref 171), (25, .c (ci v25_2)), (233, .cell 800 0), (234, .c (ci most))]) rfl rfl ⟨rfl, rfl, rfl, rfl, rfl, rfl, rfl, rfl, rfl, rfl, rfl, trivial⟩) ?_
                          refine aw_region ?_
                          refine run_s (ss_move rfl) rfl ?_
                          refine run_s (ss_move rfl) rfl ?_
                          refine run_w (ws_buildSlice (id := 179) (ps := [(0, .tmp 178)]) rfl rfl (Nat.le_of_ble_eq_true rfl) rfl ⟨rfl, ?_⟩)
                          obtain ⟨q199, h⟩ := h
                          refine run_w (ws_app1 ci (l := o171_2) (m := [v25_2]) rfl rfl rfl rfl rfl (Nat.le_of_ble_eq_true rfl) q199 ⟨rfl, ?_⟩)
                          refine run_s (ss_assign rfl) rfl ?_
                          refine run_nil ?_
                          refine aw_region ?_
                          refine run_s (ss_move rfl) rfl ?_
                          obtain ⟨q200, h⟩ := h
                          refine run_s (ss_add rfl rfl q200) rfl ?_
                          refine run_s (ss_assign rfl) rfl ?_
                          refine run_nil ?_
                          exact ⟨v25_2 + 1, o171_2 ++ ([v25_2]), ghe_to (n := 233) rfl rfl ⟨rfl, rfl, rfl, rfl, rfl, rfl, rfl, rfl, rfl, rfl, rfl, trivial⟩, h.1, h.2⟩
                · replace h := h.2 (of_decide_eq_false q163)
                  refine aw_exit ?_
                  refine aw_region ?_
                  refine run_s (ss_move rfl) rfl ?_
                  refine run_s (ss_move rfl) rfl ?_
                  refine run_w (ws_buildSlice (id := 230) (ps := [(0, .tmp 229)]) rfl rfl (Nat.le_of_ble_eq_true rfl) rfl ⟨rfl, ?_⟩)
                  refine run_gh (gh_fill (id := 230) (id2 := 171) (j := 0) rfl rfl (Nat.le_of_ble_eq_true rfl) rfl rfl rfl) ?_
                  obtain ⟨q201, h⟩ := h
                  refine run_w (ws_app1 (fun r => C.own (ints r)) (l := o165_1) (m := [o171_2]) rfl rfl rfl rfl rfl (Nat.le_of_ble_eq_true rfl) q201 ⟨rfl, ?_⟩)
                  refine run_s (ss_assign rfl) rfl ?_
                  refine run_nil ?_
                  refine aw_gh (gh_to (n := 233) (σ' := [(165, ⟨orows (o165_1 ++ ([o171_2])), []⟩), (164, ⟨ints r9_0, []⟩), (800, ⟨[.lst (bys o9_0), ci o9_1, cu o9_2], []⟩)]) (env' := [(5, .c (ci (1 + r1_0))), (18, .c (ci r8_0)), (19, .c (.lst (rows (tab (if 1 < r8_0 then r8_0 else 1) (fun x_ y_ => ((2 % (if 1 < r8_0 then r8_0 else 1)) * x_ + ((if 1 < r8_0 then r8_0 else 1) - 1) * y_) % (if 1 < r8_0 then r8_0 else 1)))))), (20, .c (.lst (rows (tab ((1 + r1_0) - r8_0) (fun x_ y_ => ((0 : Int) * x_ + (1 % ((1 + r1_0) - r8_0)) * y_) % ((1 + r1_0) - r8_0)))))), (21, .ref 164), (22, .ref 165), (23, .c (ci v23_1)), (233, .cell 800 0), (234, .c (ci most))]) rfl rfl ⟨rfl, rfl, rfl, rfl, rfl, rfl, rfl, rfl, rfl, trivial⟩) ?_
                  refine aw_region ?_
                  refine run_s (ss_move rfl) rfl ?_
                  obtain ⟨q202, h⟩ := h
                  refine run_s (ss_add rfl rfl q202) rfl ?_
                  refine run_s (ss_assign rfl) rfl ?_
                  refine run_nil ?_
                  exact ⟨v23_1 + 1, o165_1 ++ ([o171_2]), ghe_to (n := 233) rfl rfl ⟨rfl, rfl, rfl, rfl, rfl, rfl, rfl, rfl, rfl, trivial⟩, h.1, h.2⟩
              · replace h := h.2 (of_decide_eq_false q161)
                refine aw_exit ?_
                refine aw_seq ?_
                refine aw_gh (gh_to (n := 233) (σ' := [(165, ⟨orows o165_1, []⟩), (164, ⟨ints r9_0, []⟩), (800, ⟨[.lst (bys o9_0), ci o9_1, cu o9_2], []⟩)]) (env' := [(22, .ref 165), (233, .cell 800 0), (234, .c (ci most))]) rfl rfl ⟨rfl, rfl, rfl, trivial⟩) ?_
                refine aw_region ?_
                refine run_s (ss_move rfl) rfl ?_
                refine run_s (ss_assign rfl) rfl ?_
                refine run_nil ?_
                refine aw_ret ?_
                exact retAM_mk (retv1 rfl (rv_tmp rfl)) rfl rfl rfl ⟨_, _, _, _, h, rfl, rfl⟩
        · replace h := h.2 (of_decide_eq_false q92)
          refine aw_skip ?_
          refine aw_seq ?_
          refine aw_region ?_
          refine run_s (ss_move rfl) rfl ?_
          refine run_s (ss_move rfl) rfl ?_
          obtain ⟨q203, h⟩ := h
          refine run_w (ws_callM (xs := [.tmp 137, .tmp 138]) (cs := [.obox [.lst (bys o2_0), ci o2_1, cu o2_2], ci (1 + r1_0)]) (ids := []) rfl (.inr ⟨rfl, rfl⟩) rfl rfl rfl (c_spec_l01Next o2_0 o2_1 o2_2 (1 + r1_0) q203) rfl rfl ?_ )
          rintro _ _ ⟨r10_0, o10_0, o10_1, o10_2, q204, rfl, rfl⟩
          replace h := h r10_0 o10_0 o10_1 o10_2 q204
          refine ⟨rfl, rfl, ?_⟩
          refine run_s (ss_assign rfl) rfl ?_
          refine run_nil ?_
          refine aw_seq ?_
          refine aw_gh (gh_to (n := 233) (σ' := [(800, ⟨[.lst (bys o10_0), ci o10_1, cu o10_2], []⟩)]) (env' := [(0, .cell 800 0), (5, .c (ci (1 + r1_0))), (18, .c (ci r10_0)), (233, .cell 800 0), (234, .c (ci most))]) rfl rfl ⟨rfl, rfl, rfl, rfl, rfl, trivial⟩) ?_
          refine aw_regionD (kd := kdl [0, 0, 0, 0, 0, 0, 0, 0, 2, 0, 0, 0, 0, 0, 0, 0, 2, 0, 0]) (ord := [0, 1, 2, 3, 4, 5, 6, 7, 9, 10, 11, 12, 13, 14, 15, 8, 16, 17, 18]) [] mixed (by kernel_rfl) ?_
          refine rd_s rfl rfl trivial (ss_move rfl) rfl ?_
          refine rd_s rfl rfl trivial (ss_max rfl rfl) rfl ?_
          refine rd_s rfl rfl trivial (ss_move rfl) rfl ?_
          refine rd_s rfl rfl trivial (ss_max rfl rfl) rfl ?_
          obtain ⟨q205, h⟩ := h
          refine rd_s rfl rfl trivial (ss_sub rfl rfl q205) rfl ?_
          refine rd_s rfl rfl trivial (ss_move rfl) rfl ?_
          refine rd_s rfl rfl trivial (ss_max rfl rfl) rfl ?_
          obtain ⟨q206, h⟩ := h
          refine rd_s rfl rfl trivial (ss_rem rfl rfl q206) rfl ?_
          refine rd_s rfl rfl trivial (ss_move rfl) rfl ?_
          refine rd_s rfl rfl trivial (ss_move rfl) rfl ?_
          obtain ⟨q207, h⟩ := h
          refine rd_s rfl rfl trivial (ss_sub rfl rfl q207) rfl ?_
          refine rd_s rfl rfl trivial (ss_move rfl) rfl ?_
          refine rd_s rfl rfl trivial (ss_move rfl) rfl ?_
          obtain ⟨q208, h⟩ := h
          refine rd_s rfl rfl trivial (ss_sub rfl rfl q208) rfl ?_
          obtain ⟨q209, h⟩ := h
          refine rd_s rfl rfl trivial (ss_rem rfl rfl q209) rfl ?_
          obtain ⟨q210, h⟩ := h
          refine rd_w rfl rfl trivial rfl rfl (ws_call (xs := [.tmp 141, .tmp 144, .tmp 147]) (ids := [148]) rfl rfl rfl rfl (c_spec_l03Alexander (if 1 < r10_0 then r10_0 else 1) ((if 1 < r10_0 then r10_0 else 1) - 1) (2 % (if 1 < r10_0 then r10_0 else 1)) q210) rfl ?_ )
          rintro _ rfl
          refine ⟨rfl, ?_⟩
          obtain ⟨q212, h⟩ := h
          refine rd_w rfl rfl trivial rfl rfl (ws_call (xs := [.tmp 151, .tmp 155, .const (.int .i64 (0))]) (ids := [156]) rfl rfl rfl rfl (c_spec_l03Alexander ((1 + r1_0) - r10_0) (1 % ((1 + r1_0) - r10_0)) 0 q212) rfl ?_ )
          rintro _ rfl
          refine ⟨rfl, ?_⟩
          refine rd_s rfl rfl trivial (ss_assign rfl) rfl ?_
          refine rd_s rfl rfl trivial (ss_assign rfl) rfl ?_
          refine rd_nil ?_
          refine aw_seq ?_
          refine aw_seq ?_
          refine aw_gh (gh_to (n := 233) (σ' := [(156, ⟨orows (tab ((1 + r1_0) - r10_0) (fun x_ y_ => ((0 : Int) * x_ + (1 % ((1 + r1_0) - r10_0)) * y_) % ((1 + r1_0) - r10_0))), []⟩), (148, ⟨orows (tab (if 1 < r10_0 then r10_0 else 1) (fun x_ y_ => ((2 % (if 1 < r10_0 then r10_0 else 1)) * x_ + ((if 1 < r10_0 then r10_0 else 1) - 1) * y_) % (if 1 < r10_0 then r10_0 else 1))), []⟩), (800, ⟨[.lst (bys o10_0), ci o10_1, cu o10_2], []⟩)]) (env' := [(0, .cell 800 0), (5, .c (ci (1 + r1_0))), (18, .c (ci r10_0)), (19, .ref 148), (20, .ref 156), (233, .cell 800 0), (234, .c (ci most))]) rfl rfl ⟨rfl, rfl, rfl, rfl, rfl, rfl, rfl, trivial⟩) ?_
          refine aw_region ?_
          refine run_s (ss_move rfl) rfl ?_
          refine run_s (ss_eql rfl rfl) rfl ?_
          refine run_nil ?_
          refine aw_cond rfl (fun q214 => ?_) (fun q214 => ?_)
          · replace h := h.1 (of_decide_eq_true q214)
            refine aw_seq ?_
            refine aw_gh (gh_to (n := 233) (σ' := [(156, ⟨orows (tab ((1 + r1_0) - r10_0) (fun x_ y_ => ((0 : Int) * x_ + (1 % ((1 + r1_0) - r10_0)) * y_) % ((1 + r1_0) - r10_0))), []⟩), (148, ⟨orows (tab (if 1 < r10_0 then r10_0 else 1) (fun x_ y_ => ((2 % (if 1 < r10_0 then r10_0 else 1)) * x_ + ((if 1 < r10_0 then r10_0 else 1) - 1) * y_) % (if 1 < r10_0 then r10_0 else 1))), []⟩), (800, ⟨[.lst (bys o10_0), ci o10_1, cu o10_2], []⟩)]) (env' := [(20, .ref 156), (233, .cell 800 0), (234, .c (ci most))]) rfl rfl ⟨rfl, rfl, rfl, trivial⟩) ?_
            refine aw_region ?_
            refine run_s (ss_move rfl) rfl ?_
            refine run_s (ss_assign rfl) rfl ?_
            refine run_nil ?_
            refine aw_ret ?_
            exact retAM_mk (retv1 rfl (rv_tmp rfl)) rfl rfl rfl ⟨_, _, _, _, h, rfl, rfl⟩
          · replace h := h.2 (of_decide_eq_false q214)
            refine aw_skip ?_
            refine aw_seq ?_
            refine aw_region ?_
            refine run_s (ss_move rfl) rfl ?_
            refine run_s (ss_move rfl) rfl ?_
            refine run_s (ss_move rfl) rfl ?_
            obtain ⟨q215, h⟩ := h
            refine run_s (ss_sub rfl rfl q215) rfl ?_
            obtain ⟨q216, h⟩ := h
            refine run_w (ws_callM (xs := [.tmp 160, .tmp 163]) (cs := [.obox [.lst (bys o10_0), ci o10_1, cu o10_2], ci ((1 + r1_0) - r10_0)]) (ids := [164]) rfl (.inr ⟨rfl, rfl⟩) rfl rfl rfl (c_spec_l03DrawPerm o10_0 o10_1 o10_2 ((1 + r1_0) - r10_0) q216) rfl rfl ?_ )
            rintro _ _ ⟨r11_0, o11_0, o11_1, o11_2, q217, rfl, rfl⟩
            replace h := h r11_0 o11_0 o11_1 o11_2 q217
            refine ⟨rfl, rfl, ?_⟩
            refine run_s (ss_assign rfl) rfl ?_
            refine run_nil ?_
            refine aw_seq ?_
            refine aw_region ?_
            refine run_w (ws_buildSlice (id := 165) (ps := []) rfl rfl (Nat.le_of_ble_eq_true rfl) rfl ⟨rfl, ?_⟩)
            refine run_s (ss_assign rfl) rfl ?_
            refine run_nil ?_
            refine aw_gh (gh_frzE (id := 148) (fun r => C.lst (ints r)) rfl (fun _ => (fz_own (fz_map (fun _ => rfl) _)))) ?_
            refine aw_gh (gh_frzE (id := 156) (fun r => C.lst (ints r)) rfl (fun _ => (fz_own (fz_map (fun _ => rfl) _)))) ?_
            refine aw_seq ?_
            refine aw_seq ?_
            refine aw_gh (gh_to (n := 233) (σ' := [(165, ⟨orows ([] : List (List Int)), []⟩), (164, ⟨ints r11_0, []⟩), (800, ⟨[.lst (bys o11_0), ci o11_1, cu o11_2], []⟩)]) (env' := [(5, .c (ci (1 + r1_0))), (18, .c (ci r10_0)), (19, .c (.lst (rows (tab (if 1 < r10_0 then r10_0 else 1) (fun x_ y_ => ((2 % (if 1 < r10_0 then r10_0 else 1)) * x_ + ((if 1 < r10_0 then r10_0 else 1) - 1) * y_) % (if 1 < r10_0 then r10_0 else 1)))))), (20, .c (.lst (rows (tab ((1 + r1_0) - r10_0) (fun x_ y_ => ((0 : Int) * x_ + (1 % ((1 + r1_0) - r10_0)) * y_) % ((1 + r1_0) - r10_0)))))), (21, .ref 164), (22, .ref 165), (233, .cell 800 0), (234, .c (ci most))]) rfl rfl ⟨rfl, rfl, rfl, rfl, rfl, rfl, rfl, rfl, trivial⟩) ?_
            refine aw_region ?_
            refine run_s (ss_assign rfl) rfl ?_
            refine run_nil ?_
            refine aw_block ?_
            obtain ⟨H13, m13, q218, h⟩ := h
            refine aw_loop2 (fun (v23_1 : Int) (o165_1 : List (List Int)) => ⟨[(165, ⟨orows o165_1, []⟩), (164, ⟨ints r11_0, []⟩), (800, ⟨[.lst (bys o11_0), ci o11_1, cu o11_2], []⟩)], [(5, .c (ci (1 + r1_0))), (18, .c (ci r10_0)), (19, .c (.lst (rows (tab (if 1 < r10_0 then r10_0 else 1) (fun x_ y_ => ((2 % (if 1 < r10_0 then r10_0 else 1)) * x_ + ((if 1 < r10_0 then r10_0 else 1) - 1) * y_) % (if 1 < r10_0 then r10_0 else 1)))))), (20, .c (.lst (rows (tab ((1 + r1_0) - r10_0) (fun x_ y_ => ((0 : Int) * x_ + (1 % ((1 + r1_0) - r10_0)) * y_) % ((1 + r1_0) - r10_0)))))), (21, .ref 164), (22, .ref 165), (23, .c (ci v23_1)), (233, .cell 800 0), (234, .c (ci most))], 233⟩) H13 m13 ⟨0, ([] : List (List Int)), ghe_to (n := 233) rfl rfl ⟨rfl, rfl, rfl, rfl, rfl, rfl, rfl, rfl, rfl, trivial⟩, q218⟩ ?_
            rintro v23_1 o165_1 q218
            replace h := h v23_1 o165_1 q218
            refine aw_seq ?_
            refine aw_seq ?_
            refine aw_region ?_
            refine run_s (ss_move rfl) rfl ?_
            refine run_s (ss_move rfl) rfl ?_
            refine run_s (ss_lss rfl rfl) rfl ?_
            refine run_nil ?_
            refine aw_cond rfl (fun q219 => ?_) (fun q219 => ?_)
            · replace h := h.1 (of_decide_eq_true q219)
              refine aw_skip ?_
              refine aw_seq ?_
              refine aw_block ?_
              refine aw_seq ?_
              refine aw_region ?_
              refine run_w (ws_buildSlice (id := 171) (ps := []) rfl rfl (Nat.le_of_ble_eq_true rfl) rfl ⟨rfl, ?_⟩)
              refine run_s (ss_assign rfl) rfl ?_
              refine run_nil ?_
              refine aw_seq ?_
              refine aw_seq ?_
              refine aw_region ?_
              refine run_s (ss_assign rfl) rfl ?_
              refine run_nil ?_
              refine aw_block ?_
              obtain ⟨H14, m14, q220, h⟩ := h
              refine aw_loop2 (fun (v25_2 : Int) (o171_2 : List Int) => ⟨[(171, ⟨ints o171_2, []⟩), (165, ⟨orows o165_1, []⟩), (164, ⟨ints r11_0, []⟩), (800, ⟨[.lst (bys o11_0), ci o11_1, cu o11_2], []⟩)], [(5, .c (ci (1 + r1_0))), (18, .c (ci r10_0)), (19, .c (.lst (rows (tab (if 1 < r10_0 then r10_0 else 1) (fun x_ y_ => ((2 % (if 1 < r10_0 then r10_0 else 1)) * x_ + ((if 1 < r10_0 then r10_0 else 1) - 1) * y_) % (if 1 < r10_0 then r10_0 else 1)))))), (20, .c (.lst (rows (tab ((1 + r1_0) - r10_0) (fun x_ y_ => ((0 : Int) * x_ + (1 % ((1 + r1_0) - r10_0)) * y_) % ((1 + r1_0) - r10_0)))))), (21, .ref 164), (22, .ref 165), (23, .c (ci v23_1)), (24, .ref 171), (25, .c (ci v25_2)), (233, .cell 800 0), (234, .c (ci most))], 233⟩) H14 m14 ⟨0, ([] : List Int), ghe_to (n := 233) rfl rfl ⟨rfl, rfl, rfl, rfl, rfl, rfl, rfl, rfl, rfl, rfl, rfl, trivial⟩, q220⟩ ?_
              rintro v25_2 o171_2 q220
              replace h := h v25_2 o171_2 q220
              refine aw_seq ?_
              refine aw_seq ?_
              refine aw_region ?_
              refine run_s (ss_move rfl) rfl ?_
              refine run_s (ss_move rfl) rfl ?_
              refine run_s (ss_lss rfl rfl) rfl ?_
              refine run_nil ?_
              refine aw_cond rfl (fun q221 => ?_) (fun q221 => ?_)
              · replace h := h.1 (of_decide_eq_true q221)
                refine aw_skip ?_
                refine aw_seq ?_
                refine aw_block ?_
                refine aw_block ?_
                refine aw_seq ?_
                refine aw_region ?_
                refine run_s (ss_move rfl) rfl ?_
                refine run_s (ss_move rfl) rfl ?_
                refine run_s (ss_lss rfl rfl) rfl ?_
                refine run_s (ss_move rfl) rfl ?_
                refine run_split (s := 185) rfl (fun q222 => ?_) (fun q222 => ?_)
                · replace h := h.1 (of_decide_eq_true q222)
                  refine run_gt rfl rfl q222 ?_
                  refine run_s (ss_move rfl) rfl ?_
                  refine run_gt rfl rfl q222 ?_
                  refine run_s (ss_move rfl) rfl ?_
                  refine run_gt rfl rfl q222 ?_
                  refine run_s (ss_lss rfl rfl) rfl ?_
                  refine run_s (ss_pickT rfl q222 rfl) rfl ?_
                  refine run_s (ss_assign rfl) rfl ?_
                  refine run_nil ?_
                  refine aw_cond rfl (fun q223 => ?_) (fun q223 => ?_)
                  · replace h := h.1 (of_decide_eq_true q223)
                    refine aw_region ?_
                    refine run_s (ss_move rfl) rfl ?_
                    refine run_s (ss_move rfl) rfl ?_
                    refine run_s (ss_move rfl) rfl ?_
                    obtain ⟨q224, h⟩ := h
                    refine run_s (ss_idxL rfl rfl q224) rfl ?_
                    refine run_s (ss_loadL (f := (fun r => C.lst (ints r))) rfl q224) rfl ?_
                    refine run_s (ss_move rfl) rfl ?_
                    obtain ⟨q225, h⟩ := h
                    refine run_s (ss_idxL rfl rfl q225) rfl ?_
                    refine run_s (ss_loadL (f := ci) rfl q225) rfl ?_
                    refine run_w (ws_buildSlice (id := 198) (ps := [(0, .tmp 197)]) rfl rfl (Nat.le_of_ble_eq_true rfl) rfl ⟨rfl, ?_⟩)
                    obtain ⟨q226, h⟩ := h
                    refine run_w (ws_app1 ci (l := o171_2) (m := [el (el (tab (if 1 < r10_0 then r10_0 else 1) (fun x_ y_ => ((2 % (if 1 < r10_0 then r10_0 else 1)) * x_ + ((if 1 < r10_0 then r10_0 else 1) - 1) * y_) % (if 1 < r10_0 then r10_0 else 1))) v23_1) v25_2]) rfl rfl rfl rfl rfl (Nat.le_of_ble_eq_true rfl) q226 ⟨rfl, ?_⟩)
                    refine run_s (ss_assign rfl) rfl ?_
                    refine run_nil ?_
                    refine aw_gh (gh_to (n := 233) (σ' := [(171, ⟨ints (o171_2 ++ ([el (el (tab (if 1 < r10_0 then r10_0 else 1) (fun x_ y_ => ((2 % (if 1 < r10_0 then r10_0 else 1)) * x_ + ((if 1 < r10_0 then r10_0 else 1) - 1) * y_) % (if 1 < r10_0 then r10_0 else 1))) v23_1) v25_2])), []⟩), (165, ⟨orows o165_1, []⟩), (164, ⟨ints r11_0, []⟩), (800, ⟨[.lst (bys o11_0), ci o11_1, cu o11_2], []⟩)]) (env' := [(5, .c (ci (1 + r1_0))), (18, .c (ci r10_0)), (19, .c (.lst (rows (tab (if 1 < r10_0 then r10_0 else 1) (fun x_ y_ => ((2 % (if 1 < r10_0 then r10_0 else 1)) * x_ + ((if 1 < r10_0 then r10_0 else 1) - 1) * y_) % (if 1 < r10_0 then r10_0 else 1)))))), (20, .c (.lst (rows (tab ((1 + r1_0) - r10_0) (fun x_ y_ => ((0 : Int) * x_ + (1 % ((1 + r1_0) - r10_0)) * y_) % ((1 + r1_0) - r10_0)))))), (21, .ref 164), (22, .ref 165), (23, .c (ci v23_1)), (24, .ref 171), (25, .c (ci v25_2)), (186, .c (ci v25_2)), (187, .c (ci r10_0)), (188, .c (cb (decide (v25_2 < r10_0)))), (233, .cell 800 0), (234, .c (ci most))]) rfl rfl ⟨rfl, rfl, rfl, rfl, rfl, rfl, rfl, rfl, rfl, rfl, rfl, rfl, rfl, rfl, trivial⟩) ?_
                    refine aw_region ?_
                    refine run_s (ss_move rfl) rfl ?_
                    obtain ⟨q227, h⟩ := h
                    refine run_s (ss_add rfl rfl q227) rfl ?_
                    refine run_s (ss_assign rfl) rfl ?_
                    refine run_nil ?_
                    exact ⟨v25_2 + 1, o171_2 ++ ([el (el (tab (if 1 < r10_0 then r10_0 else 1) (fun x_ y_ => ((2 % (if 1 < r10_0 then r10_0 else 1)) * x_ + ((if 1 < r10_0 then r10_0 else 1) - 1) * y_) % (if 1 < r10_0 then r10_0 else 1))) v23_1) v25_2]), ghe_to (n := 233) rfl rfl ⟨rfl, rfl, rfl, rfl, rfl, rfl, rfl, rfl, rfl, rfl, rfl, trivial⟩, h.1, h.2⟩
                  · replace h := h.2 (of_decide_eq_false q223)
                    refine aw_seq ?_
                    refine aw_region ?_
                    refine run_s (ss_move rfl) rfl ?_
                    refine run_s (ss_move rfl) rfl ?_
                    refine run_s (ss_geq rfl rfl) rfl ?_
                    refine run_s (ss_move rfl) rfl ?_
                    refine run_split (s := 204) rfl (fun q228 => ?_) (fun q228 => ?_)
                    · replace h := h.1 (of_decide_eq_true q228)
                      refine run_gt rfl rfl q228 ?_
                      refine run_s (ss_move rfl) rfl ?_
                      refine run_gt rfl rfl q228 ?_
                      refine run_s (ss_move rfl) rfl ?_
                      refine run_gt rfl rfl q228 ?_
                      refine run_s (ss_geq rfl rfl) rfl ?_
                      refine run_s (ss_pickT rfl q228 rfl) rfl ?_
                      refine run_s (ss_assign rfl) rfl ?_
                      refine run_nil ?_
                      refine aw_cond rfl (fun q229 => ?_) (fun q229 => ?_)
                      · replace h := h.1 (of_decide_eq_true q229)
                        refine aw_region ?_
                        refine run_s (ss_move rfl) rfl ?_
                        refine run_s (ss_move rfl) rfl ?_
                        refine run_s (ss_move rfl) rfl ?_
                        refine run_s (ss_move rfl) rfl ?_
                        refine run_s (ss_move rfl) rfl ?_
                        refine run_s (ss_move rfl) rfl ?_
                        obtain ⟨q230, h⟩ := h
                        refine run_s (ss_sub rfl rfl q230) rfl ?_
                        obtain ⟨q231, h⟩ := h
                        refine run_s (ss_idxL rfl rfl q231) rfl ?_
                        refine run_s (ss_loadL (f := (fun r => C.lst (ints r))) rfl q231) rfl ?_
                        refine run_s (ss_move rfl) rfl ?_
                        refine run_s (ss_move rfl) rfl ?_
                        obtain ⟨q232, h⟩ := h
                        refine run_s (ss_sub rfl rfl q232) rfl ?_
                        obtain ⟨q233, h⟩ := h
                        refine run_s (ss_idxL rfl rfl q233) rfl ?_
                        refine run_s (ss_loadL (f := ci) rfl q233) rfl ?_
                        obtain ⟨q234, h⟩ := h
                        refine run_s (ss_idxR (f := ci) rfl rfl rfl q234) rfl ?_
                        refine run_s (ss_loadR (f := ci) rfl rfl q234 rfl rfl) rfl ?_
                        obtain ⟨q235, h⟩ := h
                        refine run_s (ss_add rfl rfl q235) rfl ?_
                        refine run_w (ws_buildSlice (id := 226) (ps := [(0, .tmp 225)]) rfl rfl (Nat.le_of_ble_eq_true rfl) rfl ⟨rfl, ?_⟩)
                        obtain ⟨q236, h⟩ := h
                        refine run_w (ws_app1 ci (l := o171_2) (m := [r10_0 + (el r11_0 (el (el (tab ((1 + r1_0) - r10_0) (fun x_ y_ => ((0 : Int) * x_ + (1 % ((1 + r1_0) - r10_0)) * y_) % ((1 + r1_0) - r10_0))) (v23_1 - r10_0)) (v25_2 - r10_0)))]) rfl rfl rfl rfl rfl (Nat.le_of_ble_eq_true rfl) q236 ⟨rfl, ?_⟩)
                        refine run_s (ss_assign rfl) rfl ?_
                        refine run_nil ?_
                        refine aw_gh (gh_to (n := 233) (σ' := [(171, ⟨ints (o171_2 ++ ([r10_0 + (el r11_0 (el (el (tab ((1 + r1_0) - r10_0) (fun x_ y_ => ((0 : Int) * x_ + (1 % ((1 + r1_0) - r10_0)) * y_) % ((1 + r1_0) - r10_0))) (v23_1 - r10_0)) (v25_2 - r10_0)))])), []⟩), (165, ⟨orows o165_1, []⟩), (164, ⟨ints r11_0, []⟩), (800, ⟨[.lst (bys o11_0), ci o11_1, cu o11_2], []⟩)]) (env' := [(5, .c (ci (1 + r1_0))), (18, .c (ci r10_0)), (19, .c (.lst (rows (tab (if 1 < r10_0 then r10_0 else 1) (fun x_ y_ => ((2 % (if 1 < r10_0 then r10_0 else 1)) * x_ + ((if 1 < r10_0 then r10_0 else 1) - 1) * y_) % (if 1 < r10_0 then r10_0 else 1)))))), (20, .c (.lst (rows (tab ((1 + r1_0) - r10_0) (fun x_ y_ => ((0 : Int) * x_ + (1 % ((1 + r1_0) - r10_0)) * y_) % ((1 + r1_0) - r10_0)))))), (21, .ref 164), (22, .ref 165), (23, .c (ci v23_1)), (24, .ref 171), (25, .c (ci v25_2)), (186, .c (ci v25_2)), (187, .c (ci r10_0)), (188, .c (cb (decide (v25_2 < r10_0)))), (205, .c (ci v25_2)), (206, .c (ci r10_0)), (207, .c (cb (decide (r10_0 ≤ v25_2)))), (233, .cell 800 0), (234, .c (ci most))]) rfl rfl ⟨rfl, rfl, rfl, rfl, rfl, rfl, rfl, rfl, rfl, rfl, rfl, rfl, rfl, rfl, rfl, rfl, rfl, trivial⟩) ?_
                        refine aw_region ?_
                        refine run_s (ss_move rfl) rfl ?_
                        obtain ⟨q237, h⟩ := h
                        refine run_s (ss_add rfl rfl q237) rfl ?_
                        refine run_s (ss_assign rfl) rfl ?_
                        refine run_nil ?_
                        exact ⟨v25_2 + 1, o171_2 ++ ([r10_0 + (el r11_0 (el (el (tab ((1 + r1_0) - r10_0) (fun x_ y_ => ((0 : Int) * x_ + (1 % ((1 + r1_0) - r10_0)) * y_) % ((1 + r1_0) - r10_0))) (v23_1 - r10_0)) (v25_2 - r10_0)))]), ghe_to (n := 233) rfl rfl ⟨rfl, rfl, rfl, rfl, rfl, rfl, rfl, rfl, rfl, rfl, rfl, trivial⟩, h.1, h.2⟩
                      · replace h := h.2 (of_decide_eq_false q229)
                        refine aw_gh (gh_to (n := 233) (σ' := [(171, ⟨ints o171_2, []⟩), (165, ⟨orows o165_1, []⟩), (164, ⟨ints r11_0, []⟩), (800, ⟨[.lst (bys o11_0), ci o11_1, cu o11_2], []⟩)]) (env' := [(5, .c (ci (1 + r1_0))), (18, .c (ci r10_0)), (19, .c (.lst (rows (tab (if 1 < r10_0 then r10_0 else 1) (fun x_ y_ => ((2 % (if 1 < r10_0 then r10_0 else 1)) * x_ + ((if 1 < r10_0 then r10_0 else 1) - 1) * y_) % (if 1 < r10_0 then r10_0 else 1)))))), (20, .c (.lst (rows (tab ((1 + r1_0) - r10_0) (fun x_ y_ => ((0 : Int) * x_ + (1 % ((1 + r1_0) - r10_0)) * y_) % ((1 + r1_0) - r10_0)))))), (21, .ref 164), (22, .ref 165), (23, .c (ci v23_1)), (24, .ref 171), (25, .c (ci v25_2)), (186, .c (ci v25_2)), (187, .c (ci r10_0)), (188, .c (cb (decide (v25_2 < r10_0)))), (205, .c (ci v25_2)), (206, .c (ci r10_0)), (207, .c (cb (decide (r10_0 ≤ v25_2)))), (233, .cell 800 0), (234, .c (ci most))]) rfl rfl ⟨rfl, rfl, rfl, rfl, rfl, rfl, rfl, rfl, rfl, rfl, rfl, rfl, rfl, rfl, rfl, rfl, rfl, trivial⟩) ?_
                        refine aw_region ?_
                        refine run_s (ss_move rfl) rfl ?_
                        refine run_s (ss_move rfl) rfl ?_
                        refine run_w (ws_buildSlice (id := 179) (ps := [(0, .tmp 178)]) rfl rfl (Nat.le_of_ble_eq_true rfl) rfl ⟨rfl, ?_⟩)
                        obtain ⟨q238, h⟩ := h
                        refine run_w (ws_app1 ci (l := o171_2) (m := [v25_2]) rfl rfl rfl rfl rfl (Nat.le_of_ble_eq_true rfl) q238 ⟨rfl, ?_⟩)
                        refine run_s (ss_assign rfl) rfl ?_
                        refine run_nil ?_
                        refine aw_gh (gh_to (n := 233) (σ' := [(171, ⟨ints (o171_2 ++ ([v25_2])), []⟩), (165, ⟨orows o165_1, []⟩), (164, ⟨ints r11_0, []⟩), (800, ⟨[.lst (bys o11_0), ci o11_1, cu o11_2], []⟩)]) (env' := [(5, .c (ci (1 + r1_0))), (18, .c (ci r10_0)), (19, .c (.lst (rows (tab (if 1 < r10_0 then r10_0 else 1) (fun x_ y_ => ((2 % (if 1 < r10_0 then r10_0 else 1)) * x_ + ((if 1 < r10_0 then r10_0 else 1) - 1) * y_) % (if 1 < r10_0 then r10_0 else 1)))))), (20, .c (.lst (rows (tab ((1 + r1_0) - r10_0) (fun x_ y_ => ((0 : Int) * x_ + (1 % ((1 + r1_0) - r10_0)) * y_) % ((1 + r1_0) - r10_0)))))), (21, .ref 164), (22, .ref 165), (23, .c (ci v23_1)), (24, .ref 171), (25, .c (ci v25_2)), (186, .c (ci v25_2)), (187, .c (ci r10_0)), (188, .c (cb (decide (v25_2 < r10_0)))), (205, .c (ci v25_2)), (206, .c (ci r10_0)), (207, .c (cb (decide (r10_0 ≤ v25_2)))), (233, .cell 800 0), (234, .c (ci most))]) rfl rfl ⟨rfl, rfl, rfl, rfl, rfl, rfl, rfl, rfl, rfl, rfl, rfl, rfl, rfl, rfl, rfl, rfl, rfl, trivial⟩) ?_
                        refine aw_region ?_
                        refine run_s (ss_move rfl) rfl ?_
                        obtain ⟨q239, h⟩ := h
                        refine run_s (ss_add rfl rfl q239) rfl ?_
                        refine run_s (ss_assign rfl) rfl ?_
                        refine run_nil ?_
                        exact ⟨v25_2 + 1, o171_2 ++ ([v25_2]), ghe_to (n := 233) rfl rfl ⟨rfl, rfl, rfl, rfl, rfl, rfl, rfl, rfl, rfl, rfl, rfl, trivial⟩, h.1, h.2⟩
                    · replace h := h.2 (of_decide_eq_false q228)
                      refine run_gf rfl rfl q228 rfl ?_
                      refine run_gf rfl rfl q228 rfl ?_
                      refine run_gf rfl rfl q228 rfl ?_
                      refine run_s (ss_pickF rfl q228 rfl) rfl ?_
                      refine run_s (ss_assign rfl) rfl ?_
                      refine run_nil ?_
                      refine aw_cond rfl (fun q240 => ?_) (fun q240 => ?_)
                      · cases q240
                      · skip
                        refine aw_gh (gh_to (n := 233) (σ' := [(171, ⟨ints o171_2, []⟩), (165, ⟨orows o165_1, []⟩), (164, ⟨ints r11_0, []⟩), (800, ⟨[.lst (bys o11_0), ci o11_1, cu o11_2], []⟩)]) (env' := [(5, .c (ci (1 + r1_0))), (18, .c (ci r10_0)), (19, .c (.lst (rows (tab (if 1 < r10_0 then r10_0 else 1) (fun x_ y_ => ((2 % (if 1 < r10_0 then r10_0 else 1)) * x_ + ((if 1 < r10_0 then r10_0 else 1) - 1) * y_) % (if 1 < r10_0 then r10_0 else 1)))))), (20, .c (.lst (rows (tab ((1 + r1_0) - r10_0) (fun x_ y_ => ((0 : Int) * x_ + (1 % ((1 + r1_0) - r10_0)) * y_) % ((1 + r1_0) - r10_0)))))), (21, .ref 164), (22, .ref 165), (23, .c (ci v23_1)), (24, .ref 171), (25, .c (ci v25_2)), (186, .c (ci v25_2)), (187, .c (ci r10_0)), (188, .c (cb (decide (v25_2 < r10_0)))), (233, .cell 800 0), (234, .c (ci most))]) rfl rfl ⟨rfl, rfl, rfl, rfl, rfl, rfl, rfl, rfl, rfl, rfl, rfl, rfl, rfl, rfl, trivial⟩) ?_
                        refine aw_region ?_
                        refine run_s (ss_move rfl) rfl ?_
                        refine run_s (ss_move rfl) rfl ?_
                        refine run_w (ws_buildSlice (id := 179) (ps := [(0, .tmp 178)]) rfl rfl (Nat.le_of_ble_eq_true rfl) rfl ⟨rfl, ?_⟩)
                        obtain ⟨q241, h⟩ := h
                        refine run_w (ws_app1 ci (l := o171_2) (m := [v25_2]) rfl rfl rfl rfl rfl (Nat.le_of_ble_eq_true rfl) q241 ⟨rfl, ?_⟩)
                        refine run_s (ss_assign rfl) rfl ?_
                        refine run_nil ?_
                        refine aw_region ?_
                        refine run_s (ss_move rfl) rfl ?_
                        obtain ⟨q242, h⟩ := h
                        refine run_s (ss_add rfl rfl q242) rfl ?_
                        refine run_s (ss_assign rfl) rfl ?_
                        refine run_nil ?_
                        exact ⟨v25_2 + 1, o171_2 ++ ([v25_2]), ghe_to (n := 233) rfl rfl ⟨rfl, rfl, rfl, rfl, rfl, rfl, rfl, rfl, rfl, rfl, rfl, trivial⟩, h.1, h.2⟩
                · replace h := h.2 (of_decide_eq_false q222)
                  refine run_gf rfl rfl q222 rfl ?_
                  refine run_gf rfl rfl q222 rfl ?_
                  refine run_gf rfl rfl q222 rfl ?_
                  refine run_s (ss_pickF rfl q222 rfl) rfl ?_
                  refine run_s (ss_assign rfl) rfl ?_
                  refine run_nil ?_
                  refine aw_cond rfl (fun q243 => ?_) (fun q243 => ?_)
                  · cases q243
                  · skip
                    refine aw_seq ?_
                    refine aw_region ?_
                    refine run_s (ss_move rfl) rfl ?_
                    refine run_s (ss_move rfl) rfl ?_
                    refine run_s (ss_geq rfl rfl) rfl ?_
                    refine run_s (ss_move rfl) rfl ?_
                    refine run_split (s := 204) rfl (fun q244 => ?_) (fun q244 => ?_)
                    · replace h := h.1 (of_decide_eq_true q244)
                      refine run_gt rfl rfl q244 ?_
                      refine run_s (ss_move rfl) rfl ?_
                      refine run_gt rfl rfl q244 ?_
                      refine run_s (ss_move rfl) rfl ?_
                      refine run_gt rfl rfl q244 ?_
                      refine run_s (ss_geq rfl rfl) rfl ?_
                      refine run_s (ss_pickT rfl q244 rfl) rfl ?_
                      refine run_s (ss_assign rfl) rfl ?_
                      refine run_nil ?_
                      refine aw_cond rfl (fun q245 => ?_) (fun q245 => ?_)
                      · replace h := h.1 (of_decide_eq_true q245)
                        refine aw_region ?_
                        refine run_s (ss_move rfl) rfl ?_
                        refine run_s (ss_move rfl) rfl ?_
                        refine run_s (ss_move rfl) rfl ?_
                        refine run_s (ss_move rfl) rfl ?_
                        refine run_s (ss_move rfl) rfl ?_
                        refine run_s (ss_move rfl) rfl ?_
                        obtain ⟨q246, h⟩ := h
                        refine run_s (ss_sub rfl rfl q246) rfl ?_
                        obtain ⟨q247, h⟩ := h
                        refine run_s (ss_idxL rfl rfl q247) rfl ?_
                        refine run_s (ss_loadL (f := (fun r => C.lst (ints r))) rfl q247) rfl ?_
                        refine run_s (ss_move rfl) rfl ?_
                        refine run_s (ss_move rfl) rfl ?_
                        obtain ⟨q248, h⟩ := h
                        refine run_s (ss_sub rfl rfl q248) rfl ?_
                        obtain ⟨q249, h⟩ := h
                        refine run_s (ss_idxL rfl rfl q249) rfl ?_
                        refine run_s (ss_loadL (f := ci) rfl q249) rfl ?_
                        obtain ⟨q250, h⟩ := h
                        refine run_s (ss_idxR (f := ci) rfl rfl rfl q250) rfl ?_
                        refine run_s (ss_loadR (f := ci) rfl rfl q250 rfl rfl) rfl ?_
                        obtain ⟨q251, h⟩ := h
                        refine run_s (ss_add rfl rfl q251) rfl ?_
                        refine run_w (ws_buildSlice (id := 226) (ps := [(0, .tmp 225)]) rfl rfl (Nat.le_of_ble_eq_true rfl) rfl ⟨rfl, ?_⟩)
                        obtain ⟨q252, h⟩ := h
                        refine run_w (ws_app1 ci (l := o171_2) (m := [r10_0 + (el r11_0 (el (el (tab ((1 + r1_0) - r10_0) (fun x_ y_ => ((0 : Int) * x_ + (1 % ((1 + r1_0) - r10_0)) * y_) % ((1 + r1_0) - r10_0))) (v23_1 - r10_0)) (v25_2 - r10_0)))]) rfl rfl rfl rfl rfl (Nat.le_of_ble_eq_true rfl) q252 ⟨rfl, ?_⟩)
                        refine run_s (ss_assign rfl) rfl ?_
                        refine run_nil ?_
                        refine aw_gh (gh_to (n := 233) (σ' := [(171, ⟨ints (o171_2 ++ ([r10_0 + (el r11_0 (el (el (tab ((1 + r1_0) - r10_0) (fun x_ y_ => ((0 : Int) * x_ + (1 % ((1 + r1_0) - r10_0)) * y_) % ((1 + r1_0) - r10_0))) (v23_1 - r10_0)) (v25_2 - r10_0)))])), []⟩), (165, ⟨orows o165_1, []⟩), (164, ⟨ints r11_0, []⟩), (800, ⟨[.lst (bys o11_0), ci o11_1, cu o11_2], []⟩)]) (env' := [(5, .c (ci (1 + r1_0))), (18, .c (ci r10_0)), (19, .c (.lst (rows (tab (if 1 < r10_0 then r10_0 else 1) (fun x_ y_ => ((2 % (if 1 < r10_0 then r10_0 else 1)) * x_ + ((if 1 < r10_0 then r10_0 else 1) - 1) * y_) % (if 1 < r10_0 then r10_0 else 1)))))), (20, .c (.lst (rows (tab ((1 + r1_0) - r10_0) (fun x_ y_ => ((0 : Int) * x_ + (1 % ((1 + r1_0) - r10_0)) * y_) % ((1 + r1_0) - r10_0)))))), (21, .ref 164), (22, .ref 165), (23, .c (ci v23_1)), (24, .ref 171), (25, .c (ci v25_2)), (205, .c (ci v25_2)), (206, .c (ci r10_0)), (207, .c (cb (decide (r10_0 ≤ v25_2)))), (233, .cell 800 0), (234, .c (ci most))]) rfl rfl ⟨rfl, rfl, rfl, rfl, rfl, rfl, rfl, rfl, rfl, rfl, rfl, rfl, rfl, rfl, trivial⟩) ?_
                        refine aw_region ?_
                        refine run_s (ss_move rfl) rfl ?_
                        obtain ⟨q253, h⟩ := h
                        refine run_s (ss_add rfl rfl q253) rfl ?_
                        refine run_s (ss_assign rfl) rfl ?_
                        refine run_nil ?_
                        exact ⟨v25_2 + 1, o171_2 ++ ([r10_0 + (el r11_0 (el (el (tab ((1 + r1_0) - r10_0) (fun x_ y_ => ((0 : Int) * x_ + (1 % ((1 + r1_0) - r10_0)) * y_) % ((1 + r1_0) - r10_0))) (v23_1 - r10_0)) (v25_2 - r10_0)))]), ghe_to (n := 233) rfl rfl ⟨rfl, rfl, rfl, rfl, rfl, rfl, rfl, rfl, rfl, rfl, rfl, trivial⟩, h.1, h.2⟩
                      · replace h := h.2 (of_decide_eq_false q245)
                        refine aw_gh (gh_to (n := 233) (σ' := [(171, ⟨ints o171_2, []⟩), (165, ⟨orows o165_1, []⟩), (164, ⟨ints r11_0, []⟩), (800, ⟨[.lst (bys o11_0), ci o11_1, cu o11_2], []⟩)]) (env' := [(5, .c (ci (1 + r1_0))), (18, .c (ci r10_0)), (19, .c (.lst (rows (tab (if 1 < r10_0 then r10_0 else 1) (fun x_ y_ => ((2 % (if 1 < r10_0 then r10_0 else 1)) * x_ + ((if 1 < r10_0 then r10_0 else 1) - 1) * y_) % (if 1 < r10_0 then r10_0 else 1)))))), (20, .c (.lst (rows (tab ((1 + r1_0) - r10_0) (fun x_ y_ => ((0 : Int) * x_ + (1 % ((1 + r1_0) - r10_0)) * y_) % ((1 + r1_0) - r10_0)))))), (21, .ref 164), (22, .ref 165), (23, .c (ci v23_1)), (24, .ref 171), (25, .c (ci v25_2)), (205, .c (ci v25_2)), (206, .c (ci r10_0)), (207, .c (cb (decide (r10_0 ≤ v25_2)))), (233, .cell 800 0), (234, .c (ci most))]) rfl rfl ⟨rfl, rfl, rfl, rfl, rfl, rfl, rfl, rfl, rfl, rfl, rfl, rfl, rfl, rfl, trivial⟩) ?_
                        refine aw_region ?_
                        refine run_s (ss_move rfl) rfl ?_
                        refine run_s (ss_move rfl) rfl ?_
                        refine run_w (ws_buildSlice (id := 179) (ps := [(0, .tmp 178)]) rfl rfl (Nat.le_of_ble_eq_true rfl) rfl ⟨rfl, ?_⟩)
                        obtain ⟨q254, h⟩ := h
                        refine run_w (ws_app1 ci (l := o171_2) (m := [v25_2]) rfl rfl rfl rfl rfl (Nat.le_of_ble_eq_true rfl) q254 ⟨rfl, ?_⟩)
                        refine run_s (ss_assign rfl) rfl ?_
                        refine run_nil ?_
                        refine aw_region ?_
                        refine run_s (ss_move rfl) rfl ?_
                        obtain ⟨q255, h⟩ := h
                        refine run_s (ss_add rfl rfl q255) rfl ?_
                        refine run_s (ss_assign rfl) rfl ?_
                        refine run_nil ?_
                        exact ⟨v25_2 + 1, o171_2 ++ ([v25_2]), ghe_to (n := 233) rfl rfl ⟨rfl, rfl, rfl, rfl, rfl, rfl, rfl, rfl, rfl, rfl, rfl, trivial⟩, h.1, h.2⟩
                    · replace h := h.2 (of_decide_eq_false q244)
                      refine run_gf rfl rfl q244 rfl ?_
                      refine run_gf rfl rfl q244 rfl ?_
                      refine run_gf rfl rfl q244 rfl ?_
                      refine run_s (ss_pickF rfl q244 rfl) rfl ?_
                      refine run_s (ss_assign rfl) rfl ?_
                      refine run_nil ?_
                      refine aw_cond rfl (fun q256 => ?_) (fun q256 => ?_)
                      · cases q256
                      · skip
                        refine aw_gh (gh_to (n := 233) (σ' := [(171, ⟨ints o171_2, []⟩), (165, ⟨orows o165_1, []⟩), (164, ⟨ints r11_0, []⟩), (800, ⟨[.lst (bys o11_0), ci o11_1, cu o11_2], []⟩)]) (env' := [(5, .c (ci (1 + r1_0))), (18, .c (ci r10_0)), (19, .c (.lst (rows (tab (if 1 < r10_0 then r10_0 else 1) (fun x_ y_ => ((2 % (if 1 < r10_0 then r10_0 else 1)) * x_ + ((if 1 < r10_0 then r10_0 else 1) - 1) * y_) % (if 1 < r10_0 then r10_0 else 1)))))), (20, .c (.lst (rows (tab ((1 + r1_0) - r10_0) (fun x_ y_ => ((0 : Int) * x_ + (1 % ((1 + r1_0) - r10_0)) * y_) % ((1 + r1_0) - r10_0)))))), (21, .ref 164), (22, .ref 165), (23, .c (ci v23_1)), (24, .ref 171), (25, .c (ci v25_2)), (233, .cell 800 0), (234, .c (ci most))]) rfl rfl ⟨rfl, rfl, rfl, rfl, rfl, rfl, rfl, rfl, rfl, rfl, rfl, trivial⟩) ?_
                        refine aw_region ?_
                        refine run_s (ss_move rfl) rfl ?_
                        refine run_s (ss_move rfl) rfl ?_
                        refine run_w (ws_buildSlice (id := 179) (ps := [(0, .tmp 178)]) rfl rfl (Nat.le_of_ble_eq_true rfl) rfl ⟨rfl, ?_⟩)
                        obtain ⟨q257, h⟩ := h
                        refine run_w (ws_app1 ci (l := o171_2) (m := [v25_2]) rfl rfl rfl rfl rfl (Nat.le_of_ble_eq_true rfl) q257 ⟨rfl, ?_⟩)
                        refine run_s (ss_assign rfl) rfl ?_
                        refine run_nil ?_
                        refine aw_region ?_
                        refine run_s (ss_move rfl) rfl ?_
                        obtain ⟨q258, h⟩ := h
                        refine run_s (ss_add rfl rfl q258) rfl ?_
                        refine run_s (ss_assign rfl) rfl ?_
                        refine run_nil ?_
                        exact ⟨v25_2 + 1, o171_2 ++ ([v25_2]), ghe_to (n := 233) rfl rfl ⟨rfl, rfl, rfl, rfl, rfl, rfl, rfl, rfl, rfl, rfl, rfl, trivial⟩, h.1, h.2⟩
              · replace h := h.2 (of_decide_eq_false q221)
                refine aw_exit ?_
                refine aw_region ?_
                refine run_s (ss_move rfl) rfl ?_
                refine run_s (ss_move rfl) rfl ?_
                refine run_w (ws_buildSlice (id := 230) (ps := [(0, .tmp 229)]) rfl rfl (Nat.le_of_ble_eq_true rfl) rfl ⟨rfl, ?_⟩)
                refine run_gh (gh_fill (id := 230) (id2 := 171) (j := 0) rfl rfl (Nat.le_of_ble_eq_true rfl) rfl rfl rfl) ?_
                obtain ⟨q259, h⟩ := h
                refine run_w (ws_app1 (fun r => C.own (ints r)) (l := o165_1) (m := [o171_2]) rfl rfl rfl rfl rfl (Nat.le_of_ble_eq_true rfl) q259 ⟨rfl, ?_⟩)
                refine run_s (ss_assign rfl) rfl ?_
                refine run_nil ?_
                refine aw_gh (gh_to (n := 233) (σ' := [(165, ⟨orows (o165_1 ++ ([o171_2])), []⟩), (164, ⟨ints r11_0, []⟩), (800, ⟨[.lst (bys o11_0), ci o11_1, cu o11_2], []⟩)]) (env' := [(5, .c (ci (1 + r1_0))), (18, .c (ci r10_0)), (19, .c (.lst (rows (tab (if 1 < r10_0 then r10_0 else 1) (fun x_ y_ => ((2 % (if 1 < r10_0 then r10_0 else 1)) * x_ + ((if 1 < r10_0 then r10_0 else 1) - 1) * y_) % (if 1 < r10_0 then r10_0 else 1)))))), (20, .c (.lst (rows (tab ((1 + r1_0) - r10_0) (fun x_ y_ => ((0 : Int) * x_ + (1 % ((1 + r1_0) - r10_0)) * y_) % ((1 + r1_0) - r10_0)))))), (21, .ref 164), (22, .ref 165), (23, .c (ci v23_1)), (233, .cell 800 0), (234, .c (ci most))]) rfl rfl ⟨rfl, rfl, rfl, rfl, rfl, rfl, rfl, rfl, rfl, trivial⟩) ?_
                refine aw_region ?_
                refine run_s (ss_move rfl) rfl ?_
                obtain ⟨q260, h⟩ := h
                refine run_s (ss_add rfl rfl q260) rfl ?_
                refine run_s (ss_assign rfl) rfl ?_
                refine run_nil ?_
                exact ⟨v23_1 + 1, o165_1 ++ ([o171_2]), ghe_to (n := 233) rfl rfl ⟨rfl, rfl, rfl, rfl, rfl, rfl, rfl, rfl, rfl, trivial⟩, h.1, h.2⟩
            · replace h := h.2 (of_decide_eq_false q219)
              refine aw_exit ?_
              refine aw_seq ?_
              refine aw_gh (gh_to (n := 233) (σ' := [(165, ⟨orows o165_1, []⟩), (164, ⟨ints r11_0, []⟩), (800, ⟨[.lst (bys o11_0), ci o11_1, cu o11_2], []⟩)]) (env' := [(22, .ref 165), (233, .cell 800 0), (234, .c (ci most))]) rfl rfl ⟨rfl, rfl, rfl, trivial⟩) ?_
              refine aw_region ?_
              refine run_s (ss_move rfl) rfl ?_
              refine run_s (ss_assign rfl) rfl ?_
              refine run_nil ?_
              refine aw_ret ?_
              exact retAM_mk (retv1 rfl (rv_tmp rfl)) rfl rfl rfl ⟨_, _, _, _, h, rfl, rfl⟩

theorem c_spec_l03DrawTable (s1 : List Int) (s2 : Int) (s3 : Int) (most : Int) (hp : okS s1 s2 s3 ∧ 1 ≤ most ∧ most ≤ 12) : AM Try.prog 179 [.obox [.lst (bys s1), ci s2, cu s3], ci most] (fun R_ O_ => ∃ y0 w0 w1 w2, ((isTab y0 = true ∧ (y0.length : Int) ≤ most) ∧ w0 = s1 ∧ okS s1 w1 w2) ∧ R_ = .own (orows y0) ∧ O_ = [.obox [.lst (bys w0), ci w1, cu w2], ci most]) :=
  w_spec_l03DrawTable s1 s2 s3 most (fun y0 w0 w1 w2 => (isTab y0 = true ∧ (y0.length : Int) ≤ most) ∧ w0 = s1 ∧ okS s1 w1 w2) (p_spec_l03DrawTable s1 s2 s3 most hp)

set_option maxRecDepth 100000 in
set_option maxHeartbeats 4000000 in
theorem w_spec_l03Draw (s1 : List Int) (s2 : Int) (s3 : Int) (most : Int) (Q : List (List Int) → List Int → Int → Int → Prop) (h : wp_spec_l03Draw s1 s2 s3 most Q) : AM Try.prog 146 [.obox [.lst (bys s1), ci s2, cu s3], ci most] (fun R_ O_ => ∃ y0 w0 w1 w2, Q y0 w0 w1 w2 ∧ R_ = .agg [.own (orows y0)] ∧ O_ = [.obox [.lst (bys w0), ci w1, cu w2], ci most]) := by
  refine am_enter (n := 20) (m := 2) Try.func146 rfl (by rfl) rfl rfl (Nat.le_of_ble_eq_true rfl) [800] rfl ?_
  unfold wp_spec_l03Draw at h
  refine aw_seq ?_
  refine aw_gh (gh_to (n := 20) (σ' := [(800, ⟨[.lst (bys s1), ci s2, cu s3], []⟩)]) (env' := [(0, .cell 800 0), (1, .c (ci most)), (20, .cell 800 0), (21, .c (ci most))]) rfl rfl ⟨rfl, rfl, rfl, rfl, trivial⟩) ?_
  refine aw_region ?_
  refine run_w (ws_alloc (id := 4) rfl (Nat.le_of_ble_eq_true rfl) ⟨rfl, ?_⟩)
  refine run_nil ?_
  refine aw_seq ?_
  refine aw_region ?_
  refine run_s (ss_move rfl) rfl ?_
  refine run_s (ss_move rfl) rfl ?_
  obtain ⟨q1, h⟩ := h
  refine run_w (ws_callM (xs := [.tmp 6, .tmp 7]) (cs := [.obox [.lst (bys s1), ci s2, cu s3], ci most]) (ids := [8]) rfl (.inr ⟨rfl, rfl⟩) rfl rfl rfl (c_spec_l03DrawTable s1 s2 s3 most q1) rfl rfl ?_ )
  rintro _ _ ⟨r1_0, o1_0, o1_1, o1_2, q2, rfl, rfl⟩
  replace h := h r1_0 o1_0 o1_1 o1_2 q2
  refine ⟨rfl, rfl, ?_⟩
  refine run_s (ss_assign rfl) rfl ?_
  refine run_nil ?_
  refine aw_seq ?_
  refine aw_seq ?_
  refine aw_gh (gh_to (n := 20) (σ' := [(8, ⟨orows r1_0, []⟩), (4, ⟨[cnil], []⟩), (800, ⟨[.lst (bys o1_0), ci o1_1, cu o1_2], []⟩)]) (env' := [(0, .cell 800 0), (4, .cell 4 0), (5, .ref 8), (20, .cell 800 0), (21, .c (ci most))]) rfl rfl ⟨rfl, rfl, rfl, rfl, rfl, trivial⟩) ?_
  refine aw_region ?_
  refine run_s (ss_move rfl) rfl ?_
  obtain ⟨q3, h⟩ := h
  refine run_w (ws_callM (xs := [.tmp 9, .const (.int .i64 (2))]) (cs := [.obox [.lst (bys o1_0), ci o1_1, cu o1_2], ci 2]) (ids := []) rfl (.inr ⟨rfl, rfl⟩) rfl rfl rfl (c_spec_l01Next o1_0 o1_1 o1_2 2 q3) rfl rfl ?_ )
  rintro _ _ ⟨r2_0, o2_0, o2_1, o2_2, q4, rfl, rfl⟩
  replace h := h r2_0 o2_0 o2_1 o2_2 q4
  refine ⟨rfl, rfl, ?_⟩
  refine run_s (ss_eql rfl rfl) rfl ?_
  refine run_nil ?_
  refine aw_cond rfl (fun q5 => ?_) (fun q5 => ?_)
  · replace h := h.1 (of_decide_eq_true q5)
    refine aw_region ?_
    refine run_s (ss_move rfl) rfl ?_
    refine run_s (ss_move rfl) rfl ?_
    refine run_s (ss_move rfl) rfl ?_
    refine run_s (ss_lenR (f := (fun r => C.own (ints r))) rfl rfl) rfl ?_
    obtain ⟨q6, h⟩ := h
    refine run_w (ws_callM (xs := [.tmp 13, .tmp 15]) (cs := [.obox [.lst (bys o2_0), ci o2_1, cu o2_2], ci (r1_0.length : Int)]) (ids := [16]) rfl (.inr ⟨rfl, rfl⟩) rfl rfl rfl (c_spec_l03DrawPerm o2_0 o2_1 o2_2 (r1_0.length : Int) q6) rfl rfl ?_ )
    rintro _ _ ⟨r3_0, o3_0, o3_1, o3_2, q7, rfl, rfl⟩
    replace h := h r3_0 o3_0 o3_1 o3_2 q7
    refine ⟨rfl, rfl, ?_⟩
    obtain ⟨q8, h⟩ := h
    refine run_w (ws_callR (xs := [.tmp 12, .tmp 16]) (cs := [.own (orows r1_0), .own (ints r3_0)]) (ids := [17]) rfl (.inr ⟨rfl, rfl⟩) rfl rfl (fz_cons (fz_own (fz_map (fun _ => (fz_own (fz_map (fun _ => rfl) _))) _)) (fz_cons (fz_own (fz_map (fun _ => rfl) _)) fz_nil)) (c_spec_l03Image r1_0 r3_0 q8) rfl ?_ )
    rintro _ ⟨r4_0, q9, rfl⟩
    replace h := h r4_0 q9
    refine ⟨(slf_own (slfL_map (f := (fun r => C.own (ints r))) (fun _ => (slf_own (slfL_map (f := ci) (fun _ => rfl) _))) _)), rfl, ?_⟩
    refine run_s (ss_assign rfl) rfl ?_
    refine run_nil ?_
    refine aw_seq ?_
    refine aw_gh (gh_to (n := 20) (σ' := [(17, ⟨orows r4_0, []⟩), (16, ⟨ints r3_0, []⟩), (8, ⟨orows r1_0, []⟩), (4, ⟨[cnil], []⟩), (800, ⟨[.lst (bys o3_0), ci o3_1, cu o3_2], []⟩)]) (env' := [(4, .cell 4 0), (5, .ref 17), (20, .cell 800 0), (21, .c (ci most))]) rfl rfl ⟨rfl, rfl, rfl, rfl, trivial⟩) ?_
    refine aw_region ?_
    refine run_s (ss_move rfl) rfl ?_
    refine run_s (ss_build (ps := [(0, .tmp 18)]) rfl rfl) rfl ?_
    refine run_w (ws_storeS rfl rfl (Nat.le_of_ble_eq_true rfl) rfl rfl rfl ⟨rfl, ?_⟩)
    refine run_nil ?_
    refine aw_ret ?_
    exact retAM_mk (retv1 rfl (rv_struct rfl rfl rfl)) rfl rfl rfl ⟨_, _, _, _, h, rfl, rfl⟩
  · replace h := h.2 (of_decide_eq_false q5)
    refine aw_skip ?_
    refine aw_seq ?_
    refine aw_gh (gh_to (n := 20) (σ' := [(8, ⟨orows r1_0, []⟩), (4, ⟨[cnil], []⟩), (800, ⟨[.lst (bys o2_0), ci o2_1, cu o2_2], []⟩)]) (env' := [(4, .cell 4 0), (5, .ref 8), (20, .cell 800 0), (21, .c (ci most))]) rfl rfl ⟨rfl, rfl, rfl, rfl, trivial⟩) ?_
    refine aw_region ?_
    refine run_s (ss_move rfl) rfl ?_
    refine run_s (ss_build (ps := [(0, .tmp 18)]) rfl rfl) rfl ?_
    refine run_w (ws_storeS rfl rfl (Nat.le_of_ble_eq_true rfl) rfl rfl rfl ⟨rfl, ?_⟩)
    refine run_nil ?_
    refine aw_ret ?_
    exact retAM_mk (retv1 rfl (rv_struct rfl rfl rfl)) rfl rfl rfl ⟨_, _, _, _, h, rfl, rfl⟩

theorem c_spec_l03Draw (s1 : List Int) (s2 : Int) (s3 : Int) (most : Int) (hp : okS s1 s2 s3 ∧ 1 ≤ most ∧ most ≤ 12) : AM Try.prog 146 [.obox [.lst (bys s1), ci s2, cu s3], ci most] (fun R_ O_ => ∃ y0 w0 w1 w2, ((isTab y0 = true ∧ (y0.length : Int) ≤ most) ∧ w0 = s1 ∧ okS s1 w1 w2) ∧ R_ = .agg [.own (orows y0)] ∧ O_ = [.obox [.lst (bys w0), ci w1, cu w2], ci most]) :=
  w_spec_l03Draw s1 s2 s3 most (fun y0 w0 w1 w2 => (isTab y0 = true ∧ (y0.length : Int) ≤ most) ∧ w0 = s1 ∧ okS s1 w1 w2) (p_spec_l03Draw s1 s2 s3 most hp)

set_option maxRecDepth 100000 in
set_option maxHeartbeats 4000000 in
theorem w_spec_l03DrawAny (s1 : List Int) (s2 : Int) (s3 : Int) (most : Int) (Q : List (List Int) → List Int → Int → Int → Prop) (h : wp_spec_l03DrawAny s1 s2 s3 most Q) : AM Try.prog 75 [.obox [.lst (bys s1), ci s2, cu s3], ci most] (fun R_ O_ => ∃ y0 w0 w1 w2, Q y0 w0 w1 w2 ∧ R_ = .agg [.own (orows y0)] ∧ O_ = [.obox [.lst (bys w0), ci w1, cu w2], ci most]) := by
  refine am_enter (n := 50) (m := 2) Try.func75 rfl (by rfl) rfl rfl (Nat.le_of_ble_eq_true rfl) [800] rfl ?_
  unfold wp_spec_l03DrawAny at h
  refine aw_seq ?_
  refine aw_gh (gh_to (n := 50) (σ' := [(800, ⟨[.lst (bys s1), ci s2, cu s3], []⟩)]) (env' := [(0, .cell 800 0), (1, .c (ci most)), (50, .cell 800 0), (51, .c (ci most))]) rfl rfl ⟨rfl, rfl, rfl, rfl, trivial⟩) ?_
  refine aw_region ?_
  refine run_w (ws_alloc (id := 4) rfl (Nat.le_of_ble_eq_true rfl) ⟨rfl, ?_⟩)
  refine run_nil ?_
  refine aw_seq ?_
  refine aw_region ?_
  refine run_s (ss_move rfl) rfl ?_
  refine run_s (ss_move rfl) rfl ?_
  obtain ⟨q1, h⟩ := h
  refine run_w (ws_callM (xs := [.tmp 7, .tmp 8]) (cs := [.obox [.lst (bys s1), ci s2, cu s3], ci most]) (ids := [9]) rfl (.inr ⟨rfl, rfl⟩) rfl rfl rfl (c_spec_l03Draw s1 s2 s3 most q1) rfl rfl ?_ )
  rintro _ _ ⟨r1_0, o1_0, o1_1, o1_2, q2, rfl, rfl⟩
  replace h := h r1_0 o1_0 o1_1 o1_2 q2
  refine ⟨rfl, rfl, ?_⟩
  refine run_w (ws_alloc (id := 5) rfl (Nat.le_of_ble_eq_true rfl) ⟨rfl, ?_⟩)
  refine run_w (ws_storeS rfl rfl (Nat.le_of_ble_eq_true rfl) rfl rfl rfl ⟨rfl, ?_⟩)
  refine run_nil ?_
  refine aw_seq ?_
  refine aw_region ?_
  refine run_s (ss_field_cell rfl) rfl ?_
  refine run_s (ss_loadH rfl rfl rfl rfl) rfl ?_
  refine run_s (ss_lenR (f := (fun r => C.own (ints r))) rfl rfl) rfl ?_
  refine run_s (ss_assign rfl) rfl ?_
  refine run_nil ?_
  refine aw_seq ?_
  refine aw_seq ?_
  refine aw_gh (gh_to (n := 50) (σ' := [(5, ⟨[.hole], [(0, .ref 9)]⟩), (9, ⟨orows r1_0, []⟩), (4, ⟨[cnil], []⟩), (800, ⟨[.lst (bys o1_0), ci o1_1, cu o1_2], []⟩)]) (env' := [(0, .cell 800 0), (4, .cell 4 0), (5, .cell 5 0), (6, .c (ci (r1_0.length : Int))), (50, .cell 800 0), (51, .c (ci most))]) rfl rfl ⟨rfl, rfl, rfl, rfl, rfl, rfl, trivial⟩) ?_
  refine aw_region ?_
  refine run_s (ss_move rfl) rfl ?_
  obtain ⟨q3, h⟩ := h
  refine run_w (ws_callM (xs := [.tmp 13, .const (.int .i64 (24))]) (cs := [.obox [.lst (bys o1_0), ci o1_1, cu o1_2], ci 24]) (ids := []) rfl (.inr ⟨rfl, rfl⟩) rfl rfl rfl (c_spec_l01Next o1_0 o1_1 o1_2 24 q3) rfl rfl ?_ )
  rintro _ _ ⟨r2_0, o2_0, o2_1, o2_2, q4, rfl, rfl⟩
  replace h := h r2_0 o2_0 o2_1 o2_2 q4
  refine ⟨rfl, rfl, ?_⟩
  refine run_nil ?_
  refine aw_block ?_
  refine aw_seq ?_
  refine aw_region ?_
  refine run_s (ss_eql rfl rfl) rfl ?_
  refine run_s (ss_assign rfl) rfl ?_
  refine run_nil ?_
  refine aw_cond rfl (fun q5 => ?_) (fun q5 => ?_)
  · replace h := h.1 (of_decide_eq_true q5)
    refine aw_gh (gh_to (n := 50) (σ' := [(5, ⟨[.hole], [(0, .ref 9)]⟩), (9, ⟨orows r1_0, []⟩), (4, ⟨[cnil], []⟩), (800, ⟨[.lst (bys o2_0), ci o2_1, cu o2_2], []⟩)]) (env' := [(0, .cell 800 0), (4, .cell 4 0), (5, .cell 5 0), (6, .c (ci (r1_0.length : Int))), (50, .cell 800 0), (51, .c (ci most))]) rfl rfl ⟨rfl, rfl, rfl, rfl, rfl, rfl, trivial⟩) ?_
    refine aw_regionD (kd := kdl [0, 1, 0, 0, 2, 0, 0, 2, 0, 3]) (ord := [0, 2, 3, 5, 6, 1, 4, 7, 8, 9]) [800] mixed (by kernel_rfl) ?_
    refine rd_s rfl rfl trivial (ss_field_cell rfl) rfl ?_
    refine rd_s rfl rfl trivial (ss_move rfl) rfl ?_
    refine rd_s rfl rfl trivial (ss_move rfl) rfl ?_
    refine rd_s rfl rfl trivial (ss_move rfl) rfl ?_
    refine rd_s rfl rfl trivial (ss_move rfl) rfl ?_
    refine rd_l rfl rfl trivial (ss_loadH rfl rfl rfl rfl) rfl ?_
    obtain ⟨q6, h⟩ := h
    refine rd_w rfl rfl trivial rfl rfl (ws_callM (xs := [.tmp 19, .tmp 20]) (cs := [.obox [.lst (bys o2_0), ci o2_1, cu o2_2], ci (r1_0.length : Int)]) (ids := []) rfl (.inr ⟨rfl, rfl⟩) rfl rfl rfl (c_spec_l01Next o2_0 o2_1 o2_2 (r1_0.length : Int) q6) rfl rfl ?_ )
    rintro _ _ ⟨r3_0, o3_0, o3_1, o3_2, q7, rfl, rfl⟩
    replace h := h r3_0 o3_0 o3_1 o3_2 q7
    refine ⟨rfl, rfl, ?_⟩
    obtain ⟨q8, h⟩ := h
    refine rd_w rfl rfl trivial rfl rfl (ws_callM (xs := [.tmp 22, .tmp 23]) (cs := [.obox [.lst (bys o3_0), ci o3_1, cu o3_2], ci (r1_0.length : Int)]) (ids := [24]) rfl (.inr ⟨rfl, rfl⟩) rfl rfl rfl (c_spec_l03DrawPerm o3_0 o3_1 o3_2 (r1_0.length : Int) q8) rfl rfl ?_ )
    rintro _ _ ⟨r4_0, o4_0, o4_1, o4_2, q9, rfl, rfl⟩
    replace h := h r4_0 o4_0 o4_1 o4_2 q9
    refine ⟨rfl, rfl, ?_⟩
    obtain ⟨q10, h⟩ := h
    refine rd_s rfl rfl trivial (ss_idxR (f := (fun r => C.own (ints r))) rfl rfl rfl q10) rfl ?_
    refine rd_f rfl rfl trivial (ws_storeV rfl rfl (map_lt q10) rfl rfl rfl rfl ⟨rfl, ?_⟩)
    refine rd_nil ?_
    refine aw_seq ?_
    refine aw_gh (gh_to (n := 50) (σ' := [(24, ⟨ints r4_0, []⟩), (5, ⟨[.hole], [(0, .ref 9)]⟩), (9, ⟨(orows r1_0).set r3_0.toNat .hole, [(r3_0.toNat, .ref 24)]⟩), (4, ⟨[cnil], []⟩), (800, ⟨[.lst (bys o4_0), ci o4_1, cu o4_2], []⟩)]) (env' := [(4, .cell 4 0), (5, .cell 5 0), (50, .cell 800 0), (51, .c (ci most))]) rfl rfl ⟨rfl, rfl, rfl, rfl, trivial⟩) ?_
    refine aw_region ?_
    refine run_s (ss_loadS rfl rfl rfl rfl) rfl ?_
    refine run_w (ws_storeS rfl rfl (Nat.le_of_ble_eq_true rfl) rfl rfl rfl ⟨rfl, ?_⟩)
    refine run_nil ?_
    refine aw_gh (gh_fillA (id := 9) (id2 := 24) (f := (fun r => C.own (ints r))) (v := r4_0) rfl lk_self rfl q10 rfl rfl kr_self) ?_
    refine aw_ret ?_
    exact retAM_mk (retv1 rfl (rv_struct rfl rfl rfl)) rfl rfl rfl ⟨_, _, _, _, h, rfl, rfl⟩
  · replace h := h.2 (of_decide_eq_false q5)
    refine aw_seq ?_
    refine aw_gh (gh_to (n := 50) (σ' := [(5, ⟨[.hole], [(0, .ref 9)]⟩), (9, ⟨orows r1_0, []⟩), (4, ⟨[cnil], []⟩), (800, ⟨[.lst (bys o2_0), ci o2_1, cu o2_2], []⟩)]) (env' := [(0, .cell 800 0), (4, .cell 4 0), (5, .cell 5 0), (6, .c (ci (r1_0.length : Int))), (14, .c (ci r2_0)), (50, .cell 800 0), (51, .c (ci most))]) rfl rfl ⟨rfl, rfl, rfl, rfl, rfl, rfl, rfl, trivial⟩) ?_
    refine aw_region ?_
    refine run_s (ss_eql rfl rfl) rfl ?_
    refine run_s (ss_assign rfl) rfl ?_
    refine run_nil ?_
    refine aw_cond rfl (fun q11 => ?_) (fun q11 => ?_)
    · replace h := h.1 (of_decide_eq_true q11)
      refine aw_gh (gh_to (n := 50) (σ' := [(5, ⟨[.hole], [(0, .ref 9)]⟩), (9, ⟨orows r1_0, []⟩), (4, ⟨[cnil], []⟩), (800, ⟨[.lst (bys o2_0), ci o2_1, cu o2_2], []⟩)]) (env' := [(0, .cell 800 0), (4, .cell 4 0), (5, .cell 5 0), (6, .c (ci (r1_0.length : Int))), (50, .cell 800 0), (51, .c (ci most))]) rfl rfl ⟨rfl, rfl, rfl, rfl, rfl, rfl, trivial⟩) ?_
      refine aw_regionD (kd := kdl [0, 1, 0, 0, 2, 0, 1, 0, 0, 2, 0, 0, 0, 2, 0, 3]) (ord := [0, 2, 3, 7, 8, 10, 11, 12, 1, 4, 5, 6, 9, 13, 14, 15]) [800] mixed (by kernel_rfl) ?_
      refine rd_s rfl rfl trivial (ss_field_cell rfl) rfl ?_
      refine rd_s rfl rfl trivial (ss_move rfl) rfl ?_
      refine rd_s rfl rfl trivial (ss_move rfl) rfl ?_
      refine rd_s rfl rfl trivial (ss_move rfl) rfl ?_
      refine rd_s rfl rfl trivial (ss_move rfl) rfl ?_
      refine rd_s rfl rfl trivial (ss_move rfl) rfl ?_
      refine rd_s rfl rfl trivial (ss_move rfl) rfl ?_
      obtain ⟨q12, h⟩ := h
      refine rd_s rfl rfl trivial (ss_add rfl rfl q12) rfl ?_
      refine rd_l rfl rfl trivial (ss_loadH rfl rfl rfl rfl) rfl ?_
      obtain ⟨q13, h⟩ := h
      refine rd_w rfl rfl trivial rfl rfl (ws_callM (xs := [.tmp 30, .tmp 31]) (cs := [.obox [.lst (bys o2_0), ci o2_1, cu o2_2], ci (r1_0.length : Int)]) (ids := []) rfl (.inr ⟨rfl, rfl⟩) rfl rfl rfl (c_spec_l01Next o2_0 o2_1 o2_2 (r1_0.length : Int) q13) rfl rfl ?_ )
      rintro _ _ ⟨r5_0, o5_0, o5_1, o5_2, q14, rfl, rfl⟩
      replace h := h r5_0 o5_0 o5_1 o5_2 q14
      refine ⟨rfl, rfl, ?_⟩
      obtain ⟨q15, h⟩ := h
      refine rd_s rfl rfl trivial (ss_idxR (f := (fun r => C.own (ints r))) rfl rfl rfl q15) rfl ?_
      refine rd_open 1001 (id := 9) (j := r5_0.toNat) rfl (map_get (f := (fun r => C.own (ints r))) q15) rfl rfl rfl ?_
      refine rd_l rfl rfl trivial (ss_loadH rfl rfl lk_self rfl) rfl ?_
      obtain ⟨q16, h⟩ := h
      refine rd_w rfl rfl trivial rfl rfl (ws_callM (xs := [.tmp 35, .tmp 36]) (cs := [.obox [.lst (bys o5_0), ci o5_1, cu o5_2], ci (r1_0.length : Int)]) (ids := []) rfl (.inr ⟨rfl, rfl⟩) rfl rfl rfl (c_spec_l01Next o5_0 o5_1 o5_2 (r1_0.length : Int) q16) rfl rfl ?_ )
      rintro _ _ ⟨r6_0, o6_0, o6_1, o6_2, q17, rfl, rfl⟩
      replace h := h r6_0 o6_0 o6_1 o6_2 q17
      refine ⟨rfl, rfl, ?_⟩
      obtain ⟨q18, h⟩ := h
      refine rd_w rfl rfl trivial rfl rfl (ws_callM (xs := [.tmp 38, .tmp 40]) (cs := [.obox [.lst (bys o6_0), ci o6_1, cu o6_2], ci ((r1_0.length : Int) + 1)]) (ids := []) rfl (.inr ⟨rfl, rfl⟩) rfl rfl rfl (c_spec_l01Next o6_0 o6_1 o6_2 ((r1_0.length : Int) + 1) q18) rfl rfl ?_ )
      rintro _ _ ⟨r7_0, o7_0, o7_1, o7_2, q19, rfl, rfl⟩
      replace h := h r7_0 o7_0 o7_1 o7_2 q19
      refine ⟨rfl, rfl, ?_⟩
      obtain ⟨q20, h⟩ := h
      refine rd_s rfl rfl trivial (ss_idxR (f := ci) rfl rfl rfl q20) rfl ?_
      refine rd_f rfl rfl trivial (ws_storeE rfl rfl (map_lt q20) rfl rfl (map_se (f := ci)) rfl ⟨rfl, ?_⟩)
      refine rd_nil ?_
      refine aw_seq ?_
      refine aw_gh (gh_to (n := 50) (σ' := [(1001, ⟨ints (se (el r1_0 r5_0) r6_0 r7_0), []⟩), (5, ⟨[.hole], [(0, .ref 9)]⟩), (9, ⟨(orows r1_0).set r5_0.toNat .hole, [(r5_0.toNat, .ref 1001)]⟩), (4, ⟨[cnil], []⟩), (800, ⟨[.lst (bys o7_0), ci o7_1, cu o7_2], []⟩)]) (env' := [(4, .cell 4 0), (5, .cell 5 0), (50, .cell 800 0), (51, .c (ci most))]) rfl rfl ⟨rfl, rfl, rfl, rfl, trivial⟩) ?_
      refine aw_region ?_
      refine run_s (ss_loadS rfl rfl rfl rfl) rfl ?_
      refine run_w (ws_storeS rfl rfl (Nat.le_of_ble_eq_true rfl) rfl rfl rfl ⟨rfl, ?_⟩)
      refine run_nil ?_
      refine aw_gh (gh_fillA (id := 9) (id2 := 1001) (f := (fun r => C.own (ints r))) (v := se (el r1_0 r5_0) r6_0 r7_0) rfl lk_self rfl q15 rfl rfl kr_self) ?_
      refine aw_ret ?_
      exact retAM_mk (retv1 rfl (rv_struct rfl rfl rfl)) rfl rfl rfl ⟨_, _, _, _, h, rfl, rfl⟩
    · replace h := h.2 (of_decide_eq_false q11)
      refine aw_seq ?_
      refine aw_gh (gh_to (n := 50) (σ' := [(5, ⟨[.hole], [(0, .ref 9)]⟩), (9, ⟨orows r1_0, []⟩), (4, ⟨[cnil], []⟩), (800, ⟨[.lst (bys o2_0), ci o2_1, cu o2_2], []⟩)]) (env' := [(4, .cell 4 0), (5, .cell 5 0), (14, .c (ci r2_0)), (50, .cell 800 0), (51, .c (ci most))]) rfl rfl ⟨rfl, rfl, rfl, rfl, rfl, trivial⟩) ?_
      refine aw_region ?_
      refine run_s (ss_eql rfl rfl) rfl ?_
      refine run_s (ss_assign rfl) rfl ?_
      refine run_nil ?_
      refine aw_cond rfl (fun q21 => ?_) (fun q21 => ?_)
      · replace h := h.1 (of_decide_eq_true q21)
        refine aw_region ?_
        refine run_s (ss_field_cell rfl) rfl ?_
        refine run_s (ss_loadH rfl rfl rfl rfl) rfl ?_
        obtain ⟨q22, h⟩ := h
        refine run_w (ws_slR (f := (fun r => C.own (ints r))) rfl rfl (bnd_some rfl) bnd_none q22 ⟨rfl, ?_⟩)
        refine run_s (ss_field_cell rfl) rfl ?_
        refine run_w (ws_store rfl rfl (Nat.le_of_ble_eq_true rfl) rfl rfl ⟨rfl, ?_⟩)
        refine run_nil ?_
        refine aw_seq ?_
        refine aw_gh (gh_to (n := 50) (σ' := [(5, ⟨[.hole], [(0, .ref 9)]⟩), (9, ⟨orows (sl r1_0 1 (r1_0.length : Int)), []⟩), (4, ⟨[cnil], []⟩), (800, ⟨[.lst (bys o2_0), ci o2_1, cu o2_2], []⟩)]) (env' := [(4, .cell 4 0), (5, .cell 5 0), (50, .cell 800 0), (51, .c (ci most))]) rfl rfl ⟨rfl, rfl, rfl, rfl, trivial⟩) ?_
        refine aw_region ?_
        refine run_s (ss_loadS rfl rfl rfl rfl) rfl ?_
        refine run_w (ws_storeS rfl rfl (Nat.le_of_ble_eq_true rfl) rfl rfl rfl ⟨rfl, ?_⟩)
        refine run_nil ?_
        refine aw_ret ?_
        exact retAM_mk (retv1 rfl (rv_struct rfl rfl rfl)) rfl rfl rfl ⟨_, _, _, _, h, rfl, rfl⟩
      · replace h := h.2 (of_decide_eq_false q21)
        refine aw_skip ?_
        refine aw_seq ?_
        refine aw_gh (gh_to (n := 50) (σ' := [(5, ⟨[.hole], [(0, .ref 9)]⟩), (9, ⟨orows r1_0, []⟩), (4, ⟨[cnil], []⟩), (800, ⟨[.lst (bys o2_0), ci o2_1, cu o2_2], []⟩)]) (env' := [(4, .cell 4 0), (5, .cell 5 0), (50, .cell 800 0), (51, .c (ci most))]) rfl rfl ⟨rfl, rfl, rfl, rfl, trivial⟩) ?_
        refine aw_region ?_
        refine run_s (ss_loadS rfl rfl rfl rfl) rfl ?_
        refine run_w (ws_storeS rfl rfl (Nat.le_of_ble_eq_true rfl) rfl rfl rfl ⟨rfl, ?_⟩)
        refine run_nil ?_
        refine aw_ret ?_
        exact retAM_mk (retv1 rfl (rv_struct rfl rfl rfl)) rfl rfl rfl ⟨_, _, _, _, h, rfl, rfl⟩

theorem c_spec_l03DrawAny (s1 : List Int) (s2 : Int) (s3 : Int) (most : Int) (hp : okS s1 s2 s3 ∧ 1 ≤ most ∧ most ≤ 12) : AM Try.prog 75 [.obox [.lst (bys s1), ci s2, cu s3], ci most] (fun R_ O_ => ∃ y0 w0 w1 w2, (drT most y0 ∧ w0 = s1 ∧ okS s1 w1 w2) ∧ R_ = .agg [.own (orows y0)] ∧ O_ = [.obox [.lst (bys w0), ci w1, cu w2], ci most]) :=
  w_spec_l03DrawAny s1 s2 s3 most (fun y0 w0 w1 w2 => drT most y0 ∧ w0 = s1 ∧ okS s1 w1 w2) (p_spec_l03DrawAny s1 s2 s3 most hp)

set_option maxRecDepth 100000 in
set_option maxHeartbeats 4000000 in
theorem w_laws_big (code : List Int) (Q : Bool → Prop) (h : wp_laws_big code Q) : AF Try.prog 9 [.lst (bys code)] (fun R_ => ∃ y0, Q y0 ∧ R_ = cb y0) := by
  refine AF.ofWQ (af_enter (n := 6) Try.func9 rfl (by rfl) rfl (Nat.le_of_ble_eq_true rfl) ?_)
  unfold wp_laws_big at h
  refine aw_seq ?_
  refine aw_gh (gh_to (n := 6) (σ' := []) (env' := [(0, .c (.lst (bys code)))]) rfl rfl ⟨rfl, trivial⟩) ?_
  refine aw_region ?_
  refine run_s (ss_assign rfl) rfl ?_
  refine run_nil ?_
  refine aw_seq ?_
  refine aw_region ?_
  refine run_s (ss_move rfl) rfl ?_
  refine run_s (ss_lenL (f := cy) rfl) rfl ?_
  refine run_s (ss_gtr rfl rfl) rfl ?_
  refine run_s (ss_assign rfl) rfl ?_
  refine run_nil ?_
  refine aw_ret ?_
  exact retAF_mk (retv1 rfl (rv_tmp rfl)) rfl rfl ⟨_, (cle_refl _), _, h, rfl⟩

theorem c_laws_big (code : List Int)  : AF Try.prog 9 [.lst (bys code)] (fun R_ => R_ = cb (decide (4096 < (code.length : Int)))) :=
  (w_laws_big code (fun y0 => y0 = decide (4096 < (code.length : Int))) (p_laws_big code)).mono (by rintro r ⟨_, rfl, rfl⟩; rfl)

end Go.Proofs.Ytbodlnpmplcaoaa

/- Contracts of functions that the law FnExactCycleIsomorphism reaches: conditions, plain proofs, walks; no condition. -/
import Derived.Test.YtkmoeodoidpjkaaKECycleIsomorphismd
import Derived.Test.YtkmoeodoidpjkaaPP
namespace Go.Proofs.Ytkmoeodoidpjkaa

set_option maxRecDepth 100000 in
set_option maxHeartbeats 4000000 in
theorem w_spec_l03Refine (a : List (List (List Int))) (b : List (List (List Int))) (first : List Int) (second : List Int) (Q : List Int → List Int → Bool → Prop) (h : wp_spec_l03Refine a b first second Q) : AF Try.prog 38 [.lst (tabs a), .lst (tabs b), .lst (ints first), .lst (ints second)] (fun R_ => ∃ y0 y1 y2, Q y0 y1 y2 ∧ R_ = .tup [.lst (ints y0), .lst (ints y1), cb y2]) := by
  refine AF.ofWQ (af_enter (n := 173) Try.func38 rfl (by rfl) rfl (Nat.le_of_ble_eq_true rfl) ?_)
  unfold wp_spec_l03Refine at h
  refine aw_seq ?_
  refine aw_gh (gh_to (n := 173) (σ' := []) (env' := [(0, .c (.lst (tabs a))), (1, .c (.lst (tabs b))), (2, .c (.lst (ints first))), (3, .c (.lst (ints second)))]) rfl rfl ⟨rfl, rfl, rfl, rfl, trivial⟩) ?_
  refine aw_region ?_
  refine run_s (ss_assign rfl) rfl ?_
  refine run_s (ss_assign rfl) rfl ?_
  refine run_s (ss_assign rfl) rfl ?_
  refine run_nil ?_
  refine aw_seq ?_
  refine aw_region ?_
  refine run_s (ss_move rfl) rfl ?_
  refine run_s (ss_lenL (f := ci) rfl) rfl ?_
  refine run_s (ss_assign rfl) rfl ?_
  refine run_nil ?_
  refine aw_seq ?_
  refine aw_region ?_
  refine run_s (ss_assign rfl) rfl ?_
  refine run_nil ?_
  refine aw_block ?_
  obtain ⟨H1, m1, q1, h⟩ := h
  refine aw_loop3 (fun (v2_1 : List Int) (v3_1 : List Int) (v12_1 : Int) => ⟨[], [(0, .c (.lst (tabs a))), (1, .c (.lst (tabs b))), (2, .c (.lst (ints v2_1))), (3, .c (.lst (ints v3_1))), (11, .c (ci (first.length : Int))), (12, .c (ci v12_1))], 173⟩) H1 m1 ⟨first, second, 0, ghe_to (n := 173) rfl rfl ⟨rfl, rfl, rfl, rfl, rfl, rfl, trivial⟩, q1⟩ ?_
  rintro v2_1 v3_1 v12_1 q1
  replace h := h v2_1 v3_1 v12_1 q1
  refine aw_block ?_
  refine aw_seq ?_
  refine aw_region ?_
  refine run_w (ws_buildSlice (id := 27) (ps := []) rfl rfl (Nat.le_of_ble_eq_true rfl) rfl ⟨rfl, ?_⟩)
  refine run_s (ss_assign rfl) rfl ?_
  refine run_nil ?_
  refine aw_seq ?_
  refine aw_seq ?_
  refine aw_region ?_
  refine run_s (ss_assign rfl) rfl ?_
  refine run_nil ?_
  refine aw_block ?_
  obtain ⟨H2, m2, q2, h⟩ := h
  refine aw_loop2 (fun (v14_2 : Int) (o27_2 : List (List Int)) => ⟨[(27, ⟨rows o27_2, []⟩)], [(0, .c (.lst (tabs a))), (1, .c (.lst (tabs b))), (2, .c (.lst (ints v2_1))), (3, .c (.lst (ints v3_1))), (11, .c (ci (first.length : Int))), (12, .c (ci v12_1)), (13, .ref 27), (14, .c (ci v14_2))], 173⟩) H2 m2 ⟨0, ([] : List (List Int)), ghe_to (n := 173) rfl rfl ⟨rfl, rfl, rfl, rfl, rfl, rfl, rfl, rfl, trivial⟩, q2⟩ ?_
  rintro v14_2 o27_2 q2
  replace h := h v14_2 o27_2 q2
  refine aw_seq ?_
  refine aw_seq ?_
  refine aw_region ?_
  refine run_s (ss_move rfl) rfl ?_
  refine run_s (ss_move rfl) rfl ?_
  refine run_s (ss_lss rfl rfl) rfl ?_
  refine run_nil ?_
  refine aw_cond rfl (fun q3 => ?_) (fun q3 => ?_)
  ·replace h := h.1 (of_decide_eq_true q3)
   refine aw_skip ?_
   refine aw_seq ?_
   refine aw_block ?_
   refine aw_region ?_
   refine run_s (ss_move rfl) rfl ?_
   refine run_s (ss_move rfl) rfl ?_
   refine run_s (ss_move rfl) rfl ?_
   refine run_s (ss_move rfl) rfl ?_
   obtain ⟨q4, h⟩ := h
   refine run_w (ws_call (xs := [.tmp 34, .tmp 35, .tmp 36]) (ids := [37]) rfl rfl rfl rfl (c_spec_l03Mark a v2_1 v14_2 q4) rfl ?_ )
   rintro _ rfl
   refine ⟨rfl, ?_⟩
   refine run_gh (gh_frzE (id := 37) ci rfl (fun _ => rfl)) ?_
   refine run_w (ws_buildSlice (id := 38) (ps := [(0, .tmp 37)]) rfl rfl (Nat.le_of_ble_eq_true rfl) rfl ⟨rfl, ?_⟩)
   obtain ⟨q6, h⟩ := h
   refine run_w (ws_app1 (fun r => C.lst (ints r)) (l := o27_2) (m := [mrkI a v2_1 v14_2]) rfl rfl rfl rfl rfl (Nat.le_of_ble_eq_true rfl) q6 ⟨rfl, ?_⟩)
   refine run_s (ss_assign rfl) rfl ?_
   refine run_nil ?_
   refine aw_region ?_
   refine run_s (ss_move rfl) rfl ?_
   obtain ⟨q7, h⟩ := h
   refine run_s (ss_add rfl rfl q7) rfl ?_
   refine run_s (ss_assign rfl) rfl ?_
   refine run_nil ?_
   exact ⟨v14_2 + 1, o27_2 ++ ([mrkI a v2_1 v14_2]), ghe_to (n := 173) rfl rfl ⟨rfl, rfl, rfl, rfl, rfl, rfl, rfl, rfl, trivial⟩, h.1, h.2⟩
  ·replace h := h.2 (of_decide_eq_false q3)
   refine aw_exit ?_
   refine aw_seq ?_
   refine aw_seq ?_
   refine aw_region ?_
   refine run_s (ss_assign rfl) rfl ?_
   refine run_nil ?_
   refine aw_block ?_
   obtain ⟨H3, m3, q8, h⟩ := h
   refine aw_loop2 (fun (v15_3 : Int) (o27_3 : List (List Int)) => ⟨[(27, ⟨rows o27_3, []⟩)], [(0, .c (.lst (tabs a))), (1, .c (.lst (tabs b))), (3, .c (.lst (ints v3_1))), (11, .c (ci (first.length : Int))), (12, .c (ci v12_1)), (13, .ref 27), (15, .c (ci v15_3))], 173⟩) H3 m3 ⟨0, o27_2, ghe_to (n := 173) rfl rfl ⟨rfl, rfl, rfl, rfl, rfl, rfl, rfl, trivial⟩, q8⟩ ?_
   rintro v15_3 o27_3 q8
   replace h := h v15_3 o27_3 q8
   refine aw_seq ?_
   refine aw_seq ?_
   refine aw_region ?_
   refine run_s (ss_move rfl) rfl ?_
   refine run_s (ss_move rfl) rfl ?_
   refine run_s (ss_lss rfl rfl) rfl ?_
   refine run_nil ?_
   refine aw_cond rfl (fun q9 => ?_) (fun q9 => ?_)
   ·replace h := h.1 (of_decide_eq_true q9)
    refine aw_skip ?_
    refine aw_seq ?_
    refine aw_block ?_
    refine aw_region ?_
    refine run_s (ss_move rfl) rfl ?_
    refine run_s (ss_move rfl) rfl ?_
    refine run_s (ss_move rfl) rfl ?_
    refine run_s (ss_move rfl) rfl ?_
    obtain ⟨q10, h⟩ := h
    refine run_w (ws_call (xs := [.tmp 46, .tmp 47, .tmp 48]) (ids := [49]) rfl rfl rfl rfl (c_spec_l03Mark b v3_1 v15_3 q10) rfl ?_ )
    rintro _ rfl
    refine ⟨rfl, ?_⟩
    refine run_gh (gh_frzE (id := 49) ci rfl (fun _ => rfl)) ?_
    refine run_w (ws_buildSlice (id := 50) (ps := [(0, .tmp 49)]) rfl rfl (Nat.le_of_ble_eq_true rfl) rfl ⟨rfl, ?_⟩)
    obtain ⟨q12, h⟩ := h
    refine run_w (ws_app1 (fun r => C.lst (ints r)) (l := o27_3) (m := [mrkI b v3_1 v15_3]) rfl rfl rfl rfl rfl (Nat.le_of_ble_eq_true rfl) q12 ⟨rfl, ?_⟩)
    refine run_s (ss_assign rfl) rfl ?_
    refine run_nil ?_
    refine aw_region ?_
    refine run_s (ss_move rfl) rfl ?_
    obtain ⟨q13, h⟩ := h
    refine run_s (ss_add rfl rfl q13) rfl ?_
    refine run_s (ss_assign rfl) rfl ?_
    refine run_nil ?_
    exact ⟨v15_3 + 1, o27_3 ++ ([mrkI b v3_1 v15_3]), ghe_to (n := 173) rfl rfl ⟨rfl, rfl, rfl, rfl, rfl, rfl, rfl, trivial⟩, h.1, h.2⟩
   ·replace h := h.2 (of_decide_eq_false q9)
    refine aw_exit ?_
    refine aw_seq ?_
    refine aw_region ?_
    refine run_w (ws_buildSlice (id := 52) (ps := []) rfl rfl (Nat.le_of_ble_eq_true rfl) rfl ⟨rfl, ?_⟩)
    refine run_s (ss_assign rfl) rfl ?_
    refine run_nil ?_
    refine aw_gh (gh_frzE (id := 52) (f := (fun r => C.lst (ints r))) (l := []) (fun r => C.lst (ints r)) rfl (fun _ => rfl)) ?_
    refine aw_seq ?_
    refine aw_seq ?_
    refine aw_region ?_
    refine run_s (ss_assign rfl) rfl ?_
    refine run_nil ?_
    refine aw_block ?_
    obtain ⟨H4, m4, q14, h⟩ := h
    refine aw_loop2 (fun (v16_4 : List (List Int)) (v17_4 : Int) => ⟨[(27, ⟨rows o27_3, []⟩)], [(0, .c (.lst (tabs a))), (1, .c (.lst (tabs b))), (11, .c (ci (first.length : Int))), (12, .c (ci v12_1)), (13, .ref 27), (16, .c (.lst (rows v16_4))), (17, .c (ci v17_4))], 173⟩) H4 m4 ⟨([] : List (List Int)), 0, ghe_to (n := 173) rfl rfl ⟨rfl, rfl, rfl, rfl, rfl, rfl, rfl, trivial⟩, q14⟩ ?_
    rintro v16_4 v17_4 q14
    replace h := h v16_4 v17_4 q14
    refine aw_seq ?_
    refine aw_seq ?_
    refine aw_region ?_
    refine run_s (ss_move rfl) rfl ?_
    refine run_s (ss_move rfl) rfl ?_
    refine run_s (ss_lenR (f := (fun r => C.lst (ints r))) rfl rfl) rfl ?_
    refine run_s (ss_lss rfl rfl) rfl ?_
    refine run_nil ?_
    refine aw_cond rfl (fun q15 => ?_) (fun q15 => ?_)
    ·replace h := h.1 (of_decide_eq_true q15)
     refine aw_skip ?_
     refine aw_seq ?_
     refine aw_block ?_
     refine aw_seq ?_
     refine aw_region ?_
     refine run_s (ss_assign rfl) rfl ?_
     refine run_nil ?_
     refine aw_seq ?_
     refine aw_block ?_
     obtain ⟨H5, m5, q16, h⟩ := h
     refine aw_loop1 (fun (v18_5 : Int) => ⟨[(27, ⟨rows o27_3, []⟩)], [(0, .c (.lst (tabs a))), (1, .c (.lst (tabs b))), (11, .c (ci (first.length : Int))), (12, .c (ci v12_1)), (13, .ref 27), (16, .c (.lst (rows v16_4))), (17, .c (ci v17_4)), (18, .c (ci v18_5))], 173⟩) H5 m5 ⟨0, ghe_to (n := 173) rfl rfl ⟨rfl, rfl, rfl, rfl, rfl, rfl, rfl, rfl, trivial⟩, q16⟩ ?_
     rintro v18_5 q16
     replace h := h v18_5 q16
     refine aw_seq ?_
     refine aw_seq ?_
     refine aw_gh (gh_to (n := 173) (σ' := [(27, ⟨rows o27_3, []⟩)]) (env' := [(0, .c (.lst (tabs a))), (1, .c (.lst (tabs b))), (11, .c (ci (first.length : Int))), (12, .c (ci v12_1)), (13, .ref 27), (16, .c (.lst (rows v16_4))), (17, .c (ci v17_4)), (18, .c (ci v18_5))]) rfl rfl ⟨rfl, rfl, rfl, rfl, rfl, rfl, rfl, rfl, trivial⟩) ?_
     refine aw_regionD (kd := kdl [0, 0, 0, 0, 0, 0, 0, 0, 1, 0, 0, 0, 1, 2, 0]) (ord := [0, 1, 2, 3, 4, 5, 6, 7, 9, 10, 11, 8, 12, 13, 14]) [] mixed (by kernel_rfl) ?_
     refine rd_s rfl rfl trivial (ss_move rfl) rfl ?_
     refine rd_s rfl rfl trivial (ss_move rfl) rfl ?_
     refine rd_s rfl rfl trivial (ss_lenL (f := (fun r => C.lst (ints r))) rfl) rfl ?_
     refine rd_s rfl rfl trivial (ss_lss rfl rfl) rfl ?_
     refine rd_s rfl rfl trivial (ss_move rfl) rfl ?_
     refine rd_split (s := 63) rfl (fun q17 => ?_) (fun q17 => ?_)
     ·replace h := h.1 (of_decide_eq_true q17)
      refine rd_s rfl rfl ⟨_, _, rfl, rfl, q17⟩ (ss_move rfl) rfl ?_
      refine rd_s rfl rfl ⟨_, _, rfl, rfl, q17⟩ (ss_move rfl) rfl ?_
      obtain ⟨q18, h⟩ := h
      refine rd_s rfl rfl ⟨_, _, rfl, rfl, q17⟩ (ss_idxL rfl rfl q18) rfl ?_
      refine rd_s rfl rfl ⟨_, _, rfl, rfl, q17⟩ (ss_move rfl) rfl ?_
      refine rd_s rfl rfl ⟨_, _, rfl, rfl, q17⟩ (ss_move rfl) rfl ?_
      obtain ⟨q19, h⟩ := h
      refine rd_s rfl rfl ⟨_, _, rfl, rfl, q17⟩ (ss_idxR (f := (fun r => C.lst (ints r))) rfl rfl rfl q19) rfl ?_
      refine rd_l rfl rfl ⟨_, _, rfl, rfl, q17⟩ (ss_loadL (f := (fun r => C.lst (ints r))) rfl q18) rfl ?_
      refine rd_l rfl rfl ⟨_, _, rfl, rfl, q17⟩ (ss_loadR (f := (fun r => C.lst (ints r))) rfl rfl q19 rfl rfl) rfl ?_
      obtain ⟨q20, h⟩ := h
      refine rd_w rfl rfl ⟨_, _, rfl, rfl, q17⟩ rfl rfl (ws_call (xs := [.tmp 67, .tmp 71]) (ids := []) rfl rfl rfl rfl (c_spec_l01Less (el v16_4 v18_5) (el o27_3 v17_4) q20) rfl ?_ )
      rintro _ rfl
      refine ⟨rfl, ?_⟩
      refine rd_s rfl rfl trivial (ss_pickT rfl q17 rfl) rfl ?_
      refine rd_nil ?_
      refine aw_cond rfl (fun q22 => ?_) (fun q22 => ?_)
      ·replace h := h.1 (of_decide_eq_true q22)
       refine aw_skip ?_
       refine aw_block ?_
       refine aw_region ?_
       refine run_s (ss_move rfl) rfl ?_
       obtain ⟨q23, h⟩ := h
       refine run_s (ss_add rfl rfl q23) rfl ?_
       refine run_s (ss_assign rfl) rfl ?_
       refine run_nil ?_
       exact ⟨v18_5 + 1, ghe_to (n := 173) rfl rfl ⟨rfl, rfl, rfl, rfl, rfl, rfl, rfl, rfl, trivial⟩, h.1, h.2⟩
      ·replace h := h.2 (of_decide_eq_false q22)
       refine aw_exit ?_
       refine aw_seq ?_
       refine aw_seq ?_
       refine aw_gh (gh_to (n := 173) (σ' := [(27, ⟨rows o27_3, []⟩)]) (env' := [(0, .c (.lst (tabs a))), (1, .c (.lst (tabs b))), (11, .c (ci (first.length : Int))), (12, .c (ci v12_1)), (13, .ref 27), (16, .c (.lst (rows v16_4))), (17, .c (ci v17_4)), (18, .c (ci v18_5)), (64, .c (.lst (rows v16_4))), (65, .c (ci v18_5)), (66, .c (.ptr ((rows v16_4).drop v18_5.toNat))), (67, .c (.lst (ints (el v16_4 v18_5)))), (68, .ref 27), (69, .c (ci v17_4)), (70, .cell 27 v17_4.toNat), (71, .c (.lst (ints (el o27_3 v17_4)))), (72, .c (cb (decide (cmpG cmp1 (el v16_4 v18_5) (el o27_3 v17_4) < 0))))]) rfl rfl ⟨rfl, rfl, rfl, rfl, rfl, rfl, rfl, rfl, rfl, rfl, rfl, rfl, rfl, rfl, rfl, rfl, rfl, trivial⟩) ?_
       refine aw_regionD (kd := kdl [0, 0, 0, 0, 0, 0, 0, 0, 1, 0, 0, 0, 1, 2, 0]) (ord := [0, 1, 2, 3, 4, 5, 6, 7, 9, 10, 11, 8, 12, 13, 14]) [] mixed (by kernel_rfl) ?_
       refine rd_s rfl rfl trivial (ss_move rfl) rfl ?_
       refine rd_s rfl rfl trivial (ss_move rfl) rfl ?_
       refine rd_s rfl rfl trivial (ss_lenL (f := (fun r => C.lst (ints r))) rfl) rfl ?_
       refine rd_s rfl rfl trivial (ss_lss rfl rfl) rfl ?_
       refine rd_s rfl rfl trivial (ss_move rfl) rfl ?_
       refine rd_split (s := 80) rfl (fun q24 => ?_) (fun q24 => ?_)
       ·replace h := h.1 (of_decide_eq_true q24)
        refine rd_s rfl rfl ⟨_, _, rfl, rfl, q24⟩ (ss_move rfl) rfl ?_
        refine rd_s rfl rfl ⟨_, _, rfl, rfl, q24⟩ (ss_move rfl) rfl ?_
        obtain ⟨q25, h⟩ := h
        refine rd_s rfl rfl ⟨_, _, rfl, rfl, q24⟩ (ss_idxL rfl rfl q25) rfl ?_
        refine rd_s rfl rfl ⟨_, _, rfl, rfl, q24⟩ (ss_move rfl) rfl ?_
        refine rd_s rfl rfl ⟨_, _, rfl, rfl, q24⟩ (ss_move rfl) rfl ?_
        obtain ⟨q26, h⟩ := h
        refine rd_s rfl rfl ⟨_, _, rfl, rfl, q24⟩ (ss_idxR (f := (fun r => C.lst (ints r))) rfl rfl rfl q26) rfl ?_
        refine rd_l rfl rfl ⟨_, _, rfl, rfl, q24⟩ (ss_loadL (f := (fun r => C.lst (ints r))) rfl q25) rfl ?_
        refine rd_l rfl rfl ⟨_, _, rfl, rfl, q24⟩ (ss_loadR (f := (fun r => C.lst (ints r))) rfl rfl q26 rfl rfl) rfl ?_
        obtain ⟨q27, h⟩ := h
        refine rd_w rfl rfl ⟨_, _, rfl, rfl, q24⟩ rfl rfl (ws_call (xs := [.tmp 84, .tmp 88]) (ids := []) rfl rfl rfl rfl (c_spec_l01Same (el v16_4 v18_5) (el o27_3 v17_4) q27) rfl ?_ )
        rintro _ rfl
        refine ⟨rfl, ?_⟩
        refine rd_s rfl rfl trivial (ss_pickT rfl q24 rfl) rfl ?_
        refine rd_nil ?_
        refine aw_cond rfl (fun q29 => ?_) (fun q29 => ?_)
        ·replace h := h.1 (of_decide_eq_true q29)
         refine aw_exit ?_
         refine aw_gh (gh_to (n := 173) (σ' := [(27, ⟨rows o27_3, []⟩)]) (env' := [(0, .c (.lst (tabs a))), (1, .c (.lst (tabs b))), (11, .c (ci (first.length : Int))), (12, .c (ci v12_1)), (13, .ref 27), (16, .c (.lst (rows v16_4))), (17, .c (ci v17_4)), (64, .c (.lst (rows v16_4))), (65, .c (ci v18_5)), (66, .c (.ptr ((rows v16_4).drop v18_5.toNat))), (67, .c (.lst (ints (el v16_4 v18_5)))), (68, .ref 27), (69, .c (ci v17_4)), (70, .cell 27 v17_4.toNat), (71, .c (.lst (ints (el o27_3 v17_4)))), (72, .c (cb (decide (cmpG cmp1 (el v16_4 v18_5) (el o27_3 v17_4) < 0)))), (81, .c (.lst (rows v16_4))), (82, .c (ci v18_5)), (83, .c (.ptr ((rows v16_4).drop v18_5.toNat))), (84, .c (.lst (ints (el v16_4 v18_5)))), (85, .ref 27), (86, .c (ci v17_4)), (87, .cell 27 v17_4.toNat), (88, .c (.lst (ints (el o27_3 v17_4)))), (89, .c (cb (decide ((el v16_4 v18_5) = (el o27_3 v17_4)))))]) rfl rfl ⟨rfl, rfl, rfl, rfl, rfl, rfl, rfl, rfl, rfl, rfl, rfl, rfl, rfl, rfl, rfl, rfl, rfl, rfl, rfl, rfl, rfl, rfl, rfl, rfl, rfl, trivial⟩) ?_
         refine aw_region ?_
         refine run_s (ss_move rfl) rfl ?_
         obtain ⟨q30, h⟩ := h
         refine run_s (ss_add rfl rfl q30) rfl ?_
         refine run_s (ss_assign rfl) rfl ?_
         refine run_nil ?_
         exact ⟨v16_4, v17_4 + 1, ghe_to (n := 173) rfl rfl ⟨rfl, rfl, rfl, rfl, rfl, rfl, rfl, trivial⟩, h.1, h.2⟩
        ·replace h := h.2 (of_decide_eq_false q29)
         refine aw_skip ?_
         refine aw_seq ?_
         refine aw_gh (gh_to (n := 173) (σ' := [(27, ⟨rows o27_3, []⟩)]) (env' := [(0, .c (.lst (tabs a))), (1, .c (.lst (tabs b))), (11, .c (ci (first.length : Int))), (12, .c (ci v12_1)), (13, .ref 27), (16, .c (.lst (rows v16_4))), (17, .c (ci v17_4)), (18, .c (ci v18_5)), (64, .c (.lst (rows v16_4))), (65, .c (ci v18_5)), (66, .c (.ptr ((rows v16_4).drop v18_5.toNat))), (67, .c (.lst (ints (el v16_4 v18_5)))), (68, .ref 27), (69, .c (ci v17_4)), (70, .cell 27 v17_4.toNat), (71, .c (.lst (ints (el o27_3 v17_4)))), (72, .c (cb (decide (cmpG cmp1 (el v16_4 v18_5) (el o27_3 v17_4) < 0)))), (81, .c (.lst (rows v16_4))), (82, .c (ci v18_5)), (83, .c (.ptr ((rows v16_4).drop v18_5.toNat))), (84, .c (.lst (ints (el v16_4 v18_5)))), (85, .ref 27), (86, .c (ci v17_4)), (87, .cell 27 v17_4.toNat), (88, .c (.lst (ints (el o27_3 v17_4)))), (89, .c (cb (decide ((el v16_4 v18_5) = (el o27_3 v17_4)))))]) rfl rfl ⟨rfl, rfl, rfl, rfl, rfl, rfl, rfl, rfl, rfl, rfl, rfl, rfl, rfl, rfl, rfl, rfl, rfl, rfl, rfl, rfl, rfl, rfl, rfl, rfl, rfl, rfl, trivial⟩) ?_
         refine aw_regionD (kd := kdl [0, 0, 0, 1, 2, 0, 0, 0, 2, 0]) (ord := [0, 1, 2, 5, 6, 7, 3, 4, 8, 9]) [95] mixed (by kernel_rfl) ?_
         refine rd_s rfl rfl trivial (ss_move rfl) rfl ?_
         refine rd_s rfl rfl trivial (ss_move rfl) rfl ?_
         obtain ⟨q31, h⟩ := h
         refine rd_s rfl rfl trivial (ss_idxR (f := (fun r => C.lst (ints r))) rfl rfl rfl q31) rfl ?_
         refine rd_s rfl rfl trivial (ss_move rfl) rfl ?_
         refine rd_s rfl rfl trivial (ss_move rfl) rfl ?_
         obtain ⟨q32, h⟩ := h
         refine rd_s rfl rfl trivial (ss_slL (f := (fun r => C.lst (ints r))) rfl ⟨_, rfl⟩ rfl q32) rfl ?_
         refine rd_l rfl rfl trivial (ss_loadR (f := (fun r => C.lst (ints r))) rfl rfl q31 rfl rfl) rfl ?_
         refine rd_w rfl rfl trivial rfl rfl (ws_buildSlice (id := 95) (ps := [(0, .tmp 94)]) rfl rfl (Nat.le_of_ble_eq_true rfl) rfl ⟨rfl, ?_⟩)
         obtain ⟨q33, h⟩ := h
         refine rd_w rfl rfl trivial rfl rfl (ws_appL (fun r => C.lst (ints r)) (l := [el o27_3 v17_4]) (m := sl v16_4 v18_5 (v16_4.length : Int)) rfl rfl rfl (Nat.le_of_ble_eq_true rfl) q33 ⟨rfl, ?_⟩)
         refine rd_s rfl rfl trivial (ss_assign rfl) rfl ?_
         refine rd_nil ?_
         refine aw_region ?_
         refine run_w (ws_buildSlice (id := 100) (ps := []) rfl rfl (Nat.le_of_ble_eq_true rfl) rfl ⟨rfl, ?_⟩)
         refine run_s (ss_move rfl) rfl ?_
         refine run_s (ss_move rfl) rfl ?_
         obtain ⟨q34, h⟩ := h
         refine run_s (ss_slL (f := (fun r => C.lst (ints r))) rfl rfl ⟨_, rfl⟩ q34) rfl ?_
         obtain ⟨q35, h⟩ := h
         refine run_w (ws_appL (fun r => C.lst (ints r)) (l := ([] : List (List Int))) (m := sl v16_4 0 v18_5) rfl rfl rfl (Nat.le_of_ble_eq_true rfl) q35 ⟨rfl, ?_⟩)
         refine run_s (ss_move rfl) rfl ?_
         obtain ⟨q36, h⟩ := h
         refine run_w (ws_app1 (fun r => C.lst (ints r)) (l := ([] : List (List Int)) ++ (sl v16_4 0 v18_5)) (m := ([el o27_3 v17_4]) ++ (sl v16_4 v18_5 (v16_4.length : Int))) rfl rfl rfl rfl rfl (Nat.le_of_ble_eq_true rfl) q36 ⟨rfl, ?_⟩)
         refine run_s (ss_assign rfl) rfl ?_
         refine run_nil ?_
         refine aw_gh (gh_frzE (id := 100) (fun r => C.lst (ints r)) rfl (fun _ => rfl)) ?_
         refine aw_gh (gh_to (n := 173) (σ' := [(27, ⟨rows o27_3, []⟩)]) (env' := [(0, .c (.lst (tabs a))), (1, .c (.lst (tabs b))), (11, .c (ci (first.length : Int))), (12, .c (ci v12_1)), (13, .ref 27), (16, .c (.lst (rows ((([] : List (List Int)) ++ (sl v16_4 0 v18_5)) ++ (([el o27_3 v17_4]) ++ (sl v16_4 v18_5 (v16_4.length : Int))))))), (17, .c (ci v17_4)), (64, .c (.lst (rows v16_4))), (65, .c (ci v18_5)), (66, .c (.ptr ((rows v16_4).drop v18_5.toNat))), (67, .c (.lst (ints (el v16_4 v18_5)))), (68, .ref 27), (69, .c (ci v17_4)), (70, .cell 27 v17_4.toNat), (71, .c (.lst (ints (el o27_3 v17_4)))), (72, .c (cb (decide (cmpG cmp1 (el v16_4 v18_5) (el o27_3 v17_4) < 0)))), (81, .c (.lst (rows v16_4))), (82, .c (ci v18_5)), (83, .c (.ptr ((rows v16_4).drop v18_5.toNat))), (84, .c (.lst (ints (el v16_4 v18_5)))), (85, .ref 27), (86, .c (ci v17_4)), (87, .cell 27 v17_4.toNat), (88, .c (.lst (ints (el o27_3 v17_4)))), (89, .c (cb (decide ((el v16_4 v18_5) = (el o27_3 v17_4)))))]) rfl rfl ⟨rfl, rfl, rfl, rfl, rfl, rfl, rfl, rfl, rfl, rfl, rfl, rfl, rfl, rfl, rfl, rfl, rfl, rfl, rfl, rfl, rfl, rfl, rfl, rfl, rfl, trivial⟩) ?_
         refine aw_region ?_
         refine run_s (ss_move rfl) rfl ?_
         obtain ⟨q37, h⟩ := h
         refine run_s (ss_add rfl rfl q37) rfl ?_
         refine run_s (ss_assign rfl) rfl ?_
         refine run_nil ?_
         exact ⟨(([] : List (List Int)) ++ (sl v16_4 0 v18_5)) ++ (([el o27_3 v17_4]) ++ (sl v16_4 v18_5 (v16_4.length : Int))), v17_4 + 1, ghe_to (n := 173) rfl rfl ⟨rfl, rfl, rfl, rfl, rfl, rfl, rfl, trivial⟩, h.1, h.2⟩
       ·replace h := h.2 (of_decide_eq_false q24)
        refine rd_no rfl rfl rfl q24 rfl ?_
        refine rd_no rfl rfl rfl q24 rfl ?_
        refine rd_no rfl rfl rfl q24 rfl ?_
        refine rd_no rfl rfl rfl q24 rfl ?_
        refine rd_no rfl rfl rfl q24 rfl ?_
        refine rd_no rfl rfl rfl q24 rfl ?_
        refine rd_no rfl rfl rfl q24 rfl ?_
        refine rd_no rfl rfl rfl q24 rfl ?_
        refine rd_no rfl rfl rfl q24 rfl ?_
        refine rd_s rfl rfl trivial (ss_pickF rfl q24 rfl) rfl ?_
        refine rd_nil ?_
        refine aw_cond rfl (fun q38 => ?_) (fun q38 => ?_)
        ·cases q38
        ·skip
         refine aw_skip ?_
         refine aw_seq ?_
         refine aw_gh (gh_to (n := 173) (σ' := [(27, ⟨rows o27_3, []⟩)]) (env' := [(0, .c (.lst (tabs a))), (1, .c (.lst (tabs b))), (11, .c (ci (first.length : Int))), (12, .c (ci v12_1)), (13, .ref 27), (16, .c (.lst (rows v16_4))), (17, .c (ci v17_4)), (18, .c (ci v18_5)), (64, .c (.lst (rows v16_4))), (65, .c (ci v18_5)), (66, .c (.ptr ((rows v16_4).drop v18_5.toNat))), (67, .c (.lst (ints (el v16_4 v18_5)))), (68, .ref 27), (69, .c (ci v17_4)), (70, .cell 27 v17_4.toNat), (71, .c (.lst (ints (el o27_3 v17_4)))), (72, .c (cb (decide (cmpG cmp1 (el v16_4 v18_5) (el o27_3 v17_4) < 0))))]) rfl rfl ⟨rfl, rfl, rfl, rfl, rfl, rfl, rfl, rfl, rfl, rfl, rfl, rfl, rfl, rfl, rfl, rfl, rfl, trivial⟩) ?_
         refine aw_regionD (kd := kdl [0, 0, 0, 1, 2, 0, 0, 0, 2, 0]) (ord := [0, 1, 2, 5, 6, 7, 3, 4, 8, 9]) [95] mixed (by kernel_rfl) ?_
         refine rd_s rfl rfl trivial (ss_move rfl) rfl ?_
         refine rd_s rfl rfl trivial (ss_move rfl) rfl ?_
         obtain ⟨q39, h⟩ := h
         refine rd_s rfl rfl trivial (ss_idxR (f := (fun r => C.lst (ints r))) rfl rfl rfl q39) rfl ?_
         refine rd_s rfl rfl trivial (ss_move rfl) rfl ?_
         refine rd_s rfl rfl trivial (ss_move rfl) rfl ?_
         obtain ⟨q40, h⟩ := h
         refine rd_s rfl rfl trivial (ss_slL (f := (fun r => C.lst (ints r))) rfl ⟨_, rfl⟩ rfl q40) rfl ?_
         refine rd_l rfl rfl trivial (ss_loadR (f := (fun r => C.lst (ints r))) rfl rfl q39 rfl rfl) rfl ?_
         refine rd_w rfl rfl trivial rfl rfl (ws_buildSlice (id := 95) (ps := [(0, .tmp 94)]) rfl rfl (Nat.le_of_ble_eq_true rfl) rfl ⟨rfl, ?_⟩)
         obtain ⟨q41, h⟩ := h
         refine rd_w rfl rfl trivial rfl rfl (ws_appL (fun r => C.lst (ints r)) (l := [el o27_3 v17_4]) (m := sl v16_4 v18_5 (v16_4.length : Int)) rfl rfl rfl (Nat.le_of_ble_eq_true rfl) q41 ⟨rfl, ?_⟩)
         refine rd_s rfl rfl trivial (ss_assign rfl) rfl ?_
         refine rd_nil ?_
         refine aw_region ?_
         refine run_w (ws_buildSlice (id := 100) (ps := []) rfl rfl (Nat.le_of_ble_eq_true rfl) rfl ⟨rfl, ?_⟩)
         refine run_s (ss_move rfl) rfl ?_
         refine run_s (ss_move rfl) rfl ?_
         obtain ⟨q42, h⟩ := h
         refine run_s (ss_slL (f := (fun r => C.lst (ints r))) rfl rfl ⟨_, rfl⟩ q42) rfl ?_
         obtain ⟨q43, h⟩ := h
         refine run_w (ws_appL (fun r => C.lst (ints r)) (l := ([] : List (List Int))) (m := sl v16_4 0 v18_5) rfl rfl rfl (Nat.le_of_ble_eq_true rfl) q43 ⟨rfl, ?_⟩)
         refine run_s (ss_move rfl) rfl ?_
         obtain ⟨q44, h⟩ := h
         refine run_w (ws_app1 (fun r => C.lst (ints r)) (l := ([] : List (List Int)) ++ (sl v16_4 0 v18_5)) (m := ([el o27_3 v17_4]) ++ (sl v16_4 v18_5 (v16_4.length : Int))) rfl rfl rfl rfl rfl (Nat.le_of_ble_eq_true rfl) q44 ⟨rfl, ?_⟩)
         refine run_s (ss_assign rfl) rfl ?_
         refine run_nil ?_
         refine aw_gh (gh_frzE (id := 100) (fun r => C.lst (ints r)) rfl (fun _ => rfl)) ?_
         refine aw_gh (gh_to (n := 173) (σ' := [(27, ⟨rows o27_3, []⟩)]) (env' := [(0, .c (.lst (tabs a))), (1, .c (.lst (tabs b))), (11, .c (ci (first.length : Int))), (12, .c (ci v12_1)), (13, .ref 27), (16, .c (.lst (rows ((([] : List (List Int)) ++ (sl v16_4 0 v18_5)) ++ (([el o27_3 v17_4]) ++ (sl v16_4 v18_5 (v16_4.length : Int))))))), (17, .c (ci v17_4)), (64, .c (.lst (rows v16_4))), (65, .c (ci v18_5)), (66, .c (.ptr ((rows v16_4).drop v18_5.toNat))), (67, .c (.lst (ints (el v16_4 v18_5)))), (68, .ref 27), (69, .c (ci v17_4)), (70, .cell 27 v17_4.toNat), (71, .c (.lst (ints (el o27_3 v17_4)))), (72, .c (cb (decide (cmpG cmp1 (el v16_4 v18_5) (el o27_3 v17_4) < 0))))]) rfl rfl ⟨rfl, rfl, rfl, rfl, rfl, rfl, rfl, rfl, rfl, rfl, rfl, rfl, rfl, rfl, rfl, rfl, trivial⟩) ?_
         refine aw_region ?_
         refine run_s (ss_move rfl) rfl ?_
         obtain ⟨q45, h⟩ := h
         refine run_s (ss_add rfl rfl q45) rfl ?_
         refine run_s (ss_assign rfl) rfl ?_
         refine run_nil ?_
         exact ⟨(([] : List (List Int)) ++ (sl v16_4 0 v18_5)) ++ (([el o27_3 v17_4]) ++ (sl v16_4 v18_5 (v16_4.length : Int))), v17_4 + 1, ghe_to (n := 173) rfl rfl ⟨rfl, rfl, rfl, rfl, rfl, rfl, rfl, trivial⟩, h.1, h.2⟩
     ·replace h := h.2 (of_decide_eq_false q17)
      refine rd_no rfl rfl rfl q17 rfl ?_
      refine rd_no rfl rfl rfl q17 rfl ?_
      refine rd_no rfl rfl rfl q17 rfl ?_
      refine rd_no rfl rfl rfl q17 rfl ?_
      refine rd_no rfl rfl rfl q17 rfl ?_
      refine rd_no rfl rfl rfl q17 rfl ?_
      refine rd_no rfl rfl rfl q17 rfl ?_
      refine rd_no rfl rfl rfl q17 rfl ?_
      refine rd_no rfl rfl rfl q17 rfl ?_
      refine rd_s rfl rfl trivial (ss_pickF rfl q17 rfl) rfl ?_
      refine rd_nil ?_
      refine aw_cond rfl (fun q46 => ?_) (fun q46 => ?_)
      ·cases q46
      ·skip
       refine aw_exit ?_
       refine aw_seq ?_
       refine aw_seq ?_
       refine aw_gh (gh_to (n := 173) (σ' := [(27, ⟨rows o27_3, []⟩)]) (env' := [(0, .c (.lst (tabs a))), (1, .c (.lst (tabs b))), (11, .c (ci (first.length : Int))), (12, .c (ci v12_1)), (13, .ref 27), (16, .c (.lst (rows v16_4))), (17, .c (ci v17_4)), (18, .c (ci v18_5))]) rfl rfl ⟨rfl, rfl, rfl, rfl, rfl, rfl, rfl, rfl, trivial⟩) ?_
       refine aw_regionD (kd := kdl [0, 0, 0, 0, 0, 0, 0, 0, 1, 0, 0, 0, 1, 2, 0]) (ord := [0, 1, 2, 3, 4, 5, 6, 7, 9, 10, 11, 8, 12, 13, 14]) [] mixed (by kernel_rfl) ?_
       refine rd_s rfl rfl trivial (ss_move rfl) rfl ?_
       refine rd_s rfl rfl trivial (ss_move rfl) rfl ?_
       refine rd_s rfl rfl trivial (ss_lenL (f := (fun r => C.lst (ints r))) rfl) rfl ?_
       refine rd_s rfl rfl trivial (ss_lss rfl rfl) rfl ?_
       refine rd_s rfl rfl trivial (ss_move rfl) rfl ?_
       refine rd_split (s := 80) rfl (fun q47 => ?_) (fun q47 => ?_)
       ·replace h := h.1 (of_decide_eq_true q47)
        refine rd_s rfl rfl ⟨_, _, rfl, rfl, q47⟩ (ss_move rfl) rfl ?_
        refine rd_s rfl rfl ⟨_, _, rfl, rfl, q47⟩ (ss_move rfl) rfl ?_
        obtain ⟨q48, h⟩ := h
        refine rd_s rfl rfl ⟨_, _, rfl, rfl, q47⟩ (ss_idxL rfl rfl q48) rfl ?_
        refine rd_s rfl rfl ⟨_, _, rfl, rfl, q47⟩ (ss_move rfl) rfl ?_
        refine rd_s rfl rfl ⟨_, _, rfl, rfl, q47⟩ (ss_move rfl) rfl ?_
        obtain ⟨q49, h⟩ := h
        refine rd_s rfl rfl ⟨_, _, rfl, rfl, q47⟩ (ss_idxR (f := (fun r => C.lst (ints r))) rfl rfl rfl q49) rfl ?_
        refine rd_l rfl rfl ⟨_, _, rfl, rfl, q47⟩ (ss_loadL (f := (fun r => C.lst (ints r))) rfl q48) rfl ?_
        refine rd_l rfl rfl ⟨_, _, rfl, rfl, q47⟩ (ss_loadR (f := (fun r => C.lst (ints r))) rfl rfl q49 rfl rfl) rfl ?_
        obtain ⟨q50, h⟩ := h
        refine rd_w rfl rfl ⟨_, _, rfl, rfl, q47⟩ rfl rfl (ws_call (xs := [.tmp 84, .tmp 88]) (ids := []) rfl rfl rfl rfl (c_spec_l01Same (el v16_4 v18_5) (el o27_3 v17_4) q50) rfl ?_ )
        rintro _ rfl
        refine ⟨rfl, ?_⟩
        refine rd_s rfl rfl trivial (ss_pickT rfl q47 rfl) rfl ?_
        refine rd_nil ?_
        refine aw_cond rfl (fun q52 => ?_) (fun q52 => ?_)
        ·replace h := h.1 (of_decide_eq_true q52)
         refine aw_exit ?_
         refine aw_region ?_
         refine run_s (ss_move rfl) rfl ?_
         obtain ⟨q53, h⟩ := h
         refine run_s (ss_add rfl rfl q53) rfl ?_
         refine run_s (ss_assign rfl) rfl ?_
         refine run_nil ?_
         exact ⟨v16_4, v17_4 + 1, ghe_to (n := 173) rfl rfl ⟨rfl, rfl, rfl, rfl, rfl, rfl, rfl, trivial⟩, h.1, h.2⟩
        ·replace h := h.2 (of_decide_eq_false q52)
         refine aw_skip ?_
         refine aw_seq ?_
         refine aw_gh (gh_to (n := 173) (σ' := [(27, ⟨rows o27_3, []⟩)]) (env' := [(0, .c (.lst (tabs a))), (1, .c (.lst (tabs b))), (11, .c (ci (first.length : Int))), (12, .c (ci v12_1)), (13, .ref 27), (16, .c (.lst (rows v16_4))), (17, .c (ci v17_4)), (18, .c (ci v18_5)), (81, .c (.lst (rows v16_4))), (82, .c (ci v18_5)), (83, .c (.ptr ((rows v16_4).drop v18_5.toNat))), (84, .c (.lst (ints (el v16_4 v18_5)))), (85, .ref 27), (86, .c (ci v17_4)), (87, .cell 27 v17_4.toNat), (88, .c (.lst (ints (el o27_3 v17_4)))), (89, .c (cb (decide ((el v16_4 v18_5) = (el o27_3 v17_4)))))]) rfl rfl ⟨rfl, rfl, rfl, rfl, rfl, rfl, rfl, rfl, rfl, rfl, rfl, rfl, rfl, rfl, rfl, rfl, rfl, trivial⟩) ?_
         refine aw_regionD (kd := kdl [0, 0, 0, 1, 2, 0, 0, 0, 2, 0]) (ord := [0, 1, 2, 5, 6, 7, 3, 4, 8, 9]) [95] mixed (by kernel_rfl) ?_
         refine rd_s rfl rfl trivial (ss_move rfl) rfl ?_
         refine rd_s rfl rfl trivial (ss_move rfl) rfl ?_
         obtain ⟨q54, h⟩ := h
         refine rd_s rfl rfl trivial (ss_idxR (f := (fun r => C.lst (ints r))) rfl rfl rfl q54) rfl ?_
         refine rd_s rfl rfl trivial (ss_move rfl) rfl ?_
         refine rd_s rfl rfl trivial (ss_move rfl) rfl ?_
         obtain ⟨q55, h⟩ := h
         refine rd_s rfl rfl trivial (ss_slL (f := (fun r => C.lst (ints r))) rfl ⟨_, rfl⟩ rfl q55) rfl ?_
         refine rd_l rfl rfl trivial (ss_loadR (f := (fun r => C.lst (ints r))) rfl rfl q54 rfl rfl) rfl ?_
         refine rd_w rfl rfl trivial rfl rfl (ws_buildSlice (id := 95) (ps := [(0, .tmp 94)]) rfl rfl (Nat.le_of_ble_eq_true rfl) rfl ⟨rfl, ?_⟩)
         obtain ⟨q56, h⟩ := h
         refine rd_w rfl rfl trivial rfl rfl (ws_appL (fun r => C.lst (ints r)) (l := [el o27_3 v17_4]) (m := sl v16_4 v18_5 (v16_4.length : Int)) rfl rfl rfl (Nat.le_of_ble_eq_true rfl) q56 ⟨rfl, ?_⟩)
         refine rd_s rfl rfl trivial (ss_assign rfl) rfl ?_
         refine rd_nil ?_
         refine aw_region ?_
         refine run_w (ws_buildSlice (id := 100) (ps := []) rfl rfl (Nat.le_of_ble_eq_true rfl) rfl ⟨rfl, ?_⟩)
         refine run_s (ss_move rfl) rfl ?_
         refine run_s (ss_move rfl) rfl ?_
         obtain ⟨q57, h⟩ := h
         refine run_s (ss_slL (f := (fun r => C.lst (ints r))) rfl rfl ⟨_, rfl⟩ q57) rfl ?_
         obtain ⟨q58, h⟩ := h
         refine run_w (ws_appL (fun r => C.lst (ints r)) (l := ([] : List (List Int))) (m := sl v16_4 0 v18_5) rfl rfl rfl (Nat.le_of_ble_eq_true rfl) q58 ⟨rfl, ?_⟩)
         refine run_s (ss_move rfl) rfl ?_
         obtain ⟨q59, h⟩ := h
         refine run_w (ws_app1 (fun r => C.lst (ints r)) (l := ([] : List (List Int)) ++ (sl v16_4 0 v18_5)) (m := ([el o27_3 v17_4]) ++ (sl v16_4 v18_5 (v16_4.length : Int))) rfl rfl rfl rfl rfl (Nat.le_of_ble_eq_true rfl) q59 ⟨rfl, ?_⟩)
         refine run_s (ss_assign rfl) rfl ?_
         refine run_nil ?_
         refine aw_gh (gh_frzE (id := 100) (fun r => C.lst (ints r)) rfl (fun _ => rfl)) ?_
         refine aw_gh (gh_to (n := 173) (σ' := [(27, ⟨rows o27_3, []⟩)]) (env' := [(0, .c (.lst (tabs a))), (1, .c (.lst (tabs b))), (11, .c (ci (first.length : Int))), (12, .c (ci v12_1)), (13, .ref 27), (16, .c (.lst (rows ((([] : List (List Int)) ++ (sl v16_4 0 v18_5)) ++ (([el o27_3 v17_4]) ++ (sl v16_4 v18_5 (v16_4.length : Int))))))), (17, .c (ci v17_4)), (81, .c (.lst (rows v16_4))), (82, .c (ci v18_5)), (83, .c (.ptr ((rows v16_4).drop v18_5.toNat))), (84, .c (.lst (ints (el v16_4 v18_5)))), (85, .ref 27), (86, .c (ci v17_4)), (87, .cell 27 v17_4.toNat), (88, .c (.lst (ints (el o27_3 v17_4)))), (89, .c (cb (decide ((el v16_4 v18_5) = (el o27_3 v17_4)))))]) rfl rfl ⟨rfl, rfl, rfl, rfl, rfl, rfl, rfl, rfl, rfl, rfl, rfl, rfl, rfl, rfl, rfl, rfl, trivial⟩) ?_
         refine aw_region ?_
         refine run_s (ss_move rfl) rfl ?_
         obtain ⟨q60, h⟩ := h
         refine run_s (ss_add rfl rfl q60) rfl ?_
         refine run_s (ss_assign rfl) rfl ?_
         refine run_nil ?_
         exact ⟨(([] : List (List Int)) ++ (sl v16_4 0 v18_5)) ++ (([el o27_3 v17_4]) ++ (sl v16_4 v18_5 (v16_4.length : Int))), v17_4 + 1, ghe_to (n := 173) rfl rfl ⟨rfl, rfl, rfl, rfl, rfl, rfl, rfl, trivial⟩, h.1, h.2⟩
       ·replace h := h.2 (of_decide_eq_false q47)
        refine rd_no rfl rfl rfl q47 rfl ?_
        refine rd_no rfl rfl rfl q47 rfl ?_
        refine rd_no rfl rfl rfl q47 rfl ?_
        refine rd_no rfl rfl rfl q47 rfl ?_
        refine rd_no rfl rfl rfl q47 rfl ?_
        refine rd_no rfl rfl rfl q47 rfl ?_
        refine rd_no rfl rfl rfl q47 rfl ?_
        refine rd_no rfl rfl rfl q47 rfl ?_
        refine rd_no rfl rfl rfl q47 rfl ?_
        refine rd_s rfl rfl trivial (ss_pickF rfl q47 rfl) rfl ?_
        refine rd_nil ?_
        refine aw_cond rfl (fun q61 => ?_) (fun q61 => ?_)
        ·cases q61
        ·skip
         refine aw_skip ?_
         refine aw_seq ?_
         refine aw_gh (gh_to (n := 173) (σ' := [(27, ⟨rows o27_3, []⟩)]) (env' := [(0, .c (.lst (tabs a))), (1, .c (.lst (tabs b))), (11, .c (ci (first.length : Int))), (12, .c (ci v12_1)), (13, .ref 27), (16, .c (.lst (rows v16_4))), (17, .c (ci v17_4)), (18, .c (ci v18_5))]) rfl rfl ⟨rfl, rfl, rfl, rfl, rfl, rfl, rfl, rfl, trivial⟩) ?_
         refine aw_regionD (kd := kdl [0, 0, 0, 1, 2, 0, 0, 0, 2, 0]) (ord := [0, 1, 2, 5, 6, 7, 3, 4, 8, 9]) [95] mixed (by kernel_rfl) ?_
         refine rd_s rfl rfl trivial (ss_move rfl) rfl ?_
         refine rd_s rfl rfl trivial (ss_move rfl) rfl ?_
         obtain ⟨q62, h⟩ := h
         refine rd_s rfl rfl trivial (ss_idxR (f := (fun r => C.lst (ints r))) rfl rfl rfl q62) rfl ?_
         refine rd_s rfl rfl trivial (ss_move rfl) rfl ?_
         refine rd_s rfl rfl trivial (ss_move rfl) rfl ?_
         obtain ⟨q63, h⟩ := h
         refine rd_s rfl rfl trivial (ss_slL (f := (fun r => C.lst (ints r))) rfl ⟨_, rfl⟩ rfl q63) rfl ?_
         refine rd_l rfl rfl trivial (ss_loadR (f := (fun r => C.lst (ints r))) rfl rfl q62 rfl rfl) rfl ?_
         refine rd_w rfl rfl trivial rfl rfl (ws_buildSlice (id := 95) (ps := [(0, .tmp 94)]) rfl rfl (Nat.le_of_ble_eq_true rfl) rfl ⟨rfl, ?_⟩)
         obtain ⟨q64, h⟩ := h
         refine rd_w rfl rfl trivial rfl rfl (ws_appL (fun r => C.lst (ints r)) (l := [el o27_3 v17_4]) (m := sl v16_4 v18_5 (v16_4.length : Int)) rfl rfl rfl (Nat.le_of_ble_eq_true rfl) q64 ⟨rfl, ?_⟩)
         refine rd_s rfl rfl trivial (ss_assign rfl) rfl ?_
         refine rd_nil ?_
         refine aw_region ?_
         refine run_w (ws_buildSlice (id := 100) (ps := []) rfl rfl (Nat.le_of_ble_eq_true rfl) rfl ⟨rfl, ?_⟩)
         refine run_s (ss_move rfl) rfl ?_
         refine run_s (ss_move rfl) rfl ?_
         obtain ⟨q65, h⟩ := h
         refine run_s (ss_slL (f := (fun r => C.lst (ints r))) rfl rfl ⟨_, rfl⟩ q65) rfl ?_
         obtain ⟨q66, h⟩ := h
         refine run_w (ws_appL (fun r => C.lst (ints r)) (l := ([] : List (List Int))) (m := sl v16_4 0 v18_5) rfl rfl rfl (Nat.le_of_ble_eq_true rfl) q66 ⟨rfl, ?_⟩)
         refine run_s (ss_move rfl) rfl ?_
         obtain ⟨q67, h⟩ := h
         refine run_w (ws_app1 (fun r => C.lst (ints r)) (l := ([] : List (List Int)) ++ (sl v16_4 0 v18_5)) (m := ([el o27_3 v17_4]) ++ (sl v16_4 v18_5 (v16_4.length : Int))) rfl rfl rfl rfl rfl (Nat.le_of_ble_eq_true rfl) q67 ⟨rfl, ?_⟩)
         refine run_s (ss_assign rfl) rfl ?_
         refine run_nil ?_
         refine aw_gh (gh_frzE (id := 100) (fun r => C.lst (ints r)) rfl (fun _ => rfl)) ?_
         refine aw_region ?_
         refine run_s (ss_move rfl) rfl ?_
         obtain ⟨q68, h⟩ := h
         refine run_s (ss_add rfl rfl q68) rfl ?_
         refine run_s (ss_assign rfl) rfl ?_
         refine run_nil ?_
         exact ⟨(([] : List (List Int)) ++ (sl v16_4 0 v18_5)) ++ (([el o27_3 v17_4]) ++ (sl v16_4 v18_5 (v16_4.length : Int))), v17_4 + 1, ghe_to (n := 173) rfl rfl ⟨rfl, rfl, rfl, rfl, rfl, rfl, rfl, trivial⟩, h.1, h.2⟩
    ·replace h := h.2 (of_decide_eq_false q15)
     refine aw_exit ?_
     refine aw_seq ?_
     refine aw_region ?_
     refine run_s (ss_move rfl) rfl ?_
     refine run_s (ss_lenL (f := (fun r => C.lst (ints r))) rfl) rfl ?_
     obtain ⟨q69, h⟩ := h
     refine run_w (ws_mk (id := 109) ci (0 : Int) rfl rfl rfl q69 (Nat.le_of_ble_eq_true rfl) rfl ⟨rfl, ?_⟩)
     refine run_w (ws_buildSlice (id := 110) (ps := []) rfl rfl (Nat.le_of_ble_eq_true rfl) rfl ⟨rfl, ?_⟩)
     refine run_s (ss_assign rfl) rfl ?_
     refine run_s (ss_assign rfl) rfl ?_
     refine run_nil ?_
     refine aw_seq ?_
     refine aw_seq ?_
     refine aw_region ?_
     refine run_s (ss_assign rfl) rfl ?_
     refine run_nil ?_
     refine aw_block ?_
     obtain ⟨H6, m6, q70, h⟩ := h
     refine aw_loop3 (fun (v22_5 : Int) (o109_5 : List Int) (o110_5 : List Int) => ⟨[(110, ⟨ints o110_5, []⟩), (109, ⟨ints o109_5, []⟩), (27, ⟨rows o27_3, []⟩)], [(0, .c (.lst (tabs a))), (1, .c (.lst (tabs b))), (11, .c (ci (first.length : Int))), (12, .c (ci v12_1)), (13, .ref 27), (16, .c (.lst (rows v16_4))), (20, .ref 109), (21, .ref 110), (22, .c (ci v22_5))], 173⟩) H6 m6 ⟨0, List.replicate (v16_4.length : Int).toNat (0 : Int), ([] : List Int), ghe_to (n := 173) rfl rfl ⟨rfl, rfl, rfl, rfl, rfl, rfl, rfl, rfl, rfl, trivial⟩, q70⟩ ?_
     rintro v22_5 o109_5 o110_5 q70
     replace h := h v22_5 o109_5 o110_5 q70
     refine aw_seq ?_
     refine aw_seq ?_
     refine aw_region ?_
     refine run_s (ss_move rfl) rfl ?_
     refine run_s (ss_move rfl) rfl ?_
     refine run_s (ss_lenR (f := (fun r => C.lst (ints r))) rfl rfl) rfl ?_
     refine run_s (ss_lss rfl rfl) rfl ?_
     refine run_nil ?_
     refine aw_cond rfl (fun q71 => ?_) (fun q71 => ?_)
     ·replace h := h.1 (of_decide_eq_true q71)
      refine aw_skip ?_
      refine aw_seq ?_
      refine aw_block ?_
      refine aw_seq ?_
      refine aw_region ?_
      refine run_s (ss_assign rfl) rfl ?_
      refine run_nil ?_
      refine aw_seq ?_
      refine aw_block ?_
      obtain ⟨H7, m7, q72, h⟩ := h
      refine aw_loop1 (fun (v23_6 : Int) => ⟨[(110, ⟨ints o110_5, []⟩), (109, ⟨ints o109_5, []⟩), (27, ⟨rows o27_3, []⟩)], [(0, .c (.lst (tabs a))), (1, .c (.lst (tabs b))), (11, .c (ci (first.length : Int))), (12, .c (ci v12_1)), (13, .ref 27), (16, .c (.lst (rows v16_4))), (20, .ref 109), (21, .ref 110), (22, .c (ci v22_5)), (23, .c (ci v23_6))], 173⟩) H7 m7 ⟨0, ghe_to (n := 173) rfl rfl ⟨rfl, rfl, rfl, rfl, rfl, rfl, rfl, rfl, rfl, rfl, trivial⟩, q72⟩ ?_
      rintro v23_6 q72
      replace h := h v23_6 q72
      refine aw_seq ?_
      refine aw_seq ?_
      refine aw_gh (gh_to (n := 173) (σ' := [(110, ⟨ints o110_5, []⟩), (109, ⟨ints o109_5, []⟩), (27, ⟨rows o27_3, []⟩)]) (env' := [(0, .c (.lst (tabs a))), (1, .c (.lst (tabs b))), (11, .c (ci (first.length : Int))), (12, .c (ci v12_1)), (13, .ref 27), (16, .c (.lst (rows v16_4))), (20, .ref 109), (21, .ref 110), (22, .c (ci v22_5)), (23, .c (ci v23_6))]) rfl rfl ⟨rfl, rfl, rfl, rfl, rfl, rfl, rfl, rfl, rfl, rfl, trivial⟩) ?_
      refine aw_regionD (kd := kdl [0, 0, 0, 1, 0, 0, 0, 1, 2, 0]) (ord := [0, 1, 2, 4, 5, 6, 3, 7, 8, 9]) [] mixed (by kernel_rfl) ?_
      refine rd_s rfl rfl trivial (ss_move rfl) rfl ?_
      refine rd_s rfl rfl trivial (ss_move rfl) rfl ?_
      obtain ⟨q73, h⟩ := h
      refine rd_s rfl rfl trivial (ss_idxL rfl rfl q73) rfl ?_
      refine rd_s rfl rfl trivial (ss_move rfl) rfl ?_
      refine rd_s rfl rfl trivial (ss_move rfl) rfl ?_
      obtain ⟨q74, h⟩ := h
      refine rd_s rfl rfl trivial (ss_idxR (f := (fun r => C.lst (ints r))) rfl rfl rfl q74) rfl ?_
      refine rd_l rfl rfl trivial (ss_loadL (f := (fun r => C.lst (ints r))) rfl q73) rfl ?_
      refine rd_l rfl rfl trivial (ss_loadR (f := (fun r => C.lst (ints r))) rfl rfl q74 rfl rfl) rfl ?_
      obtain ⟨q75, h⟩ := h
      refine rd_w rfl rfl trivial rfl rfl (ws_call (xs := [.tmp 120, .tmp 124]) (ids := []) rfl rfl rfl rfl (c_spec_l01Same (el v16_4 v23_6) (el o27_3 v22_5) q75) rfl ?_ )
      rintro _ rfl
      refine ⟨rfl, ?_⟩
      refine rd_s rfl rfl trivial (ss_not rfl) rfl ?_
      refine rd_nil ?_
      refine aw_cond rfl (fun q77 => ?_) (fun q77 => ?_)
      ·replace h := h.1 (of_decide_eq_false (bnot_t q77))
       refine aw_skip ?_
       refine aw_block ?_
       refine aw_region ?_
       refine run_s (ss_move rfl) rfl ?_
       obtain ⟨q78, h⟩ := h
       refine run_s (ss_add rfl rfl q78) rfl ?_
       refine run_s (ss_assign rfl) rfl ?_
       refine run_nil ?_
       exact ⟨v23_6 + 1, ghe_to (n := 173) rfl rfl ⟨rfl, rfl, rfl, rfl, rfl, rfl, rfl, rfl, rfl, rfl, trivial⟩, h.1, h.2⟩
      ·replace h := h.2 (of_decide_eq_true (bnot_f q77))
       refine aw_exit ?_
       refine aw_seq ?_
       refine aw_region ?_
       refine run_s (ss_move rfl) rfl ?_
       refine run_s (ss_move rfl) rfl ?_
       refine run_w (ws_buildSlice (id := 131) (ps := [(0, .tmp 130)]) rfl rfl (Nat.le_of_ble_eq_true rfl) rfl ⟨rfl, ?_⟩)
       obtain ⟨q79, h⟩ := h
       refine run_w (ws_app1 ci (l := o110_5) (m := [v23_6]) rfl rfl rfl rfl rfl (Nat.le_of_ble_eq_true rfl) q79 ⟨rfl, ?_⟩)
       refine run_s (ss_assign rfl) rfl ?_
       refine run_nil ?_
       refine aw_seq ?_
       refine aw_region ?_
       refine run_s (ss_move rfl) rfl ?_
       refine run_s (ss_move rfl) rfl ?_
       refine run_s (ss_lss rfl rfl) rfl ?_
       refine run_nil ?_
       refine aw_cond rfl (fun q80 => ?_) (fun q80 => ?_)
       ·replace h := h.1 (of_decide_eq_true q80)
        refine aw_region ?_
        refine run_s (ss_move rfl) rfl ?_
        refine run_s (ss_move rfl) rfl ?_
        obtain ⟨q81, h⟩ := h
        refine run_s (ss_idxR (f := ci) rfl rfl rfl q81) rfl ?_
        refine run_s (ss_loadR (f := ci) rfl rfl q81 rfl rfl) rfl ?_
        obtain ⟨q82, h⟩ := h
        refine run_s (ss_add rfl rfl q82) rfl ?_
        obtain ⟨q83, h⟩ := h
        refine run_s (ss_idxR (f := ci) rfl rfl rfl q83) rfl ?_
        refine run_w (ws_storeE rfl rfl (map_lt q83) rfl rfl (map_se (f := ci)) rfl ⟨rfl, ?_⟩)
        refine run_nil ?_
        refine aw_gh (gh_to (n := 173) (σ' := [(110, ⟨ints (o110_5 ++ ([v23_6])), []⟩), (109, ⟨ints (se o109_5 v23_6 ((el o109_5 v23_6) + 1)), []⟩), (27, ⟨rows o27_3, []⟩)]) (env' := [(0, .c (.lst (tabs a))), (1, .c (.lst (tabs b))), (11, .c (ci (first.length : Int))), (12, .c (ci v12_1)), (13, .ref 27), (16, .c (.lst (rows v16_4))), (20, .ref 109), (21, .ref 110), (22, .c (ci v22_5))]) rfl rfl ⟨rfl, rfl, rfl, rfl, rfl, rfl, rfl, rfl, rfl, trivial⟩) ?_
        refine aw_region ?_
        refine run_s (ss_move rfl) rfl ?_
        obtain ⟨q84, h⟩ := h
        refine run_s (ss_add rfl rfl q84) rfl ?_
        refine run_s (ss_assign rfl) rfl ?_
        refine run_nil ?_
        exact ⟨v22_5 + 1, se o109_5 v23_6 ((el o109_5 v23_6) + 1), o110_5 ++ ([v23_6]), ghe_to (n := 173) rfl rfl ⟨rfl, rfl, rfl, rfl, rfl, rfl, rfl, rfl, rfl, trivial⟩, h.1, h.2⟩
       ·replace h := h.2 (of_decide_eq_false q80)
        refine aw_region ?_
        refine run_s (ss_move rfl) rfl ?_
        refine run_s (ss_move rfl) rfl ?_
        obtain ⟨q85, h⟩ := h
        refine run_s (ss_idxR (f := ci) rfl rfl rfl q85) rfl ?_
        refine run_s (ss_loadR (f := ci) rfl rfl q85 rfl rfl) rfl ?_
        obtain ⟨q86, h⟩ := h
        refine run_s (ss_sub rfl rfl q86) rfl ?_
        obtain ⟨q87, h⟩ := h
        refine run_s (ss_idxR (f := ci) rfl rfl rfl q87) rfl ?_
        refine run_w (ws_storeE rfl rfl (map_lt q87) rfl rfl (map_se (f := ci)) rfl ⟨rfl, ?_⟩)
        refine run_nil ?_
        refine aw_gh (gh_to (n := 173) (σ' := [(110, ⟨ints (o110_5 ++ ([v23_6])), []⟩), (109, ⟨ints (se o109_5 v23_6 ((el o109_5 v23_6) - 1)), []⟩), (27, ⟨rows o27_3, []⟩)]) (env' := [(0, .c (.lst (tabs a))), (1, .c (.lst (tabs b))), (11, .c (ci (first.length : Int))), (12, .c (ci v12_1)), (13, .ref 27), (16, .c (.lst (rows v16_4))), (20, .ref 109), (21, .ref 110), (22, .c (ci v22_5))]) rfl rfl ⟨rfl, rfl, rfl, rfl, rfl, rfl, rfl, rfl, rfl, trivial⟩) ?_
        refine aw_region ?_
        refine run_s (ss_move rfl) rfl ?_
        obtain ⟨q88, h⟩ := h
        refine run_s (ss_add rfl rfl q88) rfl ?_
        refine run_s (ss_assign rfl) rfl ?_
        refine run_nil ?_
        exact ⟨v22_5 + 1, se o109_5 v23_6 ((el o109_5 v23_6) - 1), o110_5 ++ ([v23_6]), ghe_to (n := 173) rfl rfl ⟨rfl, rfl, rfl, rfl, rfl, rfl, rfl, rfl, rfl, trivial⟩, h.1, h.2⟩
     ·replace h := h.2 (of_decide_eq_false q71)
      refine aw_exit ?_
      refine aw_seq ?_
      refine aw_seq ?_
      refine aw_region ?_
      refine run_s (ss_assign rfl) rfl ?_
      refine run_nil ?_
      refine aw_block ?_
      refine aw_gh (gh_frzE (id := 27) (fun r => C.lst (ints r)) rfl (fun _ => rfl)) ?_
      obtain ⟨H8, m8, q89, h⟩ := h
      refine aw_loop1 (fun (v24_6 : Int) => ⟨[(110, ⟨ints o110_5, []⟩), (109, ⟨ints o109_5, []⟩)], [(0, .c (.lst (tabs a))), (1, .c (.lst (tabs b))), (11, .c (ci (first.length : Int))), (12, .c (ci v12_1)), (16, .c (.lst (rows v16_4))), (20, .ref 109), (21, .ref 110), (24, .c (ci v24_6))], 173⟩) H8 m8 ⟨0, ghe_to (n := 173) rfl rfl ⟨rfl, rfl, rfl, rfl, rfl, rfl, rfl, rfl, trivial⟩, q89⟩ ?_
      rintro v24_6 q89
      replace h := h v24_6 q89
      refine aw_seq ?_
      refine aw_seq ?_
      refine aw_region ?_
      refine run_s (ss_move rfl) rfl ?_
      refine run_s (ss_move rfl) rfl ?_
      refine run_s (ss_lenR (f := ci) rfl rfl) rfl ?_
      refine run_s (ss_lss rfl rfl) rfl ?_
      refine run_nil ?_
      refine aw_cond rfl (fun q90 => ?_) (fun q90 => ?_)
      ·replace h := h.1 (of_decide_eq_true q90)
       refine aw_skip ?_
       refine aw_seq ?_
       refine aw_block ?_
       refine aw_seq ?_
       refine aw_region ?_
       refine run_s (ss_move rfl) rfl ?_
       refine run_s (ss_move rfl) rfl ?_
       obtain ⟨q91, h⟩ := h
       refine run_s (ss_idxR (f := ci) rfl rfl rfl q91) rfl ?_
       refine run_s (ss_loadR (f := ci) rfl rfl q91 rfl rfl) rfl ?_
       refine run_s (ss_neq rfl rfl) rfl ?_
       refine run_nil ?_
       refine aw_cond rfl (fun q92 => ?_) (fun q92 => ?_)
       ·replace h := h.1 (of_decide_eq_false (bnot_t q92))
        refine aw_seq ?_
        refine aw_gh (gh_to (n := 173) (σ' := [(110, ⟨ints o110_5, []⟩), (109, ⟨ints o109_5, []⟩)]) (env' := []) rfl rfl trivial) ?_
        refine aw_region ?_
        refine run_s (ss_assign rfl) rfl ?_
        refine run_s (ss_assign rfl) rfl ?_
        refine run_s (ss_assign rfl) rfl ?_
        refine run_nil ?_
        refine aw_ret ?_
        exact retAF_mk (retv3 rfl (rv_tmp rfl) (rv_tmp rfl) (rv_tmp rfl)) rfl rfl ⟨_, (cle_tup (cleL_cons cle_nilL (cleL_cons cle_nilL (cleL_cons (cle_refl _) cleL_nil)))), _, _, _, h, rfl⟩
       ·replace h := h.2 (of_decide_eq_true (bnot_f q92))
        refine aw_skip ?_
        refine aw_region ?_
        refine run_s (ss_move rfl) rfl ?_
        obtain ⟨q93, h⟩ := h
        refine run_s (ss_add rfl rfl q93) rfl ?_
        refine run_s (ss_assign rfl) rfl ?_
        refine run_nil ?_
        exact ⟨v24_6 + 1, ghe_to (n := 173) rfl rfl ⟨rfl, rfl, rfl, rfl, rfl, rfl, rfl, rfl, trivial⟩, h.1, h.2⟩
      ·replace h := h.2 (of_decide_eq_false q90)
       refine aw_exit ?_
       refine aw_seq ?_
       refine aw_region ?_
       refine run_s (ss_move rfl) rfl ?_
       refine run_s (ss_move rfl) rfl ?_
       refine run_gh (gh_frzE (id := 110) ci rfl (fun _ => rfl)) ?_
       obtain ⟨q94, h⟩ := h
       refine run_s (ss_slL (f := ci) rfl rfl ⟨_, rfl⟩ q94) rfl ?_
       refine run_s (ss_assign rfl) rfl ?_
       refine run_nil ?_
       refine aw_seq ?_
       refine aw_region ?_
       refine run_s (ss_move rfl) rfl ?_
       refine run_s (ss_move rfl) rfl ?_
       obtain ⟨q95, h⟩ := h
       refine run_s (ss_slL (f := ci) rfl ⟨_, rfl⟩ rfl q95) rfl ?_
       refine run_s (ss_assign rfl) rfl ?_
       refine run_nil ?_
       refine aw_seq ?_
       refine aw_seq ?_
       refine aw_region ?_
       refine run_s (ss_move rfl) rfl ?_
       refine run_s (ss_lenL (f := (fun r => C.lst (ints r))) rfl) rfl ?_
       refine run_s (ss_move rfl) rfl ?_
       refine run_s (ss_eql rfl rfl) rfl ?_
       refine run_nil ?_
       refine aw_cond rfl (fun q96 => ?_) (fun q96 => ?_)
       ·replace h := h.1 (of_decide_eq_true q96)
        refine aw_seq ?_
        refine aw_gh (gh_to (n := 173) (σ' := [(109, ⟨ints o109_5, []⟩)]) (env' := [(2, .c (.lst (ints (sl o110_5 0 (first.length : Int))))), (3, .c (.lst (ints (sl o110_5 (first.length : Int) (o110_5.length : Int)))))]) rfl rfl ⟨rfl, rfl, trivial⟩) ?_
        refine aw_region ?_
        refine run_s (ss_move rfl) rfl ?_
        refine run_s (ss_move rfl) rfl ?_
        refine run_s (ss_assign rfl) rfl ?_
        refine run_s (ss_assign rfl) rfl ?_
        refine run_s (ss_assign rfl) rfl ?_
        refine run_nil ?_
        refine aw_ret ?_
        exact retAF_mk (retv3 rfl (rv_tmp rfl) (rv_tmp rfl) (rv_tmp rfl)) rfl rfl ⟨_, (cle_refl _), _, _, _, h, rfl⟩
       ·replace h := h.2 (of_decide_eq_false q96)
        refine aw_skip ?_
        refine aw_region ?_
        refine run_s (ss_move rfl) rfl ?_
        refine run_s (ss_lenL (f := (fun r => C.lst (ints r))) rfl) rfl ?_
        refine run_s (ss_assign rfl) rfl ?_
        refine run_nil ?_
        exact ⟨sl o110_5 0 (first.length : Int), sl o110_5 (first.length : Int) (o110_5.length : Int), (v16_4.length : Int), ghe_step (gh_frzE (id := 109) ci rfl (fun _ => rfl)) (ghe_to (n := 173) rfl rfl ⟨rfl, rfl, rfl, rfl, rfl, rfl, trivial⟩), h.1, h.2⟩

theorem c_spec_l03Refine (a : List (List (List Int))) (b : List (List (List Int))) (first : List Int) (second : List Int) (hp : RfD a b first second) : AF Try.prog 38 [.lst (tabs a), .lst (tabs b), .lst (ints first), .lst (ints second)] (fun R_ => ∃ y0 y1 y2, (RfP a b first second y0 y1 y2) ∧ R_ = .tup [.lst (ints y0), .lst (ints y1), cb y2]) :=
  w_spec_l03Refine a b first second (fun y0 y1 y2 => RfP a b first second y0 y1 y2) (p_spec_l03Refine a b first second hp)

set_option maxRecDepth 100000 in
set_option maxHeartbeats 4000000 in
theorem w_spec_l03Seek (a : List (List (List Int))) (b : List (List (List Int))) (f : List Int) (first : List Int) (second : List Int) (most : Int) (out : List (List Int)) (Q : List (List Int) → Prop) (hrec : ∀ (a' : List (List (List Int))) (b' : List (List (List Int))) (f' : List Int) (first' : List Int) (second' : List Int) (most' : Int) (out' : List (List Int)), ((el a' 0).length - f'.length) < ((el a 0).length - f.length) → (SkD a' b' f' first' second' most' out') → AM Try.prog 39 [.lst (tabs a'), .lst (tabs b'), .lst (ints f'), .lst (ints first'), .lst (ints second'), ci most', .own (orows out')] (fun R_ O_ => R_ = .own (orows (out' ++ (extL a' b' (padM f' first')).take (most' - (out'.length : Int)).toNat)) ∧ O_ = [.lst (tabs a'), .lst (tabs b'), .lst (ints f'), .lst (ints first'), .lst (ints second'), ci most', .hole])) (h : wp_spec_l03Seek a b f first second most out Q) : AM Try.prog 39 [.lst (tabs a), .lst (tabs b), .lst (ints f), .lst (ints first), .lst (ints second), ci most, .own (orows out)] (fun R_ O_ => ∃ y0, Q y0 ∧ R_ = .own (orows y0) ∧ O_ = [.lst (tabs a), .lst (tabs b), .lst (ints f), .lst (ints first), .lst (ints second), ci most, .hole]) := by
  refine am_enter (n := 101) (m := 7) Try.func39 rfl (by rfl) rfl rfl (Nat.le_of_ble_eq_true rfl) [800] rfl ?_
  unfold wp_spec_l03Seek at h
  refine aw_gh (gh_to (n := 101) (σ' := [(800, ⟨orows out, []⟩)]) (env' := [(0, .c (.lst (tabs a))), (1, .c (.lst (tabs b))), (2, .c (.lst (ints f))), (3, .c (.lst (ints first))), (4, .c (.lst (ints second))), (5, .c (ci most)), (6, .ref 800), (101, .c (.lst (tabs a))), (102, .c (.lst (tabs b))), (103, .c (.lst (ints f))), (104, .c (.lst (ints first))), (105, .c (.lst (ints second))), (106, .c (ci most))]) rfl rfl ⟨rfl, rfl, rfl, rfl, rfl, rfl, rfl, rfl, rfl, rfl, rfl, rfl, rfl, trivial⟩) ?_
  refine aw_seq ?_
  refine aw_gh (gh_to (n := 101) (σ' := [(800, ⟨orows out, []⟩)]) (env' := [(0, .c (.lst (tabs a))), (1, .c (.lst (tabs b))), (2, .c (.lst (ints f))), (3, .c (.lst (ints first))), (4, .c (.lst (ints second))), (5, .c (ci most)), (6, .ref 800), (101, .c (.lst (tabs a))), (102, .c (.lst (tabs b))), (103, .c (.lst (ints f))), (104, .c (.lst (ints first))), (105, .c (.lst (ints second))), (106, .c (ci most))]) rfl rfl ⟨rfl, rfl, rfl, rfl, rfl, rfl, rfl, rfl, rfl, rfl, rfl, rfl, rfl, trivial⟩) ?_
  refine aw_region ?_
  refine run_s (ss_assign rfl) rfl ?_
  refine run_nil ?_
  refine aw_seq ?_
  refine aw_region ?_
  refine run_s (ss_move rfl) rfl ?_
  refine run_s (ss_lenL (f := ci) rfl) rfl ?_
  refine run_s (ss_assign rfl) rfl ?_
  refine run_nil ?_
  refine aw_seq ?_
  refine aw_seq ?_
  refine aw_region ?_
  refine run_s (ss_move rfl) rfl ?_
  refine run_s (ss_move rfl) rfl ?_
  refine run_s (ss_lenL (f := ci) rfl) rfl ?_
  refine run_s (ss_eql rfl rfl) rfl ?_
  refine run_nil ?_
  refine aw_cond rfl (fun q1 => ?_) (fun q1 => ?_)
  ·replace h := h.1 (of_decide_eq_true q1)
   refine aw_seq ?_
   refine aw_gh (gh_to (n := 101) (σ' := [(800, ⟨orows out, []⟩)]) (env' := [(2, .c (.lst (ints f))), (6, .ref 800), (14, .c (cnil)), (101, .c (.lst (tabs a))), (102, .c (.lst (tabs b))), (103, .c (.lst (ints f))), (104, .c (.lst (ints first))), (105, .c (.lst (ints second))), (106, .c (ci most))]) rfl rfl ⟨rfl, rfl, rfl, rfl, rfl, rfl, rfl, rfl, rfl, trivial⟩) ?_
   refine aw_region ?_
   refine run_s (ss_move rfl) rfl ?_
   refine run_s (ss_move rfl) rfl ?_
   obtain ⟨q2, h⟩ := h
   refine run_w (ws_call (xs := [.tmp 30]) (ids := [31]) rfl rfl rfl rfl (c_spec_l01Own f q2) rfl ?_ )
   rintro _ rfl
   refine ⟨rfl, ?_⟩
   refine run_w (ws_buildSlice (id := 32) (ps := [(0, .tmp 31)]) rfl rfl (Nat.le_of_ble_eq_true rfl) rfl ⟨rfl, ?_⟩)
   refine run_gh (gh_fill (id := 32) (id2 := 31) (j := 0) rfl rfl (Nat.le_of_ble_eq_true rfl) rfl rfl rfl) ?_
   obtain ⟨q4, h⟩ := h
   refine run_w (ws_app1 (fun r => C.own (ints r)) (l := out) (m := [f]) rfl rfl rfl rfl rfl (Nat.le_of_ble_eq_true rfl) q4 ⟨rfl, ?_⟩)
   refine run_s (ss_assign rfl) rfl ?_
   refine run_nil ?_
   refine aw_ret ?_
   exact retAM_mk (retv1 rfl (rv_tmp rfl)) rfl rfl rfl ⟨_, h, rfl, rfl⟩
  ·replace h := h.2 (of_decide_eq_false q1)
   refine aw_skip ?_
   refine aw_seq ?_
   refine aw_seq ?_
   refine aw_region ?_
   refine run_s (ss_assign rfl) rfl ?_
   refine run_nil ?_
   refine aw_block ?_
   obtain ⟨H1, m1, q5, h⟩ := h
   refine aw_loop2 (fun (v16_1 : Int) (o800_1 : List (List Int)) => ⟨[(800, ⟨orows o800_1, []⟩)], [(0, .c (.lst (tabs a))), (1, .c (.lst (tabs b))), (2, .c (.lst (ints f))), (3, .c (.lst (ints first))), (4, .c (.lst (ints second))), (5, .c (ci most)), (6, .ref 800), (15, .c (ci (f.length : Int))), (16, .c (ci v16_1)), (101, .c (.lst (tabs a))), (102, .c (.lst (tabs b))), (103, .c (.lst (ints f))), (104, .c (.lst (ints first))), (105, .c (.lst (ints second))), (106, .c (ci most))], 101⟩) H1 m1 ⟨0, out, ghe_to (n := 101) rfl rfl ⟨rfl, rfl, rfl, rfl, rfl, rfl, rfl, rfl, rfl, rfl, rfl, rfl, rfl, rfl, rfl, trivial⟩, q5⟩ ?_
   rintro v16_1 o800_1 q5
   replace h := h v16_1 o800_1 q5
   refine aw_seq ?_
   refine aw_seq ?_
   refine aw_region ?_
   refine run_s (ss_move rfl) rfl ?_
   refine run_s (ss_move rfl) rfl ?_
   refine run_s (ss_lenL (f := ci) rfl) rfl ?_
   refine run_s (ss_lss rfl rfl) rfl ?_
   refine run_s (ss_move rfl) rfl ?_
   refine run_split (s := 38) rfl (fun q6 => ?_) (fun q6 => ?_)
   ·replace h := h.1 (of_decide_eq_true q6)
    refine run_gt rfl rfl q6 ?_
    refine run_s (ss_move rfl) rfl ?_
    refine run_gt rfl rfl q6 ?_
    refine run_s (ss_lenR (f := (fun r => C.own (ints r))) rfl rfl) rfl ?_
    refine run_gt rfl rfl q6 ?_
    refine run_s (ss_move rfl) rfl ?_
    refine run_gt rfl rfl q6 ?_
    refine run_s (ss_lss rfl rfl) rfl ?_
    refine run_s (ss_pickT rfl q6 rfl) rfl ?_
    refine run_nil ?_
    refine aw_cond rfl (fun q7 => ?_) (fun q7 => ?_)
    ·replace h := h.1 (of_decide_eq_true q7)
     refine aw_skip ?_
     refine aw_seq ?_
     refine aw_block ?_
     refine aw_seq ?_
     refine aw_region ?_
     refine run_s (ss_move rfl) rfl ?_
     obtain ⟨q8, h⟩ := h
     refine run_w (ws_call (xs := [.tmp 46]) (ids := [47]) rfl rfl rfl rfl (c_spec_l01Own f q8) rfl ?_ )
     rintro _ rfl
     refine ⟨rfl, ?_⟩
     refine run_s (ss_move rfl) rfl ?_
     refine run_w (ws_buildSlice (id := 49) (ps := [(0, .tmp 48)]) rfl rfl (Nat.le_of_ble_eq_true rfl) rfl ⟨rfl, ?_⟩)
     obtain ⟨q10, h⟩ := h
     refine run_w (ws_app1 ci (l := f) (m := [v16_1]) rfl rfl rfl rfl rfl (Nat.le_of_ble_eq_true rfl) q10 ⟨rfl, ?_⟩)
     refine run_s (ss_assign rfl) rfl ?_
     refine run_nil ?_
     refine aw_seq ?_
     refine aw_seq ?_
     refine aw_gh (gh_to (n := 101) (σ' := [(47, ⟨ints (f ++ ([v16_1])), []⟩), (800, ⟨orows o800_1, []⟩)]) (env' := [(0, .c (.lst (tabs a))), (1, .c (.lst (tabs b))), (2, .c (.lst (ints f))), (3, .c (.lst (ints first))), (4, .c (.lst (ints second))), (5, .c (ci most)), (6, .ref 800), (15, .c (ci (f.length : Int))), (16, .c (ci v16_1)), (17, .ref 47), (39, .ref 800), (40, .c (ci (o800_1.length : Int))), (41, .c (ci most)), (42, .c (cb (decide ((o800_1.length : Int) < most)))), (101, .c (.lst (tabs a))), (102, .c (.lst (tabs b))), (103, .c (.lst (ints f))), (104, .c (.lst (ints first))), (105, .c (.lst (ints second))), (106, .c (ci most))]) rfl rfl ⟨rfl, rfl, rfl, rfl, rfl, rfl, rfl, rfl, rfl, rfl, rfl, rfl, rfl, rfl, rfl, rfl, rfl, rfl, rfl, rfl, trivial⟩) ?_
     refine aw_regionD (kd := kdl [0, 0, 2, 0, 0, 0, 0, 1, 0, 0, 0, 1, 0, 0, 0, 0, 0, 0, 2, 0, 0]) (ord := [0, 1, 2, 3, 4, 5, 6, 8, 9, 10, 7, 11, 12, 13, 14, 15, 16, 17, 18, 19, 20]) [] mixed (by kernel_rfl) ?_
     refine rd_s rfl rfl trivial (ss_move rfl) rfl ?_
     refine rd_s rfl rfl trivial (ss_move rfl) rfl ?_
     obtain ⟨q11, h⟩ := h
     refine rd_w rfl rfl trivial rfl rfl (ws_call (xs := [.tmp 51, .tmp 52]) (ids := []) rfl rfl rfl rfl (c_spec_l01Has f v16_1 q11) rfl ?_ )
     rintro _ rfl
     refine ⟨rfl, ?_⟩
     refine rd_s rfl rfl trivial (ss_move rfl) rfl ?_
     refine rd_split (s := 54) rfl (fun q13 => ?_) (fun q13 => ?_)
     ·replace h := h.1 (q13)
      refine rd_no rfl rfl rfl q13 rfl ?_
      refine rd_no rfl rfl rfl q13 rfl ?_
      refine rd_no rfl rfl rfl q13 rfl ?_
      refine rd_no rfl rfl rfl q13 rfl ?_
      refine rd_no rfl rfl rfl q13 rfl ?_
      refine rd_no rfl rfl rfl q13 rfl ?_
      refine rd_no rfl rfl rfl q13 rfl ?_
      refine rd_no rfl rfl rfl q13 rfl ?_
      refine rd_no rfl rfl rfl q13 rfl ?_
      refine rd_s rfl rfl trivial (ss_pickT rfl q13 rfl) rfl ?_
      refine rd_s rfl rfl trivial (ss_move rfl) rfl ?_
      refine rd_split (s := 65) rfl (fun q14 => ?_) (fun q14 => ?_)
      ·skip
       refine rd_no rfl rfl rfl q14 rfl ?_
       refine rd_no rfl rfl rfl q14 rfl ?_
       refine rd_no rfl rfl rfl q14 rfl ?_
       refine rd_no rfl rfl rfl q14 rfl ?_
       refine rd_no rfl rfl rfl q14 rfl ?_
       refine rd_s rfl rfl trivial (ss_pickT rfl q14 rfl) rfl ?_
       refine rd_nil ?_
       refine aw_cond rfl (fun q15 => ?_) (fun q15 => ?_)
       ·skip
        refine aw_exit ?_
        refine aw_gh (gh_to (n := 101) (σ' := [(47, ⟨ints (f ++ ([v16_1])), []⟩), (800, ⟨orows o800_1, []⟩)]) (env' := [(0, .c (.lst (tabs a))), (1, .c (.lst (tabs b))), (2, .c (.lst (ints f))), (3, .c (.lst (ints first))), (4, .c (.lst (ints second))), (5, .c (ci most)), (6, .ref 800), (15, .c (ci (f.length : Int))), (16, .c (ci v16_1)), (39, .ref 800), (40, .c (ci (o800_1.length : Int))), (41, .c (ci most)), (42, .c (cb (decide ((o800_1.length : Int) < most)))), (101, .c (.lst (tabs a))), (102, .c (.lst (tabs b))), (103, .c (.lst (ints f))), (104, .c (.lst (ints first))), (105, .c (.lst (ints second))), (106, .c (ci most))]) rfl rfl ⟨rfl, rfl, rfl, rfl, rfl, rfl, rfl, rfl, rfl, rfl, rfl, rfl, rfl, rfl, rfl, rfl, rfl, rfl, rfl, trivial⟩) ?_
        refine aw_region ?_
        refine run_s (ss_move rfl) rfl ?_
        obtain ⟨q16, h⟩ := h
        refine run_s (ss_add rfl rfl q16) rfl ?_
        refine run_s (ss_assign rfl) rfl ?_
        refine run_nil ?_
        exact ⟨v16_1 + 1, o800_1, ghe_step (gh_frzE (id := 47) ci rfl (fun _ => rfl)) (ghe_to (n := 101) rfl rfl ⟨rfl, rfl, rfl, rfl, rfl, rfl, rfl, rfl, rfl, rfl, rfl, rfl, rfl, rfl, rfl, trivial⟩), h.1, h.2⟩
       ·cases q15
      ·cases q14
     ·replace h := h.2 (q13)
      refine rd_s rfl rfl ⟨_, _, rfl, rfl, q13⟩ (ss_move rfl) rfl ?_
      refine rd_s rfl rfl ⟨_, _, rfl, rfl, q13⟩ (ss_move rfl) rfl ?_
      obtain ⟨q17, h⟩ := h
      refine rd_s rfl rfl ⟨_, _, rfl, rfl, q13⟩ (ss_idxL rfl rfl q17) rfl ?_
      refine rd_s rfl rfl ⟨_, _, rfl, rfl, q13⟩ (ss_move rfl) rfl ?_
      refine rd_s rfl rfl ⟨_, _, rfl, rfl, q13⟩ (ss_move rfl) rfl ?_
      obtain ⟨q18, h⟩ := h
      refine rd_s rfl rfl ⟨_, _, rfl, rfl, q13⟩ (ss_idxL rfl rfl q18) rfl ?_
      refine rd_l rfl rfl ⟨_, _, rfl, rfl, q13⟩ (ss_loadL (f := ci) rfl q17) rfl ?_
      refine rd_l rfl rfl ⟨_, _, rfl, rfl, q13⟩ (ss_loadL (f := ci) rfl q18) rfl ?_
      refine rd_s rfl rfl ⟨_, _, rfl, rfl, q13⟩ (ss_neq rfl rfl) rfl ?_
      refine rd_s rfl rfl trivial (ss_pickF rfl q13 rfl) rfl ?_
      refine rd_s rfl rfl trivial (ss_move rfl) rfl ?_
      refine rd_split (s := 65) rfl (fun q19 => ?_) (fun q19 => ?_)
      ·replace h := h.1 (of_decide_eq_false (bnot_t q19))
       refine rd_no rfl rfl rfl q19 rfl ?_
       refine rd_no rfl rfl rfl q19 rfl ?_
       refine rd_no rfl rfl rfl q19 rfl ?_
       refine rd_no rfl rfl rfl q19 rfl ?_
       refine rd_no rfl rfl rfl q19 rfl ?_
       refine rd_s rfl rfl trivial (ss_pickT rfl q19 rfl) rfl ?_
       refine rd_nil ?_
       refine aw_cond rfl (fun q20 => ?_) (fun q20 => ?_)
       ·skip
        refine aw_exit ?_
        refine aw_gh (gh_to (n := 101) (σ' := [(47, ⟨ints (f ++ ([v16_1])), []⟩), (800, ⟨orows o800_1, []⟩)]) (env' := [(0, .c (.lst (tabs a))), (1, .c (.lst (tabs b))), (2, .c (.lst (ints f))), (3, .c (.lst (ints first))), (4, .c (.lst (ints second))), (5, .c (ci most)), (6, .ref 800), (15, .c (ci (f.length : Int))), (16, .c (ci v16_1)), (39, .ref 800), (40, .c (ci (o800_1.length : Int))), (41, .c (ci most)), (42, .c (cb (decide ((o800_1.length : Int) < most)))), (55, .c (.lst (ints first))), (56, .c (ci (f.length : Int))), (57, .c (.ptr ((ints first).drop (f.length : Int).toNat))), (58, .c (ci (el first (f.length : Int)))), (59, .c (.lst (ints second))), (60, .c (ci v16_1)), (61, .c (.ptr ((ints second).drop v16_1.toNat))), (62, .c (ci (el second v16_1))), (63, .c (cb (!(decide (el first (f.length : Int) = el second v16_1))))), (101, .c (.lst (tabs a))), (102, .c (.lst (tabs b))), (103, .c (.lst (ints f))), (104, .c (.lst (ints first))), (105, .c (.lst (ints second))), (106, .c (ci most))]) rfl rfl ⟨rfl, rfl, rfl, rfl, rfl, rfl, rfl, rfl, rfl, rfl, rfl, rfl, rfl, rfl, rfl, rfl, rfl, rfl, rfl, rfl, rfl, rfl, rfl, rfl, rfl, rfl, rfl, rfl, trivial⟩) ?_
        refine aw_region ?_
        refine run_s (ss_move rfl) rfl ?_
        obtain ⟨q21, h⟩ := h
        refine run_s (ss_add rfl rfl q21) rfl ?_
        refine run_s (ss_assign rfl) rfl ?_
        refine run_nil ?_
        exact ⟨v16_1 + 1, o800_1, ghe_step (gh_frzE (id := 47) ci rfl (fun _ => rfl)) (ghe_to (n := 101) rfl rfl ⟨rfl, rfl, rfl, rfl, rfl, rfl, rfl, rfl, rfl, rfl, rfl, rfl, rfl, rfl, rfl, trivial⟩), h.1, h.2⟩
       ·cases q20
      ·replace h := h.2 (of_decide_eq_true (bnot_f q19))
       refine rd_s rfl rfl ⟨_, _, rfl, rfl, q19⟩ (ss_move rfl) rfl ?_
       refine rd_s rfl rfl ⟨_, _, rfl, rfl, q19⟩ (ss_move rfl) rfl ?_
       refine rd_s rfl rfl ⟨_, _, rfl, rfl, q19⟩ (ss_move rfl) rfl ?_
       obtain ⟨q22, h⟩ := h
       refine rd_w rfl rfl ⟨_, _, rfl, rfl, q19⟩ rfl rfl (ws_callR (xs := [.tmp 66, .tmp 67, .tmp 68]) (cs := [.lst (tabs a), .lst (tabs b), .own (ints (f ++ ([v16_1])))]) (ids := []) rfl (.inr ⟨rfl, rfl⟩) rfl rfl (fz_cons rfl (fz_cons rfl (fz_cons (fz_own (fz_map (fun _ => rfl) _)) fz_nil))) (c_spec_l03Fits a b (f ++ ([v16_1])) q22) rfl ?_ )
       rintro _ rfl
       refine ⟨rfl, rfl, ?_⟩
       refine rd_s rfl rfl ⟨_, _, rfl, rfl, q19⟩ (ss_not rfl) rfl ?_
       refine rd_s rfl rfl trivial (ss_pickF rfl q19 rfl) rfl ?_
       refine rd_nil ?_
       refine aw_cond rfl (fun q24 => ?_) (fun q24 => ?_)
       ·replace h := h.1 ((bnot_t q24))
        refine aw_exit ?_
        refine aw_gh (gh_to (n := 101) (σ' := [(47, ⟨ints (f ++ ([v16_1])), []⟩), (800, ⟨orows o800_1, []⟩)]) (env' := [(0, .c (.lst (tabs a))), (1, .c (.lst (tabs b))), (2, .c (.lst (ints f))), (3, .c (.lst (ints first))), (4, .c (.lst (ints second))), (5, .c (ci most)), (6, .ref 800), (15, .c (ci (f.length : Int))), (16, .c (ci v16_1)), (39, .ref 800), (40, .c (ci (o800_1.length : Int))), (41, .c (ci most)), (42, .c (cb (decide ((o800_1.length : Int) < most)))), (55, .c (.lst (ints first))), (56, .c (ci (f.length : Int))), (57, .c (.ptr ((ints first).drop (f.length : Int).toNat))), (58, .c (ci (el first (f.length : Int)))), (59, .c (.lst (ints second))), (60, .c (ci v16_1)), (61, .c (.ptr ((ints second).drop v16_1.toNat))), (62, .c (ci (el second v16_1))), (63, .c (cb (!(decide (el first (f.length : Int) = el second v16_1))))), (66, .c (.lst (tabs a))), (67, .c (.lst (tabs b))), (68, .ref 47), (69, .c (cb (dec (conA a b (f ++ ([v16_1])))))), (70, .c (cb (!((dec (conA a b (f ++ ([v16_1])))))))), (101, .c (.lst (tabs a))), (102, .c (.lst (tabs b))), (103, .c (.lst (ints f))), (104, .c (.lst (ints first))), (105, .c (.lst (ints second))), (106, .c (ci most))]) rfl rfl ⟨rfl, rfl, rfl, rfl, rfl, rfl, rfl, rfl, rfl, rfl, rfl, rfl, rfl, rfl, rfl, rfl, rfl, rfl, rfl, rfl, rfl, rfl, rfl, rfl, rfl, rfl, rfl, rfl, rfl, rfl, rfl, rfl, rfl, trivial⟩) ?_
        refine aw_region ?_
        refine run_s (ss_move rfl) rfl ?_
        obtain ⟨q25, h⟩ := h
        refine run_s (ss_add rfl rfl q25) rfl ?_
        refine run_s (ss_assign rfl) rfl ?_
        refine run_nil ?_
        exact ⟨v16_1 + 1, o800_1, ghe_step (gh_frzE (id := 47) ci rfl (fun _ => rfl)) (ghe_to (n := 101) rfl rfl ⟨rfl, rfl, rfl, rfl, rfl, rfl, rfl, rfl, rfl, rfl, rfl, rfl, rfl, rfl, rfl, trivial⟩), h.1, h.2⟩
       ·replace h := h.2 ((bnot_f q24))
        refine aw_skip ?_
        refine aw_seq ?_
        refine aw_gh (gh_to (n := 101) (σ' := [(47, ⟨ints (f ++ ([v16_1])), []⟩), (800, ⟨orows o800_1, []⟩)]) (env' := [(0, .c (.lst (tabs a))), (1, .c (.lst (tabs b))), (2, .c (.lst (ints f))), (3, .c (.lst (ints first))), (4, .c (.lst (ints second))), (5, .c (ci most)), (6, .ref 800), (15, .c (ci (f.length : Int))), (16, .c (ci v16_1)), (17, .ref 47), (39, .ref 800), (40, .c (ci (o800_1.length : Int))), (41, .c (ci most)), (42, .c (cb (decide ((o800_1.length : Int) < most)))), (55, .c (.lst (ints first))), (56, .c (ci (f.length : Int))), (57, .c (.ptr ((ints first).drop (f.length : Int).toNat))), (58, .c (ci (el first (f.length : Int)))), (59, .c (.lst (ints second))), (60, .c (ci v16_1)), (61, .c (.ptr ((ints second).drop v16_1.toNat))), (62, .c (ci (el second v16_1))), (63, .c (cb (!(decide (el first (f.length : Int) = el second v16_1))))), (66, .c (.lst (tabs a))), (67, .c (.lst (tabs b))), (68, .ref 47), (69, .c (cb (dec (conA a b (f ++ ([v16_1])))))), (70, .c (cb (!((dec (conA a b (f ++ ([v16_1])))))))), (101, .c (.lst (tabs a))), (102, .c (.lst (tabs b))), (103, .c (.lst (ints f))), (104, .c (.lst (ints first))), (105, .c (.lst (ints second))), (106, .c (ci most))]) rfl rfl ⟨rfl, rfl, rfl, rfl, rfl, rfl, rfl, rfl, rfl, rfl, rfl, rfl, rfl, rfl, rfl, rfl, rfl, rfl, rfl, rfl, rfl, rfl, rfl, rfl, rfl, rfl, rfl, rfl, rfl, rfl, rfl, rfl, rfl, rfl, trivial⟩) ?_
        refine aw_region ?_
        refine run_s (ss_move rfl) rfl ?_
        obtain ⟨q26, h⟩ := h
        refine run_w (ws_call (xs := [.tmp 72]) (ids := [73]) rfl rfl rfl rfl (c_spec_l01Own first q26) rfl ?_ )
        rintro _ rfl
        refine ⟨rfl, ?_⟩
        refine run_s (ss_move rfl) rfl ?_
        obtain ⟨q28, h⟩ := h
        refine run_w (ws_call (xs := [.tmp 74]) (ids := [75]) rfl rfl rfl rfl (c_spec_l01Own second q28) rfl ?_ )
        rintro _ rfl
        refine ⟨rfl, ?_⟩
        refine run_s (ss_assign rfl) rfl ?_
        refine run_s (ss_assign rfl) rfl ?_
        refine run_nil ?_
        refine aw_seq ?_
        refine aw_gh (gh_to (n := 101) (σ' := [(75, ⟨ints second, []⟩), (73, ⟨ints first, []⟩), (47, ⟨ints (f ++ ([v16_1])), []⟩), (800, ⟨orows o800_1, []⟩)]) (env' := [(0, .c (.lst (tabs a))), (1, .c (.lst (tabs b))), (2, .c (.lst (ints f))), (3, .c (.lst (ints first))), (4, .c (.lst (ints second))), (5, .c (ci most)), (6, .ref 800), (15, .c (ci (f.length : Int))), (16, .c (ci v16_1)), (17, .ref 47), (18, .ref 73), (19, .ref 75), (39, .ref 800), (40, .c (ci (o800_1.length : Int))), (41, .c (ci most)), (42, .c (cb (decide ((o800_1.length : Int) < most)))), (55, .c (.lst (ints first))), (56, .c (ci (f.length : Int))), (57, .c (.ptr ((ints first).drop (f.length : Int).toNat))), (58, .c (ci (el first (f.length : Int)))), (59, .c (.lst (ints second))), (60, .c (ci v16_1)), (61, .c (.ptr ((ints second).drop v16_1.toNat))), (62, .c (ci (el second v16_1))), (63, .c (cb (!(decide (el first (f.length : Int) = el second v16_1))))), (66, .c (.lst (tabs a))), (67, .c (.lst (tabs b))), (68, .ref 47), (69, .c (cb (dec (conA a b (f ++ ([v16_1])))))), (70, .c (cb (!((dec (conA a b (f ++ ([v16_1])))))))), (101, .c (.lst (tabs a))), (102, .c (.lst (tabs b))), (103, .c (.lst (ints f))), (104, .c (.lst (ints first))), (105, .c (.lst (ints second))), (106, .c (ci most))]) rfl rfl ⟨rfl, rfl, rfl, rfl, rfl, rfl, rfl, rfl, rfl, rfl, rfl, rfl, rfl, rfl, rfl, rfl, rfl, rfl, rfl, rfl, rfl, rfl, rfl, rfl, rfl, rfl, rfl, rfl, rfl, rfl, rfl, rfl, rfl, rfl, rfl, rfl, trivial⟩) ?_
        refine aw_region ?_
        refine run_s (ss_move rfl) rfl ?_
        refine run_s (ss_move rfl) rfl ?_
        obtain ⟨q30, h⟩ := h
        refine run_s (ss_idxR (f := ci) rfl rfl rfl q30) rfl ?_
        refine run_w (ws_storeE rfl rfl (map_lt q30) rfl rfl (map_se (f := ci)) rfl ⟨rfl, ?_⟩)
        refine run_nil ?_
        refine aw_seq ?_
        refine aw_gh (gh_to (n := 101) (σ' := [(75, ⟨ints second, []⟩), (73, ⟨ints (se first (f.length : Int) 60), []⟩), (47, ⟨ints (f ++ ([v16_1])), []⟩), (800, ⟨orows o800_1, []⟩)]) (env' := [(0, .c (.lst (tabs a))), (1, .c (.lst (tabs b))), (2, .c (.lst (ints f))), (3, .c (.lst (ints first))), (4, .c (.lst (ints second))), (5, .c (ci most)), (6, .ref 800), (15, .c (ci (f.length : Int))), (16, .c (ci v16_1)), (17, .ref 47), (18, .ref 73), (19, .ref 75), (39, .ref 800), (40, .c (ci (o800_1.length : Int))), (41, .c (ci most)), (42, .c (cb (decide ((o800_1.length : Int) < most)))), (55, .c (.lst (ints first))), (56, .c (ci (f.length : Int))), (57, .c (.ptr ((ints first).drop (f.length : Int).toNat))), (58, .c (ci (el first (f.length : Int)))), (59, .c (.lst (ints second))), (60, .c (ci v16_1)), (61, .c (.ptr ((ints second).drop v16_1.toNat))), (62, .c (ci (el second v16_1))), (63, .c (cb (!(decide (el first (f.length : Int) = el second v16_1))))), (66, .c (.lst (tabs a))), (67, .c (.lst (tabs b))), (68, .ref 47), (69, .c (cb (dec (conA a b (f ++ ([v16_1])))))), (70, .c (cb (!((dec (conA a b (f ++ ([v16_1])))))))), (101, .c (.lst (tabs a))), (102, .c (.lst (tabs b))), (103, .c (.lst (ints f))), (104, .c (.lst (ints first))), (105, .c (.lst (ints second))), (106, .c (ci most))]) rfl rfl ⟨rfl, rfl, rfl, rfl, rfl, rfl, rfl, rfl, rfl, rfl, rfl, rfl, rfl, rfl, rfl, rfl, rfl, rfl, rfl, rfl, rfl, rfl, rfl, rfl, rfl, rfl, rfl, rfl, rfl, rfl, rfl, rfl, rfl, rfl, rfl, rfl, trivial⟩) ?_
        refine aw_region ?_
        refine run_s (ss_move rfl) rfl ?_
        refine run_s (ss_move rfl) rfl ?_
        obtain ⟨q31, h⟩ := h
        refine run_s (ss_idxR (f := ci) rfl rfl rfl q31) rfl ?_
        refine run_w (ws_storeE rfl rfl (map_lt q31) rfl rfl (map_se (f := ci)) rfl ⟨rfl, ?_⟩)
        refine run_nil ?_
        refine aw_seq ?_
        refine aw_region ?_
        refine run_s (ss_move rfl) rfl ?_
        refine run_s (ss_move rfl) rfl ?_
        refine run_s (ss_move rfl) rfl ?_
        refine run_s (ss_move rfl) rfl ?_
        refine run_gh (gh_frzE (id := 73) ci rfl (fun _ => rfl)) ?_
        refine run_gh (gh_frzE (id := 75) ci rfl (fun _ => rfl)) ?_
        obtain ⟨q32, h⟩ := h
        refine run_w (ws_call (xs := [.tmp 83, .tmp 84, .tmp 85, .tmp 86]) (ids := []) rfl rfl rfl rfl (c_spec_l03Refine a b (se first (f.length : Int) 60) (se second v16_1 60) q32) rfl ?_ )
        rintro _ ⟨r1_0, r1_1, r1_2, q33, rfl⟩
        replace h := h r1_0 r1_1 r1_2 q33
        refine ⟨rfl, ?_⟩
        refine run_s (ss_move rfl) rfl ?_
        refine run_s (ss_extract rfl rfl) rfl ?_
        refine run_s (ss_extract rfl rfl) rfl ?_
        refine run_s (ss_extract rfl rfl) rfl ?_
        refine run_s (ss_assign rfl) rfl ?_
        refine run_s (ss_assign rfl) rfl ?_
        refine run_s (ss_assign rfl) rfl ?_
        refine run_nil ?_
        refine aw_seq ?_
        refine aw_gh (gh_to (n := 101) (σ' := [(47, ⟨ints (f ++ ([v16_1])), []⟩), (800, ⟨orows o800_1, []⟩)]) (env' := [(0, .c (.lst (tabs a))), (1, .c (.lst (tabs b))), (2, .c (.lst (ints f))), (3, .c (.lst (ints first))), (4, .c (.lst (ints second))), (5, .c (ci most)), (6, .ref 800), (15, .c (ci (f.length : Int))), (16, .c (ci v16_1)), (17, .ref 47), (20, .c (.lst (ints r1_0))), (21, .c (.lst (ints r1_1))), (22, .c (cb r1_2)), (39, .ref 800), (40, .c (ci (o800_1.length : Int))), (41, .c (ci most)), (42, .c (cb (decide ((o800_1.length : Int) < most)))), (55, .c (.lst (ints first))), (56, .c (ci (f.length : Int))), (57, .c (.ptr ((ints first).drop (f.length : Int).toNat))), (58, .c (ci (el first (f.length : Int)))), (59, .c (.lst (ints second))), (60, .c (ci v16_1)), (61, .c (.ptr ((ints second).drop v16_1.toNat))), (62, .c (ci (el second v16_1))), (63, .c (cb (!(decide (el first (f.length : Int) = el second v16_1))))), (66, .c (.lst (tabs a))), (67, .c (.lst (tabs b))), (68, .ref 47), (69, .c (cb (dec (conA a b (f ++ ([v16_1])))))), (70, .c (cb (!((dec (conA a b (f ++ ([v16_1])))))))), (101, .c (.lst (tabs a))), (102, .c (.lst (tabs b))), (103, .c (.lst (ints f))), (104, .c (.lst (ints first))), (105, .c (.lst (ints second))), (106, .c (ci most))]) rfl rfl ⟨rfl, rfl, rfl, rfl, rfl, rfl, rfl, rfl, rfl, rfl, rfl, rfl, rfl, rfl, rfl, rfl, rfl, rfl, rfl, rfl, rfl, rfl, rfl, rfl, rfl, rfl, rfl, rfl, rfl, rfl, rfl, rfl, rfl, rfl, rfl, rfl, rfl, trivial⟩) ?_
        refine aw_region ?_
        refine run_s (ss_move rfl) rfl ?_
        refine run_nil ?_
        refine aw_cond rfl (fun q34 => ?_) (fun q34 => ?_)
        ·replace h := h.1 (q34)
         refine aw_region ?_
         refine run_s (ss_move rfl) rfl ?_
         refine run_s (ss_move rfl) rfl ?_
         refine run_s (ss_move rfl) rfl ?_
         refine run_s (ss_move rfl) rfl ?_
         refine run_s (ss_move rfl) rfl ?_
         refine run_s (ss_move rfl) rfl ?_
         refine run_s (ss_move rfl) rfl ?_
         refine run_gh (gh_frzE (id := 47) ci rfl (fun _ => rfl)) ?_
         obtain ⟨q35, h⟩ := h
         obtain ⟨q36, h⟩ := h
         refine run_w (ws_callC (xs := [.tmp 92, .tmp 93, .tmp 94, .tmp 95, .tmp 96, .tmp 97, .tmp 98]) (cs := [.lst (tabs a), .lst (tabs b), .lst (ints (f ++ ([v16_1]))), .lst (ints r1_0), .lst (ints r1_1), ci most, .own (orows o800_1)]) (ids := [99]) rfl rfl rfl rfl (hrec a b (f ++ ([v16_1])) r1_0 r1_1 most o800_1 q35 q36) rfl ?_ )
         rintro _ _ ⟨rfl, rfl⟩
         refine ⟨rfl, ?_⟩
         refine run_s (ss_assign rfl) rfl ?_
         refine run_nil ?_
         refine aw_gh (gh_to (n := 101) (σ' := [(99, ⟨orows (o800_1 ++ (extL a b (padM (f ++ ([v16_1])) r1_0)).take (most - (o800_1.length : Int)).toNat), []⟩)]) (env' := [(0, .c (.lst (tabs a))), (1, .c (.lst (tabs b))), (2, .c (.lst (ints f))), (3, .c (.lst (ints first))), (4, .c (.lst (ints second))), (5, .c (ci most)), (6, .ref 99), (15, .c (ci (f.length : Int))), (16, .c (ci v16_1)), (40, .c (ci (o800_1.length : Int))), (41, .c (ci most)), (42, .c (cb (decide ((o800_1.length : Int) < most)))), (55, .c (.lst (ints first))), (56, .c (ci (f.length : Int))), (57, .c (.ptr ((ints first).drop (f.length : Int).toNat))), (58, .c (ci (el first (f.length : Int)))), (59, .c (.lst (ints second))), (60, .c (ci v16_1)), (61, .c (.ptr ((ints second).drop v16_1.toNat))), (62, .c (ci (el second v16_1))), (63, .c (cb (!(decide (el first (f.length : Int) = el second v16_1))))), (66, .c (.lst (tabs a))), (67, .c (.lst (tabs b))), (68, .c (.lst (ints (f ++ ([v16_1]))))), (69, .c (cb (dec (conA a b (f ++ ([v16_1])))))), (70, .c (cb (!((dec (conA a b (f ++ ([v16_1])))))))), (101, .c (.lst (tabs a))), (102, .c (.lst (tabs b))), (103, .c (.lst (ints f))), (104, .c (.lst (ints first))), (105, .c (.lst (ints second))), (106, .c (ci most))]) rfl rfl ⟨rfl, rfl, rfl, rfl, rfl, rfl, rfl, rfl, rfl, rfl, rfl, rfl, rfl, rfl, rfl, rfl, rfl, rfl, rfl, rfl, rfl, rfl, rfl, rfl, rfl, rfl, rfl, rfl, rfl, rfl, rfl, rfl, trivial⟩) ?_
         refine aw_region ?_
         refine run_s (ss_move rfl) rfl ?_
         obtain ⟨q38, h⟩ := h
         refine run_s (ss_add rfl rfl q38) rfl ?_
         refine run_s (ss_assign rfl) rfl ?_
         refine run_nil ?_
         exact ⟨v16_1 + 1, o800_1 ++ (extL a b (padM (f ++ ([v16_1])) r1_0)).take (most - (o800_1.length : Int)).toNat, ghe_step (gh_ren (a := 99) (b := 800) rfl rfl) (ghe_to (n := 101) rfl rfl ⟨rfl, rfl, rfl, rfl, rfl, rfl, rfl, rfl, rfl, rfl, rfl, rfl, rfl, rfl, rfl, trivial⟩), h.1, h.2⟩
        ·replace h := h.2 (q34)
         refine aw_skip ?_
         refine aw_gh (gh_to (n := 101) (σ' := [(47, ⟨ints (f ++ ([v16_1])), []⟩), (800, ⟨orows o800_1, []⟩)]) (env' := [(0, .c (.lst (tabs a))), (1, .c (.lst (tabs b))), (2, .c (.lst (ints f))), (3, .c (.lst (ints first))), (4, .c (.lst (ints second))), (5, .c (ci most)), (6, .ref 800), (15, .c (ci (f.length : Int))), (16, .c (ci v16_1)), (39, .ref 800), (40, .c (ci (o800_1.length : Int))), (41, .c (ci most)), (42, .c (cb (decide ((o800_1.length : Int) < most)))), (55, .c (.lst (ints first))), (56, .c (ci (f.length : Int))), (57, .c (.ptr ((ints first).drop (f.length : Int).toNat))), (58, .c (ci (el first (f.length : Int)))), (59, .c (.lst (ints second))), (60, .c (ci v16_1)), (61, .c (.ptr ((ints second).drop v16_1.toNat))), (62, .c (ci (el second v16_1))), (63, .c (cb (!(decide (el first (f.length : Int) = el second v16_1))))), (66, .c (.lst (tabs a))), (67, .c (.lst (tabs b))), (68, .ref 47), (69, .c (cb (dec (conA a b (f ++ ([v16_1])))))), (70, .c (cb (!((dec (conA a b (f ++ ([v16_1])))))))), (101, .c (.lst (tabs a))), (102, .c (.lst (tabs b))), (103, .c (.lst (ints f))), (104, .c (.lst (ints first))), (105, .c (.lst (ints second))), (106, .c (ci most))]) rfl rfl ⟨rfl, rfl, rfl, rfl, rfl, rfl, rfl, rfl, rfl, rfl, rfl, rfl, rfl, rfl, rfl, rfl, rfl, rfl, rfl, rfl, rfl, rfl, rfl, rfl, rfl, rfl, rfl, rfl, rfl, rfl, rfl, rfl, rfl, trivial⟩) ?_
         refine aw_region ?_
         refine run_s (ss_move rfl) rfl ?_
         obtain ⟨q39, h⟩ := h
         refine run_s (ss_add rfl rfl q39) rfl ?_
         refine run_s (ss_assign rfl) rfl ?_
         refine run_nil ?_
         exact ⟨v16_1 + 1, o800_1, ghe_step (gh_frzE (id := 47) ci rfl (fun _ => rfl)) (ghe_to (n := 101) rfl rfl ⟨rfl, rfl, rfl, rfl, rfl, rfl, rfl, rfl, rfl, rfl, rfl, rfl, rfl, rfl, rfl, trivial⟩), h.1, h.2⟩
    ·replace h := h.2 (of_decide_eq_false q7)
     refine aw_exit ?_
     refine aw_seq ?_
     refine aw_gh (gh_to (n := 101) (σ' := [(800, ⟨orows o800_1, []⟩)]) (env' := [(6, .ref 800), (101, .c (.lst (tabs a))), (102, .c (.lst (tabs b))), (103, .c (.lst (ints f))), (104, .c (.lst (ints first))), (105, .c (.lst (ints second))), (106, .c (ci most))]) rfl rfl ⟨rfl, rfl, rfl, rfl, rfl, rfl, rfl, trivial⟩) ?_
     refine aw_region ?_
     refine run_s (ss_move rfl) rfl ?_
     refine run_s (ss_assign rfl) rfl ?_
     refine run_nil ?_
     refine aw_ret ?_
     exact retAM_mk (retv1 rfl (rv_tmp rfl)) rfl rfl rfl ⟨_, h, rfl, rfl⟩
   ·replace h := h.2 (of_decide_eq_false q6)
    refine run_gf rfl rfl q6 rfl ?_
    refine run_gf rfl rfl q6 rfl ?_
    refine run_gf rfl rfl q6 rfl ?_
    refine run_gf rfl rfl q6 rfl ?_
    refine run_s (ss_pickF rfl q6 rfl) rfl ?_
    refine run_nil ?_
    refine aw_cond rfl (fun q40 => ?_) (fun q40 => ?_)
    ·cases q40
    ·skip
     refine aw_exit ?_
     refine aw_seq ?_
     refine aw_gh (gh_to (n := 101) (σ' := [(800, ⟨orows o800_1, []⟩)]) (env' := [(6, .ref 800), (101, .c (.lst (tabs a))), (102, .c (.lst (tabs b))), (103, .c (.lst (ints f))), (104, .c (.lst (ints first))), (105, .c (.lst (ints second))), (106, .c (ci most))]) rfl rfl ⟨rfl, rfl, rfl, rfl, rfl, rfl, rfl, trivial⟩) ?_
     refine aw_region ?_
     refine run_s (ss_move rfl) rfl ?_
     refine run_s (ss_assign rfl) rfl ?_
     refine run_nil ?_
     refine aw_ret ?_
     exact retAM_mk (retv1 rfl (rv_tmp rfl)) rfl rfl rfl ⟨_, h, rfl, rfl⟩

theorem c_spec_l03Seek : ∀ (a : List (List (List Int))) (b : List (List (List Int))) (f : List Int) (first : List Int) (second : List Int) (most : Int) (out : List (List Int)), (SkD a b f first second most out) → AM Try.prog 39 [.lst (tabs a), .lst (tabs b), .lst (ints f), .lst (ints first), .lst (ints second), ci most, .own (orows out)] (fun R_ O_ => R_ = .own (orows (out ++ (extL a b (padM f first)).take (most - (out.length : Int)).toNat)) ∧ O_ = [.lst (tabs a), .lst (tabs b), .lst (ints f), .lst (ints first), .lst (ints second), ci most, .hole]) := by
  have key : ∀ (k_ : Nat) (a : List (List (List Int))) (b : List (List (List Int))) (f : List Int) (first : List Int) (second : List Int) (most : Int) (out : List (List Int)), ((el a 0).length - f.length) ≤ k_ → (SkD a b f first second most out) → AM Try.prog 39 [.lst (tabs a), .lst (tabs b), .lst (ints f), .lst (ints first), .lst (ints second), ci most, .own (orows out)] (fun R_ O_ => R_ = .own (orows (out ++ (extL a b (padM f first)).take (most - (out.length : Int)).toNat)) ∧ O_ = [.lst (tabs a), .lst (tabs b), .lst (ints f), .lst (ints first), .lst (ints second), ci most, .hole]) := by
    intro k_; induction k_ with
    | zero => intro a b f first second most out hn hp; exact (w_spec_l03Seek a b f first second most out (fun y0 => y0 = out ++ (extL a b (padM f first)).take (most - (out.length : Int)).toNat) (fun _ _ _ _ _ _ _ hlt => absurd hlt (by omega)) (p_spec_l03Seek a b f first second most out hp)).mono (by rintro r o ⟨_, rfl, rfl, rfl⟩; exact ⟨rfl, rfl⟩)
    | succ k_ ih => intro a b f first second most out hn hp; exact (w_spec_l03Seek a b f first second most out (fun y0 => y0 = out ++ (extL a b (padM f first)).take (most - (out.length : Int)).toNat) (fun a' b' f' first' second' most' out' hlt => ih a' b' f' first' second' most' out' (by omega)) (p_spec_l03Seek a b f first second most out hp)).mono (by rintro r o ⟨_, rfl, rfl, rfl⟩; exact ⟨rfl, rfl⟩)
  exact fun a b f first second most out => key _ a b f first second most out (Nat.le_refl _)

set_option maxRecDepth 100000 in
set_option maxHeartbeats 4000000 in
theorem w_spec_l03Maps (a : List (List (List Int))) (b : List (List (List Int))) (f : List Int) (most : Int) (Q : List (List Int) → Prop) (h : wp_spec_l03Maps a b f most Q) : AF Try.prog 22 [.lst (tabs a), .lst (tabs b), .lst (ints f), ci most] (fun R_ => ∃ y0, Q y0 ∧ R_ = .lst (rows y0)) := by
  refine AF.ofWQ (af_enter (n := 63) Try.func22 rfl (by rfl) rfl (Nat.le_of_ble_eq_true rfl) ?_)
  unfold wp_spec_l03Maps at h
  refine aw_seq ?_
  refine aw_gh (gh_to (n := 63) (σ' := []) (env' := [(0, .c (.lst (tabs a))), (1, .c (.lst (tabs b))), (2, .c (.lst (ints f))), (3, .c (ci most))]) rfl rfl ⟨rfl, rfl, rfl, rfl, trivial⟩) ?_
  refine aw_region ?_
  refine run_s (ss_assign rfl) rfl ?_
  refine run_nil ?_
  refine aw_seq ?_
  refine aw_seq ?_
  refine aw_gh (gh_to (n := 63) (σ' := []) (env' := [(0, .c (.lst (tabs a))), (1, .c (.lst (tabs b))), (2, .c (.lst (ints f))), (3, .c (ci most))]) rfl rfl ⟨rfl, rfl, rfl, rfl, trivial⟩) ?_
  refine aw_regionD (kd := kdl [0, 0, 1, 0, 0, 0, 1, 0, 0]) (ord := [0, 1, 4, 5, 2, 3, 6, 7, 8]) [] mixed (by kernel_rfl) ?_
  refine rd_s rfl rfl trivial (ss_move rfl) rfl ?_
  obtain ⟨q1, h⟩ := h
  refine rd_s rfl rfl trivial (ss_idxL rfl rfl q1) rfl ?_
  refine rd_s rfl rfl trivial (ss_move rfl) rfl ?_
  obtain ⟨q2, h⟩ := h
  refine rd_s rfl rfl trivial (ss_idxL rfl rfl q2) rfl ?_
  refine rd_l rfl rfl trivial (ss_loadL (f := (fun r => C.lst (rows r))) rfl q1) rfl ?_
  refine rd_s rfl rfl trivial (ss_lenL (f := (fun r => C.lst (ints r))) rfl) rfl ?_
  refine rd_l rfl rfl trivial (ss_loadL (f := (fun r => C.lst (rows r))) rfl q2) rfl ?_
  refine rd_s rfl rfl trivial (ss_lenL (f := (fun r => C.lst (ints r))) rfl) rfl ?_
  refine rd_s rfl rfl trivial (ss_neq rfl rfl) rfl ?_
  refine rd_nil ?_
  refine aw_cond rfl (fun q3 => ?_) (fun q3 => ?_)
  ·replace h := h.1 (of_decide_eq_false (bnot_t q3))
   refine aw_seq ?_
   refine aw_gh (gh_to (n := 63) (σ' := []) (env' := []) rfl rfl trivial) ?_
   refine aw_region ?_
   refine run_s (ss_assign rfl) rfl ?_
   refine run_nil ?_
   refine aw_ret ?_
   exact retAF_mk (retv1 rfl (rv_tmp rfl)) rfl rfl ⟨_, cle_nilL, _, h, rfl⟩
  ·replace h := h.2 (of_decide_eq_true (bnot_f q3))
   refine aw_skip ?_
   refine aw_seq ?_
   refine aw_gh (gh_to (n := 63) (σ' := []) (env' := [(0, .c (.lst (tabs a))), (1, .c (.lst (tabs b))), (2, .c (.lst (ints f))), (3, .c (ci most))]) rfl rfl ⟨rfl, rfl, rfl, rfl, trivial⟩) ?_
   refine aw_regionT (kd := kdl [0, 0, 1, 0, 2, 0, 0, 1, 0, 2, 0, 0]) (t := (.one 0 (.one 1 (.one 5 (.one 6 (.one 2 (.one 3 (.one 7 (.one 8 (.br (.one 4 (.one 10 (.one 9 (.one 11 .nil)))) (.one 9 (.one 4 (.one 10 (.one 11 .nil)))))))))))))) [] mixed (by kernel_rfl) ?_
   obtain ⟨q4, h⟩ := h
   obtain ⟨q5, h⟩ := h
   obtain ⟨q6, h⟩ := h
   obtain ⟨q7, h⟩ := h
   refine rt_share (S := ⟨[(27, ⟨ints (List.replicate ((el a 0).length : Int).toNat (0 : Int)), []⟩), (32, ⟨ints (List.replicate ((el a 0).length : Int).toNat (0 : Int)), []⟩)], [(0, .c (.lst (tabs a))), (1, .c (.lst (tabs b))), (2, .c (.lst (ints f))), (3, .c (ci most)), (9, .ref 27), (10, .ref 32)], 63⟩) ?_ (fun hk => ?_)
   ·skip
    refine aw_seq ?_
    refine aw_seq ?_
    refine aw_region ?_
    refine run_s (ss_move rfl) rfl ?_
    refine run_s (ss_lenL (f := ci) rfl) rfl ?_
    refine run_s (ss_gtr rfl rfl) rfl ?_
    refine run_nil ?_
    refine aw_cond rfl (fun q8 => ?_) (fun q8 => ?_)
    ·replace h := h.1 (of_decide_eq_true q8)
     refine aw_seq ?_
     refine aw_seq ?_
     refine aw_region ?_
     refine run_s (ss_move rfl) rfl ?_
     refine run_s (ss_move rfl) rfl ?_
     refine run_s (ss_move rfl) rfl ?_
     obtain ⟨q9, h⟩ := h
     refine run_w (ws_call (xs := [.tmp 36, .tmp 37, .tmp 38]) (ids := []) rfl rfl rfl rfl (c_spec_l03Fits a b f q9) rfl ?_ )
     rintro _ rfl
     refine ⟨rfl, ?_⟩
     refine run_s (ss_not rfl) rfl ?_
     refine run_nil ?_
     refine aw_cond rfl (fun q11 => ?_) (fun q11 => ?_)
     ·replace h := h.1 ((bnot_t q11))
      refine aw_seq ?_
      refine aw_gh (gh_to (n := 63) (σ' := [(27, ⟨ints (List.replicate ((el a 0).length : Int).toNat (0 : Int)), []⟩), (32, ⟨ints (List.replicate ((el a 0).length : Int).toNat (0 : Int)), []⟩)]) (env' := []) rfl rfl trivial) ?_
      refine aw_region ?_
      refine run_s (ss_assign rfl) rfl ?_
      refine run_nil ?_
      refine aw_ret ?_
      exact retAF_mk (retv1 rfl (rv_tmp rfl)) rfl rfl ⟨_, cle_nilL, _, h, rfl⟩
     ·replace h := h.2 ((bnot_f q11))
      refine aw_skip ?_
      refine aw_seq ?_
      refine aw_gh (gh_to (n := 63) (σ' := [(27, ⟨ints (List.replicate ((el a 0).length : Int).toNat (0 : Int)), []⟩), (32, ⟨ints (List.replicate ((el a 0).length : Int).toNat (0 : Int)), []⟩)]) (env' := [(0, .c (.lst (tabs a))), (1, .c (.lst (tabs b))), (2, .c (.lst (ints f))), (3, .c (ci most)), (9, .ref 27), (10, .ref 32)]) rfl rfl ⟨rfl, rfl, rfl, rfl, rfl, rfl, trivial⟩) ?_
      refine aw_region ?_
      refine run_s (ss_move rfl) rfl ?_
      obtain ⟨q12, h⟩ := h
      refine run_s (ss_idxR (f := ci) rfl rfl rfl q12) rfl ?_
      refine run_w (ws_storeE rfl rfl (map_lt q12) rfl rfl (map_se (f := ci)) rfl ⟨rfl, ?_⟩)
      refine run_nil ?_
      refine aw_region ?_
      refine run_s (ss_move rfl) rfl ?_
      obtain ⟨q13, h⟩ := h
      refine run_s (ss_idxR (f := ci) rfl rfl rfl q13) rfl ?_
      refine run_w (ws_storeE rfl rfl (map_lt q13) rfl rfl (map_se (f := ci)) rfl ⟨rfl, ?_⟩)
      refine run_nil ?_
      refine aw_seq ?_
      refine aw_region ?_
      refine run_s (ss_move rfl) rfl ?_
      refine run_s (ss_move rfl) rfl ?_
      refine run_s (ss_move rfl) rfl ?_
      refine run_s (ss_move rfl) rfl ?_
      refine run_gh (gh_frzE (id := 27) ci rfl (fun _ => rfl)) ?_
      refine run_gh (gh_frzE (id := 32) ci rfl (fun _ => rfl)) ?_
      obtain ⟨q14, h⟩ := h
      refine run_w (ws_call (xs := [.tmp 46, .tmp 47, .tmp 48, .tmp 49]) (ids := []) rfl rfl rfl rfl (c_spec_l03Refine a b (se (List.replicate ((el a 0).length : Int).toNat (0 : Int)) 0 60) (se (List.replicate ((el a 0).length : Int).toNat (0 : Int)) 0 60) q14) rfl ?_ )
      rintro _ ⟨r1_0, r1_1, r1_2, q15, rfl⟩
      replace h := h r1_0 r1_1 r1_2 q15
      refine ⟨rfl, ?_⟩
      refine run_s (ss_move rfl) rfl ?_
      refine run_s (ss_extract rfl rfl) rfl ?_
      refine run_s (ss_extract rfl rfl) rfl ?_
      refine run_s (ss_extract rfl rfl) rfl ?_
      refine run_s (ss_assign rfl) rfl ?_
      refine run_s (ss_assign rfl) rfl ?_
      refine run_s (ss_assign rfl) rfl ?_
      refine run_nil ?_
      refine aw_seq ?_
      refine aw_seq ?_
      refine aw_gh (gh_to (n := 63) (σ' := []) (env' := [(0, .c (.lst (tabs a))), (1, .c (.lst (tabs b))), (2, .c (.lst (ints f))), (3, .c (ci most)), (11, .c (.lst (ints r1_0))), (12, .c (.lst (ints r1_1))), (13, .c (cb r1_2))]) rfl rfl ⟨rfl, rfl, rfl, rfl, rfl, rfl, rfl, trivial⟩) ?_
      refine aw_region ?_
      refine run_s (ss_move rfl) rfl ?_
      refine run_s (ss_not rfl) rfl ?_
      refine run_nil ?_
      refine aw_cond rfl (fun q16 => ?_) (fun q16 => ?_)
      ·replace h := h.1 ((bnot_t q16))
       refine aw_seq ?_
       refine aw_gh (gh_to (n := 63) (σ' := []) (env' := []) rfl rfl trivial) ?_
       refine aw_region ?_
       refine run_s (ss_assign rfl) rfl ?_
       refine run_nil ?_
       refine aw_ret ?_
       exact retAF_mk (retv1 rfl (rv_tmp rfl)) rfl rfl ⟨_, cle_nilL, _, h, rfl⟩
      ·replace h := h.2 ((bnot_f q16))
       refine aw_skip ?_
       refine aw_seq ?_
       refine aw_region ?_
       refine run_s (ss_move rfl) rfl ?_
       refine run_s (ss_move rfl) rfl ?_
       refine run_s (ss_move rfl) rfl ?_
       refine run_s (ss_move rfl) rfl ?_
       refine run_s (ss_move rfl) rfl ?_
       refine run_s (ss_move rfl) rfl ?_
       obtain ⟨q17, h⟩ := h
       refine run_w (ws_callC (xs := [.tmp 56, .tmp 57, .tmp 58, .tmp 59, .tmp 60, .tmp 61, .const (.slice none 0 0)]) (cs := [.lst (tabs a), .lst (tabs b), .lst (ints f), .lst (ints r1_0), .lst (ints r1_1), ci most, cnil]) (ids := [62]) rfl rfl rfl rfl (AM.weak (c_spec_l03Seek a b f r1_0 r1_1 most ([] : List (List Int)) q17) (cleL_cons (cle_refl _) (cleL_cons (cle_refl _) (cleL_cons (cle_refl _) (cleL_cons (cle_refl _) (cleL_cons (cle_refl _) (cleL_cons (cle_refl _) (cleL_cons cle_nilO cleL_nil)))))))) rfl ?_ )
       rintro _ _ ⟨rfl, rfl⟩
       refine ⟨rfl, ?_⟩
       refine run_s (ss_assign rfl) rfl ?_
       refine run_nil ?_
       refine aw_gh (gh_frzE (id := 62) (fun r => C.lst (ints r)) rfl (fun _ => (fz_own (fz_map (fun _ => rfl) _)))) ?_
       refine aw_ret ?_
       exact retAF_mk (retv1 rfl (rv_tmp rfl)) rfl rfl ⟨_, (cle_refl _), _, h, rfl⟩
    ·replace h := h.2 (of_decide_eq_false q8)
     refine aw_skip ?_
     refine aw_seq ?_
     refine aw_region ?_
     refine run_s (ss_move rfl) rfl ?_
     refine run_s (ss_move rfl) rfl ?_
     refine run_s (ss_move rfl) rfl ?_
     refine run_s (ss_move rfl) rfl ?_
     refine run_gh (gh_frzE (id := 27) ci rfl (fun _ => rfl)) ?_
     refine run_gh (gh_frzE (id := 32) ci rfl (fun _ => rfl)) ?_
     obtain ⟨q19, h⟩ := h
     refine run_w (ws_call (xs := [.tmp 46, .tmp 47, .tmp 48, .tmp 49]) (ids := []) rfl rfl rfl rfl (c_spec_l03Refine a b (List.replicate ((el a 0).length : Int).toNat (0 : Int)) (List.replicate ((el a 0).length : Int).toNat (0 : Int)) q19) rfl ?_ )
     rintro _ ⟨r2_0, r2_1, r2_2, q20, rfl⟩
     replace h := h r2_0 r2_1 r2_2 q20
     refine ⟨rfl, ?_⟩
     refine run_s (ss_move rfl) rfl ?_
     refine run_s (ss_extract rfl rfl) rfl ?_
     refine run_s (ss_extract rfl rfl) rfl ?_
     refine run_s (ss_extract rfl rfl) rfl ?_
     refine run_s (ss_assign rfl) rfl ?_
     refine run_s (ss_assign rfl) rfl ?_
     refine run_s (ss_assign rfl) rfl ?_
     refine run_nil ?_
     refine aw_seq ?_
     refine aw_seq ?_
     refine aw_gh (gh_to (n := 63) (σ' := []) (env' := [(0, .c (.lst (tabs a))), (1, .c (.lst (tabs b))), (2, .c (.lst (ints f))), (3, .c (ci most)), (11, .c (.lst (ints r2_0))), (12, .c (.lst (ints r2_1))), (13, .c (cb r2_2))]) rfl rfl ⟨rfl, rfl, rfl, rfl, rfl, rfl, rfl, trivial⟩) ?_
     refine aw_region ?_
     refine run_s (ss_move rfl) rfl ?_
     refine run_s (ss_not rfl) rfl ?_
     refine run_nil ?_
     refine aw_cond rfl (fun q21 => ?_) (fun q21 => ?_)
     ·replace h := h.1 ((bnot_t q21))
      refine aw_seq ?_
      refine aw_gh (gh_to (n := 63) (σ' := []) (env' := []) rfl rfl trivial) ?_
      refine aw_region ?_
      refine run_s (ss_assign rfl) rfl ?_
      refine run_nil ?_
      refine aw_ret ?_
      exact retAF_mk (retv1 rfl (rv_tmp rfl)) rfl rfl ⟨_, cle_nilL, _, h, rfl⟩
     ·replace h := h.2 ((bnot_f q21))
      refine aw_skip ?_
      refine aw_seq ?_
      refine aw_region ?_
      refine run_s (ss_move rfl) rfl ?_
      refine run_s (ss_move rfl) rfl ?_
      refine run_s (ss_move rfl) rfl ?_
      refine run_s (ss_move rfl) rfl ?_
      refine run_s (ss_move rfl) rfl ?_
      refine run_s (ss_move rfl) rfl ?_
      obtain ⟨q22, h⟩ := h
      refine run_w (ws_callC (xs := [.tmp 56, .tmp 57, .tmp 58, .tmp 59, .tmp 60, .tmp 61, .const (.slice none 0 0)]) (cs := [.lst (tabs a), .lst (tabs b), .lst (ints f), .lst (ints r2_0), .lst (ints r2_1), ci most, cnil]) (ids := [62]) rfl rfl rfl rfl (AM.weak (c_spec_l03Seek a b f r2_0 r2_1 most ([] : List (List Int)) q22) (cleL_cons (cle_refl _) (cleL_cons (cle_refl _) (cleL_cons (cle_refl _) (cleL_cons (cle_refl _) (cleL_cons (cle_refl _) (cleL_cons (cle_refl _) (cleL_cons cle_nilO cleL_nil)))))))) rfl ?_ )
      rintro _ _ ⟨rfl, rfl⟩
      refine ⟨rfl, ?_⟩
      refine run_s (ss_assign rfl) rfl ?_
      refine run_nil ?_
      refine aw_gh (gh_frzE (id := 62) (fun r => C.lst (ints r)) rfl (fun _ => (fz_own (fz_map (fun _ => rfl) _)))) ?_
      refine aw_ret ?_
      exact retAF_mk (retv1 rfl (rv_tmp rfl)) rfl rfl ⟨_, (cle_refl _), _, h, rfl⟩
   ·skip
    refine rt_s rfl rfl trivial (ss_move rfl) rfl ?_
    refine rt_s rfl rfl trivial (ss_idxL rfl rfl q4) rfl ?_
    refine rt_s rfl rfl trivial (ss_move rfl) rfl ?_
    refine rt_s rfl rfl trivial (ss_idxL rfl rfl q5) rfl ?_
    refine rt_l rfl rfl trivial (ss_loadL (f := (fun r => C.lst (rows r))) rfl q4) rfl ?_
    refine rt_s rfl rfl trivial (ss_lenL (f := (fun r => C.lst (ints r))) rfl) rfl ?_
    refine rt_l rfl rfl trivial (ss_loadL (f := (fun r => C.lst (rows r))) rfl q5) rfl ?_
    refine rt_s rfl rfl trivial (ss_lenL (f := (fun r => C.lst (ints r))) rfl) rfl ?_
    refine rt_br ?_ ?_
    ·skip
     refine rt_w rfl rfl trivial rfl rfl (ws_mk (id := 27) ci (0 : Int) rfl rfl rfl q6 (Nat.le_of_ble_eq_true rfl) rfl ⟨rfl, ?_⟩)
     refine rt_s rfl rfl trivial (ss_assign rfl) rfl ?_
     refine rt_w rfl rfl trivial rfl rfl (ws_mk (id := 32) ci (0 : Int) rfl rfl rfl q7 (Nat.le_of_ble_eq_true rfl) rfl ⟨rfl, ?_⟩)
     refine rt_s rfl rfl trivial (ss_assign rfl) rfl ?_
     exact rt_end (ghe_step (gh_to (n := 63) (σ' := [(32, ⟨ints (List.replicate ((el a 0).length : Int).toNat (0 : Int)), []⟩), (27, ⟨ints (List.replicate ((el a 0).length : Int).toNat (0 : Int)), []⟩)]) (env' := [(0, .c (.lst (tabs a))), (1, .c (.lst (tabs b))), (2, .c (.lst (ints f))), (3, .c (ci most)), (9, .ref 27), (10, .ref 32)]) rfl rfl ⟨rfl, rfl, rfl, rfl, rfl, rfl, trivial⟩) (ghe_step (gh_sort _) (ghe_to (n := 63) (σ' := [(27, ⟨ints (List.replicate ((el a 0).length : Int).toNat (0 : Int)), []⟩), (32, ⟨ints (List.replicate ((el a 0).length : Int).toNat (0 : Int)), []⟩)]) (env' := [(0, .c (.lst (tabs a))), (1, .c (.lst (tabs b))), (2, .c (.lst (ints f))), (3, .c (ci most)), (9, .ref 27), (10, .ref 32)]) rfl rfl ⟨rfl, rfl, rfl, rfl, rfl, rfl, trivial⟩))) hk
    refine rt_w rfl rfl trivial rfl rfl (ws_mk (id := 32) ci (0 : Int) rfl rfl rfl q6 (Nat.le_of_ble_eq_true rfl) rfl ⟨rfl, ?_⟩)
    refine rt_w rfl rfl trivial rfl rfl (ws_mk (id := 27) ci (0 : Int) rfl rfl rfl q7 (Nat.le_of_ble_eq_true rfl) rfl ⟨rfl, ?_⟩)
    refine rt_s rfl rfl trivial (ss_assign rfl) rfl ?_
    refine rt_s rfl rfl trivial (ss_assign rfl) rfl ?_
    exact rt_end (ghe_step (gh_to (n := 63) (σ' := [(27, ⟨ints (List.replicate ((el a 0).length : Int).toNat (0 : Int)), []⟩), (32, ⟨ints (List.replicate ((el a 0).length : Int).toNat (0 : Int)), []⟩)]) (env' := [(0, .c (.lst (tabs a))), (1, .c (.lst (tabs b))), (2, .c (.lst (ints f))), (3, .c (ci most)), (9, .ref 27), (10, .ref 32)]) rfl rfl ⟨rfl, rfl, rfl, rfl, rfl, rfl, trivial⟩) (ghe_step (gh_sort _) (ghe_to (n := 63) (σ' := [(27, ⟨ints (List.replicate ((el a 0).length : Int).toNat (0 : Int)), []⟩), (32, ⟨ints (List.replicate ((el a 0).length : Int).toNat (0 : Int)), []⟩)]) (env' := [(0, .c (.lst (tabs a))), (1, .c (.lst (tabs b))), (2, .c (.lst (ints f))), (3, .c (ci most)), (9, .ref 27), (10, .ref 32)]) rfl rfl ⟨rfl, rfl, rfl, rfl, rfl, rfl, trivial⟩))) hk

theorem c_spec_l03Maps (a : List (List (List Int))) (b : List (List (List Int))) (f : List Int) (most : Int) (hp : f = [] ∧ TabsP a ∧ TabsP b ∧ a.length = b.length ∧ 1 ≤ most ∧ most ≤ 1000000) : AF Try.prog 22 [.lst (tabs a), .lst (tabs b), .lst (ints f), ci most] (fun R_ => R_ = .lst (rows ((isoL a b).take most.toNat))) :=
  (w_spec_l03Maps a b f most (fun y0 => y0 = (isoL a b).take most.toNat) (p_spec_l03Maps a b f most hp)).mono (by rintro r ⟨_, rfl, rfl⟩; rfl)

set_option maxRecDepth 100000 in
set_option maxHeartbeats 4000000 in
theorem w_spec_l02Maps (s1 : List (List Int)) (s2 : List (List Int)) (t1 : List (List Int)) (t2 : List (List Int)) (most : Int) (Q : List (List Int) → Prop) (h : wp_spec_l02Maps s1 s2 t1 t2 most Q) : AF Try.prog 50 [.agg [.lst (rows s1), .lst (rows s2)], .agg [.lst (rows t1), .lst (rows t2)], ci most] (fun R_ => ∃ y0, Q y0 ∧ R_ = .lst (rows y0)) := by
  refine AF.ofWQ (af_enter (n := 19) Try.func50 rfl (by rfl) rfl (Nat.le_of_ble_eq_true rfl) ?_)
  unfold wp_spec_l02Maps at h
  refine aw_seq ?_
  refine aw_gh (gh_to (n := 19) (σ' := []) (env' := [(0, .c (.agg [.lst (rows s1), .lst (rows s2)])), (1, .c (.agg [.lst (rows t1), .lst (rows t2)])), (2, .c (ci most))]) rfl rfl ⟨rfl, rfl, rfl, trivial⟩) ?_
  refine aw_region ?_
  refine run_w (ws_boxR rfl (.inl rfl) rfl ⟨rfl, ?_⟩)
  refine run_w (ws_boxR rfl (.inl rfl) rfl ⟨rfl, ?_⟩)
  refine run_s (ss_assign rfl) rfl ?_
  refine run_nil ?_
  refine aw_seq ?_
  refine aw_region ?_
  refine run_s (ss_field_ptr rfl) rfl ?_
  refine run_s (ss_load_ptr rfl rfl) rfl ?_
  refine run_s (ss_field_ptr rfl) rfl ?_
  refine run_s (ss_load_ptr rfl rfl) rfl ?_
  refine run_w (ws_buildSlice (id := 11) (ps := [(0, .tmp 8), (1, .tmp 10)]) rfl rfl (Nat.le_of_ble_eq_true rfl) rfl ⟨rfl, ?_⟩)
  refine run_s (ss_field_ptr rfl) rfl ?_
  refine run_s (ss_load_ptr rfl rfl) rfl ?_
  refine run_s (ss_field_ptr rfl) rfl ?_
  refine run_s (ss_load_ptr rfl rfl) rfl ?_
  refine run_w (ws_buildSlice (id := 16) (ps := [(0, .tmp 13), (1, .tmp 15)]) rfl rfl (Nat.le_of_ble_eq_true rfl) rfl ⟨rfl, ?_⟩)
  refine run_s (ss_move rfl) rfl ?_
  refine run_gh (gh_frzE (id := 11) (f := (fun r => C.lst (rows r))) (l := ([s1, s2])) (fun r => C.lst (rows r)) rfl (fun _ => rfl)) ?_
  refine run_gh (gh_frzE (id := 16) (f := (fun r => C.lst (rows r))) (l := ([t1, t2])) (fun r => C.lst (rows r)) rfl (fun _ => rfl)) ?_
  obtain ⟨q1, h⟩ := h
  refine run_w (ws_call (xs := [.tmp 11, .tmp 16, .const (.slice none 0 0), .tmp 17]) (ids := []) rfl rfl rfl rfl (AF.weak (c_spec_l03Maps ([s1, s2]) ([t1, t2]) ([] : List Int) most q1) (cleL_cons (cle_refl _) (cleL_cons (cle_refl _) (cleL_cons cle_nilL (cleL_cons (cle_refl _) cleL_nil))))) rfl ?_ )
  rintro _ rfl
  refine ⟨rfl, ?_⟩
  refine run_s (ss_assign rfl) rfl ?_
  refine run_nil ?_
  refine aw_ret ?_
  exact retAF_mk (retv1 rfl (rv_tmp rfl)) rfl rfl ⟨_, (cle_refl _), _, h, rfl⟩

theorem c_spec_l02Maps (s1 : List (List Int)) (s2 : List (List Int)) (t1 : List (List Int)) (t2 : List (List Int)) (most : Int) (hp : pmB s1 s2 = true ∧ pmB t1 t2 = true ∧ 1 ≤ most ∧ most ≤ 1000000) : AF Try.prog 50 [.agg [.lst (rows s1), .lst (rows s2)], .agg [.lst (rows t1), .lst (rows t2)], ci most] (fun R_ => R_ = .lst (rows ((isoL [s1, s2] [t1, t2]).take most.toNat))) :=
  (w_spec_l02Maps s1 s2 t1 t2 most (fun y0 => y0 = (isoL [s1, s2] [t1, t2]).take most.toNat) (p_spec_l02Maps s1 s2 t1 t2 most hp)).mono (by rintro r ⟨_, rfl, rfl⟩; rfl)

set_option maxRecDepth 100000 in
set_option maxHeartbeats 4000000 in
theorem w_spec_SolutionIsomorphism (s1 : List (List Int)) (s2 : List (List Int)) (t1 : List (List Int)) (t2 : List (List Int)) (Q : List Int → Int → Prop) (h : wp_spec_SolutionIsomorphism s1 s2 t1 t2 Q) : AF Try.prog 30 [.agg [.lst (rows s1), .lst (rows s2)], .agg [.lst (rows t1), .lst (rows t2)]] (fun R_ => ∃ y0 y1, Q y0 y1 ∧ R_ = .tup [.lst (ints y0), ci y1]) := by
  refine AF.ofWQ (af_enter (n := 31) Try.func30 rfl (by rfl) rfl (Nat.le_of_ble_eq_true rfl) ?_)
  unfold wp_spec_SolutionIsomorphism at h
  refine aw_seq ?_
  refine aw_gh (gh_to (n := 31) (σ' := []) (env' := [(0, .c (.agg [.lst (rows s1), .lst (rows s2)])), (1, .c (.agg [.lst (rows t1), .lst (rows t2)]))]) rfl rfl ⟨rfl, rfl, trivial⟩) ?_
  refine aw_region ?_
  refine run_w (ws_boxR rfl (.inl rfl) rfl ⟨rfl, ?_⟩)
  refine run_w (ws_boxR rfl (.inl rfl) rfl ⟨rfl, ?_⟩)
  refine run_s (ss_assign rfl) rfl ?_
  refine run_s (ss_assign rfl) rfl ?_
  refine run_nil ?_
  refine aw_seq ?_
  refine aw_seq ?_
  refine aw_region ?_
  refine run_s (ss_load_struct rfl (Nat.le_of_ble_eq_true rfl)) rfl ?_
  obtain ⟨q1, h⟩ := h
  refine run_w (ws_call (xs := [.tmp 7]) (ids := []) rfl rfl rfl rfl (c_spec_l02Map s1 s2 q1) rfl ?_ )
  rintro _ rfl
  refine ⟨rfl, ?_⟩
  refine run_s (ss_not rfl) rfl ?_
  refine run_s (ss_move rfl) rfl ?_
  refine run_split (s := 10) rfl (fun q3 => ?_) (fun q3 => ?_)
  ·replace h := h.1 ((bnot_t q3))
   refine run_gf rfl rfl q3 rfl ?_
   refine run_gf rfl rfl q3 rfl ?_
   refine run_gf rfl rfl q3 rfl ?_
   refine run_s (ss_pickT rfl q3 rfl) rfl ?_
   refine run_nil ?_
   refine aw_cond rfl (fun q4 => ?_) (fun q4 => ?_)
   ·skip
    refine aw_seq ?_
    refine aw_gh (gh_to (n := 31) (σ' := []) (env' := [(4, .c (cnil)), (5, .c (ci 0))]) rfl rfl ⟨rfl, rfl, trivial⟩) ?_
    refine aw_region ?_
    refine run_s (ss_assign rfl) rfl ?_
    refine run_s (ss_assign rfl) rfl ?_
    refine run_nil ?_
    refine aw_ret ?_
    exact retAF_mk (retv2 rfl (rv_tmp rfl) (rv_tmp rfl)) rfl rfl ⟨_, (cle_tup (cleL_cons cle_nilL (cleL_cons (cle_refl _) cleL_nil))), _, _, h, rfl⟩
   ·cases q4
  ·replace h := h.2 ((bnot_f q3))
   refine run_gt rfl rfl q3 ?_
   refine run_s (ss_load_struct rfl (Nat.le_of_ble_eq_true rfl)) rfl ?_
   refine run_gt rfl rfl q3 ?_
   obtain ⟨q5, h⟩ := h
   refine run_w (ws_call (xs := [.tmp 11]) (ids := []) rfl rfl rfl rfl (c_spec_l02Map t1 t2 q5) rfl ?_ )
   rintro _ rfl
   refine ⟨rfl, ?_⟩
   refine run_gt rfl rfl q3 ?_
   refine run_s (ss_not rfl) rfl ?_
   refine run_s (ss_pickF rfl q3 rfl) rfl ?_
   refine run_nil ?_
   refine aw_cond rfl (fun q7 => ?_) (fun q7 => ?_)
   ·replace h := h.1 ((bnot_t q7))
    refine aw_seq ?_
    refine aw_gh (gh_to (n := 31) (σ' := []) (env' := [(4, .c (cnil)), (5, .c (ci 0))]) rfl rfl ⟨rfl, rfl, trivial⟩) ?_
    refine aw_region ?_
    refine run_s (ss_assign rfl) rfl ?_
    refine run_s (ss_assign rfl) rfl ?_
    refine run_nil ?_
    refine aw_ret ?_
    exact retAF_mk (retv2 rfl (rv_tmp rfl) (rv_tmp rfl)) rfl rfl ⟨_, (cle_tup (cleL_cons cle_nilL (cleL_cons (cle_refl _) cleL_nil))), _, _, h, rfl⟩
   ·replace h := h.2 ((bnot_f q7))
    refine aw_skip ?_
    refine aw_seq ?_
    refine aw_seq ?_
    refine aw_gh (gh_to (n := 31) (σ' := []) (env' := [(2, .c (.ptr [.lst (rows s1), .lst (rows s2)])), (3, .c (.ptr [.lst (rows t1), .lst (rows t2)]))]) rfl rfl ⟨rfl, rfl, trivial⟩) ?_
    refine aw_region ?_
    refine run_s (ss_field_ptr rfl) rfl ?_
    refine run_s (ss_load_ptr rfl rfl) rfl ?_
    refine run_s (ss_lenL (f := (fun r => C.lst (ints r))) rfl) rfl ?_
    refine run_s (ss_field_ptr rfl) rfl ?_
    refine run_s (ss_load_ptr rfl rfl) rfl ?_
    refine run_s (ss_lenL (f := (fun r => C.lst (ints r))) rfl) rfl ?_
    refine run_s (ss_neq rfl rfl) rfl ?_
    refine run_nil ?_
    refine aw_cond rfl (fun q8 => ?_) (fun q8 => ?_)
    ·replace h := h.1 (of_decide_eq_false (bnot_t q8))
     refine aw_seq ?_
     refine aw_gh (gh_to (n := 31) (σ' := []) (env' := []) rfl rfl trivial) ?_
     refine aw_region ?_
     refine run_s (ss_assign rfl) rfl ?_
     refine run_s (ss_assign rfl) rfl ?_
     refine run_nil ?_
     refine aw_ret ?_
     exact retAF_mk (retv2 rfl (rv_tmp rfl) (rv_tmp rfl)) rfl rfl ⟨_, (cle_tup (cleL_cons cle_nilL (cleL_cons (cle_refl _) cleL_nil))), _, _, h, rfl⟩
    ·replace h := h.2 (of_decide_eq_true (bnot_f q8))
     refine aw_skip ?_
     refine aw_seq ?_
     refine aw_gh (gh_to (n := 31) (σ' := []) (env' := [(2, .c (.ptr [.lst (rows s1), .lst (rows s2)])), (3, .c (.ptr [.lst (rows t1), .lst (rows t2)]))]) rfl rfl ⟨rfl, rfl, trivial⟩) ?_
     refine aw_region ?_
     refine run_s (ss_load_struct rfl (Nat.le_of_ble_eq_true rfl)) rfl ?_
     refine run_s (ss_load_struct rfl (Nat.le_of_ble_eq_true rfl)) rfl ?_
     obtain ⟨q9, h⟩ := h
     refine run_w (ws_call (xs := [.tmp 22, .tmp 23, .const (.int .i64 (1))]) (ids := []) rfl rfl rfl rfl (c_spec_l02Maps s1 s2 t1 t2 1 q9) rfl ?_ )
     rintro _ rfl
     refine ⟨rfl, ?_⟩
     refine run_s (ss_assign rfl) rfl ?_
     refine run_nil ?_
     refine aw_seq ?_
     refine aw_seq ?_
     refine aw_region ?_
     refine run_s (ss_move rfl) rfl ?_
     refine run_s (ss_lenL (f := (fun r => C.lst (ints r))) rfl) rfl ?_
     refine run_s (ss_eql rfl rfl) rfl ?_
     refine run_nil ?_
     refine aw_cond rfl (fun q11 => ?_) (fun q11 => ?_)
     ·replace h := h.1 (of_decide_eq_true q11)
      refine aw_seq ?_
      refine aw_gh (gh_to (n := 31) (σ' := []) (env' := []) rfl rfl trivial) ?_
      refine aw_region ?_
      refine run_s (ss_assign rfl) rfl ?_
      refine run_s (ss_assign rfl) rfl ?_
      refine run_nil ?_
      refine aw_ret ?_
      exact retAF_mk (retv2 rfl (rv_tmp rfl) (rv_tmp rfl)) rfl rfl ⟨_, (cle_tup (cleL_cons cle_nilL (cleL_cons (cle_refl _) cleL_nil))), _, _, h, rfl⟩
     ·replace h := h.2 (of_decide_eq_false q11)
      refine aw_skip ?_
      refine aw_seq ?_
      refine aw_gh (gh_to (n := 31) (σ' := []) (env' := [(6, .c (.lst (rows ((isoL [s1, s2] [t1, t2]).take (1 : Int).toNat))))]) rfl rfl ⟨rfl, trivial⟩) ?_
      refine aw_region ?_
      refine run_s (ss_move rfl) rfl ?_
      obtain ⟨q12, h⟩ := h
      refine run_s (ss_idxL rfl rfl q12) rfl ?_
      refine run_s (ss_loadL (f := (fun r => C.lst (ints r))) rfl q12) rfl ?_
      refine run_s (ss_assign rfl) rfl ?_
      refine run_s (ss_assign rfl) rfl ?_
      refine run_nil ?_
      refine aw_ret ?_
      exact retAF_mk (retv2 rfl (rv_tmp rfl) (rv_tmp rfl)) rfl rfl ⟨_, (cle_refl _), _, _, h, rfl⟩

theorem c_spec_SolutionIsomorphism (s1 : List (List Int)) (s2 : List (List Int)) (t1 : List (List Int)) (t2 : List (List Int)) (hp : pmB s1 s2 = true ∧ pmB t1 t2 = true) : AF Try.prog 30 [.agg [.lst (rows s1), .lst (rows s2)], .agg [.lst (rows t1), .lst (rows t2)]] (fun R_ => R_ = .tup [.lst (ints (if isoL [s1, s2] [t1, t2] = [] then [] else el (isoL [s1, s2] [t1, t2]) 0)), ci (if isoL [s1, s2] [t1, t2] = [] then (4 : Int) else 0)]) :=
  (w_spec_SolutionIsomorphism s1 s2 t1 t2 (fun y0 y1 => y0 = (if isoL [s1, s2] [t1, t2] = [] then [] else el (isoL [s1, s2] [t1, t2]) 0) ∧ y1 = (if isoL [s1, s2] [t1, t2] = [] then (4 : Int) else 0)) (p_spec_SolutionIsomorphism s1 s2 t1 t2 hp)).mono (by rintro r ⟨_, _, ⟨rfl, rfl⟩, rfl⟩; rfl)

def wp_impl_CycleIsomorphism (r : List (List Int)) (s : List (List Int)) (Q : List Int → Int → Prop) : Prop :=
 (small2 r) ∧
 (((isCyc r) = false →
 Q ([]) 1) ∧
 ((isCyc r) = true →
 (small2 s) ∧
 (((isCyc s) = false →
 Q ([]) 1) ∧
 ((isCyc s) = true →
 (TabsP ([r]) ∧ TabsP ([s]) ∧ ([r]).length = ([s]).length ∧ 1 ≤ ([r]).length) ∧
 ∃ (H1 : Nat → Unit → Prop), H1 0 () ∧
 ((∀ (k1 : Nat) (u1_ : Unit) (e1 : List Int), (isoL ([r]) ([s]))[k1]? = some e1 → H1 k1 u1_ →
 (small e1) ∧
 Q e1 0) ∧
 (∀ (u1_ : Unit), H1 (isoL ([r]) ([s])).length u1_ →
 Q ([]) 4))))))

def wp_spec_CycleIsomorphism (r : List (List Int)) (s : List (List Int)) (Q : List Int → Int → Prop) : Prop :=
 (small2 r) ∧
 (((isCyc r) = false →
 Q ([]) 1) ∧
 ((isCyc r) = true →
 (small2 s) ∧
 (((isCyc s) = false →
 Q ([]) 1) ∧
 ((isCyc s) = true →
 (isTab r = true ∧ r.all isPerm = true) ∧
 (isTab s = true ∧ s.all isPerm = true) ∧
 (pmB (cyAT r) (cyBT r) = true ∧ pmB (cyAT s) (cyBT s) = true) ∧
 Q (if isoL [(cyAT r), (cyBT r)] [(cyAT s), (cyBT s)] = [] then [] else el (isoL [(cyAT r), (cyBT r)] [(cyAT s), (cyBT s)]) 0) (if isoL [(cyAT r), (cyBT r)] [(cyAT s), (cyBT s)] = [] then (4 : Int) else 0)))))

theorem cis_no {r s : List (List Int)} (h : ¬ (isCyc r = true ∧ isCyc s = true)) : CisT r s = [] ∧ CisE r s = 1 := by
  have e : CisE r s = 1 := by unfold CisE; rw [if_neg h]
  exact ⟨by unfold CisT; rw [e]; rfl, e⟩
theorem cis_nil {r s : List (List Int)} (h1 : isCyc r = true) (h2 : isCyc s = true) (h : isoL [r] [s] = []) : CisT r s = [] ∧ CisE r s = 4 := by
  have e : CisE r s = 4 := by unfold CisE; rw [if_pos ⟨h1, h2⟩, if_pos h]
  exact ⟨by unfold CisT; rw [e]; rfl, e⟩
theorem cis_some {r s : List (List Int)} (h1 : isCyc r = true) (h2 : isCyc s = true) (h : isoL [r] [s] ≠ []) : CisT r s = el (isoL [r] [s]) 0 ∧ CisE r s = 0 := by
  have e : CisE r s = 0 := by unfold CisE; rw [if_pos ⟨h1, h2⟩, if_neg h]
  exact ⟨by unfold CisT; rw [e]; rfl, e⟩
theorem iso_first {r s : List (List Int)} (ht : isTab r = true) {k : Nat} {e : List Int} (hk : k = 0) (he : (isoL [r] [s])[k]? = some e) : isoL [r] [s] ≠ [] ∧ e = el (isoL [r] [s]) 0 ∧ small e := by
  subst hk
  have hm := isoL_mem (List.mem_of_getElem? he)
  have hl : e.length = r.length := hm.1
  have := isTab_len ht
  refine ⟨fun h => by rw [h] at he; simp at he, ?_, by show (e.length : Int) ≤ 1000000000; omega⟩
  unfold el; rw [List.getD_eq_getElem?_getD, show (0 : Int).toNat = 0 from rfl, he]; rfl
theorem p_impl_CycleIsomorphism (r s : List (List Int)) (hp : small2 r ∧ small2 s) : wp_impl_CycleIsomorphism r s (fun y0 y1 => y0 = CisT r s ∧ y1 = CisE r s) := by
  unfold wp_impl_CycleIsomorphism
  refine ⟨hp.1, fun h => ?_, fun h1 => ⟨hp.2, fun h => ?_, fun h2 => ⟨⟨tabs1 (isCyc_tab h1), tabs1 (isCyc_tab h2), rfl, by simp⟩, fun k _ => k = 0, rfl, fun k _ e he hk => ?_, fun _ hk => ?_⟩⟩⟩
  · have := cis_no (r := r) (s := s) fun k => by rw [h] at k; exact absurd k.1 (by simp)
    exact ⟨this.1.symm, this.2.symm⟩
  · have := cis_no (r := r) (s := s) fun k => by rw [h] at k; exact absurd k.2 (by simp)
    exact ⟨this.1.symm, this.2.symm⟩
  · obtain ⟨g1, g2, g3⟩ := iso_first (isCyc_tab h1) hk he
    have := cis_some h1 h2 g1
    exact ⟨g3, by rw [this.1]; exact g2, this.2.symm⟩
  · have := cis_nil h1 h2 (List.eq_nil_of_length_eq_zero hk)
    exact ⟨this.1.symm, this.2.symm⟩
theorem p_spec_CycleIsomorphism (r s : List (List Int)) (hp : small2 r ∧ small2 s) : wp_spec_CycleIsomorphism r s (fun y0 y1 => y0 = CisT r s ∧ y1 = CisE r s) := by
  unfold wp_spec_CycleIsomorphism
  refine ⟨hp.1, fun h => ?_, fun h1 => ⟨hp.2, fun h => ?_, fun h2 => ⟨⟨isCyc_tab h1, isCyc_perm h1⟩, ⟨isCyc_tab h2, isCyc_perm h2⟩, ⟨?_, ?_⟩, ?_⟩⟩⟩
  · have := cis_no (r := r) (s := s) fun k => by rw [h] at k; exact absurd k.1 (by simp)
    exact ⟨this.1.symm, this.2.symm⟩
  · have := cis_no (r := r) (s := s) fun k => by rw [h] at k; exact absurd k.2 (by simp)
    exact ⟨this.1.symm, this.2.symm⟩
  · obtain ⟨a1, a2, a3, a4⟩ := cy_pair h1
    unfold pmB; rw [a1, a2]; simp; omega
  · obtain ⟨a1, a2, a3, a4⟩ := cy_pair h2
    unfold pmB; rw [a1, a2]; simp; omega
  rw [iso_cyc h1 h2]
  by_cases h0 : isoL [r] [s] = []
  · have := cis_nil h1 h2 h0
    rw [if_pos h0, if_pos h0]
    exact ⟨this.1.symm, this.2.symm⟩
  · have := cis_some h1 h2 h0
    rw [if_neg h0, if_neg h0]
    exact ⟨this.1.symm, this.2.symm⟩

theorem c_impl_isomorphisms (ta tb : List (List (List Int))) (_hp : TabsP ta ∧ TabsP tb ∧ ta.length = tb.length ∧ 1 ≤ ta.length) : AF Try.prog 25 [.lst (tabs ta), .lst (tabs tb)] (fun R_ => R_ = .clo 44 [.ptr [.lst (tabs ta)], .ptr [.lst (tabs tb)]]) := by
  refine af_enter (n := 6) Try.func25 rfl (by rfl) rfl (Nat.le_of_ble_eq_true rfl) ?_
  refine aw_seq ?_
  refine aw_gh (gh_to (n := 6) (σ' := []) (env' := [(0, .c (.lst (tabs ta))), (1, .c (.lst (tabs tb)))]) rfl rfl ⟨rfl, rfl, trivial⟩) ?_
  refine aw_region ?_
  refine run_w (ws_boxR rfl (.inr rfl) rfl ⟨rfl, ?_⟩)
  refine run_w (ws_boxR rfl (.inr rfl) rfl ⟨rfl, ?_⟩)
  refine run_s (ss_assign rfl) rfl ?_
  refine run_nil ?_
  refine aw_seq ?_
  refine aw_region ?_
  refine run_s (ss_makeFunc (os := [.tmp 2, .tmp 3]) rfl) rfl ?_
  refine run_s (ss_assign rfl) rfl ?_
  refine run_nil ?_
  refine aw_ret ?_
  exact retAF_mk (retv1 rfl (rv_tmp rfl)) rfl rfl rfl



set_option maxRecDepth 100000 in
set_option maxHeartbeats 4000000 in
theorem w_impl_CycleIsomorphism (r : List (List Int)) (s : List (List Int)) (Q : List Int → Int → Prop) (h : wp_impl_CycleIsomorphism r s Q) : AF Try.prog 17 [.agg [.lst (rows r)], .agg [.lst (rows s)]] (fun R_ => ∃ y0 y1, Q y0 y1 ∧ R_ = .tup [.own (ints y0), ci y1]) := by
  refine AF.ofWQ (af_enterG (n := 25) Try.func17 rfl (by rfl) rfl (Nat.le_of_ble_eq_true rfl) ?_)
  unfold wp_impl_CycleIsomorphism at h
  refine ar_seq ?_
  refine aw_gh (gh_to (n := 25) (σ' := []) (env' := [(0, .c (.agg [.lst (rows r)])), (1, .c (.agg [.lst (rows s)]))]) rfl rfl ⟨rfl, rfl, trivial⟩) ?_
  refine aw_region ?_
  refine run_w (ws_boxR rfl (.inl rfl) rfl ⟨rfl, ?_⟩)
  refine run_w (ws_boxR rfl (.inl rfl) rfl ⟨rfl, ?_⟩)
  refine run_w (ws_alloc (id := 4) rfl (Nat.le_of_ble_eq_true rfl) ⟨rfl, ?_⟩)
  refine run_w (ws_alloc (id := 5) rfl (Nat.le_of_ble_eq_true rfl) ⟨rfl, ?_⟩)
  refine run_nil ?_
  refine ar_seq ?_
  refine aw_seq ?_
  refine aw_region ?_
  refine run_s (ss_load_struct rfl (Nat.le_of_ble_eq_true rfl)) rfl ?_
  obtain ⟨q1, h⟩ := h
  refine run_w (ws_call (xs := [.tmp 7]) (ids := []) rfl rfl rfl rfl (c_impl_IsCycleSet r q1) rfl ?_ )
  rintro _ rfl
  refine ⟨rfl, ?_⟩
  refine run_s (ss_not rfl) rfl ?_
  refine run_s (ss_move rfl) rfl ?_
  refine run_split (s := 10) rfl (fun q3 => ?_) (fun q3 => ?_)
  ·replace h := h.1 ((bnot_t q3))
   refine run_gf rfl rfl q3 rfl ?_
   refine run_gf rfl rfl q3 rfl ?_
   refine run_gf rfl rfl q3 rfl ?_
   refine run_s (ss_pickT rfl q3 rfl) rfl ?_
   refine run_nil ?_
   refine aw_cond rfl (fun q4 => ?_) (fun q4 => ?_)
   ·skip
    refine aw_seq ?_
    refine aw_gh (gh_to (n := 25) (σ' := [(5, ⟨[ci 0], []⟩), (4, ⟨[cnil], []⟩)]) (env' := [(4, .cell 4 0), (5, .cell 5 0)]) rfl rfl ⟨rfl, rfl, trivial⟩) ?_
    refine aw_region ?_
    refine run_w (ws_store rfl rfl (Nat.le_of_ble_eq_true rfl) rfl rfl ⟨rfl, ?_⟩)
    refine run_w (ws_store rfl rfl (Nat.le_of_ble_eq_true rfl) rfl rfl ⟨rfl, ?_⟩)
    refine run_nil ?_
    refine aw_ret ?_
    exact retAG_of (retAF_mk (retv2 rfl (rv_cell rfl rfl rfl) (rv_cell rfl rfl rfl)) rfl rfl ⟨_, (cle_tup (cleL_cons cle_nilO (cleL_cons (cle_refl _) cleL_nil))), _, _, h, rfl⟩)
   ·cases q4
  ·replace h := h.2 ((bnot_f q3))
   refine run_gt rfl rfl q3 ?_
   refine run_s (ss_load_struct rfl (Nat.le_of_ble_eq_true rfl)) rfl ?_
   refine run_gt rfl rfl q3 ?_
   obtain ⟨q5, h⟩ := h
   refine run_w (ws_call (xs := [.tmp 11]) (ids := []) rfl rfl rfl rfl (c_impl_IsCycleSet s q5) rfl ?_ )
   rintro _ rfl
   refine ⟨rfl, ?_⟩
   refine run_gt rfl rfl q3 ?_
   refine run_s (ss_not rfl) rfl ?_
   refine run_s (ss_pickF rfl q3 rfl) rfl ?_
   refine run_nil ?_
   refine aw_cond rfl (fun q7 => ?_) (fun q7 => ?_)
   ·replace h := h.1 ((bnot_t q7))
    refine aw_seq ?_
    refine aw_gh (gh_to (n := 25) (σ' := [(5, ⟨[ci 0], []⟩), (4, ⟨[cnil], []⟩)]) (env' := [(4, .cell 4 0), (5, .cell 5 0)]) rfl rfl ⟨rfl, rfl, trivial⟩) ?_
    refine aw_region ?_
    refine run_w (ws_store rfl rfl (Nat.le_of_ble_eq_true rfl) rfl rfl ⟨rfl, ?_⟩)
    refine run_w (ws_store rfl rfl (Nat.le_of_ble_eq_true rfl) rfl rfl ⟨rfl, ?_⟩)
    refine run_nil ?_
    refine aw_ret ?_
    exact retAG_of (retAF_mk (retv2 rfl (rv_cell rfl rfl rfl) (rv_cell rfl rfl rfl)) rfl rfl ⟨_, (cle_tup (cleL_cons cle_nilO (cleL_cons (cle_refl _) cleL_nil))), _, _, h, rfl⟩)
   ·replace h := h.2 ((bnot_f q7))
    refine aw_skip ?_
    refine ar_seqK ?_
    refine ar_seq ?_
    refine aw_gh (gh_to (n := 25) (σ' := [(5, ⟨[ci 0], []⟩), (4, ⟨[cnil], []⟩)]) (env' := [(2, .c (.ptr [.lst (rows r)])), (3, .c (.ptr [.lst (rows s)])), (4, .cell 4 0), (5, .cell 5 0)]) rfl rfl ⟨rfl, rfl, rfl, rfl, trivial⟩) ?_
    refine aw_region ?_
    refine run_s (ss_field_ptr rfl) rfl ?_
    refine run_s (ss_load_ptr rfl rfl) rfl ?_
    refine run_w (ws_buildSlice (id := 17) (ps := [(0, .tmp 16)]) rfl rfl (Nat.le_of_ble_eq_true rfl) rfl ⟨rfl, ?_⟩)
    refine run_s (ss_field_ptr rfl) rfl ?_
    refine run_s (ss_load_ptr rfl rfl) rfl ?_
    refine run_w (ws_buildSlice (id := 20) (ps := [(0, .tmp 19)]) rfl rfl (Nat.le_of_ble_eq_true rfl) rfl ⟨rfl, ?_⟩)
    refine run_gh (gh_frzE (id := 17) (f := (fun r => C.lst (rows r))) (l := ([r])) (fun r => C.lst (rows r)) rfl (fun _ => rfl)) ?_
    refine run_gh (gh_frzE (id := 20) (f := (fun r => C.lst (rows r))) (l := ([s])) (fun r => C.lst (rows r)) rfl (fun _ => rfl)) ?_
    obtain ⟨q8, h⟩ := h
    refine run_w (ws_call (xs := [.tmp 17, .tmp 20]) (ids := []) rfl rfl rfl rfl (c_impl_isomorphisms ([r]) ([s]) q8) rfl ?_ )
    rintro _ rfl
    refine ⟨rfl, ?_⟩
    refine run_nil ?_
    refine ar_block ?_
    refine ar_gh (gh_to (n := 25) (σ' := [(5, ⟨[ci 0], []⟩), (4, ⟨[cnil], []⟩)]) (env' := [(4, .cell 4 0), (5, .cell 5 0), (21, .c (.clo 44 [.ptr [.lst (tabs ([r]))], .ptr [.lst (tabs ([s]))]]))]) rfl rfl ⟨rfl, rfl, rfl, trivial⟩) ?_
    obtain ⟨H1, q10, h⟩ := h
    refine ar_rangeE (en := (fun p_ => .lst (ints p_))) 5000 [(5004, .cell 4 0), (5005, .cell 5 0), (5021, .c (.clo 44 [.ptr [.lst (tabs ([r]))], .ptr [.lst (tabs ([s]))]]))] (fun (u1_ : Unit) => [(5, ⟨[ci 0], []⟩), (4, ⟨[cnil], []⟩)]) H1 (c_impl_isomorphisms_1 ([r]) ([s]) q8) rfl rfl rfl rfl rfl ⟨(), ghe_to (n := 25) rfl rfl ⟨rfl, rfl, rfl, trivial⟩, (by simp [σok, slfL, C.slf, slf_ints, slf_orows, slf_ci, ci, cb]), q10⟩ (fun k1 u1_ e1 q11 q12 => ?_) (fun u1_ q12 => ?_)
    ·replace h := h.1 k1 u1_ e1 q11 q12
     refine aw_gh (gh_to (n := 25) (σ' := [(5, ⟨[ci 0], []⟩), (4, ⟨[cnil], []⟩)]) (env' := [(4, .cell 4 0), (5, .cell 5 0), (21, .c (.clo 44 [.ptr [.lst (tabs ([r]))], .ptr [.lst (tabs ([s]))]])), (22, .c (.lst (ints e1))), (5004, .cell 4 0), (5005, .cell 5 0), (5021, .c (.clo 44 [.ptr [.lst (tabs ([r]))], .ptr [.lst (tabs ([s]))]]))]) rfl rfl ⟨rfl, rfl, rfl, rfl, rfl, rfl, rfl, trivial⟩) ?_
     refine aw_gh (gh_to (n := 25) (σ' := [(5, ⟨[ci 0], []⟩), (4, ⟨[cnil], []⟩)]) (env' := [(4, .cell 4 0), (5, .cell 5 0), (22, .c (.lst (ints e1))), (5004, .cell 4 0), (5005, .cell 5 0), (5021, .c (.clo 44 [.ptr [.lst (tabs ([r]))], .ptr [.lst (tabs ([s]))]]))]) rfl rfl ⟨rfl, rfl, rfl, rfl, rfl, rfl, trivial⟩) ?_
     refine aw_region ?_
     refine run_s (ss_assign rfl) rfl ?_
     refine run_nil ?_
     refine aw_block ?_
     refine aw_seq ?_
     refine aw_region ?_
     refine run_s (ss_move rfl) rfl ?_
     obtain ⟨q13, h⟩ := h
     refine run_w (ws_call (xs := [.tmp 23]) (ids := [24]) rfl rfl rfl rfl (c_k_Clone e1 q13) rfl ?_ )
     rintro _ rfl
     refine ⟨rfl, ?_⟩
     refine run_w (ws_store rfl rfl (Nat.le_of_ble_eq_true rfl) rfl rfl ⟨rfl, ?_⟩)
     refine run_w (ws_store rfl rfl (Nat.le_of_ble_eq_true rfl) rfl rfl ⟨rfl, ?_⟩)
     refine run_nil ?_
     refine aw_ret ?_
     refine ⟨[(5, ⟨[ci 0], []⟩), (4, ⟨[.own (ints e1)], []⟩)], ghe_step (gh_fill (id := 4) (id2 := 24) (j := 0) rfl rfl (Nat.le_of_ble_eq_true rfl) rfl rfl rfl) (ghe_to (n := 25) rfl rfl ⟨rfl, rfl, rfl, trivial⟩), (by simp [σok, slfL, C.slf, slf_ints, slf_orows, slf_ci, ci, cb]), ?_⟩
     refine retAG_gh (gh_open (id := 4) (j := 0) 1001 rfl rfl rfl) ?_
     exact retAG_of (retAF_mk (retv2 rfl (rv_cell rfl rfl rfl) (rv_cell rfl rfl rfl)) rfl rfl ⟨_, (cle_refl _), _, _, h, rfl⟩)
    ·replace h := h.2 u1_ q12
     refine ar_aw ?_
     refine aw_seq ?_
     refine aw_gh (gh_to (n := 25) (σ' := [(5, ⟨[ci 0], []⟩), (4, ⟨[cnil], []⟩)]) (env' := [(4, .cell 4 0), (5, .cell 5 0)]) rfl rfl ⟨rfl, rfl, trivial⟩) ?_
     refine aw_region ?_
     refine run_w (ws_store rfl rfl (Nat.le_of_ble_eq_true rfl) rfl rfl ⟨rfl, ?_⟩)
     refine run_w (ws_store rfl rfl (Nat.le_of_ble_eq_true rfl) rfl rfl ⟨rfl, ?_⟩)
     refine run_nil ?_
     refine aw_ret ?_
     exact retAG_of (retAF_mk (retv2 rfl (rv_cell rfl rfl rfl) (rv_cell rfl rfl rfl)) rfl rfl ⟨_, (cle_tup (cleL_cons cle_nilO (cleL_cons (cle_refl _) cleL_nil))), _, _, h, rfl⟩)

theorem c_impl_CycleIsomorphism (r : List (List Int)) (s : List (List Int)) (hp : small2 r ∧ small2 s) : AF Try.prog 17 [.agg [.lst (rows r)], .agg [.lst (rows s)]] (fun R_ => R_ = .tup [.own (ints (CisT r s)), ci (CisE r s)]) :=
  (w_impl_CycleIsomorphism r s (fun y0 y1 => y0 = CisT r s ∧ y1 = CisE r s) (p_impl_CycleIsomorphism r s hp)).mono (by rintro r ⟨_, _, ⟨rfl, rfl⟩, rfl⟩; rfl)

set_option maxRecDepth 100000 in
set_option maxHeartbeats 4000000 in
theorem w_spec_CycleIsomorphism (r : List (List Int)) (s : List (List Int)) (Q : List Int → Int → Prop) (h : wp_spec_CycleIsomorphism r s Q) : AF Try.prog 15 [.agg [.lst (rows r)], .agg [.lst (rows s)]] (fun R_ => ∃ y0 y1, Q y0 y1 ∧ R_ = .tup [.lst (ints y0), ci y1]) := by
  refine AF.ofWQ (af_enter (n := 26) Try.func15 rfl (by rfl) rfl (Nat.le_of_ble_eq_true rfl) ?_)
  unfold wp_spec_CycleIsomorphism at h
  refine aw_seq ?_
  refine aw_gh (gh_to (n := 26) (σ' := []) (env' := [(0, .c (.agg [.lst (rows r)])), (1, .c (.agg [.lst (rows s)]))]) rfl rfl ⟨rfl, rfl, trivial⟩) ?_
  refine aw_region ?_
  refine run_w (ws_boxR rfl (.inl rfl) rfl ⟨rfl, ?_⟩)
  refine run_w (ws_boxR rfl (.inl rfl) rfl ⟨rfl, ?_⟩)
  refine run_s (ss_assign rfl) rfl ?_
  refine run_s (ss_assign rfl) rfl ?_
  refine run_nil ?_
  refine aw_seq ?_
  refine aw_seq ?_
  refine aw_region ?_
  refine run_s (ss_load_struct rfl (Nat.le_of_ble_eq_true rfl)) rfl ?_
  obtain ⟨q1, h⟩ := h
  refine run_w (ws_call (xs := [.tmp 8]) (ids := []) rfl rfl rfl rfl (c_spec_l05Is r q1) rfl ?_ )
  rintro _ rfl
  refine ⟨rfl, ?_⟩
  refine run_s (ss_not rfl) rfl ?_
  refine run_s (ss_move rfl) rfl ?_
  refine run_split (s := 11) rfl (fun q3 => ?_) (fun q3 => ?_)
  ·replace h := h.1 ((bnot_t q3))
   refine run_gf rfl rfl q3 rfl ?_
   refine run_gf rfl rfl q3 rfl ?_
   refine run_gf rfl rfl q3 rfl ?_
   refine run_s (ss_pickT rfl q3 rfl) rfl ?_
   refine run_nil ?_
   refine aw_cond rfl (fun q4 => ?_) (fun q4 => ?_)
   ·skip
    refine aw_seq ?_
    refine aw_gh (gh_to (n := 26) (σ' := []) (env' := [(4, .c (cnil)), (5, .c (ci 0))]) rfl rfl ⟨rfl, rfl, trivial⟩) ?_
    refine aw_region ?_
    refine run_s (ss_assign rfl) rfl ?_
    refine run_s (ss_assign rfl) rfl ?_
    refine run_nil ?_
    refine aw_ret ?_
    exact retAF_mk (retv2 rfl (rv_tmp rfl) (rv_tmp rfl)) rfl rfl ⟨_, (cle_tup (cleL_cons cle_nilL (cleL_cons (cle_refl _) cleL_nil))), _, _, h, rfl⟩
   ·cases q4
  ·replace h := h.2 ((bnot_f q3))
   refine run_gt rfl rfl q3 ?_
   refine run_s (ss_load_struct rfl (Nat.le_of_ble_eq_true rfl)) rfl ?_
   refine run_gt rfl rfl q3 ?_
   obtain ⟨q5, h⟩ := h
   refine run_w (ws_call (xs := [.tmp 12]) (ids := []) rfl rfl rfl rfl (c_spec_l05Is s q5) rfl ?_ )
   rintro _ rfl
   refine ⟨rfl, ?_⟩
   refine run_gt rfl rfl q3 ?_
   refine run_s (ss_not rfl) rfl ?_
   refine run_s (ss_pickF rfl q3 rfl) rfl ?_
   refine run_nil ?_
   refine aw_cond rfl (fun q7 => ?_) (fun q7 => ?_)
   ·replace h := h.1 ((bnot_t q7))
    refine aw_seq ?_
    refine aw_gh (gh_to (n := 26) (σ' := []) (env' := [(4, .c (cnil)), (5, .c (ci 0))]) rfl rfl ⟨rfl, rfl, trivial⟩) ?_
    refine aw_region ?_
    refine run_s (ss_assign rfl) rfl ?_
    refine run_s (ss_assign rfl) rfl ?_
    refine run_nil ?_
    refine aw_ret ?_
    exact retAF_mk (retv2 rfl (rv_tmp rfl) (rv_tmp rfl)) rfl rfl ⟨_, (cle_tup (cleL_cons cle_nilL (cleL_cons (cle_refl _) cleL_nil))), _, _, h, rfl⟩
   ·replace h := h.2 ((bnot_f q7))
    refine aw_skip ?_
    refine aw_seq ?_
    refine aw_gh (gh_to (n := 26) (σ' := []) (env' := [(2, .c (.ptr [.lst (rows r)])), (3, .c (.ptr [.lst (rows s)]))]) rfl rfl ⟨rfl, rfl, trivial⟩) ?_
    refine aw_regionD (kd := kdl [1, 2, 1, 2, 2, 0, 0, 0, 0, 0]) (ord := [0, 2, 1, 3, 4, 5, 6, 7, 8, 9]) [] mixed (by kernel_rfl) ?_
    refine rd_l rfl rfl trivial (ss_load_struct rfl (Nat.le_of_ble_eq_true rfl)) rfl ?_
    refine rd_l rfl rfl trivial (ss_load_struct rfl (Nat.le_of_ble_eq_true rfl)) rfl ?_
    obtain ⟨q8, h⟩ := h
    refine rd_w rfl rfl trivial rfl rfl (ws_call (xs := [.tmp 17]) (ids := [18, 1001]) rfl rfl rfl rfl (c_spec_l05Solution r q8) rfl ?_ )
    rintro _ rfl
    refine ⟨rfl, ?_⟩
    obtain ⟨q10, h⟩ := h
    refine rd_w rfl rfl trivial rfl rfl (ws_call (xs := [.tmp 19]) (ids := [20, 1002]) rfl rfl rfl rfl (c_spec_l05Solution s q10) rfl ?_ )
    rintro _ rfl
    refine ⟨rfl, ?_⟩
    obtain ⟨q12, h⟩ := h
    refine rd_w rfl rfl trivial rfl rfl (ws_gh (gh_frzE (id := 18) (fun r => C.lst (ints r)) rfl (fun _ => (fz_own (fz_map (fun _ => rfl) _)))) (ws_gh (gh_frzE (id := 1001) (fun r => C.lst (ints r)) rfl (fun _ => (fz_own (fz_map (fun _ => rfl) _)))) (ws_gh (gh_frzE (id := 20) (fun r => C.lst (ints r)) rfl (fun _ => (fz_own (fz_map (fun _ => rfl) _)))) (ws_gh (gh_frzE (id := 1002) (fun r => C.lst (ints r)) rfl (fun _ => (fz_own (fz_map (fun _ => rfl) _)))) (ws_call (xs := [.tmp 18, .tmp 20]) (ids := []) rfl rfl rfl rfl (c_spec_SolutionIsomorphism (cyAT r) (cyBT r) (cyAT s) (cyBT s) q12) rfl ?_ )))))
    rintro _ rfl
    refine ⟨rfl, ?_⟩
    refine rd_s rfl rfl trivial (ss_move rfl) rfl ?_
    refine rd_s rfl rfl trivial (ss_extract rfl rfl) rfl ?_
    refine rd_s rfl rfl trivial (ss_extract rfl rfl) rfl ?_
    refine rd_s rfl rfl trivial (ss_assign rfl) rfl ?_
    refine rd_s rfl rfl trivial (ss_assign rfl) rfl ?_
    refine rd_nil ?_
    refine aw_seq ?_
    refine aw_gh (gh_to (n := 26) (σ' := []) (env' := [(6, .c (.lst (ints (if isoL [(cyAT r), (cyBT r)] [(cyAT s), (cyBT s)] = [] then [] else el (isoL [(cyAT r), (cyBT r)] [(cyAT s), (cyBT s)]) 0)))), (7, .c (ci (if isoL [(cyAT r), (cyBT r)] [(cyAT s), (cyBT s)] = [] then (4 : Int) else 0)))]) rfl rfl ⟨rfl, rfl, trivial⟩) ?_
    refine aw_region ?_
    refine run_s (ss_move rfl) rfl ?_
    refine run_s (ss_move rfl) rfl ?_
    refine run_s (ss_assign rfl) rfl ?_
    refine run_s (ss_assign rfl) rfl ?_
    refine run_nil ?_
    refine aw_ret ?_
    exact retAF_mk (retv2 rfl (rv_tmp rfl) (rv_tmp rfl)) rfl rfl ⟨_, (cle_refl _), _, _, h, rfl⟩

theorem c_spec_CycleIsomorphism (r : List (List Int)) (s : List (List Int)) (hp : small2 r ∧ small2 s) : AF Try.prog 15 [.agg [.lst (rows r)], .agg [.lst (rows s)]] (fun R_ => R_ = .tup [.lst (ints (CisT r s)), ci (CisE r s)]) :=
  (w_spec_CycleIsomorphism r s (fun y0 y1 => y0 = CisT r s ∧ y1 = CisE r s) (p_spec_CycleIsomorphism r s hp)).mono (by rintro r ⟨_, _, ⟨rfl, rfl⟩, rfl⟩; rfl)

section
variable {n : Int} {l : List (List Int)}
end
end Go.Proofs.Ytkmoeodoidpjkaa

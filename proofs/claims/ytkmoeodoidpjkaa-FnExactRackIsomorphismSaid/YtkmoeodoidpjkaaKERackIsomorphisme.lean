/- Contracts of functions that the law FnExactRackIsomorphism reaches: conditions, plain proofs, walks; no condition. -/
import Derived.Test.YtkmoeodoidpjkaaKERackIsomorphismd
import Derived.Test.YtkmoeodoidpjkaaPP
namespace Go.Proofs.Ytkmoeodoidpjkaa

set_option maxRecDepth 100000 in
set_option maxHeartbeats 4000000 in
theorem w_spec_l03Seek (a : List (List (List Int))) (b : List (List (List Int))) (f : List Int) (first : List Int) (second : List Int) (most : Int) (out : List (List Int)) (Q : List (List Int) → Prop) (hrec : ∀ (a' : List (List (List Int))) (b' : List (List (List Int))) (f' : List Int) (first' : List Int) (second' : List Int) (most' : Int) (out' : List (List Int)), ((el a' 0).length - f'.length) < ((el a 0).length - f.length) → (SkD a' b' f' first' second' most' out') → AM Try.prog 39 [.lst (tabs a'), .lst (tabs b'), .lst (ints f'), .lst (ints first'), .lst (ints second'), ci most', .own (orows out')] (fun R_ O_ => R_ = .own (orows (out' ++ (extL a' b' (padM f' first')).take (most' - (out'.length : Int)).toNat)) ∧ O_ = [.lst (tabs a'), .lst (tabs b'), .lst (ints f'), .lst (ints first'), .lst (ints second'), ci most', .hole])) (h : wp_spec_l03Seek a b f first second most out Q) : AM Try.prog 39 [.lst (tabs a), .lst (tabs b), .lst (ints f), .lst (ints first), .lst (ints second), ci most, .own (orows out)] (fun R_ O_ => ∃ y0, Q y0 ∧ R_ = .own (orows y0) ∧ O_ = [.lst (tabs a), .lst (tabs b), .lst (ints f), .lst (ints first), .lst (ints second), ci most, .hole]) := by
  refine am_enter (n := 101) (m := 7) Try.func39 rfl (by rfl) rfl rfl (Nat.le_of_ble_eq_true rfl) [800] rfl ?_
  unfold wp_spec_l03Seek at h
  refine aw_gh (gh_to (n := 101) (σ' := [(800, ⟨orows out, []⟩)]) (env' := [(0, .c (.lst (tabs a))), (1, .c (.lst (tabs b))), (2, .c (.lst (ints f))), (3, .c (.lst (ints first))), (4, .c (.lst (ints second))), (5, .c (ci most)), (6, .ref 800), (101, .c (.lst (tabs a))), (102, .c (.lst (tabs b))), (103, .c (.lst (ints f))), (104, .c (.lst (ints first))), (105, .c (.lst (ints second))), (106, .c (ci most))]) rfl rfl ⟨rfl, rfl, rfl, rfl, rfl, rfl, rfl, rfl, rfl, rfl, rfl, rfl, rfl, trivial⟩) ?_
  refine aw_seq ?_
  refine aw_gh (gh_to (n := 101) (σ' := [(800, ⟨orows out, []⟩)]) (env' := [(0, .c (.lst (tabs a))), (1, .c (.lst (tabs b))), (2, .c (.lst (ints f))), (3, .c (.lst (ints first))), (4, .c (.lst (ints second))), (5, .c (ci most)), (6, .ref 800), (101, .c (.lst (tabs a))), (102, .c (.lst (tabs b))), (103, .c (.lst (ints f))), (104, .c (.lst (ints first))), (105, .c (.lst (ints second))), (106, .c (ci most))]) rfl rfl ⟨rfl, rfl, rfl, rfl, rfl, rfl, rfl, rfl, rfl, rfl, rfl, rfl, rfl, trivial⟩) ?_
  refine aw_region ?_
  refine run_s (ss_assign rfl) rfl ?_
  refine run_nil ?_
  refine aw_seq ?_
  refine aw_region ?_
  refine run_s (ss_move rfl) rfl ?_
  refine run_s (ss_lenL (f := ci) rfl) rfl ?_
  refine run_s (ss_assign rfl) rfl ?_
  refine run_nil ?_
  refine aw_seq ?_
  refine aw_seq ?_
  refine aw_region ?_
  refine run_s (ss_move rfl) rfl ?_
  refine run_s (ss_move rfl) rfl ?_
  refine run_s (ss_lenL (f := ci) rfl) rfl ?_
  refine run_s (ss_eql rfl rfl) rfl ?_
  refine run_nil ?_
  refine aw_cond rfl (fun q1 => ?_) (fun q1 => ?_)
  ·replace h := h.1 (of_decide_eq_true q1)
   refine aw_seq ?_
   refine aw_gh (gh_to (n := 101) (σ' := [(800, ⟨orows out, []⟩)]) (env' := [(2, .c (.lst (ints f))), (6, .ref 800), (14, .c (cnil)), (101, .c (.lst (tabs a))), (102, .c (.lst (tabs b))), (103, .c (.lst (ints f))), (104, .c (.lst (ints first))), (105, .c (.lst (ints second))), (106, .c (ci most))]) rfl rfl ⟨rfl, rfl, rfl, rfl, rfl, rfl, rfl, rfl, rfl, trivial⟩) ?_
   refine aw_region ?_
   refine run_s (ss_move rfl) rfl ?_
   refine run_s (ss_move rfl) rfl ?_
   obtain ⟨q2, h⟩ := h
   refine run_w (ws_call (xs := [.tmp 30]) (ids := [31]) rfl rfl rfl rfl (c_spec_l01Own f q2) rfl ?_ )
   rintro _ rfl
   refine ⟨rfl, ?_⟩
   refine run_w (ws_buildSlice (id := 32) (ps := [(0, .tmp 31)]) rfl rfl (Nat.le_of_ble_eq_true rfl) rfl ⟨rfl, ?_⟩)
   refine run_gh (gh_fill (id := 32) (id2 := 31) (j := 0) rfl rfl (Nat.le_of_ble_eq_true rfl) rfl rfl rfl) ?_
   obtain ⟨q4, h⟩ := h
   refine run_w (ws_app1 (fun r => C.own (ints r)) (l := out) (m := [f]) rfl rfl rfl rfl rfl (Nat.le_of_ble_eq_true rfl) q4 ⟨rfl, ?_⟩)
   refine run_s (ss_assign rfl) rfl ?_
   refine run_nil ?_
   refine aw_ret ?_
   exact retAM_mk (retv1 rfl (rv_tmp rfl)) rfl rfl rfl ⟨_, h, rfl, rfl⟩
  ·replace h := h.2 (of_decide_eq_false q1)
   refine aw_skip ?_
   refine aw_seq ?_
   refine aw_seq ?_
   refine aw_region ?_
   refine run_s (ss_assign rfl) rfl ?_
   refine run_nil ?_
   refine aw_block ?_
   obtain ⟨H1, m1, q5, h⟩ := h
   refine aw_loop2 (fun (v16_1 : Int) (o800_1 : List (List Int)) => ⟨[(800, ⟨orows o800_1, []⟩)], [(0, .c (.lst (tabs a))), (1, .c (.lst (tabs b))), (2, .c (.lst (ints f))), (3, .c (.lst (ints first))), (4, .c (.lst (ints second))), (5, .c (ci most)), (6, .ref 800), (15, .c (ci (f.length : Int))), (16, .c (ci v16_1)), (101, .c (.lst (tabs a))), (102, .c (.lst (tabs b))), (103, .c (.lst (ints f))), (104, .c (.lst (ints first))), (105, .c (.lst (ints second))), (106, .c (ci most))], 101⟩) H1 m1 ⟨0, out, ghe_to (n := 101) rfl rfl ⟨rfl, rfl, rfl, rfl, rfl, rfl, rfl, rfl, rfl, rfl, rfl, rfl, rfl, rfl, rfl, trivial⟩, q5⟩ ?_
   rintro v16_1 o800_1 q5
   replace h := h v16_1 o800_1 q5
   refine aw_seq ?_
   refine aw_seq ?_
   refine aw_region ?_
   refine run_s (ss_move rfl) rfl ?_
   refine run_s (ss_move rfl) rfl ?_
   refine run_s (ss_lenL (f := ci) rfl) rfl ?_
   refine run_s (ss_lss rfl rfl) rfl ?_
   refine run_s (ss_move rfl) rfl ?_
   refine run_split (s := 38) rfl (fun q6 => ?_) (fun q6 => ?_)
   ·replace h := h.1 (of_decide_eq_true q6)
    refine run_gt rfl rfl q6 ?_
    refine run_s (ss_move rfl) rfl ?_
    refine run_gt rfl rfl q6 ?_
    refine run_s (ss_lenR (f := (fun r => C.own (ints r))) rfl rfl) rfl ?_
    refine run_gt rfl rfl q6 ?_
    refine run_s (ss_move rfl) rfl ?_
    refine run_gt rfl rfl q6 ?_
    refine run_s (ss_lss rfl rfl) rfl ?_
    refine run_s (ss_pickT rfl q6 rfl) rfl ?_
    refine run_nil ?_
    refine aw_cond rfl (fun q7 => ?_) (fun q7 => ?_)
    ·replace h := h.1 (of_decide_eq_true q7)
     refine aw_skip ?_
     refine aw_seq ?_
     refine aw_block ?_
     refine aw_seq ?_
     refine aw_region ?_
     refine run_s (ss_move rfl) rfl ?_
     obtain ⟨q8, h⟩ := h
     refine run_w (ws_call (xs := [.tmp 46]) (ids := [47]) rfl rfl rfl rfl (c_spec_l01Own f q8) rfl ?_ )
     rintro _ rfl
     refine ⟨rfl, ?_⟩
     refine run_s (ss_move rfl) rfl ?_
     refine run_w (ws_buildSlice (id := 49) (ps := [(0, .tmp 48)]) rfl rfl (Nat.le_of_ble_eq_true rfl) rfl ⟨rfl, ?_⟩)
     obtain ⟨q10, h⟩ := h
     refine run_w (ws_app1 ci (l := f) (m := [v16_1]) rfl rfl rfl rfl rfl (Nat.le_of_ble_eq_true rfl) q10 ⟨rfl, ?_⟩)
     refine run_s (ss_assign rfl) rfl ?_
     refine run_nil ?_
     refine aw_seq ?_
     refine aw_seq ?_
     refine aw_gh (gh_to (n := 101) (σ' := [(47, ⟨ints (f ++ ([v16_1])), []⟩), (800, ⟨orows o800_1, []⟩)]) (env' := [(0, .c (.lst (tabs a))), (1, .c (.lst (tabs b))), (2, .c (.lst (ints f))), (3, .c (.lst (ints first))), (4, .c (.lst (ints second))), (5, .c (ci most)), (6, .ref 800), (15, .c (ci (f.length : Int))), (16, .c (ci v16_1)), (17, .ref 47), (39, .ref 800), (40, .c (ci (o800_1.length : Int))), (41, .c (ci most)), (42, .c (cb (decide ((o800_1.length : Int) < most)))), (101, .c (.lst (tabs a))), (102, .c (.lst (tabs b))), (103, .c (.lst (ints f))), (104, .c (.lst (ints first))), (105, .c (.lst (ints second))), (106, .c (ci most))]) rfl rfl ⟨rfl, rfl, rfl, rfl, rfl, rfl, rfl, rfl, rfl, rfl, rfl, rfl, rfl, rfl, rfl, rfl, rfl, rfl, rfl, rfl, trivial⟩) ?_
     refine aw_regionD (kd := kdl [0, 0, 2, 0, 0, 0, 0, 1, 0, 0, 0, 1, 0, 0, 0, 0, 0, 0, 2, 0, 0]) (ord := [0, 1, 2, 3, 4, 5, 6, 8, 9, 10, 7, 11, 12, 13, 14, 15, 16, 17, 18, 19, 20]) [] mixed (by kernel_rfl) ?_
     refine rd_s rfl rfl trivial (ss_move rfl) rfl ?_
     refine rd_s rfl rfl trivial (ss_move rfl) rfl ?_
     obtain ⟨q11, h⟩ := h
     refine rd_w rfl rfl trivial rfl rfl (ws_call (xs := [.tmp 51, .tmp 52]) (ids := []) rfl rfl rfl rfl (c_spec_l01Has f v16_1 q11) rfl ?_ )
     rintro _ rfl
     refine ⟨rfl, ?_⟩
     refine rd_s rfl rfl trivial (ss_move rfl) rfl ?_
     refine rd_split (s := 54) rfl (fun q13 => ?_) (fun q13 => ?_)
     ·replace h := h.1 (q13)
      refine rd_no rfl rfl rfl q13 rfl ?_
      refine rd_no rfl rfl rfl q13 rfl ?_
      refine rd_no rfl rfl rfl q13 rfl ?_
      refine rd_no rfl rfl rfl q13 rfl ?_
      refine rd_no rfl rfl rfl q13 rfl ?_
      refine rd_no rfl rfl rfl q13 rfl ?_
      refine rd_no rfl rfl rfl q13 rfl ?_
      refine rd_no rfl rfl rfl q13 rfl ?_
      refine rd_no rfl rfl rfl q13 rfl ?_
      refine rd_s rfl rfl trivial (ss_pickT rfl q13 rfl) rfl ?_
      refine rd_s rfl rfl trivial (ss_move rfl) rfl ?_
      refine rd_split (s := 65) rfl (fun q14 => ?_) (fun q14 => ?_)
      ·skip
       refine rd_no rfl rfl rfl q14 rfl ?_
       refine rd_no rfl rfl rfl q14 rfl ?_
       refine rd_no rfl rfl rfl q14 rfl ?_
       refine rd_no rfl rfl rfl q14 rfl ?_
       refine rd_no rfl rfl rfl q14 rfl ?_
       refine rd_s rfl rfl trivial (ss_pickT rfl q14 rfl) rfl ?_
       refine rd_nil ?_
       refine aw_cond rfl (fun q15 => ?_) (fun q15 => ?_)
       ·skip
        refine aw_exit ?_
        refine aw_gh (gh_to (n := 101) (σ' := [(47, ⟨ints (f ++ ([v16_1])), []⟩), (800, ⟨orows o800_1, []⟩)]) (env' := [(0, .c (.lst (tabs a))), (1, .c (.lst (tabs b))), (2, .c (.lst (ints f))), (3, .c (.lst (ints first))), (4, .c (.lst (ints second))), (5, .c (ci most)), (6, .ref 800), (15, .c (ci (f.length : Int))), (16, .c (ci v16_1)), (39, .ref 800), (40, .c (ci (o800_1.length : Int))), (41, .c (ci most)), (42, .c (cb (decide ((o800_1.length : Int) < most)))), (101, .c (.lst (tabs a))), (102, .c (.lst (tabs b))), (103, .c (.lst (ints f))), (104, .c (.lst (ints first))), (105, .c (.lst (ints second))), (106, .c (ci most))]) rfl rfl ⟨rfl, rfl, rfl, rfl, rfl, rfl, rfl, rfl, rfl, rfl, rfl, rfl, rfl, rfl, rfl, rfl, rfl, rfl, rfl, trivial⟩) ?_
        refine aw_region ?_
        refine run_s (ss_move rfl) rfl ?_
        obtain ⟨q16, h⟩ := h
        refine run_s (ss_add rfl rfl q16) rfl ?_
        refine run_s (ss_assign rfl) rfl ?_
        refine run_nil ?_
        exact ⟨v16_1 + 1, o800_1, ghe_step (gh_frzE (id := 47) ci rfl (fun _ => rfl)) (ghe_to (n := 101) rfl rfl ⟨rfl, rfl, rfl, rfl, rfl, rfl, rfl, rfl, rfl, rfl, rfl, rfl, rfl, rfl, rfl, trivial⟩), h.1, h.2⟩
       ·cases q15
      ·cases q14
     ·replace h := h.2 (q13)
      refine rd_s rfl rfl ⟨_, _, rfl, rfl, q13⟩ (ss_move rfl) rfl ?_
      refine rd_s rfl rfl ⟨_, _, rfl, rfl, q13⟩ (ss_move rfl) rfl ?_
      obtain ⟨q17, h⟩ := h
      refine rd_s rfl rfl ⟨_, _, rfl, rfl, q13⟩ (ss_idxL rfl rfl q17) rfl ?_
      refine rd_s rfl rfl ⟨_, _, rfl, rfl, q13⟩ (ss_move rfl) rfl ?_
      refine rd_s rfl rfl ⟨_, _, rfl, rfl, q13⟩ (ss_move rfl) rfl ?_
      obtain ⟨q18, h⟩ := h
      refine rd_s rfl rfl ⟨_, _, rfl, rfl, q13⟩ (ss_idxL rfl rfl q18) rfl ?_
      refine rd_l rfl rfl ⟨_, _, rfl, rfl, q13⟩ (ss_loadL (f := ci) rfl q17) rfl ?_
      refine rd_l rfl rfl ⟨_, _, rfl, rfl, q13⟩ (ss_loadL (f := ci) rfl q18) rfl ?_
      refine rd_s rfl rfl ⟨_, _, rfl, rfl, q13⟩ (ss_neq rfl rfl) rfl ?_
      refine rd_s rfl rfl trivial (ss_pickF rfl q13 rfl) rfl ?_
      refine rd_s rfl rfl trivial (ss_move rfl) rfl ?_
      refine rd_split (s := 65) rfl (fun q19 => ?_) (fun q19 => ?_)
      ·replace h := h.1 (of_decide_eq_false (bnot_t q19))
       refine rd_no rfl rfl rfl q19 rfl ?_
       refine rd_no rfl rfl rfl q19 rfl ?_
       refine rd_no rfl rfl rfl q19 rfl ?_
       refine rd_no rfl rfl rfl q19 rfl ?_
       refine rd_no rfl rfl rfl q19 rfl ?_
       refine rd_s rfl rfl trivial (ss_pickT rfl q19 rfl) rfl ?_
       refine rd_nil ?_
       refine aw_cond rfl (fun q20 => ?_) (fun q20 => ?_)
       ·skip
        refine aw_exit ?_
        refine aw_gh (gh_to (n := 101) (σ' := [(47, ⟨ints (f ++ ([v16_1])), []⟩), (800, ⟨orows o800_1, []⟩)]) (env' := [(0, .c (.lst (tabs a))), (1, .c (.lst (tabs b))), (2, .c (.lst (ints f))), (3, .c (.lst (ints first))), (4, .c (.lst (ints second))), (5, .c (ci most)), (6, .ref 800), (15, .c (ci (f.length : Int))), (16, .c (ci v16_1)), (39, .ref 800), (40, .c (ci (o800_1.length : Int))), (41, .c (ci most)), (42, .c (cb (decide ((o800_1.length : Int) < most)))), (55, .c (.lst (ints first))), (56, .c (ci (f.length : Int))), (57, .c (.ptr ((ints first).drop (f.length : Int).toNat))), (58, .c (ci (el first (f.length : Int)))), (59, .c (.lst (ints second))), (60, .c (ci v16_1)), (61, .c (.ptr ((ints second).drop v16_1.toNat))), (62, .c (ci (el second v16_1))), (63, .c (cb (!(decide (el first (f.length : Int) = el second v16_1))))), (101, .c (.lst (tabs a))), (102, .c (.lst (tabs b))), (103, .c (.lst (ints f))), (104, .c (.lst (ints first))), (105, .c (.lst (ints second))), (106, .c (ci most))]) rfl rfl ⟨rfl, rfl, rfl, rfl, rfl, rfl, rfl, rfl, rfl, rfl, rfl, rfl, rfl, rfl, rfl, rfl, rfl, rfl, rfl, rfl, rfl, rfl, rfl, rfl, rfl, rfl, rfl, rfl, trivial⟩) ?_
        refine aw_region ?_
        refine run_s (ss_move rfl) rfl ?_
        obtain ⟨q21, h⟩ := h
        refine run_s (ss_add rfl rfl q21) rfl ?_
        refine run_s (ss_assign rfl) rfl ?_
        refine run_nil ?_
        exact ⟨v16_1 + 1, o800_1, ghe_step (gh_frzE (id := 47) ci rfl (fun _ => rfl)) (ghe_to (n := 101) rfl rfl ⟨rfl, rfl, rfl, rfl, rfl, rfl, rfl, rfl, rfl, rfl, rfl, rfl, rfl, rfl, rfl, trivial⟩), h.1, h.2⟩
       ·cases q20
      ·replace h := h.2 (of_decide_eq_true (bnot_f q19))
       refine rd_s rfl rfl ⟨_, _, rfl, rfl, q19⟩ (ss_move rfl) rfl ?_
       refine rd_s rfl rfl ⟨_, _, rfl, rfl, q19⟩ (ss_move rfl) rfl ?_
       refine rd_s rfl rfl ⟨_, _, rfl, rfl, q19⟩ (ss_move rfl) rfl ?_
       obtain ⟨q22, h⟩ := h
       refine rd_w rfl rfl ⟨_, _, rfl, rfl, q19⟩ rfl rfl (ws_callR (xs := [.tmp 66, .tmp 67, .tmp 68]) (cs := [.lst (tabs a), .lst (tabs b), .own (ints (f ++ ([v16_1])))]) (ids := []) rfl (.inr ⟨rfl, rfl⟩) rfl rfl (fz_cons rfl (fz_cons rfl (fz_cons (fz_own (fz_map (fun _ => rfl) _)) fz_nil))) (c_spec_l03Fits a b (f ++ ([v16_1])) q22) rfl ?_ )
       rintro _ rfl
       refine ⟨rfl, rfl, ?_⟩
       refine rd_s rfl rfl ⟨_, _, rfl, rfl, q19⟩ (ss_not rfl) rfl ?_
       refine rd_s rfl rfl trivial (ss_pickF rfl q19 rfl) rfl ?_
       refine rd_nil ?_
       refine aw_cond rfl (fun q24 => ?_) (fun q24 => ?_)
       ·replace h := h.1 ((bnot_t q24))
        refine aw_exit ?_
        refine aw_gh (gh_to (n := 101) (σ' := [(47, ⟨ints (f ++ ([v16_1])), []⟩), (800, ⟨orows o800_1, []⟩)]) (env' := [(0, .c (.lst (tabs a))), (1, .c (.lst (tabs b))), (2, .c (.lst (ints f))), (3, .c (.lst (ints first))), (4, .c (.lst (ints second))), (5, .c (ci most)), (6, .ref 800), (15, .c (ci (f.length : Int))), (16, .c (ci v16_1)), (39, .ref 800), (40, .c (ci (o800_1.length : Int))), (41, .c (ci most)), (42, .c (cb (decide ((o800_1.length : Int) < most)))), (55, .c (.lst (ints first))), (56, .c (ci (f.length : Int))), (57, .c (.ptr ((ints first).drop (f.length : Int).toNat))), (58, .c (ci (el first (f.length : Int)))), (59, .c (.lst (ints second))), (60, .c (ci v16_1)), (61, .c (.ptr ((ints second).drop v16_1.toNat))), (62, .c (ci (el second v16_1))), (63, .c (cb (!(decide (el first (f.length : Int) = el second v16_1))))), (66, .c (.lst (tabs a))), (67, .c (.lst (tabs b))), (68, .ref 47), (69, .c (cb (dec (conA a b (f ++ ([v16_1])))))), (70, .c (cb (!((dec (conA a b (f ++ ([v16_1])))))))), (101, .c (.lst (tabs a))), (102, .c (.lst (tabs b))), (103, .c (.lst (ints f))), (104, .c (.lst (ints first))), (105, .c (.lst (ints second))), (106, .c (ci most))]) rfl rfl ⟨rfl, rfl, rfl, rfl, rfl, rfl, rfl, rfl, rfl, rfl, rfl, rfl, rfl, rfl, rfl, rfl, rfl, rfl, rfl, rfl, rfl, rfl, rfl, rfl, rfl, rfl, rfl, rfl, rfl, rfl, rfl, rfl, rfl, trivial⟩) ?_
        refine aw_region ?_
        refine run_s (ss_move rfl) rfl ?_
        obtain ⟨q25, h⟩ := h
        refine run_s (ss_add rfl rfl q25) rfl ?_
        refine run_s (ss_assign rfl) rfl ?_
        refine run_nil ?_
        exact ⟨v16_1 + 1, o800_1, ghe_step (gh_frzE (id := 47) ci rfl (fun _ => rfl)) (ghe_to (n := 101) rfl rfl ⟨rfl, rfl, rfl, rfl, rfl, rfl, rfl, rfl, rfl, rfl, rfl, rfl, rfl, rfl, rfl, trivial⟩), h.1, h.2⟩
       ·replace h := h.2 ((bnot_f q24))
        refine aw_skip ?_
        refine aw_seq ?_
        refine aw_gh (gh_to (n := 101) (σ' := [(47, ⟨ints (f ++ ([v16_1])), []⟩), (800, ⟨orows o800_1, []⟩)]) (env' := [(0, .c (.lst (tabs a))), (1, .c (.lst (tabs b))), (2, .c (.lst (ints f))), (3, .c (.lst (ints first))), (4, .c (.lst (ints second))), (5, .c (ci most)), (6, .ref 800), (15, .c (ci (f.length : Int))), (16, .c (ci v16_1)), (17, .ref 47), (39, .ref 800), (40, .c (ci (o800_1.length : Int))), (41, .c (ci most)), (42, .c (cb (decide ((o800_1.length : Int) < most)))), (55, .c (.lst (ints first))), (56, .c (ci (f.length : Int))), (57, .c (.ptr ((ints first).drop (f.length : Int).toNat))), (58, .c (ci (el first (f.length : Int)))), (59, .c (.lst (ints second))), (60, .c (ci v16_1)), (61, .c (.ptr ((ints second).drop v16_1.toNat))), (62, .c (ci (el second v16_1))), (63, .c (cb (!(decide (el first (f.length : Int) = el second v16_1))))), (66, .c (.lst (tabs a))), (67, .c (.lst (tabs b))), (68, .ref 47), (69, .c (cb (dec (conA a b (f ++ ([v16_1])))))), (70, .c (cb (!((dec (conA a b (f ++ ([v16_1])))))))), (101, .c (.lst (tabs a))), (102, .c (.lst (tabs b))), (103, .c (.lst (ints f))), (104, .c (.lst (ints first))), (105, .c (.lst (ints second))), (106, .c (ci most))]) rfl rfl ⟨rfl, rfl, rfl, rfl, rfl, rfl, rfl, rfl, rfl, rfl, rfl, rfl, rfl, rfl, rfl, rfl, rfl, rfl, rfl, rfl, rfl, rfl, rfl, rfl, rfl, rfl, rfl, rfl, rfl, rfl, rfl, rfl, rfl, rfl, trivial⟩) ?_
        refine aw_region ?_
        refine run_s (ss_move rfl) rfl ?_
        obtain ⟨q26, h⟩ := h
        refine run_w (ws_call (xs := [.tmp 72]) (ids := [73]) rfl rfl rfl rfl (c_spec_l01Own first q26) rfl ?_ )
        rintro _ rfl
        refine ⟨rfl, ?_⟩
        refine run_s (ss_move rfl) rfl ?_
        obtain ⟨q28, h⟩ := h
        refine run_w (ws_call (xs := [.tmp 74]) (ids := [75]) rfl rfl rfl rfl (c_spec_l01Own second q28) rfl ?_ )
        rintro _ rfl
        refine ⟨rfl, ?_⟩
        refine run_s (ss_assign rfl) rfl ?_
        refine run_s (ss_assign rfl) rfl ?_
        refine run_nil ?_
        refine aw_seq ?_
        refine aw_gh (gh_to (n := 101) (σ' := [(75, ⟨ints second, []⟩), (73, ⟨ints first, []⟩), (47, ⟨ints (f ++ ([v16_1])), []⟩), (800, ⟨orows o800_1, []⟩)]) (env' := [(0, .c (.lst (tabs a))), (1, .c (.lst (tabs b))), (2, .c (.lst (ints f))), (3, .c (.lst (ints first))), (4, .c (.lst (ints second))), (5, .c (ci most)), (6, .ref 800), (15, .c (ci (f.length : Int))), (16, .c (ci v16_1)), (17, .ref 47), (18, .ref 73), (19, .ref 75), (39, .ref 800), (40, .c (ci (o800_1.length : Int))), (41, .c (ci most)), (42, .c (cb (decide ((o800_1.length : Int) < most)))), (55, .c (.lst (ints first))), (56, .c (ci (f.length : Int))), (57, .c (.ptr ((ints first).drop (f.length : Int).toNat))), (58, .c (ci (el first (f.length : Int)))), (59, .c (.lst (ints second))), (60, .c (ci v16_1)), (61, .c (.ptr ((ints second).drop v16_1.toNat))), (62, .c (ci (el second v16_1))), (63, .c (cb (!(decide (el first (f.length : Int) = el second v16_1))))), (66, .c (.lst (tabs a))), (67, .c (.lst (tabs b))), (68, .ref 47), (69, .c (cb (dec (conA a b (f ++ ([v16_1])))))), (70, .c (cb (!((dec (conA a b (f ++ ([v16_1])))))))), (101, .c (.lst (tabs a))), (102, .c (.lst (tabs b))), (103, .c (.lst (ints f))), (104, .c (.lst (ints first))), (105, .c (.lst (ints second))), (106, .c (ci most))]) rfl rfl ⟨rfl, rfl, rfl, rfl, rfl, rfl, rfl, rfl, rfl, rfl, rfl, rfl, rfl, rfl, rfl, rfl, rfl, rfl, rfl, rfl, rfl, rfl, rfl, rfl, rfl, rfl, rfl, rfl, rfl, rfl, rfl, rfl, rfl, rfl, rfl, rfl, trivial⟩) ?_
        refine aw_region ?_
        refine run_s (ss_move rfl) rfl ?_
        refine run_s (ss_move rfl) rfl ?_
        obtain ⟨q30, h⟩ := h
        refine run_s (ss_idxR (f := ci) rfl rfl rfl q30) rfl ?_
        refine run_w (ws_storeE rfl rfl (map_lt q30) rfl rfl (map_se (f := ci)) rfl ⟨rfl, ?_⟩)
        refine run_nil ?_
        refine aw_seq ?_
        refine aw_gh (gh_to (n := 101) (σ' := [(75, ⟨ints second, []⟩), (73, ⟨ints (se first (f.length : Int) 60), []⟩), (47, ⟨ints (f ++ ([v16_1])), []⟩), (800, ⟨orows o800_1, []⟩)]) (env' := [(0, .c (.lst (tabs a))), (1, .c (.lst (tabs b))), (2, .c (.lst (ints f))), (3, .c (.lst (ints first))), (4, .c (.lst (ints second))), (5, .c (ci most)), (6, .ref 800), (15, .c (ci (f.length : Int))), (16, .c (ci v16_1)), (17, .ref 47), (18, .ref 73), (19, .ref 75), (39, .ref 800), (40, .c (ci (o800_1.length : Int))), (41, .c (ci most)), (42, .c (cb (decide ((o800_1.length : Int) < most)))), (55, .c (.lst (ints first))), (56, .c (ci (f.length : Int))), (57, .c (.ptr ((ints first).drop (f.length : Int).toNat))), (58, .c (ci (el first (f.length : Int)))), (59, .c (.lst (ints second))), (60, .c (ci v16_1)), (61, .c (.ptr ((ints second).drop v16_1.toNat))), (62, .c (ci (el second v16_1))), (63, .c (cb (!(decide (el first (f.length : Int) = el second v16_1))))), (66, .c (.lst (tabs a))), (67, .c (.lst (tabs b))), (68, .ref 47), (69, .c (cb (dec (conA a b (f ++ ([v16_1])))))), (70, .c (cb (!((dec (conA a b (f ++ ([v16_1])))))))), (101, .c (.lst (tabs a))), (102, .c (.lst (tabs b))), (103, .c (.lst (ints f))), (104, .c (.lst (ints first))), (105, .c (.lst (ints second))), (106, .c (ci most))]) rfl rfl ⟨rfl, rfl, rfl, rfl, rfl, rfl, rfl, rfl, rfl, rfl, rfl, rfl, rfl, rfl, rfl, rfl, rfl, rfl, rfl, rfl, rfl, rfl, rfl, rfl, rfl, rfl, rfl, rfl, rfl, rfl, rfl, rfl, rfl, rfl, rfl, rfl, trivial⟩) ?_
        refine aw_region ?_
        refine run_s (ss_move rfl) rfl ?_
        refine run_s (ss_move rfl) rfl ?_
        obtain ⟨q31, h⟩ := h
        refine run_s (ss_idxR (f := ci) rfl rfl rfl q31) rfl ?_
        refine run_w (ws_storeE rfl rfl (map_lt q31) rfl rfl (map_se (f := ci)) rfl ⟨rfl, ?_⟩)
        refine run_nil ?_
        refine aw_seq ?_
        refine aw_region ?_
        refine run_s (ss_move rfl) rfl ?_
        refine run_s (ss_move rfl) rfl ?_
        refine run_s (ss_move rfl) rfl ?_
        refine run_s (ss_move rfl) rfl ?_
        refine run_gh (gh_frzE (id := 73) ci rfl (fun _ => rfl)) ?_
        refine run_gh (gh_frzE (id := 75) ci rfl (fun _ => rfl)) ?_
        obtain ⟨q32, h⟩ := h
        refine run_w (ws_call (xs := [.tmp 83, .tmp 84, .tmp 85, .tmp 86]) (ids := []) rfl rfl rfl rfl (c_spec_l03Refine a b (se first (f.length : Int) 60) (se second v16_1 60) q32) rfl ?_ )
        rintro _ ⟨r1_0, r1_1, r1_2, q33, rfl⟩
        replace h := h r1_0 r1_1 r1_2 q33
        refine ⟨rfl, ?_⟩
        refine run_s (ss_move rfl) rfl ?_
        refine run_s (ss_extract rfl rfl) rfl ?_
        refine run_s (ss_extract rfl rfl) rfl ?_
        refine run_s (ss_extract rfl rfl) rfl ?_
        refine run_s (ss_assign rfl) rfl ?_
        refine run_s (ss_assign rfl) rfl ?_
        refine run_s (ss_assign rfl) rfl ?_
        refine run_nil ?_
        refine aw_seq ?_
        refine aw_gh (gh_to (n := 101) (σ' := [(47, ⟨ints (f ++ ([v16_1])), []⟩), (800, ⟨orows o800_1, []⟩)]) (env' := [(0, .c (.lst (tabs a))), (1, .c (.lst (tabs b))), (2, .c (.lst (ints f))), (3, .c (.lst (ints first))), (4, .c (.lst (ints second))), (5, .c (ci most)), (6, .ref 800), (15, .c (ci (f.length : Int))), (16, .c (ci v16_1)), (17, .ref 47), (20, .c (.lst (ints r1_0))), (21, .c (.lst (ints r1_1))), (22, .c (cb r1_2)), (39, .ref 800), (40, .c (ci (o800_1.length : Int))), (41, .c (ci most)), (42, .c (cb (decide ((o800_1.length : Int) < most)))), (55, .c (.lst (ints first))), (56, .c (ci (f.length : Int))), (57, .c (.ptr ((ints first).drop (f.length : Int).toNat))), (58, .c (ci (el first (f.length : Int)))), (59, .c (.lst (ints second))), (60, .c (ci v16_1)), (61, .c (.ptr ((ints second).drop v16_1.toNat))), (62, .c (ci (el second v16_1))), (63, .c (cb (!(decide (el first (f.length : Int) = el second v16_1))))), (66, .c (.lst (tabs a))), (67, .c (.lst (tabs b))), (68, .ref 47), (69, .c (cb (dec (conA a b (f ++ ([v16_1])))))), (70, .c (cb (!((dec (conA a b (f ++ ([v16_1])))))))), (101, .c (.lst (tabs a))), (102, .c (.lst (tabs b))), (103, .c (.lst (ints f))), (104, .c (.lst (ints first))), (105, .c (.lst (ints second))), (106, .c (ci most))]) rfl rfl ⟨rfl, rfl, rfl, rfl, rfl, rfl, rfl, rfl, rfl, rfl, rfl, rfl, rfl, rfl, rfl, rfl, rfl, rfl, rfl, rfl, rfl, rfl, rfl, rfl, rfl, rfl, rfl, rfl, rfl, rfl, rfl, rfl, rfl, rfl, rfl, rfl, rfl, trivial⟩) ?_
        refine aw_region ?_
        refine run_s (ss_move rfl) rfl ?_
        refine run_nil ?_
        refine aw_cond rfl (fun q34 => ?_) (fun q34 => ?_)
        ·replace h := h.1 (q34)
         refine aw_region ?_
         refine run_s (ss_move rfl) rfl ?_
         refine run_s (ss_move rfl) rfl ?_
         refine run_s (ss_move rfl) rfl ?_
         refine run_s (ss_move rfl) rfl ?_
         refine run_s (ss_move rfl) rfl ?_
         refine run_s (ss_move rfl) rfl ?_
         refine run_s (ss_move rfl) rfl ?_
         refine run_gh (gh_frzE (id := 47) ci rfl (fun _ => rfl)) ?_
         obtain ⟨q35, h⟩ := h
         obtain ⟨q36, h⟩ := h
         refine run_w (ws_callC (xs := [.tmp 92, .tmp 93, .tmp 94, .tmp 95, .tmp 96, .tmp 97, .tmp 98]) (cs := [.lst (tabs a), .lst (tabs b), .lst (ints (f ++ ([v16_1]))), .lst (ints r1_0), .lst (ints r1_1), ci most, .own (orows o800_1)]) (ids := [99]) rfl rfl rfl rfl (hrec a b (f ++ ([v16_1])) r1_0 r1_1 most o800_1 q35 q36) rfl ?_ )
         rintro _ _ ⟨rfl, rfl⟩
         refine ⟨rfl, ?_⟩
         refine run_s (ss_assign rfl) rfl ?_
         refine run_nil ?_
         refine aw_gh (gh_to (n := 101) (σ' := [(99, ⟨orows (o800_1 ++ (extL a b (padM (f ++ ([v16_1])) r1_0)).take (most - (o800_1.length : Int)).toNat), []⟩)]) (env' := [(0, .c (.lst (tabs a))), (1, .c (.lst (tabs b))), (2, .c (.lst (ints f))), (3, .c (.lst (ints first))), (4, .c (.lst (ints second))), (5, .c (ci most)), (6, .ref 99), (15, .c (ci (f.length : Int))), (16, .c (ci v16_1)), (40, .c (ci (o800_1.length : Int))), (41, .c (ci most)), (42, .c (cb (decide ((o800_1.length : Int) < most)))), (55, .c (.lst (ints first))), (56, .c (ci (f.length : Int))), (57, .c (.ptr ((ints first).drop (f.length : Int).toNat))), (58, .c (ci (el first (f.length : Int)))), (59, .c (.lst (ints second))), (60, .c (ci v16_1)), (61, .c (.ptr ((ints second).drop v16_1.toNat))), (62, .c (ci (el second v16_1))), (63, .c (cb (!(decide (el first (f.length : Int) = el second v16_1))))), (66, .c (.lst (tabs a))), (67, .c (.lst (tabs b))), (68, .c (.lst (ints (f ++ ([v16_1]))))), (69, .c (cb (dec (conA a b (f ++ ([v16_1])))))), (70, .c (cb (!((dec (conA a b (f ++ ([v16_1])))))))), (101, .c (.lst (tabs a))), (102, .c (.lst (tabs b))), (103, .c (.lst (ints f))), (104, .c (.lst (ints first))), (105, .c (.lst (ints second))), (106, .c (ci most))]) rfl rfl ⟨rfl, rfl, rfl, rfl, rfl, rfl, rfl, rfl, rfl, rfl, rfl, rfl, rfl, rfl, rfl, rfl, rfl, rfl, rfl, rfl, rfl, rfl, rfl, rfl, rfl, rfl, rfl, rfl, rfl, rfl, rfl, rfl, trivial⟩) ?_
         refine aw_region ?_
         refine run_s (ss_move rfl) rfl ?_
         obtain ⟨q38, h⟩ := h
         refine run_s (ss_add rfl rfl q38) rfl ?_
         refine run_s (ss_assign rfl) rfl ?_
         refine run_nil ?_
         exact ⟨v16_1 + 1, o800_1 ++ (extL a b (padM (f ++ ([v16_1])) r1_0)).take (most - (o800_1.length : Int)).toNat, ghe_step (gh_ren (a := 99) (b := 800) rfl rfl) (ghe_to (n := 101) rfl rfl ⟨rfl, rfl, rfl, rfl, rfl, rfl, rfl, rfl, rfl, rfl, rfl, rfl, rfl, rfl, rfl, trivial⟩), h.1, h.2⟩
        ·replace h := h.2 (q34)
         refine aw_skip ?_
         refine aw_gh (gh_to (n := 101) (σ' := [(47, ⟨ints (f ++ ([v16_1])), []⟩), (800, ⟨orows o800_1, []⟩)]) (env' := [(0, .c (.lst (tabs a))), (1, .c (.lst (tabs b))), (2, .c (.lst (ints f))), (3, .c (.lst (ints first))), (4, .c (.lst (ints second))), (5, .c (ci most)), (6, .ref 800), (15, .c (ci (f.length : Int))), (16, .c (ci v16_1)), (39, .ref 800), (40, .c (ci (o800_1.length : Int))), (41, .c (ci most)), (42, .c (cb (decide ((o800_1.length : Int) < most)))), (55, .c (.lst (ints first))), (56, .c (ci (f.length : Int))), (57, .c (.ptr ((ints first).drop (f.length : Int).toNat))), (58, .c (ci (el first (f.length : Int)))), (59, .c (.lst (ints second))), (60, .c (ci v16_1)), (61, .c (.ptr ((ints second).drop v16_1.toNat))), (62, .c (ci (el second v16_1))), (63, .c (cb (!(decide (el first (f.length : Int) = el second v16_1))))), (66, .c (.lst (tabs a))), (67, .c (.lst (tabs b))), (68, .ref 47), (69, .c (cb (dec (conA a b (f ++ ([v16_1])))))), (70, .c (cb (!((dec (conA a b (f ++ ([v16_1])))))))), (101, .c (.lst (tabs a))), (102, .c (.lst (tabs b))), (103, .c (.lst (ints f))), (104, .c (.lst (ints first))), (105, .c (.lst (ints second))), (106, .c (ci most))]) rfl rfl ⟨rfl, rfl, rfl, rfl, rfl, rfl, rfl, rfl, rfl, rfl, rfl, rfl, rfl, rfl, rfl, rfl, rfl, rfl, rfl, rfl, rfl, rfl, rfl, rfl, rfl, rfl, rfl, rfl, rfl, rfl, rfl, rfl, rfl, trivial⟩) ?_
         refine aw_region ?_
         refine run_s (ss_move rfl) rfl ?_
         obtain ⟨q39, h⟩ := h
         refine run_s (ss_add rfl rfl q39) rfl ?_
         refine run_s (ss_assign rfl) rfl ?_
         refine run_nil ?_
         exact ⟨v16_1 + 1, o800_1, ghe_step (gh_frzE (id := 47) ci rfl (fun _ => rfl)) (ghe_to (n := 101) rfl rfl ⟨rfl, rfl, rfl, rfl, rfl, rfl, rfl, rfl, rfl, rfl, rfl, rfl, rfl, rfl, rfl, trivial⟩), h.1, h.2⟩
    ·replace h := h.2 (of_decide_eq_false q7)
     refine aw_exit ?_
     refine aw_seq ?_
     refine aw_gh (gh_to (n := 101) (σ' := [(800, ⟨orows o800_1, []⟩)]) (env' := [(6, .ref 800), (101, .c (.lst (tabs a))), (102, .c (.lst (tabs b))), (103, .c (.lst (ints f))), (104, .c (.lst (ints first))), (105, .c (.lst (ints second))), (106, .c (ci most))]) rfl rfl ⟨rfl, rfl, rfl, rfl, rfl, rfl, rfl, trivial⟩) ?_
     refine aw_region ?_
     refine run_s (ss_move rfl) rfl ?_
     refine run_s (ss_assign rfl) rfl ?_
     refine run_nil ?_
     refine aw_ret ?_
     exact retAM_mk (retv1 rfl (rv_tmp rfl)) rfl rfl rfl ⟨_, h, rfl, rfl⟩
   ·replace h := h.2 (of_decide_eq_false q6)
    refine run_gf rfl rfl q6 rfl ?_
    refine run_gf rfl rfl q6 rfl ?_
    refine run_gf rfl rfl q6 rfl ?_
    refine run_gf rfl rfl q6 rfl ?_
    refine run_s (ss_pickF rfl q6 rfl) rfl ?_
    refine run_nil ?_
    refine aw_cond rfl (fun q40 => ?_) (fun q40 => ?_)
    ·cases q40
    ·skip
     refine aw_exit ?_
     refine aw_seq ?_
     refine aw_gh (gh_to (n := 101) (σ' := [(800, ⟨orows o800_1, []⟩)]) (env' := [(6, .ref 800), (101, .c (.lst (tabs a))), (102, .c (.lst (tabs b))), (103, .c (.lst (ints f))), (104, .c (.lst (ints first))), (105, .c (.lst (ints second))), (106, .c (ci most))]) rfl rfl ⟨rfl, rfl, rfl, rfl, rfl, rfl, rfl, trivial⟩) ?_
     refine aw_region ?_
     refine run_s (ss_move rfl) rfl ?_
     refine run_s (ss_assign rfl) rfl ?_
     refine run_nil ?_
     refine aw_ret ?_
     exact retAM_mk (retv1 rfl (rv_tmp rfl)) rfl rfl rfl ⟨_, h, rfl, rfl⟩

theorem c_spec_l03Seek : ∀ (a : List (List (List Int))) (b : List (List (List Int))) (f : List Int) (first : List Int) (second : List Int) (most : Int) (out : List (List Int)), (SkD a b f first second most out) → AM Try.prog 39 [.lst (tabs a), .lst (tabs b), .lst (ints f), .lst (ints first), .lst (ints second), ci most, .own (orows out)] (fun R_ O_ => R_ = .own (orows (out ++ (extL a b (padM f first)).take (most - (out.length : Int)).toNat)) ∧ O_ = [.lst (tabs a), .lst (tabs b), .lst (ints f), .lst (ints first), .lst (ints second), ci most, .hole]) := by
  have key : ∀ (k_ : Nat) (a : List (List (List Int))) (b : List (List (List Int))) (f : List Int) (first : List Int) (second : List Int) (most : Int) (out : List (List Int)), ((el a 0).length - f.length) ≤ k_ → (SkD a b f first second most out) → AM Try.prog 39 [.lst (tabs a), .lst (tabs b), .lst (ints f), .lst (ints first), .lst (ints second), ci most, .own (orows out)] (fun R_ O_ => R_ = .own (orows (out ++ (extL a b (padM f first)).take (most - (out.length : Int)).toNat)) ∧ O_ = [.lst (tabs a), .lst (tabs b), .lst (ints f), .lst (ints first), .lst (ints second), ci most, .hole]) := by
    intro k_; induction k_ with
    | zero => intro a b f first second most out hn hp; exact (w_spec_l03Seek a b f first second most out (fun y0 => y0 = out ++ (extL a b (padM f first)).take (most - (out.length : Int)).toNat) (fun _ _ _ _ _ _ _ hlt => absurd hlt (by omega)) (p_spec_l03Seek a b f first second most out hp)).mono (by rintro r o ⟨_, rfl, rfl, rfl⟩; exact ⟨rfl, rfl⟩)
    | succ k_ ih => intro a b f first second most out hn hp; exact (w_spec_l03Seek a b f first second most out (fun y0 => y0 = out ++ (extL a b (padM f first)).take (most - (out.length : Int)).toNat) (fun a' b' f' first' second' most' out' hlt => ih a' b' f' first' second' most' out' (by omega)) (p_spec_l03Seek a b f first second most out hp)).mono (by rintro r o ⟨_, rfl, rfl, rfl⟩; exact ⟨rfl, rfl⟩)
  exact fun a b f first second most out => key _ a b f first second most out (Nat.le_refl _)

set_option maxRecDepth 100000 in
set_option maxHeartbeats 4000000 in
theorem w_spec_l03Maps (a : List (List (List Int))) (b : List (List (List Int))) (f : List Int) (most : Int) (Q : List (List Int) → Prop) (h : wp_spec_l03Maps a b f most Q) : AF Try.prog 22 [.lst (tabs a), .lst (tabs b), .lst (ints f), ci most] (fun R_ => ∃ y0, Q y0 ∧ R_ = .lst (rows y0)) := by
  refine AF.ofWQ (af_enter (n := 63) Try.func22 rfl (by rfl) rfl (Nat.le_of_ble_eq_true rfl) ?_)
  unfold wp_spec_l03Maps at h
  refine aw_seq ?_
  refine aw_gh (gh_to (n := 63) (σ' := []) (env' := [(0, .c (.lst (tabs a))), (1, .c (.lst (tabs b))), (2, .c (.lst (ints f))), (3, .c (ci most))]) rfl rfl ⟨rfl, rfl, rfl, rfl, trivial⟩) ?_
  refine aw_region ?_
  refine run_s (ss_assign rfl) rfl ?_
  refine run_nil ?_
  refine aw_seq ?_
  refine aw_seq ?_
  refine aw_gh (gh_to (n := 63) (σ' := []) (env' := [(0, .c (.lst (tabs a))), (1, .c (.lst (tabs b))), (2, .c (.lst (ints f))), (3, .c (ci most))]) rfl rfl ⟨rfl, rfl, rfl, rfl, trivial⟩) ?_
  refine aw_regionD (kd := kdl [0, 0, 1, 0, 0, 0, 1, 0, 0]) (ord := [0, 1, 4, 5, 2, 3, 6, 7, 8]) [] mixed (by kernel_rfl) ?_
  refine rd_s rfl rfl trivial (ss_move rfl) rfl ?_
  obtain ⟨q1, h⟩ := h
  refine rd_s rfl rfl trivial (ss_idxL rfl rfl q1) rfl ?_
  refine rd_s rfl rfl trivial (ss_move rfl) rfl ?_
  obtain ⟨q2, h⟩ := h
  refine rd_s rfl rfl trivial (ss_idxL rfl rfl q2) rfl ?_
  refine rd_l rfl rfl trivial (ss_loadL (f := (fun r => C.lst (rows r))) rfl q1) rfl ?_
  refine rd_s rfl rfl trivial (ss_lenL (f := (fun r => C.lst (ints r))) rfl) rfl ?_
  refine rd_l rfl rfl trivial (ss_loadL (f := (fun r => C.lst (rows r))) rfl q2) rfl ?_
  refine rd_s rfl rfl trivial (ss_lenL (f := (fun r => C.lst (ints r))) rfl) rfl ?_
  refine rd_s rfl rfl trivial (ss_neq rfl rfl) rfl ?_
  refine rd_nil ?_
  refine aw_cond rfl (fun q3 => ?_) (fun q3 => ?_)
  ·replace h := h.1 (of_decide_eq_false (bnot_t q3))
   refine aw_seq ?_
   refine aw_gh (gh_to (n := 63) (σ' := []) (env' := []) rfl rfl trivial) ?_
   refine aw_region ?_
   refine run_s (ss_assign rfl) rfl ?_
   refine run_nil ?_
   refine aw_ret ?_
   exact retAF_mk (retv1 rfl (rv_tmp rfl)) rfl rfl ⟨_, cle_nilL, _, h, rfl⟩
  ·replace h := h.2 (of_decide_eq_true (bnot_f q3))
   refine aw_skip ?_
   refine aw_seq ?_
   refine aw_gh (gh_to (n := 63) (σ' := []) (env' := [(0, .c (.lst (tabs a))), (1, .c (.lst (tabs b))), (2, .c (.lst (ints f))), (3, .c (ci most))]) rfl rfl ⟨rfl, rfl, rfl, rfl, trivial⟩) ?_
   refine aw_regionT (kd := kdl [0, 0, 1, 0, 2, 0, 0, 1, 0, 2, 0, 0]) (t := (.one 0 (.one 1 (.one 5 (.one 6 (.one 2 (.one 3 (.one 7 (.one 8 (.br (.one 4 (.one 10 (.one 9 (.one 11 .nil)))) (.one 9 (.one 4 (.one 10 (.one 11 .nil)))))))))))))) [] mixed (by kernel_rfl) ?_
   obtain ⟨q4, h⟩ := h
   obtain ⟨q5, h⟩ := h
   obtain ⟨q6, h⟩ := h
   obtain ⟨q7, h⟩ := h
   refine rt_share (S := ⟨[(27, ⟨ints (List.replicate ((el a 0).length : Int).toNat (0 : Int)), []⟩), (32, ⟨ints (List.replicate ((el a 0).length : Int).toNat (0 : Int)), []⟩)], [(0, .c (.lst (tabs a))), (1, .c (.lst (tabs b))), (2, .c (.lst (ints f))), (3, .c (ci most)), (9, .ref 27), (10, .ref 32)], 63⟩) ?_ (fun hk => ?_)
   ·skip
    refine aw_seq ?_
    refine aw_seq ?_
    refine aw_region ?_
    refine run_s (ss_move rfl) rfl ?_
    refine run_s (ss_lenL (f := ci) rfl) rfl ?_
    refine run_s (ss_gtr rfl rfl) rfl ?_
    refine run_nil ?_
    refine aw_cond rfl (fun q8 => ?_) (fun q8 => ?_)
    ·replace h := h.1 (of_decide_eq_true q8)
     refine aw_seq ?_
     refine aw_seq ?_
     refine aw_region ?_
     refine run_s (ss_move rfl) rfl ?_
     refine run_s (ss_move rfl) rfl ?_
     refine run_s (ss_move rfl) rfl ?_
     obtain ⟨q9, h⟩ := h
     refine run_w (ws_call (xs := [.tmp 36, .tmp 37, .tmp 38]) (ids := []) rfl rfl rfl rfl (c_spec_l03Fits a b f q9) rfl ?_ )
     rintro _ rfl
     refine ⟨rfl, ?_⟩
     refine run_s (ss_not rfl) rfl ?_
     refine run_nil ?_
     refine aw_cond rfl (fun q11 => ?_) (fun q11 => ?_)
     ·replace h := h.1 ((bnot_t q11))
      refine aw_seq ?_
      refine aw_gh (gh_to (n := 63) (σ' := [(27, ⟨ints (List.replicate ((el a 0).length : Int).toNat (0 : Int)), []⟩), (32, ⟨ints (List.replicate ((el a 0).length : Int).toNat (0 : Int)), []⟩)]) (env' := []) rfl rfl trivial) ?_
      refine aw_region ?_
      refine run_s (ss_assign rfl) rfl ?_
      refine run_nil ?_
      refine aw_ret ?_
      exact retAF_mk (retv1 rfl (rv_tmp rfl)) rfl rfl ⟨_, cle_nilL, _, h, rfl⟩
     ·replace h := h.2 ((bnot_f q11))
      refine aw_skip ?_
      refine aw_seq ?_
      refine aw_gh (gh_to (n := 63) (σ' := [(27, ⟨ints (List.replicate ((el a 0).length : Int).toNat (0 : Int)), []⟩), (32, ⟨ints (List.replicate ((el a 0).length : Int).toNat (0 : Int)), []⟩)]) (env' := [(0, .c (.lst (tabs a))), (1, .c (.lst (tabs b))), (2, .c (.lst (ints f))), (3, .c (ci most)), (9, .ref 27), (10, .ref 32)]) rfl rfl ⟨rfl, rfl, rfl, rfl, rfl, rfl, trivial⟩) ?_
      refine aw_region ?_
      refine run_s (ss_move rfl) rfl ?_
      obtain ⟨q12, h⟩ := h
      refine run_s (ss_idxR (f := ci) rfl rfl rfl q12) rfl ?_
      refine run_w (ws_storeE rfl rfl (map_lt q12) rfl rfl (map_se (f := ci)) rfl ⟨rfl, ?_⟩)
      refine run_nil ?_
      refine aw_region ?_
      refine run_s (ss_move rfl) rfl ?_
      obtain ⟨q13, h⟩ := h
      refine run_s (ss_idxR (f := ci) rfl rfl rfl q13) rfl ?_
      refine run_w (ws_storeE rfl rfl (map_lt q13) rfl rfl (map_se (f := ci)) rfl ⟨rfl, ?_⟩)
      refine run_nil ?_
      refine aw_seq ?_
      refine aw_region ?_
      refine run_s (ss_move rfl) rfl ?_
      refine run_s (ss_move rfl) rfl ?_
      refine run_s (ss_move rfl) rfl ?_
      refine run_s (ss_move rfl) rfl ?_
      refine run_gh (gh_frzE (id := 27) ci rfl (fun _ => rfl)) ?_
      refine run_gh (gh_frzE (id := 32) ci rfl (fun _ => rfl)) ?_
      obtain ⟨q14, h⟩ := h
      refine run_w (ws_call (xs := [.tmp 46, .tmp 47, .tmp 48, .tmp 49]) (ids := []) rfl rfl rfl rfl (c_spec_l03Refine a b (se (List.replicate ((el a 0).length : Int).toNat (0 : Int)) 0 60) (se (List.replicate ((el a 0).length : Int).toNat (0 : Int)) 0 60) q14) rfl ?_ )
      rintro _ ⟨r1_0, r1_1, r1_2, q15, rfl⟩
      replace h := h r1_0 r1_1 r1_2 q15
      refine ⟨rfl, ?_⟩
      refine run_s (ss_move rfl) rfl ?_
      refine run_s (ss_extract rfl rfl) rfl ?_
      refine run_s (ss_extract rfl rfl) rfl ?_
      refine run_s (ss_extract rfl rfl) rfl ?_
      refine run_s (ss_assign rfl) rfl ?_
      refine run_s (ss_assign rfl) rfl ?_
      refine run_s (ss_assign rfl) rfl ?_
      refine run_nil ?_
      refine aw_seq ?_
      refine aw_seq ?_
      refine aw_gh (gh_to (n := 63) (σ' := []) (env' := [(0, .c (.lst (tabs a))), (1, .c (.lst (tabs b))), (2, .c (.lst (ints f))), (3, .c (ci most)), (11, .c (.lst (ints r1_0))), (12, .c (.lst (ints r1_1))), (13, .c (cb r1_2))]) rfl rfl ⟨rfl, rfl, rfl, rfl, rfl, rfl, rfl, trivial⟩) ?_
      refine aw_region ?_
      refine run_s (ss_move rfl) rfl ?_
      refine run_s (ss_not rfl) rfl ?_
      refine run_nil ?_
      refine aw_cond rfl (fun q16 => ?_) (fun q16 => ?_)
      ·replace h := h.1 ((bnot_t q16))
       refine aw_seq ?_
       refine aw_gh (gh_to (n := 63) (σ' := []) (env' := []) rfl rfl trivial) ?_
       refine aw_region ?_
       refine run_s (ss_assign rfl) rfl ?_
       refine run_nil ?_
       refine aw_ret ?_
       exact retAF_mk (retv1 rfl (rv_tmp rfl)) rfl rfl ⟨_, cle_nilL, _, h, rfl⟩
      ·replace h := h.2 ((bnot_f q16))
       refine aw_skip ?_
       refine aw_seq ?_
       refine aw_region ?_
       refine run_s (ss_move rfl) rfl ?_
       refine run_s (ss_move rfl) rfl ?_
       refine run_s (ss_move rfl) rfl ?_
       refine run_s (ss_move rfl) rfl ?_
       refine run_s (ss_move rfl) rfl ?_
       refine run_s (ss_move rfl) rfl ?_
       obtain ⟨q17, h⟩ := h
       refine run_w (ws_callC (xs := [.tmp 56, .tmp 57, .tmp 58, .tmp 59, .tmp 60, .tmp 61, .const (.slice none 0 0)]) (cs := [.lst (tabs a), .lst (tabs b), .lst (ints f), .lst (ints r1_0), .lst (ints r1_1), ci most, cnil]) (ids := [62]) rfl rfl rfl rfl (AM.weak (c_spec_l03Seek a b f r1_0 r1_1 most ([] : List (List Int)) q17) (cleL_cons (cle_refl _) (cleL_cons (cle_refl _) (cleL_cons (cle_refl _) (cleL_cons (cle_refl _) (cleL_cons (cle_refl _) (cleL_cons (cle_refl _) (cleL_cons cle_nilO cleL_nil)))))))) rfl ?_ )
       rintro _ _ ⟨rfl, rfl⟩
       refine ⟨rfl, ?_⟩
       refine run_s (ss_assign rfl) rfl ?_
       refine run_nil ?_
       refine aw_gh (gh_frzE (id := 62) (fun r => C.lst (ints r)) rfl (fun _ => (fz_own (fz_map (fun _ => rfl) _)))) ?_
       refine aw_ret ?_
       exact retAF_mk (retv1 rfl (rv_tmp rfl)) rfl rfl ⟨_, (cle_refl _), _, h, rfl⟩
    ·replace h := h.2 (of_decide_eq_false q8)
     refine aw_skip ?_
     refine aw_seq ?_
     refine aw_region ?_
     refine run_s (ss_move rfl) rfl ?_
     refine run_s (ss_move rfl) rfl ?_
     refine run_s (ss_move rfl) rfl ?_
     refine run_s (ss_move rfl) rfl ?_
     refine run_gh (gh_frzE (id := 27) ci rfl (fun _ => rfl)) ?_
     refine run_gh (gh_frzE (id := 32) ci rfl (fun _ => rfl)) ?_
     obtain ⟨q19, h⟩ := h
     refine run_w (ws_call (xs := [.tmp 46, .tmp 47, .tmp 48, .tmp 49]) (ids := []) rfl rfl rfl rfl (c_spec_l03Refine a b (List.replicate ((el a 0).length : Int).toNat (0 : Int)) (List.replicate ((el a 0).length : Int).toNat (0 : Int)) q19) rfl ?_ )
     rintro _ ⟨r2_0, r2_1, r2_2, q20, rfl⟩
     replace h := h r2_0 r2_1 r2_2 q20
     refine ⟨rfl, ?_⟩
     refine run_s (ss_move rfl) rfl ?_
     refine run_s (ss_extract rfl rfl) rfl ?_
     refine run_s (ss_extract rfl rfl) rfl ?_
     refine run_s (ss_extract rfl rfl) rfl ?_
     refine run_s (ss_assign rfl) rfl ?_
     refine run_s (ss_assign rfl) rfl ?_
     refine run_s (ss_assign rfl) rfl ?_
     refine run_nil ?_
     refine aw_seq ?_
     refine aw_seq ?_
     refine aw_gh (gh_to (n := 63) (σ' := []) (env' := [(0, .c (.lst (tabs a))), (1, .c (.lst (tabs b))), (2, .c (.lst (ints f))), (3, .c (ci most)), (11, .c (.lst (ints r2_0))), (12, .c (.lst (ints r2_1))), (13, .c (cb r2_2))]) rfl rfl ⟨rfl, rfl, rfl, rfl, rfl, rfl, rfl, trivial⟩) ?_
     refine aw_region ?_
     refine run_s (ss_move rfl) rfl ?_
     refine run_s (ss_not rfl) rfl ?_
     refine run_nil ?_
     refine aw_cond rfl (fun q21 => ?_) (fun q21 => ?_)
     ·replace h := h.1 ((bnot_t q21))
      refine aw_seq ?_
      refine aw_gh (gh_to (n := 63) (σ' := []) (env' := []) rfl rfl trivial) ?_
      refine aw_region ?_
      refine run_s (ss_assign rfl) rfl ?_
      refine run_nil ?_
      refine aw_ret ?_
      exact retAF_mk (retv1 rfl (rv_tmp rfl)) rfl rfl ⟨_, cle_nilL, _, h, rfl⟩
     ·replace h := h.2 ((bnot_f q21))
      refine aw_skip ?_
      refine aw_seq ?_
      refine aw_region ?_
      refine run_s (ss_move rfl) rfl ?_
      refine run_s (ss_move rfl) rfl ?_
      refine run_s (ss_move rfl) rfl ?_
      refine run_s (ss_move rfl) rfl ?_
      refine run_s (ss_move rfl) rfl ?_
      refine run_s (ss_move rfl) rfl ?_
      obtain ⟨q22, h⟩ := h
      refine run_w (ws_callC (xs := [.tmp 56, .tmp 57, .tmp 58, .tmp 59, .tmp 60, .tmp 61, .const (.slice none 0 0)]) (cs := [.lst (tabs a), .lst (tabs b), .lst (ints f), .lst (ints r2_0), .lst (ints r2_1), ci most, cnil]) (ids := [62]) rfl rfl rfl rfl (AM.weak (c_spec_l03Seek a b f r2_0 r2_1 most ([] : List (List Int)) q22) (cleL_cons (cle_refl _) (cleL_cons (cle_refl _) (cleL_cons (cle_refl _) (cleL_cons (cle_refl _) (cleL_cons (cle_refl _) (cleL_cons (cle_refl _) (cleL_cons cle_nilO cleL_nil)))))))) rfl ?_ )
      rintro _ _ ⟨rfl, rfl⟩
      refine ⟨rfl, ?_⟩
      refine run_s (ss_assign rfl) rfl ?_
      refine run_nil ?_
      refine aw_gh (gh_frzE (id := 62) (fun r => C.lst (ints r)) rfl (fun _ => (fz_own (fz_map (fun _ => rfl) _)))) ?_
      refine aw_ret ?_
      exact retAF_mk (retv1 rfl (rv_tmp rfl)) rfl rfl ⟨_, (cle_refl _), _, h, rfl⟩
   ·skip
    refine rt_s rfl rfl trivial (ss_move rfl) rfl ?_
    refine rt_s rfl rfl trivial (ss_idxL rfl rfl q4) rfl ?_
    refine rt_s rfl rfl trivial (ss_move rfl) rfl ?_
    refine rt_s rfl rfl trivial (ss_idxL rfl rfl q5) rfl ?_
    refine rt_l rfl rfl trivial (ss_loadL (f := (fun r => C.lst (rows r))) rfl q4) rfl ?_
    refine rt_s rfl rfl trivial (ss_lenL (f := (fun r => C.lst (ints r))) rfl) rfl ?_
    refine rt_l rfl rfl trivial (ss_loadL (f := (fun r => C.lst (rows r))) rfl q5) rfl ?_
    refine rt_s rfl rfl trivial (ss_lenL (f := (fun r => C.lst (ints r))) rfl) rfl ?_
    refine rt_br ?_ ?_
    ·skip
     refine rt_w rfl rfl trivial rfl rfl (ws_mk (id := 27) ci (0 : Int) rfl rfl rfl q6 (Nat.le_of_ble_eq_true rfl) rfl ⟨rfl, ?_⟩)
     refine rt_s rfl rfl trivial (ss_assign rfl) rfl ?_
     refine rt_w rfl rfl trivial rfl rfl (ws_mk (id := 32) ci (0 : Int) rfl rfl rfl q7 (Nat.le_of_ble_eq_true rfl) rfl ⟨rfl, ?_⟩)
     refine rt_s rfl rfl trivial (ss_assign rfl) rfl ?_
     exact rt_end (ghe_step (gh_to (n := 63) (σ' := [(32, ⟨ints (List.replicate ((el a 0).length : Int).toNat (0 : Int)), []⟩), (27, ⟨ints (List.replicate ((el a 0).length : Int).toNat (0 : Int)), []⟩)]) (env' := [(0, .c (.lst (tabs a))), (1, .c (.lst (tabs b))), (2, .c (.lst (ints f))), (3, .c (ci most)), (9, .ref 27), (10, .ref 32)]) rfl rfl ⟨rfl, rfl, rfl, rfl, rfl, rfl, trivial⟩) (ghe_step (gh_sort _) (ghe_to (n := 63) (σ' := [(27, ⟨ints (List.replicate ((el a 0).length : Int).toNat (0 : Int)), []⟩), (32, ⟨ints (List.replicate ((el a 0).length : Int).toNat (0 : Int)), []⟩)]) (env' := [(0, .c (.lst (tabs a))), (1, .c (.lst (tabs b))), (2, .c (.lst (ints f))), (3, .c (ci most)), (9, .ref 27), (10, .ref 32)]) rfl rfl ⟨rfl, rfl, rfl, rfl, rfl, rfl, trivial⟩))) hk
    refine rt_w rfl rfl trivial rfl rfl (ws_mk (id := 32) ci (0 : Int) rfl rfl rfl q6 (Nat.le_of_ble_eq_true rfl) rfl ⟨rfl, ?_⟩)
    refine rt_w rfl rfl trivial rfl rfl (ws_mk (id := 27) ci (0 : Int) rfl rfl rfl q7 (Nat.le_of_ble_eq_true rfl) rfl ⟨rfl, ?_⟩)
    refine rt_s rfl rfl trivial (ss_assign rfl) rfl ?_
    refine rt_s rfl rfl trivial (ss_assign rfl) rfl ?_
    exact rt_end (ghe_step (gh_to (n := 63) (σ' := [(27, ⟨ints (List.replicate ((el a 0).length : Int).toNat (0 : Int)), []⟩), (32, ⟨ints (List.replicate ((el a 0).length : Int).toNat (0 : Int)), []⟩)]) (env' := [(0, .c (.lst (tabs a))), (1, .c (.lst (tabs b))), (2, .c (.lst (ints f))), (3, .c (ci most)), (9, .ref 27), (10, .ref 32)]) rfl rfl ⟨rfl, rfl, rfl, rfl, rfl, rfl, trivial⟩) (ghe_step (gh_sort _) (ghe_to (n := 63) (σ' := [(27, ⟨ints (List.replicate ((el a 0).length : Int).toNat (0 : Int)), []⟩), (32, ⟨ints (List.replicate ((el a 0).length : Int).toNat (0 : Int)), []⟩)]) (env' := [(0, .c (.lst (tabs a))), (1, .c (.lst (tabs b))), (2, .c (.lst (ints f))), (3, .c (ci most)), (9, .ref 27), (10, .ref 32)]) rfl rfl ⟨rfl, rfl, rfl, rfl, rfl, rfl, trivial⟩))) hk

theorem c_spec_l03Maps (a : List (List (List Int))) (b : List (List (List Int))) (f : List Int) (most : Int) (hp : f = [] ∧ TabsP a ∧ TabsP b ∧ a.length = b.length ∧ 1 ≤ most ∧ most ≤ 1000000) : AF Try.prog 22 [.lst (tabs a), .lst (tabs b), .lst (ints f), ci most] (fun R_ => R_ = .lst (rows ((isoL a b).take most.toNat))) :=
  (w_spec_l03Maps a b f most (fun y0 => y0 = (isoL a b).take most.toNat) (p_spec_l03Maps a b f most hp)).mono (by rintro r ⟨_, rfl, rfl⟩; rfl)

def wp_impl_RackIsomorphism (r : List (List Int)) (s : List (List Int)) (Q : List Int → Int → Prop) : Prop :=
 (small2 r) ∧
 (((isRk r) = false →
 Q ([]) 1) ∧
 ((isRk r) = true →
 (small2 s) ∧
 (((isRk s) = false →
 Q ([]) 1) ∧
 ((isRk s) = true →
 (TabsP ([r]) ∧ TabsP ([s]) ∧ ([r]).length = ([s]).length ∧ 1 ≤ ([r]).length) ∧
 ∃ (H1 : Nat → Unit → Prop), H1 0 () ∧
 ((∀ (k1 : Nat) (u1_ : Unit) (e1 : List Int), (isoL ([r]) ([s]))[k1]? = some e1 → H1 k1 u1_ →
 (small e1) ∧
 Q e1 0) ∧
 (∀ (u1_ : Unit), H1 (isoL ([r]) ([s])).length u1_ →
 Q ([]) 4))))))

def wp_spec_RackIsomorphism (r : List (List Int)) (s : List (List Int)) (Q : List Int → Int → Prop) : Prop :=
 (small2 r) ∧
 (((isRk r) = false →
 Q ([]) 1) ∧
 ((isRk r) = true →
 (small2 s) ∧
 (((isRk s) = false →
 Q ([]) 1) ∧
 ((isRk s) = true →
 (((r.length : Int) = (s.length : Int) →
 (([] : List Int) = [] ∧ TabsP ([r]) ∧ TabsP ([s]) ∧ ([r]).length = ([s]).length ∧ 1 ≤ (1 : Int) ∧ (1 : Int) ≤ 1000000) ∧
 (((((isoL ([r]) ([s])).take (1 : Int).toNat).length : Int) = 0 →
 Q ([]) 4) ∧
 (¬ ((((isoL ([r]) ([s])).take (1 : Int).toNat).length : Int) = 0) →
 ((0 : Int) ≤ 0 ∧ 0 < (((isoL ([r]) ([s])).take (1 : Int).toNat).length : Int)) ∧
 Q (el ((isoL ([r]) ([s])).take (1 : Int).toNat) 0) 0))) ∧
 (¬ ((r.length : Int) = (s.length : Int)) →
 (((([] : List (List Int)).length : Int) = 0 →
 Q ([]) 4) ∧
 (¬ ((([] : List (List Int)).length : Int) = 0) →
 ((0 : Int) ≤ 0 ∧ 0 < (([] : List (List Int)).length : Int)) ∧
 Q (el ([] : List (List Int)) 0) 0))))))))

theorem ris_no {r s : List (List Int)} (h : ¬ (isRk r = true ∧ isRk s = true)) : RisT r s = [] ∧ RisE r s = 1 := by
  have e : RisE r s = 1 := by unfold RisE; rw [if_neg h]
  exact ⟨by unfold RisT; rw [e]; rfl, e⟩
theorem ris_nil {r s : List (List Int)} (h1 : isRk r = true) (h2 : isRk s = true) (h : isoL [r] [s] = []) : RisT r s = [] ∧ RisE r s = 4 := by
  have e : RisE r s = 4 := by unfold RisE; rw [if_pos ⟨h1, h2⟩, if_pos h]
  exact ⟨by unfold RisT; rw [e]; rfl, e⟩
theorem ris_some {r s : List (List Int)} (h1 : isRk r = true) (h2 : isRk s = true) (h : isoL [r] [s] ≠ []) : RisT r s = el (isoL [r] [s]) 0 ∧ RisE r s = 0 := by
  have e : RisE r s = 0 := by unfold RisE; rw [if_pos ⟨h1, h2⟩, if_neg h]
  exact ⟨by unfold RisT; rw [e]; rfl, e⟩
theorem iso_first {r s : List (List Int)} (ht : isTab r = true) {k : Nat} {e : List Int} (hk : k = 0) (he : (isoL [r] [s])[k]? = some e) : isoL [r] [s] ≠ [] ∧ e = el (isoL [r] [s]) 0 ∧ small e := by
  subst hk
  have hm := isoL_mem (List.mem_of_getElem? he)
  have hl : e.length = r.length := hm.1
  have := isTab_len ht
  refine ⟨fun h => by rw [h] at he; simp at he, ?_, by show (e.length : Int) ≤ 1000000000; omega⟩
  unfold el; rw [List.getD_eq_getElem?_getD, show (0 : Int).toNat = 0 from rfl, he]; rfl
theorem p_impl_RackIsomorphism (r s : List (List Int)) (hp : small2 r ∧ small2 s) : wp_impl_RackIsomorphism r s (fun y0 y1 => y0 = RisT r s ∧ y1 = RisE r s) := by
  unfold wp_impl_RackIsomorphism
  refine ⟨hp.1, fun h => ?_, fun h1 => ⟨hp.2, fun h => ?_, fun h2 => ⟨⟨tabs1 (isRk_tab h1), tabs1 (isRk_tab h2), rfl, by simp⟩, fun k _ => k = 0, rfl, fun k _ e he hk => ?_, fun _ hk => ?_⟩⟩⟩
  · have := ris_no (r := r) (s := s) fun k => by rw [h] at k; exact absurd k.1 (by simp)
    exact ⟨this.1.symm, this.2.symm⟩
  · have := ris_no (r := r) (s := s) fun k => by rw [h] at k; exact absurd k.2 (by simp)
    exact ⟨this.1.symm, this.2.symm⟩
  · obtain ⟨g1, g2, g3⟩ := iso_first (isRk_tab h1) hk he
    have := ris_some h1 h2 g1
    exact ⟨g3, by rw [this.1]; exact g2, this.2.symm⟩
  · have := ris_nil h1 h2 (List.eq_nil_of_length_eq_zero hk)
    exact ⟨this.1.symm, this.2.symm⟩
theorem p_spec_RackIsomorphism (r s : List (List Int)) (hp : small2 r ∧ small2 s) : wp_spec_RackIsomorphism r s (fun y0 y1 => y0 = RisT r s ∧ y1 = RisE r s) := by
  unfold wp_spec_RackIsomorphism
  refine ⟨hp.1, fun h => ?_, fun h1 => ⟨hp.2, fun h => ?_, fun h2 => ⟨fun he => ⟨⟨rfl, tabs1 (isRk_tab h1), tabs1 (isRk_tab h2), rfl, by omega, by omega⟩, fun h0 => ?_, fun h0 => ?_⟩, fun hne => ⟨fun _ => ?_, fun h0 => absurd (by simp) h0⟩⟩⟩⟩
  · have := ris_no (r := r) (s := s) fun k => by rw [h] at k; exact absurd k.1 (by simp)
    exact ⟨this.1.symm, this.2.symm⟩
  · have := ris_no (r := r) (s := s) fun k => by rw [h] at k; exact absurd k.2 (by simp)
    exact ⟨this.1.symm, this.2.symm⟩
  · have := ris_nil h1 h2 (take1.1.1 h0)
    exact ⟨this.1.symm, this.2.symm⟩
  · have hne : isoL [r] [s] ≠ [] := fun h => h0 (take1.1.2 h)
    have := ris_some h1 h2 hne
    exact ⟨⟨by omega, by omega⟩, by rw [this.1]; exact take1.2 hne, this.2.symm⟩
  · have := ris_nil h1 h2 (isoL_ne (a := [r]) (b := [s]) hne)
    exact ⟨this.1.symm, this.2.symm⟩
theorem c_impl_isomorphisms (ta tb : List (List (List Int))) (_hp : TabsP ta ∧ TabsP tb ∧ ta.length = tb.length ∧ 1 ≤ ta.length) : AF Try.prog 25 [.lst (tabs ta), .lst (tabs tb)] (fun R_ => R_ = .clo 44 [.ptr [.lst (tabs ta)], .ptr [.lst (tabs tb)]]) := by
  refine af_enter (n := 6) Try.func25 rfl (by rfl) rfl (Nat.le_of_ble_eq_true rfl) ?_
  refine aw_seq ?_
  refine aw_gh (gh_to (n := 6) (σ' := []) (env' := [(0, .c (.lst (tabs ta))), (1, .c (.lst (tabs tb)))]) rfl rfl ⟨rfl, rfl, trivial⟩) ?_
  refine aw_region ?_
  refine run_w (ws_boxR rfl (.inr rfl) rfl ⟨rfl, ?_⟩)
  refine run_w (ws_boxR rfl (.inr rfl) rfl ⟨rfl, ?_⟩)
  refine run_s (ss_assign rfl) rfl ?_
  refine run_nil ?_
  refine aw_seq ?_
  refine aw_region ?_
  refine run_s (ss_makeFunc (os := [.tmp 2, .tmp 3]) rfl) rfl ?_
  refine run_s (ss_assign rfl) rfl ?_
  refine run_nil ?_
  refine aw_ret ?_
  exact retAF_mk (retv1 rfl (rv_tmp rfl)) rfl rfl rfl



set_option maxRecDepth 100000 in
set_option maxHeartbeats 4000000 in
theorem w_impl_RackIsomorphism (r : List (List Int)) (s : List (List Int)) (Q : List Int → Int → Prop) (h : wp_impl_RackIsomorphism r s Q) : AF Try.prog 8 [.agg [.lst (rows r)], .agg [.lst (rows s)]] (fun R_ => ∃ y0 y1, Q y0 y1 ∧ R_ = .tup [.own (ints y0), ci y1]) := by
  refine AF.ofWQ (af_enterG (n := 25) Try.func8 rfl (by rfl) rfl (Nat.le_of_ble_eq_true rfl) ?_)
  unfold wp_impl_RackIsomorphism at h
  refine ar_seq ?_
  refine aw_gh (gh_to (n := 25) (σ' := []) (env' := [(0, .c (.agg [.lst (rows r)])), (1, .c (.agg [.lst (rows s)]))]) rfl rfl ⟨rfl, rfl, trivial⟩) ?_
  refine aw_region ?_
  refine run_w (ws_boxR rfl (.inl rfl) rfl ⟨rfl, ?_⟩)
  refine run_w (ws_boxR rfl (.inl rfl) rfl ⟨rfl, ?_⟩)
  refine run_w (ws_alloc (id := 4) rfl (Nat.le_of_ble_eq_true rfl) ⟨rfl, ?_⟩)
  refine run_w (ws_alloc (id := 5) rfl (Nat.le_of_ble_eq_true rfl) ⟨rfl, ?_⟩)
  refine run_nil ?_
  refine ar_seq ?_
  refine aw_seq ?_
  refine aw_region ?_
  refine run_s (ss_load_struct rfl (Nat.le_of_ble_eq_true rfl)) rfl ?_
  obtain ⟨q1, h⟩ := h
  refine run_w (ws_call (xs := [.tmp 7]) (ids := []) rfl rfl rfl rfl (c_impl_IsRack r q1) rfl ?_ )
  rintro _ rfl
  refine ⟨rfl, ?_⟩
  refine run_s (ss_not rfl) rfl ?_
  refine run_s (ss_move rfl) rfl ?_
  refine run_split (s := 10) rfl (fun q3 => ?_) (fun q3 => ?_)
  ·replace h := h.1 ((bnot_t q3))
   refine run_gf rfl rfl q3 rfl ?_
   refine run_gf rfl rfl q3 rfl ?_
   refine run_gf rfl rfl q3 rfl ?_
   refine run_s (ss_pickT rfl q3 rfl) rfl ?_
   refine run_nil ?_
   refine aw_cond rfl (fun q4 => ?_) (fun q4 => ?_)
   ·skip
    refine aw_seq ?_
    refine aw_gh (gh_to (n := 25) (σ' := [(5, ⟨[ci 0], []⟩), (4, ⟨[cnil], []⟩)]) (env' := [(4, .cell 4 0), (5, .cell 5 0)]) rfl rfl ⟨rfl, rfl, trivial⟩) ?_
    refine aw_region ?_
    refine run_w (ws_store rfl rfl (Nat.le_of_ble_eq_true rfl) rfl rfl ⟨rfl, ?_⟩)
    refine run_w (ws_store rfl rfl (Nat.le_of_ble_eq_true rfl) rfl rfl ⟨rfl, ?_⟩)
    refine run_nil ?_
    refine aw_ret ?_
    exact retAG_of (retAF_mk (retv2 rfl (rv_cell rfl rfl rfl) (rv_cell rfl rfl rfl)) rfl rfl ⟨_, (cle_tup (cleL_cons cle_nilO (cleL_cons (cle_refl _) cleL_nil))), _, _, h, rfl⟩)
   ·cases q4
  ·replace h := h.2 ((bnot_f q3))
   refine run_gt rfl rfl q3 ?_
   refine run_s (ss_load_struct rfl (Nat.le_of_ble_eq_true rfl)) rfl ?_
   refine run_gt rfl rfl q3 ?_
   obtain ⟨q5, h⟩ := h
   refine run_w (ws_call (xs := [.tmp 11]) (ids := []) rfl rfl rfl rfl (c_impl_IsRack s q5) rfl ?_ )
   rintro _ rfl
   refine ⟨rfl, ?_⟩
   refine run_gt rfl rfl q3 ?_
   refine run_s (ss_not rfl) rfl ?_
   refine run_s (ss_pickF rfl q3 rfl) rfl ?_
   refine run_nil ?_
   refine aw_cond rfl (fun q7 => ?_) (fun q7 => ?_)
   ·replace h := h.1 ((bnot_t q7))
    refine aw_seq ?_
    refine aw_gh (gh_to (n := 25) (σ' := [(5, ⟨[ci 0], []⟩), (4, ⟨[cnil], []⟩)]) (env' := [(4, .cell 4 0), (5, .cell 5 0)]) rfl rfl ⟨rfl, rfl, trivial⟩) ?_
    refine aw_region ?_
    refine run_w (ws_store rfl rfl (Nat.le_of_ble_eq_true rfl) rfl rfl ⟨rfl, ?_⟩)
    refine run_w (ws_store rfl rfl (Nat.le_of_ble_eq_true rfl) rfl rfl ⟨rfl, ?_⟩)
    refine run_nil ?_
    refine aw_ret ?_
    exact retAG_of (retAF_mk (retv2 rfl (rv_cell rfl rfl rfl) (rv_cell rfl rfl rfl)) rfl rfl ⟨_, (cle_tup (cleL_cons cle_nilO (cleL_cons (cle_refl _) cleL_nil))), _, _, h, rfl⟩)
   ·replace h := h.2 ((bnot_f q7))
    refine aw_skip ?_
    refine ar_seqK ?_
    refine ar_seq ?_
    refine aw_gh (gh_to (n := 25) (σ' := [(5, ⟨[ci 0], []⟩), (4, ⟨[cnil], []⟩)]) (env' := [(2, .c (.ptr [.lst (rows r)])), (3, .c (.ptr [.lst (rows s)])), (4, .cell 4 0), (5, .cell 5 0)]) rfl rfl ⟨rfl, rfl, rfl, rfl, trivial⟩) ?_
    refine aw_region ?_
    refine run_s (ss_field_ptr rfl) rfl ?_
    refine run_s (ss_load_ptr rfl rfl) rfl ?_
    refine run_w (ws_buildSlice (id := 17) (ps := [(0, .tmp 16)]) rfl rfl (Nat.le_of_ble_eq_true rfl) rfl ⟨rfl, ?_⟩)
    refine run_s (ss_field_ptr rfl) rfl ?_
    refine run_s (ss_load_ptr rfl rfl) rfl ?_
    refine run_w (ws_buildSlice (id := 20) (ps := [(0, .tmp 19)]) rfl rfl (Nat.le_of_ble_eq_true rfl) rfl ⟨rfl, ?_⟩)
    refine run_gh (gh_frzE (id := 17) (f := (fun r => C.lst (rows r))) (l := ([r])) (fun r => C.lst (rows r)) rfl (fun _ => rfl)) ?_
    refine run_gh (gh_frzE (id := 20) (f := (fun r => C.lst (rows r))) (l := ([s])) (fun r => C.lst (rows r)) rfl (fun _ => rfl)) ?_
    obtain ⟨q8, h⟩ := h
    refine run_w (ws_call (xs := [.tmp 17, .tmp 20]) (ids := []) rfl rfl rfl rfl (c_impl_isomorphisms ([r]) ([s]) q8) rfl ?_ )
    rintro _ rfl
    refine ⟨rfl, ?_⟩
    refine run_nil ?_
    refine ar_block ?_
    refine ar_gh (gh_to (n := 25) (σ' := [(5, ⟨[ci 0], []⟩), (4, ⟨[cnil], []⟩)]) (env' := [(4, .cell 4 0), (5, .cell 5 0), (21, .c (.clo 44 [.ptr [.lst (tabs ([r]))], .ptr [.lst (tabs ([s]))]]))]) rfl rfl ⟨rfl, rfl, rfl, trivial⟩) ?_
    obtain ⟨H1, q10, h⟩ := h
    refine ar_rangeE (en := (fun p_ => .lst (ints p_))) 5000 [(5004, .cell 4 0), (5005, .cell 5 0), (5021, .c (.clo 44 [.ptr [.lst (tabs ([r]))], .ptr [.lst (tabs ([s]))]]))] (fun (u1_ : Unit) => [(5, ⟨[ci 0], []⟩), (4, ⟨[cnil], []⟩)]) H1 (c_impl_isomorphisms_1 ([r]) ([s]) q8) rfl rfl rfl rfl rfl ⟨(), ghe_to (n := 25) rfl rfl ⟨rfl, rfl, rfl, trivial⟩, (by simp [σok, slfL, C.slf, slf_ints, slf_orows, slf_ci, ci, cb]), q10⟩ (fun k1 u1_ e1 q11 q12 => ?_) (fun u1_ q12 => ?_)
    ·replace h := h.1 k1 u1_ e1 q11 q12
     refine aw_gh (gh_to (n := 25) (σ' := [(5, ⟨[ci 0], []⟩), (4, ⟨[cnil], []⟩)]) (env' := [(4, .cell 4 0), (5, .cell 5 0), (21, .c (.clo 44 [.ptr [.lst (tabs ([r]))], .ptr [.lst (tabs ([s]))]])), (22, .c (.lst (ints e1))), (5004, .cell 4 0), (5005, .cell 5 0), (5021, .c (.clo 44 [.ptr [.lst (tabs ([r]))], .ptr [.lst (tabs ([s]))]]))]) rfl rfl ⟨rfl, rfl, rfl, rfl, rfl, rfl, rfl, trivial⟩) ?_
     refine aw_gh (gh_to (n := 25) (σ' := [(5, ⟨[ci 0], []⟩), (4, ⟨[cnil], []⟩)]) (env' := [(4, .cell 4 0), (5, .cell 5 0), (22, .c (.lst (ints e1))), (5004, .cell 4 0), (5005, .cell 5 0), (5021, .c (.clo 44 [.ptr [.lst (tabs ([r]))], .ptr [.lst (tabs ([s]))]]))]) rfl rfl ⟨rfl, rfl, rfl, rfl, rfl, rfl, trivial⟩) ?_
     refine aw_region ?_
     refine run_s (ss_assign rfl) rfl ?_
     refine run_nil ?_
     refine aw_block ?_
     refine aw_seq ?_
     refine aw_region ?_
     refine run_s (ss_move rfl) rfl ?_
     obtain ⟨q13, h⟩ := h
     refine run_w (ws_call (xs := [.tmp 23]) (ids := [24]) rfl rfl rfl rfl (c_k_Clone e1 q13) rfl ?_ )
     rintro _ rfl
     refine ⟨rfl, ?_⟩
     refine run_w (ws_store rfl rfl (Nat.le_of_ble_eq_true rfl) rfl rfl ⟨rfl, ?_⟩)
     refine run_w (ws_store rfl rfl (Nat.le_of_ble_eq_true rfl) rfl rfl ⟨rfl, ?_⟩)
     refine run_nil ?_
     refine aw_ret ?_
     refine ⟨[(5, ⟨[ci 0], []⟩), (4, ⟨[.own (ints e1)], []⟩)], ghe_step (gh_fill (id := 4) (id2 := 24) (j := 0) rfl rfl (Nat.le_of_ble_eq_true rfl) rfl rfl rfl) (ghe_to (n := 25) rfl rfl ⟨rfl, rfl, rfl, trivial⟩), (by simp [σok, slfL, C.slf, slf_ints, slf_orows, slf_ci, ci, cb]), ?_⟩
     refine retAG_gh (gh_open (id := 4) (j := 0) 1001 rfl rfl rfl) ?_
     exact retAG_of (retAF_mk (retv2 rfl (rv_cell rfl rfl rfl) (rv_cell rfl rfl rfl)) rfl rfl ⟨_, (cle_refl _), _, _, h, rfl⟩)
    ·replace h := h.2 u1_ q12
     refine ar_aw ?_
     refine aw_seq ?_
     refine aw_gh (gh_to (n := 25) (σ' := [(5, ⟨[ci 0], []⟩), (4, ⟨[cnil], []⟩)]) (env' := [(4, .cell 4 0), (5, .cell 5 0)]) rfl rfl ⟨rfl, rfl, trivial⟩) ?_
     refine aw_region ?_
     refine run_w (ws_store rfl rfl (Nat.le_of_ble_eq_true rfl) rfl rfl ⟨rfl, ?_⟩)
     refine run_w (ws_store rfl rfl (Nat.le_of_ble_eq_true rfl) rfl rfl ⟨rfl, ?_⟩)
     refine run_nil ?_
     refine aw_ret ?_
     exact retAG_of (retAF_mk (retv2 rfl (rv_cell rfl rfl rfl) (rv_cell rfl rfl rfl)) rfl rfl ⟨_, (cle_tup (cleL_cons cle_nilO (cleL_cons (cle_refl _) cleL_nil))), _, _, h, rfl⟩)

theorem c_impl_RackIsomorphism (r : List (List Int)) (s : List (List Int)) (hp : small2 r ∧ small2 s) : AF Try.prog 8 [.agg [.lst (rows r)], .agg [.lst (rows s)]] (fun R_ => R_ = .tup [.own (ints (RisT r s)), ci (RisE r s)]) :=
  (w_impl_RackIsomorphism r s (fun y0 y1 => y0 = RisT r s ∧ y1 = RisE r s) (p_impl_RackIsomorphism r s hp)).mono (by rintro r ⟨_, _, ⟨rfl, rfl⟩, rfl⟩; rfl)

set_option maxRecDepth 100000 in
set_option maxHeartbeats 4000000 in
theorem w_spec_RackIsomorphism (r : List (List Int)) (s : List (List Int)) (Q : List Int → Int → Prop) (h : wp_spec_RackIsomorphism r s Q) : AF Try.prog 6 [.agg [.lst (rows r)], .agg [.lst (rows s)]] (fun R_ => ∃ y0 y1, Q y0 y1 ∧ R_ = .tup [.lst (ints y0), ci y1]) := by
  refine AF.ofWQ (af_enter (n := 36) Try.func6 rfl (by rfl) rfl (Nat.le_of_ble_eq_true rfl) ?_)
  unfold wp_spec_RackIsomorphism at h
  refine aw_seq ?_
  refine aw_gh (gh_to (n := 36) (σ' := []) (env' := [(0, .c (.agg [.lst (rows r)])), (1, .c (.agg [.lst (rows s)]))]) rfl rfl ⟨rfl, rfl, trivial⟩) ?_
  refine aw_region ?_
  refine run_w (ws_boxR rfl (.inl rfl) rfl ⟨rfl, ?_⟩)
  refine run_w (ws_boxR rfl (.inl rfl) rfl ⟨rfl, ?_⟩)
  refine run_s (ss_assign rfl) rfl ?_
  refine run_s (ss_assign rfl) rfl ?_
  refine run_nil ?_
  refine aw_seq ?_
  refine aw_seq ?_
  refine aw_region ?_
  refine run_s (ss_load_struct rfl (Nat.le_of_ble_eq_true rfl)) rfl ?_
  obtain ⟨q1, h⟩ := h
  refine run_w (ws_call (xs := [.tmp 7]) (ids := []) rfl rfl rfl rfl (c_spec_l03Is r q1) rfl ?_ )
  rintro _ rfl
  refine ⟨rfl, ?_⟩
  refine run_s (ss_not rfl) rfl ?_
  refine run_s (ss_move rfl) rfl ?_
  refine run_split (s := 10) rfl (fun q3 => ?_) (fun q3 => ?_)
  ·replace h := h.1 ((bnot_t q3))
   refine run_gf rfl rfl q3 rfl ?_
   refine run_gf rfl rfl q3 rfl ?_
   refine run_gf rfl rfl q3 rfl ?_
   refine run_s (ss_pickT rfl q3 rfl) rfl ?_
   refine run_nil ?_
   refine aw_cond rfl (fun q4 => ?_) (fun q4 => ?_)
   ·skip
    refine aw_seq ?_
    refine aw_gh (gh_to (n := 36) (σ' := []) (env' := [(4, .c (cnil)), (5, .c (ci 0))]) rfl rfl ⟨rfl, rfl, trivial⟩) ?_
    refine aw_region ?_
    refine run_s (ss_assign rfl) rfl ?_
    refine run_s (ss_assign rfl) rfl ?_
    refine run_nil ?_
    refine aw_ret ?_
    exact retAF_mk (retv2 rfl (rv_tmp rfl) (rv_tmp rfl)) rfl rfl ⟨_, (cle_tup (cleL_cons cle_nilL (cleL_cons (cle_refl _) cleL_nil))), _, _, h, rfl⟩
   ·cases q4
  ·replace h := h.2 ((bnot_f q3))
   refine run_gt rfl rfl q3 ?_
   refine run_s (ss_load_struct rfl (Nat.le_of_ble_eq_true rfl)) rfl ?_
   refine run_gt rfl rfl q3 ?_
   obtain ⟨q5, h⟩ := h
   refine run_w (ws_call (xs := [.tmp 11]) (ids := []) rfl rfl rfl rfl (c_spec_l03Is s q5) rfl ?_ )
   rintro _ rfl
   refine ⟨rfl, ?_⟩
   refine run_gt rfl rfl q3 ?_
   refine run_s (ss_not rfl) rfl ?_
   refine run_s (ss_pickF rfl q3 rfl) rfl ?_
   refine run_nil ?_
   refine aw_cond rfl (fun q7 => ?_) (fun q7 => ?_)
   ·replace h := h.1 ((bnot_t q7))
    refine aw_seq ?_
    refine aw_gh (gh_to (n := 36) (σ' := []) (env' := [(4, .c (cnil)), (5, .c (ci 0))]) rfl rfl ⟨rfl, rfl, trivial⟩) ?_
    refine aw_region ?_
    refine run_s (ss_assign rfl) rfl ?_
    refine run_s (ss_assign rfl) rfl ?_
    refine run_nil ?_
    refine aw_ret ?_
    exact retAF_mk (retv2 rfl (rv_tmp rfl) (rv_tmp rfl)) rfl rfl ⟨_, (cle_tup (cleL_cons cle_nilL (cleL_cons (cle_refl _) cleL_nil))), _, _, h, rfl⟩
   ·replace h := h.2 ((bnot_f q7))
    refine aw_skip ?_
    refine aw_seq ?_
    refine aw_gh (gh_to (n := 36) (σ' := []) (env' := [(2, .c (.ptr [.lst (rows r)])), (3, .c (.ptr [.lst (rows s)]))]) rfl rfl ⟨rfl, rfl, trivial⟩) ?_
    refine aw_region ?_
    refine run_w (ws_buildSlice (id := 15) (ps := []) rfl rfl (Nat.le_of_ble_eq_true rfl) rfl ⟨rfl, ?_⟩)
    refine run_s (ss_assign rfl) rfl ?_
    refine run_nil ?_
    refine aw_seq ?_
    refine aw_seq ?_
    refine aw_region ?_
    refine run_s (ss_field_ptr rfl) rfl ?_
    refine run_s (ss_load_ptr rfl rfl) rfl ?_
    refine run_s (ss_lenL (f := (fun r => C.lst (ints r))) rfl) rfl ?_
    refine run_s (ss_field_ptr rfl) rfl ?_
    refine run_s (ss_load_ptr rfl rfl) rfl ?_
    refine run_s (ss_lenL (f := (fun r => C.lst (ints r))) rfl) rfl ?_
    refine run_s (ss_eql rfl rfl) rfl ?_
    refine run_nil ?_
    refine aw_cond rfl (fun q8 => ?_) (fun q8 => ?_)
    ·replace h := h.1 (of_decide_eq_true q8)
     refine aw_region ?_
     refine run_s (ss_field_ptr rfl) rfl ?_
     refine run_s (ss_load_ptr rfl rfl) rfl ?_
     refine run_w (ws_buildSlice (id := 25) (ps := [(0, .tmp 24)]) rfl rfl (Nat.le_of_ble_eq_true rfl) rfl ⟨rfl, ?_⟩)
     refine run_s (ss_field_ptr rfl) rfl ?_
     refine run_s (ss_load_ptr rfl rfl) rfl ?_
     refine run_w (ws_buildSlice (id := 28) (ps := [(0, .tmp 27)]) rfl rfl (Nat.le_of_ble_eq_true rfl) rfl ⟨rfl, ?_⟩)
     refine run_gh (gh_frzE (id := 25) (f := (fun r => C.lst (rows r))) (l := ([r])) (fun r => C.lst (rows r)) rfl (fun _ => rfl)) ?_
     refine run_gh (gh_frzE (id := 28) (f := (fun r => C.lst (rows r))) (l := ([s])) (fun r => C.lst (rows r)) rfl (fun _ => rfl)) ?_
     obtain ⟨q9, h⟩ := h
     refine run_w (ws_call (xs := [.tmp 25, .tmp 28, .const (.slice none 0 0), .const (.int .i64 (1))]) (ids := []) rfl rfl rfl rfl (AF.weak (c_spec_l03Maps ([r]) ([s]) ([] : List Int) 1 q9) (cleL_cons (cle_refl _) (cleL_cons (cle_refl _) (cleL_cons cle_nilL (cleL_cons (cle_refl _) cleL_nil))))) rfl ?_ )
     rintro _ rfl
     refine ⟨rfl, ?_⟩
     refine run_s (ss_assign rfl) rfl ?_
     refine run_nil ?_
     refine aw_seq ?_
     refine aw_seq ?_
     refine aw_gh (gh_to (n := 36) (σ' := [(15, ⟨orows ([] : List (List Int)), []⟩)]) (env' := [(6, .c (.lst (rows ((isoL ([r]) ([s])).take (1 : Int).toNat))))]) rfl rfl ⟨rfl, trivial⟩) ?_
     refine aw_region ?_
     refine run_s (ss_move rfl) rfl ?_
     refine run_s (ss_lenL (f := (fun r => C.lst (ints r))) rfl) rfl ?_
     refine run_s (ss_eql rfl rfl) rfl ?_
     refine run_nil ?_
     refine aw_cond rfl (fun q11 => ?_) (fun q11 => ?_)
     ·replace h := h.1 (of_decide_eq_true q11)
      refine aw_seq ?_
      refine aw_region ?_
      refine run_s (ss_assign rfl) rfl ?_
      refine run_s (ss_assign rfl) rfl ?_
      refine run_nil ?_
      refine aw_ret ?_
      exact retAF_mk (retv2 rfl (rv_tmp rfl) (rv_tmp rfl)) rfl rfl ⟨_, (cle_tup (cleL_cons cle_nilL (cleL_cons (cle_refl _) cleL_nil))), _, _, h, rfl⟩
     ·replace h := h.2 (of_decide_eq_false q11)
      refine aw_skip ?_
      refine aw_seq ?_
      refine aw_region ?_
      refine run_s (ss_move rfl) rfl ?_
      obtain ⟨q12, h⟩ := h
      refine run_s (ss_idxL rfl rfl q12) rfl ?_
      refine run_s (ss_loadL (f := (fun r => C.lst (ints r))) rfl q12) rfl ?_
      refine run_s (ss_assign rfl) rfl ?_
      refine run_s (ss_assign rfl) rfl ?_
      refine run_nil ?_
      refine aw_ret ?_
      exact retAF_mk (retv2 rfl (rv_tmp rfl) (rv_tmp rfl)) rfl rfl ⟨_, (cle_refl _), _, _, h, rfl⟩
    ·replace h := h.2 (of_decide_eq_false q8)
     refine aw_skip ?_
     refine aw_seq ?_
     refine aw_seq ?_
     refine aw_gh (gh_to (n := 36) (σ' := [(15, ⟨orows ([] : List (List Int)), []⟩)]) (env' := [(6, .ref 15)]) rfl rfl ⟨rfl, trivial⟩) ?_
     refine aw_region ?_
     refine run_s (ss_move rfl) rfl ?_
     refine run_s (ss_lenR (f := (fun r => C.own (ints r))) rfl rfl) rfl ?_
     refine run_s (ss_eql rfl rfl) rfl ?_
     refine run_nil ?_
     refine aw_cond rfl (fun q13 => ?_) (fun q13 => ?_)
     ·replace h := h.1 (of_decide_eq_true q13)
      refine aw_seq ?_
      refine aw_region ?_
      refine run_s (ss_assign rfl) rfl ?_
      refine run_s (ss_assign rfl) rfl ?_
      refine run_nil ?_
      refine aw_ret ?_
      exact retAF_mk (retv2 rfl (rv_tmp rfl) (rv_tmp rfl)) rfl rfl ⟨_, (cle_tup (cleL_cons cle_nilL (cleL_cons (cle_refl _) cleL_nil))), _, _, h, rfl⟩
     ·replace h := h.2 (of_decide_eq_false q13)
      refine aw_skip ?_
      refine aw_seq ?_
      refine aw_region ?_
      refine run_s (ss_move rfl) rfl ?_
      obtain ⟨q14, h⟩ := h
      refine run_s (ss_idxR (f := (fun r => C.own (ints r))) rfl rfl rfl q14) rfl ?_
      refine run_gh (gh_open 1001 (id := 15) (j := (0 : Int).toNat) rfl (map_get (f := (fun r => C.own (ints r))) q14) rfl) ?_
      refine run_s (ss_loadH rfl rfl lk_self rfl) rfl ?_
      refine run_s (ss_assign rfl) rfl ?_
      refine run_s (ss_assign rfl) rfl ?_
      refine run_nil ?_
      refine aw_gh (gh_frzE (id := 1001) ci rfl (fun _ => rfl)) ?_
      refine aw_ret ?_
      exact retAF_mk (retv2 rfl (rv_tmp rfl) (rv_tmp rfl)) rfl rfl ⟨_, (cle_refl _), _, _, h, rfl⟩

theorem c_spec_RackIsomorphism (r : List (List Int)) (s : List (List Int)) (hp : small2 r ∧ small2 s) : AF Try.prog 6 [.agg [.lst (rows r)], .agg [.lst (rows s)]] (fun R_ => R_ = .tup [.lst (ints (RisT r s)), ci (RisE r s)]) :=
  (w_spec_RackIsomorphism r s (fun y0 y1 => y0 = RisT r s ∧ y1 = RisE r s) (p_spec_RackIsomorphism r s hp)).mono (by rintro r ⟨_, _, ⟨rfl, rfl⟩, rfl⟩; rfl)

section
variable {n : Int} {l : List (List Int)}
end
def wp_laws_FnExactRackIsomorphism (a0 : List (List Int)) (a1 : List (List Int)) (Q : Bool → Prop) : Prop :=
 (InS (1048576 : Int) ∧ huge2 a0) ∧
 ((szII a0 (1048576 : Int) < 0 →
 Q true) ∧
 (¬ (szII a0 (1048576 : Int) < 0) →
 (InS (szII a0 (1048576 : Int)) ∧ huge2 a1) ∧
 ((szII a1 (szII a0 (1048576 : Int)) < 0 →
 Q true) ∧
 (¬ (szII a1 (szII a0 (1048576 : Int)) < 0) →
 (small2 a0) ∧
 (small2 a1) ∧
 (small2 a0 ∧ small2 a1) ∧
 (small2 a0) ∧
 (small2 a1) ∧
 (small2 a0 ∧ small2 a1) ∧
 (small (RisT a0 a1) ∧ small (RisT a0 a1)) ∧
 ((¬ ((RisT a0 a1) = (RisT a0 a1)) →
 Q false) ∧
 ((RisT a0 a1) = (RisT a0 a1) →
 ((¬ (RisE a0 a1 = RisE a0 a1) →
 Q false) ∧
 (RisE a0 a1 = RisE a0 a1 →
 (small2 a0) ∧
 (small2 a0 ∧ small2 a0) ∧
 ((¬ (a0 = a0) →
 Q false) ∧
 (a0 = a0 →
 (small2 a1) ∧
 (small2 a1 ∧ small2 a1) ∧
 ((¬ (a1 = a1) →
 Q false) ∧
 (a1 = a1 →
 (small2 a0 ∧ okKT (1 : Int) a0) ∧
 (small2 a1 ∧ okKT ((1 : Int) + tot a0) a1) ∧
 ((((1 : Int) + tot a0) + tot a1 < 0 →
 Q false) ∧
 (¬ (((1 : Int) + tot a0) + tot a1 < 0) →
 (small (RisT a0 a1) ∧ small (RisT a0 a1)) ∧
 ((¬ ((RisT a0 a1) = (RisT a0 a1)) →
 Q false) ∧
 ((RisT a0 a1) = (RisT a0 a1) →
 ((¬ (RisE a0 a1 = RisE a0 a1) →
 Q false) ∧
 (RisE a0 a1 = RisE a0 a1 →
 (small (RisT a0 a1) ∧ okK (1 : Int)) ∧
 (small (mkI (1 : Int) (RisT a0 a1)) ∧ okK (1 : Int)) ∧
 ((heI (1 : Int) (mkI (1 : Int) (RisT a0 a1)) < 0 →
 Q false) ∧
 (¬ (heI (1 : Int) (mkI (1 : Int) (RisT a0 a1)) < 0) →
 ((¬ (heI (1 : Int) (mkI (1 : Int) (RisT a0 a1)) = (1 : Int) + ((RisT a0 a1).length : Int)) →
 Q false) ∧
 (heI (1 : Int) (mkI (1 : Int) (RisT a0 a1)) = (1 : Int) + ((RisT a0 a1).length : Int) →
 (small2 a0) ∧
 (small2 a1) ∧
 (small2 a0 ∧ small2 a1) ∧
 (small (RisT a0 a1) ∧ small (RisT a0 a1)) ∧
 ((¬ ((RisT a0 a1) = (RisT a0 a1)) →
 Q false) ∧
 ((RisT a0 a1) = (RisT a0 a1) →
 ((¬ (RisE a0 a1 = RisE a0 a1) →
 Q false) ∧
 (RisE a0 a1 = RisE a0 a1 →
 (small (mkI (1 : Int) (RisT a0 a1)) ∧ okK (1 : Int)) ∧
 ((heI (1 : Int) (mkI (1 : Int) (RisT a0 a1)) < 0 →
 Q false) ∧
 (¬ (heI (1 : Int) (mkI (1 : Int) (RisT a0 a1)) < 0) →
 ((¬ (heI (1 : Int) (mkI (1 : Int) (RisT a0 a1)) = (1 : Int) + ((RisT a0 a1).length : Int)) →
 Q false) ∧
 (heI (1 : Int) (mkI (1 : Int) (RisT a0 a1)) = (1 : Int) + ((RisT a0 a1).length : Int) →
 Q true))))))))))))))))))))))))))))))

@[reducible] def fine2 (t : List (List Int)) : Prop := small2 t ∧ tot t ≤ 1000000000
theorem fine_mk1 {l : List Int} (h : small l) : small (mkI 1 l) ∧ heI 1 (mkI 1 l) = 1 + (l.length : Int) := ⟨by simpa using h, heI_mkI 1 l⟩
theorem sz_fine {a : List (List Int)} {left : Int} (hl : left ≤ 1000000000) (h : ¬ szII a left < 0) : fine2 a := by
  unfold szII at h
  split at h
  · omega
  · have tn := tot_nonneg a
    refine ⟨⟨by show (a.length : Int) ≤ 1000000000; omega, fun r hr => ?_⟩, by omega⟩
    obtain ⟨i, hi, rfl⟩ := mem_el hr
    have := tt_row hi
    have := (tt_le a i).1
    show ((el a i).length : Int) ≤ 1000000000; omega
theorem sz_in {a : List (List Int)} {left : Int} (hl : left ≤ 1000000000) (h : ¬ szII a left < 0) : InS (szII a left) := by
  refine ⟨by omega, ?_⟩
  unfold szII
  have := tot_nonneg a
  split <;> omega
theorem InS20 : InS 1048576 := ⟨by omega, by omega⟩
theorem fine_mkk {T : List (List Int)} {k : Int} (h : fine2 T) (hk : 0 ≤ k ∧ k ≤ 100000000000) : okKT k T ∧ ¬ (k + tot T < 0) := by
  have := tot_nonneg T
  have h2 := h.2
  exact ⟨⟨by omega, by omega⟩, by omega⟩
theorem small_iso {a b : List (List (List Int))} (h : isoL a b ≠ []) (ht : isTab (el a 0) = true) : small (el (isoL a b) 0) := by
  have := isoL_el h
  have := isTab_len ht
  show (_ : Int) ≤ 1000000000; omega
theorem small_Ris (r s : List (List Int)) : small (RisT r s) := by
  unfold RisT
  split
  · rename_i h
    unfold RisE at h
    split at h
    · rename_i h2
      refine small_iso (fun e => ?_) (isRk_tab h2.1)
      rw [if_pos e] at h; cases h
    · cases h
  · show (_ : Int) ≤ _; simp
theorem p_laws_FnExactRackIsomorphism (a0 : List (List Int)) (a1 : List (List Int)) (hp : huge2 a0 ∧ huge2 a1) : wp_laws_FnExactRackIsomorphism a0 a1 (fun y0 => y0 = true) := by
  unfold wp_laws_FnExactRackIsomorphism
  obtain ⟨ha0, ha1⟩ := hp
  by_cases za0 : szII a0 1048576 < 0
  · simp [eq_true InS20, eq_true ha0, eq_true ha1, za0]
  have fa0 := sz_fine (by omega) za0
  have ia0 := sz_in (by omega) za0
  by_cases za1 : szII a1 (szII a0 1048576) < 0
  · simp [eq_true InS20, eq_true ha0, eq_true ha1, za0, eq_true fa0.1, eq_true ia0, za1]
  have fa1 := sz_fine (by omega) za1
  have ia1 := sz_in (by omega) za1
  have j0 : 0 ≤ (1 : Int) ∧ (1 : Int) ≤ 100000000000 := ⟨by omega, by omega⟩
  have ma0 := fine_mkk fa0 j0
  have ta0 := tot_nonneg a0
  have j1 : 0 ≤ 1 + tot a0 ∧ 1 + tot a0 ≤ 100000000000 := ⟨by omega, by have := fa0.2; omega⟩
  have ma1 := fine_mkk fa1 j1
  have ta1 := tot_nonneg a1
  have j2 : 0 ≤ 1 + tot a0 + tot a1 ∧ 1 + tot a0 + tot a1 ≤ 100000000000 := ⟨by omega, by have := fa1.2; omega⟩
  have k1 : okK 1 := ⟨by omega, by omega⟩
  have r0 := small_Ris a0 a1
  generalize RisT a0 a1 = T0 at *
  have q0 := fine_mk1 r0
  have p0 : ¬ (1 + (T0.length : Int) < 0) := by omega
  simp [eq_true InS20, eq_true ha0, eq_true ha1, za0, eq_true fa0.1, eq_true ia0, za1, eq_true fa1.1, eq_true ia1, eq_true ma0.1, ma0.2, eq_true ma1.1, ma1.2, eq_true k1, eq_true r0, eq_true q0.1, q0.2, p0]
set_option maxRecDepth 100000 in
set_option maxHeartbeats 4000000 in
theorem w_laws_FnExactRackIsomorphism (a0 : List (List Int)) (a1 : List (List Int)) (Q : Bool → Prop) (h : wp_laws_FnExactRackIsomorphism a0 a1 Q) : AF Try.prog 3 [.agg [.lst (rows a0)], .agg [.lst (rows a1)]] (fun R_ => ∃ y0, Q y0 ∧ R_ = cb y0) := by
  refine AF.ofWQ (af_enter (n := 119) Try.func3 rfl (by rfl) rfl (Nat.le_of_ble_eq_true rfl) ?_)
  unfold wp_laws_FnExactRackIsomorphism at h
  refine aw_seq ?_
  refine aw_gh (gh_to (n := 119) (σ' := []) (env' := [(0, .c (.agg [.lst (rows a0)])), (1, .c (.agg [.lst (rows a1)]))]) rfl rfl ⟨rfl, rfl, trivial⟩) ?_
  refine aw_region ?_
  refine run_w (ws_boxR rfl (.inl rfl) rfl ⟨rfl, ?_⟩)
  refine run_w (ws_boxR rfl (.inl rfl) rfl ⟨rfl, ?_⟩)
  refine run_s (ss_assign rfl) rfl ?_
  refine run_nil ?_
  refine aw_seq ?_
  refine aw_region ?_
  refine run_s (ss_assign rfl) rfl ?_
  refine run_nil ?_
  refine aw_seq ?_
  refine aw_region ?_
  refine run_s (ss_load_struct rfl (Nat.le_of_ble_eq_true rfl)) rfl ?_
  refine run_s (ss_move rfl) rfl ?_
  obtain ⟨q1, h⟩ := h
  refine run_w (ws_call (xs := [.tmp 17, .tmp 18]) (ids := []) rfl rfl rfl rfl (c_laws_szRack a0 1048576 q1) rfl ?_ )
  rintro _ rfl
  refine ⟨rfl, ?_⟩
  refine run_s (ss_assign rfl) rfl ?_
  refine run_nil ?_
  refine aw_seq ?_
  refine aw_seq ?_
  refine aw_region ?_
  refine run_s (ss_move rfl) rfl ?_
  refine run_s (ss_lss rfl rfl) rfl ?_
  refine run_nil ?_
  refine aw_cond rfl (fun q3 => ?_) (fun q3 => ?_)
  ·replace h := h.1 (of_decide_eq_true q3)
   refine aw_seq ?_
   refine aw_gh (gh_to (n := 119) (σ' := []) (env' := [(4, .c (cb false))]) rfl rfl ⟨rfl, trivial⟩) ?_
   refine aw_region ?_
   refine run_s (ss_assign rfl) rfl ?_
   refine run_nil ?_
   refine aw_ret ?_
   exact retAF_mk (retv1 rfl (rv_tmp rfl)) rfl rfl ⟨_, (cle_refl _), _, h, rfl⟩
  ·replace h := h.2 (of_decide_eq_false q3)
   refine aw_skip ?_
   refine aw_seq ?_
   refine aw_region ?_
   refine run_s (ss_load_struct rfl (Nat.le_of_ble_eq_true rfl)) rfl ?_
   refine run_s (ss_move rfl) rfl ?_
   obtain ⟨q4, h⟩ := h
   refine run_w (ws_call (xs := [.tmp 22, .tmp 23]) (ids := []) rfl rfl rfl rfl (c_laws_szRack a1 (szII a0 (1048576 : Int)) q4) rfl ?_ )
   rintro _ rfl
   refine ⟨rfl, ?_⟩
   refine run_s (ss_assign rfl) rfl ?_
   refine run_nil ?_
   refine aw_seq ?_
   refine aw_seq ?_
   refine aw_region ?_
   refine run_s (ss_move rfl) rfl ?_
   refine run_s (ss_lss rfl rfl) rfl ?_
   refine run_nil ?_
   refine aw_cond rfl (fun q6 => ?_) (fun q6 => ?_)
   ·replace h := h.1 (of_decide_eq_true q6)
    refine aw_seq ?_
    refine aw_gh (gh_to (n := 119) (σ' := []) (env' := [(4, .c (cb false))]) rfl rfl ⟨rfl, trivial⟩) ?_
    refine aw_region ?_
    refine run_s (ss_assign rfl) rfl ?_
    refine run_nil ?_
    refine aw_ret ?_
    exact retAF_mk (retv1 rfl (rv_tmp rfl)) rfl rfl ⟨_, (cle_refl _), _, h, rfl⟩
   ·replace h := h.2 (of_decide_eq_false q6)
    refine aw_skip ?_
    refine aw_seq ?_
    refine aw_gh (gh_to (n := 119) (σ' := []) (env' := [(2, .c (.ptr [.lst (rows a0)])), (3, .c (.ptr [.lst (rows a1)]))]) rfl rfl ⟨rfl, rfl, trivial⟩) ?_
    refine aw_regionD (kd := kdl [1, 2, 1, 2, 2, 0, 0, 0, 0, 0]) (ord := [0, 2, 1, 3, 4, 5, 6, 7, 8, 9]) [] mixed (by kernel_rfl) ?_
    refine rd_l rfl rfl trivial (ss_load_struct rfl (Nat.le_of_ble_eq_true rfl)) rfl ?_
    refine rd_l rfl rfl trivial (ss_load_struct rfl (Nat.le_of_ble_eq_true rfl)) rfl ?_
    obtain ⟨q7, h⟩ := h
    refine rd_w rfl rfl trivial rfl rfl (ws_call (xs := [.tmp 28]) (ids := [29]) rfl rfl rfl rfl (c_laws_toRack a0 q7) rfl ?_ )
    rintro _ rfl
    refine ⟨rfl, ?_⟩
    obtain ⟨q9, h⟩ := h
    refine rd_w rfl rfl trivial rfl rfl (ws_call (xs := [.tmp 30]) (ids := [31]) rfl rfl rfl rfl (c_laws_toRack a1 q9) rfl ?_ )
    rintro _ rfl
    refine ⟨rfl, ?_⟩
    obtain ⟨q11, h⟩ := h
    refine rd_w rfl rfl trivial rfl rfl (ws_gh (gh_frzE (id := 29) (fun r => C.lst (ints r)) rfl (fun _ => (fz_own (fz_map (fun _ => rfl) _)))) (ws_gh (gh_frzE (id := 31) (fun r => C.lst (ints r)) rfl (fun _ => (fz_own (fz_map (fun _ => rfl) _)))) (ws_call (xs := [.tmp 29, .tmp 31]) (ids := []) rfl rfl rfl rfl (c_spec_RackIsomorphism a0 a1 q11) rfl ?_ )))
    rintro _ rfl
    refine ⟨rfl, ?_⟩
    refine rd_s rfl rfl trivial (ss_move rfl) rfl ?_
    refine rd_s rfl rfl trivial (ss_extract rfl rfl) rfl ?_
    refine rd_s rfl rfl trivial (ss_extract rfl rfl) rfl ?_
    refine rd_s rfl rfl trivial (ss_assign rfl) rfl ?_
    refine rd_s rfl rfl trivial (ss_assign rfl) rfl ?_
    refine rd_nil ?_
    refine aw_seq ?_
    refine aw_region ?_
    refine run_s (ss_load_struct rfl (Nat.le_of_ble_eq_true rfl)) rfl ?_
    obtain ⟨q13, h⟩ := h
    refine run_w (ws_call (xs := [.tmp 35]) (ids := [36]) rfl rfl rfl rfl (c_laws_toRack a0 q13) rfl ?_ )
    rintro _ rfl
    refine ⟨rfl, ?_⟩
    refine run_w (ws_alloc (id := 8) rfl (Nat.le_of_ble_eq_true rfl) ⟨rfl, ?_⟩)
    refine run_w (ws_storeS rfl rfl (Nat.le_of_ble_eq_true rfl) rfl rfl rfl ⟨rfl, ?_⟩)
    refine run_nil ?_
    refine aw_seq ?_
    refine aw_region ?_
    refine run_s (ss_load_struct rfl (Nat.le_of_ble_eq_true rfl)) rfl ?_
    obtain ⟨q15, h⟩ := h
    refine run_w (ws_call (xs := [.tmp 37]) (ids := [38]) rfl rfl rfl rfl (c_laws_toRack a1 q15) rfl ?_ )
    rintro _ rfl
    refine ⟨rfl, ?_⟩
    refine run_w (ws_alloc (id := 9) rfl (Nat.le_of_ble_eq_true rfl) ⟨rfl, ?_⟩)
    refine run_w (ws_storeS rfl rfl (Nat.le_of_ble_eq_true rfl) rfl rfl rfl ⟨rfl, ?_⟩)
    refine run_nil ?_
    refine aw_seq ?_
    refine aw_region ?_
    refine run_s (ss_loadS rfl rfl rfl rfl) rfl ?_
    refine run_s (ss_loadS rfl rfl rfl rfl) rfl ?_
    obtain ⟨q17, h⟩ := h
    refine run_w (ws_callR (xs := [.tmp 40, .tmp 41]) (cs := [.agg [.own (orows a0)], .agg [.own (orows a1)]]) (ids := [42]) rfl (.inr ⟨rfl, rfl⟩) rfl rfl (fz_cons (fz_agg (fz_cons (fz_own (fz_map (fun _ => (fz_own (fz_map (fun _ => rfl) _))) _)) fz_nil)) (fz_cons (fz_agg (fz_cons (fz_own (fz_map (fun _ => (fz_own (fz_map (fun _ => rfl) _))) _)) fz_nil)) fz_nil)) (c_impl_RackIsomorphism a0 a1 q17) rfl ?_ )
    rintro _ rfl
    refine ⟨(slf_tup (slf_cons (slf_own (slfL_map (f := ci) (fun _ => rfl) _)) (slf_cons rfl slf_nil))), rfl, ?_⟩
    refine run_s (ss_move rfl) rfl ?_
    refine run_s (ss_extract rfl rfl) rfl ?_
    refine run_s (ss_extract rfl rfl) rfl ?_
    refine run_s (ss_assign rfl) rfl ?_
    refine run_s (ss_assign rfl) rfl ?_
    refine run_nil ?_
    refine aw_seq ?_
    refine aw_seq ?_
    refine aw_gh (gh_to (n := 119) (σ' := [(42, ⟨ints (RisT a0 a1), []⟩), (9, ⟨[.hole], [(0, .ref 38)]⟩), (38, ⟨orows a1, []⟩), (8, ⟨[.hole], [(0, .ref 36)]⟩), (36, ⟨orows a0, []⟩)]) (env' := [(2, .c (.ptr [.lst (rows a0)])), (3, .c (.ptr [.lst (rows a1)])), (6, .c (.lst (ints (RisT a0 a1)))), (7, .c (ci (RisE a0 a1))), (8, .cell 8 0), (9, .cell 9 0), (10, .ref 42), (11, .c (ci (RisE a0 a1)))]) rfl rfl ⟨rfl, rfl, rfl, rfl, rfl, rfl, rfl, rfl, trivial⟩) ?_
    refine aw_region ?_
    refine run_s (ss_move rfl) rfl ?_
    refine run_s (ss_move rfl) rfl ?_
    obtain ⟨q19, h⟩ := h
    refine run_w (ws_callR (xs := [.tmp 45, .tmp 46]) (cs := [.own (ints (RisT a0 a1)), .lst (ints (RisT a0 a1))]) (ids := []) rfl (.inr ⟨rfl, rfl⟩) rfl rfl (fz_cons (fz_own (fz_map (fun _ => rfl) _)) (fz_cons rfl fz_nil)) (c_laws_eqInt64S (RisT a0 a1) (RisT a0 a1) q19) rfl ?_ )
    rintro _ rfl
    refine ⟨rfl, rfl, ?_⟩
    refine run_s (ss_not rfl) rfl ?_
    refine run_s (ss_move rfl) rfl ?_
    refine run_split (s := 49) rfl (fun q21 => ?_) (fun q21 => ?_)
    ·replace h := h.1 (of_decide_eq_false (bnot_t q21))
     refine run_gf rfl rfl q21 rfl ?_
     refine run_gf rfl rfl q21 rfl ?_
     refine run_gf rfl rfl q21 rfl ?_
     refine run_s (ss_pickT rfl q21 rfl) rfl ?_
     refine run_nil ?_
     refine aw_cond rfl (fun q22 => ?_) (fun q22 => ?_)
     ·skip
      refine aw_seq ?_
      refine aw_gh (gh_to (n := 119) (σ' := [(42, ⟨ints (RisT a0 a1), []⟩), (9, ⟨[.hole], [(0, .ref 38)]⟩), (38, ⟨orows a1, []⟩), (8, ⟨[.hole], [(0, .ref 36)]⟩), (36, ⟨orows a0, []⟩)]) (env' := []) rfl rfl trivial) ?_
      refine aw_region ?_
      refine run_s (ss_assign rfl) rfl ?_
      refine run_nil ?_
      refine aw_ret ?_
      exact retAF_mk (retv1 rfl (rv_tmp rfl)) rfl rfl ⟨_, (cle_refl _), _, h, rfl⟩
     ·cases q22
    ·replace h := h.2 (of_decide_eq_true (bnot_f q21))
     refine run_gt rfl rfl q21 ?_
     refine run_s (ss_move rfl) rfl ?_
     refine run_gt rfl rfl q21 ?_
     refine run_s (ss_move rfl) rfl ?_
     refine run_gt rfl rfl q21 ?_
     refine run_s (ss_neq rfl rfl) rfl ?_
     refine run_s (ss_pickF rfl q21 rfl) rfl ?_
     refine run_nil ?_
     refine aw_cond rfl (fun q23 => ?_) (fun q23 => ?_)
     ·replace h := h.1 (of_decide_eq_false (bnot_t q23))
      refine aw_seq ?_
      refine aw_gh (gh_to (n := 119) (σ' := [(42, ⟨ints (RisT a0 a1), []⟩), (9, ⟨[.hole], [(0, .ref 38)]⟩), (38, ⟨orows a1, []⟩), (8, ⟨[.hole], [(0, .ref 36)]⟩), (36, ⟨orows a0, []⟩)]) (env' := []) rfl rfl trivial) ?_
      refine aw_region ?_
      refine run_s (ss_assign rfl) rfl ?_
      refine run_nil ?_
      refine aw_ret ?_
      exact retAF_mk (retv1 rfl (rv_tmp rfl)) rfl rfl ⟨_, (cle_refl _), _, h, rfl⟩
     ·replace h := h.2 (of_decide_eq_true (bnot_f q23))
      refine aw_skip ?_
      refine aw_seq ?_
      refine aw_seq ?_
      refine aw_gh (gh_to (n := 119) (σ' := [(42, ⟨ints (RisT a0 a1), []⟩), (9, ⟨[.hole], [(0, .ref 38)]⟩), (38, ⟨orows a1, []⟩), (8, ⟨[.hole], [(0, .ref 36)]⟩), (36, ⟨orows a0, []⟩)]) (env' := [(2, .c (.ptr [.lst (rows a0)])), (3, .c (.ptr [.lst (rows a1)])), (6, .c (.lst (ints (RisT a0 a1)))), (7, .c (ci (RisE a0 a1))), (8, .cell 8 0), (9, .cell 9 0), (10, .ref 42), (11, .c (ci (RisE a0 a1)))]) rfl rfl ⟨rfl, rfl, rfl, rfl, rfl, rfl, rfl, rfl, trivial⟩) ?_
      refine aw_regionD (kd := kdl [1, 1, 2, 2, 0]) (ord := [0, 1, 2, 3, 4]) [] mixed (by kernel_rfl) ?_
      refine rd_l rfl rfl trivial (ss_loadS rfl rfl rfl rfl) rfl ?_
      refine rd_l rfl rfl trivial (ss_load_struct rfl (Nat.le_of_ble_eq_true rfl)) rfl ?_
      obtain ⟨q24, h⟩ := h
      refine rd_w rfl rfl trivial rfl rfl (ws_call (xs := [.tmp 55]) (ids := [56]) rfl rfl rfl rfl (c_laws_toRack a0 q24) rfl ?_ )
      rintro _ rfl
      refine ⟨rfl, ?_⟩
      obtain ⟨q26, h⟩ := h
      refine rd_w rfl rfl trivial rfl rfl (ws_callR (xs := [.tmp 54, .tmp 56]) (cs := [.agg [.own (orows a0)], .agg [.own (orows a0)]]) (ids := []) rfl (.inr ⟨rfl, rfl⟩) rfl rfl (fz_cons (fz_agg (fz_cons (fz_own (fz_map (fun _ => (fz_own (fz_map (fun _ => rfl) _))) _)) fz_nil)) (fz_cons (fz_agg (fz_cons (fz_own (fz_map (fun _ => (fz_own (fz_map (fun _ => rfl) _))) _)) fz_nil)) fz_nil)) (c_laws_eqRack a0 a0 q26) rfl ?_ )
      rintro _ rfl
      refine ⟨rfl, rfl, ?_⟩
      refine rd_s rfl rfl trivial (ss_not rfl) rfl ?_
      refine rd_nil ?_
      refine aw_cond rfl (fun q28 => ?_) (fun q28 => ?_)
      ·replace h := h.1 (of_decide_eq_false (bnot_t q28))
       refine aw_seq ?_
       refine aw_gh (gh_to (n := 119) (σ' := [(56, ⟨orows a0, []⟩), (42, ⟨ints (RisT a0 a1), []⟩), (9, ⟨[.hole], [(0, .ref 38)]⟩), (38, ⟨orows a1, []⟩), (8, ⟨[.hole], [(0, .ref 36)]⟩), (36, ⟨orows a0, []⟩)]) (env' := []) rfl rfl trivial) ?_
       refine aw_region ?_
       refine run_s (ss_assign rfl) rfl ?_
       refine run_nil ?_
       refine aw_ret ?_
       exact retAF_mk (retv1 rfl (rv_tmp rfl)) rfl rfl ⟨_, (cle_refl _), _, h, rfl⟩
      ·replace h := h.2 (of_decide_eq_true (bnot_f q28))
       refine aw_skip ?_
       refine aw_seq ?_
       refine aw_seq ?_
       refine aw_gh (gh_to (n := 119) (σ' := [(56, ⟨orows a0, []⟩), (42, ⟨ints (RisT a0 a1), []⟩), (9, ⟨[.hole], [(0, .ref 38)]⟩), (38, ⟨orows a1, []⟩), (8, ⟨[.hole], [(0, .ref 36)]⟩), (36, ⟨orows a0, []⟩)]) (env' := [(2, .c (.ptr [.lst (rows a0)])), (3, .c (.ptr [.lst (rows a1)])), (6, .c (.lst (ints (RisT a0 a1)))), (7, .c (ci (RisE a0 a1))), (8, .cell 8 0), (9, .cell 9 0), (10, .ref 42), (11, .c (ci (RisE a0 a1)))]) rfl rfl ⟨rfl, rfl, rfl, rfl, rfl, rfl, rfl, rfl, trivial⟩) ?_
       refine aw_regionD (kd := kdl [1, 1, 2, 2, 0]) (ord := [0, 1, 2, 3, 4]) [] mixed (by kernel_rfl) ?_
       refine rd_l rfl rfl trivial (ss_loadS rfl rfl rfl rfl) rfl ?_
       refine rd_l rfl rfl trivial (ss_load_struct rfl (Nat.le_of_ble_eq_true rfl)) rfl ?_
       obtain ⟨q29, h⟩ := h
       refine rd_w rfl rfl trivial rfl rfl (ws_call (xs := [.tmp 60]) (ids := [61]) rfl rfl rfl rfl (c_laws_toRack a1 q29) rfl ?_ )
       rintro _ rfl
       refine ⟨rfl, ?_⟩
       obtain ⟨q31, h⟩ := h
       refine rd_w rfl rfl trivial rfl rfl (ws_callR (xs := [.tmp 59, .tmp 61]) (cs := [.agg [.own (orows a1)], .agg [.own (orows a1)]]) (ids := []) rfl (.inr ⟨rfl, rfl⟩) rfl rfl (fz_cons (fz_agg (fz_cons (fz_own (fz_map (fun _ => (fz_own (fz_map (fun _ => rfl) _))) _)) fz_nil)) (fz_cons (fz_agg (fz_cons (fz_own (fz_map (fun _ => (fz_own (fz_map (fun _ => rfl) _))) _)) fz_nil)) fz_nil)) (c_laws_eqRack a1 a1 q31) rfl ?_ )
       rintro _ rfl
       refine ⟨rfl, rfl, ?_⟩
       refine rd_s rfl rfl trivial (ss_not rfl) rfl ?_
       refine rd_nil ?_
       refine aw_cond rfl (fun q33 => ?_) (fun q33 => ?_)
       ·replace h := h.1 (of_decide_eq_false (bnot_t q33))
        refine aw_seq ?_
        refine aw_gh (gh_to (n := 119) (σ' := [(61, ⟨orows a1, []⟩), (56, ⟨orows a0, []⟩), (42, ⟨ints (RisT a0 a1), []⟩), (9, ⟨[.hole], [(0, .ref 38)]⟩), (38, ⟨orows a1, []⟩), (8, ⟨[.hole], [(0, .ref 36)]⟩), (36, ⟨orows a0, []⟩)]) (env' := []) rfl rfl trivial) ?_
        refine aw_region ?_
        refine run_s (ss_assign rfl) rfl ?_
        refine run_nil ?_
        refine aw_ret ?_
        exact retAF_mk (retv1 rfl (rv_tmp rfl)) rfl rfl ⟨_, (cle_refl _), _, h, rfl⟩
       ·replace h := h.2 (of_decide_eq_true (bnot_f q33))
        refine aw_skip ?_
        refine aw_seq ?_
        refine aw_region ?_
        refine run_s (ss_assign rfl) rfl ?_
        refine run_nil ?_
        refine aw_seq ?_
        refine aw_region ?_
        refine run_s (ss_loadS rfl rfl rfl rfl) rfl ?_
        refine run_s (ss_move rfl) rfl ?_
        obtain ⟨q34, h⟩ := h
        refine run_w (ws_callM (xs := [.tmp 64, .tmp 65]) (cs := [.agg [.own (orows a0)], ci 1]) (ids := []) rfl (.inr ⟨rfl, rfl⟩) rfl rfl rfl (c_laws_markRack a0 1 q34) rfl rfl ?_ )
        rintro _ _ ⟨rfl, rfl⟩
        refine ⟨rfl, rfl, ?_⟩
        refine run_s (ss_assign rfl) rfl ?_
        refine run_nil ?_
        refine aw_seq ?_
        refine aw_region ?_
        refine run_s (ss_loadS rfl rfl rfl rfl) rfl ?_
        refine run_s (ss_move rfl) rfl ?_
        obtain ⟨q36, h⟩ := h
        refine run_w (ws_callM (xs := [.tmp 67, .tmp 68]) (cs := [.agg [.own (orows a1)], ci ((1 : Int) + tot a0)]) (ids := []) rfl (.inr ⟨rfl, rfl⟩) rfl rfl rfl (c_laws_markRack a1 ((1 : Int) + tot a0) q36) rfl rfl ?_ )
        rintro _ _ ⟨rfl, rfl⟩
        refine ⟨rfl, rfl, ?_⟩
        refine run_s (ss_assign rfl) rfl ?_
        refine run_nil ?_
        refine aw_seq ?_
        refine aw_seq ?_
        refine aw_region ?_
        refine run_s (ss_move rfl) rfl ?_
        refine run_s (ss_lss rfl rfl) rfl ?_
        refine run_s (ss_move rfl) rfl ?_
        refine run_split (s := 72) rfl (fun q38 => ?_) (fun q38 => ?_)
        ·replace h := h.1 (of_decide_eq_true q38)
         refine run_gf rfl rfl q38 rfl ?_
         refine run_gf rfl rfl q38 rfl ?_
         refine run_gf rfl rfl q38 rfl ?_
         refine run_gf rfl rfl q38 rfl ?_
         refine run_s (ss_pickT rfl q38 rfl) rfl ?_
         refine run_s (ss_move rfl) rfl ?_
         refine run_split (s := 78) rfl (fun q39 => ?_) (fun q39 => ?_)
         ·skip
          refine run_gf rfl rfl q39 rfl ?_
          refine run_gf rfl rfl q39 rfl ?_
          refine run_gf rfl rfl q39 rfl ?_
          refine run_s (ss_pickT rfl q39 rfl) rfl ?_
          refine run_nil ?_
          refine aw_cond rfl (fun q40 => ?_) (fun q40 => ?_)
          ·skip
           refine aw_seq ?_
           refine aw_gh (gh_to (n := 119) (σ' := [(61, ⟨orows a1, []⟩), (56, ⟨orows a0, []⟩), (42, ⟨ints (RisT a0 a1), []⟩), (9, ⟨[.hole], [(0, .ref 38)]⟩), (38, ⟨orows (mkII ((1 : Int) + tot a0) a1), []⟩), (8, ⟨[.hole], [(0, .ref 36)]⟩), (36, ⟨orows (mkII (1 : Int) a0), []⟩)]) (env' := []) rfl rfl trivial) ?_
           refine aw_region ?_
           refine run_s (ss_assign rfl) rfl ?_
           refine run_nil ?_
           refine aw_ret ?_
           exact retAF_mk (retv1 rfl (rv_tmp rfl)) rfl rfl ⟨_, (cle_refl _), _, h, rfl⟩
          ·cases q40
         ·cases q39
        ·replace h := h.2 (of_decide_eq_false q38)
         refine run_gt rfl rfl q38 ?_
         refine run_s (ss_move rfl) rfl ?_
         refine run_gt rfl rfl q38 ?_
         refine run_s (ss_move rfl) rfl ?_
         refine run_gt rfl rfl q38 ?_
         obtain ⟨q41, h⟩ := h
         refine run_w (ws_callR (xs := [.tmp 73, .tmp 74]) (cs := [.own (ints (RisT a0 a1)), .lst (ints (RisT a0 a1))]) (ids := []) rfl (.inr ⟨rfl, rfl⟩) rfl rfl (fz_cons (fz_own (fz_map (fun _ => rfl) _)) (fz_cons rfl fz_nil)) (c_laws_eqInt64S (RisT a0 a1) (RisT a0 a1) q41) rfl ?_ )
         rintro _ rfl
         refine ⟨rfl, rfl, ?_⟩
         refine run_gt rfl rfl q38 ?_
         refine run_s (ss_not rfl) rfl ?_
         refine run_s (ss_pickF rfl q38 rfl) rfl ?_
         refine run_s (ss_move rfl) rfl ?_
         refine run_split (s := 78) rfl (fun q43 => ?_) (fun q43 => ?_)
         ·replace h := h.1 (of_decide_eq_false (bnot_t q43))
          refine run_gf rfl rfl q43 rfl ?_
          refine run_gf rfl rfl q43 rfl ?_
          refine run_gf rfl rfl q43 rfl ?_
          refine run_s (ss_pickT rfl q43 rfl) rfl ?_
          refine run_nil ?_
          refine aw_cond rfl (fun q44 => ?_) (fun q44 => ?_)
          ·skip
           refine aw_seq ?_
           refine aw_gh (gh_to (n := 119) (σ' := [(61, ⟨orows a1, []⟩), (56, ⟨orows a0, []⟩), (42, ⟨ints (RisT a0 a1), []⟩), (9, ⟨[.hole], [(0, .ref 38)]⟩), (38, ⟨orows (mkII ((1 : Int) + tot a0) a1), []⟩), (8, ⟨[.hole], [(0, .ref 36)]⟩), (36, ⟨orows (mkII (1 : Int) a0), []⟩)]) (env' := []) rfl rfl trivial) ?_
           refine aw_region ?_
           refine run_s (ss_assign rfl) rfl ?_
           refine run_nil ?_
           refine aw_ret ?_
           exact retAF_mk (retv1 rfl (rv_tmp rfl)) rfl rfl ⟨_, (cle_refl _), _, h, rfl⟩
          ·cases q44
         ·replace h := h.2 (of_decide_eq_true (bnot_f q43))
          refine run_gt rfl rfl q43 ?_
          refine run_s (ss_move rfl) rfl ?_
          refine run_gt rfl rfl q43 ?_
          refine run_s (ss_move rfl) rfl ?_
          refine run_gt rfl rfl q43 ?_
          refine run_s (ss_neq rfl rfl) rfl ?_
          refine run_s (ss_pickF rfl q43 rfl) rfl ?_
          refine run_nil ?_
          refine aw_cond rfl (fun q45 => ?_) (fun q45 => ?_)
          ·replace h := h.1 (of_decide_eq_false (bnot_t q45))
           refine aw_seq ?_
           refine aw_gh (gh_to (n := 119) (σ' := [(61, ⟨orows a1, []⟩), (56, ⟨orows a0, []⟩), (42, ⟨ints (RisT a0 a1), []⟩), (9, ⟨[.hole], [(0, .ref 38)]⟩), (38, ⟨orows (mkII ((1 : Int) + tot a0) a1), []⟩), (8, ⟨[.hole], [(0, .ref 36)]⟩), (36, ⟨orows (mkII (1 : Int) a0), []⟩)]) (env' := []) rfl rfl trivial) ?_
           refine aw_region ?_
           refine run_s (ss_assign rfl) rfl ?_
           refine run_nil ?_
           refine aw_ret ?_
           exact retAF_mk (retv1 rfl (rv_tmp rfl)) rfl rfl ⟨_, (cle_refl _), _, h, rfl⟩
          ·replace h := h.2 (of_decide_eq_true (bnot_f q45))
           refine aw_skip ?_
           refine aw_seq ?_
           refine aw_gh (gh_to (n := 119) (σ' := [(61, ⟨orows a1, []⟩), (56, ⟨orows a0, []⟩), (42, ⟨ints (RisT a0 a1), []⟩), (9, ⟨[.hole], [(0, .ref 38)]⟩), (38, ⟨orows (mkII ((1 : Int) + tot a0) a1), []⟩), (8, ⟨[.hole], [(0, .ref 36)]⟩), (36, ⟨orows (mkII (1 : Int) a0), []⟩)]) (env' := [(2, .c (.ptr [.lst (rows a0)])), (3, .c (.ptr [.lst (rows a1)])), (6, .c (.lst (ints (RisT a0 a1)))), (7, .c (ci (RisE a0 a1))), (10, .ref 42)]) rfl rfl ⟨rfl, rfl, rfl, rfl, rfl, trivial⟩) ?_
           refine aw_region ?_
           refine run_s (ss_assign rfl) rfl ?_
           refine run_nil ?_
           refine aw_seq ?_
           refine aw_region ?_
           refine run_s (ss_move rfl) rfl ?_
           refine run_s (ss_move rfl) rfl ?_
           obtain ⟨q46, h⟩ := h
           refine run_w (ws_callM (xs := [.tmp 83, .tmp 84]) (cs := [.own (ints (RisT a0 a1)), ci 1]) (ids := []) rfl (.inr ⟨rfl, rfl⟩) rfl rfl rfl (c_laws_markInt64S (RisT a0 a1) 1 q46) rfl rfl ?_ )
           rintro _ _ ⟨rfl, rfl⟩
           refine ⟨rfl, rfl, ?_⟩
           refine run_s (ss_assign rfl) rfl ?_
           refine run_nil ?_
           refine aw_seq ?_
           refine aw_region ?_
           refine run_s (ss_assign rfl) rfl ?_
           refine run_nil ?_
           refine aw_seq ?_
           refine aw_region ?_
           refine run_s (ss_move rfl) rfl ?_
           refine run_s (ss_move rfl) rfl ?_
           obtain ⟨q48, h⟩ := h
           refine run_w (ws_callR (xs := [.tmp 86, .tmp 87]) (cs := [.own (ints (mkI (1 : Int) (RisT a0 a1))), ci 1]) (ids := []) rfl (.inr ⟨rfl, rfl⟩) rfl rfl (fz_cons (fz_own (fz_map (fun _ => rfl) _)) (fz_cons rfl fz_nil)) (c_laws_heldInt64S (mkI (1 : Int) (RisT a0 a1)) 1 q48) rfl ?_ )
           rintro _ rfl
           refine ⟨rfl, rfl, ?_⟩
           refine run_s (ss_assign rfl) rfl ?_
           refine run_nil ?_
           refine aw_seq ?_
           refine aw_seq ?_
           refine aw_gh (gh_to (n := 119) (σ' := [(61, ⟨orows a1, []⟩), (56, ⟨orows a0, []⟩), (42, ⟨ints (mkI (1 : Int) (RisT a0 a1)), []⟩), (9, ⟨[.hole], [(0, .ref 38)]⟩), (38, ⟨orows (mkII ((1 : Int) + tot a0) a1), []⟩), (8, ⟨[.hole], [(0, .ref 36)]⟩), (36, ⟨orows (mkII (1 : Int) a0), []⟩)]) (env' := [(2, .c (.ptr [.lst (rows a0)])), (3, .c (.ptr [.lst (rows a1)])), (6, .c (.lst (ints (RisT a0 a1)))), (7, .c (ci (RisE a0 a1))), (10, .ref 42), (13, .c (ci ((1 : Int) + ((RisT a0 a1).length : Int)))), (14, .c (ci (heI (1 : Int) (mkI (1 : Int) (RisT a0 a1)))))]) rfl rfl ⟨rfl, rfl, rfl, rfl, rfl, rfl, rfl, trivial⟩) ?_
           refine aw_region ?_
           refine run_s (ss_move rfl) rfl ?_
           refine run_s (ss_lss rfl rfl) rfl ?_
           refine run_nil ?_
           refine aw_cond rfl (fun q50 => ?_) (fun q50 => ?_)
           ·replace h := h.1 (of_decide_eq_true q50)
            refine aw_seq ?_
            refine aw_gh (gh_to (n := 119) (σ' := [(61, ⟨orows a1, []⟩), (56, ⟨orows a0, []⟩), (42, ⟨ints (mkI (1 : Int) (RisT a0 a1)), []⟩), (9, ⟨[.hole], [(0, .ref 38)]⟩), (38, ⟨orows (mkII ((1 : Int) + tot a0) a1), []⟩), (8, ⟨[.hole], [(0, .ref 36)]⟩), (36, ⟨orows (mkII (1 : Int) a0), []⟩)]) (env' := []) rfl rfl trivial) ?_
            refine aw_region ?_
            refine run_s (ss_assign rfl) rfl ?_
            refine run_nil ?_
            refine aw_ret ?_
            exact retAF_mk (retv1 rfl (rv_tmp rfl)) rfl rfl ⟨_, (cle_refl _), _, h, rfl⟩
           ·replace h := h.2 (of_decide_eq_false q50)
            refine aw_skip ?_
            refine aw_seq ?_
            refine aw_seq ?_
            refine aw_region ?_
            refine run_s (ss_move rfl) rfl ?_
            refine run_s (ss_move rfl) rfl ?_
            refine run_s (ss_neq rfl rfl) rfl ?_
            refine run_nil ?_
            refine aw_cond rfl (fun q51 => ?_) (fun q51 => ?_)
            ·replace h := h.1 (of_decide_eq_false (bnot_t q51))
             refine aw_seq ?_
             refine aw_gh (gh_to (n := 119) (σ' := [(61, ⟨orows a1, []⟩), (56, ⟨orows a0, []⟩), (42, ⟨ints (mkI (1 : Int) (RisT a0 a1)), []⟩), (9, ⟨[.hole], [(0, .ref 38)]⟩), (38, ⟨orows (mkII ((1 : Int) + tot a0) a1), []⟩), (8, ⟨[.hole], [(0, .ref 36)]⟩), (36, ⟨orows (mkII (1 : Int) a0), []⟩)]) (env' := []) rfl rfl trivial) ?_
             refine aw_region ?_
             refine run_s (ss_assign rfl) rfl ?_
             refine run_nil ?_
             refine aw_ret ?_
             exact retAF_mk (retv1 rfl (rv_tmp rfl)) rfl rfl ⟨_, (cle_refl _), _, h, rfl⟩
            ·replace h := h.2 (of_decide_eq_true (bnot_f q51))
             refine aw_skip ?_
             refine aw_seq ?_
             refine aw_gh (gh_to (n := 119) (σ' := [(61, ⟨orows a1, []⟩), (56, ⟨orows a0, []⟩), (42, ⟨ints (mkI (1 : Int) (RisT a0 a1)), []⟩), (9, ⟨[.hole], [(0, .ref 38)]⟩), (38, ⟨orows (mkII ((1 : Int) + tot a0) a1), []⟩), (8, ⟨[.hole], [(0, .ref 36)]⟩), (36, ⟨orows (mkII (1 : Int) a0), []⟩)]) (env' := [(2, .c (.ptr [.lst (rows a0)])), (3, .c (.ptr [.lst (rows a1)])), (6, .c (.lst (ints (RisT a0 a1)))), (7, .c (ci (RisE a0 a1))), (10, .ref 42), (13, .c (ci ((1 : Int) + ((RisT a0 a1).length : Int))))]) rfl rfl ⟨rfl, rfl, rfl, rfl, rfl, rfl, trivial⟩) ?_
             refine aw_regionD (kd := kdl [1, 2, 1, 2, 2, 0, 0, 0, 0, 0]) (ord := [0, 2, 1, 3, 4, 5, 6, 7, 8, 9]) [] mixed (by kernel_rfl) ?_
             refine rd_l rfl rfl trivial (ss_load_struct rfl (Nat.le_of_ble_eq_true rfl)) rfl ?_
             refine rd_l rfl rfl trivial (ss_load_struct rfl (Nat.le_of_ble_eq_true rfl)) rfl ?_
             obtain ⟨q52, h⟩ := h
             refine rd_w rfl rfl trivial rfl rfl (ws_call (xs := [.tmp 95]) (ids := [96]) rfl rfl rfl rfl (c_laws_toRack a0 q52) rfl ?_ )
             rintro _ rfl
             refine ⟨rfl, ?_⟩
             obtain ⟨q54, h⟩ := h
             refine rd_w rfl rfl trivial rfl rfl (ws_call (xs := [.tmp 97]) (ids := [98]) rfl rfl rfl rfl (c_laws_toRack a1 q54) rfl ?_ )
             rintro _ rfl
             refine ⟨rfl, ?_⟩
             obtain ⟨q56, h⟩ := h
             refine rd_w rfl rfl trivial rfl rfl (ws_callR (xs := [.tmp 96, .tmp 98]) (cs := [.agg [.own (orows a0)], .agg [.own (orows a1)]]) (ids := [99]) rfl (.inr ⟨rfl, rfl⟩) rfl rfl (fz_cons (fz_agg (fz_cons (fz_own (fz_map (fun _ => (fz_own (fz_map (fun _ => rfl) _))) _)) fz_nil)) (fz_cons (fz_agg (fz_cons (fz_own (fz_map (fun _ => (fz_own (fz_map (fun _ => rfl) _))) _)) fz_nil)) fz_nil)) (c_impl_RackIsomorphism a0 a1 q56) rfl ?_ )
             rintro _ rfl
             refine ⟨(slf_tup (slf_cons (slf_own (slfL_map (f := ci) (fun _ => rfl) _)) (slf_cons rfl slf_nil))), rfl, ?_⟩
             refine rd_s rfl rfl trivial (ss_move rfl) rfl ?_
             refine rd_s rfl rfl trivial (ss_extract rfl rfl) rfl ?_
             refine rd_s rfl rfl trivial (ss_extract rfl rfl) rfl ?_
             refine rd_s rfl rfl trivial (ss_assign rfl) rfl ?_
             refine rd_s rfl rfl trivial (ss_assign rfl) rfl ?_
             refine rd_nil ?_
             refine aw_seq ?_
             refine aw_seq ?_
             refine aw_gh (gh_to (n := 119) (σ' := [(99, ⟨ints (RisT a0 a1), []⟩), (98, ⟨orows a1, []⟩), (96, ⟨orows a0, []⟩), (61, ⟨orows a1, []⟩), (56, ⟨orows a0, []⟩), (42, ⟨ints (mkI (1 : Int) (RisT a0 a1)), []⟩), (9, ⟨[.hole], [(0, .ref 38)]⟩), (38, ⟨orows (mkII ((1 : Int) + tot a0) a1), []⟩), (8, ⟨[.hole], [(0, .ref 36)]⟩), (36, ⟨orows (mkII (1 : Int) a0), []⟩)]) (env' := [(6, .c (.lst (ints (RisT a0 a1)))), (7, .c (ci (RisE a0 a1))), (10, .ref 42), (13, .c (ci ((1 : Int) + ((RisT a0 a1).length : Int)))), (15, .ref 99), (16, .c (ci (RisE a0 a1)))]) rfl rfl ⟨rfl, rfl, rfl, rfl, rfl, rfl, trivial⟩) ?_
             refine aw_region ?_
             refine run_s (ss_move rfl) rfl ?_
             refine run_s (ss_move rfl) rfl ?_
             obtain ⟨q58, h⟩ := h
             refine run_w (ws_callR (xs := [.tmp 102, .tmp 103]) (cs := [.own (ints (RisT a0 a1)), .lst (ints (RisT a0 a1))]) (ids := []) rfl (.inr ⟨rfl, rfl⟩) rfl rfl (fz_cons (fz_own (fz_map (fun _ => rfl) _)) (fz_cons rfl fz_nil)) (c_laws_eqInt64S (RisT a0 a1) (RisT a0 a1) q58) rfl ?_ )
             rintro _ rfl
             refine ⟨rfl, rfl, ?_⟩
             refine run_s (ss_not rfl) rfl ?_
             refine run_s (ss_move rfl) rfl ?_
             refine run_split (s := 106) rfl (fun q60 => ?_) (fun q60 => ?_)
             ·replace h := h.1 (of_decide_eq_false (bnot_t q60))
              refine run_gf rfl rfl q60 rfl ?_
              refine run_gf rfl rfl q60 rfl ?_
              refine run_gf rfl rfl q60 rfl ?_
              refine run_s (ss_pickT rfl q60 rfl) rfl ?_
              refine run_nil ?_
              refine aw_cond rfl (fun q61 => ?_) (fun q61 => ?_)
              ·skip
               refine aw_seq ?_
               refine aw_gh (gh_to (n := 119) (σ' := [(99, ⟨ints (RisT a0 a1), []⟩), (98, ⟨orows a1, []⟩), (96, ⟨orows a0, []⟩), (61, ⟨orows a1, []⟩), (56, ⟨orows a0, []⟩), (42, ⟨ints (mkI (1 : Int) (RisT a0 a1)), []⟩), (9, ⟨[.hole], [(0, .ref 38)]⟩), (38, ⟨orows (mkII ((1 : Int) + tot a0) a1), []⟩), (8, ⟨[.hole], [(0, .ref 36)]⟩), (36, ⟨orows (mkII (1 : Int) a0), []⟩)]) (env' := []) rfl rfl trivial) ?_
               refine aw_region ?_
               refine run_s (ss_assign rfl) rfl ?_
               refine run_nil ?_
               refine aw_ret ?_
               exact retAF_mk (retv1 rfl (rv_tmp rfl)) rfl rfl ⟨_, (cle_refl _), _, h, rfl⟩
              ·cases q61
             ·replace h := h.2 (of_decide_eq_true (bnot_f q60))
              refine run_gt rfl rfl q60 ?_
              refine run_s (ss_move rfl) rfl ?_
              refine run_gt rfl rfl q60 ?_
              refine run_s (ss_move rfl) rfl ?_
              refine run_gt rfl rfl q60 ?_
              refine run_s (ss_neq rfl rfl) rfl ?_
              refine run_s (ss_pickF rfl q60 rfl) rfl ?_
              refine run_nil ?_
              refine aw_cond rfl (fun q62 => ?_) (fun q62 => ?_)
              ·replace h := h.1 (of_decide_eq_false (bnot_t q62))
               refine aw_seq ?_
               refine aw_gh (gh_to (n := 119) (σ' := [(99, ⟨ints (RisT a0 a1), []⟩), (98, ⟨orows a1, []⟩), (96, ⟨orows a0, []⟩), (61, ⟨orows a1, []⟩), (56, ⟨orows a0, []⟩), (42, ⟨ints (mkI (1 : Int) (RisT a0 a1)), []⟩), (9, ⟨[.hole], [(0, .ref 38)]⟩), (38, ⟨orows (mkII ((1 : Int) + tot a0) a1), []⟩), (8, ⟨[.hole], [(0, .ref 36)]⟩), (36, ⟨orows (mkII (1 : Int) a0), []⟩)]) (env' := []) rfl rfl trivial) ?_
               refine aw_region ?_
               refine run_s (ss_assign rfl) rfl ?_
               refine run_nil ?_
               refine aw_ret ?_
               exact retAF_mk (retv1 rfl (rv_tmp rfl)) rfl rfl ⟨_, (cle_refl _), _, h, rfl⟩
              ·replace h := h.2 (of_decide_eq_true (bnot_f q62))
               refine aw_skip ?_
               refine aw_seq ?_
               refine aw_gh (gh_to (n := 119) (σ' := [(99, ⟨ints (RisT a0 a1), []⟩), (98, ⟨orows a1, []⟩), (96, ⟨orows a0, []⟩), (61, ⟨orows a1, []⟩), (56, ⟨orows a0, []⟩), (42, ⟨ints (mkI (1 : Int) (RisT a0 a1)), []⟩), (9, ⟨[.hole], [(0, .ref 38)]⟩), (38, ⟨orows (mkII ((1 : Int) + tot a0) a1), []⟩), (8, ⟨[.hole], [(0, .ref 36)]⟩), (36, ⟨orows (mkII (1 : Int) a0), []⟩)]) (env' := [(10, .ref 42), (13, .c (ci ((1 : Int) + ((RisT a0 a1).length : Int))))]) rfl rfl ⟨rfl, rfl, trivial⟩) ?_
               refine aw_region ?_
               refine run_s (ss_assign rfl) rfl ?_
               refine run_nil ?_
               refine aw_seq ?_
               refine aw_region ?_
               refine run_s (ss_move rfl) rfl ?_
               refine run_s (ss_move rfl) rfl ?_
               obtain ⟨q63, h⟩ := h
               refine run_w (ws_callR (xs := [.tmp 111, .tmp 112]) (cs := [.own (ints (mkI (1 : Int) (RisT a0 a1))), ci 1]) (ids := []) rfl (.inr ⟨rfl, rfl⟩) rfl rfl (fz_cons (fz_own (fz_map (fun _ => rfl) _)) (fz_cons rfl fz_nil)) (c_laws_heldInt64S (mkI (1 : Int) (RisT a0 a1)) 1 q63) rfl ?_ )
               rintro _ rfl
               refine ⟨rfl, rfl, ?_⟩
               refine run_s (ss_assign rfl) rfl ?_
               refine run_nil ?_
               refine aw_seq ?_
               refine aw_seq ?_
               refine aw_gh (gh_to (n := 119) (σ' := [(99, ⟨ints (RisT a0 a1), []⟩), (98, ⟨orows a1, []⟩), (96, ⟨orows a0, []⟩), (61, ⟨orows a1, []⟩), (56, ⟨orows a0, []⟩), (42, ⟨ints (mkI (1 : Int) (RisT a0 a1)), []⟩), (9, ⟨[.hole], [(0, .ref 38)]⟩), (38, ⟨orows (mkII ((1 : Int) + tot a0) a1), []⟩), (8, ⟨[.hole], [(0, .ref 36)]⟩), (36, ⟨orows (mkII (1 : Int) a0), []⟩)]) (env' := [(13, .c (ci ((1 : Int) + ((RisT a0 a1).length : Int)))), (14, .c (ci (heI (1 : Int) (mkI (1 : Int) (RisT a0 a1)))))]) rfl rfl ⟨rfl, rfl, trivial⟩) ?_
               refine aw_region ?_
               refine run_s (ss_move rfl) rfl ?_
               refine run_s (ss_lss rfl rfl) rfl ?_
               refine run_nil ?_
               refine aw_cond rfl (fun q65 => ?_) (fun q65 => ?_)
               ·replace h := h.1 (of_decide_eq_true q65)
                refine aw_seq ?_
                refine aw_gh (gh_to (n := 119) (σ' := [(99, ⟨ints (RisT a0 a1), []⟩), (98, ⟨orows a1, []⟩), (96, ⟨orows a0, []⟩), (61, ⟨orows a1, []⟩), (56, ⟨orows a0, []⟩), (42, ⟨ints (mkI (1 : Int) (RisT a0 a1)), []⟩), (9, ⟨[.hole], [(0, .ref 38)]⟩), (38, ⟨orows (mkII ((1 : Int) + tot a0) a1), []⟩), (8, ⟨[.hole], [(0, .ref 36)]⟩), (36, ⟨orows (mkII (1 : Int) a0), []⟩)]) (env' := []) rfl rfl trivial) ?_
                refine aw_region ?_
                refine run_s (ss_assign rfl) rfl ?_
                refine run_nil ?_
                refine aw_ret ?_
                exact retAF_mk (retv1 rfl (rv_tmp rfl)) rfl rfl ⟨_, (cle_refl _), _, h, rfl⟩
               ·replace h := h.2 (of_decide_eq_false q65)
                refine aw_skip ?_
                refine aw_seq ?_
                refine aw_seq ?_
                refine aw_region ?_
                refine run_s (ss_move rfl) rfl ?_
                refine run_s (ss_move rfl) rfl ?_
                refine run_s (ss_neq rfl rfl) rfl ?_
                refine run_nil ?_
                refine aw_cond rfl (fun q66 => ?_) (fun q66 => ?_)
                ·replace h := h.1 (of_decide_eq_false (bnot_t q66))
                 refine aw_seq ?_
                 refine aw_gh (gh_to (n := 119) (σ' := [(99, ⟨ints (RisT a0 a1), []⟩), (98, ⟨orows a1, []⟩), (96, ⟨orows a0, []⟩), (61, ⟨orows a1, []⟩), (56, ⟨orows a0, []⟩), (42, ⟨ints (mkI (1 : Int) (RisT a0 a1)), []⟩), (9, ⟨[.hole], [(0, .ref 38)]⟩), (38, ⟨orows (mkII ((1 : Int) + tot a0) a1), []⟩), (8, ⟨[.hole], [(0, .ref 36)]⟩), (36, ⟨orows (mkII (1 : Int) a0), []⟩)]) (env' := []) rfl rfl trivial) ?_
                 refine aw_region ?_
                 refine run_s (ss_assign rfl) rfl ?_
                 refine run_nil ?_
                 refine aw_ret ?_
                 exact retAF_mk (retv1 rfl (rv_tmp rfl)) rfl rfl ⟨_, (cle_refl _), _, h, rfl⟩
                ·replace h := h.2 (of_decide_eq_true (bnot_f q66))
                 refine aw_skip ?_
                 refine aw_seq ?_
                 refine aw_gh (gh_to (n := 119) (σ' := [(99, ⟨ints (RisT a0 a1), []⟩), (98, ⟨orows a1, []⟩), (96, ⟨orows a0, []⟩), (61, ⟨orows a1, []⟩), (56, ⟨orows a0, []⟩), (42, ⟨ints (mkI (1 : Int) (RisT a0 a1)), []⟩), (9, ⟨[.hole], [(0, .ref 38)]⟩), (38, ⟨orows (mkII ((1 : Int) + tot a0) a1), []⟩), (8, ⟨[.hole], [(0, .ref 36)]⟩), (36, ⟨orows (mkII (1 : Int) a0), []⟩)]) (env' := []) rfl rfl trivial) ?_
                 refine aw_region ?_
                 refine run_s (ss_assign rfl) rfl ?_
                 refine run_nil ?_
                 refine aw_ret ?_
                 exact retAF_mk (retv1 rfl (rv_tmp rfl)) rfl rfl ⟨_, (cle_refl _), _, h, rfl⟩

theorem c_laws_FnExactRackIsomorphism (a0 : List (List Int)) (a1 : List (List Int)) (hp : huge2 a0 ∧ huge2 a1) : AF Try.prog 3 [.agg [.lst (rows a0)], .agg [.lst (rows a1)]] (fun R_ => R_ = cb true) :=
  (w_laws_FnExactRackIsomorphism a0 a1 (fun y0 => y0 = true) (p_laws_FnExactRackIsomorphism a0 a1 hp)).mono (by rintro r ⟨_, rfl, rfl⟩; rfl)

end Go.Proofs.Ytkmoeodoidpjkaa

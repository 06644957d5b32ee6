/- Contracts of functions that the law FnExactCountRackAutomorphisms reaches: conditions, plain proofs, walks; no condition. -/
import Derived.Test.YtfpkpefokcphpaaKECountRackAutomorphismsc
import Derived.Test.YtfpkpefokcphpaaPP
namespace Go.Proofs.Ytfpkpefokcphpaa

set_option maxRecDepth 100000 in
set_option maxHeartbeats 4000000 in
theorem w_spec_l03Seek (a : List (List (List Int))) (b : List (List (List Int))) (f : List Int) (first : List Int) (second : List Int) (most : Int) (out : List (List Int)) (Q : List (List Int) → Prop) (hrec : ∀ (a' : List (List (List Int))) (b' : List (List (List Int))) (f' : List Int) (first' : List Int) (second' : List Int) (most' : Int) (out' : List (List Int)), ((el a' 0).length - f'.length) < ((el a 0).length - f.length) → (SkD a' b' f' first' second' most' out') → AM Try.prog 72 [.lst (tabs a'), .lst (tabs b'), .lst (ints f'), .lst (ints first'), .lst (ints second'), ci most', .own (orows out')] (fun R_ O_ => R_ = .own (orows (out' ++ (extL a' b' (padM f' first')).take (most' - (out'.length : Int)).toNat)) ∧ O_ = [.lst (tabs a'), .lst (tabs b'), .lst (ints f'), .lst (ints first'), .lst (ints second'), ci most', .hole])) (h : wp_spec_l03Seek a b f first second most out Q) : AM Try.prog 72 [.lst (tabs a), .lst (tabs b), .lst (ints f), .lst (ints first), .lst (ints second), ci most, .own (orows out)] (fun R_ O_ => ∃ y0, Q y0 ∧ R_ = .own (orows y0) ∧ O_ = [.lst (tabs a), .lst (tabs b), .lst (ints f), .lst (ints first), .lst (ints second), ci most, .hole]) := by
  refine am_enter (n := 101) (m := 7) Try.func72 rfl (by rfl) rfl rfl (Nat.le_of_ble_eq_true rfl) [800] rfl ?_
  unfold wp_spec_l03Seek at h
  refine aw_gh (gh_to (n := 101) (σ' := [(800, ⟨orows out, []⟩)]) (env' := [(0, .c (.lst (tabs a))), (1, .c (.lst (tabs b))), (2, .c (.lst (ints f))), (3, .c (.lst (ints first))), (4, .c (.lst (ints second))), (5, .c (ci most)), (6, .ref 800), (101, .c (.lst (tabs a))), (102, .c (.lst (tabs b))), (103, .c (.lst (ints f))), (104, .c (.lst (ints first))), (105, .c (.lst (ints second))), (106, .c (ci most))]) rfl rfl ⟨rfl, rfl, rfl, rfl, rfl, rfl, rfl, rfl, rfl, rfl, rfl, rfl, rfl, trivial⟩) ?_
  refine aw_seq ?_
  refine aw_gh (gh_to (n := 101) (σ' := [(800, ⟨orows out, []⟩)]) (env' := [(0, .c (.lst (tabs a))), (1, .c (.lst (tabs b))), (2, .c (.lst (ints f))), (3, .c (.lst (ints first))), (4, .c (.lst (ints second))), (5, .c (ci most)), (6, .ref 800), (101, .c (.lst (tabs a))), (102, .c (.lst (tabs b))), (103, .c (.lst (ints f))), (104, .c (.lst (ints first))), (105, .c (.lst (ints second))), (106, .c (ci most))]) rfl rfl ⟨rfl, rfl, rfl, rfl, rfl, rfl, rfl, rfl, rfl, rfl, rfl, rfl, rfl, trivial⟩) ?_
  refine aw_region ?_
  refine run_s (ss_assign rfl) rfl ?_
  refine run_nil ?_
  refine aw_seq ?_
  refine aw_region ?_
  refine run_s (ss_move rfl) rfl ?_
  refine run_s (ss_lenL (f := ci) rfl) rfl ?_
  refine run_s (ss_assign rfl) rfl ?_
  refine run_nil ?_
  refine aw_seq ?_
  refine aw_seq ?_
  refine aw_region ?_
  refine run_s (ss_move rfl) rfl ?_
  refine run_s (ss_move rfl) rfl ?_
  refine run_s (ss_lenL (f := ci) rfl) rfl ?_
  refine run_s (ss_eql rfl rfl) rfl ?_
  refine run_nil ?_
  refine aw_cond rfl (fun q1 => ?_) (fun q1 => ?_)
  ·replace h := h.1 (of_decide_eq_true q1)
   refine aw_seq ?_
   refine aw_gh (gh_to (n := 101) (σ' := [(800, ⟨orows out, []⟩)]) (env' := [(2, .c (.lst (ints f))), (6, .ref 800), (14, .c (cnil)), (101, .c (.lst (tabs a))), (102, .c (.lst (tabs b))), (103, .c (.lst (ints f))), (104, .c (.lst (ints first))), (105, .c (.lst (ints second))), (106, .c (ci most))]) rfl rfl ⟨rfl, rfl, rfl, rfl, rfl, rfl, rfl, rfl, rfl, trivial⟩) ?_
   refine aw_region ?_
   refine run_s (ss_move rfl) rfl ?_
   refine run_s (ss_move rfl) rfl ?_
   obtain ⟨q2, h⟩ := h
   refine run_w (ws_call (xs := [.tmp 30]) (ids := [31]) rfl rfl rfl rfl (c_spec_l01Own f q2) rfl ?_ )
   rintro _ rfl
   refine ⟨rfl, ?_⟩
   refine run_w (ws_buildSlice (id := 32) (ps := [(0, .tmp 31)]) rfl rfl (Nat.le_of_ble_eq_true rfl) rfl ⟨rfl, ?_⟩)
   refine run_gh (gh_fill (id := 32) (id2 := 31) (j := 0) rfl rfl (Nat.le_of_ble_eq_true rfl) rfl rfl rfl) ?_
   obtain ⟨q4, h⟩ := h
   refine run_w (ws_app1 (fun r => C.own (ints r)) (l := out) (m := [f]) rfl rfl rfl rfl rfl (Nat.le_of_ble_eq_true rfl) q4 ⟨rfl, ?_⟩)
   refine run_s (ss_assign rfl) rfl ?_
   refine run_nil ?_
   refine aw_ret ?_
   exact retAM_mk (retv1 rfl (rv_tmp rfl)) rfl rfl rfl ⟨_, h, rfl, rfl⟩
  ·replace h := h.2 (of_decide_eq_false q1)
   refine aw_skip ?_
   refine aw_seq ?_
   refine aw_seq ?_
   refine aw_region ?_
   refine run_s (ss_assign rfl) rfl ?_
   refine run_nil ?_
   refine aw_block ?_
   obtain ⟨H1, m1, q5, h⟩ := h
   refine aw_loop2 (fun (v16_1 : Int) (o800_1 : List (List Int)) => ⟨[(800, ⟨orows o800_1, []⟩)], [(0, .c (.lst (tabs a))), (1, .c (.lst (tabs b))), (2, .c (.lst (ints f))), (3, .c (.lst (ints first))), (4, .c (.lst (ints second))), (5, .c (ci most)), (6, .ref 800), (15, .c (ci (f.length : Int))), (16, .c (ci v16_1)), (101, .c (.lst (tabs a))), (102, .c (.lst (tabs b))), (103, .c (.lst (ints f))), (104, .c (.lst (ints first))), (105, .c (.lst (ints second))), (106, .c (ci most))], 101⟩) H1 m1 ⟨0, out, ghe_to (n := 101) rfl rfl ⟨rfl, rfl, rfl, rfl, rfl, rfl, rfl, rfl, rfl, rfl, rfl, rfl, rfl, rfl, rfl, trivial⟩, q5⟩ ?_
   rintro v16_1 o800_1 q5
   replace h := h v16_1 o800_1 q5
   refine aw_seq ?_
   refine aw_seq ?_
   refine aw_region ?_
   refine run_s (ss_move rfl) rfl ?_
   refine run_s (ss_move rfl) rfl ?_
   refine run_s (ss_lenL (f := ci) rfl) rfl ?_
   refine run_s (ss_lss rfl rfl) rfl ?_
   refine run_s (ss_move rfl) rfl ?_
   refine run_split (s := 38) rfl (fun q6 => ?_) (fun q6 => ?_)
   ·replace h := h.1 (of_decide_eq_true q6)
    refine run_gt rfl rfl q6 ?_
    refine run_s (ss_move rfl) rfl ?_
    refine run_gt rfl rfl q6 ?_
    refine run_s (ss_lenR (f := (fun r => C.own (ints r))) rfl rfl) rfl ?_
    refine run_gt rfl rfl q6 ?_
    refine run_s (ss_move rfl) rfl ?_
    refine run_gt rfl rfl q6 ?_
    refine run_s (ss_lss rfl rfl) rfl ?_
    refine run_s (ss_pickT rfl q6 rfl) rfl ?_
    refine run_nil ?_
    refine aw_cond rfl (fun q7 => ?_) (fun q7 => ?_)
    ·replace h := h.1 (of_decide_eq_true q7)
     refine aw_skip ?_
     refine aw_seq ?_
     refine aw_block ?_
     refine aw_seq ?_
     refine aw_region ?_
     refine run_s (ss_move rfl) rfl ?_
     obtain ⟨q8, h⟩ := h
     refine run_w (ws_call (xs := [.tmp 46]) (ids := [47]) rfl rfl rfl rfl (c_spec_l01Own f q8) rfl ?_ )
     rintro _ rfl
     refine ⟨rfl, ?_⟩
     refine run_s (ss_move rfl) rfl ?_
     refine run_w (ws_buildSlice (id := 49) (ps := [(0, .tmp 48)]) rfl rfl (Nat.le_of_ble_eq_true rfl) rfl ⟨rfl, ?_⟩)
     obtain ⟨q10, h⟩ := h
     refine run_w (ws_app1 ci (l := f) (m := [v16_1]) rfl rfl rfl rfl rfl (Nat.le_of_ble_eq_true rfl) q10 ⟨rfl, ?_⟩)
     refine run_s (ss_assign rfl) rfl ?_
     refine run_nil ?_
     refine aw_seq ?_
     refine aw_seq ?_
     refine aw_gh (gh_to (n := 101) (σ' := [(47, ⟨ints (f ++ ([v16_1])), []⟩), (800, ⟨orows o800_1, []⟩)]) (env' := [(0, .c (.lst (tabs a))), (1, .c (.lst (tabs b))), (2, .c (.lst (ints f))), (3, .c (.lst (ints first))), (4, .c (.lst (ints second))), (5, .c (ci most)), (6, .ref 800), (15, .c (ci (f.length : Int))), (16, .c (ci v16_1)), (17, .ref 47), (39, .ref 800), (40, .c (ci (o800_1.length : Int))), (41, .c (ci most)), (42, .c (cb (decide ((o800_1.length : Int) < most)))), (101, .c (.lst (tabs a))), (102, .c (.lst (tabs b))), (103, .c (.lst (ints f))), (104, .c (.lst (ints first))), (105, .c (.lst (ints second))), (106, .c (ci most))]) rfl rfl ⟨rfl, rfl, rfl, rfl, rfl, rfl, rfl, rfl, rfl, rfl, rfl, rfl, rfl, rfl, rfl, rfl, rfl, rfl, rfl, rfl, trivial⟩) ?_
     refine aw_regionD (kd := kdl [0, 0, 2, 0, 0, 0, 0, 1, 0, 0, 0, 1, 0, 0, 0, 0, 0, 0, 2, 0, 0]) (ord := [0, 1, 2, 3, 4, 5, 6, 8, 9, 10, 7, 11, 12, 13, 14, 15, 16, 17, 18, 19, 20]) [] mixed (by kernel_rfl) ?_
     refine rd_s rfl rfl trivial (ss_move rfl) rfl ?_
     refine rd_s rfl rfl trivial (ss_move rfl) rfl ?_
     obtain ⟨q11, h⟩ := h
     refine rd_w rfl rfl trivial rfl rfl (ws_call (xs := [.tmp 51, .tmp 52]) (ids := []) rfl rfl rfl rfl (c_spec_l01Has f v16_1 q11) rfl ?_ )
     rintro _ rfl
     refine ⟨rfl, ?_⟩
     refine rd_s rfl rfl trivial (ss_move rfl) rfl ?_
     refine rd_split (s := 54) rfl (fun q13 => ?_) (fun q13 => ?_)
     ·replace h := h.1 (q13)
      refine rd_no rfl rfl rfl q13 rfl ?_
      refine rd_no rfl rfl rfl q13 rfl ?_
      refine rd_no rfl rfl rfl q13 rfl ?_
      refine rd_no rfl rfl rfl q13 rfl ?_
      refine rd_no rfl rfl rfl q13 rfl ?_
      refine rd_no rfl rfl rfl q13 rfl ?_
      refine rd_no rfl rfl rfl q13 rfl ?_
      refine rd_no rfl rfl rfl q13 rfl ?_
      refine rd_no rfl rfl rfl q13 rfl ?_
      refine rd_s rfl rfl trivial (ss_pickT rfl q13 rfl) rfl ?_
      refine rd_s rfl rfl trivial (ss_move rfl) rfl ?_
      refine rd_split (s := 65) rfl (fun q14 => ?_) (fun q14 => ?_)
      ·skip
       refine rd_no rfl rfl rfl q14 rfl ?_
       refine rd_no rfl rfl rfl q14 rfl ?_
       refine rd_no rfl rfl rfl q14 rfl ?_
       refine rd_no rfl rfl rfl q14 rfl ?_
       refine rd_no rfl rfl rfl q14 rfl ?_
       refine rd_s rfl rfl trivial (ss_pickT rfl q14 rfl) rfl ?_
       refine rd_nil ?_
       refine aw_cond rfl (fun q15 => ?_) (fun q15 => ?_)
       ·skip
        refine aw_exit ?_
        refine aw_gh (gh_to (n := 101) (σ' := [(47, ⟨ints (f ++ ([v16_1])), []⟩), (800, ⟨orows o800_1, []⟩)]) (env' := [(0, .c (.lst (tabs a))), (1, .c (.lst (tabs b))), (2, .c (.lst (ints f))), (3, .c (.lst (ints first))), (4, .c (.lst (ints second))), (5, .c (ci most)), (6, .ref 800), (15, .c (ci (f.length : Int))), (16, .c (ci v16_1)), (39, .ref 800), (40, .c (ci (o800_1.length : Int))), (41, .c (ci most)), (42, .c (cb (decide ((o800_1.length : Int) < most)))), (101, .c (.lst (tabs a))), (102, .c (.lst (tabs b))), (103, .c (.lst (ints f))), (104, .c (.lst (ints first))), (105, .c (.lst (ints second))), (106, .c (ci most))]) rfl rfl ⟨rfl, rfl, rfl, rfl, rfl, rfl, rfl, rfl, rfl, rfl, rfl, rfl, rfl, rfl, rfl, rfl, rfl, rfl, rfl, trivial⟩) ?_
        refine aw_region ?_
        refine run_s (ss_move rfl) rfl ?_
        obtain ⟨q16, h⟩ := h
        refine run_s (ss_add rfl rfl q16) rfl ?_
        refine run_s (ss_assign rfl) rfl ?_
        refine run_nil ?_
        exact ⟨v16_1 + 1, o800_1, ghe_step (gh_frzE (id := 47) ci rfl (fun _ => rfl)) (ghe_to (n := 101) rfl rfl ⟨rfl, rfl, rfl, rfl, rfl, rfl, rfl, rfl, rfl, rfl, rfl, rfl, rfl, rfl, rfl, trivial⟩), h.1, h.2⟩
       ·cases q15
      ·cases q14
     ·replace h := h.2 (q13)
      refine rd_s rfl rfl ⟨_, _, rfl, rfl, q13⟩ (ss_move rfl) rfl ?_
      refine rd_s rfl rfl ⟨_, _, rfl, rfl, q13⟩ (ss_move rfl) rfl ?_
      obtain ⟨q17, h⟩ := h
      refine rd_s rfl rfl ⟨_, _, rfl, rfl, q13⟩ (ss_idxL rfl rfl q17) rfl ?_
      refine rd_s rfl rfl ⟨_, _, rfl, rfl, q13⟩ (ss_move rfl) rfl ?_
      refine rd_s rfl rfl ⟨_, _, rfl, rfl, q13⟩ (ss_move rfl) rfl ?_
      obtain ⟨q18, h⟩ := h
      refine rd_s rfl rfl ⟨_, _, rfl, rfl, q13⟩ (ss_idxL rfl rfl q18) rfl ?_
      refine rd_l rfl rfl ⟨_, _, rfl, rfl, q13⟩ (ss_loadL (f := ci) rfl q17) rfl ?_
      refine rd_l rfl rfl ⟨_, _, rfl, rfl, q13⟩ (ss_loadL (f := ci) rfl q18) rfl ?_
      refine rd_s rfl rfl ⟨_, _, rfl, rfl, q13⟩ (ss_neq rfl rfl) rfl ?_
      refine rd_s rfl rfl trivial (ss_pickF rfl q13 rfl) rfl ?_
      refine rd_s rfl rfl trivial (ss_move rfl) rfl ?_
      refine rd_split (s := 65) rfl (fun q19 => ?_) (fun q19 => ?_)
      ·replace h := h.1 (of_decide_eq_false (bnot_t q19))
       refine rd_no rfl rfl rfl q19 rfl ?_
       refine rd_no rfl rfl rfl q19 rfl ?_
       refine rd_no rfl rfl rfl q19 rfl ?_
       refine rd_no rfl rfl rfl q19 rfl ?_
       refine rd_no rfl rfl rfl q19 rfl ?_
       refine rd_s rfl rfl trivial (ss_pickT rfl q19 rfl) rfl ?_
       refine rd_nil ?_
       refine aw_cond rfl (fun q20 => ?_) (fun q20 => ?_)
       ·skip
        refine aw_exit ?_
        refine aw_gh (gh_to (n := 101) (σ' := [(47, ⟨ints (f ++ ([v16_1])), []⟩), (800, ⟨orows o800_1, []⟩)]) (env' := [(0, .c (.lst (tabs a))), (1, .c (.lst (tabs b))), (2, .c (.lst (ints f))), (3, .c (.lst (ints first))), (4, .c (.lst (ints second))), (5, .c (ci most)), (6, .ref 800), (15, .c (ci (f.length : Int))), (16, .c (ci v16_1)), (39, .ref 800), (40, .c (ci (o800_1.length : Int))), (41, .c (ci most)), (42, .c (cb (decide ((o800_1.length : Int) < most)))), (55, .c (.lst (ints first))), (56, .c (ci (f.length : Int))), (57, .c (.ptr ((ints first).drop (f.length : Int).toNat))), (58, .c (ci (el first (f.length : Int)))), (59, .c (.lst (ints second))), (60, .c (ci v16_1)), (61, .c (.ptr ((ints second).drop v16_1.toNat))), (62, .c (ci (el second v16_1))), (63, .c (cb (!(decide (el first (f.length : Int) = el second v16_1))))), (101, .c (.lst (tabs a))), (102, .c (.lst (tabs b))), (103, .c (.lst (ints f))), (104, .c (.lst (ints first))), (105, .c (.lst (ints second))), (106, .c (ci most))]) rfl rfl ⟨rfl, rfl, rfl, rfl, rfl, rfl, rfl, rfl, rfl, rfl, rfl, rfl, rfl, rfl, rfl, rfl, rfl, rfl, rfl, rfl, rfl, rfl, rfl, rfl, rfl, rfl, rfl, rfl, trivial⟩) ?_
        refine aw_region ?_
        refine run_s (ss_move rfl) rfl ?_
        obtain ⟨q21, h⟩ := h
        refine run_s (ss_add rfl rfl q21) rfl ?_
        refine run_s (ss_assign rfl) rfl ?_
        refine run_nil ?_
        exact ⟨v16_1 + 1, o800_1, ghe_step (gh_frzE (id := 47) ci rfl (fun _ => rfl)) (ghe_to (n := 101) rfl rfl ⟨rfl, rfl, rfl, rfl, rfl, rfl, rfl, rfl, rfl, rfl, rfl, rfl, rfl, rfl, rfl, trivial⟩), h.1, h.2⟩
       ·cases q20
      ·replace h := h.2 (of_decide_eq_true (bnot_f q19))
       refine rd_s rfl rfl ⟨_, _, rfl, rfl, q19⟩ (ss_move rfl) rfl ?_
       refine rd_s rfl rfl ⟨_, _, rfl, rfl, q19⟩ (ss_move rfl) rfl ?_
       refine rd_s rfl rfl ⟨_, _, rfl, rfl, q19⟩ (ss_move rfl) rfl ?_
       obtain ⟨q22, h⟩ := h
       refine rd_w rfl rfl ⟨_, _, rfl, rfl, q19⟩ rfl rfl (ws_callR (xs := [.tmp 66, .tmp 67, .tmp 68]) (cs := [.lst (tabs a), .lst (tabs b), .own (ints (f ++ ([v16_1])))]) (ids := []) rfl (.inr ⟨rfl, rfl⟩) rfl rfl (fz_cons rfl (fz_cons rfl (fz_cons (fz_own (fz_map (fun _ => rfl) _)) fz_nil))) (c_spec_l03Fits a b (f ++ ([v16_1])) q22) rfl ?_ )
       rintro _ rfl
       refine ⟨rfl, rfl, ?_⟩
       refine rd_s rfl rfl ⟨_, _, rfl, rfl, q19⟩ (ss_not rfl) rfl ?_
       refine rd_s rfl rfl trivial (ss_pickF rfl q19 rfl) rfl ?_
       refine rd_nil ?_
       refine aw_cond rfl (fun q24 => ?_) (fun q24 => ?_)
       ·replace h := h.1 ((bnot_t q24))
        refine aw_exit ?_
        refine aw_gh (gh_to (n := 101) (σ' := [(47, ⟨ints (f ++ ([v16_1])), []⟩), (800, ⟨orows o800_1, []⟩)]) (env' := [(0, .c (.lst (tabs a))), (1, .c (.lst (tabs b))), (2, .c (.lst (ints f))), (3, .c (.lst (ints first))), (4, .c (.lst (ints second))), (5, .c (ci most)), (6, .ref 800), (15, .c (ci (f.length : Int))), (16, .c (ci v16_1)), (39, .ref 800), (40, .c (ci (o800_1.length : Int))), (41, .c (ci most)), (42, .c (cb (decide ((o800_1.length : Int) < most)))), (55, .c (.lst (ints first))), (56, .c (ci (f.length : Int))), (57, .c (.ptr ((ints first).drop (f.length : Int).toNat))), (58, .c (ci (el first (f.length : Int)))), (59, .c (.lst (ints second))), (60, .c (ci v16_1)), (61, .c (.ptr ((ints second).drop v16_1.toNat))), (62, .c (ci (el second v16_1))), (63, .c (cb (!(decide (el first (f.length : Int) = el second v16_1))))), (66, .c (.lst (tabs a))), (67, .c (.lst (tabs b))), (68, .ref 47), (69, .c (cb (dec (conA a b (f ++ ([v16_1])))))), (70, .c (cb (!((dec (conA a b (f ++ ([v16_1])))))))), (101, .c (.lst (tabs a))), (102, .c (.lst (tabs b))), (103, .c (.lst (ints f))), (104, .c (.lst (ints first))), (105, .c (.lst (ints second))), (106, .c (ci most))]) rfl rfl ⟨rfl, rfl, rfl, rfl, rfl, rfl, rfl, rfl, rfl, rfl, rfl, rfl, rfl, rfl, rfl, rfl, rfl, rfl, rfl, rfl, rfl, rfl, rfl, rfl, rfl, rfl, rfl, rfl, rfl, rfl, rfl, rfl, rfl, trivial⟩) ?_
        refine aw_region ?_
        refine run_s (ss_move rfl) rfl ?_
        obtain ⟨q25, h⟩ := h
        refine run_s (ss_add rfl rfl q25) rfl ?_
        refine run_s (ss_assign rfl) rfl ?_
        refine run_nil ?_
        exact ⟨v16_1 + 1, o800_1, ghe_step (gh_frzE (id := 47) ci rfl (fun _ => rfl)) (ghe_to (n := 101) rfl rfl ⟨rfl, rfl, rfl, rfl, rfl, rfl, rfl, rfl, rfl, rfl, rfl, rfl, rfl, rfl, rfl, trivial⟩), h.1, h.2⟩
       ·replace h := h.2 ((bnot_f q24))
        refine aw_skip ?_
        refine aw_seq ?_
        refine aw_gh (gh_to (n := 101) (σ' := [(47, ⟨ints (f ++ ([v16_1])), []⟩), (800, ⟨orows o800_1, []⟩)]) (env' := [(0, .c (.lst (tabs a))), (1, .c (.lst (tabs b))), (2, .c (.lst (ints f))), (3, .c (.lst (ints first))), (4, .c (.lst (ints second))), (5, .c (ci most)), (6, .ref 800), (15, .c (ci (f.length : Int))), (16, .c (ci v16_1)), (17, .ref 47), (39, .ref 800), (40, .c (ci (o800_1.length : Int))), (41, .c (ci most)), (42, .c (cb (decide ((o800_1.length : Int) < most)))), (55, .c (.lst (ints first))), (56, .c (ci (f.length : Int))), (57, .c (.ptr ((ints first).drop (f.length : Int).toNat))), (58, .c (ci (el first (f.length : Int)))), (59, .c (.lst (ints second))), (60, .c (ci v16_1)), (61, .c (.ptr ((ints second).drop v16_1.toNat))), (62, .c (ci (el second v16_1))), (63, .c (cb (!(decide (el first (f.length : Int) = el second v16_1))))), (66, .c (.lst (tabs a))), (67, .c (.lst (tabs b))), (68, .ref 47), (69, .c (cb (dec (conA a b (f ++ ([v16_1])))))), (70, .c (cb (!((dec (conA a b (f ++ ([v16_1])))))))), (101, .c (.lst (tabs a))), (102, .c (.lst (tabs b))), (103, .c (.lst (ints f))), (104, .c (.lst (ints first))), (105, .c (.lst (ints second))), (106, .c (ci most))]) rfl rfl ⟨rfl, rfl, rfl, rfl, rfl, rfl, rfl, rfl, rfl, rfl, rfl, rfl, rfl, rfl, rfl, rfl, rfl, rfl, rfl, rfl, rfl, rfl, rfl, rfl, rfl, rfl, rfl, rfl, rfl, rfl, rfl, rfl, rfl, rfl, trivial⟩) ?_
        refine aw_region ?_
        refine run_s (ss_move rfl) rfl ?_
        obtain ⟨q26, h⟩ := h
        refine run_w (ws_call (xs := [.tmp 72]) (ids := [73]) rfl rfl rfl rfl (c_spec_l01Own first q26) rfl ?_ )
        rintro _ rfl
        refine ⟨rfl, ?_⟩
        refine run_s (ss_move rfl) rfl ?_
        obtain ⟨q28, h⟩ := h
        refine run_w (ws_call (xs := [.tmp 74]) (ids := [75]) rfl rfl rfl rfl (c_spec_l01Own second q28) rfl ?_ )
        rintro _ rfl
        refine ⟨rfl, ?_⟩
        refine run_s (ss_assign rfl) rfl ?_
        refine run_s (ss_assign rfl) rfl ?_
        refine run_nil ?_
        refine aw_seq ?_
        refine aw_gh (gh_to (n := 101) (σ' := [(75, ⟨ints second, []⟩), (73, ⟨ints first, []⟩), (47, ⟨ints (f ++ ([v16_1])), []⟩), (800, ⟨orows o800_1, []⟩)]) (env' := [(0, .c (.lst (tabs a))), (1, .c (.lst (tabs b))), (2, .c (.lst (ints f))), (3, .c (.lst (ints first))), (4, .c (.lst (ints second))), (5, .c (ci most)), (6, .ref 800), (15, .c (ci (f.length : Int))), (16, .c (ci v16_1)), (17, .ref 47), (18, .ref 73), (19, .ref 75), (39, .ref 800), (40, .c (ci (o800_1.length : Int))), (41, .c (ci most)), (42, .c (cb (decide ((o800_1.length : Int) < most)))), (55, .c (.lst (ints first))), (56, .c (ci (f.length : Int))), (57, .c (.ptr ((ints first).drop (f.length : Int).toNat))), (58, .c (ci (el first (f.length : Int)))), (59, .c (.lst (ints second))), (60, .c (ci v16_1)), (61, .c (.ptr ((ints second).drop v16_1.toNat))), (62, .c (ci (el second v16_1))), (63, .c (cb (!(decide (el first (f.length : Int) = el second v16_1))))), (66, .c (.lst (tabs a))), (67, .c (.lst (tabs b))), (68, .ref 47), (69, .c (cb (dec (conA a b (f ++ ([v16_1])))))), (70, .c (cb (!((dec (conA a b (f ++ ([v16_1])))))))), (101, .c (.lst (tabs a))), (102, .c (.lst (tabs b))), (103, .c (.lst (ints f))), (104, .c (.lst (ints first))), (105, .c (.lst (ints second))), (106, .c (ci most))]) rfl rfl ⟨rfl, rfl, rfl, rfl, rfl, rfl, rfl, rfl, rfl, rfl, rfl, rfl, rfl, rfl, rfl, rfl, rfl, rfl, rfl, rfl, rfl, rfl, rfl, rfl, rfl, rfl, rfl, rfl, rfl, rfl, rfl, rfl, rfl, rfl, rfl, rfl, trivial⟩) ?_
        refine aw_region ?_
        refine run_s (ss_move rfl) rfl ?_
        refine run_s (ss_move rfl) rfl ?_
        obtain ⟨q30, h⟩ := h
        refine run_s (ss_idxR (f := ci) rfl rfl rfl q30) rfl ?_
        refine run_w (ws_storeE rfl rfl (map_lt q30) rfl rfl (map_se (f := ci)) rfl ⟨rfl, ?_⟩)
        refine run_nil ?_
        refine aw_seq ?_
        refine aw_gh (gh_to (n := 101) (σ' := [(75, ⟨ints second, []⟩), (73, ⟨ints (se first (f.length : Int) 60), []⟩), (47, ⟨ints (f ++ ([v16_1])), []⟩), (800, ⟨orows o800_1, []⟩)]) (env' := [(0, .c (.lst (tabs a))), (1, .c (.lst (tabs b))), (2, .c (.lst (ints f))), (3, .c (.lst (ints first))), (4, .c (.lst (ints second))), (5, .c (ci most)), (6, .ref 800), (15, .c (ci (f.length : Int))), (16, .c (ci v16_1)), (17, .ref 47), (18, .ref 73), (19, .ref 75), (39, .ref 800), (40, .c (ci (o800_1.length : Int))), (41, .c (ci most)), (42, .c (cb (decide ((o800_1.length : Int) < most)))), (55, .c (.lst (ints first))), (56, .c (ci (f.length : Int))), (57, .c (.ptr ((ints first).drop (f.length : Int).toNat))), (58, .c (ci (el first (f.length : Int)))), (59, .c (.lst (ints second))), (60, .c (ci v16_1)), (61, .c (.ptr ((ints second).drop v16_1.toNat))), (62, .c (ci (el second v16_1))), (63, .c (cb (!(decide (el first (f.length : Int) = el second v16_1))))), (66, .c (.lst (tabs a))), (67, .c (.lst (tabs b))), (68, .ref 47), (69, .c (cb (dec (conA a b (f ++ ([v16_1])))))), (70, .c (cb (!((dec (conA a b (f ++ ([v16_1])))))))), (101, .c (.lst (tabs a))), (102, .c (.lst (tabs b))), (103, .c (.lst (ints f))), (104, .c (.lst (ints first))), (105, .c (.lst (ints second))), (106, .c (ci most))]) rfl rfl ⟨rfl, rfl, rfl, rfl, rfl, rfl, rfl, rfl, rfl, rfl, rfl, rfl, rfl, rfl, rfl, rfl, rfl, rfl, rfl, rfl, rfl, rfl, rfl, rfl, rfl, rfl, rfl, rfl, rfl, rfl, rfl, rfl, rfl, rfl, rfl, rfl, trivial⟩) ?_
        refine aw_region ?_
        refine run_s (ss_move rfl) rfl ?_
        refine run_s (ss_move rfl) rfl ?_
        obtain ⟨q31, h⟩ := h
        refine run_s (ss_idxR (f := ci) rfl rfl rfl q31) rfl ?_
        refine run_w (ws_storeE rfl rfl (map_lt q31) rfl rfl (map_se (f := ci)) rfl ⟨rfl, ?_⟩)
        refine run_nil ?_
        refine aw_seq ?_
        refine aw_region ?_
        refine run_s (ss_move rfl) rfl ?_
        refine run_s (ss_move rfl) rfl ?_
        refine run_s (ss_move rfl) rfl ?_
        refine run_s (ss_move rfl) rfl ?_
        refine run_gh (gh_frzE (id := 73) ci rfl (fun _ => rfl)) ?_
        refine run_gh (gh_frzE (id := 75) ci rfl (fun _ => rfl)) ?_
        obtain ⟨q32, h⟩ := h
        refine run_w (ws_call (xs := [.tmp 83, .tmp 84, .tmp 85, .tmp 86]) (ids := []) rfl rfl rfl rfl (c_spec_l03Refine a b (se first (f.length : Int) 60) (se second v16_1 60) q32) rfl ?_ )
        rintro _ ⟨r1_0, r1_1, r1_2, q33, rfl⟩
        replace h := h r1_0 r1_1 r1_2 q33
        refine ⟨rfl, ?_⟩
        refine run_s (ss_move rfl) rfl ?_
        refine run_s (ss_extract rfl rfl) rfl ?_
        refine run_s (ss_extract rfl rfl) rfl ?_
        refine run_s (ss_extract rfl rfl) rfl ?_
        refine run_s (ss_assign rfl) rfl ?_
        refine run_s (ss_assign rfl) rfl ?_
        refine run_s (ss_assign rfl) rfl ?_
        refine run_nil ?_
        refine aw_seq ?_
        refine aw_gh (gh_to (n := 101) (σ' := [(47, ⟨ints (f ++ ([v16_1])), []⟩), (800, ⟨orows o800_1, []⟩)]) (env' := [(0, .c (.lst (tabs a))), (1, .c (.lst (tabs b))), (2, .c (.lst (ints f))), (3, .c (.lst (ints first))), (4, .c (.lst (ints second))), (5, .c (ci most)), (6, .ref 800), (15, .c (ci (f.length : Int))), (16, .c (ci v16_1)), (17, .ref 47), (20, .c (.lst (ints r1_0))), (21, .c (.lst (ints r1_1))), (22, .c (cb r1_2)), (39, .ref 800), (40, .c (ci (o800_1.length : Int))), (41, .c (ci most)), (42, .c (cb (decide ((o800_1.length : Int) < most)))), (55, .c (.lst (ints first))), (56, .c (ci (f.length : Int))), (57, .c (.ptr ((ints first).drop (f.length : Int).toNat))), (58, .c (ci (el first (f.length : Int)))), (59, .c (.lst (ints second))), (60, .c (ci v16_1)), (61, .c (.ptr ((ints second).drop v16_1.toNat))), (62, .c (ci (el second v16_1))), (63, .c (cb (!(decide (el first (f.length : Int) = el second v16_1))))), (66, .c (.lst (tabs a))), (67, .c (.lst (tabs b))), (68, .ref 47), (69, .c (cb (dec (conA a b (f ++ ([v16_1])))))), (70, .c (cb (!((dec (conA a b (f ++ ([v16_1])))))))), (101, .c (.lst (tabs a))), (102, .c (.lst (tabs b))), (103, .c (.lst (ints f))), (104, .c (.lst (ints first))), (105, .c (.lst (ints second))), (106, .c (ci most))]) rfl rfl ⟨rfl, rfl, rfl, rfl, rfl, rfl, rfl, rfl, rfl, rfl, rfl, rfl, rfl, rfl, rfl, rfl, rfl, rfl, rfl, rfl, rfl, rfl, rfl, rfl, rfl, rfl, rfl, rfl, rfl, rfl, rfl, rfl, rfl, rfl, rfl, rfl, rfl, trivial⟩) ?_
        refine aw_region ?_
        refine run_s (ss_move rfl) rfl ?_
        refine run_nil ?_
        refine aw_cond rfl (fun q34 => ?_) (fun q34 => ?_)
        ·replace h := h.1 (q34)
         refine aw_region ?_
         refine run_s (ss_move rfl) rfl ?_
         refine run_s (ss_move rfl) rfl ?_
         refine run_s (ss_move rfl) rfl ?_
         refine run_s (ss_move rfl) rfl ?_
         refine run_s (ss_move rfl) rfl ?_
         refine run_s (ss_move rfl) rfl ?_
         refine run_s (ss_move rfl) rfl ?_
         refine run_gh (gh_frzE (id := 47) ci rfl (fun _ => rfl)) ?_
         obtain ⟨q35, h⟩ := h
         obtain ⟨q36, h⟩ := h
         refine run_w (ws_callC (xs := [.tmp 92, .tmp 93, .tmp 94, .tmp 95, .tmp 96, .tmp 97, .tmp 98]) (cs := [.lst (tabs a), .lst (tabs b), .lst (ints (f ++ ([v16_1]))), .lst (ints r1_0), .lst (ints r1_1), ci most, .own (orows o800_1)]) (ids := [99]) rfl rfl rfl rfl (hrec a b (f ++ ([v16_1])) r1_0 r1_1 most o800_1 q35 q36) rfl ?_ )
         rintro _ _ ⟨rfl, rfl⟩
         refine ⟨rfl, ?_⟩
         refine run_s (ss_assign rfl) rfl ?_
         refine run_nil ?_
         refine aw_gh (gh_to (n := 101) (σ' := [(99, ⟨orows (o800_1 ++ (extL a b (padM (f ++ ([v16_1])) r1_0)).take (most - (o800_1.length : Int)).toNat), []⟩)]) (env' := [(0, .c (.lst (tabs a))), (1, .c (.lst (tabs b))), (2, .c (.lst (ints f))), (3, .c (.lst (ints first))), (4, .c (.lst (ints second))), (5, .c (ci most)), (6, .ref 99), (15, .c (ci (f.length : Int))), (16, .c (ci v16_1)), (40, .c (ci (o800_1.length : Int))), (41, .c (ci most)), (42, .c (cb (decide ((o800_1.length : Int) < most)))), (55, .c (.lst (ints first))), (56, .c (ci (f.length : Int))), (57, .c (.ptr ((ints first).drop (f.length : Int).toNat))), (58, .c (ci (el first (f.length : Int)))), (59, .c (.lst (ints second))), (60, .c (ci v16_1)), (61, .c (.ptr ((ints second).drop v16_1.toNat))), (62, .c (ci (el second v16_1))), (63, .c (cb (!(decide (el first (f.length : Int) = el second v16_1))))), (66, .c (.lst (tabs a))), (67, .c (.lst (tabs b))), (68, .c (.lst (ints (f ++ ([v16_1]))))), (69, .c (cb (dec (conA a b (f ++ ([v16_1])))))), (70, .c (cb (!((dec (conA a b (f ++ ([v16_1])))))))), (101, .c (.lst (tabs a))), (102, .c (.lst (tabs b))), (103, .c (.lst (ints f))), (104, .c (.lst (ints first))), (105, .c (.lst (ints second))), (106, .c (ci most))]) rfl rfl ⟨rfl, rfl, rfl, rfl, rfl, rfl, rfl, rfl, rfl, rfl, rfl, rfl, rfl, rfl, rfl, rfl, rfl, rfl, rfl, rfl, rfl, rfl, rfl, rfl, rfl, rfl, rfl, rfl, rfl, rfl, rfl, rfl, trivial⟩) ?_
         refine aw_region ?_
         refine run_s (ss_move rfl) rfl ?_
         obtain ⟨q38, h⟩ := h
         refine run_s (ss_add rfl rfl q38) rfl ?_
         refine run_s (ss_assign rfl) rfl ?_
         refine run_nil ?_
         exact ⟨v16_1 + 1, o800_1 ++ (extL a b (padM (f ++ ([v16_1])) r1_0)).take (most - (o800_1.length : Int)).toNat, ghe_step (gh_ren (a := 99) (b := 800) rfl rfl) (ghe_to (n := 101) rfl rfl ⟨rfl, rfl, rfl, rfl, rfl, rfl, rfl, rfl, rfl, rfl, rfl, rfl, rfl, rfl, rfl, trivial⟩), h.1, h.2⟩
        ·replace h := h.2 (q34)
         refine aw_skip ?_
         refine aw_gh (gh_to (n := 101) (σ' := [(47, ⟨ints (f ++ ([v16_1])), []⟩), (800, ⟨orows o800_1, []⟩)]) (env' := [(0, .c (.lst (tabs a))), (1, .c (.lst (tabs b))), (2, .c (.lst (ints f))), (3, .c (.lst (ints first))), (4, .c (.lst (ints second))), (5, .c (ci most)), (6, .ref 800), (15, .c (ci (f.length : Int))), (16, .c (ci v16_1)), (39, .ref 800), (40, .c (ci (o800_1.length : Int))), (41, .c (ci most)), (42, .c (cb (decide ((o800_1.length : Int) < most)))), (55, .c (.lst (ints first))), (56, .c (ci (f.length : Int))), (57, .c (.ptr ((ints first).drop (f.length : Int).toNat))), (58, .c (ci (el first (f.length : Int)))), (59, .c (.lst (ints second))), (60, .c (ci v16_1)), (61, .c (.ptr ((ints second).drop v16_1.toNat))), (62, .c (ci (el second v16_1))), (63, .c (cb (!(decide (el first (f.length : Int) = el second v16_1))))), (66, .c (.lst (tabs a))), (67, .c (.lst (tabs b))), (68, .ref 47), (69, .c (cb (dec (conA a b (f ++ ([v16_1])))))), (70, .c (cb (!((dec (conA a b (f ++ ([v16_1])))))))), (101, .c (.lst (tabs a))), (102, .c (.lst (tabs b))), (103, .c (.lst (ints f))), (104, .c (.lst (ints first))), (105, .c (.lst (ints second))), (106, .c (ci most))]) rfl rfl ⟨rfl, rfl, rfl, rfl, rfl, rfl, rfl, rfl, rfl, rfl, rfl, rfl, rfl, rfl, rfl, rfl, rfl, rfl, rfl, rfl, rfl, rfl, rfl, rfl, rfl, rfl, rfl, rfl, rfl, rfl, rfl, rfl, rfl, trivial⟩) ?_
         refine aw_region ?_
         refine run_s (ss_move rfl) rfl ?_
         obtain ⟨q39, h⟩ := h
         refine run_s (ss_add rfl rfl q39) rfl ?_
         refine run_s (ss_assign rfl) rfl ?_
         refine run_nil ?_
         exact ⟨v16_1 + 1, o800_1, ghe_step (gh_frzE (id := 47) ci rfl (fun _ => rfl)) (ghe_to (n := 101) rfl rfl ⟨rfl, rfl, rfl, rfl, rfl, rfl, rfl, rfl, rfl, rfl, rfl, rfl, rfl, rfl, rfl, trivial⟩), h.1, h.2⟩
    ·replace h := h.2 (of_decide_eq_false q7)
     refine aw_exit ?_
     refine aw_seq ?_
     refine aw_gh (gh_to (n := 101) (σ' := [(800, ⟨orows o800_1, []⟩)]) (env' := [(6, .ref 800), (101, .c (.lst (tabs a))), (102, .c (.lst (tabs b))), (103, .c (.lst (ints f))), (104, .c (.lst (ints first))), (105, .c (.lst (ints second))), (106, .c (ci most))]) rfl rfl ⟨rfl, rfl, rfl, rfl, rfl, rfl, rfl, trivial⟩) ?_
     refine aw_region ?_
     refine run_s (ss_move rfl) rfl ?_
     refine run_s (ss_assign rfl) rfl ?_
     refine run_nil ?_
     refine aw_ret ?_
     exact retAM_mk (retv1 rfl (rv_tmp rfl)) rfl rfl rfl ⟨_, h, rfl, rfl⟩
   ·replace h := h.2 (of_decide_eq_false q6)
    refine run_gf rfl rfl q6 rfl ?_
    refine run_gf rfl rfl q6 rfl ?_
    refine run_gf rfl rfl q6 rfl ?_
    refine run_gf rfl rfl q6 rfl ?_
    refine run_s (ss_pickF rfl q6 rfl) rfl ?_
    refine run_nil ?_
    refine aw_cond rfl (fun q40 => ?_) (fun q40 => ?_)
    ·cases q40
    ·skip
     refine aw_exit ?_
     refine aw_seq ?_
     refine aw_gh (gh_to (n := 101) (σ' := [(800, ⟨orows o800_1, []⟩)]) (env' := [(6, .ref 800), (101, .c (.lst (tabs a))), (102, .c (.lst (tabs b))), (103, .c (.lst (ints f))), (104, .c (.lst (ints first))), (105, .c (.lst (ints second))), (106, .c (ci most))]) rfl rfl ⟨rfl, rfl, rfl, rfl, rfl, rfl, rfl, trivial⟩) ?_
     refine aw_region ?_
     refine run_s (ss_move rfl) rfl ?_
     refine run_s (ss_assign rfl) rfl ?_
     refine run_nil ?_
     refine aw_ret ?_
     exact retAM_mk (retv1 rfl (rv_tmp rfl)) rfl rfl rfl ⟨_, h, rfl, rfl⟩

theorem c_spec_l03Seek : ∀ (a : List (List (List Int))) (b : List (List (List Int))) (f : List Int) (first : List Int) (second : List Int) (most : Int) (out : List (List Int)), (SkD a b f first second most out) → AM Try.prog 72 [.lst (tabs a), .lst (tabs b), .lst (ints f), .lst (ints first), .lst (ints second), ci most, .own (orows out)] (fun R_ O_ => R_ = .own (orows (out ++ (extL a b (padM f first)).take (most - (out.length : Int)).toNat)) ∧ O_ = [.lst (tabs a), .lst (tabs b), .lst (ints f), .lst (ints first), .lst (ints second), ci most, .hole]) := by
  have key : ∀ (k_ : Nat) (a : List (List (List Int))) (b : List (List (List Int))) (f : List Int) (first : List Int) (second : List Int) (most : Int) (out : List (List Int)), ((el a 0).length - f.length) ≤ k_ → (SkD a b f first second most out) → AM Try.prog 72 [.lst (tabs a), .lst (tabs b), .lst (ints f), .lst (ints first), .lst (ints second), ci most, .own (orows out)] (fun R_ O_ => R_ = .own (orows (out ++ (extL a b (padM f first)).take (most - (out.length : Int)).toNat)) ∧ O_ = [.lst (tabs a), .lst (tabs b), .lst (ints f), .lst (ints first), .lst (ints second), ci most, .hole]) := by
    intro k_; induction k_ with
    | zero => intro a b f first second most out hn hp; exact (w_spec_l03Seek a b f first second most out (fun y0 => y0 = out ++ (extL a b (padM f first)).take (most - (out.length : Int)).toNat) (fun _ _ _ _ _ _ _ hlt => absurd hlt (by omega)) (p_spec_l03Seek a b f first second most out hp)).mono (by rintro r o ⟨_, rfl, rfl, rfl⟩; exact ⟨rfl, rfl⟩)
    | succ k_ ih => intro a b f first second most out hn hp; exact (w_spec_l03Seek a b f first second most out (fun y0 => y0 = out ++ (extL a b (padM f first)).take (most - (out.length : Int)).toNat) (fun a' b' f' first' second' most' out' hlt => ih a' b' f' first' second' most' out' (by omega)) (p_spec_l03Seek a b f first second most out hp)).mono (by rintro r o ⟨_, rfl, rfl, rfl⟩; exact ⟨rfl, rfl⟩)
  exact fun a b f first second most out => key _ a b f first second most out (Nat.le_refl _)

set_option maxRecDepth 100000 in
set_option maxHeartbeats 4000000 in
theorem w_spec_l03Maps (a : List (List (List Int))) (b : List (List (List Int))) (f : List Int) (most : Int) (Q : List (List Int) → Prop) (h : wp_spec_l03Maps a b f most Q) : AF Try.prog 38 [.lst (tabs a), .lst (tabs b), .lst (ints f), ci most] (fun R_ => ∃ y0, Q y0 ∧ R_ = .lst (rows y0)) := by
  refine AF.ofWQ (af_enter (n := 63) Try.func38 rfl (by rfl) rfl (Nat.le_of_ble_eq_true rfl) ?_)
  unfold wp_spec_l03Maps at h
  refine aw_seq ?_
  refine aw_gh (gh_to (n := 63) (σ' := []) (env' := [(0, .c (.lst (tabs a))), (1, .c (.lst (tabs b))), (2, .c (.lst (ints f))), (3, .c (ci most))]) rfl rfl ⟨rfl, rfl, rfl, rfl, trivial⟩) ?_
  refine aw_region ?_
  refine run_s (ss_assign rfl) rfl ?_
  refine run_nil ?_
  refine aw_seq ?_
  refine aw_seq ?_
  refine aw_gh (gh_to (n := 63) (σ' := []) (env' := [(0, .c (.lst (tabs a))), (1, .c (.lst (tabs b))), (2, .c (.lst (ints f))), (3, .c (ci most))]) rfl rfl ⟨rfl, rfl, rfl, rfl, trivial⟩) ?_
  refine aw_regionD (kd := kdl [0, 0, 1, 0, 0, 0, 1, 0, 0]) (ord := [0, 1, 4, 5, 2, 3, 6, 7, 8]) [] mixed (by kernel_rfl) ?_
  refine rd_s rfl rfl trivial (ss_move rfl) rfl ?_
  obtain ⟨q1, h⟩ := h
  refine rd_s rfl rfl trivial (ss_idxL rfl rfl q1) rfl ?_
  refine rd_s rfl rfl trivial (ss_move rfl) rfl ?_
  obtain ⟨q2, h⟩ := h
  refine rd_s rfl rfl trivial (ss_idxL rfl rfl q2) rfl ?_
  refine rd_l rfl rfl trivial (ss_loadL (f := (fun r => C.lst (rows r))) rfl q1) rfl ?_
  refine rd_s rfl rfl trivial (ss_lenL (f := (fun r => C.lst (ints r))) rfl) rfl ?_
  refine rd_l rfl rfl trivial (ss_loadL (f := (fun r => C.lst (rows r))) rfl q2) rfl ?_
  refine rd_s rfl rfl trivial (ss_lenL (f := (fun r => C.lst (ints r))) rfl) rfl ?_
  refine rd_s rfl rfl trivial (ss_neq rfl rfl) rfl ?_
  refine rd_nil ?_
  refine aw_cond rfl (fun q3 => ?_) (fun q3 => ?_)
  ·replace h := h.1 (of_decide_eq_false (bnot_t q3))
   refine aw_seq ?_
   refine aw_gh (gh_to (n := 63) (σ' := []) (env' := []) rfl rfl trivial) ?_
   refine aw_region ?_
   refine run_s (ss_assign rfl) rfl ?_
   refine run_nil ?_
   refine aw_ret ?_
   exact retAF_mk (retv1 rfl (rv_tmp rfl)) rfl rfl ⟨_, cle_nilL, _, h, rfl⟩
  ·replace h := h.2 (of_decide_eq_true (bnot_f q3))
   refine aw_skip ?_
   refine aw_seq ?_
   refine aw_gh (gh_to (n := 63) (σ' := []) (env' := [(0, .c (.lst (tabs a))), (1, .c (.lst (tabs b))), (2, .c (.lst (ints f))), (3, .c (ci most))]) rfl rfl ⟨rfl, rfl, rfl, rfl, trivial⟩) ?_
   refine aw_regionT (kd := kdl [0, 0, 1, 0, 2, 0, 0, 1, 0, 2, 0, 0]) (t := (.one 0 (.one 1 (.one 5 (.one 6 (.one 2 (.one 3 (.one 7 (.one 8 (.br (.one 4 (.one 10 (.one 9 (.one 11 .nil)))) (.one 9 (.one 4 (.one 10 (.one 11 .nil)))))))))))))) [] mixed (by kernel_rfl) ?_
   obtain ⟨q4, h⟩ := h
   obtain ⟨q5, h⟩ := h
   obtain ⟨q6, h⟩ := h
   obtain ⟨q7, h⟩ := h
   refine rt_share (S := ⟨[(27, ⟨ints (List.replicate ((el a 0).length : Int).toNat (0 : Int)), []⟩), (32, ⟨ints (List.replicate ((el a 0).length : Int).toNat (0 : Int)), []⟩)], [(0, .c (.lst (tabs a))), (1, .c (.lst (tabs b))), (2, .c (.lst (ints f))), (3, .c (ci most)), (9, .ref 27), (10, .ref 32)], 63⟩) ?_ (fun hk => ?_)
   ·skip
    refine aw_seq ?_
    refine aw_seq ?_
    refine aw_region ?_
    refine run_s (ss_move rfl) rfl ?_
    refine run_s (ss_lenL (f := ci) rfl) rfl ?_
    refine run_s (ss_gtr rfl rfl) rfl ?_
    refine run_nil ?_
    refine aw_cond rfl (fun q8 => ?_) (fun q8 => ?_)
    ·replace h := h.1 (of_decide_eq_true q8)
     refine aw_seq ?_
     refine aw_seq ?_
     refine aw_region ?_
     refine run_s (ss_move rfl) rfl ?_
     refine run_s (ss_move rfl) rfl ?_
     refine run_s (ss_move rfl) rfl ?_
     obtain ⟨q9, h⟩ := h
     refine run_w (ws_call (xs := [.tmp 36, .tmp 37, .tmp 38]) (ids := []) rfl rfl rfl rfl (c_spec_l03Fits a b f q9) rfl ?_ )
     rintro _ rfl
     refine ⟨rfl, ?_⟩
     refine run_s (ss_not rfl) rfl ?_
     refine run_nil ?_
     refine aw_cond rfl (fun q11 => ?_) (fun q11 => ?_)
     ·replace h := h.1 ((bnot_t q11))
      refine aw_seq ?_
      refine aw_gh (gh_to (n := 63) (σ' := [(27, ⟨ints (List.replicate ((el a 0).length : Int).toNat (0 : Int)), []⟩), (32, ⟨ints (List.replicate ((el a 0).length : Int).toNat (0 : Int)), []⟩)]) (env' := []) rfl rfl trivial) ?_
      refine aw_region ?_
      refine run_s (ss_assign rfl) rfl ?_
      refine run_nil ?_
      refine aw_ret ?_
      exact retAF_mk (retv1 rfl (rv_tmp rfl)) rfl rfl ⟨_, cle_nilL, _, h, rfl⟩
     ·replace h := h.2 ((bnot_f q11))
      refine aw_skip ?_
      refine aw_seq ?_
      refine aw_gh (gh_to (n := 63) (σ' := [(27, ⟨ints (List.replicate ((el a 0).length : Int).toNat (0 : Int)), []⟩), (32, ⟨ints (List.replicate ((el a 0).length : Int).toNat (0 : Int)), []⟩)]) (env' := [(0, .c (.lst (tabs a))), (1, .c (.lst (tabs b))), (2, .c (.lst (ints f))), (3, .c (ci most)), (9, .ref 27), (10, .ref 32)]) rfl rfl ⟨rfl, rfl, rfl, rfl, rfl, rfl, trivial⟩) ?_
      refine aw_region ?_
      refine run_s (ss_move rfl) rfl ?_
      obtain ⟨q12, h⟩ := h
      refine run_s (ss_idxR (f := ci) rfl rfl rfl q12) rfl ?_
      refine run_w (ws_storeE rfl rfl (map_lt q12) rfl rfl (map_se (f := ci)) rfl ⟨rfl, ?_⟩)
      refine run_nil ?_
      refine aw_region ?_
      refine run_s (ss_move rfl) rfl ?_
      obtain ⟨q13, h⟩ := h
      refine run_s (ss_idxR (f := ci) rfl rfl rfl q13) rfl ?_
      refine run_w (ws_storeE rfl rfl (map_lt q13) rfl rfl (map_se (f := ci)) rfl ⟨rfl, ?_⟩)
      refine run_nil ?_
      refine aw_seq ?_
      refine aw_region ?_
      refine run_s (ss_move rfl) rfl ?_
      refine run_s (ss_move rfl) rfl ?_
      refine run_s (ss_move rfl) rfl ?_
      refine run_s (ss_move rfl) rfl ?_
      refine run_gh (gh_frzE (id := 27) ci rfl (fun _ => rfl)) ?_
      refine run_gh (gh_frzE (id := 32) ci rfl (fun _ => rfl)) ?_
      obtain ⟨q14, h⟩ := h
      refine run_w (ws_call (xs := [.tmp 46, .tmp 47, .tmp 48, .tmp 49]) (ids := []) rfl rfl rfl rfl (c_spec_l03Refine a b (se (List.replicate ((el a 0).length : Int).toNat (0 : Int)) 0 60) (se (List.replicate ((el a 0).length : Int).toNat (0 : Int)) 0 60) q14) rfl ?_ )
      rintro _ ⟨r1_0, r1_1, r1_2, q15, rfl⟩
      replace h := h r1_0 r1_1 r1_2 q15
      refine ⟨rfl, ?_⟩
      refine run_s (ss_move rfl) rfl ?_
      refine run_s (ss_extract rfl rfl) rfl ?_
      refine run_s (ss_extract rfl rfl) rfl ?_
      refine run_s (ss_extract rfl rfl) rfl ?_
      refine run_s (ss_assign rfl) rfl ?_
      refine run_s (ss_assign rfl) rfl ?_
      refine run_s (ss_assign rfl) rfl ?_
      refine run_nil ?_
      refine aw_seq ?_
      refine aw_seq ?_
      refine aw_gh (gh_to (n := 63) (σ' := []) (env' := [(0, .c (.lst (tabs a))), (1, .c (.lst (tabs b))), (2, .c (.lst (ints f))), (3, .c (ci most)), (11, .c (.lst (ints r1_0))), (12, .c (.lst (ints r1_1))), (13, .c (cb r1_2))]) rfl rfl ⟨rfl, rfl, rfl, rfl, rfl, rfl, rfl, trivial⟩) ?_
      refine aw_region ?_
      refine run_s (ss_move rfl) rfl ?_
      refine run_s (ss_not rfl) rfl ?_
      refine run_nil ?_
      refine aw_cond rfl (fun q16 => ?_) (fun q16 => ?_)
      ·replace h := h.1 ((bnot_t q16))
       refine aw_seq ?_
       refine aw_gh (gh_to (n := 63) (σ' := []) (env' := []) rfl rfl trivial) ?_
       refine aw_region ?_
       refine run_s (ss_assign rfl) rfl ?_
       refine run_nil ?_
       refine aw_ret ?_
       exact retAF_mk (retv1 rfl (rv_tmp rfl)) rfl rfl ⟨_, cle_nilL, _, h, rfl⟩
      ·replace h := h.2 ((bnot_f q16))
       refine aw_skip ?_
       refine aw_seq ?_
       refine aw_region ?_
       refine run_s (ss_move rfl) rfl ?_
       refine run_s (ss_move rfl) rfl ?_
       refine run_s (ss_move rfl) rfl ?_
       refine run_s (ss_move rfl) rfl ?_
       refine run_s (ss_move rfl) rfl ?_
       refine run_s (ss_move rfl) rfl ?_
       obtain ⟨q17, h⟩ := h
       refine run_w (ws_callC (xs := [.tmp 56, .tmp 57, .tmp 58, .tmp 59, .tmp 60, .tmp 61, .const (.slice none 0 0)]) (cs := [.lst (tabs a), .lst (tabs b), .lst (ints f), .lst (ints r1_0), .lst (ints r1_1), ci most, cnil]) (ids := [62]) rfl rfl rfl rfl (AM.weak (c_spec_l03Seek a b f r1_0 r1_1 most ([] : List (List Int)) q17) (cleL_cons (cle_refl _) (cleL_cons (cle_refl _) (cleL_cons (cle_refl _) (cleL_cons (cle_refl _) (cleL_cons (cle_refl _) (cleL_cons (cle_refl _) (cleL_cons cle_nilO cleL_nil)))))))) rfl ?_ )
       rintro _ _ ⟨rfl, rfl⟩
       refine ⟨rfl, ?_⟩
       refine run_s (ss_assign rfl) rfl ?_
       refine run_nil ?_
       refine aw_gh (gh_frzE (id := 62) (fun r => C.lst (ints r)) rfl (fun _ => (fz_own (fz_map (fun _ => rfl) _)))) ?_
       refine aw_ret ?_
       exact retAF_mk (retv1 rfl (rv_tmp rfl)) rfl rfl ⟨_, (cle_refl _), _, h, rfl⟩
    ·replace h := h.2 (of_decide_eq_false q8)
     refine aw_skip ?_
     refine aw_seq ?_
     refine aw_region ?_
     refine run_s (ss_move rfl) rfl ?_
     refine run_s (ss_move rfl) rfl ?_
     refine run_s (ss_move rfl) rfl ?_
     refine run_s (ss_move rfl) rfl ?_
     refine run_gh (gh_frzE (id := 27) ci rfl (fun _ => rfl)) ?_
     refine run_gh (gh_frzE (id := 32) ci rfl (fun _ => rfl)) ?_
     obtain ⟨q19, h⟩ := h
     refine run_w (ws_call (xs := [.tmp 46, .tmp 47, .tmp 48, .tmp 49]) (ids := []) rfl rfl rfl rfl (c_spec_l03Refine a b (List.replicate ((el a 0).length : Int).toNat (0 : Int)) (List.replicate ((el a 0).length : Int).toNat (0 : Int)) q19) rfl ?_ )
     rintro _ ⟨r2_0, r2_1, r2_2, q20, rfl⟩
     replace h := h r2_0 r2_1 r2_2 q20
     refine ⟨rfl, ?_⟩
     refine run_s (ss_move rfl) rfl ?_
     refine run_s (ss_extract rfl rfl) rfl ?_
     refine run_s (ss_extract rfl rfl) rfl ?_
     refine run_s (ss_extract rfl rfl) rfl ?_
     refine run_s (ss_assign rfl) rfl ?_
     refine run_s (ss_assign rfl) rfl ?_
     refine run_s (ss_assign rfl) rfl ?_
     refine run_nil ?_
     refine aw_seq ?_
     refine aw_seq ?_
     refine aw_gh (gh_to (n := 63) (σ' := []) (env' := [(0, .c (.lst (tabs a))), (1, .c (.lst (tabs b))), (2, .c (.lst (ints f))), (3, .c (ci most)), (11, .c (.lst (ints r2_0))), (12, .c (.lst (ints r2_1))), (13, .c (cb r2_2))]) rfl rfl ⟨rfl, rfl, rfl, rfl, rfl, rfl, rfl, trivial⟩) ?_
     refine aw_region ?_
     refine run_s (ss_move rfl) rfl ?_
     refine run_s (ss_not rfl) rfl ?_
     refine run_nil ?_
     refine aw_cond rfl (fun q21 => ?_) (fun q21 => ?_)
     ·replace h := h.1 ((bnot_t q21))
      refine aw_seq ?_
      refine aw_gh (gh_to (n := 63) (σ' := []) (env' := []) rfl rfl trivial) ?_
      refine aw_region ?_
      refine run_s (ss_assign rfl) rfl ?_
      refine run_nil ?_
      refine aw_ret ?_
      exact retAF_mk (retv1 rfl (rv_tmp rfl)) rfl rfl ⟨_, cle_nilL, _, h, rfl⟩
     ·replace h := h.2 ((bnot_f q21))
      refine aw_skip ?_
      refine aw_seq ?_
      refine aw_region ?_
      refine run_s (ss_move rfl) rfl ?_
      refine run_s (ss_move rfl) rfl ?_
      refine run_s (ss_move rfl) rfl ?_
      refine run_s (ss_move rfl) rfl ?_
      refine run_s (ss_move rfl) rfl ?_
      refine run_s (ss_move rfl) rfl ?_
      obtain ⟨q22, h⟩ := h
      refine run_w (ws_callC (xs := [.tmp 56, .tmp 57, .tmp 58, .tmp 59, .tmp 60, .tmp 61, .const (.slice none 0 0)]) (cs := [.lst (tabs a), .lst (tabs b), .lst (ints f), .lst (ints r2_0), .lst (ints r2_1), ci most, cnil]) (ids := [62]) rfl rfl rfl rfl (AM.weak (c_spec_l03Seek a b f r2_0 r2_1 most ([] : List (List Int)) q22) (cleL_cons (cle_refl _) (cleL_cons (cle_refl _) (cleL_cons (cle_refl _) (cleL_cons (cle_refl _) (cleL_cons (cle_refl _) (cleL_cons (cle_refl _) (cleL_cons cle_nilO cleL_nil)))))))) rfl ?_ )
      rintro _ _ ⟨rfl, rfl⟩
      refine ⟨rfl, ?_⟩
      refine run_s (ss_assign rfl) rfl ?_
      refine run_nil ?_
      refine aw_gh (gh_frzE (id := 62) (fun r => C.lst (ints r)) rfl (fun _ => (fz_own (fz_map (fun _ => rfl) _)))) ?_
      refine aw_ret ?_
      exact retAF_mk (retv1 rfl (rv_tmp rfl)) rfl rfl ⟨_, (cle_refl _), _, h, rfl⟩
   ·skip
    refine rt_s rfl rfl trivial (ss_move rfl) rfl ?_
    refine rt_s rfl rfl trivial (ss_idxL rfl rfl q4) rfl ?_
    refine rt_s rfl rfl trivial (ss_move rfl) rfl ?_
    refine rt_s rfl rfl trivial (ss_idxL rfl rfl q5) rfl ?_
    refine rt_l rfl rfl trivial (ss_loadL (f := (fun r => C.lst (rows r))) rfl q4) rfl ?_
    refine rt_s rfl rfl trivial (ss_lenL (f := (fun r => C.lst (ints r))) rfl) rfl ?_
    refine rt_l rfl rfl trivial (ss_loadL (f := (fun r => C.lst (rows r))) rfl q5) rfl ?_
    refine rt_s rfl rfl trivial (ss_lenL (f := (fun r => C.lst (ints r))) rfl) rfl ?_
    refine rt_br ?_ ?_
    ·skip
     refine rt_w rfl rfl trivial rfl rfl (ws_mk (id := 27) ci (0 : Int) rfl rfl rfl q6 (Nat.le_of_ble_eq_true rfl) rfl ⟨rfl, ?_⟩)
     refine rt_s rfl rfl trivial (ss_assign rfl) rfl ?_
     refine rt_w rfl rfl trivial rfl rfl (ws_mk (id := 32) ci (0 : Int) rfl rfl rfl q7 (Nat.le_of_ble_eq_true rfl) rfl ⟨rfl, ?_⟩)
     refine rt_s rfl rfl trivial (ss_assign rfl) rfl ?_
     exact rt_end (ghe_step (gh_to (n := 63) (σ' := [(32, ⟨ints (List.replicate ((el a 0).length : Int).toNat (0 : Int)), []⟩), (27, ⟨ints (List.replicate ((el a 0).length : Int).toNat (0 : Int)), []⟩)]) (env' := [(0, .c (.lst (tabs a))), (1, .c (.lst (tabs b))), (2, .c (.lst (ints f))), (3, .c (ci most)), (9, .ref 27), (10, .ref 32)]) rfl rfl ⟨rfl, rfl, rfl, rfl, rfl, rfl, trivial⟩) (ghe_step (gh_sort _) (ghe_to (n := 63) (σ' := [(27, ⟨ints (List.replicate ((el a 0).length : Int).toNat (0 : Int)), []⟩), (32, ⟨ints (List.replicate ((el a 0).length : Int).toNat (0 : Int)), []⟩)]) (env' := [(0, .c (.lst (tabs a))), (1, .c (.lst (tabs b))), (2, .c (.lst (ints f))), (3, .c (ci most)), (9, .ref 27), (10, .ref 32)]) rfl rfl ⟨rfl, rfl, rfl, rfl, rfl, rfl, trivial⟩))) hk
    refine rt_w rfl rfl trivial rfl rfl (ws_mk (id := 32) ci (0 : Int) rfl rfl rfl q6 (Nat.le_of_ble_eq_true rfl) rfl ⟨rfl, ?_⟩)
    refine rt_w rfl rfl trivial rfl rfl (ws_mk (id := 27) ci (0 : Int) rfl rfl rfl q7 (Nat.le_of_ble_eq_true rfl) rfl ⟨rfl, ?_⟩)
    refine rt_s rfl rfl trivial (ss_assign rfl) rfl ?_
    refine rt_s rfl rfl trivial (ss_assign rfl) rfl ?_
    exact rt_end (ghe_step (gh_to (n := 63) (σ' := [(27, ⟨ints (List.replicate ((el a 0).length : Int).toNat (0 : Int)), []⟩), (32, ⟨ints (List.replicate ((el a 0).length : Int).toNat (0 : Int)), []⟩)]) (env' := [(0, .c (.lst (tabs a))), (1, .c (.lst (tabs b))), (2, .c (.lst (ints f))), (3, .c (ci most)), (9, .ref 27), (10, .ref 32)]) rfl rfl ⟨rfl, rfl, rfl, rfl, rfl, rfl, trivial⟩) (ghe_step (gh_sort _) (ghe_to (n := 63) (σ' := [(27, ⟨ints (List.replicate ((el a 0).length : Int).toNat (0 : Int)), []⟩), (32, ⟨ints (List.replicate ((el a 0).length : Int).toNat (0 : Int)), []⟩)]) (env' := [(0, .c (.lst (tabs a))), (1, .c (.lst (tabs b))), (2, .c (.lst (ints f))), (3, .c (ci most)), (9, .ref 27), (10, .ref 32)]) rfl rfl ⟨rfl, rfl, rfl, rfl, rfl, rfl, trivial⟩))) hk

theorem c_spec_l03Maps (a : List (List (List Int))) (b : List (List (List Int))) (f : List Int) (most : Int) (hp : f = [] ∧ TabsP a ∧ TabsP b ∧ a.length = b.length ∧ 1 ≤ most ∧ most ≤ 1000000) : AF Try.prog 38 [.lst (tabs a), .lst (tabs b), .lst (ints f), ci most] (fun R_ => R_ = .lst (rows ((isoL a b).take most.toNat))) :=
  (w_spec_l03Maps a b f most (fun y0 => y0 = (isoL a b).take most.toNat) (p_spec_l03Maps a b f most hp)).mono (by rintro r ⟨_, rfl, rfl⟩; rfl)

def wp_impl_CountRackAutomorphisms (r : List (List Int)) (Q : Int → Int → Prop) : Prop :=
 (small2 r) ∧
 (((isRk r) = false →
 Q 0 1) ∧
 ((isRk r) = true →
 ((7 < (r.length : Int) →
 Q 0 3) ∧
 (¬ (7 < (r.length : Int)) →
 (TabsP ([r]) ∧ TabsP ([r]) ∧ ([r]).length = ([r]).length ∧ 1 ≤ ([r]).length) ∧
 ∃ (H1 : Nat → Int → Prop), H1 0 0 ∧
 ((∀ (k1 : Nat) (f4_0_1 : Int) (e1 : List Int), (isoL ([r]) ([r]))[k1]? = some e1 → H1 k1 f4_0_1 →
 (InI (f4_0_1 + 1)) ∧
 H1 (k1 + 1) (f4_0_1 + 1)) ∧
 (∀ (f4_0_1 : Int), H1 (isoL ([r]) ([r])).length f4_0_1 →
 Q f4_0_1 0))))))

def wp_spec_CountRackAutomorphisms (r : List (List Int)) (Q : Int → Int → Prop) : Prop :=
 (small2 r) ∧
 (((isRk r) = false →
 Q 0 1) ∧
 ((isRk r) = true →
 ((7 < (r.length : Int) →
 Q 0 3) ∧
 (¬ (7 < (r.length : Int)) →
 (([] : List Int) = [] ∧ TabsP ([r]) ∧ TabsP ([r]) ∧ ([r]).length = ([r]).length ∧ 1 ≤ (1000000 : Int) ∧ (1000000 : Int) ≤ 1000000) ∧
 Q (((isoL ([r]) ([r])).take (1000000 : Int).toNat).length : Int) 0))))

theorem aut_no {r : List (List Int)} (h : isRk r = false) : AutV r = 0 ∧ AutE r = 1 := by
  have e : AutE r = 1 := by unfold AutE; rw [h]; rfl
  exact ⟨by unfold AutV; rw [e]; rfl, e⟩
theorem aut_big {r : List (List Int)} (h : isRk r = true) (h7 : 7 < (r.length : Int)) : AutV r = 0 ∧ AutE r = 3 := by
  have e : AutE r = 3 := by unfold AutE; rw [if_pos h, if_pos h7]
  exact ⟨by unfold AutV; rw [e]; rfl, e⟩
theorem aut_some {r : List (List Int)} (h : isRk r = true) (h7 : ¬ 7 < (r.length : Int)) : AutV r = ((isoL [r] [r]).length : Int) ∧ AutE r = 0 := by
  have e : AutE r = 0 := by unfold AutE; rw [if_pos h, if_neg h7]
  exact ⟨by unfold AutV; rw [e]; rfl, e⟩
theorem p_impl_CountRackAutomorphisms (r : List (List Int)) (hp : small2 r) : wp_impl_CountRackAutomorphisms r (fun y0 y1 => y0 = AutV r ∧ y1 = AutE r) := by
  unfold wp_impl_CountRackAutomorphisms
  refine ⟨hp, fun h => ⟨(aut_no h).1.symm, (aut_no h).2.symm⟩, fun h => ⟨fun h7 => ⟨(aut_big h h7).1.symm, (aut_big h h7).2.symm⟩, fun h7 => ⟨⟨tabs1 (isRk_tab h), tabs1 (isRk_tab h), rfl, by simp⟩, fun k c => c = (k : Int), rfl, fun k c e he hc => ?_, fun c hc => ?_⟩⟩⟩
  · have hk := (List.getElem?_eq_some_iff.1 he).1
    have := isoL_few (a := [r]) (b := [r]) (show ((r.length : Nat) : Int) ≤ 7 by omega)
    exact ⟨⟨by omega, by omega⟩, by omega⟩
  · exact ⟨by rw [(aut_some h h7).1]; exact hc, (aut_some h h7).2.symm⟩
theorem p_spec_CountRackAutomorphisms (r : List (List Int)) (hp : small2 r) : wp_spec_CountRackAutomorphisms r (fun y0 y1 => y0 = AutV r ∧ y1 = AutE r) := by
  unfold wp_spec_CountRackAutomorphisms
  refine ⟨hp, fun h => ⟨(aut_no h).1.symm, (aut_no h).2.symm⟩, fun h => ⟨fun h7 => ⟨(aut_big h h7).1.symm, (aut_big h h7).2.symm⟩, fun h7 => ⟨⟨rfl, tabs1 (isRk_tab h), tabs1 (isRk_tab h), rfl, by omega, by omega⟩, ?_⟩⟩⟩
  have := isoL_few (a := [r]) (b := [r]) (show ((r.length : Nat) : Int) ≤ 7 by omega)
  rw [List.take_of_length_le (by omega)]
  exact ⟨(aut_some h h7).1.symm, (aut_some h h7).2.symm⟩
theorem c_impl_isomorphisms (ta tb : List (List (List Int))) (_hp : TabsP ta ∧ TabsP tb ∧ ta.length = tb.length ∧ 1 ≤ ta.length) : AF Try.prog 39 [.lst (tabs ta), .lst (tabs tb)] (fun R_ => R_ = .clo 73 [.ptr [.lst (tabs ta)], .ptr [.lst (tabs tb)]]) := by
  refine af_enter (n := 6) Try.func39 rfl (by rfl) rfl (Nat.le_of_ble_eq_true rfl) ?_
  refine aw_seq ?_
  refine aw_gh (gh_to (n := 6) (σ' := []) (env' := [(0, .c (.lst (tabs ta))), (1, .c (.lst (tabs tb)))]) rfl rfl ⟨rfl, rfl, trivial⟩) ?_
  refine aw_region ?_
  refine run_w (ws_boxR rfl (.inr rfl) rfl ⟨rfl, ?_⟩)
  refine run_w (ws_boxR rfl (.inr rfl) rfl ⟨rfl, ?_⟩)
  refine run_s (ss_assign rfl) rfl ?_
  refine run_nil ?_
  refine aw_seq ?_
  refine aw_region ?_
  refine run_s (ss_makeFunc (os := [.tmp 2, .tmp 3]) rfl) rfl ?_
  refine run_s (ss_assign rfl) rfl ?_
  refine run_nil ?_
  refine aw_ret ?_
  exact retAF_mk (retv1 rfl (rv_tmp rfl)) rfl rfl rfl



set_option maxRecDepth 100000 in
set_option maxHeartbeats 4000000 in
theorem w_impl_CountRackAutomorphisms (r : List (List Int)) (Q : Int → Int → Prop) (h : wp_impl_CountRackAutomorphisms r Q) : AF Try.prog 14 [.agg [.lst (rows r)]] (fun R_ => ∃ y0 y1, Q y0 y1 ∧ R_ = .tup [ci y0, ci y1]) := by
  refine AF.ofWQ (af_enterK (n := 23) Try.func14 rfl (by rfl) rfl (Nat.le_of_ble_eq_true rfl) ?_)
  unfold wp_impl_CountRackAutomorphisms at h
  refine ar_seq ?_
  refine aw_gh (gh_to (n := 23) (σ' := []) (env' := [(0, .c (.agg [.lst (rows r)]))]) rfl rfl ⟨rfl, trivial⟩) ?_
  refine aw_region ?_
  refine run_w (ws_boxR rfl (.inl rfl) rfl ⟨rfl, ?_⟩)
  refine run_s (ss_assign rfl) rfl ?_
  refine run_s (ss_assign rfl) rfl ?_
  refine run_nil ?_
  refine ar_seq ?_
  refine aw_seq ?_
  refine aw_region ?_
  refine run_s (ss_load_struct rfl (Nat.le_of_ble_eq_true rfl)) rfl ?_
  obtain ⟨q1, h⟩ := h
  refine run_w (ws_call (xs := [.tmp 5]) (ids := []) rfl rfl rfl rfl (c_impl_IsRack r q1) rfl ?_ )
  rintro _ rfl
  refine ⟨rfl, ?_⟩
  refine run_s (ss_not rfl) rfl ?_
  refine run_nil ?_
  refine aw_cond rfl (fun q3 => ?_) (fun q3 => ?_)
  ·replace h := h.1 ((bnot_t q3))
   refine aw_seq ?_
   refine aw_gh (gh_to (n := 23) (σ' := []) (env' := [(2, .c (ci 0)), (3, .c (ci 0))]) rfl rfl ⟨rfl, rfl, trivial⟩) ?_
   refine aw_region ?_
   refine run_s (ss_assign rfl) rfl ?_
   refine run_s (ss_assign rfl) rfl ?_
   refine run_nil ?_
   refine aw_ret ?_
   exact retAF_mk (retv2 rfl (rv_tmp rfl) (rv_tmp rfl)) rfl rfl ⟨_, (cle_refl _), _, _, h, rfl⟩
  ·replace h := h.2 ((bnot_f q3))
   refine aw_skip ?_
   refine ar_seq ?_
   refine aw_seq ?_
   refine aw_region ?_
   refine run_s (ss_field_ptr rfl) rfl ?_
   refine run_s (ss_load_ptr rfl rfl) rfl ?_
   refine run_s (ss_lenL (f := (fun r => C.lst (ints r))) rfl) rfl ?_
   refine run_s (ss_gtr rfl rfl) rfl ?_
   refine run_nil ?_
   refine aw_cond rfl (fun q4 => ?_) (fun q4 => ?_)
   ·replace h := h.1 (of_decide_eq_true q4)
    refine aw_seq ?_
    refine aw_gh (gh_to (n := 23) (σ' := []) (env' := [(2, .c (ci 0)), (3, .c (ci 0))]) rfl rfl ⟨rfl, rfl, trivial⟩) ?_
    refine aw_region ?_
    refine run_s (ss_assign rfl) rfl ?_
    refine run_s (ss_assign rfl) rfl ?_
    refine run_nil ?_
    refine aw_ret ?_
    exact retAF_mk (retv2 rfl (rv_tmp rfl) (rv_tmp rfl)) rfl rfl ⟨_, (cle_refl _), _, _, h, rfl⟩
   ·replace h := h.2 (of_decide_eq_false q4)
    refine aw_skip ?_
    refine ar_seq ?_
    refine aw_gh (gh_to (n := 23) (σ' := []) (env' := [(1, .c (.ptr [.lst (rows r)])), (2, .c (ci 0)), (3, .c (ci 0))]) rfl rfl ⟨rfl, rfl, rfl, trivial⟩) ?_
    refine aw_region ?_
    refine run_w (ws_alloc (id := 4) rfl (Nat.le_of_ble_eq_true rfl) ⟨rfl, ?_⟩)
    refine run_nil ?_
    refine ar_seqK ?_
    refine ar_seq ?_
    refine aw_region ?_
    refine run_s (ss_field_ptr rfl) rfl ?_
    refine run_s (ss_load_ptr rfl rfl) rfl ?_
    refine run_w (ws_buildSlice (id := 14) (ps := [(0, .tmp 13)]) rfl rfl (Nat.le_of_ble_eq_true rfl) rfl ⟨rfl, ?_⟩)
    refine run_s (ss_field_ptr rfl) rfl ?_
    refine run_s (ss_load_ptr rfl rfl) rfl ?_
    refine run_w (ws_buildSlice (id := 17) (ps := [(0, .tmp 16)]) rfl rfl (Nat.le_of_ble_eq_true rfl) rfl ⟨rfl, ?_⟩)
    refine run_gh (gh_frzE (id := 14) (f := (fun r => C.lst (rows r))) (l := ([r])) (fun r => C.lst (rows r)) rfl (fun _ => rfl)) ?_
    refine run_gh (gh_frzE (id := 17) (f := (fun r => C.lst (rows r))) (l := ([r])) (fun r => C.lst (rows r)) rfl (fun _ => rfl)) ?_
    obtain ⟨q5, h⟩ := h
    refine run_w (ws_call (xs := [.tmp 14, .tmp 17]) (ids := []) rfl rfl rfl rfl (c_impl_isomorphisms ([r]) ([r]) q5) rfl ?_ )
    rintro _ rfl
    refine ⟨rfl, ?_⟩
    refine run_nil ?_
    refine ar_block ?_
    refine ar_gh (gh_to (n := 23) (σ' := [(4, ⟨[ci 0], []⟩)]) (env' := [(2, .c (ci 0)), (3, .c (ci 0)), (4, .cell 4 0), (18, .c (.clo 73 [.ptr [.lst (tabs ([r]))], .ptr [.lst (tabs ([r]))]]))]) rfl rfl ⟨rfl, rfl, rfl, rfl, trivial⟩) ?_
    obtain ⟨H1, q7, h⟩ := h
    refine ar_rangeE (en := (fun p_ => .lst (ints p_))) 5000 [(5002, .c (ci 0)), (5003, .c (ci 0)), (5004, .cell 4 0), (5018, .c (.clo 73 [.ptr [.lst (tabs ([r]))], .ptr [.lst (tabs ([r]))]]))] (fun (f4_0_1 : Int) => [(4, ⟨[ci f4_0_1], []⟩)]) H1 (c_impl_isomorphisms_1 ([r]) ([r]) q5) rfl rfl rfl rfl rfl ⟨0, ghe_to (n := 23) rfl rfl ⟨rfl, rfl, rfl, rfl, trivial⟩, (by simp [σok, slfL, C.slf, slf_ints, slf_orows, slf_ci, ci, cb]), q7⟩ (fun k1 f4_0_1 e1 q8 q9 => ?_) (fun f4_0_1 q9 => ?_)
    ·replace h := h.1 k1 f4_0_1 e1 q8 q9
     refine aw_gh (gh_to (n := 23) (σ' := [(4, ⟨[ci f4_0_1], []⟩)]) (env' := [(2, .c (ci 0)), (3, .c (ci 0)), (4, .cell 4 0), (18, .c (.clo 73 [.ptr [.lst (tabs ([r]))], .ptr [.lst (tabs ([r]))]])), (19, .c (.lst (ints e1))), (5002, .c (ci 0)), (5003, .c (ci 0)), (5004, .cell 4 0), (5018, .c (.clo 73 [.ptr [.lst (tabs ([r]))], .ptr [.lst (tabs ([r]))]]))]) rfl rfl ⟨rfl, rfl, rfl, rfl, rfl, rfl, rfl, rfl, rfl, trivial⟩) ?_
     refine aw_skip ?_
     refine aw_block ?_
     refine aw_gh (gh_to (n := 23) (σ' := [(4, ⟨[ci f4_0_1], []⟩)]) (env' := [(4, .cell 4 0), (5002, .c (ci 0)), (5003, .c (ci 0)), (5004, .cell 4 0), (5018, .c (.clo 73 [.ptr [.lst (tabs ([r]))], .ptr [.lst (tabs ([r]))]]))]) rfl rfl ⟨rfl, rfl, rfl, rfl, rfl, trivial⟩) ?_
     refine aw_region ?_
     refine run_s (ss_loadC rfl rfl rfl rfl rfl) rfl ?_
     obtain ⟨q10, h⟩ := h
     refine run_s (ss_add rfl rfl q10) rfl ?_
     refine run_w (ws_store rfl rfl (Nat.le_of_ble_eq_true rfl) rfl rfl ⟨rfl, ?_⟩)
     refine run_nil ?_
     exact ⟨f4_0_1 + 1, ghe_to (n := 23) rfl rfl ⟨rfl, rfl, rfl, rfl, trivial⟩, (by simp [σok, slfL, C.slf, slf_ints, slf_orows, slf_ci, ci, cb]), h⟩
    ·replace h := h.2 f4_0_1 q9
     refine ar_aw ?_
     refine aw_seq ?_
     refine aw_gh (gh_to (n := 23) (σ' := [(4, ⟨[ci f4_0_1], []⟩)]) (env' := [(2, .c (ci 0)), (3, .c (ci 0)), (4, .cell 4 0)]) rfl rfl ⟨rfl, rfl, rfl, trivial⟩) ?_
     refine aw_region ?_
     refine run_s (ss_loadC rfl rfl rfl rfl rfl) rfl ?_
     refine run_s (ss_assign rfl) rfl ?_
     refine run_s (ss_assign rfl) rfl ?_
     refine run_nil ?_
     refine aw_ret ?_
     exact retAF_mk (retv2 rfl (rv_tmp rfl) (rv_tmp rfl)) rfl rfl ⟨_, (cle_refl _), _, _, h, rfl⟩

theorem c_impl_CountRackAutomorphisms (r : List (List Int)) (hp : small2 r) : AF Try.prog 14 [.agg [.lst (rows r)]] (fun R_ => R_ = .tup [ci (AutV r), ci (AutE r)]) :=
  (w_impl_CountRackAutomorphisms r (fun y0 y1 => y0 = AutV r ∧ y1 = AutE r) (p_impl_CountRackAutomorphisms r hp)).mono (by rintro r ⟨_, _, ⟨rfl, rfl⟩, rfl⟩; rfl)

set_option maxRecDepth 100000 in
set_option maxHeartbeats 4000000 in
theorem w_spec_CountRackAutomorphisms (r : List (List Int)) (Q : Int → Int → Prop) (h : wp_spec_CountRackAutomorphisms r Q) : AF Try.prog 13 [.agg [.lst (rows r)]] (fun R_ => ∃ y0 y1, Q y0 y1 ∧ R_ = .tup [ci y0, ci y1]) := by
  refine AF.ofWQ (af_enter (n := 21) Try.func13 rfl (by rfl) rfl (Nat.le_of_ble_eq_true rfl) ?_)
  unfold wp_spec_CountRackAutomorphisms at h
  refine aw_seq ?_
  refine aw_gh (gh_to (n := 21) (σ' := []) (env' := [(0, .c (.agg [.lst (rows r)]))]) rfl rfl ⟨rfl, trivial⟩) ?_
  refine aw_region ?_
  refine run_w (ws_boxR rfl (.inl rfl) rfl ⟨rfl, ?_⟩)
  refine run_s (ss_assign rfl) rfl ?_
  refine run_s (ss_assign rfl) rfl ?_
  refine run_nil ?_
  refine aw_seq ?_
  refine aw_block ?_
  refine aw_seq ?_
  refine aw_region ?_
  refine run_s (ss_load_struct rfl (Nat.le_of_ble_eq_true rfl)) rfl ?_
  obtain ⟨q1, h⟩ := h
  refine run_w (ws_call (xs := [.tmp 5]) (ids := []) rfl rfl rfl rfl (c_spec_l03Is r q1) rfl ?_ )
  rintro _ rfl
  refine ⟨rfl, ?_⟩
  refine run_s (ss_not rfl) rfl ?_
  refine run_s (ss_assign rfl) rfl ?_
  refine run_nil ?_
  refine aw_cond rfl (fun q3 => ?_) (fun q3 => ?_)
  ·replace h := h.1 ((bnot_t q3))
   refine aw_seq ?_
   refine aw_gh (gh_to (n := 21) (σ' := []) (env' := [(2, .c (ci 0)), (3, .c (ci 0))]) rfl rfl ⟨rfl, rfl, trivial⟩) ?_
   refine aw_region ?_
   refine run_s (ss_assign rfl) rfl ?_
   refine run_s (ss_assign rfl) rfl ?_
   refine run_nil ?_
   refine aw_ret ?_
   exact retAF_mk (retv2 rfl (rv_tmp rfl) (rv_tmp rfl)) rfl rfl ⟨_, (cle_refl _), _, _, h, rfl⟩
  ·replace h := h.2 ((bnot_f q3))
   refine aw_seq ?_
   refine aw_region ?_
   refine run_s (ss_field_ptr rfl) rfl ?_
   refine run_s (ss_load_ptr rfl rfl) rfl ?_
   refine run_s (ss_lenL (f := (fun r => C.lst (ints r))) rfl) rfl ?_
   refine run_s (ss_gtr rfl rfl) rfl ?_
   refine run_s (ss_assign rfl) rfl ?_
   refine run_nil ?_
   refine aw_cond rfl (fun q4 => ?_) (fun q4 => ?_)
   ·replace h := h.1 (of_decide_eq_true q4)
    refine aw_seq ?_
    refine aw_gh (gh_to (n := 21) (σ' := []) (env' := [(2, .c (ci 0)), (3, .c (ci 0))]) rfl rfl ⟨rfl, rfl, trivial⟩) ?_
    refine aw_region ?_
    refine run_s (ss_assign rfl) rfl ?_
    refine run_s (ss_assign rfl) rfl ?_
    refine run_nil ?_
    refine aw_ret ?_
    exact retAF_mk (retv2 rfl (rv_tmp rfl) (rv_tmp rfl)) rfl rfl ⟨_, (cle_refl _), _, _, h, rfl⟩
   ·replace h := h.2 (of_decide_eq_false q4)
    refine aw_skip ?_
    refine aw_seq ?_
    refine aw_region ?_
    refine run_s (ss_field_ptr rfl) rfl ?_
    refine run_s (ss_load_ptr rfl rfl) rfl ?_
    refine run_w (ws_buildSlice (id := 15) (ps := [(0, .tmp 14)]) rfl rfl (Nat.le_of_ble_eq_true rfl) rfl ⟨rfl, ?_⟩)
    refine run_s (ss_field_ptr rfl) rfl ?_
    refine run_s (ss_load_ptr rfl rfl) rfl ?_
    refine run_w (ws_buildSlice (id := 18) (ps := [(0, .tmp 17)]) rfl rfl (Nat.le_of_ble_eq_true rfl) rfl ⟨rfl, ?_⟩)
    refine run_gh (gh_frzE (id := 15) (f := (fun r => C.lst (rows r))) (l := ([r])) (fun r => C.lst (rows r)) rfl (fun _ => rfl)) ?_
    refine run_gh (gh_frzE (id := 18) (f := (fun r => C.lst (rows r))) (l := ([r])) (fun r => C.lst (rows r)) rfl (fun _ => rfl)) ?_
    obtain ⟨q5, h⟩ := h
    refine run_w (ws_call (xs := [.tmp 15, .tmp 18, .const (.slice none 0 0), .const (.int .i64 (1000000))]) (ids := []) rfl rfl rfl rfl (AF.weak (c_spec_l03Maps ([r]) ([r]) ([] : List Int) 1000000 q5) (cleL_cons (cle_refl _) (cleL_cons (cle_refl _) (cleL_cons cle_nilL (cleL_cons (cle_refl _) cleL_nil))))) rfl ?_ )
    rintro _ rfl
    refine ⟨rfl, ?_⟩
    refine run_s (ss_lenL (f := (fun r => C.lst (ints r))) rfl) rfl ?_
    refine run_s (ss_assign rfl) rfl ?_
    refine run_s (ss_assign rfl) rfl ?_
    refine run_nil ?_
    refine aw_ret ?_
    exact retAF_mk (retv2 rfl (rv_tmp rfl) (rv_tmp rfl)) rfl rfl ⟨_, (cle_refl _), _, _, h, rfl⟩

theorem c_spec_CountRackAutomorphisms (r : List (List Int)) (hp : small2 r) : AF Try.prog 13 [.agg [.lst (rows r)]] (fun R_ => R_ = .tup [ci (AutV r), ci (AutE r)]) :=
  (w_spec_CountRackAutomorphisms r (fun y0 y1 => y0 = AutV r ∧ y1 = AutE r) (p_spec_CountRackAutomorphisms r hp)).mono (by rintro r ⟨_, _, ⟨rfl, rfl⟩, rfl⟩; rfl)

def wp_laws_FnExactCountRackAutomorphisms (a0 : List (List Int)) (Q : Bool → Prop) : Prop :=
 (InS (1048576 : Int) ∧ huge2 a0) ∧
 ((szII a0 (1048576 : Int) < 0 →
 Q true) ∧
 (¬ (szII a0 (1048576 : Int) < 0) →
 (small2 a0) ∧
 (small2 a0) ∧
 (small2 a0) ∧
 (small2 a0) ∧
 ((¬ (AutV a0 = AutV a0) →
 Q false) ∧
 (AutV a0 = AutV a0 →
 ((¬ (AutE a0 = AutE a0) →
 Q false) ∧
 (AutE a0 = AutE a0 →
 (small2 a0) ∧
 (small2 a0 ∧ small2 a0) ∧
 ((¬ (a0 = a0) →
 Q false) ∧
 (a0 = a0 →
 Q true))))))))

@[reducible] def fine2 (t : List (List Int)) : Prop := small2 t ∧ tot t ≤ 1000000000
theorem sz_fine {a : List (List Int)} {left : Int} (hl : left ≤ 1000000000) (h : ¬ szII a left < 0) : fine2 a := by
  unfold szII at h
  split at h
  · omega
  · have tn := tot_nonneg a
    refine ⟨⟨by show (a.length : Int) ≤ 1000000000; omega, fun r hr => ?_⟩, by omega⟩
    obtain ⟨i, hi, rfl⟩ := mem_el hr
    have := tt_row hi
    have := (tt_le a i).1
    show ((el a i).length : Int) ≤ 1000000000; omega
theorem sz_in {a : List (List Int)} {left : Int} (hl : left ≤ 1000000000) (h : ¬ szII a left < 0) : InS (szII a left) := by
  refine ⟨by omega, ?_⟩
  unfold szII
  have := tot_nonneg a
  split <;> omega
theorem InS20 : InS 1048576 := ⟨by omega, by omega⟩
theorem fine_mkk {T : List (List Int)} {k : Int} (h : fine2 T) (hk : 0 ≤ k ∧ k ≤ 100000000000) : okKT k T ∧ ¬ (k + tot T < 0) := by
  have := tot_nonneg T
  have h2 := h.2
  exact ⟨⟨by omega, by omega⟩, by omega⟩
theorem p_laws_FnExactCountRackAutomorphisms (a0 : List (List Int)) (hp : huge2 a0) : wp_laws_FnExactCountRackAutomorphisms a0 (fun y0 => y0 = true) := by
  unfold wp_laws_FnExactCountRackAutomorphisms
  have ha0 := hp
  by_cases za0 : szII a0 1048576 < 0
  · simp [eq_true InS20, eq_true ha0, za0]
  have fa0 := sz_fine (by omega) za0
  have ia0 := sz_in (by omega) za0
  have j0 : 0 ≤ (1 : Int) ∧ (1 : Int) ≤ 100000000000 := ⟨by omega, by omega⟩
  have ma0 := fine_mkk fa0 j0
  have ta0 := tot_nonneg a0
  have j1 : 0 ≤ 1 + tot a0 ∧ 1 + tot a0 ≤ 100000000000 := ⟨by omega, by have := fa0.2; omega⟩
  have k1 : okK 1 := ⟨by omega, by omega⟩
  simp [eq_true InS20, eq_true ha0, za0, eq_true fa0.1, eq_true ia0, eq_true ma0.1, ma0.2, eq_true k1]
set_option maxRecDepth 100000 in
set_option maxHeartbeats 4000000 in
theorem w_laws_FnExactCountRackAutomorphisms (a0 : List (List Int)) (Q : Bool → Prop) (h : wp_laws_FnExactCountRackAutomorphisms a0 Q) : AF Try.prog 4 [.agg [.lst (rows a0)]] (fun R_ => ∃ y0, Q y0 ∧ R_ = cb y0) := by
  refine AF.ofWQ (af_enter (n := 40) Try.func4 rfl (by rfl) rfl (Nat.le_of_ble_eq_true rfl) ?_)
  unfold wp_laws_FnExactCountRackAutomorphisms at h
  refine aw_seq ?_
  refine aw_gh (gh_to (n := 40) (σ' := []) (env' := [(0, .c (.agg [.lst (rows a0)]))]) rfl rfl ⟨rfl, trivial⟩) ?_
  refine aw_region ?_
  refine run_w (ws_boxR rfl (.inl rfl) rfl ⟨rfl, ?_⟩)
  refine run_s (ss_assign rfl) rfl ?_
  refine run_nil ?_
  refine aw_seq ?_
  refine aw_region ?_
  refine run_s (ss_assign rfl) rfl ?_
  refine run_nil ?_
  refine aw_seq ?_
  refine aw_region ?_
  refine run_s (ss_load_struct rfl (Nat.le_of_ble_eq_true rfl)) rfl ?_
  refine run_s (ss_move rfl) rfl ?_
  obtain ⟨q1, h⟩ := h
  refine run_w (ws_call (xs := [.tmp 9, .tmp 10]) (ids := []) rfl rfl rfl rfl (c_laws_szRack a0 1048576 q1) rfl ?_ )
  rintro _ rfl
  refine ⟨rfl, ?_⟩
  refine run_s (ss_assign rfl) rfl ?_
  refine run_nil ?_
  refine aw_seq ?_
  refine aw_seq ?_
  refine aw_region ?_
  refine run_s (ss_move rfl) rfl ?_
  refine run_s (ss_lss rfl rfl) rfl ?_
  refine run_nil ?_
  refine aw_cond rfl (fun q3 => ?_) (fun q3 => ?_)
  ·replace h := h.1 (of_decide_eq_true q3)
   refine aw_seq ?_
   refine aw_gh (gh_to (n := 40) (σ' := []) (env' := [(2, .c (cb false))]) rfl rfl ⟨rfl, trivial⟩) ?_
   refine aw_region ?_
   refine run_s (ss_assign rfl) rfl ?_
   refine run_nil ?_
   refine aw_ret ?_
   exact retAF_mk (retv1 rfl (rv_tmp rfl)) rfl rfl ⟨_, (cle_refl _), _, h, rfl⟩
  ·replace h := h.2 (of_decide_eq_false q3)
   refine aw_skip ?_
   refine aw_seq ?_
   refine aw_region ?_
   refine run_s (ss_load_struct rfl (Nat.le_of_ble_eq_true rfl)) rfl ?_
   obtain ⟨q4, h⟩ := h
   refine run_w (ws_call (xs := [.tmp 15]) (ids := [16]) rfl rfl rfl rfl (c_laws_toRack a0 q4) rfl ?_ )
   rintro _ rfl
   refine ⟨rfl, ?_⟩
   obtain ⟨q6, h⟩ := h
   refine run_w (ws_callR (xs := [.tmp 16]) (cs := [.agg [.own (orows a0)]]) (ids := []) rfl (.inr ⟨rfl, rfl⟩) rfl rfl (fz_cons (fz_agg (fz_cons (fz_own (fz_map (fun _ => (fz_own (fz_map (fun _ => rfl) _))) _)) fz_nil)) fz_nil) (c_spec_CountRackAutomorphisms a0 q6) rfl ?_ )
   rintro _ rfl
   refine ⟨(slf_tup (slf_cons rfl (slf_cons rfl slf_nil))), rfl, ?_⟩
   refine run_s (ss_move rfl) rfl ?_
   refine run_s (ss_extract rfl rfl) rfl ?_
   refine run_s (ss_extract rfl rfl) rfl ?_
   refine run_s (ss_assign rfl) rfl ?_
   refine run_s (ss_assign rfl) rfl ?_
   refine run_nil ?_
   refine aw_seq ?_
   refine aw_gh (gh_to (n := 40) (σ' := [(16, ⟨orows a0, []⟩)]) (env' := [(1, .c (.ptr [.lst (rows a0)])), (4, .c (ci (AutV a0))), (5, .c (ci (AutE a0)))]) rfl rfl ⟨rfl, rfl, rfl, trivial⟩) ?_
   refine aw_region ?_
   refine run_s (ss_load_struct rfl (Nat.le_of_ble_eq_true rfl)) rfl ?_
   obtain ⟨q8, h⟩ := h
   refine run_w (ws_call (xs := [.tmp 20]) (ids := [21]) rfl rfl rfl rfl (c_laws_toRack a0 q8) rfl ?_ )
   rintro _ rfl
   refine ⟨rfl, ?_⟩
   refine run_w (ws_alloc (id := 6) rfl (Nat.le_of_ble_eq_true rfl) ⟨rfl, ?_⟩)
   refine run_w (ws_storeS rfl rfl (Nat.le_of_ble_eq_true rfl) rfl rfl rfl ⟨rfl, ?_⟩)
   refine run_nil ?_
   refine aw_seq ?_
   refine aw_region ?_
   refine run_s (ss_loadS rfl rfl rfl rfl) rfl ?_
   obtain ⟨q10, h⟩ := h
   refine run_w (ws_callR (xs := [.tmp 23]) (cs := [.agg [.own (orows a0)]]) (ids := []) rfl (.inr ⟨rfl, rfl⟩) rfl rfl (fz_cons (fz_agg (fz_cons (fz_own (fz_map (fun _ => (fz_own (fz_map (fun _ => rfl) _))) _)) fz_nil)) fz_nil) (c_impl_CountRackAutomorphisms a0 q10) rfl ?_ )
   rintro _ rfl
   refine ⟨(slf_tup (slf_cons rfl (slf_cons rfl slf_nil))), rfl, ?_⟩
   refine run_s (ss_move rfl) rfl ?_
   refine run_s (ss_extract rfl rfl) rfl ?_
   refine run_s (ss_extract rfl rfl) rfl ?_
   refine run_s (ss_assign rfl) rfl ?_
   refine run_s (ss_assign rfl) rfl ?_
   refine run_nil ?_
   refine aw_seq ?_
   refine aw_seq ?_
   refine aw_gh (gh_to (n := 40) (σ' := [(6, ⟨[.hole], [(0, .ref 21)]⟩), (21, ⟨orows a0, []⟩), (16, ⟨orows a0, []⟩)]) (env' := [(1, .c (.ptr [.lst (rows a0)])), (4, .c (ci (AutV a0))), (5, .c (ci (AutE a0))), (6, .cell 6 0), (7, .c (ci (AutV a0))), (8, .c (ci (AutE a0)))]) rfl rfl ⟨rfl, rfl, rfl, rfl, rfl, rfl, trivial⟩) ?_
   refine aw_region ?_
   refine run_s (ss_move rfl) rfl ?_
   refine run_s (ss_move rfl) rfl ?_
   refine run_s (ss_neq rfl rfl) rfl ?_
   refine run_s (ss_move rfl) rfl ?_
   refine run_split (s := 30) rfl (fun q12 => ?_) (fun q12 => ?_)
   ·replace h := h.1 (of_decide_eq_false (bnot_t q12))
    refine run_gf rfl rfl q12 rfl ?_
    refine run_gf rfl rfl q12 rfl ?_
    refine run_gf rfl rfl q12 rfl ?_
    refine run_s (ss_pickT rfl q12 rfl) rfl ?_
    refine run_nil ?_
    refine aw_cond rfl (fun q13 => ?_) (fun q13 => ?_)
    ·skip
     refine aw_seq ?_
     refine aw_gh (gh_to (n := 40) (σ' := [(6, ⟨[.hole], [(0, .ref 21)]⟩), (21, ⟨orows a0, []⟩), (16, ⟨orows a0, []⟩)]) (env' := []) rfl rfl trivial) ?_
     refine aw_region ?_
     refine run_s (ss_assign rfl) rfl ?_
     refine run_nil ?_
     refine aw_ret ?_
     exact retAF_mk (retv1 rfl (rv_tmp rfl)) rfl rfl ⟨_, (cle_refl _), _, h, rfl⟩
    ·cases q13
   ·replace h := h.2 (of_decide_eq_true (bnot_f q12))
    refine run_gt rfl rfl q12 ?_
    refine run_s (ss_move rfl) rfl ?_
    refine run_gt rfl rfl q12 ?_
    refine run_s (ss_move rfl) rfl ?_
    refine run_gt rfl rfl q12 ?_
    refine run_s (ss_neq rfl rfl) rfl ?_
    refine run_s (ss_pickF rfl q12 rfl) rfl ?_
    refine run_nil ?_
    refine aw_cond rfl (fun q14 => ?_) (fun q14 => ?_)
    ·replace h := h.1 (of_decide_eq_false (bnot_t q14))
     refine aw_seq ?_
     refine aw_gh (gh_to (n := 40) (σ' := [(6, ⟨[.hole], [(0, .ref 21)]⟩), (21, ⟨orows a0, []⟩), (16, ⟨orows a0, []⟩)]) (env' := []) rfl rfl trivial) ?_
     refine aw_region ?_
     refine run_s (ss_assign rfl) rfl ?_
     refine run_nil ?_
     refine aw_ret ?_
     exact retAF_mk (retv1 rfl (rv_tmp rfl)) rfl rfl ⟨_, (cle_refl _), _, h, rfl⟩
    ·replace h := h.2 (of_decide_eq_true (bnot_f q14))
     refine aw_skip ?_
     refine aw_seq ?_
     refine aw_seq ?_
     refine aw_gh (gh_to (n := 40) (σ' := [(6, ⟨[.hole], [(0, .ref 21)]⟩), (21, ⟨orows a0, []⟩), (16, ⟨orows a0, []⟩)]) (env' := [(1, .c (.ptr [.lst (rows a0)])), (6, .cell 6 0)]) rfl rfl ⟨rfl, rfl, trivial⟩) ?_
     refine aw_regionD (kd := kdl [1, 1, 2, 2, 0]) (ord := [0, 1, 2, 3, 4]) [] mixed (by kernel_rfl) ?_
     refine rd_l rfl rfl trivial (ss_loadS rfl rfl rfl rfl) rfl ?_
     refine rd_l rfl rfl trivial (ss_load_struct rfl (Nat.le_of_ble_eq_true rfl)) rfl ?_
     obtain ⟨q15, h⟩ := h
     refine rd_w rfl rfl trivial rfl rfl (ws_call (xs := [.tmp 36]) (ids := [37]) rfl rfl rfl rfl (c_laws_toRack a0 q15) rfl ?_ )
     rintro _ rfl
     refine ⟨rfl, ?_⟩
     obtain ⟨q17, h⟩ := h
     refine rd_w rfl rfl trivial rfl rfl (ws_callR (xs := [.tmp 35, .tmp 37]) (cs := [.agg [.own (orows a0)], .agg [.own (orows a0)]]) (ids := []) rfl (.inr ⟨rfl, rfl⟩) rfl rfl (fz_cons (fz_agg (fz_cons (fz_own (fz_map (fun _ => (fz_own (fz_map (fun _ => rfl) _))) _)) fz_nil)) (fz_cons (fz_agg (fz_cons (fz_own (fz_map (fun _ => (fz_own (fz_map (fun _ => rfl) _))) _)) fz_nil)) fz_nil)) (c_laws_eqRack a0 a0 q17) rfl ?_ )
     rintro _ rfl
     refine ⟨rfl, rfl, ?_⟩
     refine rd_s rfl rfl trivial (ss_not rfl) rfl ?_
     refine rd_nil ?_
     refine aw_cond rfl (fun q19 => ?_) (fun q19 => ?_)
     ·replace h := h.1 (of_decide_eq_false (bnot_t q19))
      refine aw_seq ?_
      refine aw_gh (gh_to (n := 40) (σ' := [(37, ⟨orows a0, []⟩), (6, ⟨[.hole], [(0, .ref 21)]⟩), (21, ⟨orows a0, []⟩), (16, ⟨orows a0, []⟩)]) (env' := []) rfl rfl trivial) ?_
      refine aw_region ?_
      refine run_s (ss_assign rfl) rfl ?_
      refine run_nil ?_
      refine aw_ret ?_
      exact retAF_mk (retv1 rfl (rv_tmp rfl)) rfl rfl ⟨_, (cle_refl _), _, h, rfl⟩
     ·replace h := h.2 (of_decide_eq_true (bnot_f q19))
      refine aw_skip ?_
      refine aw_seq ?_
      refine aw_gh (gh_to (n := 40) (σ' := [(37, ⟨orows a0, []⟩), (6, ⟨[.hole], [(0, .ref 21)]⟩), (21, ⟨orows a0, []⟩), (16, ⟨orows a0, []⟩)]) (env' := []) rfl rfl trivial) ?_
      refine aw_region ?_
      refine run_s (ss_assign rfl) rfl ?_
      refine run_nil ?_
      refine aw_ret ?_
      exact retAF_mk (retv1 rfl (rv_tmp rfl)) rfl rfl ⟨_, (cle_refl _), _, h, rfl⟩

theorem c_laws_FnExactCountRackAutomorphisms (a0 : List (List Int)) (hp : huge2 a0) : AF Try.prog 4 [.agg [.lst (rows a0)]] (fun R_ => R_ = cb true) :=
  (w_laws_FnExactCountRackAutomorphisms a0 (fun y0 => y0 = true) (p_laws_FnExactCountRackAutomorphisms a0 hp)).mono (by rintro r ⟨_, rfl, rfl⟩; rfl)

end Go.Proofs.Ytfpkpefokcphpaa

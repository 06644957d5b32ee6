/- Contracts of functions that the law FnExactLeastCycleSet reaches: conditions, plain proofs, walks; no condition. -/
import Derived.Test.YtpcnbdjommcaoaaKELeastCycleSeta
import Derived.Test.YtpcnbdjommcaoaaPs
namespace Go.Proofs.Ytpcnbdjommcaoaa

def wp_spec_l01Grow (n : Int) (start : List Int) (list : List (List Int)) (Q : List (List Int) → Prop) : Prop :=
 (((start.length : Int) = n →
 ((list.length : Int) + (([start]).length : Int) ≤ 1000000000) ∧
 Q (list ++ ([start]))) ∧
 (¬ ((start.length : Int) = n) →
 ∃ (H1 : Int → List (List Int) → Prop) (m1 : Int → List (List Int) → Nat),
 H1 0 list ∧
 ∀ (v7_1 : Int) (o801_1 : List (List Int)), H1 v7_1 o801_1 →
 ( ((v7_1 < n →
 (small start) ∧
 (((start.contains v7_1) = false →
 (small start) ∧
 ((start.length : Int) + (([v7_1]).length : Int) ≤ 1000000000) ∧
 ((n - ((start ++ ([v7_1])).length : Int)).toNat < (n - (start.length : Int)).toNat) ∧
 (((start ++ ([v7_1])).length : Int) ≤ n ∧ n ≤ 8 ∧ ((o801_1 ++ growL n (start ++ ([v7_1]))).length : Int) ≤ 100000000) ∧
 (InI (v7_1 + 1)) ∧
 (H1 (v7_1 + 1) (o801_1 ++ growL n (start ++ ([v7_1]))) ∧ m1 (v7_1 + 1) (o801_1 ++ growL n (start ++ ([v7_1]))) < m1 v7_1 o801_1)) ∧
 ((start.contains v7_1) = true →
 (InI (v7_1 + 1)) ∧
 (H1 (v7_1 + 1) o801_1 ∧ m1 (v7_1 + 1) o801_1 < m1 v7_1 o801_1)))) ∧
 (¬ (v7_1 < n) →
 Q o801_1)))))

def wp_spec_l01Perms (n : Int) (Q : List (List Int) → Prop) : Prop :=
 ((([] : List Int).length : Int) ≤ n ∧ n ≤ 8 ∧ ((([] : List (List Int)) ++ growL n ([] : List Int)).length : Int) ≤ 100000000) ∧
 Q (([] : List (List Int)) ++ growL n ([] : List Int))

theorem p_spec_l01Grow (n : Int) (start : List Int) (list : List (List Int)) (hp : (start.length : Int) ≤ n ∧ n ≤ 8 ∧ ((list ++ growL n start).length : Int) ≤ 100000000) : wp_spec_l01Grow n start list (fun y0 => y0 = list ++ growL n start) := by
  obtain ⟨h1, h2, h3⟩ := hp
  refine ⟨fun e => ?_, fun e => ?_⟩
  · rw [growL_end e] at h3 ⊢
    exact ⟨by rw [List.length_append] at h3; omega, rfl⟩
  · have hs : small start := by show (start.length : Int) ≤ _; omega
    have hlt : (start.length : Int) < n := by omega
    refine ⟨fun x o => (0 ≤ x ∧ x ≤ n) ∧ o = list ++ growT n start x, fun x _ => (n - x).toNat, ⟨⟨by omega, by omega⟩, by rw [growT_zero, List.append_nil]⟩, ?_⟩
    rintro x o ⟨⟨x0, x1⟩, rfl⟩
    dsimp only
    refine ⟨fun xn => ⟨hs, fun hc => ?_, fun hc => ?_⟩, fun xn => by rw [growL_step hlt, show x = n by omega]⟩
    · refine ⟨hs, by rw [List.length_singleton]; omega, by simp; omega, ⟨by simp; omega, h2, ?_⟩, ⟨by omega, by omega⟩, ⟨⟨by omega, by omega⟩, ?_⟩, by omega⟩
      · have := growT_len (n := n) (s := start) (x := x + 1) (y := n) ⟨by omega, by omega⟩
        rw [growT_succ x0, hc] at this
        rw [growL_step hlt] at h3
        simp at this h3 ⊢; omega
      · rw [growT_succ x0, hc]; simp
    · exact ⟨⟨by omega, by omega⟩, ⟨⟨by omega, by omega⟩, by rw [growT_succ x0, hc]; simp⟩, by omega⟩
theorem p_spec_l01Perms (n : Int) (hp : 0 ≤ n ∧ n ≤ 8) : wp_spec_l01Perms n (fun y0 => y0 = growL n []) := by
  have := growL_len8 hp
  refine ⟨⟨by simp; omega, hp.2, by rw [List.nil_append]; omega⟩, by rw [List.nil_append]⟩
set_option maxRecDepth 100000 in
set_option maxHeartbeats 4000000 in
theorem w_spec_l01Grow (n : Int) (start : List Int) (list : List (List Int)) (Q : List (List Int) → Prop) (hrec : ∀ (n' : Int) (start' : List Int) (list' : List (List Int)), (n' - (start'.length : Int)).toNat < (n - (start.length : Int)).toNat → ((start'.length : Int) ≤ n' ∧ n' ≤ 8 ∧ ((list' ++ growL n' start').length : Int) ≤ 100000000) → AM Try.prog 105 [ci n', .own (ints start'), .own (orows list')] (fun R_ O_ => R_ = .own (orows (list' ++ growL n' start')) ∧ O_ = [ci n', .hole, .hole])) (h : wp_spec_l01Grow n start list Q) : AM Try.prog 105 [ci n, .own (ints start), .own (orows list)] (fun R_ O_ => ∃ y0, Q y0 ∧ R_ = .own (orows y0) ∧ O_ = [ci n, .hole, .hole]) := by
  refine am_enter (n := 34) (m := 3) Try.func105 rfl (by rfl) rfl rfl (Nat.le_of_ble_eq_true rfl) [800, 801] rfl ?_
  unfold wp_spec_l01Grow at h
  refine aw_gh (gh_to (n := 34) (σ' := [(800, ⟨ints start, []⟩), (801, ⟨orows list, []⟩)]) (env' := [(0, .c (ci n)), (1, .ref 800), (2, .ref 801), (34, .c (ci n))]) rfl rfl ⟨rfl, rfl, rfl, rfl, trivial⟩) ?_
  refine aw_seq ?_
  refine aw_gh (gh_to (n := 34) (σ' := [(800, ⟨ints start, []⟩), (801, ⟨orows list, []⟩)]) (env' := [(0, .c (ci n)), (1, .ref 800), (2, .ref 801), (34, .c (ci n))]) rfl rfl ⟨rfl, rfl, rfl, rfl, trivial⟩) ?_
  refine aw_region ?_
  refine run_s (ss_assign rfl) rfl ?_
  refine run_nil ?_
  refine aw_seq ?_
  refine aw_seq ?_
  refine aw_region ?_
  refine run_s (ss_move rfl) rfl ?_
  refine run_s (ss_lenR (f := ci) rfl rfl) rfl ?_
  refine run_s (ss_move rfl) rfl ?_
  refine run_s (ss_eql rfl rfl) rfl ?_
  refine run_nil ?_
  refine aw_cond rfl (fun q1 => ?_) (fun q1 => ?_)
  ·replace h := h.1 (of_decide_eq_true q1)
   refine aw_seq ?_
   refine aw_region ?_
   refine run_s (ss_move rfl) rfl ?_
   refine run_s (ss_move rfl) rfl ?_
   refine run_w (ws_buildSlice (id := 14) (ps := [(0, .tmp 13)]) rfl rfl (Nat.le_of_ble_eq_true rfl) rfl ⟨rfl, ?_⟩)
   refine run_gh (gh_fill (id := 14) (id2 := 800) (j := 0) rfl rfl (Nat.le_of_ble_eq_true rfl) rfl rfl rfl) ?_
   obtain ⟨q2, h⟩ := h
   refine run_w (ws_app1 (fun r => C.own (ints r)) (l := list) (m := [start]) rfl rfl rfl rfl rfl (Nat.le_of_ble_eq_true rfl) q2 ⟨rfl, ?_⟩)
   refine run_s (ss_assign rfl) rfl ?_
   refine run_nil ?_
   refine aw_ret ?_
   exact retAM_mk (retv1 rfl (rv_tmp rfl)) rfl rfl rfl ⟨_, h, rfl, rfl⟩
  ·replace h := h.2 (of_decide_eq_false q1)
   refine aw_skip ?_
   refine aw_seq ?_
   refine aw_seq ?_
   refine aw_gh (gh_to (n := 34) (σ' := [(800, ⟨ints start, []⟩), (801, ⟨orows list, []⟩)]) (env' := [(0, .c (ci n)), (1, .ref 800), (2, .ref 801), (34, .c (ci n))]) rfl rfl ⟨rfl, rfl, rfl, rfl, trivial⟩) ?_
   refine aw_region ?_
   refine run_s (ss_assign rfl) rfl ?_
   refine run_nil ?_
   refine aw_block ?_
   obtain ⟨H1, m1, q3, h⟩ := h
   refine aw_loop2 (fun (v7_1 : Int) (o801_1 : List (List Int)) => ⟨[(800, ⟨ints start, []⟩), (801, ⟨orows o801_1, []⟩)], [(0, .c (ci n)), (1, .ref 800), (2, .ref 801), (7, .c (ci v7_1)), (34, .c (ci n))], 34⟩) H1 m1 ⟨0, list, ghe_to (n := 34) rfl rfl ⟨rfl, rfl, rfl, rfl, rfl, trivial⟩, q3⟩ ?_
   rintro v7_1 o801_1 q3
   replace h := h v7_1 o801_1 q3
   refine aw_seq ?_
   refine aw_seq ?_
   refine aw_region ?_
   refine run_s (ss_move rfl) rfl ?_
   refine run_s (ss_move rfl) rfl ?_
   refine run_s (ss_lss rfl rfl) rfl ?_
   refine run_nil ?_
   refine aw_cond rfl (fun q4 => ?_) (fun q4 => ?_)
   ·replace h := h.1 (of_decide_eq_true q4)
    refine aw_skip ?_
    refine aw_seq ?_
    refine aw_block ?_
    refine aw_seq ?_
    refine aw_region ?_
    refine run_s (ss_move rfl) rfl ?_
    refine run_s (ss_move rfl) rfl ?_
    obtain ⟨q5, h⟩ := h
    refine run_w (ws_callR (xs := [.tmp 21, .tmp 22]) (cs := [.own (ints start), ci v7_1]) (ids := []) rfl (.inr ⟨rfl, rfl⟩) rfl rfl (fz_cons (fz_own (fz_map (fun _ => rfl) _)) (fz_cons rfl fz_nil)) (c_spec_l01Has start v7_1 q5) rfl ?_ )
    rintro _ rfl
    refine ⟨rfl, rfl, ?_⟩
    refine run_s (ss_not rfl) rfl ?_
    refine run_nil ?_
    refine aw_cond rfl (fun q7 => ?_) (fun q7 => ?_)
    ·replace h := h.1 ((bnot_t q7))
     refine aw_gh (gh_to (n := 34) (σ' := [(800, ⟨ints start, []⟩), (801, ⟨orows o801_1, []⟩)]) (env' := [(0, .c (ci n)), (1, .ref 800), (2, .ref 801), (7, .c (ci v7_1)), (34, .c (ci n))]) rfl rfl ⟨rfl, rfl, rfl, rfl, rfl, trivial⟩) ?_
     refine aw_region ?_
     refine run_s (ss_move rfl) rfl ?_
     refine run_s (ss_move rfl) rfl ?_
     obtain ⟨q8, h⟩ := h
     refine run_w (ws_callR (xs := [.tmp 26]) (cs := [.own (ints start)]) (ids := [27]) rfl (.inr ⟨rfl, rfl⟩) rfl rfl (fz_cons (fz_own (fz_map (fun _ => rfl) _)) fz_nil) (c_spec_l01Own start q8) rfl ?_ )
     rintro _ rfl
     refine ⟨(slf_own (slfL_map (f := ci) (fun _ => rfl) _)), rfl, ?_⟩
     refine run_s (ss_move rfl) rfl ?_
     refine run_w (ws_buildSlice (id := 29) (ps := [(0, .tmp 28)]) rfl rfl (Nat.le_of_ble_eq_true rfl) rfl ⟨rfl, ?_⟩)
     obtain ⟨q10, h⟩ := h
     refine run_w (ws_app1 ci (l := start) (m := [v7_1]) rfl rfl rfl rfl rfl (Nat.le_of_ble_eq_true rfl) q10 ⟨rfl, ?_⟩)
     refine run_s (ss_move rfl) rfl ?_
     obtain ⟨q11, h⟩ := h
     obtain ⟨q12, h⟩ := h
     refine run_w (ws_callC (xs := [.tmp 25, .tmp 30, .tmp 31]) (cs := [ci n, .own (ints (start ++ ([v7_1]))), .own (orows o801_1)]) (ids := [32]) rfl rfl rfl rfl (hrec n (start ++ ([v7_1])) o801_1 q11 q12) rfl ?_ )
     rintro _ _ ⟨rfl, rfl⟩
     refine ⟨rfl, ?_⟩
     refine run_s (ss_assign rfl) rfl ?_
     refine run_nil ?_
     refine aw_gh (gh_to (n := 34) (σ' := [(32, ⟨orows (o801_1 ++ growL n (start ++ ([v7_1]))), []⟩), (800, ⟨ints start, []⟩)]) (env' := [(0, .c (ci n)), (1, .ref 800), (2, .ref 32), (7, .c (ci v7_1)), (34, .c (ci n))]) rfl rfl ⟨rfl, rfl, rfl, rfl, rfl, trivial⟩) ?_
     refine aw_region ?_
     refine run_s (ss_move rfl) rfl ?_
     obtain ⟨q14, h⟩ := h
     refine run_s (ss_add rfl rfl q14) rfl ?_
     refine run_s (ss_assign rfl) rfl ?_
     refine run_nil ?_
     exact ⟨v7_1 + 1, o801_1 ++ growL n (start ++ ([v7_1])), ghe_step (gh_ren (a := 32) (b := 801) rfl rfl) (ghe_step (gh_to (n := 34) (σ' := [(801, ⟨orows (o801_1 ++ growL n (start ++ ([v7_1]))), []⟩), (800, ⟨ints start, []⟩)]) (env' := [(0, .c (ci n)), (1, .ref 800), (2, .ref 801), (7, .c (ci (v7_1 + 1))), (34, .c (ci n))]) rfl rfl ⟨rfl, rfl, rfl, rfl, rfl, trivial⟩) (ghe_step (gh_sort _) (ghe_to (n := 34) rfl rfl ⟨rfl, rfl, rfl, rfl, rfl, trivial⟩))), h.1, h.2⟩
    ·replace h := h.2 ((bnot_f q7))
     refine aw_skip ?_
     refine aw_gh (gh_to (n := 34) (σ' := [(800, ⟨ints start, []⟩), (801, ⟨orows o801_1, []⟩)]) (env' := [(0, .c (ci n)), (1, .ref 800), (2, .ref 801), (7, .c (ci v7_1)), (34, .c (ci n))]) rfl rfl ⟨rfl, rfl, rfl, rfl, rfl, trivial⟩) ?_
     refine aw_region ?_
     refine run_s (ss_move rfl) rfl ?_
     obtain ⟨q15, h⟩ := h
     refine run_s (ss_add rfl rfl q15) rfl ?_
     refine run_s (ss_assign rfl) rfl ?_
     refine run_nil ?_
     exact ⟨v7_1 + 1, o801_1, ghe_to (n := 34) rfl rfl ⟨rfl, rfl, rfl, rfl, rfl, trivial⟩, h.1, h.2⟩
   ·replace h := h.2 (of_decide_eq_false q4)
    refine aw_exit ?_
    refine aw_seq ?_
    refine aw_gh (gh_to (n := 34) (σ' := [(800, ⟨ints start, []⟩), (801, ⟨orows o801_1, []⟩)]) (env' := [(2, .ref 801), (34, .c (ci n))]) rfl rfl ⟨rfl, rfl, trivial⟩) ?_
    refine aw_region ?_
    refine run_s (ss_move rfl) rfl ?_
    refine run_s (ss_assign rfl) rfl ?_
    refine run_nil ?_
    refine aw_ret ?_
    exact retAM_mk (retv1 rfl (rv_tmp rfl)) rfl rfl rfl ⟨_, h, rfl, rfl⟩

theorem c_spec_l01Grow : ∀ (n : Int) (start : List Int) (list : List (List Int)), ((start.length : Int) ≤ n ∧ n ≤ 8 ∧ ((list ++ growL n start).length : Int) ≤ 100000000) → AM Try.prog 105 [ci n, .own (ints start), .own (orows list)] (fun R_ O_ => R_ = .own (orows (list ++ growL n start)) ∧ O_ = [ci n, .hole, .hole]) := by
  have key : ∀ (k_ : Nat) (n : Int) (start : List Int) (list : List (List Int)), (n - (start.length : Int)).toNat ≤ k_ → ((start.length : Int) ≤ n ∧ n ≤ 8 ∧ ((list ++ growL n start).length : Int) ≤ 100000000) → AM Try.prog 105 [ci n, .own (ints start), .own (orows list)] (fun R_ O_ => R_ = .own (orows (list ++ growL n start)) ∧ O_ = [ci n, .hole, .hole]) := by
    intro k_; induction k_ with
    | zero => intro n start list hn hp; exact (w_spec_l01Grow n start list (fun y0 => y0 = list ++ growL n start) (fun _ _ _ hlt => absurd hlt (by omega)) (p_spec_l01Grow n start list hp)).mono (by rintro r o ⟨_, rfl, rfl, rfl⟩; exact ⟨rfl, rfl⟩)
    | succ k_ ih => intro n start list hn hp; exact (w_spec_l01Grow n start list (fun y0 => y0 = list ++ growL n start) (fun n' start' list' hlt => ih n' start' list' (by omega)) (p_spec_l01Grow n start list hp)).mono (by rintro r o ⟨_, rfl, rfl, rfl⟩; exact ⟨rfl, rfl⟩)
  exact fun n start list => key _ n start list (Nat.le_refl _)

set_option maxRecDepth 100000 in
set_option maxHeartbeats 4000000 in
theorem w_spec_l01Perms (n : Int) (Q : List (List Int) → Prop) (h : wp_spec_l01Perms n Q) : AF Try.prog 58 [ci n] (fun R_ => ∃ y0, Q y0 ∧ R_ = .own (orows y0)) := by
  refine AF.ofWQ (af_enter (n := 7) Try.func58 rfl (by rfl) rfl (Nat.le_of_ble_eq_true rfl) ?_)
  unfold wp_spec_l01Perms at h
  refine aw_seq ?_
  refine aw_gh (gh_to (n := 7) (σ' := []) (env' := [(0, .c (ci n))]) rfl rfl ⟨rfl, trivial⟩) ?_
  refine aw_region ?_
  refine run_s (ss_assign rfl) rfl ?_
  refine run_nil ?_
  refine aw_seq ?_
  refine aw_region ?_
  refine run_s (ss_move rfl) rfl ?_
  refine run_w (ws_buildSlice (id := 4) (ps := []) rfl rfl (Nat.le_of_ble_eq_true rfl) rfl ⟨rfl, ?_⟩)
  refine run_w (ws_buildSlice (id := 5) (ps := []) rfl rfl (Nat.le_of_ble_eq_true rfl) rfl ⟨rfl, ?_⟩)
  obtain ⟨q1, h⟩ := h
  refine run_w (ws_callC (xs := [.tmp 3, .tmp 4, .tmp 5]) (cs := [ci n, .own (ints ([] : List Int)), .own (orows ([] : List (List Int)))]) (ids := [6]) rfl rfl rfl rfl (c_spec_l01Grow n ([] : List Int) ([] : List (List Int)) q1) rfl ?_ )
  rintro _ _ ⟨rfl, rfl⟩
  refine ⟨rfl, ?_⟩
  refine run_s (ss_assign rfl) rfl ?_
  refine run_nil ?_
  refine aw_ret ?_
  exact retAF_mk (retv1 rfl (rv_tmp rfl)) rfl rfl ⟨_, (cle_refl _), _, h, rfl⟩

theorem c_spec_l01Perms (n : Int) (hp : 0 ≤ n ∧ n ≤ 8) : AF Try.prog 58 [ci n] (fun R_ => R_ = .own (orows (growL n []))) :=
  (w_spec_l01Perms n (fun y0 => y0 = growL n []) (p_spec_l01Perms n hp)).mono (by rintro r ⟨_, rfl, rfl⟩; rfl)

def wp_spec_l01Rename (t : List (List Int)) (p : List Int) (Q : List (List Int) → Prop) : Prop :=
 ∃ (H1 : Int → List (List Int) → Prop) (m1 : Int → List (List Int) → Nat),
 H1 0 ([] : List (List Int)) ∧
 ∀ (v6_1 : Int) (o10_1 : List (List Int)), H1 v6_1 o10_1 →
 ( ((v6_1 < (t.length : Int) →
 (0 ≤ (t.length : Int) ∧ (t.length : Int) ≤ 1000000000) ∧
 ((o10_1.length : Int) + (([List.replicate (t.length : Int).toNat (0 : Int)]).length : Int) ≤ 1000000000) ∧
 (InI (v6_1 + 1)) ∧
 (H1 (v6_1 + 1) (o10_1 ++ ([List.replicate (t.length : Int).toNat (0 : Int)])) ∧ m1 (v6_1 + 1) (o10_1 ++ ([List.replicate (t.length : Int).toNat (0 : Int)])) < m1 v6_1 o10_1)) ∧
 (¬ (v6_1 < (t.length : Int)) →
 ∃ (H2 : Int → List (List Int) → Prop) (m2 : Int → List (List Int) → Nat),
 H2 0 o10_1 ∧
 ∀ (v7_2 : Int) (o10_2 : List (List Int)), H2 v7_2 o10_2 →
 ( ((v7_2 < (t.length : Int) →
 (0 ≤ v7_2 ∧ v7_2 < (p.length : Int)) ∧
 (0 ≤ el p v7_2 ∧ el p v7_2 < (o10_2.length : Int)) ∧
 ∃ (H3 : Int → List Int → Prop) (m3 : Int → List Int → Nat),
 H3 0 (el o10_2 (el p v7_2)) ∧
 ∀ (v9_3 : Int) (o1001_3 : List Int), H3 v9_3 o1001_3 →
 ( ((v9_3 < (t.length : Int) →
 (0 ≤ v9_3 ∧ v9_3 < (p.length : Int)) ∧
 (0 ≤ v7_2 ∧ v7_2 < (t.length : Int)) ∧
 (0 ≤ v9_3 ∧ v9_3 < ((el t v7_2).length : Int)) ∧
 (0 ≤ el (el t v7_2) v9_3 ∧ el (el t v7_2) v9_3 < (p.length : Int)) ∧
 (0 ≤ el p v9_3 ∧ el p v9_3 < (o1001_3.length : Int)) ∧
 (InI (v9_3 + 1)) ∧
 (H3 (v9_3 + 1) (se o1001_3 (el p v9_3) (el p (el (el t v7_2) v9_3))) ∧ m3 (v9_3 + 1) (se o1001_3 (el p v9_3) (el p (el (el t v7_2) v9_3))) < m3 v9_3 o1001_3)) ∧
 (¬ (v9_3 < (t.length : Int)) →
 (InI (v7_2 + 1)) ∧
 (0 ≤ el p v7_2 ∧ el p v7_2 < (o10_2.length : Int)) ∧
 (H2 (v7_2 + 1) (se o10_2 (el p v7_2) o1001_3) ∧ m2 (v7_2 + 1) (se o10_2 (el p v7_2) o1001_3) < m2 v7_2 o10_2))))) ∧
 (¬ (v7_2 < (t.length : Int)) →
 Q o10_2))))))

theorem se_el {α : Type} [Inhabited α] {l : List α} {i : Int} (h : 0 ≤ i ∧ i < (l.length : Int)) : se l i (el l i) = l := ext_el (by simp) fun j j0 j1 => by
  by_cases e : j = i
  · subst e; exact el_se_same h
  · exact el_se_ne h.1 j0 (Ne.symm e)
theorem se_se {α : Type} {l : List α} {i : Int} {v w : α} : se (se l i v) i w = se l i w := by simp [se, List.set_set]
theorem p_spec_l01Rename (t : List (List Int)) (p : List Int) (hp : isTab t = true ∧ (p.length : Int) = (t.length : Int) ∧ isPerm p = true) : wp_spec_l01Rename t p (fun y0 => y0 = renT t p) := by
  obtain ⟨ht, hl, hP⟩ := hp
  have hn := isTab_len ht
  refine ⟨fun x o => (0 ≤ x ∧ x ≤ (t.length : Int)) ∧ (o.length : Int) = x ∧ ∀ q ∈ o, (q.length : Int) = (t.length : Int), fun x _ => ((t.length : Int) - x).toNat, ⟨⟨by omega, by omega⟩, rfl, by simp⟩, ?_⟩
  rintro x o ⟨⟨x0, x1⟩, ol, ho⟩
  dsimp only
  refine ⟨fun xn => ⟨⟨by omega, by omega⟩, by rw [List.length_singleton]; omega, ⟨by omega, by omega⟩, ⟨⟨by omega, by omega⟩, by simp; omega, mem_app ho (by simp)⟩, by omega⟩, fun xn => ?_⟩
  refine ⟨fun x o => (0 ≤ x ∧ x ≤ (t.length : Int)) ∧ RnI t p x 0 o, fun x _ => ((t.length : Int) - x).toNat, ⟨⟨by omega, by omega⟩, by omega, fun u u0 u1 => ho _ (el_mem ⟨u0, by omega⟩), fun u v u0 u1 v0 v1 hc => absurd hc (by omega)⟩, ?_⟩
  rintro x o ⟨⟨x0, x1⟩, hR⟩
  dsimp only
  refine ⟨fun xn => ?_, fun xn => by rw [show x = (t.length : Int) by omega] at hR; exact rnI_end hP hl hR⟩
  have lx := rk_len ht ⟨x0, xn⟩
  have px := isPerm_el hP (i := x) ⟨x0, by omega⟩
  have hol := hR.len
  refine ⟨⟨x0, by omega⟩, ⟨px.1, by omega⟩, fun y q => (0 ≤ y ∧ y ≤ (t.length : Int)) ∧ RnI t p x y (se o (el p x) q) ∧ (q.length : Int) = (t.length : Int), fun y _ => ((t.length : Int) - y).toNat, ⟨⟨by omega, by omega⟩, ?_, hR.row _ px.1 (by omega)⟩, ?_⟩
  · rw [se_el ⟨px.1, by omega⟩]; exact hR
  rintro y q ⟨⟨y0, y1⟩, hR2, ql⟩
  dsimp only
  refine ⟨fun yn => ?_, fun yn => ?_⟩
  · have v := rk_el ht ⟨x0, xn⟩ ⟨y0, yn⟩
    have py := isPerm_el hP (i := y) ⟨y0, by omega⟩
    have st := rnI_step hP hl hR2 ⟨x0, xn⟩ ⟨y0, yn⟩
    rw [el_se_same ⟨px.1, by omega⟩, se_se] at st
    exact ⟨⟨y0, by omega⟩, ⟨x0, xn⟩, ⟨y0, by omega⟩, ⟨v.1, by omega⟩, ⟨py.1, by omega⟩, ⟨by omega, by omega⟩, ⟨⟨by omega, by omega⟩, st, by simpa using ql⟩, by omega⟩
  · rw [show y = (t.length : Int) by omega] at hR2
    exact ⟨⟨by omega, by omega⟩, ⟨px.1, by omega⟩, ⟨⟨by omega, by omega⟩, rnI_row hR2⟩, by omega⟩
set_option maxRecDepth 100000 in
set_option maxHeartbeats 4000000 in
theorem w_spec_l01Rename (t : List (List Int)) (p : List Int) (Q : List (List Int) → Prop) (h : wp_spec_l01Rename t p Q) : AF Try.prog 81 [.lst (rows t), .lst (ints p)] (fun R_ => ∃ y0, Q y0 ∧ R_ = .own (orows y0)) := by
  refine AF.ofWQ (af_enter (n := 59) Try.func81 rfl (by rfl) rfl (Nat.le_of_ble_eq_true rfl) ?_)
  unfold wp_spec_l01Rename at h
  refine aw_seq ?_
  refine aw_gh (gh_to (n := 59) (σ' := []) (env' := [(0, .c (.lst (rows t))), (1, .c (.lst (ints p)))]) rfl rfl ⟨rfl, rfl, trivial⟩) ?_
  refine aw_region ?_
  refine run_s (ss_assign rfl) rfl ?_
  refine run_nil ?_
  refine aw_seq ?_
  refine aw_region ?_
  refine run_w (ws_buildSlice (id := 10) (ps := []) rfl rfl (Nat.le_of_ble_eq_true rfl) rfl ⟨rfl, ?_⟩)
  refine run_s (ss_assign rfl) rfl ?_
  refine run_nil ?_
  refine aw_seq ?_
  refine aw_seq ?_
  refine aw_region ?_
  refine run_s (ss_assign rfl) rfl ?_
  refine run_nil ?_
  refine aw_block ?_
  obtain ⟨H1, m1, q1, h⟩ := h
  refine aw_loop2 (fun (v6_1 : Int) (o10_1 : List (List Int)) => ⟨[(10, ⟨orows o10_1, []⟩)], [(0, .c (.lst (rows t))), (1, .c (.lst (ints p))), (5, .ref 10), (6, .c (ci v6_1))], 59⟩) H1 m1 ⟨0, ([] : List (List Int)), ghe_to (n := 59) rfl rfl ⟨rfl, rfl, rfl, rfl, trivial⟩, q1⟩ ?_
  rintro v6_1 o10_1 q1
  replace h := h v6_1 o10_1 q1
  refine aw_seq ?_
  refine aw_seq ?_
  refine aw_region ?_
  refine run_s (ss_move rfl) rfl ?_
  refine run_s (ss_move rfl) rfl ?_
  refine run_s (ss_lenL (f := (fun r => C.lst (ints r))) rfl) rfl ?_
  refine run_s (ss_lss rfl rfl) rfl ?_
  refine run_nil ?_
  refine aw_cond rfl (fun q2 => ?_) (fun q2 => ?_)
  ·replace h := h.1 (of_decide_eq_true q2)
   refine aw_skip ?_
   refine aw_seq ?_
   refine aw_block ?_
   refine aw_region ?_
   refine run_s (ss_move rfl) rfl ?_
   refine run_s (ss_move rfl) rfl ?_
   refine run_s (ss_lenL (f := (fun r => C.lst (ints r))) rfl) rfl ?_
   obtain ⟨q3, h⟩ := h
   refine run_w (ws_mk (id := 20) ci (0 : Int) rfl rfl rfl q3 (Nat.le_of_ble_eq_true rfl) rfl ⟨rfl, ?_⟩)
   refine run_w (ws_buildSlice (id := 21) (ps := [(0, .tmp 20)]) rfl rfl (Nat.le_of_ble_eq_true rfl) rfl ⟨rfl, ?_⟩)
   refine run_gh (gh_fill (id := 21) (id2 := 20) (j := 0) rfl rfl (Nat.le_of_ble_eq_true rfl) rfl rfl rfl) ?_
   obtain ⟨q4, h⟩ := h
   refine run_w (ws_app1 (fun r => C.own (ints r)) (l := o10_1) (m := [List.replicate (t.length : Int).toNat (0 : Int)]) rfl rfl rfl rfl rfl (Nat.le_of_ble_eq_true rfl) q4 ⟨rfl, ?_⟩)
   refine run_s (ss_assign rfl) rfl ?_
   refine run_nil ?_
   refine aw_gh (gh_to (n := 59) (σ' := [(10, ⟨orows (o10_1 ++ ([List.replicate (t.length : Int).toNat (0 : Int)])), []⟩)]) (env' := [(0, .c (.lst (rows t))), (1, .c (.lst (ints p))), (5, .ref 10), (6, .c (ci v6_1))]) rfl rfl ⟨rfl, rfl, rfl, rfl, trivial⟩) ?_
   refine aw_region ?_
   refine run_s (ss_move rfl) rfl ?_
   obtain ⟨q5, h⟩ := h
   refine run_s (ss_add rfl rfl q5) rfl ?_
   refine run_s (ss_assign rfl) rfl ?_
   refine run_nil ?_
   exact ⟨v6_1 + 1, o10_1 ++ ([List.replicate (t.length : Int).toNat (0 : Int)]), ghe_to (n := 59) rfl rfl ⟨rfl, rfl, rfl, rfl, trivial⟩, h.1, h.2⟩
  ·replace h := h.2 (of_decide_eq_false q2)
   refine aw_exit ?_
   refine aw_seq ?_
   refine aw_seq ?_
   refine aw_gh (gh_to (n := 59) (σ' := [(10, ⟨orows o10_1, []⟩)]) (env' := [(0, .c (.lst (rows t))), (1, .c (.lst (ints p))), (5, .ref 10)]) rfl rfl ⟨rfl, rfl, rfl, trivial⟩) ?_
   refine aw_region ?_
   refine run_s (ss_assign rfl) rfl ?_
   refine run_nil ?_
   refine aw_block ?_
   obtain ⟨H2, m2, q6, h⟩ := h
   refine aw_loop2 (fun (v7_2 : Int) (o10_2 : List (List Int)) => ⟨[(10, ⟨orows o10_2, []⟩)], [(0, .c (.lst (rows t))), (1, .c (.lst (ints p))), (5, .ref 10), (7, .c (ci v7_2))], 59⟩) H2 m2 ⟨0, o10_1, ghe_to (n := 59) rfl rfl ⟨rfl, rfl, rfl, rfl, trivial⟩, q6⟩ ?_
   rintro v7_2 o10_2 q6
   replace h := h v7_2 o10_2 q6
   refine aw_seq ?_
   refine aw_seq ?_
   refine aw_region ?_
   refine run_s (ss_move rfl) rfl ?_
   refine run_s (ss_move rfl) rfl ?_
   refine run_s (ss_lenL (f := (fun r => C.lst (ints r))) rfl) rfl ?_
   refine run_s (ss_lss rfl rfl) rfl ?_
   refine run_nil ?_
   refine aw_cond rfl (fun q7 => ?_) (fun q7 => ?_)
   ·replace h := h.1 (of_decide_eq_true q7)
    refine aw_skip ?_
    refine aw_seq ?_
    refine aw_block ?_
    refine aw_seq ?_
    refine aw_region ?_
    refine run_s (ss_move rfl) rfl ?_
    refine run_s (ss_move rfl) rfl ?_
    refine run_s (ss_move rfl) rfl ?_
    obtain ⟨q8, h⟩ := h
    refine run_s (ss_idxL rfl rfl q8) rfl ?_
    refine run_s (ss_loadL (f := ci) rfl q8) rfl ?_
    obtain ⟨q9, h⟩ := h
    refine run_s (ss_idxR (f := (fun r => C.own (ints r))) rfl rfl rfl q9) rfl ?_
    refine run_gh (gh_open 1001 (id := 10) (j := (el p v7_2).toNat) rfl (map_get (f := (fun r => C.own (ints r))) q9) rfl) ?_
    refine run_s (ss_loadH rfl rfl lk_self rfl) rfl ?_
    refine run_s (ss_assign rfl) rfl ?_
    refine run_nil ?_
    refine aw_seq ?_
    refine aw_gh (gh_to (n := 59) (σ' := [(1001, ⟨ints (el o10_2 (el p v7_2)), []⟩), (10, ⟨(orows o10_2).set (el p v7_2).toNat .hole, [((el p v7_2).toNat, .ref 1001)]⟩)]) (env' := [(0, .c (.lst (rows t))), (1, .c (.lst (ints p))), (5, .ref 10), (7, .c (ci v7_2)), (8, .ref 1001)]) rfl rfl ⟨rfl, rfl, rfl, rfl, rfl, trivial⟩) ?_
    refine aw_region ?_
    refine run_s (ss_assign rfl) rfl ?_
    refine run_nil ?_
    refine aw_block ?_
    obtain ⟨H3, m3, q10, h⟩ := h
    refine aw_loop2 (fun (v9_3 : Int) (o1001_3 : List Int) => ⟨[(1001, ⟨ints o1001_3, []⟩), (10, ⟨(orows o10_2).set (el p v7_2).toNat .hole, [((el p v7_2).toNat, .ref 1001)]⟩)], [(0, .c (.lst (rows t))), (1, .c (.lst (ints p))), (5, .ref 10), (7, .c (ci v7_2)), (8, .ref 1001), (9, .c (ci v9_3))], 59⟩) H3 m3 ⟨0, el o10_2 (el p v7_2), ghe_to (n := 59) rfl rfl ⟨rfl, rfl, rfl, rfl, rfl, rfl, trivial⟩, q10⟩ ?_
    rintro v9_3 o1001_3 q10
    replace h := h v9_3 o1001_3 q10
    refine aw_seq ?_
    refine aw_seq ?_
    refine aw_region ?_
    refine run_s (ss_move rfl) rfl ?_
    refine run_s (ss_move rfl) rfl ?_
    refine run_s (ss_lenL (f := (fun r => C.lst (ints r))) rfl) rfl ?_
    refine run_s (ss_lss rfl rfl) rfl ?_
    refine run_nil ?_
    refine aw_cond rfl (fun q11 => ?_) (fun q11 => ?_)
    ·replace h := h.1 (of_decide_eq_true q11)
     refine aw_skip ?_
     refine aw_seq ?_
     refine aw_block ?_
     refine aw_gh (gh_to (n := 59) (σ' := [(1001, ⟨ints o1001_3, []⟩), (10, ⟨(orows o10_2).set (el p v7_2).toNat .hole, [((el p v7_2).toNat, .ref 1001)]⟩)]) (env' := [(0, .c (.lst (rows t))), (1, .c (.lst (ints p))), (5, .ref 10), (7, .c (ci v7_2)), (8, .ref 1001), (9, .c (ci v9_3))]) rfl rfl ⟨rfl, rfl, rfl, rfl, rfl, rfl, trivial⟩) ?_
     refine aw_regionD (kd := kdl [0, 0, 0, 0, 1, 0, 0, 0, 0, 1, 0, 0, 1, 0, 1, 0, 3]) (ord := [0, 1, 2, 3, 5, 6, 7, 8, 10, 4, 9, 11, 12, 13, 14, 15, 16]) [] mixed (by kernel_rfl) ?_
     refine rd_s rfl rfl trivial (ss_move rfl) rfl ?_
     refine rd_s rfl rfl trivial (ss_move rfl) rfl ?_
     refine rd_s rfl rfl trivial (ss_move rfl) rfl ?_
     obtain ⟨q12, h⟩ := h
     refine rd_s rfl rfl trivial (ss_idxL rfl rfl q12) rfl ?_
     refine rd_s rfl rfl trivial (ss_move rfl) rfl ?_
     refine rd_s rfl rfl trivial (ss_move rfl) rfl ?_
     refine rd_s rfl rfl trivial (ss_move rfl) rfl ?_
     obtain ⟨q13, h⟩ := h
     refine rd_s rfl rfl trivial (ss_idxL rfl rfl q13) rfl ?_
     refine rd_s rfl rfl trivial (ss_move rfl) rfl ?_
     refine rd_l rfl rfl trivial (ss_loadL (f := ci) rfl q12) rfl ?_
     refine rd_l rfl rfl trivial (ss_loadL (f := (fun r => C.lst (ints r))) rfl q13) rfl ?_
     obtain ⟨q14, h⟩ := h
     refine rd_s rfl rfl trivial (ss_idxL rfl rfl q14) rfl ?_
     refine rd_l rfl rfl trivial (ss_loadL (f := ci) rfl q14) rfl ?_
     obtain ⟨q15, h⟩ := h
     refine rd_s rfl rfl trivial (ss_idxL rfl rfl q15) rfl ?_
     refine rd_l rfl rfl trivial (ss_loadL (f := ci) rfl q15) rfl ?_
     obtain ⟨q16, h⟩ := h
     refine rd_s rfl rfl trivial (ss_idxR (f := ci) rfl rfl rfl q16) rfl ?_
     refine rd_f rfl rfl trivial (ws_storeE rfl rfl (map_lt q16) rfl rfl (map_se (f := ci)) rfl ⟨rfl, ?_⟩)
     refine rd_nil ?_
     refine aw_gh (gh_to (n := 59) (σ' := [(1001, ⟨ints (se o1001_3 (el p v9_3) (el p (el (el t v7_2) v9_3))), []⟩), (10, ⟨(orows o10_2).set (el p v7_2).toNat .hole, [((el p v7_2).toNat, .ref 1001)]⟩)]) (env' := [(0, .c (.lst (rows t))), (1, .c (.lst (ints p))), (5, .ref 10), (7, .c (ci v7_2)), (8, .ref 1001), (9, .c (ci v9_3))]) rfl rfl ⟨rfl, rfl, rfl, rfl, rfl, rfl, trivial⟩) ?_
     refine aw_region ?_
     refine run_s (ss_move rfl) rfl ?_
     obtain ⟨q17, h⟩ := h
     refine run_s (ss_add rfl rfl q17) rfl ?_
     refine run_s (ss_assign rfl) rfl ?_
     refine run_nil ?_
     exact ⟨v9_3 + 1, se o1001_3 (el p v9_3) (el p (el (el t v7_2) v9_3)), ghe_to (n := 59) rfl rfl ⟨rfl, rfl, rfl, rfl, rfl, rfl, trivial⟩, h.1, h.2⟩
    ·replace h := h.2 (of_decide_eq_false q11)
     refine aw_exit ?_
     refine aw_gh (gh_to (n := 59) (σ' := [(1001, ⟨ints o1001_3, []⟩), (10, ⟨(orows o10_2).set (el p v7_2).toNat .hole, [((el p v7_2).toNat, .ref 1001)]⟩)]) (env' := [(0, .c (.lst (rows t))), (1, .c (.lst (ints p))), (5, .ref 10), (7, .c (ci v7_2))]) rfl rfl ⟨rfl, rfl, rfl, rfl, trivial⟩) ?_
     refine aw_region ?_
     refine run_s (ss_move rfl) rfl ?_
     obtain ⟨q18, h⟩ := h
     refine run_s (ss_add rfl rfl q18) rfl ?_
     refine run_s (ss_assign rfl) rfl ?_
     refine run_nil ?_
     obtain ⟨q19, h⟩ := h
     exact ⟨v7_2 + 1, se o10_2 (el p v7_2) o1001_3, ghe_step (gh_fillA (id := 10) (id2 := 1001) (f := (fun r => C.own (ints r))) (v := o1001_3) rfl lk_self rfl q19 rfl rfl kr_self) (ghe_to (n := 59) rfl rfl ⟨rfl, rfl, rfl, rfl, trivial⟩), h.1, h.2⟩
   ·replace h := h.2 (of_decide_eq_false q7)
    refine aw_exit ?_
    refine aw_seq ?_
    refine aw_gh (gh_to (n := 59) (σ' := [(10, ⟨orows o10_2, []⟩)]) (env' := [(5, .ref 10)]) rfl rfl ⟨rfl, trivial⟩) ?_
    refine aw_region ?_
    refine run_s (ss_move rfl) rfl ?_
    refine run_s (ss_assign rfl) rfl ?_
    refine run_nil ?_
    refine aw_ret ?_
    exact retAF_mk (retv1 rfl (rv_tmp rfl)) rfl rfl ⟨_, (cle_refl _), _, h, rfl⟩

theorem c_spec_l01Rename (t : List (List Int)) (p : List Int) (hp : isTab t = true ∧ (p.length : Int) = (t.length : Int) ∧ isPerm p = true) : AF Try.prog 81 [.lst (rows t), .lst (ints p)] (fun R_ => R_ = .own (orows (renT t p))) :=
  (w_spec_l01Rename t p (fun y0 => y0 = renT t p) (p_spec_l01Rename t p hp)).mono (by rintro r ⟨_, rfl, rfl⟩; rfl)

def wp_cmp_isNaN_int64_ (x : Int) (Q : Bool → Prop) : Prop :=
 Q (!(decide (x = x)))

def wp_cmp_Compare_int64_ (x : Int) (y : Int) (Q : Int → Prop) : Prop :=
 ((x < y →
 Q (-1)) ∧
 (¬ (x < y) →
 ((y < x →
 Q 1) ∧
 (¬ (y < x) →
 Q 0))))

def wp_slices_Compare___int64_int64_ (s1 : List Int) (s2 : List Int) (Q : Int → Prop) : Prop :=
 ∃ (H1 : Int → Prop) (m1 : Int → Nat),
 H1 0 ∧
 ∀ (v11_1 : Int), H1 v11_1 →
 ( ((v11_1 < (s1.length : Int) →
 (0 ≤ v11_1 ∧ v11_1 < (s1.length : Int)) ∧
 (((s2.length : Int) ≤ v11_1 →
 Q 1) ∧
 (¬ ((s2.length : Int) ≤ v11_1) →
 (0 ≤ v11_1 ∧ v11_1 < (s2.length : Int)) ∧
 ((¬ (cmp1 (el s1 v11_1) (el s2 v11_1) = 0) →
 Q (cmp1 (el s1 v11_1) (el s2 v11_1))) ∧
 (cmp1 (el s1 v11_1) (el s2 v11_1) = 0 →
 (InI (v11_1 + 1)) ∧
 (H1 (v11_1 + 1) ∧ m1 (v11_1 + 1) < m1 v11_1)))))) ∧
 (¬ (v11_1 < (s1.length : Int)) →
 (((s1.length : Int) < (s2.length : Int) →
 Q (-1)) ∧
 (¬ ((s1.length : Int) < (s2.length : Int)) →
 Q 0)))))

def wp_slices_CompareFunc_____int64_____int64___int64___int64_ (s1 : List (List Int)) (s2 : List (List Int)) (cmp : List Int → List Int → Int) (cmp_D : List Int → List Int → Prop) (Q : Int → Prop) : Prop :=
 ∃ (H1 : Int → Prop) (m1 : Int → Nat),
 H1 0 ∧
 ∀ (v13_1 : Int), H1 v13_1 →
 ( ((v13_1 < (s1.length : Int) →
 (0 ≤ v13_1 ∧ v13_1 < (s1.length : Int)) ∧
 (((s2.length : Int) ≤ v13_1 →
 Q 1) ∧
 (¬ ((s2.length : Int) ≤ v13_1) →
 (0 ≤ v13_1 ∧ v13_1 < (s2.length : Int)) ∧
 (cmp_D (el s1 v13_1) (el s2 v13_1)) ∧
 ((¬ (cmp (el s1 v13_1) (el s2 v13_1) = 0) →
 Q (cmp (el s1 v13_1) (el s2 v13_1))) ∧
 (cmp (el s1 v13_1) (el s2 v13_1) = 0 →
 (InI (v13_1 + 1)) ∧
 (H1 (v13_1 + 1) ∧ m1 (v13_1 + 1) < m1 v13_1)))))) ∧
 (¬ (v13_1 < (s1.length : Int)) →
 (((s1.length : Int) < (s2.length : Int) →
 Q (-1)) ∧
 (¬ ((s1.length : Int) < (s2.length : Int)) →
 Q 0)))))

def wp_impl_compareTables_1 (a : List Int) (b : List Int) (Q : Int → Prop) : Prop :=
 (small a ∧ small b) ∧
 Q (cmpG cmp1 a b)

def wp_impl_compareTables (s : List (List Int)) (t : List (List Int)) (Q : Int → Prop) : Prop :=
 (small2 s ∧ small2 t ∧ ∀ x_ y_ : List Int, small x_ → small y_ → (fun z0 z1 => small z0 ∧ small z1) x_ y_) ∧
 Q (cmpG (fun z0 z1 => cmpG cmp1 z0 z1) s t)

def wp_spec_l01Less (a : List Int) (b : List Int) (Q : Bool → Prop) : Prop :=
 ∃ (H1 : Int → Prop) (m1 : Int → Nat),
 H1 0 ∧
 ∀ (v5_1 : Int), H1 v5_1 →
 ( ((v5_1 < (a.length : Int) →
 ((v5_1 < (b.length : Int) →
 (0 ≤ v5_1 ∧ v5_1 < (a.length : Int)) ∧
 (0 ≤ v5_1 ∧ v5_1 < (b.length : Int)) ∧
 ((¬ (el a v5_1 = el b v5_1) →
 (0 ≤ v5_1 ∧ v5_1 < (a.length : Int)) ∧
 (0 ≤ v5_1 ∧ v5_1 < (b.length : Int)) ∧
 Q (decide (el a v5_1 < el b v5_1))) ∧
 (el a v5_1 = el b v5_1 →
 (InI (v5_1 + 1)) ∧
 (H1 (v5_1 + 1) ∧ m1 (v5_1 + 1) < m1 v5_1)))) ∧
 (¬ (v5_1 < (b.length : Int)) →
 Q (decide ((a.length : Int) < (b.length : Int)))))) ∧
 (¬ (v5_1 < (a.length : Int)) →
 Q (decide ((a.length : Int) < (b.length : Int))))))

def wp_spec_l01Less2 (a : List (List Int)) (b : List (List Int)) (Q : Bool → Prop) : Prop :=
 ∃ (H1 : Int → Prop) (m1 : Int → Nat),
 H1 0 ∧
 ∀ (v5_1 : Int), H1 v5_1 →
 ( ((v5_1 < (a.length : Int) →
 ((v5_1 < (b.length : Int) →
 (0 ≤ v5_1 ∧ v5_1 < (a.length : Int)) ∧
 (0 ≤ v5_1 ∧ v5_1 < (b.length : Int)) ∧
 (small (el a v5_1) ∧ small (el b v5_1)) ∧
 ((¬ ((el a v5_1) = (el b v5_1)) →
 (0 ≤ v5_1 ∧ v5_1 < (a.length : Int)) ∧
 (0 ≤ v5_1 ∧ v5_1 < (b.length : Int)) ∧
 (small (el a v5_1) ∧ small (el b v5_1)) ∧
 Q (decide (cmpG cmp1 (el a v5_1) (el b v5_1) < 0))) ∧
 ((el a v5_1) = (el b v5_1) →
 (InI (v5_1 + 1)) ∧
 (H1 (v5_1 + 1) ∧ m1 (v5_1 + 1) < m1 v5_1)))) ∧
 (¬ (v5_1 < (b.length : Int)) →
 Q (decide ((a.length : Int) < (b.length : Int)))))) ∧
 (¬ (v5_1 < (a.length : Int)) →
 Q (decide ((a.length : Int) < (b.length : Int))))))

def wp_impl_nextPermutation (p : List Int) (Q : Bool → List Int → Prop) : Prop :=
 (InI ((p.length : Int) - 2)) ∧
 ∃ (H1 : Int → Prop) (m1 : Int → Nat),
 H1 ((p.length : Int) - 2) ∧
 ∀ (v3_1 : Int), H1 v3_1 →
 ( ((0 ≤ v3_1 →
 (0 ≤ v3_1 ∧ v3_1 < (p.length : Int)) ∧
 (InI (v3_1 + 1)) ∧
 (0 ≤ v3_1 + 1 ∧ v3_1 + 1 < (p.length : Int)) ∧
 ((el p (v3_1 + 1) < el p v3_1 →
 (InI (v3_1 - 1)) ∧
 (H1 (v3_1 - 1) ∧ m1 (v3_1 - 1) < m1 v3_1)) ∧
 (¬ (el p (v3_1 + 1) < el p v3_1) →
 ((v3_1 < 0 →
 Q false p) ∧
 (¬ (v3_1 < 0) →
 (InI ((p.length : Int) - 1)) ∧
 ∃ (H2 : Int → Prop) (m2 : Int → Nat),
 H2 ((p.length : Int) - 1) ∧
 ∀ (v4_2 : Int), H2 v4_2 →
 ( (0 ≤ v4_2 ∧ v4_2 < (p.length : Int)) ∧
 (0 ≤ v3_1 ∧ v3_1 < (p.length : Int)) ∧
 ((el p v4_2 < el p v3_1 →
 (InI (v4_2 - 1)) ∧
 (H2 (v4_2 - 1) ∧ m2 (v4_2 - 1) < m2 v4_2)) ∧
 (¬ (el p v4_2 < el p v3_1) →
 (0 ≤ v4_2 ∧ v4_2 < (p.length : Int)) ∧
 (0 ≤ v3_1 ∧ v3_1 < (p.length : Int)) ∧
 (0 ≤ v3_1 ∧ v3_1 < (p.length : Int)) ∧
 (0 ≤ v4_2 ∧ v4_2 < ((se p v3_1 (el p v4_2)).length : Int)) ∧
 (InI (v3_1 + 1)) ∧
 (0 ≤ v3_1 + 1 ∧ v3_1 + 1 ≤ ((se (se p v3_1 (el p v4_2)) v4_2 (el p v3_1)).length : Int)) ∧
 (small (se (se p v3_1 (el p v4_2)) v4_2 (el p v3_1))) ∧
 Q true ((se (se p v3_1 (el p v4_2)) v4_2 (el p v3_1)).take (v3_1 + 1).toNat ++ List.reverse ((se (se p v3_1 (el p v4_2)) v4_2 (el p v3_1)).drop (v3_1 + 1).toNat)))))))))) ∧
 (¬ (0 ≤ v3_1) →
 ((v3_1 < 0 →
 Q false p) ∧
 (¬ (v3_1 < 0) →
 (InI ((p.length : Int) - 1)) ∧
 ∃ (H3 : Int → Prop) (m3 : Int → Nat),
 H3 ((p.length : Int) - 1) ∧
 ∀ (v4_2 : Int), H3 v4_2 →
 ( (0 ≤ v4_2 ∧ v4_2 < (p.length : Int)) ∧
 (0 ≤ v3_1 ∧ v3_1 < (p.length : Int)) ∧
 ((el p v4_2 < el p v3_1 →
 (InI (v4_2 - 1)) ∧
 (H3 (v4_2 - 1) ∧ m3 (v4_2 - 1) < m3 v4_2)) ∧
 (¬ (el p v4_2 < el p v3_1) →
 (0 ≤ v4_2 ∧ v4_2 < (p.length : Int)) ∧
 (0 ≤ v3_1 ∧ v3_1 < (p.length : Int)) ∧
 (0 ≤ v3_1 ∧ v3_1 < (p.length : Int)) ∧
 (0 ≤ v4_2 ∧ v4_2 < ((se p v3_1 (el p v4_2)).length : Int)) ∧
 (InI (v3_1 + 1)) ∧
 (0 ≤ v3_1 + 1 ∧ v3_1 + 1 ≤ ((se (se p v3_1 (el p v4_2)) v4_2 (el p v3_1)).length : Int)) ∧
 (small (se (se p v3_1 (el p v4_2)) v4_2 (el p v3_1))) ∧
 Q true ((se (se p v3_1 (el p v4_2)) v4_2 (el p v3_1)).take (v3_1 + 1).toNat ++ List.reverse ((se (se p v3_1 (el p v4_2)) v4_2 (el p v3_1)).drop (v3_1 + 1).toNat))))))))))

def wp_impl_cloneTable (t : List (List Int)) (Q : List (List Int) → Prop) : Prop :=
 (0 ≤ (t.length : Int) ∧ (t.length : Int) ≤ 1000000000) ∧
 ∃ (H1 : Int → List (List Int) → Prop) (m1 : Int → List (List Int) → Nat),
 H1 0 (List.replicate (t.length : Int).toNat ([] : List Int)) ∧
 ∀ (v11_1 : Int) (o8_1 : List (List Int)), H1 v11_1 o8_1 →
 ( ((v11_1 < (t.length : Int) →
 (0 ≤ v11_1 ∧ v11_1 < (t.length : Int)) ∧
 (small (el t v11_1)) ∧
 (0 ≤ v11_1 ∧ v11_1 < (o8_1.length : Int)) ∧
 (InI (v11_1 + 1)) ∧
 (H1 (v11_1 + 1) (se o8_1 v11_1 (el t v11_1)) ∧ m1 (v11_1 + 1) (se o8_1 v11_1 (el t v11_1)) < m1 v11_1 o8_1)) ∧
 (¬ (v11_1 < (t.length : Int)) →
 Q o8_1)))

def wp_impl_renamed_1 (u : Int) (v : Int) (p : List Int) (t : List (List Int)) (back : List Int) (Q : Int → Prop) : Prop :=
 (0 ≤ u ∧ u < (back.length : Int)) ∧
 (0 ≤ el back u ∧ el back u < (t.length : Int)) ∧
 (0 ≤ v ∧ v < (back.length : Int)) ∧
 (0 ≤ el back v ∧ el back v < ((el t (el back u)).length : Int)) ∧
 (0 ≤ el (el t (el back u)) (el back v) ∧ el (el t (el back u)) (el back v) < (p.length : Int)) ∧
 Q (el p (el (el t (el back u)) (el back v)))

def wp_impl_renamed (t : List (List Int)) (p : List Int) (Q : List (List Int) → Prop) : Prop :=
 (small p ∧ isPerm p = true) ∧
 (0 ≤ (t.length : Int) ∧ (t.length : Int) ≤ 1000000 ∧ ∀ x_ y_, 0 ≤ x_ → x_ < (t.length : Int) → 0 ≤ y_ → y_ < (t.length : Int) → (fun z0 z1 => isTab t = true ∧ p.length = t.length ∧ (backI p).length = t.length ∧ isPerm p = true ∧ isPerm (backI p) = true ∧ (0 ≤ z0 ∧ z0 < (t.length : Int)) ∧ 0 ≤ z1 ∧ z1 < (t.length : Int)) x_ y_) ∧
 Q (tab (t.length : Int) (fun z0 z1 => el p (el (el t (el (backI p) z0)) (el (backI p) z1))))

def wp_impl_LeastTable (t : List (List Int)) (Q : List (List Int) → Int → Prop) : Prop :=
 (small2 t) ∧
 (((isTab t) = false →
 Q ([]) 1) ∧
 ((isTab t) = true →
 ((7 < (t.length : Int) →
 Q ([]) 3) ∧
 (¬ (7 < (t.length : Int)) →
 (small2 t) ∧
 (0 ≤ (t.length : Int) ∧ (t.length : Int) ≤ 12) ∧
 ∃ (H1 : Nat → (List (List Int)) → Prop), H1 0 t ∧
 ((∀ (k1 : Nat) (f4_0_1 : List (List Int)) (e1 : List Int), (growL (t.length : Int) [])[k1]? = some e1 → H1 k1 f4_0_1 →
 (isTab t = true ∧ (e1.length : Int) = (t.length : Int) ∧ isPerm e1 = true) ∧
 (small2 (renT t e1) ∧ small2 f4_0_1) ∧
 ((cmpT (renT t e1) f4_0_1 < 0 →
 H1 (k1 + 1) (renT t e1)) ∧
 (¬ (cmpT (renT t e1) f4_0_1 < 0) →
 H1 (k1 + 1) f4_0_1))) ∧
 (∀ (f4_0_1 : List (List Int)), H1 (growL (t.length : Int) []).length f4_0_1 →
 Q f4_0_1 0))))))

def wp_spec_LeastTable (t : List (List Int)) (Q : List (List Int) → Int → Prop) : Prop :=
 (small2 t) ∧
 (((isTab t) = false →
 Q ([]) 1) ∧
 ((isTab t) = true →
 ((7 < (t.length : Int) →
 Q ([]) 3) ∧
 (¬ (7 < (t.length : Int)) →
 (0 ≤ (t.length : Int) ∧ (t.length : Int) ≤ 8) ∧
 (small2 t) ∧
 ∃ (H1 : List (List Int) → Int → Prop) (m1 : List (List Int) → Int → Nat),
 H1 t 0 ∧
 ∀ (v5_1 : List (List Int)) (v6_1 : Int), H1 v5_1 v6_1 →
 ( ((v6_1 < ((growL (t.length : Int) []).length : Int) →
 (0 ≤ v6_1 ∧ v6_1 < ((growL (t.length : Int) []).length : Int)) ∧
 (isTab t = true ∧ ((el (growL (t.length : Int) []) v6_1).length : Int) = (t.length : Int) ∧ isPerm (el (growL (t.length : Int) []) v6_1) = true) ∧
 (small2 (renT t (el (growL (t.length : Int) []) v6_1)) ∧ small2 v5_1) ∧
 ((cmpT (renT t (el (growL (t.length : Int) []) v6_1)) v5_1 < 0 →
 (InI (v6_1 + 1)) ∧
 (H1 (renT t (el (growL (t.length : Int) []) v6_1)) (v6_1 + 1) ∧ m1 (renT t (el (growL (t.length : Int) []) v6_1)) (v6_1 + 1) < m1 v5_1 v6_1)) ∧
 (¬ (cmpT (renT t (el (growL (t.length : Int) []) v6_1)) v5_1 < 0) →
 (InI (v6_1 + 1)) ∧
 (H1 v5_1 (v6_1 + 1) ∧ m1 v5_1 (v6_1 + 1) < m1 v5_1 v6_1)))) ∧
 (¬ (v6_1 < ((growL (t.length : Int) []).length : Int)) →
 Q v5_1 0)))))))

def wp_impl_LeastCycleSet (c : List (List Int)) (Q : List (List Int) → Int → Prop) : Prop :=
 (small2 c) ∧
 Q (LeaT c) (LeaE c)

def wp_spec_LeastCycleSet (c : List (List Int)) (Q : List (List Int) → Int → Prop) : Prop :=
 (small2 c) ∧
 ((¬ (LeaE c = 0) →
 Q ([]) (LeaE c)) ∧
 (LeaE c = 0 →
 Q (LeaT c) 0))

theorem p_cmp_isNaN_int64_ (x : Int) : wp_cmp_isNaN_int64_ x (fun y0 => y0 = false) := by unfold wp_cmp_isNaN_int64_; simp
theorem p_cmp_Compare_int64_ (x y : Int) : wp_cmp_Compare_int64_ x y (fun y0 => y0 = cmp1 x y) := by
  unfold wp_cmp_Compare_int64_ cmp1
  exact ⟨fun h => by rw [if_pos h], fun h => ⟨fun g => by rw [if_neg h, if_pos g], fun g => by rw [if_neg h, if_neg g]⟩⟩
theorem p_slices_Compare___int64_int64_ (s1 s2 : List Int) (hp : small s1 ∧ small s2) : wp_slices_Compare___int64_int64_ s1 s2 (fun y0 => y0 = cmpG cmp1 s1 s2) := by
  have h1 : (s1.length : Int) ≤ 1000000000 := hp.1
  refine ⟨fun i => (0 ≤ i ∧ i ≤ (s1.length : Int) ∧ i ≤ (s2.length : Int)) ∧ Upto i fun j => cmp1 (el s1 j) (el s2 j) = 0, fun i => ((s1.length : Int) - i).toNat, ⟨⟨by omega, by omega, by omega⟩, upto0⟩, ?_⟩
  rintro i ⟨⟨i0, i1, i2⟩, hu⟩
  dsimp only
  refine ⟨fun hlt => ⟨⟨i0, hlt⟩, fun g => (cmpG_long hu ⟨i0, hlt⟩ (by omega)).symm, fun g => ⟨⟨i0, by omega⟩, fun h => (cmpG_ne hu ⟨i0, hlt⟩ (by omega) h).symm, fun h => ⟨⟨by omega, by omega⟩, ⟨⟨by omega, by omega, by omega⟩, upto1 hu h⟩, by omega⟩⟩⟩, fun hge => ⟨fun g => (cmpG_short hu ⟨i0, by omega⟩ (by omega)).symm, fun g => (cmpG_same hu ⟨i0, by omega⟩ (by omega)).symm⟩⟩
theorem p_slices_CompareFunc_____int64_____int64___int64___int64_ (s1 s2 : List (List Int)) (cmp : List Int → List Int → Int) (cmp_D : List Int → List Int → Prop) (hp : small2 s1 ∧ small2 s2 ∧ ∀ x_ y_ : List Int, small x_ → small y_ → cmp_D x_ y_) : wp_slices_CompareFunc_____int64_____int64___int64___int64_ s1 s2 cmp cmp_D (fun y0 => y0 = cmpG cmp s1 s2) := by
  obtain ⟨⟨h1, h1'⟩, ⟨h2, h2'⟩, hd⟩ := hp
  have h1 : (s1.length : Int) ≤ 1000000000 := h1
  refine ⟨fun i => (0 ≤ i ∧ i ≤ (s1.length : Int) ∧ i ≤ (s2.length : Int)) ∧ Upto i fun j => cmp (el s1 j) (el s2 j) = 0, fun i => ((s1.length : Int) - i).toNat, ⟨⟨by omega, by omega, by omega⟩, upto0⟩, ?_⟩
  rintro i ⟨⟨i0, i1, i2⟩, hu⟩
  dsimp only
  refine ⟨fun hlt => ⟨⟨i0, hlt⟩, fun g => (cmpG_long hu ⟨i0, hlt⟩ (by omega)).symm, fun g => ⟨⟨i0, by omega⟩, hd _ _ (h1' _ (el_mem ⟨i0, hlt⟩)) (h2' _ (el_mem ⟨i0, by omega⟩)), fun h => (cmpG_ne hu ⟨i0, hlt⟩ (by omega) h).symm, fun h => ⟨⟨by omega, by omega⟩, ⟨⟨by omega, by omega, by omega⟩, upto1 hu h⟩, by omega⟩⟩⟩, fun hge => ⟨fun g => (cmpG_short hu ⟨i0, by omega⟩ (by omega)).symm, fun g => (cmpG_same hu ⟨i0, by omega⟩ (by omega)).symm⟩⟩
theorem p_impl_compareTables_1 (a b : List Int) (hp : small a ∧ small b) : wp_impl_compareTables_1 a b (fun y0 => y0 = cmpG cmp1 a b) := ⟨hp, rfl⟩
theorem p_impl_compareTables (s t : List (List Int)) (hp : small2 s ∧ small2 t) : wp_impl_compareTables s t (fun y0 => y0 = cmpT s t) := ⟨⟨hp.1, hp.2, fun _ _ h1 h2 => ⟨h1, h2⟩⟩, rfl⟩
theorem p_spec_l01Less (a b : List Int) (hp : small a ∧ small b) : wp_spec_l01Less a b (fun y0 => y0 = decide (cmpG cmp1 a b < 0)) := by
  have h1 : (a.length : Int) ≤ 1000000000 := hp.1
  refine ⟨fun i => (0 ≤ i ∧ i ≤ (a.length : Int) ∧ i ≤ (b.length : Int)) ∧ Upto i fun j => cmp1 (el a j) (el b j) = 0, fun i => ((a.length : Int) - i).toNat, ⟨⟨by omega, by omega, by omega⟩, upto0⟩, ?_⟩
  rintro i ⟨⟨i0, i1, i2⟩, hu⟩
  have fin : ¬ (i < (a.length : Int) ∧ i < (b.length : Int)) → decide ((a.length : Int) < (b.length : Int)) = decide (cmpG cmp1 a b < 0) := fun g => by
    by_cases ha : i < (a.length : Int)
    · rw [cmpG_long hu ⟨i0, ha⟩ (by omega)]; simp; omega
    · by_cases hb : i < (b.length : Int)
      · rw [cmpG_short hu ⟨i0, by omega⟩ hb]; simp; omega
      · rw [cmpG_same hu ⟨i0, by omega⟩ (by omega)]; simp; omega
  dsimp only
  refine ⟨fun hlt => ⟨fun hb => ⟨⟨i0, hlt⟩, ⟨i0, hb⟩, fun h => ⟨⟨i0, hlt⟩, ⟨i0, hb⟩, ?_⟩, fun h => ⟨⟨by omega, by omega⟩, ⟨⟨by omega, by omega, by omega⟩, upto1 hu (cmp1_zero.2 h)⟩, by omega⟩⟩, fun hb => fin fun g => hb g.2⟩, fun hge => fin fun g => hge g.1⟩
  rw [cmpG_ne hu ⟨i0, hlt⟩ hb fun g => h (cmp1_zero.1 g)]
  unfold cmp1
  split
  · simp [*]
  · split <;> simp [*]
theorem p_spec_l01Less2 (a b : List (List Int)) (hp : small2 a ∧ small2 b) : wp_spec_l01Less2 a b (fun y0 => y0 = decide (cmpT a b < 0)) := by
  obtain ⟨⟨h1, h1'⟩, h2, h2'⟩ := hp
  have h1 : (a.length : Int) ≤ 1000000000 := h1
  have z : ∀ x y : List Int, cmpG cmp1 x y = 0 ↔ x = y := cmpG_zero fun _ _ => cmp1_zero
  refine ⟨fun i => (0 ≤ i ∧ i ≤ (a.length : Int) ∧ i ≤ (b.length : Int)) ∧ Upto i fun j => cmpG cmp1 (el a j) (el b j) = 0, fun i => ((a.length : Int) - i).toNat, ⟨⟨by omega, by omega, by omega⟩, upto0⟩, ?_⟩
  rintro i ⟨⟨i0, i1, i2⟩, hu⟩
  have fin : ¬ (i < (a.length : Int) ∧ i < (b.length : Int)) → decide ((a.length : Int) < (b.length : Int)) = decide (cmpT a b < 0) := fun g => by
    unfold cmpT
    by_cases ha : i < (a.length : Int)
    · rw [cmpG_long hu ⟨i0, ha⟩ (by omega)]; simp; omega
    · by_cases hb : i < (b.length : Int)
      · rw [cmpG_short hu ⟨i0, by omega⟩ hb]; simp; omega
      · rw [cmpG_same hu ⟨i0, by omega⟩ (by omega)]; simp; omega
  dsimp only
  refine ⟨fun hlt => ⟨fun hb => ?_, fun hb => fin fun g => hb g.2⟩, fun hge => fin fun g => hge g.1⟩
  have s1 := h1' _ (el_mem ⟨i0, hlt⟩)
  have s2 := h2' _ (el_mem ⟨i0, hb⟩)
  refine ⟨⟨i0, hlt⟩, ⟨i0, hb⟩, ⟨s1, s2⟩, fun h => ⟨⟨i0, hlt⟩, ⟨i0, hb⟩, ⟨s1, s2⟩, ?_⟩, fun h => ⟨⟨by omega, by omega⟩, ⟨⟨by omega, by omega, by omega⟩, upto1 hu ((z _ _).2 h)⟩, by omega⟩⟩
  unfold cmpT
  rw [cmpG_ne hu ⟨i0, hlt⟩ hb fun g => h ((z _ _).1 g)]
theorem p_impl_cloneTable (t : List (List Int)) (hp : small2 t) : wp_impl_cloneTable t (fun y0 => y0 = t) := by
  obtain ⟨h1, h2⟩ := hp
  have h1 : (t.length : Int) ≤ 1000000000 := h1
  refine ⟨⟨by omega, h1⟩, fun i o => (0 ≤ i ∧ i ≤ (t.length : Int)) ∧ o.length = t.length ∧ Upto i fun j => el o j = el t j, fun i _ => ((t.length : Int) - i).toNat, ⟨⟨by omega, by omega⟩, by simp, upto0⟩, ?_⟩
  rintro i o ⟨⟨i0, i1⟩, ol, hu⟩
  dsimp only
  refine ⟨fun hlt => ⟨⟨i0, hlt⟩, h2 _ (el_mem ⟨i0, hlt⟩), ⟨i0, by omega⟩, ⟨by omega, by omega⟩, ⟨⟨by omega, by omega⟩, by simpa using ol, ?_⟩, by omega⟩, fun hge => ext_el ol fun j j0 j1 => hu j j0 (by omega)⟩
  refine upto1 (fun j j0 j1 => ?_) ?_
  · rw [el_se_ne i0 j0 (by omega)]; exact hu j j0 j1
  · rw [el_se_same ⟨i0, by omega⟩]
theorem p_impl_renamed_1 (u v : Int) (p : List Int) (t : List (List Int)) (back : List Int) (hp : isTab t = true ∧ p.length = t.length ∧ back.length = t.length ∧ isPerm p = true ∧ isPerm back = true ∧ (0 ≤ u ∧ u < (t.length : Int)) ∧ 0 ≤ v ∧ v < (t.length : Int)) : wp_impl_renamed_1 u v p t back (fun y0 => y0 = el p (el (el t (el back u)) (el back v))) := by
  obtain ⟨ht, h1, h2, h3, h4, hu, hv⟩ := hp
  have a := isPerm_el h4 (i := u) ⟨hu.1, by omega⟩
  have b := isPerm_el h4 (i := v) ⟨hv.1, by omega⟩
  have c := rk_el ht (x := el back u) (y := el back v) ⟨a.1, by omega⟩ ⟨b.1, by omega⟩
  have l := rk_len ht (x := el back u) ⟨a.1, by omega⟩
  exact ⟨⟨hu.1, by omega⟩, ⟨a.1, by omega⟩, ⟨hv.1, by omega⟩, ⟨b.1, by omega⟩, ⟨c.1, by omega⟩, rfl⟩
theorem p_impl_renamed (t : List (List Int)) (p : List Int) (hp : isTab t = true ∧ (p.length : Int) = (t.length : Int) ∧ isPerm p = true) : wp_impl_renamed t p (fun y0 => y0 = renT t p) := by
  obtain ⟨ht, hl, hP⟩ := hp
  have hn := isTab_len ht
  refine ⟨⟨by show (_ : Int) ≤ _; omega, hP⟩, ⟨by omega, by omega, fun x y x0 x1 y0 y1 => ⟨ht, by omega, by simp; omega, hP, isPerm_backI hP, ⟨x0, x1⟩, y0, y1⟩⟩, ?_⟩
  refine tab_congr fun i j i0 i1 j0 j1 => ?_
  have b : ∀ z : Int, 0 ≤ z → z < (t.length : Int) → el (backI p) z = idxI p z := fun z z0 z1 => el_ran ⟨z0, by omega⟩
  rw [b i i0 i1, b j j0 j1]
theorem p_impl_LeastTable (t : List (List Int)) (hp : small2 t) : wp_impl_LeastTable t (fun y0 y1 => y0 = LeaT t ∧ y1 = LeaE t) := by
  refine ⟨hp, fun h => ?_, fun h => ⟨fun g => ?_, fun g => ?_⟩⟩
  · have e : LeaE t = 1 := by unfold LeaE; simp [h]
    exact ⟨by unfold LeaT; rw [e]; rfl, e.symm⟩
  · have e : LeaE t = 3 := by unfold LeaE; rw [if_pos h, if_pos g]
    exact ⟨by unfold LeaT; rw [e]; rfl, e.symm⟩
  · have e : LeaE t = 0 := by unfold LeaE; rw [if_pos h, if_neg g]
    have hn := isTab_len h
    refine ⟨hp, ⟨by omega, by omega⟩, fun k b => isTab b = true ∧ b = ((growL (t.length : Int) []).take k).foldl (lesT t) t, ⟨h, rfl⟩, fun k b p hk ⟨hb, hbe⟩ => ?_, fun b ⟨hb, hbe⟩ => ⟨?_, e.symm⟩⟩
    · obtain ⟨pl, pP⟩ := growL_perm (by omega) (List.mem_of_getElem? hk)
      have tr := isTab_ren h pP pl
      refine ⟨⟨h, pl, pP⟩, ⟨isTab_small tr, isTab_small hb⟩, fun hc => ⟨tr, ?_⟩, fun hc => ⟨hb, ?_⟩⟩
      · rw [foldl_take hk, ← hbe]; unfold lesT; rw [if_pos hc]
      · rw [foldl_take hk, ← hbe]; unfold lesT; rw [if_neg hc]
    · unfold LeaT; rw [if_pos e, hbe, List.take_length]
theorem p_spec_LeastTable (t : List (List Int)) (hp : small2 t) : wp_spec_LeastTable t (fun y0 y1 => y0 = LeaT t ∧ y1 = LeaE t) := by
  refine ⟨hp, fun h => ?_, fun h => ⟨fun g => ?_, fun g => ?_⟩⟩
  · have e : LeaE t = 1 := by unfold LeaE; simp [h]
    exact ⟨by unfold LeaT; rw [e]; rfl, e.symm⟩
  · have e : LeaE t = 3 := by unfold LeaE; rw [if_pos h, if_pos g]
    exact ⟨by unfold LeaT; rw [e]; rfl, e.symm⟩
  · have e : LeaE t = 0 := by unfold LeaE; rw [if_pos h, if_neg g]
    have hn := isTab_len h
    have h8 := growL_len8 (n := (t.length : Int)) ⟨by omega, by omega⟩
    refine ⟨⟨by omega, by omega⟩, hp, fun b i => (0 ≤ i ∧ i ≤ ((growL (t.length : Int) []).length : Int)) ∧ isTab b = true ∧ b = ((growL (t.length : Int) []).take i.toNat).foldl (lesT t) t, fun _ i => (((growL (t.length : Int) []).length : Int) - i).toNat, ⟨⟨by omega, by omega⟩, h, rfl⟩, ?_⟩
    rintro b i ⟨⟨i0, i1⟩, hb, hbe⟩
    dsimp only
    refine ⟨fun hlt => ?_, fun hge => ⟨?_, e.symm⟩⟩
    · have hk : (growL (t.length : Int) [])[i.toNat]? = some (el (growL (t.length : Int) []) i) := by
        have hi : i.toNat < (growL (t.length : Int) []).length := by omega
        simp [el, List.getD_eq_getElem?_getD, List.getElem?_eq_getElem hi]
      obtain ⟨pl, pP⟩ := growL_perm (by omega) (List.mem_of_getElem? hk)
      have tr := isTab_ren h pP pl
      have hs : (i + 1).toNat = i.toNat + 1 := by omega
      refine ⟨⟨i0, hlt⟩, ⟨h, pl, pP⟩, ⟨isTab_small tr, isTab_small hb⟩, fun hc => ⟨⟨by omega, by omega⟩, ⟨⟨by omega, by omega⟩, tr, ?_⟩, by omega⟩, fun hc => ⟨⟨by omega, by omega⟩, ⟨⟨by omega, by omega⟩, hb, ?_⟩, by omega⟩⟩
      · rw [hs, foldl_take hk, ← hbe]; unfold lesT; rw [if_pos hc]
      · rw [hs, foldl_take hk, ← hbe]; unfold lesT; rw [if_neg hc]
    · unfold LeaT; rw [if_pos e, hbe, List.take_of_length_le (by omega)]
theorem p_impl_LeastCycleSet (c : List (List Int)) (hp : small2 c) : wp_impl_LeastCycleSet c (fun y0 y1 => y0 = LeaT c ∧ y1 = LeaE c) := ⟨hp, rfl, rfl⟩
theorem p_spec_LeastCycleSet (c : List (List Int)) (hp : small2 c) : wp_spec_LeastCycleSet c (fun y0 y1 => y0 = LeaT c ∧ y1 = LeaE c) :=
  ⟨hp, fun h => ⟨by unfold LeaT; rw [if_neg h], rfl⟩, fun h => ⟨rfl, h.symm⟩⟩
theorem p_impl_nextPermutation (p : List Int) (hp : isPerm p = true ∧ (p.length : Int) ≤ 12) : wp_impl_nextPermutation p (fun y0 w0 => (y0 = true ∧ ∃ i_ k_, NxI p i_ k_ ∧ w0 = nxtL p i_ k_) ∨ (y0 = false ∧ w0 = p ∧ ∀ j_ : Int, -1 < j_ → j_ + 1 < (p.length : Int) → el p (j_ + 1) < el p j_)) := by
  obtain ⟨hP, hl⟩ := hp
  refine ⟨⟨by omega, by omega⟩, fun i => (-2 ≤ i ∧ i ≤ (p.length : Int) - 2) ∧ (i = -2 → (p.length : Int) = 0) ∧ ∀ j, i < j → 0 ≤ j → j + 1 < (p.length : Int) → el p (j + 1) < el p j, fun i => (i + 2).toNat, ⟨⟨by omega, by omega⟩, fun _ => by omega, fun j j0 _ j1 => by omega⟩, ?_⟩
  rintro i ⟨⟨i0, i1⟩, i2, dn⟩
  have last : ¬ (0 ≤ i) → (false = true ∧ ∃ i_ k_, NxI p i_ k_ ∧ p = nxtL p i_ k_) ∨ (false = false ∧ p = p ∧ ∀ j_ : Int, -1 < j_ → j_ + 1 < (p.length : Int) → el p (j_ + 1) < el p j_) := fun g => .inr ⟨rfl, rfl, fun j j0 j1 => dn j (by omega) (by omega) j1⟩
  dsimp only
  refine ⟨fun h0 => ⟨⟨h0, by omega⟩, ⟨by omega, by omega⟩, ⟨by omega, by omega⟩, fun hc => ⟨⟨by omega, by omega⟩, ⟨⟨by omega, by omega⟩, fun e => by omega, fun j j0 j1 j2 => ?_⟩, by omega⟩, fun hc => ⟨fun g => by omega, fun _ => ⟨⟨by omega, by omega⟩, ?_⟩⟩⟩, fun h0 => ⟨fun _ => last h0, fun g => by omega⟩⟩
  · by_cases e : j = i
    · subst e; exact hc
    · exact dn j (by omega) j1 j2
  · have hup : el p i < el p (i + 1) := by
      have : el p i ≠ el p (i + 1) := fun e => by have := isPerm_inj hP (i := i) (j := i + 1) ⟨h0, by omega⟩ ⟨by omega, by omega⟩ e; omega
      omega
    refine ⟨fun k => (i < k ∧ k < (p.length : Int)) ∧ ∀ j, k < j → j < (p.length : Int) → el p j < el p i, fun k => k.toNat, ⟨⟨by omega, by omega⟩, fun j j0 j1 => by omega⟩, ?_⟩
    rintro k ⟨⟨k0, k1⟩, kd⟩
    dsimp only
    refine ⟨⟨by omega, k1⟩, ⟨h0, by omega⟩, fun hk => ⟨⟨by omega, by omega⟩, ⟨⟨?_, by omega⟩, fun j j0 j1 => ?_⟩, by omega⟩, fun hk => ⟨⟨by omega, k1⟩, ⟨h0, by omega⟩, ⟨h0, by omega⟩, ⟨by omega, by simp; omega⟩, ⟨by omega, by omega⟩, ⟨by omega, by simp; omega⟩, by show (_ : Int) ≤ _; simp; omega, .inl ⟨rfl, i, k, ⟨⟨h0, by omega⟩, hup, fun j j0 j1 => dn j j0 (by omega) j1, ⟨k0, k1⟩, ?_, kd⟩, rfl⟩⟩⟩
    · rcases Int.lt_or_le i (k - 1) with g | g
      · exact g
      · rw [show k = i + 1 by omega] at hk; omega
    · by_cases e : j = k
      · subst e; exact hk
      · exact kd j (by omega) j1
    · have : el p k ≠ el p i := fun e => by have := isPerm_inj hP (i := k) (j := i) ⟨by omega, by omega⟩ ⟨h0, by omega⟩ e; omega
      omega

set_option maxRecDepth 100000 in
set_option maxHeartbeats 4000000 in
theorem w_cmp_isNaN_int64_ (x : Int) (Q : Bool → Prop) (h : wp_cmp_isNaN_int64_ x Q) : AF Try.prog 145 [ci x] (fun R_ => ∃ y0, Q y0 ∧ R_ = cb y0) := by
  refine AF.ofWQ (af_enter (n := 6) Try.func145 rfl (by rfl) rfl (Nat.le_of_ble_eq_true rfl) ?_)
  unfold wp_cmp_isNaN_int64_ at h
  refine aw_seq ?_
  refine aw_gh (gh_to (n := 6) (σ' := []) (env' := [(0, .c (ci x))]) rfl rfl ⟨rfl, trivial⟩) ?_
  refine aw_region ?_
  refine run_s (ss_assign rfl) rfl ?_
  refine run_nil ?_
  refine aw_seq ?_
  refine aw_region ?_
  refine run_s (ss_move rfl) rfl ?_
  refine run_s (ss_move rfl) rfl ?_
  refine run_s (ss_neq rfl rfl) rfl ?_
  refine run_s (ss_assign rfl) rfl ?_
  refine run_nil ?_
  refine aw_ret ?_
  exact retAF_mk (retv1 rfl (rv_tmp rfl)) rfl rfl ⟨_, (cle_refl _), _, h, rfl⟩

theorem c_cmp_isNaN_int64_ (x : Int)  : AF Try.prog 145 [ci x] (fun R_ => R_ = cb false) :=
  (w_cmp_isNaN_int64_ x (fun y0 => y0 = false) (p_cmp_isNaN_int64_ x)).mono (by rintro r ⟨_, rfl, rfl⟩; rfl)

set_option maxRecDepth 100000 in
set_option maxHeartbeats 4000000 in
theorem w_cmp_Compare_int64_ (x : Int) (y : Int) (Q : Int → Prop) (h : wp_cmp_Compare_int64_ x y Q) : AF Try.prog 118 [ci x, ci y] (fun R_ => ∃ y0, Q y0 ∧ R_ = ci y0) := by
  refine AF.ofWQ (af_enter (n := 20) Try.func118 rfl (by rfl) rfl (Nat.le_of_ble_eq_true rfl) ?_)
  unfold wp_cmp_Compare_int64_ at h
  refine aw_seq ?_
  refine aw_gh (gh_to (n := 20) (σ' := []) (env' := [(0, .c (ci x)), (1, .c (ci y))]) rfl rfl ⟨rfl, rfl, trivial⟩) ?_
  refine aw_region ?_
  refine run_s (ss_assign rfl) rfl ?_
  refine run_nil ?_
  refine aw_seq ?_
  refine aw_region ?_
  refine run_s (ss_move rfl) rfl ?_
  refine run_w (ws_call (xs := [.tmp 7]) (ids := []) rfl rfl rfl rfl (c_cmp_isNaN_int64_ x) rfl ?_ )
  rintro _ rfl
  refine ⟨rfl, ?_⟩
  refine run_s (ss_assign rfl) rfl ?_
  refine run_nil ?_
  refine aw_seq ?_
  refine aw_region ?_
  refine run_s (ss_move rfl) rfl ?_
  refine run_w (ws_call (xs := [.tmp 9]) (ids := []) rfl rfl rfl rfl (c_cmp_isNaN_int64_ y) rfl ?_ )
  rintro _ rfl
  refine ⟨rfl, ?_⟩
  refine run_s (ss_assign rfl) rfl ?_
  refine run_nil ?_
  refine aw_seq ?_
  refine aw_seq ?_
  refine aw_gh (gh_to (n := 20) (σ' := []) (env' := [(0, .c (ci x)), (1, .c (ci y)), (5, .c (cb false)), (6, .c (cb false))]) rfl rfl ⟨rfl, rfl, rfl, rfl, trivial⟩) ?_
  refine aw_region ?_
  refine run_s (ss_move rfl) rfl ?_
  refine run_nil ?_
  refine aw_cond rfl (fun q3 => ?_) (fun q3 => ?_)
  ·cases q3
  ·skip
   refine aw_skip ?_
   refine aw_seq ?_
   refine aw_seq ?_
   refine aw_region ?_
   refine run_s (ss_move rfl) rfl ?_
   refine run_nil ?_
   refine aw_cond rfl (fun q4 => ?_) (fun q4 => ?_)
   ·cases q4
   ·skip
    refine aw_skip ?_
    refine aw_seq ?_
    refine aw_seq ?_
    refine aw_region ?_
    refine run_s (ss_move rfl) rfl ?_
    refine run_s (ss_move rfl) rfl ?_
    refine run_s (ss_lss rfl rfl) rfl ?_
    refine run_nil ?_
    refine aw_cond rfl (fun q5 => ?_) (fun q5 => ?_)
    ·replace h := h.1 (of_decide_eq_true q5)
     refine aw_seq ?_
     refine aw_gh (gh_to (n := 20) (σ' := []) (env' := []) rfl rfl trivial) ?_
     refine aw_region ?_
     refine run_s (ss_assign rfl) rfl ?_
     refine run_nil ?_
     refine aw_ret ?_
     exact retAF_mk (retv1 rfl (rv_tmp rfl)) rfl rfl ⟨_, (cle_refl _), _, h, rfl⟩
    ·replace h := h.2 (of_decide_eq_false q5)
     refine aw_skip ?_
     refine aw_seq ?_
     refine aw_seq ?_
     refine aw_gh (gh_to (n := 20) (σ' := []) (env' := [(0, .c (ci x)), (1, .c (ci y))]) rfl rfl ⟨rfl, rfl, trivial⟩) ?_
     refine aw_region ?_
     refine run_s (ss_move rfl) rfl ?_
     refine run_s (ss_move rfl) rfl ?_
     refine run_s (ss_gtr rfl rfl) rfl ?_
     refine run_nil ?_
     refine aw_cond rfl (fun q6 => ?_) (fun q6 => ?_)
     ·replace h := h.1 (of_decide_eq_true q6)
      refine aw_seq ?_
      refine aw_gh (gh_to (n := 20) (σ' := []) (env' := []) rfl rfl trivial) ?_
      refine aw_region ?_
      refine run_s (ss_assign rfl) rfl ?_
      refine run_nil ?_
      refine aw_ret ?_
      exact retAF_mk (retv1 rfl (rv_tmp rfl)) rfl rfl ⟨_, (cle_refl _), _, h, rfl⟩
     ·replace h := h.2 (of_decide_eq_false q6)
      refine aw_skip ?_
      refine aw_seq ?_
      refine aw_gh (gh_to (n := 20) (σ' := []) (env' := []) rfl rfl trivial) ?_
      refine aw_region ?_
      refine run_s (ss_assign rfl) rfl ?_
      refine run_nil ?_
      refine aw_ret ?_
      exact retAF_mk (retv1 rfl (rv_tmp rfl)) rfl rfl ⟨_, (cle_refl _), _, h, rfl⟩

theorem c_cmp_Compare_int64_ (x : Int) (y : Int)  : AF Try.prog 118 [ci x, ci y] (fun R_ => R_ = ci (cmp1 x y)) :=
  (w_cmp_Compare_int64_ x y (fun y0 => y0 = cmp1 x y) (p_cmp_Compare_int64_ x y)).mono (by rintro r ⟨_, rfl, rfl⟩; rfl)

set_option maxRecDepth 100000 in
set_option maxHeartbeats 4000000 in
theorem w_slices_Compare___int64_int64_ (s1 : List Int) (s2 : List Int) (Q : Int → Prop) (h : wp_slices_Compare___int64_int64_ s1 s2 Q) : AF Try.prog 68 [.lst (ints s1), .lst (ints s2)] (fun R_ => ∃ y0, Q y0 ∧ R_ = ci y0) := by
  refine AF.ofWQ (af_enter (n := 36) Try.func68 rfl (by rfl) rfl (Nat.le_of_ble_eq_true rfl) ?_)
  unfold wp_slices_Compare___int64_int64_ at h
  refine aw_seq ?_
  refine aw_gh (gh_to (n := 36) (σ' := []) (env' := [(0, .c (.lst (ints s1))), (1, .c (.lst (ints s2)))]) rfl rfl ⟨rfl, rfl, trivial⟩) ?_
  refine aw_region ?_
  refine run_s (ss_assign rfl) rfl ?_
  refine run_nil ?_
  refine aw_seq ?_
  refine aw_seq ?_
  refine aw_region ?_
  refine run_s (ss_move rfl) rfl ?_
  refine run_s (ss_lenL (f := ci) rfl) rfl ?_
  refine run_s (ss_move rfl) rfl ?_
  refine run_nil ?_
  refine aw_block ?_
  obtain ⟨H1, m1, q1, h⟩ := h
  refine aw_loop1 (fun (v11_1 : Int) => ⟨[], [(0, .c (.lst (ints s1))), (1, .c (.lst (ints s2))), (9, .c (.lst (ints s1))), (10, .c (ci (s1.length : Int))), (11, .c (ci v11_1))], 36⟩) H1 m1 ⟨0, ghe_to (n := 36) rfl rfl ⟨rfl, rfl, rfl, rfl, rfl, trivial⟩, q1⟩ ?_
  rintro v11_1 q1
  replace h := h v11_1 q1
  refine aw_seq ?_
  refine aw_region ?_
  refine run_s (ss_lss rfl rfl) rfl ?_
  refine run_nil ?_
  refine aw_seq ?_
  refine aw_cond rfl (fun q2 => ?_) (fun q2 => ?_)
  ·replace h := h.1 (of_decide_eq_true q2)
   refine aw_skip ?_
   refine aw_seq ?_
   refine aw_block ?_
   refine aw_seq ?_
   refine aw_region ?_
   refine run_s (ss_move rfl) rfl ?_
   obtain ⟨q3, h⟩ := h
   refine run_s (ss_idxL rfl rfl q3) rfl ?_
   refine run_s (ss_loadL (f := ci) rfl q3) rfl ?_
   refine run_s (ss_assign rfl) rfl ?_
   refine run_s (ss_assign rfl) rfl ?_
   refine run_nil ?_
   refine aw_seq ?_
   refine aw_seq ?_
   refine aw_region ?_
   refine run_s (ss_move rfl) rfl ?_
   refine run_s (ss_move rfl) rfl ?_
   refine run_s (ss_lenL (f := ci) rfl) rfl ?_
   refine run_s (ss_geq rfl rfl) rfl ?_
   refine run_nil ?_
   refine aw_cond rfl (fun q4 => ?_) (fun q4 => ?_)
   ·replace h := h.1 (of_decide_eq_true q4)
    refine aw_seq ?_
    refine aw_gh (gh_to (n := 36) (σ' := []) (env' := []) rfl rfl trivial) ?_
    refine aw_region ?_
    refine run_s (ss_assign rfl) rfl ?_
    refine run_nil ?_
    refine aw_ret ?_
    exact retAF_mk (retv1 rfl (rv_tmp rfl)) rfl rfl ⟨_, (cle_refl _), _, h, rfl⟩
   ·replace h := h.2 (of_decide_eq_false q4)
    refine aw_skip ?_
    refine aw_seq ?_
    refine aw_gh (gh_to (n := 36) (σ' := []) (env' := [(0, .c (.lst (ints s1))), (1, .c (.lst (ints s2))), (5, .c (ci v11_1)), (6, .c (ci (el s1 v11_1))), (9, .c (.lst (ints s1))), (10, .c (ci (s1.length : Int))), (11, .c (ci v11_1))]) rfl rfl ⟨rfl, rfl, rfl, rfl, rfl, rfl, rfl, trivial⟩) ?_
    refine aw_region ?_
    refine run_s (ss_move rfl) rfl ?_
    refine run_s (ss_move rfl) rfl ?_
    obtain ⟨q5, h⟩ := h
    refine run_s (ss_idxL rfl rfl q5) rfl ?_
    refine run_s (ss_loadL (f := ci) rfl q5) rfl ?_
    refine run_s (ss_assign rfl) rfl ?_
    refine run_nil ?_
    refine aw_seq ?_
    refine aw_region ?_
    refine run_s (ss_move rfl) rfl ?_
    refine run_s (ss_move rfl) rfl ?_
    refine run_w (ws_call (xs := [.tmp 24, .tmp 25]) (ids := []) rfl rfl rfl rfl (c_cmp_Compare_int64_ (el s1 v11_1) (el s2 v11_1)) rfl ?_ )
    rintro _ rfl
    refine ⟨rfl, ?_⟩
    refine run_s (ss_assign rfl) rfl ?_
    refine run_nil ?_
    refine aw_seq ?_
    refine aw_gh (gh_to (n := 36) (σ' := []) (env' := [(0, .c (.lst (ints s1))), (1, .c (.lst (ints s2))), (8, .c (ci (cmp1 (el s1 v11_1) (el s2 v11_1)))), (9, .c (.lst (ints s1))), (10, .c (ci (s1.length : Int))), (11, .c (ci v11_1))]) rfl rfl ⟨rfl, rfl, rfl, rfl, rfl, rfl, trivial⟩) ?_
    refine aw_region ?_
    refine run_s (ss_move rfl) rfl ?_
    refine run_s (ss_neq rfl rfl) rfl ?_
    refine run_nil ?_
    refine aw_cond rfl (fun q7 => ?_) (fun q7 => ?_)
    ·replace h := h.1 (of_decide_eq_false (bnot_t q7))
     refine aw_seq ?_
     refine aw_gh (gh_to (n := 36) (σ' := []) (env' := [(8, .c (ci (cmp1 (el s1 v11_1) (el s2 v11_1))))]) rfl rfl ⟨rfl, trivial⟩) ?_
     refine aw_region ?_
     refine run_s (ss_move rfl) rfl ?_
     refine run_s (ss_assign rfl) rfl ?_
     refine run_nil ?_
     refine aw_ret ?_
     exact retAF_mk (retv1 rfl (rv_tmp rfl)) rfl rfl ⟨_, (cle_refl _), _, h, rfl⟩
    ·replace h := h.2 (of_decide_eq_true (bnot_f q7))
     refine aw_skip ?_
     refine aw_region ?_
     obtain ⟨q8, h⟩ := h
     refine run_s (ss_add rfl rfl q8) rfl ?_
     refine run_s (ss_move rfl) rfl ?_
     refine run_nil ?_
     exact ⟨v11_1 + 1, ghe_to (n := 36) rfl rfl ⟨rfl, rfl, rfl, rfl, rfl, trivial⟩, h.1, h.2⟩
  ·replace h := h.2 (of_decide_eq_false q2)
   refine aw_exit ?_
   refine aw_seq ?_
   refine aw_seq ?_
   refine aw_region ?_
   refine run_s (ss_move rfl) rfl ?_
   refine run_s (ss_lenL (f := ci) rfl) rfl ?_
   refine run_s (ss_move rfl) rfl ?_
   refine run_s (ss_lenL (f := ci) rfl) rfl ?_
   refine run_s (ss_lss rfl rfl) rfl ?_
   refine run_nil ?_
   refine aw_cond rfl (fun q9 => ?_) (fun q9 => ?_)
   ·replace h := h.1 (of_decide_eq_true q9)
    refine aw_seq ?_
    refine aw_gh (gh_to (n := 36) (σ' := []) (env' := []) rfl rfl trivial) ?_
    refine aw_region ?_
    refine run_s (ss_assign rfl) rfl ?_
    refine run_nil ?_
    refine aw_ret ?_
    exact retAF_mk (retv1 rfl (rv_tmp rfl)) rfl rfl ⟨_, (cle_refl _), _, h, rfl⟩
   ·replace h := h.2 (of_decide_eq_false q9)
    refine aw_skip ?_
    refine aw_seq ?_
    refine aw_gh (gh_to (n := 36) (σ' := []) (env' := []) rfl rfl trivial) ?_
    refine aw_region ?_
    refine run_s (ss_assign rfl) rfl ?_
    refine run_nil ?_
    refine aw_ret ?_
    exact retAF_mk (retv1 rfl (rv_tmp rfl)) rfl rfl ⟨_, (cle_refl _), _, h, rfl⟩

theorem c_slices_Compare___int64_int64_ (s1 : List Int) (s2 : List Int) (hp : small s1 ∧ small s2) : AF Try.prog 68 [.lst (ints s1), .lst (ints s2)] (fun R_ => R_ = ci (cmpG cmp1 s1 s2)) :=
  (w_slices_Compare___int64_int64_ s1 s2 (fun y0 => y0 = cmpG cmp1 s1 s2) (p_slices_Compare___int64_int64_ s1 s2 hp)).mono (by rintro r ⟨_, rfl, rfl⟩; rfl)

set_option maxRecDepth 100000 in
set_option maxHeartbeats 4000000 in
theorem w_slices_CompareFunc_____int64_____int64___int64___int64_ (s1 : List (List Int)) (s2 : List (List Int)) (cmp_g : Nat) (cmp_c : List C) (cmp : List Int → List Int → Int) (cmp_D : List Int → List Int → Prop) (cmp_h : ∀ x0 x1, cmp_D x0 x1 → AF Try.prog cmp_g ([.lst (ints x0), .lst (ints x1)] ++ cmp_c) (fun R_ => R_ = ci (cmp x0 x1))) (Q : Int → Prop) (h : wp_slices_CompareFunc_____int64_____int64___int64___int64_ s1 s2 cmp cmp_D Q) : AF Try.prog 128 [.lst (rows s1), .lst (rows s2), .clo cmp_g cmp_c] (fun R_ => ∃ y0, Q y0 ∧ R_ = ci y0) := by
  refine AF.ofWQ (af_enter (n := 39) Try.func128 rfl (by rfl) rfl (Nat.le_of_ble_eq_true rfl) ?_)
  unfold wp_slices_CompareFunc_____int64_____int64___int64___int64_ at h
  refine aw_seq ?_
  refine aw_gh (gh_to (n := 39) (σ' := []) (env' := [(0, .c (.lst (rows s1))), (1, .c (.lst (rows s2))), (2, .c (.clo cmp_g cmp_c))]) rfl rfl ⟨rfl, rfl, rfl, trivial⟩) ?_
  refine aw_region ?_
  refine run_s (ss_assign rfl) rfl ?_
  refine run_nil ?_
  refine aw_seq ?_
  refine aw_seq ?_
  refine aw_region ?_
  refine run_s (ss_move rfl) rfl ?_
  refine run_s (ss_lenL (f := (fun r => C.lst (ints r))) rfl) rfl ?_
  refine run_s (ss_move rfl) rfl ?_
  refine run_nil ?_
  refine aw_block ?_
  obtain ⟨H1, m1, q1, h⟩ := h
  refine aw_loop1 (fun (v13_1 : Int) => ⟨[], [(0, .c (.lst (rows s1))), (1, .c (.lst (rows s2))), (2, .c (.clo cmp_g cmp_c)), (11, .c (.lst (rows s1))), (12, .c (ci (s1.length : Int))), (13, .c (ci v13_1))], 39⟩) H1 m1 ⟨0, ghe_to (n := 39) rfl rfl ⟨rfl, rfl, rfl, rfl, rfl, rfl, trivial⟩, q1⟩ ?_
  rintro v13_1 q1
  replace h := h v13_1 q1
  refine aw_seq ?_
  refine aw_region ?_
  refine run_s (ss_lss rfl rfl) rfl ?_
  refine run_nil ?_
  refine aw_seq ?_
  refine aw_cond rfl (fun q2 => ?_) (fun q2 => ?_)
  ·replace h := h.1 (of_decide_eq_true q2)
   refine aw_skip ?_
   refine aw_seq ?_
   refine aw_block ?_
   refine aw_seq ?_
   refine aw_region ?_
   refine run_s (ss_move rfl) rfl ?_
   obtain ⟨q3, h⟩ := h
   refine run_s (ss_idxL rfl rfl q3) rfl ?_
   refine run_s (ss_loadL (f := (fun r => C.lst (ints r))) rfl q3) rfl ?_
   refine run_s (ss_assign rfl) rfl ?_
   refine run_s (ss_assign rfl) rfl ?_
   refine run_nil ?_
   refine aw_seq ?_
   refine aw_seq ?_
   refine aw_region ?_
   refine run_s (ss_move rfl) rfl ?_
   refine run_s (ss_move rfl) rfl ?_
   refine run_s (ss_lenL (f := (fun r => C.lst (ints r))) rfl) rfl ?_
   refine run_s (ss_geq rfl rfl) rfl ?_
   refine run_nil ?_
   refine aw_cond rfl (fun q4 => ?_) (fun q4 => ?_)
   ·replace h := h.1 (of_decide_eq_true q4)
    refine aw_seq ?_
    refine aw_gh (gh_to (n := 39) (σ' := []) (env' := []) rfl rfl trivial) ?_
    refine aw_region ?_
    refine run_s (ss_assign rfl) rfl ?_
    refine run_nil ?_
    refine aw_ret ?_
    exact retAF_mk (retv1 rfl (rv_tmp rfl)) rfl rfl ⟨_, (cle_refl _), _, h, rfl⟩
   ·replace h := h.2 (of_decide_eq_false q4)
    refine aw_skip ?_
    refine aw_seq ?_
    refine aw_gh (gh_to (n := 39) (σ' := []) (env' := [(0, .c (.lst (rows s1))), (1, .c (.lst (rows s2))), (2, .c (.clo cmp_g cmp_c)), (7, .c (ci v13_1)), (8, .c (.lst (ints (el s1 v13_1)))), (11, .c (.lst (rows s1))), (12, .c (ci (s1.length : Int))), (13, .c (ci v13_1))]) rfl rfl ⟨rfl, rfl, rfl, rfl, rfl, rfl, rfl, rfl, trivial⟩) ?_
    refine aw_region ?_
    refine run_s (ss_move rfl) rfl ?_
    refine run_s (ss_move rfl) rfl ?_
    obtain ⟨q5, h⟩ := h
    refine run_s (ss_idxL rfl rfl q5) rfl ?_
    refine run_s (ss_loadL (f := (fun r => C.lst (ints r))) rfl q5) rfl ?_
    refine run_s (ss_assign rfl) rfl ?_
    refine run_nil ?_
    refine aw_seq ?_
    refine aw_region ?_
    refine run_s (ss_move rfl) rfl ?_
    refine run_s (ss_move rfl) rfl ?_
    refine run_s (ss_move rfl) rfl ?_
    obtain ⟨q6, h⟩ := h
    refine run_w (ws_call (xs := [.tmp 27, .tmp 28]) (ids := []) rfl rfl rfl rfl (cmp_h (el s1 v13_1) (el s2 v13_1) q6) rfl ?_ )
    rintro _ rfl
    refine ⟨rfl, ?_⟩
    refine run_s (ss_assign rfl) rfl ?_
    refine run_nil ?_
    refine aw_seq ?_
    refine aw_gh (gh_to (n := 39) (σ' := []) (env' := [(0, .c (.lst (rows s1))), (1, .c (.lst (rows s2))), (2, .c (.clo cmp_g cmp_c)), (10, .c (ci (cmp (el s1 v13_1) (el s2 v13_1)))), (11, .c (.lst (rows s1))), (12, .c (ci (s1.length : Int))), (13, .c (ci v13_1))]) rfl rfl ⟨rfl, rfl, rfl, rfl, rfl, rfl, rfl, trivial⟩) ?_
    refine aw_region ?_
    refine run_s (ss_move rfl) rfl ?_
    refine run_s (ss_neq rfl rfl) rfl ?_
    refine run_nil ?_
    refine aw_cond rfl (fun q7 => ?_) (fun q7 => ?_)
    ·replace h := h.1 (of_decide_eq_false (bnot_t q7))
     refine aw_seq ?_
     refine aw_gh (gh_to (n := 39) (σ' := []) (env' := [(10, .c (ci (cmp (el s1 v13_1) (el s2 v13_1))))]) rfl rfl ⟨rfl, trivial⟩) ?_
     refine aw_region ?_
     refine run_s (ss_move rfl) rfl ?_
     refine run_s (ss_assign rfl) rfl ?_
     refine run_nil ?_
     refine aw_ret ?_
     exact retAF_mk (retv1 rfl (rv_tmp rfl)) rfl rfl ⟨_, (cle_refl _), _, h, rfl⟩
    ·replace h := h.2 (of_decide_eq_true (bnot_f q7))
     refine aw_skip ?_
     refine aw_region ?_
     obtain ⟨q8, h⟩ := h
     refine run_s (ss_add rfl rfl q8) rfl ?_
     refine run_s (ss_move rfl) rfl ?_
     refine run_nil ?_
     exact ⟨v13_1 + 1, ghe_to (n := 39) rfl rfl ⟨rfl, rfl, rfl, rfl, rfl, rfl, trivial⟩, h.1, h.2⟩
  ·replace h := h.2 (of_decide_eq_false q2)
   refine aw_exit ?_
   refine aw_seq ?_
   refine aw_seq ?_
   refine aw_region ?_
   refine run_s (ss_move rfl) rfl ?_
   refine run_s (ss_lenL (f := (fun r => C.lst (ints r))) rfl) rfl ?_
   refine run_s (ss_move rfl) rfl ?_
   refine run_s (ss_lenL (f := (fun r => C.lst (ints r))) rfl) rfl ?_
   refine run_s (ss_lss rfl rfl) rfl ?_
   refine run_nil ?_
   refine aw_cond rfl (fun q9 => ?_) (fun q9 => ?_)
   ·replace h := h.1 (of_decide_eq_true q9)
    refine aw_seq ?_
    refine aw_gh (gh_to (n := 39) (σ' := []) (env' := []) rfl rfl trivial) ?_
    refine aw_region ?_
    refine run_s (ss_assign rfl) rfl ?_
    refine run_nil ?_
    refine aw_ret ?_
    exact retAF_mk (retv1 rfl (rv_tmp rfl)) rfl rfl ⟨_, (cle_refl _), _, h, rfl⟩
   ·replace h := h.2 (of_decide_eq_false q9)
    refine aw_skip ?_
    refine aw_seq ?_
    refine aw_gh (gh_to (n := 39) (σ' := []) (env' := []) rfl rfl trivial) ?_
    refine aw_region ?_
    refine run_s (ss_assign rfl) rfl ?_
    refine run_nil ?_
    refine aw_ret ?_
    exact retAF_mk (retv1 rfl (rv_tmp rfl)) rfl rfl ⟨_, (cle_refl _), _, h, rfl⟩

theorem c_slices_CompareFunc_____int64_____int64___int64___int64_ (s1 : List (List Int)) (s2 : List (List Int)) (cmp_g : Nat) (cmp_c : List C) (cmp : List Int → List Int → Int) (cmp_D : List Int → List Int → Prop) (cmp_h : ∀ x0 x1, cmp_D x0 x1 → AF Try.prog cmp_g ([.lst (ints x0), .lst (ints x1)] ++ cmp_c) (fun R_ => R_ = ci (cmp x0 x1))) (hp : small2 s1 ∧ small2 s2 ∧ ∀ x_ y_ : List Int, small x_ → small y_ → cmp_D x_ y_) : AF Try.prog 128 [.lst (rows s1), .lst (rows s2), .clo cmp_g cmp_c] (fun R_ => R_ = ci (cmpG cmp s1 s2)) :=
  (w_slices_CompareFunc_____int64_____int64___int64___int64_ s1 s2 cmp_g cmp_c cmp cmp_D cmp_h (fun y0 => y0 = cmpG cmp s1 s2) (p_slices_CompareFunc_____int64_____int64___int64___int64_ s1 s2 cmp cmp_D hp)).mono (by rintro r ⟨_, rfl, rfl⟩; rfl)

set_option maxRecDepth 100000 in
set_option maxHeartbeats 4000000 in
theorem w_impl_compareTables_1 (a : List Int) (b : List Int) (Q : Int → Prop) (h : wp_impl_compareTables_1 a b Q) : AF Try.prog 129 [.lst (ints a), .lst (ints b)] (fun R_ => ∃ y0, Q y0 ∧ R_ = ci y0) := by
  refine AF.ofWQ (af_enter (n := 8) Try.func129 rfl (by rfl) rfl (Nat.le_of_ble_eq_true rfl) ?_)
  unfold wp_impl_compareTables_1 at h
  refine aw_seq ?_
  refine aw_gh (gh_to (n := 8) (σ' := []) (env' := [(0, .c (.lst (ints a))), (1, .c (.lst (ints b)))]) rfl rfl ⟨rfl, rfl, trivial⟩) ?_
  refine aw_region ?_
  refine run_s (ss_assign rfl) rfl ?_
  refine run_nil ?_
  refine aw_seq ?_
  refine aw_region ?_
  refine run_s (ss_move rfl) rfl ?_
  refine run_s (ss_move rfl) rfl ?_
  obtain ⟨q1, h⟩ := h
  refine run_w (ws_call (xs := [.tmp 5, .tmp 6]) (ids := []) rfl rfl rfl rfl (c_slices_Compare___int64_int64_ a b q1) rfl ?_ )
  rintro _ rfl
  refine ⟨rfl, ?_⟩
  refine run_s (ss_assign rfl) rfl ?_
  refine run_nil ?_
  refine aw_ret ?_
  exact retAF_mk (retv1 rfl (rv_tmp rfl)) rfl rfl ⟨_, (cle_refl _), _, h, rfl⟩

theorem c_impl_compareTables_1 (a : List Int) (b : List Int) (hp : small a ∧ small b) : AF Try.prog 129 [.lst (ints a), .lst (ints b)] (fun R_ => R_ = ci (cmpG cmp1 a b)) :=
  (w_impl_compareTables_1 a b (fun y0 => y0 = cmpG cmp1 a b) (p_impl_compareTables_1 a b hp)).mono (by rintro r ⟨_, rfl, rfl⟩; rfl)

set_option maxRecDepth 100000 in
set_option maxHeartbeats 4000000 in
theorem w_impl_compareTables (s : List (List Int)) (t : List (List Int)) (Q : Int → Prop) (h : wp_impl_compareTables s t Q) : AF Try.prog 85 [.lst (rows s), .lst (rows t)] (fun R_ => ∃ y0, Q y0 ∧ R_ = ci y0) := by
  refine AF.ofWQ (af_enter (n := 8) Try.func85 rfl (by rfl) rfl (Nat.le_of_ble_eq_true rfl) ?_)
  unfold wp_impl_compareTables at h
  refine aw_seq ?_
  refine aw_gh (gh_to (n := 8) (σ' := []) (env' := [(0, .c (.lst (rows s))), (1, .c (.lst (rows t)))]) rfl rfl ⟨rfl, rfl, trivial⟩) ?_
  refine aw_region ?_
  refine run_s (ss_assign rfl) rfl ?_
  refine run_nil ?_
  refine aw_seq ?_
  refine aw_region ?_
  refine run_s (ss_move rfl) rfl ?_
  refine run_s (ss_move rfl) rfl ?_
  obtain ⟨q1, h⟩ := h
  refine run_w (ws_call (xs := [.tmp 5, .tmp 6, .func 129]) (ids := []) rfl rfl rfl rfl (c_slices_CompareFunc_____int64_____int64___int64___int64_ s t 129 [] (fun z0 z1 => cmpG cmp1 z0 z1) (fun z0 z1 => small z0 ∧ small z1) (fun z0 z1 hD => c_impl_compareTables_1 z0 z1 hD) q1) rfl ?_ )
  rintro _ rfl
  refine ⟨rfl, ?_⟩
  refine run_s (ss_assign rfl) rfl ?_
  refine run_nil ?_
  refine aw_ret ?_
  exact retAF_mk (retv1 rfl (rv_tmp rfl)) rfl rfl ⟨_, (cle_refl _), _, h, rfl⟩

theorem c_impl_compareTables (s : List (List Int)) (t : List (List Int)) (hp : small2 s ∧ small2 t) : AF Try.prog 85 [.lst (rows s), .lst (rows t)] (fun R_ => R_ = ci (cmpT s t)) :=
  (w_impl_compareTables s t (fun y0 => y0 = cmpT s t) (p_impl_compareTables s t hp)).mono (by rintro r ⟨_, rfl, rfl⟩; rfl)

set_option maxRecDepth 100000 in
set_option maxHeartbeats 4000000 in
theorem w_spec_l01Less (a : List Int) (b : List Int) (Q : Bool → Prop) (h : wp_spec_l01Less a b Q) : AF Try.prog 107 [.lst (ints a), .lst (ints b)] (fun R_ => ∃ y0, Q y0 ∧ R_ = cb y0) := by
  refine AF.ofWQ (af_enter (n := 41) Try.func107 rfl (by rfl) rfl (Nat.le_of_ble_eq_true rfl) ?_)
  unfold wp_spec_l01Less at h
  refine aw_seq ?_
  refine aw_gh (gh_to (n := 41) (σ' := []) (env' := [(0, .c (.lst (ints a))), (1, .c (.lst (ints b)))]) rfl rfl ⟨rfl, rfl, trivial⟩) ?_
  refine aw_region ?_
  refine run_s (ss_assign rfl) rfl ?_
  refine run_nil ?_
  refine aw_seq ?_
  refine aw_seq ?_
  refine aw_region ?_
  refine run_s (ss_assign rfl) rfl ?_
  refine run_nil ?_
  refine aw_block ?_
  obtain ⟨H1, m1, q1, h⟩ := h
  refine aw_loop1 (fun (v5_1 : Int) => ⟨[], [(0, .c (.lst (ints a))), (1, .c (.lst (ints b))), (5, .c (ci v5_1))], 41⟩) H1 m1 ⟨0, ghe_to (n := 41) rfl rfl ⟨rfl, rfl, rfl, trivial⟩, q1⟩ ?_
  rintro v5_1 q1
  replace h := h v5_1 q1
  refine aw_seq ?_
  refine aw_seq ?_
  refine aw_region ?_
  refine run_s (ss_move rfl) rfl ?_
  refine run_s (ss_move rfl) rfl ?_
  refine run_s (ss_lenL (f := ci) rfl) rfl ?_
  refine run_s (ss_lss rfl rfl) rfl ?_
  refine run_s (ss_move rfl) rfl ?_
  refine run_split (s := 10) rfl (fun q2 => ?_) (fun q2 => ?_)
  ·replace h := h.1 (of_decide_eq_true q2)
   refine run_gt rfl rfl q2 ?_
   refine run_s (ss_move rfl) rfl ?_
   refine run_gt rfl rfl q2 ?_
   refine run_s (ss_move rfl) rfl ?_
   refine run_gt rfl rfl q2 ?_
   refine run_s (ss_lenL (f := ci) rfl) rfl ?_
   refine run_gt rfl rfl q2 ?_
   refine run_s (ss_lss rfl rfl) rfl ?_
   refine run_s (ss_pickT rfl q2 rfl) rfl ?_
   refine run_nil ?_
   refine aw_cond rfl (fun q3 => ?_) (fun q3 => ?_)
   ·replace h := h.1 (of_decide_eq_true q3)
    refine aw_skip ?_
    refine aw_seq ?_
    refine aw_block ?_
    refine aw_seq ?_
    refine aw_gh (gh_to (n := 41) (σ' := []) (env' := [(0, .c (.lst (ints a))), (1, .c (.lst (ints b))), (5, .c (ci v5_1)), (11, .c (ci v5_1)), (12, .c (.lst (ints b))), (13, .c (ci (b.length : Int))), (14, .c (cb (decide (v5_1 < (b.length : Int)))))]) rfl rfl ⟨rfl, rfl, rfl, rfl, rfl, rfl, rfl, trivial⟩) ?_
    refine aw_regionD (kd := kdl [0, 0, 0, 1, 0, 0, 0, 1, 0]) (ord := [0, 1, 2, 4, 5, 6, 3, 7, 8]) [] mixed (by kernel_rfl) ?_
    refine rd_s rfl rfl trivial (ss_move rfl) rfl ?_
    refine rd_s rfl rfl trivial (ss_move rfl) rfl ?_
    obtain ⟨q4, h⟩ := h
    refine rd_s rfl rfl trivial (ss_idxL rfl rfl q4) rfl ?_
    refine rd_s rfl rfl trivial (ss_move rfl) rfl ?_
    refine rd_s rfl rfl trivial (ss_move rfl) rfl ?_
    obtain ⟨q5, h⟩ := h
    refine rd_s rfl rfl trivial (ss_idxL rfl rfl q5) rfl ?_
    refine rd_l rfl rfl trivial (ss_loadL (f := ci) rfl q4) rfl ?_
    refine rd_l rfl rfl trivial (ss_loadL (f := ci) rfl q5) rfl ?_
    refine rd_s rfl rfl trivial (ss_neq rfl rfl) rfl ?_
    refine rd_nil ?_
    refine aw_cond rfl (fun q6 => ?_) (fun q6 => ?_)
    ·replace h := h.1 (of_decide_eq_false (bnot_t q6))
     refine aw_seq ?_
     refine aw_gh (gh_to (n := 41) (σ' := []) (env' := [(0, .c (.lst (ints a))), (1, .c (.lst (ints b))), (5, .c (ci v5_1))]) rfl rfl ⟨rfl, rfl, rfl, trivial⟩) ?_
     refine aw_regionD (kd := kdl [0, 0, 0, 1, 0, 0, 0, 1, 0, 0]) (ord := [0, 1, 2, 4, 5, 6, 3, 7, 8, 9]) [] mixed (by kernel_rfl) ?_
     refine rd_s rfl rfl trivial (ss_move rfl) rfl ?_
     refine rd_s rfl rfl trivial (ss_move rfl) rfl ?_
     obtain ⟨q7, h⟩ := h
     refine rd_s rfl rfl trivial (ss_idxL rfl rfl q7) rfl ?_
     refine rd_s rfl rfl trivial (ss_move rfl) rfl ?_
     refine rd_s rfl rfl trivial (ss_move rfl) rfl ?_
     obtain ⟨q8, h⟩ := h
     refine rd_s rfl rfl trivial (ss_idxL rfl rfl q8) rfl ?_
     refine rd_l rfl rfl trivial (ss_loadL (f := ci) rfl q7) rfl ?_
     refine rd_l rfl rfl trivial (ss_loadL (f := ci) rfl q8) rfl ?_
     refine rd_s rfl rfl trivial (ss_lss rfl rfl) rfl ?_
     refine rd_s rfl rfl trivial (ss_assign rfl) rfl ?_
     refine rd_nil ?_
     refine aw_ret ?_
     exact retAF_mk (retv1 rfl (rv_tmp rfl)) rfl rfl ⟨_, (cle_refl _), _, h, rfl⟩
    ·replace h := h.2 (of_decide_eq_true (bnot_f q6))
     refine aw_skip ?_
     refine aw_gh (gh_to (n := 41) (σ' := []) (env' := [(0, .c (.lst (ints a))), (1, .c (.lst (ints b))), (5, .c (ci v5_1)), (11, .c (ci v5_1)), (12, .c (.lst (ints b))), (13, .c (ci (b.length : Int))), (14, .c (cb (decide (v5_1 < (b.length : Int)))))]) rfl rfl ⟨rfl, rfl, rfl, rfl, rfl, rfl, rfl, trivial⟩) ?_
     refine aw_region ?_
     refine run_s (ss_move rfl) rfl ?_
     obtain ⟨q9, h⟩ := h
     refine run_s (ss_add rfl rfl q9) rfl ?_
     refine run_s (ss_assign rfl) rfl ?_
     refine run_nil ?_
     exact ⟨v5_1 + 1, ghe_to (n := 41) rfl rfl ⟨rfl, rfl, rfl, trivial⟩, h.1, h.2⟩
   ·replace h := h.2 (of_decide_eq_false q3)
    refine aw_exit ?_
    refine aw_seq ?_
    refine aw_gh (gh_to (n := 41) (σ' := []) (env' := [(0, .c (.lst (ints a))), (1, .c (.lst (ints b)))]) rfl rfl ⟨rfl, rfl, trivial⟩) ?_
    refine aw_region ?_
    refine run_s (ss_move rfl) rfl ?_
    refine run_s (ss_lenL (f := ci) rfl) rfl ?_
    refine run_s (ss_move rfl) rfl ?_
    refine run_s (ss_lenL (f := ci) rfl) rfl ?_
    refine run_s (ss_lss rfl rfl) rfl ?_
    refine run_s (ss_assign rfl) rfl ?_
    refine run_nil ?_
    refine aw_ret ?_
    exact retAF_mk (retv1 rfl (rv_tmp rfl)) rfl rfl ⟨_, (cle_refl _), _, h, rfl⟩
  ·replace h := h.2 (of_decide_eq_false q2)
   refine run_gf rfl rfl q2 rfl ?_
   refine run_gf rfl rfl q2 rfl ?_
   refine run_gf rfl rfl q2 rfl ?_
   refine run_gf rfl rfl q2 rfl ?_
   refine run_s (ss_pickF rfl q2 rfl) rfl ?_
   refine run_nil ?_
   refine aw_cond rfl (fun q10 => ?_) (fun q10 => ?_)
   ·cases q10
   ·skip
    refine aw_exit ?_
    refine aw_seq ?_
    refine aw_gh (gh_to (n := 41) (σ' := []) (env' := [(0, .c (.lst (ints a))), (1, .c (.lst (ints b)))]) rfl rfl ⟨rfl, rfl, trivial⟩) ?_
    refine aw_region ?_
    refine run_s (ss_move rfl) rfl ?_
    refine run_s (ss_lenL (f := ci) rfl) rfl ?_
    refine run_s (ss_move rfl) rfl ?_
    refine run_s (ss_lenL (f := ci) rfl) rfl ?_
    refine run_s (ss_lss rfl rfl) rfl ?_
    refine run_s (ss_assign rfl) rfl ?_
    refine run_nil ?_
    refine aw_ret ?_
    exact retAF_mk (retv1 rfl (rv_tmp rfl)) rfl rfl ⟨_, (cle_refl _), _, h, rfl⟩

theorem c_spec_l01Less (a : List Int) (b : List Int) (hp : small a ∧ small b) : AF Try.prog 107 [.lst (ints a), .lst (ints b)] (fun R_ => R_ = cb (decide (cmpG cmp1 a b < 0))) :=
  (w_spec_l01Less a b (fun y0 => y0 = decide (cmpG cmp1 a b < 0)) (p_spec_l01Less a b hp)).mono (by rintro r ⟨_, rfl, rfl⟩; rfl)

set_option maxRecDepth 100000 in
set_option maxHeartbeats 4000000 in
theorem w_spec_l01Less2 (a : List (List Int)) (b : List (List Int)) (Q : Bool → Prop) (h : wp_spec_l01Less2 a b Q) : AF Try.prog 82 [.lst (rows a), .lst (rows b)] (fun R_ => ∃ y0, Q y0 ∧ R_ = cb y0) := by
  refine AF.ofWQ (af_enter (n := 42) Try.func82 rfl (by rfl) rfl (Nat.le_of_ble_eq_true rfl) ?_)
  unfold wp_spec_l01Less2 at h
  refine aw_seq ?_
  refine aw_gh (gh_to (n := 42) (σ' := []) (env' := [(0, .c (.lst (rows a))), (1, .c (.lst (rows b)))]) rfl rfl ⟨rfl, rfl, trivial⟩) ?_
  refine aw_region ?_
  refine run_s (ss_assign rfl) rfl ?_
  refine run_nil ?_
  refine aw_seq ?_
  refine aw_seq ?_
  refine aw_region ?_
  refine run_s (ss_assign rfl) rfl ?_
  refine run_nil ?_
  refine aw_block ?_
  obtain ⟨H1, m1, q1, h⟩ := h
  refine aw_loop1 (fun (v5_1 : Int) => ⟨[], [(0, .c (.lst (rows a))), (1, .c (.lst (rows b))), (5, .c (ci v5_1))], 42⟩) H1 m1 ⟨0, ghe_to (n := 42) rfl rfl ⟨rfl, rfl, rfl, trivial⟩, q1⟩ ?_
  rintro v5_1 q1
  replace h := h v5_1 q1
  refine aw_seq ?_
  refine aw_seq ?_
  refine aw_region ?_
  refine run_s (ss_move rfl) rfl ?_
  refine run_s (ss_move rfl) rfl ?_
  refine run_s (ss_lenL (f := (fun r => C.lst (ints r))) rfl) rfl ?_
  refine run_s (ss_lss rfl rfl) rfl ?_
  refine run_s (ss_move rfl) rfl ?_
  refine run_split (s := 10) rfl (fun q2 => ?_) (fun q2 => ?_)
  ·replace h := h.1 (of_decide_eq_true q2)
   refine run_gt rfl rfl q2 ?_
   refine run_s (ss_move rfl) rfl ?_
   refine run_gt rfl rfl q2 ?_
   refine run_s (ss_move rfl) rfl ?_
   refine run_gt rfl rfl q2 ?_
   refine run_s (ss_lenL (f := (fun r => C.lst (ints r))) rfl) rfl ?_
   refine run_gt rfl rfl q2 ?_
   refine run_s (ss_lss rfl rfl) rfl ?_
   refine run_s (ss_pickT rfl q2 rfl) rfl ?_
   refine run_nil ?_
   refine aw_cond rfl (fun q3 => ?_) (fun q3 => ?_)
   ·replace h := h.1 (of_decide_eq_true q3)
    refine aw_skip ?_
    refine aw_seq ?_
    refine aw_block ?_
    refine aw_seq ?_
    refine aw_gh (gh_to (n := 42) (σ' := []) (env' := [(0, .c (.lst (rows a))), (1, .c (.lst (rows b))), (5, .c (ci v5_1)), (11, .c (ci v5_1)), (12, .c (.lst (rows b))), (13, .c (ci (b.length : Int))), (14, .c (cb (decide (v5_1 < (b.length : Int)))))]) rfl rfl ⟨rfl, rfl, rfl, rfl, rfl, rfl, rfl, trivial⟩) ?_
    refine aw_regionD (kd := kdl [0, 0, 0, 1, 0, 0, 0, 1, 2, 0]) (ord := [0, 1, 2, 4, 5, 6, 3, 7, 8, 9]) [] mixed (by kernel_rfl) ?_
    refine rd_s rfl rfl trivial (ss_move rfl) rfl ?_
    refine rd_s rfl rfl trivial (ss_move rfl) rfl ?_
    obtain ⟨q4, h⟩ := h
    refine rd_s rfl rfl trivial (ss_idxL rfl rfl q4) rfl ?_
    refine rd_s rfl rfl trivial (ss_move rfl) rfl ?_
    refine rd_s rfl rfl trivial (ss_move rfl) rfl ?_
    obtain ⟨q5, h⟩ := h
    refine rd_s rfl rfl trivial (ss_idxL rfl rfl q5) rfl ?_
    refine rd_l rfl rfl trivial (ss_loadL (f := (fun r => C.lst (ints r))) rfl q4) rfl ?_
    refine rd_l rfl rfl trivial (ss_loadL (f := (fun r => C.lst (ints r))) rfl q5) rfl ?_
    obtain ⟨q6, h⟩ := h
    refine rd_w rfl rfl trivial rfl rfl (ws_call (xs := [.tmp 21, .tmp 25]) (ids := []) rfl rfl rfl rfl (c_spec_l01Same (el a v5_1) (el b v5_1) q6) rfl ?_ )
    rintro _ rfl
    refine ⟨rfl, ?_⟩
    refine rd_s rfl rfl trivial (ss_not rfl) rfl ?_
    refine rd_nil ?_
    refine aw_cond rfl (fun q8 => ?_) (fun q8 => ?_)
    ·replace h := h.1 (of_decide_eq_false (bnot_t q8))
     refine aw_seq ?_
     refine aw_gh (gh_to (n := 42) (σ' := []) (env' := [(0, .c (.lst (rows a))), (1, .c (.lst (rows b))), (5, .c (ci v5_1))]) rfl rfl ⟨rfl, rfl, rfl, trivial⟩) ?_
     refine aw_regionD (kd := kdl [0, 0, 0, 1, 0, 0, 0, 1, 2, 0]) (ord := [0, 1, 2, 4, 5, 6, 3, 7, 8, 9]) [] mixed (by kernel_rfl) ?_
     refine rd_s rfl rfl trivial (ss_move rfl) rfl ?_
     refine rd_s rfl rfl trivial (ss_move rfl) rfl ?_
     obtain ⟨q9, h⟩ := h
     refine rd_s rfl rfl trivial (ss_idxL rfl rfl q9) rfl ?_
     refine rd_s rfl rfl trivial (ss_move rfl) rfl ?_
     refine rd_s rfl rfl trivial (ss_move rfl) rfl ?_
     obtain ⟨q10, h⟩ := h
     refine rd_s rfl rfl trivial (ss_idxL rfl rfl q10) rfl ?_
     refine rd_l rfl rfl trivial (ss_loadL (f := (fun r => C.lst (ints r))) rfl q9) rfl ?_
     refine rd_l rfl rfl trivial (ss_loadL (f := (fun r => C.lst (ints r))) rfl q10) rfl ?_
     obtain ⟨q11, h⟩ := h
     refine rd_w rfl rfl trivial rfl rfl (ws_call (xs := [.tmp 31, .tmp 35]) (ids := []) rfl rfl rfl rfl (c_spec_l01Less (el a v5_1) (el b v5_1) q11) rfl ?_ )
     rintro _ rfl
     refine ⟨rfl, ?_⟩
     refine rd_s rfl rfl trivial (ss_assign rfl) rfl ?_
     refine rd_nil ?_
     refine aw_ret ?_
     exact retAF_mk (retv1 rfl (rv_tmp rfl)) rfl rfl ⟨_, (cle_refl _), _, h, rfl⟩
    ·replace h := h.2 (of_decide_eq_true (bnot_f q8))
     refine aw_skip ?_
     refine aw_gh (gh_to (n := 42) (σ' := []) (env' := [(0, .c (.lst (rows a))), (1, .c (.lst (rows b))), (5, .c (ci v5_1)), (11, .c (ci v5_1)), (12, .c (.lst (rows b))), (13, .c (ci (b.length : Int))), (14, .c (cb (decide (v5_1 < (b.length : Int)))))]) rfl rfl ⟨rfl, rfl, rfl, rfl, rfl, rfl, rfl, trivial⟩) ?_
     refine aw_region ?_
     refine run_s (ss_move rfl) rfl ?_
     obtain ⟨q13, h⟩ := h
     refine run_s (ss_add rfl rfl q13) rfl ?_
     refine run_s (ss_assign rfl) rfl ?_
     refine run_nil ?_
     exact ⟨v5_1 + 1, ghe_to (n := 42) rfl rfl ⟨rfl, rfl, rfl, trivial⟩, h.1, h.2⟩
   ·replace h := h.2 (of_decide_eq_false q3)
    refine aw_exit ?_
    refine aw_seq ?_
    refine aw_gh (gh_to (n := 42) (σ' := []) (env' := [(0, .c (.lst (rows a))), (1, .c (.lst (rows b)))]) rfl rfl ⟨rfl, rfl, trivial⟩) ?_
    refine aw_region ?_
    refine run_s (ss_move rfl) rfl ?_
    refine run_s (ss_lenL (f := (fun r => C.lst (ints r))) rfl) rfl ?_
    refine run_s (ss_move rfl) rfl ?_
    refine run_s (ss_lenL (f := (fun r => C.lst (ints r))) rfl) rfl ?_
    refine run_s (ss_lss rfl rfl) rfl ?_
    refine run_s (ss_assign rfl) rfl ?_
    refine run_nil ?_
    refine aw_ret ?_
    exact retAF_mk (retv1 rfl (rv_tmp rfl)) rfl rfl ⟨_, (cle_refl _), _, h, rfl⟩
  ·replace h := h.2 (of_decide_eq_false q2)
   refine run_gf rfl rfl q2 rfl ?_
   refine run_gf rfl rfl q2 rfl ?_
   refine run_gf rfl rfl q2 rfl ?_
   refine run_gf rfl rfl q2 rfl ?_
   refine run_s (ss_pickF rfl q2 rfl) rfl ?_
   refine run_nil ?_
   refine aw_cond rfl (fun q14 => ?_) (fun q14 => ?_)
   ·cases q14
   ·skip
    refine aw_exit ?_
    refine aw_seq ?_
    refine aw_gh (gh_to (n := 42) (σ' := []) (env' := [(0, .c (.lst (rows a))), (1, .c (.lst (rows b)))]) rfl rfl ⟨rfl, rfl, trivial⟩) ?_
    refine aw_region ?_
    refine run_s (ss_move rfl) rfl ?_
    refine run_s (ss_lenL (f := (fun r => C.lst (ints r))) rfl) rfl ?_
    refine run_s (ss_move rfl) rfl ?_
    refine run_s (ss_lenL (f := (fun r => C.lst (ints r))) rfl) rfl ?_
    refine run_s (ss_lss rfl rfl) rfl ?_
    refine run_s (ss_assign rfl) rfl ?_
    refine run_nil ?_
    refine aw_ret ?_
    exact retAF_mk (retv1 rfl (rv_tmp rfl)) rfl rfl ⟨_, (cle_refl _), _, h, rfl⟩

theorem c_spec_l01Less2 (a : List (List Int)) (b : List (List Int)) (hp : small2 a ∧ small2 b) : AF Try.prog 82 [.lst (rows a), .lst (rows b)] (fun R_ => R_ = cb (decide (cmpT a b < 0))) :=
  (w_spec_l01Less2 a b (fun y0 => y0 = decide (cmpT a b < 0)) (p_spec_l01Less2 a b hp)).mono (by rintro r ⟨_, rfl, rfl⟩; rfl)

set_option maxRecDepth 100000 in
set_option maxHeartbeats 4000000 in
theorem w_impl_nextPermutation (p : List Int) (Q : Bool → List Int → Prop) (h : wp_impl_nextPermutation p Q) : AM Try.prog 111 [.own (ints p)] (fun R_ O_ => ∃ y0 w0, Q y0 w0 ∧ R_ = cb y0 ∧ O_ = [.own (ints w0)]) := by
  refine am_enter (n := 59) (m := 1) Try.func111 rfl (by rfl) rfl rfl (Nat.le_of_ble_eq_true rfl) [800] rfl ?_
  unfold wp_impl_nextPermutation at h
  refine aw_seq ?_
  refine aw_gh (gh_to (n := 59) (σ' := [(800, ⟨ints p, []⟩)]) (env' := [(0, .ref 800), (59, .ref 800)]) rfl rfl ⟨rfl, rfl, trivial⟩) ?_
  refine aw_region ?_
  refine run_s (ss_assign rfl) rfl ?_
  refine run_nil ?_
  refine aw_seq ?_
  refine aw_region ?_
  refine run_s (ss_move rfl) rfl ?_
  refine run_s (ss_lenR (f := ci) rfl rfl) rfl ?_
  obtain ⟨q1, h⟩ := h
  refine run_s (ss_sub rfl rfl q1) rfl ?_
  refine run_s (ss_assign rfl) rfl ?_
  refine run_nil ?_
  refine aw_seq ?_
  refine aw_block ?_
  obtain ⟨H1, m1, q2, h⟩ := h
  refine aw_loop1 (fun (v3_1 : Int) => ⟨[(800, ⟨ints p, []⟩)], [(0, .ref 800), (3, .c (ci v3_1)), (59, .ref 800)], 59⟩) H1 m1 ⟨(p.length : Int) - 2, ghe_to (n := 59) rfl rfl ⟨rfl, rfl, rfl, trivial⟩, q2⟩ ?_
  rintro v3_1 q2
  replace h := h v3_1 q2
  refine aw_seq ?_
  refine aw_seq ?_
  refine aw_gh (gh_to (n := 59) (σ' := [(800, ⟨ints p, []⟩)]) (env' := [(0, .ref 800), (3, .c (ci v3_1)), (59, .ref 800)]) rfl rfl ⟨rfl, rfl, rfl, trivial⟩) ?_
  refine aw_regionD (kd := kdl [0, 0, 0, 0, 0, 0, 1, 0, 0, 0, 0, 1, 0, 0]) (ord := [0, 1, 2, 3, 4, 5, 7, 8, 9, 10, 6, 11, 12, 13]) [] mixed (by kernel_rfl) ?_
  refine rd_s rfl rfl trivial (ss_move rfl) rfl ?_
  refine rd_s rfl rfl trivial (ss_geq rfl rfl) rfl ?_
  refine rd_s rfl rfl trivial (ss_move rfl) rfl ?_
  refine rd_split (s := 10) rfl (fun q3 => ?_) (fun q3 => ?_)
  ·replace h := h.1 (of_decide_eq_true q3)
   refine rd_s rfl rfl ⟨_, _, rfl, rfl, q3⟩ (ss_move rfl) rfl ?_
   refine rd_s rfl rfl ⟨_, _, rfl, rfl, q3⟩ (ss_move rfl) rfl ?_
   obtain ⟨q4, h⟩ := h
   refine rd_s rfl rfl ⟨_, _, rfl, rfl, q3⟩ (ss_idxR (f := ci) rfl rfl rfl q4) rfl ?_
   refine rd_s rfl rfl ⟨_, _, rfl, rfl, q3⟩ (ss_move rfl) rfl ?_
   refine rd_s rfl rfl ⟨_, _, rfl, rfl, q3⟩ (ss_move rfl) rfl ?_
   obtain ⟨q5, h⟩ := h
   refine rd_s rfl rfl ⟨_, _, rfl, rfl, q3⟩ (ss_add rfl rfl q5) rfl ?_
   obtain ⟨q6, h⟩ := h
   refine rd_s rfl rfl ⟨_, _, rfl, rfl, q3⟩ (ss_idxR (f := ci) rfl rfl rfl q6) rfl ?_
   refine rd_l rfl rfl ⟨_, _, rfl, rfl, q3⟩ (ss_loadR (f := ci) rfl rfl q4 rfl rfl) rfl ?_
   refine rd_l rfl rfl ⟨_, _, rfl, rfl, q3⟩ (ss_loadR (f := ci) rfl rfl q6 rfl rfl) rfl ?_
   refine rd_s rfl rfl ⟨_, _, rfl, rfl, q3⟩ (ss_gtr rfl rfl) rfl ?_
   refine rd_s rfl rfl trivial (ss_pickT rfl q3 rfl) rfl ?_
   refine rd_nil ?_
   refine aw_cond rfl (fun q7 => ?_) (fun q7 => ?_)
   ·replace h := h.1 (of_decide_eq_true q7)
    refine aw_skip ?_
    refine aw_block ?_
    refine aw_gh (gh_to (n := 59) (σ' := [(800, ⟨ints p, []⟩)]) (env' := [(0, .ref 800), (3, .c (ci v3_1)), (11, .ref 800), (12, .c (ci v3_1)), (13, .cell 800 v3_1.toNat), (14, .c (ci (el p v3_1))), (15, .ref 800), (16, .c (ci v3_1)), (17, .c (ci (v3_1 + 1))), (18, .cell 800 (v3_1 + 1).toNat), (19, .c (ci (el p (v3_1 + 1)))), (20, .c (cb (decide (el p (v3_1 + 1) < el p v3_1)))), (59, .ref 800)]) rfl rfl ⟨rfl, rfl, rfl, rfl, rfl, rfl, rfl, rfl, rfl, rfl, rfl, rfl, rfl, trivial⟩) ?_
    refine aw_region ?_
    refine run_s (ss_move rfl) rfl ?_
    obtain ⟨q8, h⟩ := h
    refine run_s (ss_sub rfl rfl q8) rfl ?_
    refine run_s (ss_assign rfl) rfl ?_
    refine run_nil ?_
    exact ⟨v3_1 - 1, ghe_to (n := 59) rfl rfl ⟨rfl, rfl, rfl, trivial⟩, h.1, h.2⟩
   ·replace h := h.2 (of_decide_eq_false q7)
    refine aw_exit ?_
    refine aw_seq ?_
    refine aw_seq ?_
    refine aw_gh (gh_to (n := 59) (σ' := [(800, ⟨ints p, []⟩)]) (env' := [(0, .ref 800), (3, .c (ci v3_1)), (59, .ref 800)]) rfl rfl ⟨rfl, rfl, rfl, trivial⟩) ?_
    refine aw_region ?_
    refine run_s (ss_move rfl) rfl ?_
    refine run_s (ss_lss rfl rfl) rfl ?_
    refine run_nil ?_
    refine aw_cond rfl (fun q9 => ?_) (fun q9 => ?_)
    ·replace h := h.1 (of_decide_eq_true q9)
     refine aw_seq ?_
     refine aw_gh (gh_to (n := 59) (σ' := [(800, ⟨ints p, []⟩)]) (env' := [(59, .ref 800)]) rfl rfl ⟨rfl, trivial⟩) ?_
     refine aw_region ?_
     refine run_s (ss_assign rfl) rfl ?_
     refine run_nil ?_
     refine aw_ret ?_
     exact retAM_mk (retv1 rfl (rv_tmp rfl)) rfl rfl rfl ⟨_, _, h, rfl, rfl⟩
    ·replace h := h.2 (of_decide_eq_false q9)
     refine aw_skip ?_
     refine aw_seq ?_
     refine aw_region ?_
     refine run_s (ss_move rfl) rfl ?_
     refine run_s (ss_lenR (f := ci) rfl rfl) rfl ?_
     obtain ⟨q10, h⟩ := h
     refine run_s (ss_sub rfl rfl q10) rfl ?_
     refine run_s (ss_assign rfl) rfl ?_
     refine run_nil ?_
     refine aw_seq ?_
     refine aw_block ?_
     obtain ⟨H2, m2, q11, h⟩ := h
     refine aw_loop1 (fun (v4_2 : Int) => ⟨[(800, ⟨ints p, []⟩)], [(0, .ref 800), (3, .c (ci v3_1)), (4, .c (ci v4_2)), (59, .ref 800)], 59⟩) H2 m2 ⟨(p.length : Int) - 1, ghe_to (n := 59) rfl rfl ⟨rfl, rfl, rfl, rfl, trivial⟩, q11⟩ ?_
     rintro v4_2 q11
     replace h := h v4_2 q11
     refine aw_seq ?_
     refine aw_seq ?_
     refine aw_gh (gh_to (n := 59) (σ' := [(800, ⟨ints p, []⟩)]) (env' := [(0, .ref 800), (3, .c (ci v3_1)), (4, .c (ci v4_2)), (59, .ref 800)]) rfl rfl ⟨rfl, rfl, rfl, rfl, trivial⟩) ?_
     refine aw_regionD (kd := kdl [0, 0, 0, 1, 0, 0, 0, 1, 0]) (ord := [0, 1, 2, 4, 5, 6, 3, 7, 8]) [] mixed (by kernel_rfl) ?_
     refine rd_s rfl rfl trivial (ss_move rfl) rfl ?_
     refine rd_s rfl rfl trivial (ss_move rfl) rfl ?_
     obtain ⟨q12, h⟩ := h
     refine rd_s rfl rfl trivial (ss_idxR (f := ci) rfl rfl rfl q12) rfl ?_
     refine rd_s rfl rfl trivial (ss_move rfl) rfl ?_
     refine rd_s rfl rfl trivial (ss_move rfl) rfl ?_
     obtain ⟨q13, h⟩ := h
     refine rd_s rfl rfl trivial (ss_idxR (f := ci) rfl rfl rfl q13) rfl ?_
     refine rd_l rfl rfl trivial (ss_loadR (f := ci) rfl rfl q12 rfl rfl) rfl ?_
     refine rd_l rfl rfl trivial (ss_loadR (f := ci) rfl rfl q13 rfl rfl) rfl ?_
     refine rd_s rfl rfl trivial (ss_lss rfl rfl) rfl ?_
     refine rd_nil ?_
     refine aw_cond rfl (fun q14 => ?_) (fun q14 => ?_)
     ·replace h := h.1 (of_decide_eq_true q14)
      refine aw_skip ?_
      refine aw_block ?_
      refine aw_gh (gh_to (n := 59) (σ' := [(800, ⟨ints p, []⟩)]) (env' := [(0, .ref 800), (3, .c (ci v3_1)), (4, .c (ci v4_2)), (59, .ref 800)]) rfl rfl ⟨rfl, rfl, rfl, rfl, trivial⟩) ?_
      refine aw_region ?_
      refine run_s (ss_move rfl) rfl ?_
      obtain ⟨q15, h⟩ := h
      refine run_s (ss_sub rfl rfl q15) rfl ?_
      refine run_s (ss_assign rfl) rfl ?_
      refine run_nil ?_
      exact ⟨v4_2 - 1, ghe_to (n := 59) rfl rfl ⟨rfl, rfl, rfl, rfl, trivial⟩, h.1, h.2⟩
     ·replace h := h.2 (of_decide_eq_false q14)
      refine aw_exit ?_
      refine aw_seq ?_
      refine aw_gh (gh_to (n := 59) (σ' := [(800, ⟨ints p, []⟩)]) (env' := [(0, .ref 800), (3, .c (ci v3_1)), (4, .c (ci v4_2)), (59, .ref 800)]) rfl rfl ⟨rfl, rfl, rfl, rfl, trivial⟩) ?_
      refine aw_regionD (kd := kdl [0, 0, 0, 0, 0, 0, 0, 1, 0, 0, 0, 1, 0, 3, 0, 3]) (ord := [0, 1, 2, 3, 4, 5, 6, 8, 9, 10, 7, 11, 12, 13, 14, 15]) [] mixed (by kernel_rfl) ?_
      refine rd_s rfl rfl trivial (ss_move rfl) rfl ?_
      refine rd_s rfl rfl trivial (ss_move rfl) rfl ?_
      refine rd_s rfl rfl trivial (ss_move rfl) rfl ?_
      refine rd_s rfl rfl trivial (ss_move rfl) rfl ?_
      refine rd_s rfl rfl trivial (ss_move rfl) rfl ?_
      refine rd_s rfl rfl trivial (ss_move rfl) rfl ?_
      obtain ⟨q16, h⟩ := h
      refine rd_s rfl rfl trivial (ss_idxR (f := ci) rfl rfl rfl q16) rfl ?_
      refine rd_s rfl rfl trivial (ss_move rfl) rfl ?_
      refine rd_s rfl rfl trivial (ss_move rfl) rfl ?_
      obtain ⟨q17, h⟩ := h
      refine rd_s rfl rfl trivial (ss_idxR (f := ci) rfl rfl rfl q17) rfl ?_
      refine rd_l rfl rfl trivial (ss_loadR (f := ci) rfl rfl q16 rfl rfl) rfl ?_
      refine rd_l rfl rfl trivial (ss_loadR (f := ci) rfl rfl q17 rfl rfl) rfl ?_
      obtain ⟨q18, h⟩ := h
      refine rd_s rfl rfl trivial (ss_idxR (f := ci) rfl rfl rfl q18) rfl ?_
      refine rd_f rfl rfl trivial (ws_storeE rfl rfl (map_lt q18) rfl rfl (map_se (f := ci)) rfl ⟨rfl, ?_⟩)
      obtain ⟨q19, h⟩ := h
      refine rd_s rfl rfl trivial (ss_idxR (f := ci) rfl rfl rfl q19) rfl ?_
      refine rd_f rfl rfl trivial (ws_storeE rfl rfl (map_lt q19) rfl rfl (map_se (f := ci)) rfl ⟨rfl, ?_⟩)
      refine rd_nil ?_
      refine aw_seq ?_
      refine aw_gh (gh_to (n := 59) (σ' := [(800, ⟨ints (se (se p v3_1 (el p v4_2)) v4_2 (el p v3_1)), []⟩)]) (env' := [(0, .ref 800), (3, .c (ci v3_1)), (59, .ref 800)]) rfl rfl ⟨rfl, rfl, rfl, trivial⟩) ?_
      refine aw_region ?_
      refine run_s (ss_move rfl) rfl ?_
      refine run_s (ss_move rfl) rfl ?_
      obtain ⟨q20, h⟩ := h
      refine run_s (ss_add rfl rfl q20) rfl ?_
      obtain ⟨q21, h⟩ := h
      obtain ⟨q22, h⟩ := h
      refine run_part (F := List.reverse) at_Reverse rfl rfl rfl q21 q22 rfl rfl rfl ?_
      refine run_nil ?_
      refine aw_seq ?_
      refine aw_gh (gh_to (n := 59) (σ' := [(800, ⟨ints ((se (se p v3_1 (el p v4_2)) v4_2 (el p v3_1)).take (v3_1 + 1).toNat ++ List.reverse ((se (se p v3_1 (el p v4_2)) v4_2 (el p v3_1)).drop (v3_1 + 1).toNat)), []⟩)]) (env' := [(59, .ref 800)]) rfl rfl ⟨rfl, trivial⟩) ?_
      refine aw_region ?_
      refine run_s (ss_assign rfl) rfl ?_
      refine run_nil ?_
      refine aw_ret ?_
      exact retAM_mk (retv1 rfl (rv_tmp rfl)) rfl rfl rfl ⟨_, _, h, rfl, rfl⟩
  ·replace h := h.2 (of_decide_eq_false q3)
   refine rd_no rfl rfl rfl q3 rfl ?_
   refine rd_no rfl rfl rfl q3 rfl ?_
   refine rd_no rfl rfl rfl q3 rfl ?_
   refine rd_no rfl rfl rfl q3 rfl ?_
   refine rd_no rfl rfl rfl q3 rfl ?_
   refine rd_no rfl rfl rfl q3 rfl ?_
   refine rd_no rfl rfl rfl q3 rfl ?_
   refine rd_no rfl rfl rfl q3 rfl ?_
   refine rd_no rfl rfl rfl q3 rfl ?_
   refine rd_no rfl rfl rfl q3 rfl ?_
   refine rd_s rfl rfl trivial (ss_pickF rfl q3 rfl) rfl ?_
   refine rd_nil ?_
   refine aw_cond rfl (fun q23 => ?_) (fun q23 => ?_)
   ·cases q23
   ·skip
    refine aw_exit ?_
    refine aw_seq ?_
    refine aw_seq ?_
    refine aw_gh (gh_to (n := 59) (σ' := [(800, ⟨ints p, []⟩)]) (env' := [(0, .ref 800), (3, .c (ci v3_1)), (59, .ref 800)]) rfl rfl ⟨rfl, rfl, rfl, trivial⟩) ?_
    refine aw_region ?_
    refine run_s (ss_move rfl) rfl ?_
    refine run_s (ss_lss rfl rfl) rfl ?_
    refine run_nil ?_
    refine aw_cond rfl (fun q24 => ?_) (fun q24 => ?_)
    ·replace h := h.1 (of_decide_eq_true q24)
     refine aw_seq ?_
     refine aw_gh (gh_to (n := 59) (σ' := [(800, ⟨ints p, []⟩)]) (env' := [(59, .ref 800)]) rfl rfl ⟨rfl, trivial⟩) ?_
     refine aw_region ?_
     refine run_s (ss_assign rfl) rfl ?_
     refine run_nil ?_
     refine aw_ret ?_
     exact retAM_mk (retv1 rfl (rv_tmp rfl)) rfl rfl rfl ⟨_, _, h, rfl, rfl⟩
    ·replace h := h.2 (of_decide_eq_false q24)
     refine aw_skip ?_
     refine aw_seq ?_
     refine aw_region ?_
     refine run_s (ss_move rfl) rfl ?_
     refine run_s (ss_lenR (f := ci) rfl rfl) rfl ?_
     obtain ⟨q25, h⟩ := h
     refine run_s (ss_sub rfl rfl q25) rfl ?_
     refine run_s (ss_assign rfl) rfl ?_
     refine run_nil ?_
     refine aw_seq ?_
     refine aw_block ?_
     obtain ⟨H3, m3, q26, h⟩ := h
     refine aw_loop1 (fun (v4_2 : Int) => ⟨[(800, ⟨ints p, []⟩)], [(0, .ref 800), (3, .c (ci v3_1)), (4, .c (ci v4_2)), (59, .ref 800)], 59⟩) H3 m3 ⟨(p.length : Int) - 1, ghe_to (n := 59) rfl rfl ⟨rfl, rfl, rfl, rfl, trivial⟩, q26⟩ ?_
     rintro v4_2 q26
     replace h := h v4_2 q26
     refine aw_seq ?_
     refine aw_seq ?_
     refine aw_gh (gh_to (n := 59) (σ' := [(800, ⟨ints p, []⟩)]) (env' := [(0, .ref 800), (3, .c (ci v3_1)), (4, .c (ci v4_2)), (59, .ref 800)]) rfl rfl ⟨rfl, rfl, rfl, rfl, trivial⟩) ?_
     refine aw_regionD (kd := kdl [0, 0, 0, 1, 0, 0, 0, 1, 0]) (ord := [0, 1, 2, 4, 5, 6, 3, 7, 8]) [] mixed (by kernel_rfl) ?_
     refine rd_s rfl rfl trivial (ss_move rfl) rfl ?_
     refine rd_s rfl rfl trivial (ss_move rfl) rfl ?_
     obtain ⟨q27, h⟩ := h
     refine rd_s rfl rfl trivial (ss_idxR (f := ci) rfl rfl rfl q27) rfl ?_
     refine rd_s rfl rfl trivial (ss_move rfl) rfl ?_
     refine rd_s rfl rfl trivial (ss_move rfl) rfl ?_
     obtain ⟨q28, h⟩ := h
     refine rd_s rfl rfl trivial (ss_idxR (f := ci) rfl rfl rfl q28) rfl ?_
     refine rd_l rfl rfl trivial (ss_loadR (f := ci) rfl rfl q27 rfl rfl) rfl ?_
     refine rd_l rfl rfl trivial (ss_loadR (f := ci) rfl rfl q28 rfl rfl) rfl ?_
     refine rd_s rfl rfl trivial (ss_lss rfl rfl) rfl ?_
     refine rd_nil ?_
     refine aw_cond rfl (fun q29 => ?_) (fun q29 => ?_)
     ·replace h := h.1 (of_decide_eq_true q29)
      refine aw_skip ?_
      refine aw_block ?_
      refine aw_gh (gh_to (n := 59) (σ' := [(800, ⟨ints p, []⟩)]) (env' := [(0, .ref 800), (3, .c (ci v3_1)), (4, .c (ci v4_2)), (59, .ref 800)]) rfl rfl ⟨rfl, rfl, rfl, rfl, trivial⟩) ?_
      refine aw_region ?_
      refine run_s (ss_move rfl) rfl ?_
      obtain ⟨q30, h⟩ := h
      refine run_s (ss_sub rfl rfl q30) rfl ?_
      refine run_s (ss_assign rfl) rfl ?_
      refine run_nil ?_
      exact ⟨v4_2 - 1, ghe_to (n := 59) rfl rfl ⟨rfl, rfl, rfl, rfl, trivial⟩, h.1, h.2⟩
     ·replace h := h.2 (of_decide_eq_false q29)
      refine aw_exit ?_
      refine aw_seq ?_
      refine aw_gh (gh_to (n := 59) (σ' := [(800, ⟨ints p, []⟩)]) (env' := [(0, .ref 800), (3, .c (ci v3_1)), (4, .c (ci v4_2)), (59, .ref 800)]) rfl rfl ⟨rfl, rfl, rfl, rfl, trivial⟩) ?_
      refine aw_regionD (kd := kdl [0, 0, 0, 0, 0, 0, 0, 1, 0, 0, 0, 1, 0, 3, 0, 3]) (ord := [0, 1, 2, 3, 4, 5, 6, 8, 9, 10, 7, 11, 12, 13, 14, 15]) [] mixed (by kernel_rfl) ?_
      refine rd_s rfl rfl trivial (ss_move rfl) rfl ?_
      refine rd_s rfl rfl trivial (ss_move rfl) rfl ?_
      refine rd_s rfl rfl trivial (ss_move rfl) rfl ?_
      refine rd_s rfl rfl trivial (ss_move rfl) rfl ?_
      refine rd_s rfl rfl trivial (ss_move rfl) rfl ?_
      refine rd_s rfl rfl trivial (ss_move rfl) rfl ?_
      obtain ⟨q31, h⟩ := h
      refine rd_s rfl rfl trivial (ss_idxR (f := ci) rfl rfl rfl q31) rfl ?_
      refine rd_s rfl rfl trivial (ss_move rfl) rfl ?_
      refine rd_s rfl rfl trivial (ss_move rfl) rfl ?_
      obtain ⟨q32, h⟩ := h
      refine rd_s rfl rfl trivial (ss_idxR (f := ci) rfl rfl rfl q32) rfl ?_
      refine rd_l rfl rfl trivial (ss_loadR (f := ci) rfl rfl q31 rfl rfl) rfl ?_
      refine rd_l rfl rfl trivial (ss_loadR (f := ci) rfl rfl q32 rfl rfl) rfl ?_
      obtain ⟨q33, h⟩ := h
      refine rd_s rfl rfl trivial (ss_idxR (f := ci) rfl rfl rfl q33) rfl ?_
      refine rd_f rfl rfl trivial (ws_storeE rfl rfl (map_lt q33) rfl rfl (map_se (f := ci)) rfl ⟨rfl, ?_⟩)
      obtain ⟨q34, h⟩ := h
      refine rd_s rfl rfl trivial (ss_idxR (f := ci) rfl rfl rfl q34) rfl ?_
      refine rd_f rfl rfl trivial (ws_storeE rfl rfl (map_lt q34) rfl rfl (map_se (f := ci)) rfl ⟨rfl, ?_⟩)
      refine rd_nil ?_
      refine aw_seq ?_
      refine aw_gh (gh_to (n := 59) (σ' := [(800, ⟨ints (se (se p v3_1 (el p v4_2)) v4_2 (el p v3_1)), []⟩)]) (env' := [(0, .ref 800), (3, .c (ci v3_1)), (59, .ref 800)]) rfl rfl ⟨rfl, rfl, rfl, trivial⟩) ?_
      refine aw_region ?_
      refine run_s (ss_move rfl) rfl ?_
      refine run_s (ss_move rfl) rfl ?_
      obtain ⟨q35, h⟩ := h
      refine run_s (ss_add rfl rfl q35) rfl ?_
      obtain ⟨q36, h⟩ := h
      obtain ⟨q37, h⟩ := h
      refine run_part (F := List.reverse) at_Reverse rfl rfl rfl q36 q37 rfl rfl rfl ?_
      refine run_nil ?_
      refine aw_seq ?_
      refine aw_gh (gh_to (n := 59) (σ' := [(800, ⟨ints ((se (se p v3_1 (el p v4_2)) v4_2 (el p v3_1)).take (v3_1 + 1).toNat ++ List.reverse ((se (se p v3_1 (el p v4_2)) v4_2 (el p v3_1)).drop (v3_1 + 1).toNat)), []⟩)]) (env' := [(59, .ref 800)]) rfl rfl ⟨rfl, trivial⟩) ?_
      refine aw_region ?_
      refine run_s (ss_assign rfl) rfl ?_
      refine run_nil ?_
      refine aw_ret ?_
      exact retAM_mk (retv1 rfl (rv_tmp rfl)) rfl rfl rfl ⟨_, _, h, rfl, rfl⟩

theorem c_impl_nextPermutation (p : List Int) (hp : isPerm p = true ∧ (p.length : Int) ≤ 12) : AM Try.prog 111 [.own (ints p)] (fun R_ O_ => ∃ y0 w0, ((y0 = true ∧ ∃ i_ k_, NxI p i_ k_ ∧ w0 = nxtL p i_ k_) ∨ (y0 = false ∧ w0 = p ∧ ∀ j_ : Int, -1 < j_ → j_ + 1 < (p.length : Int) → el p (j_ + 1) < el p j_)) ∧ R_ = cb y0 ∧ O_ = [.own (ints w0)]) :=
  w_impl_nextPermutation p (fun y0 w0 => (y0 = true ∧ ∃ i_ k_, NxI p i_ k_ ∧ w0 = nxtL p i_ k_) ∨ (y0 = false ∧ w0 = p ∧ ∀ j_ : Int, -1 < j_ → j_ + 1 < (p.length : Int) → el p (j_ + 1) < el p j_)) (p_impl_nextPermutation p hp)

/-- The iterator of impl.permutations yields the permutations in order. -/
theorem sq_permutations (n : Int) (hp : 0 ≤ n ∧ n ≤ 12) : SeqA Try.prog 110 [.ptr [ci n]] ((growL n []).map fun p_ => .lst (ints p_)) := by
  have hfirst := growL_first hp.1
  have hpos : 0 < (growL n []).length := (List.getElem?_eq_some_iff.1 hfirst).1
  have hat : ∀ k, k < (growL n []).length → (growL n [])[k]? = some ((growL n []).getD k []) := fun k hk => by
    rw [List.getD_eq_getElem?_getD, List.getElem?_eq_getElem hk]; rfl
  have hfz : ∀ l : List Int, frzL (ints l) = ints l := fun l => by
    induction l with
    | nil => rfl
    | cons x l ih => show frzL (ci x :: ints l) = _; simp only [frzL, ih]; rfl
  refine seq_loop (n := 12) (id := 5) (N := (growL n []).length)
    (fun l k => ⟨[(5, ⟨ints ((growL n []).getD k []), []⟩)], [(0, .c (.val (yv l))), (1, .c (.ptr [ci n])), (3, .ref 5)], 12⟩)
    (fun k => ints ((growL n []).getD k [])) Try.func110 rfl (by rfl) rfl (Nat.le_of_ble_eq_true rfl) rfl hpos (by simp) (fun _ _ => rfl) ⟨by decide, by decide, by decide⟩
    (fun _ _ => rfl) (fun _ _ => rfl) (fun _ _ => rfl) (fun _ _ => rfl) (fun _ _ _ => rfl) (fun k hk => ?_) (fun l => ?_) (fun l k hk => ?_) (fun l k hk => ?_)
  · rw [List.getElem?_map, hat k hk, hfz]; rfl
  · -- the first permutation
    refine aw_region ?_
    refine run_s (ss_load_ptr rfl rfl) rfl ?_
    refine run_w (ws_call (xs := [.tmp 4]) (ids := [5]) rfl rfl rfl rfl (c_impl_identity n ⟨hp.1, by omega⟩) rfl ?_)
    rintro _ rfl
    refine ⟨rfl, ?_⟩
    refine run_s (ss_assign rfl) rfl ?_
    refine run_nil ?_
    have e : (growL n []).getD 0 [] = unitI n := by rw [List.getD_eq_getElem?_getD, hfirst]; rfl
    refine ⟨[], ?_⟩
    rw [e]
    exact gh_to (n := 12) (σ' := [(5, ⟨ints (unitI n), []⟩)]) (env' := [(0, .c (.val (yv l))), (1, .c (.ptr [ci n])), (3, .ref 5)]) rfl rfl ⟨rfl, rfl, rfl, trivial⟩
  · obtain ⟨pl, pP⟩ := growL_perm hp.1 (List.mem_of_getElem? (hat k hk))
    have hk2 := hat k hk
    generalize hpe : (growL n []).getD k [] = p at *
    refine aw_cond rfl (fun _ => ?_) (fun q => by cases q)
    refine aw_skip ?_
    refine aw_block ?_
    refine aw_seq ?_
    refine aw_gh (gh_to (n := 12) (σ' := [(5, ⟨ints p, []⟩)]) (env' := [(0, .c (.val (yv l))), (1, .c (.ptr [ci n])), (3, .ref 5)]) rfl rfl ⟨rfl, rfl, rfl, trivial⟩) ?_
    refine aw_region ?_
    refine run_s (ss_move rfl) rfl ?_
    refine run_w (ws_callM (xs := [.tmp 9]) (cs := [.own (ints p)]) (ids := []) rfl (.inr ⟨rfl, rfl⟩) rfl rfl rfl (c_impl_nextPermutation p ⟨pP, by omega⟩) rfl rfl ?_ )
    rintro _ _ ⟨r0, o0, q, rfl, rfl⟩
    refine ⟨rfl, rfl, ?_⟩
    refine run_s (ss_not rfl) rfl ?_
    refine run_nil ?_
    rcases q with ⟨rfl, i, j, hx, rfl⟩ | ⟨rfl, rfl, hx⟩
    · refine aw_cond rfl (fun q => by cases q) (fun _ => ?_)
      refine aw_skip ?_
      have h1 := growL_next hp.1 hk2 hx
      refine ⟨(List.getElem?_eq_some_iff.1 h1).1, [], ?_⟩
      have e : (growL n []).getD (k + 1) [] = nxtL p i j := by rw [List.getD_eq_getElem?_getD, h1]; rfl
      show Gh [] _ ⟨[(5, ⟨ints ((growL n []).getD (k + 1) []), []⟩)], _, 12⟩
      rw [e]
      exact gh_to (n := 12) (σ' := [(5, ⟨ints (nxtL p i j), []⟩)]) (env' := [(0, .c (.val (yv l))), (1, .c (.ptr [ci n])), (3, .ref 5)]) rfl rfl ⟨rfl, rfl, rfl, trivial⟩
    · refine aw_cond rfl (fun _ => ?_) (fun q => by cases q)
      refine aw_ret ?_
      exact growL_last hp.1 hk2 hx
  · refine aw_cond rfl (fun q => by cases q) (fun _ => ?_)
    exact aw_exit rfl
theorem c_impl_permutations (n : Int) (_hp : 0 ≤ n ∧ n ≤ 12) : AF Try.prog 64 [ci n] (fun R_ => R_ = .clo 110 [.ptr [ci n]]) := by
  refine af_enter (n := 4) Try.func64 rfl (by rfl) rfl (Nat.le_of_ble_eq_true rfl) ?_
  refine aw_seq ?_
  refine aw_gh (gh_to (n := 4) (σ' := []) (env' := [(0, .c (ci n))]) rfl rfl ⟨rfl, trivial⟩) ?_
  refine aw_region ?_
  refine run_w (ws_boxR rfl (.inr rfl) rfl ⟨rfl, ?_⟩)
  refine run_s (ss_assign rfl) rfl ?_
  refine run_nil ?_
  refine aw_seq ?_
  refine aw_region ?_
  refine run_s (ss_makeFunc (os := [.tmp 1]) rfl) rfl ?_
  refine run_s (ss_assign rfl) rfl ?_
  refine run_nil ?_
  refine aw_ret ?_
  exact retAF_mk (retv1 rfl (rv_tmp rfl)) rfl rfl rfl



set_option maxRecDepth 100000 in
set_option maxHeartbeats 4000000 in
theorem w_impl_cloneTable (t : List (List Int)) (Q : List (List Int) → Prop) (h : wp_impl_cloneTable t Q) : AF Try.prog 83 [.lst (rows t)] (fun R_ => ∃ y0, Q y0 ∧ R_ = .own (orows y0)) := by
  refine AF.ofWQ (af_enter (n := 23) Try.func83 rfl (by rfl) rfl (Nat.le_of_ble_eq_true rfl) ?_)
  unfold wp_impl_cloneTable at h
  refine aw_seq ?_
  refine aw_gh (gh_to (n := 23) (σ' := []) (env' := [(0, .c (.lst (rows t)))]) rfl rfl ⟨rfl, trivial⟩) ?_
  refine aw_region ?_
  refine run_s (ss_assign rfl) rfl ?_
  refine run_nil ?_
  refine aw_seq ?_
  refine aw_region ?_
  refine run_s (ss_move rfl) rfl ?_
  refine run_s (ss_lenL (f := (fun r => C.lst (ints r))) rfl) rfl ?_
  obtain ⟨q1, h⟩ := h
  refine run_w (ws_makeSlice (id := 8) rfl rfl q1 (Nat.le_of_ble_eq_true rfl) rfl ⟨rfl, ?_⟩)
  refine run_gh (gh_weakR (id := 8) (f := (fun r => C.own (ints r))) rfl cle_nilO) ?_
  refine run_s (ss_assign rfl) rfl ?_
  refine run_nil ?_
  refine aw_seq ?_
  refine aw_seq ?_
  refine aw_region ?_
  refine run_s (ss_move rfl) rfl ?_
  refine run_s (ss_lenL (f := (fun r => C.lst (ints r))) rfl) rfl ?_
  refine run_s (ss_move rfl) rfl ?_
  refine run_nil ?_
  refine aw_block ?_
  obtain ⟨H1, m1, q2, h⟩ := h
  refine aw_loop2 (fun (v11_1 : Int) (o8_1 : List (List Int)) => ⟨[(8, ⟨orows o8_1, []⟩)], [(3, .ref 8), (9, .c (.lst (rows t))), (10, .c (ci (t.length : Int))), (11, .c (ci v11_1))], 23⟩) H1 m1 ⟨0, List.replicate (t.length : Int).toNat ([] : List Int), ghe_to (n := 23) rfl rfl ⟨rfl, rfl, rfl, rfl, trivial⟩, q2⟩ ?_
  rintro v11_1 o8_1 q2
  replace h := h v11_1 o8_1 q2
  refine aw_seq ?_
  refine aw_region ?_
  refine run_s (ss_lss rfl rfl) rfl ?_
  refine run_nil ?_
  refine aw_seq ?_
  refine aw_cond rfl (fun q3 => ?_) (fun q3 => ?_)
  ·replace h := h.1 (of_decide_eq_true q3)
   refine aw_skip ?_
   refine aw_seq ?_
   refine aw_block ?_
   refine aw_seq ?_
   refine aw_region ?_
   refine run_s (ss_move rfl) rfl ?_
   obtain ⟨q4, h⟩ := h
   refine run_s (ss_idxL rfl rfl q4) rfl ?_
   refine run_s (ss_loadL (f := (fun r => C.lst (ints r))) rfl q4) rfl ?_
   refine run_s (ss_assign rfl) rfl ?_
   refine run_s (ss_assign rfl) rfl ?_
   refine run_nil ?_
   refine aw_region ?_
   refine run_s (ss_move rfl) rfl ?_
   refine run_s (ss_move rfl) rfl ?_
   refine run_s (ss_move rfl) rfl ?_
   obtain ⟨q5, h⟩ := h
   refine run_w (ws_call (xs := [.tmp 18]) (ids := [19]) rfl rfl rfl rfl (c_k_Clone (el t v11_1) q5) rfl ?_ )
   rintro _ rfl
   refine ⟨rfl, ?_⟩
   obtain ⟨q7, h⟩ := h
   refine run_s (ss_idxR (f := (fun r => C.own (ints r))) rfl rfl rfl q7) rfl ?_
   refine run_w (ws_storeV rfl rfl (map_lt q7) rfl rfl rfl rfl ⟨rfl, ?_⟩)
   refine run_nil ?_
   refine aw_gh (gh_to (n := 23) (σ' := [(19, ⟨ints (el t v11_1), []⟩), (8, ⟨(orows o8_1).set v11_1.toNat .hole, [(v11_1.toNat, .ref 19)]⟩)]) (env' := [(3, .ref 8), (9, .c (.lst (rows t))), (10, .c (ci (t.length : Int))), (11, .c (ci v11_1))]) rfl rfl ⟨rfl, rfl, rfl, rfl, trivial⟩) ?_
   refine aw_region ?_
   obtain ⟨q8, h⟩ := h
   refine run_s (ss_add rfl rfl q8) rfl ?_
   refine run_s (ss_move rfl) rfl ?_
   refine run_nil ?_
   exact ⟨v11_1 + 1, se o8_1 v11_1 (el t v11_1), ghe_step (gh_fillA (id := 8) (id2 := 19) (f := (fun r => C.own (ints r))) (v := (el t v11_1)) rfl lk_self rfl q7 rfl rfl kr_self) (ghe_to (n := 23) rfl rfl ⟨rfl, rfl, rfl, rfl, trivial⟩), h.1, h.2⟩
  ·replace h := h.2 (of_decide_eq_false q3)
   refine aw_exit ?_
   refine aw_seq ?_
   refine aw_region ?_
   refine run_s (ss_move rfl) rfl ?_
   refine run_s (ss_assign rfl) rfl ?_
   refine run_nil ?_
   refine aw_ret ?_
   exact retAF_mk (retv1 rfl (rv_tmp rfl)) rfl rfl ⟨_, (cle_refl _), _, h, rfl⟩

theorem c_impl_cloneTable (t : List (List Int)) (hp : small2 t) : AF Try.prog 83 [.lst (rows t)] (fun R_ => R_ = .own (orows t)) :=
  (w_impl_cloneTable t (fun y0 => y0 = t) (p_impl_cloneTable t hp)).mono (by rintro r ⟨_, rfl, rfl⟩; rfl)

set_option maxRecDepth 100000 in
set_option maxHeartbeats 4000000 in
theorem w_impl_renamed_1 (u : Int) (v : Int) (p : List Int) (t : List (List Int)) (back : List Int) (Q : Int → Prop) (h : wp_impl_renamed_1 u v p t back Q) : AF Try.prog 127 [ci u, ci v, .ptr [.lst (ints p)], .ptr [.lst (rows t)], .ptr [.lst (ints back)]] (fun R_ => ∃ y0, Q y0 ∧ R_ = ci y0) := by
  refine AF.ofWQ (af_enter (n := 24) Try.func127 rfl (by rfl) rfl (Nat.le_of_ble_eq_true rfl) ?_)
  unfold wp_impl_renamed_1 at h
  refine aw_seq ?_
  refine aw_gh (gh_to (n := 24) (σ' := []) (env' := [(0, .c (ci u)), (1, .c (ci v)), (2, .c (.ptr [.lst (ints p)])), (3, .c (.ptr [.lst (rows t)])), (4, .c (.ptr [.lst (ints back)]))]) rfl rfl ⟨rfl, rfl, rfl, rfl, rfl, trivial⟩) ?_
  refine aw_region ?_
  refine run_s (ss_assign rfl) rfl ?_
  refine run_nil ?_
  refine aw_seq ?_
  refine aw_gh (gh_to (n := 24) (σ' := []) (env' := [(0, .c (ci u)), (1, .c (ci v)), (2, .c (.ptr [.lst (ints p)])), (3, .c (.ptr [.lst (rows t)])), (4, .c (.ptr [.lst (ints back)])), (7, .c (ci 0))]) rfl rfl ⟨rfl, rfl, rfl, rfl, rfl, rfl, trivial⟩) ?_
  refine aw_regionD (kd := kdl [1, 1, 1, 0, 0, 1, 0, 1, 1, 0, 0, 1, 0, 1, 0, 1, 0]) (ord := [3, 9, 0, 1, 2, 4, 5, 6, 7, 8, 10, 11, 12, 13, 14, 15, 16]) [] mixed (by kernel_rfl) ?_
  refine rd_s rfl rfl trivial (ss_move rfl) rfl ?_
  refine rd_s rfl rfl trivial (ss_move rfl) rfl ?_
  refine rd_l rfl rfl trivial (ss_load_ptr rfl rfl) rfl ?_
  refine rd_l rfl rfl trivial (ss_load_ptr rfl rfl) rfl ?_
  refine rd_l rfl rfl trivial (ss_load_ptr rfl rfl) rfl ?_
  obtain ⟨q1, h⟩ := h
  refine rd_s rfl rfl trivial (ss_idxL rfl rfl q1) rfl ?_
  refine rd_l rfl rfl trivial (ss_loadL (f := ci) rfl q1) rfl ?_
  obtain ⟨q2, h⟩ := h
  refine rd_s rfl rfl trivial (ss_idxL rfl rfl q2) rfl ?_
  refine rd_l rfl rfl trivial (ss_loadL (f := (fun r => C.lst (ints r))) rfl q2) rfl ?_
  refine rd_l rfl rfl trivial (ss_load_ptr rfl rfl) rfl ?_
  obtain ⟨q3, h⟩ := h
  refine rd_s rfl rfl trivial (ss_idxL rfl rfl q3) rfl ?_
  refine rd_l rfl rfl trivial (ss_loadL (f := ci) rfl q3) rfl ?_
  obtain ⟨q4, h⟩ := h
  refine rd_s rfl rfl trivial (ss_idxL rfl rfl q4) rfl ?_
  refine rd_l rfl rfl trivial (ss_loadL (f := ci) rfl q4) rfl ?_
  obtain ⟨q5, h⟩ := h
  refine rd_s rfl rfl trivial (ss_idxL rfl rfl q5) rfl ?_
  refine rd_l rfl rfl trivial (ss_loadL (f := ci) rfl q5) rfl ?_
  refine rd_s rfl rfl trivial (ss_assign rfl) rfl ?_
  refine rd_nil ?_
  refine aw_ret ?_
  exact retAF_mk (retv1 rfl (rv_tmp rfl)) rfl rfl ⟨_, (cle_refl _), _, h, rfl⟩

theorem c_impl_renamed_1 (u : Int) (v : Int) (p : List Int) (t : List (List Int)) (back : List Int) (hp : isTab t = true ∧ p.length = t.length ∧ back.length = t.length ∧ isPerm p = true ∧ isPerm back = true ∧ (0 ≤ u ∧ u < (t.length : Int)) ∧ 0 ≤ v ∧ v < (t.length : Int)) : AF Try.prog 127 [ci u, ci v, .ptr [.lst (ints p)], .ptr [.lst (rows t)], .ptr [.lst (ints back)]] (fun R_ => R_ = ci (el p (el (el t (el back u)) (el back v)))) :=
  (w_impl_renamed_1 u v p t back (fun y0 => y0 = el p (el (el t (el back u)) (el back v))) (p_impl_renamed_1 u v p t back hp)).mono (by rintro r ⟨_, rfl, rfl⟩; rfl)

set_option maxRecDepth 100000 in
set_option maxHeartbeats 4000000 in
theorem w_impl_renamed (t : List (List Int)) (p : List Int) (Q : List (List Int) → Prop) (h : wp_impl_renamed t p Q) : AF Try.prog 84 [.lst (rows t), .lst (ints p)] (fun R_ => ∃ y0, Q y0 ∧ R_ = .own (orows y0)) := by
  refine AF.ofWQ (af_enter (n := 12) Try.func84 rfl (by rfl) rfl (Nat.le_of_ble_eq_true rfl) ?_)
  unfold wp_impl_renamed at h
  refine aw_seq ?_
  refine aw_gh (gh_to (n := 12) (σ' := []) (env' := [(0, .c (.lst (rows t))), (1, .c (.lst (ints p)))]) rfl rfl ⟨rfl, rfl, trivial⟩) ?_
  refine aw_region ?_
  refine run_w (ws_boxR rfl (.inr rfl) rfl ⟨rfl, ?_⟩)
  refine run_w (ws_boxR rfl (.inr rfl) rfl ⟨rfl, ?_⟩)
  refine run_s (ss_assign rfl) rfl ?_
  refine run_nil ?_
  refine aw_seq ?_
  refine aw_region ?_
  refine run_s (ss_load_ptr rfl rfl) rfl ?_
  obtain ⟨q1, h⟩ := h
  refine run_w (ws_call (xs := [.tmp 6]) (ids := [7]) rfl rfl rfl rfl (c_impl_inverse p q1) rfl ?_ )
  rintro _ rfl
  refine ⟨rfl, ?_⟩
  refine run_w (ws_alloc (id := 5) rfl (Nat.le_of_ble_eq_true rfl) ⟨rfl, ?_⟩)
  refine run_w (ws_store rfl rfl (Nat.le_of_ble_eq_true rfl) rfl rfl ⟨rfl, ?_⟩)
  refine run_nil ?_
  refine aw_seq ?_
  refine aw_region ?_
  refine run_s (ss_load_ptr rfl rfl) rfl ?_
  refine run_s (ss_lenL (f := (fun r => C.lst (ints r))) rfl) rfl ?_
  refine run_gh (gh_frzE (id := 7) ci rfl (fun _ => rfl)) ?_
  refine run_gh (gh_fillc (id := 5) (j := 0) rfl rfl (Nat.le_of_ble_eq_true rfl)) ?_
  refine run_gh (gh_freeze (id := 5) rfl rfl) ?_
  refine run_gh (gh_to (n := 12) (σ' := []) (env' := [(0, .c (.lst (rows t))), (1, .c (.lst (ints p))), (2, .c (.ptr [.lst (rows t)])), (3, .c (.ptr [.lst (ints p)])), (4, .c (cnil)), (5, .c (.ptr [.lst (ints (backI p))])), (6, .c (.lst (ints p))), (7, .c (.lst (ints (backI p)))), (8, .c (.lst (rows t))), (9, .c (ci (t.length : Int)))]) rfl rfl ⟨rfl, rfl, rfl, rfl, rfl, rfl, rfl, rfl, rfl, rfl, trivial⟩) ?_
  refine run_s (ss_makeFunc (os := [.tmp 3, .tmp 2, .tmp 5]) rfl) rfl ?_
  obtain ⟨q3, h⟩ := h
  refine run_w (ws_call (xs := [.tmp 9, .tmp 10]) (ids := [11]) rfl rfl rfl rfl (c_impl_tableBy (t.length : Int) 127 [.ptr [.lst (ints p)], .ptr [.lst (rows t)], .ptr [.lst (ints (backI p))]] (fun z0 z1 => el p (el (el t (el (backI p) z0)) (el (backI p) z1))) (fun z0 z1 => isTab t = true ∧ p.length = t.length ∧ (backI p).length = t.length ∧ isPerm p = true ∧ isPerm (backI p) = true ∧ (0 ≤ z0 ∧ z0 < (t.length : Int)) ∧ 0 ≤ z1 ∧ z1 < (t.length : Int)) (fun z0 z1 hD => c_impl_renamed_1 z0 z1 p t (backI p) hD) q3) rfl ?_ )
  rintro _ rfl
  refine ⟨rfl, ?_⟩
  refine run_s (ss_assign rfl) rfl ?_
  refine run_nil ?_
  refine aw_ret ?_
  exact retAF_mk (retv1 rfl (rv_tmp rfl)) rfl rfl ⟨_, (cle_refl _), _, h, rfl⟩

theorem c_impl_renamed (t : List (List Int)) (p : List Int) (hp : isTab t = true ∧ (p.length : Int) = (t.length : Int) ∧ isPerm p = true) : AF Try.prog 84 [.lst (rows t), .lst (ints p)] (fun R_ => R_ = .own (orows (renT t p))) :=
  (w_impl_renamed t p (fun y0 => y0 = renT t p) (p_impl_renamed t p hp)).mono (by rintro r ⟨_, rfl, rfl⟩; rfl)

set_option maxRecDepth 100000 in
set_option maxHeartbeats 4000000 in
theorem w_impl_LeastTable (t : List (List Int)) (Q : List (List Int) → Int → Prop) (h : wp_impl_LeastTable t Q) : AF Try.prog 46 [.lst (rows t)] (fun R_ => ∃ y0 y1, Q y0 y1 ∧ R_ = .tup [.own (orows y0), ci y1]) := by
  refine AF.ofWQ (af_enterK (n := 28) Try.func46 rfl (by rfl) rfl (Nat.le_of_ble_eq_true rfl) ?_)
  unfold wp_impl_LeastTable at h
  refine ar_seq ?_
  refine aw_gh (gh_to (n := 28) (σ' := []) (env' := [(0, .c (.lst (rows t)))]) rfl rfl ⟨rfl, trivial⟩) ?_
  refine aw_region ?_
  refine run_w (ws_boxR rfl (.inr rfl) rfl ⟨rfl, ?_⟩)
  refine run_s (ss_assign rfl) rfl ?_
  refine run_s (ss_assign rfl) rfl ?_
  refine run_nil ?_
  refine ar_seq ?_
  refine aw_seq ?_
  refine aw_region ?_
  refine run_s (ss_load_ptr rfl rfl) rfl ?_
  obtain ⟨q1, h⟩ := h
  refine run_w (ws_call (xs := [.tmp 7]) (ids := []) rfl rfl rfl rfl (c_impl_IsTable t q1) rfl ?_ )
  rintro _ rfl
  refine ⟨rfl, ?_⟩
  refine run_s (ss_not rfl) rfl ?_
  refine run_nil ?_
  refine aw_cond rfl (fun q3 => ?_) (fun q3 => ?_)
  ·replace h := h.1 ((bnot_t q3))
   refine aw_seq ?_
   refine aw_gh (gh_to (n := 28) (σ' := []) (env' := [(2, .c (cnil)), (3, .c (ci 0))]) rfl rfl ⟨rfl, rfl, trivial⟩) ?_
   refine aw_region ?_
   refine run_s (ss_assign rfl) rfl ?_
   refine run_s (ss_assign rfl) rfl ?_
   refine run_nil ?_
   refine aw_ret ?_
   exact retAF_mk (retv2 rfl (rv_tmp rfl) (rv_tmp rfl)) rfl rfl ⟨_, (cle_tup (cleL_cons cle_nilO (cleL_cons (cle_refl _) cleL_nil))), _, _, h, rfl⟩
  ·replace h := h.2 ((bnot_f q3))
   refine aw_skip ?_
   refine ar_seq ?_
   refine aw_seq ?_
   refine aw_region ?_
   refine run_s (ss_load_ptr rfl rfl) rfl ?_
   refine run_s (ss_lenL (f := (fun r => C.lst (ints r))) rfl) rfl ?_
   refine run_s (ss_gtr rfl rfl) rfl ?_
   refine run_nil ?_
   refine aw_cond rfl (fun q4 => ?_) (fun q4 => ?_)
   ·replace h := h.1 (of_decide_eq_true q4)
    refine aw_seq ?_
    refine aw_gh (gh_to (n := 28) (σ' := []) (env' := [(2, .c (cnil)), (3, .c (ci 0))]) rfl rfl ⟨rfl, rfl, trivial⟩) ?_
    refine aw_region ?_
    refine run_s (ss_assign rfl) rfl ?_
    refine run_s (ss_assign rfl) rfl ?_
    refine run_nil ?_
    refine aw_ret ?_
    exact retAF_mk (retv2 rfl (rv_tmp rfl) (rv_tmp rfl)) rfl rfl ⟨_, (cle_tup (cleL_cons cle_nilO (cleL_cons (cle_refl _) cleL_nil))), _, _, h, rfl⟩
   ·replace h := h.2 (of_decide_eq_false q4)
    refine aw_skip ?_
    refine ar_seq ?_
    refine aw_gh (gh_to (n := 28) (σ' := []) (env' := [(1, .c (.ptr [.lst (rows t)])), (2, .c (cnil)), (3, .c (ci 0))]) rfl rfl ⟨rfl, rfl, rfl, trivial⟩) ?_
    refine aw_region ?_
    refine run_s (ss_load_ptr rfl rfl) rfl ?_
    obtain ⟨q5, h⟩ := h
    refine run_w (ws_call (xs := [.tmp 13]) (ids := [14]) rfl rfl rfl rfl (c_impl_cloneTable t q5) rfl ?_ )
    rintro _ rfl
    refine ⟨rfl, ?_⟩
    refine run_w (ws_alloc (id := 4) rfl (Nat.le_of_ble_eq_true rfl) ⟨rfl, ?_⟩)
    refine run_w (ws_store rfl rfl (Nat.le_of_ble_eq_true rfl) rfl rfl ⟨rfl, ?_⟩)
    refine run_nil ?_
    refine ar_seqK ?_
    refine ar_seq ?_
    refine aw_region ?_
    refine run_s (ss_load_ptr rfl rfl) rfl ?_
    refine run_s (ss_lenL (f := (fun r => C.lst (ints r))) rfl) rfl ?_
    obtain ⟨q7, h⟩ := h
    refine run_w (ws_call (xs := [.tmp 16]) (ids := []) rfl rfl rfl rfl (c_impl_permutations (t.length : Int) q7) rfl ?_ )
    rintro _ rfl
    refine ⟨rfl, ?_⟩
    refine run_nil ?_
    refine ar_block ?_
    refine ar_gh (gh_fill (id := 4) (id2 := 14) (j := 0) rfl rfl (Nat.le_of_ble_eq_true rfl) rfl rfl rfl) ?_
    refine ar_gh (gh_to (n := 28) (σ' := [(4, ⟨[.own (orows t)], []⟩)]) (env' := [(1, .c (.ptr [.lst (rows t)])), (2, .c (cnil)), (3, .c (ci 0)), (4, .cell 4 0), (17, .c (.clo 110 [.ptr [ci (t.length : Int)]]))]) rfl rfl ⟨rfl, rfl, rfl, rfl, rfl, trivial⟩) ?_
    obtain ⟨H1, q9, h⟩ := h
    refine ar_rangeE (en := (fun p_ => .lst (ints p_))) 5000 [(5001, .c (.ptr [.lst (rows t)])), (5002, .c (cnil)), (5003, .c (ci 0)), (5004, .cell 4 0), (5017, .c (.clo 110 [.ptr [ci (t.length : Int)]]))] (fun (f4_0_1 : List (List Int)) => [(4, ⟨[.own (orows f4_0_1)], []⟩)]) H1 (sq_permutations (t.length : Int) q7) rfl rfl rfl rfl rfl ⟨t, ghe_to (n := 28) rfl rfl ⟨rfl, rfl, rfl, rfl, rfl, trivial⟩, (by simp [σok, slfL, C.slf, slf_ints, slf_orows, slf_ci, ci, cb]), q9⟩ (fun k1 f4_0_1 e1 q10 q11 => ?_) (fun f4_0_1 q11 => ?_)
    ·replace h := h.1 k1 f4_0_1 e1 q10 q11
     refine aw_gh (gh_to (n := 28) (σ' := [(4, ⟨[.own (orows f4_0_1)], []⟩)]) (env' := [(1, .c (.ptr [.lst (rows t)])), (2, .c (cnil)), (3, .c (ci 0)), (4, .cell 4 0), (17, .c (.clo 110 [.ptr [ci (t.length : Int)]])), (18, .c (.lst (ints e1))), (5001, .c (.ptr [.lst (rows t)])), (5002, .c (cnil)), (5003, .c (ci 0)), (5004, .cell 4 0), (5017, .c (.clo 110 [.ptr [ci (t.length : Int)]]))]) rfl rfl ⟨rfl, rfl, rfl, rfl, rfl, rfl, rfl, rfl, rfl, rfl, rfl, trivial⟩) ?_
     refine aw_gh (gh_to (n := 28) (σ' := [(4, ⟨[.own (orows f4_0_1)], []⟩)]) (env' := [(1, .c (.ptr [.lst (rows t)])), (4, .cell 4 0), (18, .c (.lst (ints e1))), (5001, .c (.ptr [.lst (rows t)])), (5002, .c (cnil)), (5003, .c (ci 0)), (5004, .cell 4 0), (5017, .c (.clo 110 [.ptr [ci (t.length : Int)]]))]) rfl rfl ⟨rfl, rfl, rfl, rfl, rfl, rfl, rfl, rfl, trivial⟩) ?_
     refine aw_region ?_
     refine run_s (ss_assign rfl) rfl ?_
     refine run_nil ?_
     refine aw_block ?_
     refine aw_seq ?_
     refine aw_region ?_
     refine run_s (ss_load_ptr rfl rfl) rfl ?_
     refine run_s (ss_move rfl) rfl ?_
     obtain ⟨q12, h⟩ := h
     refine run_w (ws_call (xs := [.tmp 19, .tmp 20]) (ids := [21]) rfl rfl rfl rfl (c_impl_renamed t e1 q12) rfl ?_ )
     rintro _ rfl
     refine ⟨rfl, ?_⟩
     refine run_s (ss_assign rfl) rfl ?_
     refine run_nil ?_
     refine aw_seq ?_
     refine aw_gh (gh_to (n := 28) (σ' := [(21, ⟨orows (renT t e1), []⟩), (4, ⟨[.own (orows f4_0_1)], []⟩)]) (env' := [(4, .cell 4 0), (6, .ref 21), (5001, .c (.ptr [.lst (rows t)])), (5002, .c (cnil)), (5003, .c (ci 0)), (5004, .cell 4 0), (5017, .c (.clo 110 [.ptr [ci (t.length : Int)]]))]) rfl rfl ⟨rfl, rfl, rfl, rfl, rfl, rfl, rfl, trivial⟩) ?_
     refine aw_region ?_
     refine run_s (ss_move rfl) rfl ?_
     refine run_gh (gh_open 1001 (id := 4) (j := 0) rfl rfl rfl) ?_
     refine run_s (ss_loadH rfl rfl rfl rfl) rfl ?_
     obtain ⟨q14, h⟩ := h
     refine run_w (ws_callR (xs := [.tmp 22, .tmp 23]) (cs := [.own (orows (renT t e1)), .own (orows f4_0_1)]) (ids := []) rfl (.inr ⟨rfl, rfl⟩) rfl rfl (fz_cons (fz_own (fz_map (fun _ => (fz_own (fz_map (fun _ => rfl) _))) _)) (fz_cons (fz_own (fz_map (fun _ => (fz_own (fz_map (fun _ => rfl) _))) _)) fz_nil)) (c_impl_compareTables (renT t e1) f4_0_1 q14) rfl ?_ )
     rintro _ rfl
     refine ⟨rfl, rfl, ?_⟩
     refine run_s (ss_lss rfl rfl) rfl ?_
     refine run_nil ?_
     refine aw_cond rfl (fun q16 => ?_) (fun q16 => ?_)
     ·replace h := h.1 (of_decide_eq_true q16)
      refine aw_gh (gh_to (n := 28) (σ' := [(1001, ⟨orows f4_0_1, []⟩), (21, ⟨orows (renT t e1), []⟩), (4, ⟨[.hole], [(0, .ref 1001)]⟩)]) (env' := [(4, .cell 4 0), (6, .ref 21), (5001, .c (.ptr [.lst (rows t)])), (5002, .c (cnil)), (5003, .c (ci 0)), (5004, .cell 4 0), (5017, .c (.clo 110 [.ptr [ci (t.length : Int)]]))]) rfl rfl ⟨rfl, rfl, rfl, rfl, rfl, rfl, rfl, trivial⟩) ?_
      refine aw_region ?_
      refine run_s (ss_move rfl) rfl ?_
      refine run_w (ws_store rfl rfl (Nat.le_of_ble_eq_true rfl) rfl rfl ⟨rfl, ?_⟩)
      refine run_nil ?_
      exact ⟨renT t e1, ghe_step (gh_fill (id := 4) (id2 := 21) (j := 0) rfl rfl (Nat.le_of_ble_eq_true rfl) rfl rfl rfl) (ghe_step (gh_frzE (id := 1001) (fun r => C.lst (ints r)) rfl (fun _ => (fz_own (fz_map (fun _ => rfl) _)))) (ghe_to (n := 28) rfl rfl ⟨rfl, rfl, rfl, rfl, rfl, trivial⟩)), (by simp [σok, slfL, C.slf, slf_ints, slf_orows, slf_ci, ci, cb]), h⟩
     ·replace h := h.2 (of_decide_eq_false q16)
      refine aw_skip ?_
      exact ⟨f4_0_1, ghe_step (gh_fill (id := 4) (id2 := 1001) (j := 0) rfl rfl (Nat.le_of_ble_eq_true rfl) rfl rfl rfl) (ghe_step (gh_frzE (id := 21) (fun r => C.lst (ints r)) rfl (fun _ => (fz_own (fz_map (fun _ => rfl) _)))) (ghe_to (n := 28) rfl rfl ⟨rfl, rfl, rfl, rfl, rfl, trivial⟩)), (by simp [σok, slfL, C.slf, slf_ints, slf_orows, slf_ci, ci, cb]), h⟩
    ·replace h := h.2 f4_0_1 q11
     refine ar_aw ?_
     refine aw_seq ?_
     refine aw_gh (gh_to (n := 28) (σ' := [(4, ⟨[.own (orows f4_0_1)], []⟩)]) (env' := [(2, .c (cnil)), (3, .c (ci 0)), (4, .cell 4 0)]) rfl rfl ⟨rfl, rfl, rfl, trivial⟩) ?_
     refine aw_region ?_
     refine run_gh (gh_open 1002 (id := 4) (j := 0) rfl rfl rfl) ?_
     refine run_s (ss_loadH rfl rfl rfl rfl) rfl ?_
     refine run_s (ss_assign rfl) rfl ?_
     refine run_s (ss_assign rfl) rfl ?_
     refine run_nil ?_
     refine aw_ret ?_
     exact retAF_mk (retv2 rfl (rv_tmp rfl) (rv_tmp rfl)) rfl rfl ⟨_, (cle_refl _), _, _, h, rfl⟩

theorem c_impl_LeastTable (t : List (List Int)) (hp : small2 t) : AF Try.prog 46 [.lst (rows t)] (fun R_ => R_ = .tup [.own (orows (LeaT t)), ci (LeaE t)]) :=
  (w_impl_LeastTable t (fun y0 y1 => y0 = LeaT t ∧ y1 = LeaE t) (p_impl_LeastTable t hp)).mono (by rintro r ⟨_, _, ⟨rfl, rfl⟩, rfl⟩; rfl)

set_option maxRecDepth 100000 in
set_option maxHeartbeats 4000000 in
theorem w_spec_LeastTable (t : List (List Int)) (Q : List (List Int) → Int → Prop) (h : wp_spec_LeastTable t Q) : AF Try.prog 45 [.lst (rows t)] (fun R_ => ∃ y0 y1, Q y0 y1 ∧ R_ = .tup [.lst (rows y0), ci y1]) := by
  refine AF.ofWQ (af_enter (n := 36) Try.func45 rfl (by rfl) rfl (Nat.le_of_ble_eq_true rfl) ?_)
  unfold wp_spec_LeastTable at h
  refine aw_seq ?_
  refine aw_gh (gh_to (n := 36) (σ' := []) (env' := [(0, .c (.lst (rows t)))]) rfl rfl ⟨rfl, trivial⟩) ?_
  refine aw_region ?_
  refine run_s (ss_assign rfl) rfl ?_
  refine run_s (ss_assign rfl) rfl ?_
  refine run_nil ?_
  refine aw_seq ?_
  refine aw_seq ?_
  refine aw_region ?_
  refine run_s (ss_move rfl) rfl ?_
  obtain ⟨q1, h⟩ := h
  refine run_w (ws_call (xs := [.tmp 8]) (ids := []) rfl rfl rfl rfl (c_spec_l01Table t q1) rfl ?_ )
  rintro _ rfl
  refine ⟨rfl, ?_⟩
  refine run_s (ss_not rfl) rfl ?_
  refine run_nil ?_
  refine aw_cond rfl (fun q3 => ?_) (fun q3 => ?_)
  ·replace h := h.1 ((bnot_t q3))
   refine aw_seq ?_
   refine aw_gh (gh_to (n := 36) (σ' := []) (env' := [(2, .c (cnil)), (3, .c (ci 0))]) rfl rfl ⟨rfl, rfl, trivial⟩) ?_
   refine aw_region ?_
   refine run_s (ss_assign rfl) rfl ?_
   refine run_s (ss_assign rfl) rfl ?_
   refine run_nil ?_
   refine aw_ret ?_
   exact retAF_mk (retv2 rfl (rv_tmp rfl) (rv_tmp rfl)) rfl rfl ⟨_, (cle_tup (cleL_cons cle_nilL (cleL_cons (cle_refl _) cleL_nil))), _, _, h, rfl⟩
  ·replace h := h.2 ((bnot_f q3))
   refine aw_skip ?_
   refine aw_seq ?_
   refine aw_seq ?_
   refine aw_region ?_
   refine run_s (ss_move rfl) rfl ?_
   refine run_s (ss_lenL (f := (fun r => C.lst (ints r))) rfl) rfl ?_
   refine run_s (ss_gtr rfl rfl) rfl ?_
   refine run_nil ?_
   refine aw_cond rfl (fun q4 => ?_) (fun q4 => ?_)
   ·replace h := h.1 (of_decide_eq_true q4)
    refine aw_seq ?_
    refine aw_gh (gh_to (n := 36) (σ' := []) (env' := [(2, .c (cnil)), (3, .c (ci 0))]) rfl rfl ⟨rfl, rfl, trivial⟩) ?_
    refine aw_region ?_
    refine run_s (ss_assign rfl) rfl ?_
    refine run_s (ss_assign rfl) rfl ?_
    refine run_nil ?_
    refine aw_ret ?_
    exact retAF_mk (retv2 rfl (rv_tmp rfl) (rv_tmp rfl)) rfl rfl ⟨_, (cle_tup (cleL_cons cle_nilL (cleL_cons (cle_refl _) cleL_nil))), _, _, h, rfl⟩
   ·replace h := h.2 (of_decide_eq_false q4)
    refine aw_skip ?_
    refine aw_seq ?_
    refine aw_gh (gh_to (n := 36) (σ' := []) (env' := [(0, .c (.lst (rows t)))]) rfl rfl ⟨rfl, trivial⟩) ?_
    refine aw_region ?_
    refine run_s (ss_move rfl) rfl ?_
    refine run_s (ss_lenL (f := (fun r => C.lst (ints r))) rfl) rfl ?_
    obtain ⟨q5, h⟩ := h
    refine run_w (ws_call (xs := [.tmp 15]) (ids := [16]) rfl rfl rfl rfl (c_spec_l01Perms (t.length : Int) q5) rfl ?_ )
    rintro _ rfl
    refine ⟨rfl, ?_⟩
    refine run_s (ss_assign rfl) rfl ?_
    refine run_nil ?_
    refine aw_gh (gh_frzE (id := 16) (fun r => C.lst (ints r)) rfl (fun _ => (fz_own (fz_map (fun _ => rfl) _)))) ?_
    refine aw_seq ?_
    refine aw_region ?_
    refine run_s (ss_move rfl) rfl ?_
    obtain ⟨q7, h⟩ := h
    refine run_w (ws_call (xs := [.tmp 17]) (ids := [18]) rfl rfl rfl rfl (c_spec_l01Own2 t q7) rfl ?_ )
    rintro _ rfl
    refine ⟨rfl, ?_⟩
    refine run_s (ss_assign rfl) rfl ?_
    refine run_nil ?_
    refine aw_seq ?_
    refine aw_seq ?_
    refine aw_gh (gh_to (n := 36) (σ' := [(18, ⟨orows t, []⟩)]) (env' := [(0, .c (.lst (rows t))), (4, .c (.lst (rows (growL (t.length : Int) [])))), (5, .ref 18)]) rfl rfl ⟨rfl, rfl, rfl, trivial⟩) ?_
    refine aw_region ?_
    refine run_s (ss_assign rfl) rfl ?_
    refine run_nil ?_
    refine aw_block ?_
    obtain ⟨H1, m1, q9, h⟩ := h
    refine aw_loop2 (fun (v5_1 : List (List Int)) (v6_1 : Int) => ⟨[], [(0, .c (.lst (rows t))), (4, .c (.lst (rows (growL (t.length : Int) [])))), (5, .c (.lst (rows v5_1))), (6, .c (ci v6_1))], 36⟩) H1 m1 ⟨t, 0, ghe_step (gh_frzE (id := 18) (fun r => C.lst (ints r)) rfl (fun _ => (fz_own (fz_map (fun _ => rfl) _)))) (ghe_to (n := 36) rfl rfl ⟨rfl, rfl, rfl, rfl, trivial⟩), q9⟩ ?_
    rintro v5_1 v6_1 q9
    replace h := h v5_1 v6_1 q9
    refine aw_seq ?_
    refine aw_seq ?_
    refine aw_region ?_
    refine run_s (ss_move rfl) rfl ?_
    refine run_s (ss_move rfl) rfl ?_
    refine run_s (ss_lenL (f := (fun r => C.lst (ints r))) rfl) rfl ?_
    refine run_s (ss_lss rfl rfl) rfl ?_
    refine run_nil ?_
    refine aw_cond rfl (fun q10 => ?_) (fun q10 => ?_)
    ·replace h := h.1 (of_decide_eq_true q10)
     refine aw_skip ?_
     refine aw_seq ?_
     refine aw_block ?_
     refine aw_seq ?_
     refine aw_region ?_
     refine run_s (ss_move rfl) rfl ?_
     refine run_s (ss_move rfl) rfl ?_
     refine run_s (ss_move rfl) rfl ?_
     obtain ⟨q11, h⟩ := h
     refine run_s (ss_idxL rfl rfl q11) rfl ?_
     refine run_s (ss_loadL (f := (fun r => C.lst (ints r))) rfl q11) rfl ?_
     obtain ⟨q12, h⟩ := h
     refine run_w (ws_call (xs := [.tmp 25, .tmp 29]) (ids := [30]) rfl rfl rfl rfl (c_spec_l01Rename t (el (growL (t.length : Int) []) v6_1) q12) rfl ?_ )
     rintro _ rfl
     refine ⟨rfl, ?_⟩
     refine run_s (ss_assign rfl) rfl ?_
     refine run_nil ?_
     refine aw_seq ?_
     refine aw_gh (gh_to (n := 36) (σ' := [(30, ⟨orows (renT t (el (growL (t.length : Int) []) v6_1)), []⟩)]) (env' := [(0, .c (.lst (rows t))), (4, .c (.lst (rows (growL (t.length : Int) [])))), (5, .c (.lst (rows v5_1))), (6, .c (ci v6_1)), (7, .ref 30)]) rfl rfl ⟨rfl, rfl, rfl, rfl, rfl, trivial⟩) ?_
     refine aw_region ?_
     refine run_s (ss_move rfl) rfl ?_
     refine run_s (ss_move rfl) rfl ?_
     obtain ⟨q14, h⟩ := h
     refine run_w (ws_callR (xs := [.tmp 31, .tmp 32]) (cs := [.own (orows (renT t (el (growL (t.length : Int) []) v6_1))), .lst (rows v5_1)]) (ids := []) rfl (.inr ⟨rfl, rfl⟩) rfl rfl (fz_cons (fz_own (fz_map (fun _ => (fz_own (fz_map (fun _ => rfl) _))) _)) (fz_cons rfl fz_nil)) (c_spec_l01Less2 (renT t (el (growL (t.length : Int) []) v6_1)) v5_1 q14) rfl ?_ )
     rintro _ rfl
     refine ⟨rfl, rfl, ?_⟩
     refine run_nil ?_
     refine aw_cond rfl (fun q16 => ?_) (fun q16 => ?_)
     ·replace h := h.1 (of_decide_eq_true q16)
      refine aw_gh (gh_to (n := 36) (σ' := [(30, ⟨orows (renT t (el (growL (t.length : Int) []) v6_1)), []⟩)]) (env' := [(0, .c (.lst (rows t))), (4, .c (.lst (rows (growL (t.length : Int) [])))), (5, .c (.lst (rows v5_1))), (6, .c (ci v6_1)), (7, .ref 30)]) rfl rfl ⟨rfl, rfl, rfl, rfl, rfl, trivial⟩) ?_
      refine aw_region ?_
      refine run_s (ss_move rfl) rfl ?_
      refine run_s (ss_assign rfl) rfl ?_
      refine run_nil ?_
      refine aw_region ?_
      refine run_s (ss_move rfl) rfl ?_
      obtain ⟨q17, h⟩ := h
      refine run_s (ss_add rfl rfl q17) rfl ?_
      refine run_s (ss_assign rfl) rfl ?_
      refine run_nil ?_
      exact ⟨renT t (el (growL (t.length : Int) []) v6_1), v6_1 + 1, ghe_step (gh_frzE (id := 30) (fun r => C.lst (ints r)) rfl (fun _ => (fz_own (fz_map (fun _ => rfl) _)))) (ghe_to (n := 36) rfl rfl ⟨rfl, rfl, rfl, rfl, trivial⟩), h.1, h.2⟩
     ·replace h := h.2 (of_decide_eq_false q16)
      refine aw_skip ?_
      refine aw_region ?_
      refine run_s (ss_move rfl) rfl ?_
      obtain ⟨q18, h⟩ := h
      refine run_s (ss_add rfl rfl q18) rfl ?_
      refine run_s (ss_assign rfl) rfl ?_
      refine run_nil ?_
      exact ⟨v5_1, v6_1 + 1, ghe_step (gh_frzE (id := 30) (fun r => C.lst (ints r)) rfl (fun _ => (fz_own (fz_map (fun _ => rfl) _)))) (ghe_to (n := 36) rfl rfl ⟨rfl, rfl, rfl, rfl, trivial⟩), h.1, h.2⟩
    ·replace h := h.2 (of_decide_eq_false q10)
     refine aw_exit ?_
     refine aw_seq ?_
     refine aw_gh (gh_to (n := 36) (σ' := []) (env' := [(5, .c (.lst (rows v5_1)))]) rfl rfl ⟨rfl, trivial⟩) ?_
     refine aw_region ?_
     refine run_s (ss_move rfl) rfl ?_
     refine run_s (ss_assign rfl) rfl ?_
     refine run_s (ss_assign rfl) rfl ?_
     refine run_nil ?_
     refine aw_ret ?_
     exact retAF_mk (retv2 rfl (rv_tmp rfl) (rv_tmp rfl)) rfl rfl ⟨_, (cle_refl _), _, _, h, rfl⟩

theorem c_spec_LeastTable (t : List (List Int)) (hp : small2 t) : AF Try.prog 45 [.lst (rows t)] (fun R_ => R_ = .tup [.lst (rows (LeaT t)), ci (LeaE t)]) :=
  (w_spec_LeastTable t (fun y0 y1 => y0 = LeaT t ∧ y1 = LeaE t) (p_spec_LeastTable t hp)).mono (by rintro r ⟨_, _, ⟨rfl, rfl⟩, rfl⟩; rfl)

set_option maxRecDepth 100000 in
set_option maxHeartbeats 4000000 in
theorem w_impl_LeastCycleSet (c : List (List Int)) (Q : List (List Int) → Int → Prop) (h : wp_impl_LeastCycleSet c Q) : AF Try.prog 18 [.agg [.lst (rows c)]] (fun R_ => ∃ y0 y1, Q y0 y1 ∧ R_ = .tup [.agg [.own (orows y0)], ci y1]) := by
  refine AF.ofWQ (af_enter (n := 15) Try.func18 rfl (by rfl) rfl (Nat.le_of_ble_eq_true rfl) ?_)
  unfold wp_impl_LeastCycleSet at h
  refine aw_seq ?_
  refine aw_gh (gh_to (n := 15) (σ' := []) (env' := [(0, .c (.agg [.lst (rows c)]))]) rfl rfl ⟨rfl, trivial⟩) ?_
  refine aw_region ?_
  refine run_w (ws_boxR rfl (.inl rfl) rfl ⟨rfl, ?_⟩)
  refine run_w (ws_alloc (id := 2) rfl (Nat.le_of_ble_eq_true rfl) ⟨rfl, ?_⟩)
  refine run_s (ss_assign rfl) rfl ?_
  refine run_nil ?_
  refine aw_seq ?_
  refine aw_region ?_
  refine run_s (ss_field_ptr rfl) rfl ?_
  refine run_s (ss_load_ptr rfl rfl) rfl ?_
  obtain ⟨q1, h⟩ := h
  refine run_w (ws_call (xs := [.tmp 8]) (ids := [9]) rfl rfl rfl rfl (c_impl_LeastTable c q1) rfl ?_ )
  rintro _ rfl
  refine ⟨rfl, ?_⟩
  refine run_s (ss_move rfl) rfl ?_
  refine run_s (ss_extract rfl rfl) rfl ?_
  refine run_s (ss_extract rfl rfl) rfl ?_
  refine run_s (ss_assign rfl) rfl ?_
  refine run_s (ss_assign rfl) rfl ?_
  refine run_nil ?_
  refine aw_seq ?_
  refine aw_gh (gh_to (n := 15) (σ' := [(9, ⟨orows (LeaT c), []⟩), (2, ⟨[cnil], []⟩)]) (env' := [(2, .cell 2 0), (3, .c (ci 0)), (4, .ref 9), (5, .c (ci (LeaE c)))]) rfl rfl ⟨rfl, rfl, rfl, rfl, trivial⟩) ?_
  refine aw_region ?_
  refine run_s (ss_move rfl) rfl ?_
  refine run_s (ss_build (ps := [(0, .tmp 12)]) rfl rfl) rfl ?_
  refine run_s (ss_move rfl) rfl ?_
  refine run_w (ws_storeS rfl rfl (Nat.le_of_ble_eq_true rfl) rfl rfl rfl ⟨rfl, ?_⟩)
  refine run_s (ss_assign rfl) rfl ?_
  refine run_nil ?_
  refine aw_ret ?_
  exact retAF_mk (retv2 rfl (rv_struct rfl rfl rfl) (rv_tmp rfl)) rfl rfl ⟨_, (cle_refl _), _, _, h, rfl⟩

theorem c_impl_LeastCycleSet (c : List (List Int)) (hp : small2 c) : AF Try.prog 18 [.agg [.lst (rows c)]] (fun R_ => R_ = .tup [.agg [.own (orows (LeaT c))], ci (LeaE c)]) :=
  (w_impl_LeastCycleSet c (fun y0 y1 => y0 = LeaT c ∧ y1 = LeaE c) (p_impl_LeastCycleSet c hp)).mono (by rintro r ⟨_, _, ⟨rfl, rfl⟩, rfl⟩; rfl)

set_option maxRecDepth 100000 in
set_option maxHeartbeats 4000000 in
theorem w_spec_LeastCycleSet (c : List (List Int)) (Q : List (List Int) → Int → Prop) (h : wp_spec_LeastCycleSet c Q) : AF Try.prog 16 [.agg [.lst (rows c)]] (fun R_ => ∃ y0 y1, Q y0 y1 ∧ R_ = .tup [.agg [.lst (rows y0)], ci y1]) := by
  refine AF.ofWQ (af_enter (n := 18) Try.func16 rfl (by rfl) rfl (Nat.le_of_ble_eq_true rfl) ?_)
  unfold wp_spec_LeastCycleSet at h
  refine aw_seq ?_
  refine aw_gh (gh_to (n := 18) (σ' := []) (env' := [(0, .c (.agg [.lst (rows c)]))]) rfl rfl ⟨rfl, trivial⟩) ?_
  refine aw_region ?_
  refine run_w (ws_boxR rfl (.inl rfl) rfl ⟨rfl, ?_⟩)
  refine run_w (ws_alloc (id := 2) rfl (Nat.le_of_ble_eq_true rfl) ⟨rfl, ?_⟩)
  refine run_s (ss_assign rfl) rfl ?_
  refine run_nil ?_
  refine aw_seq ?_
  refine aw_region ?_
  refine run_s (ss_field_ptr rfl) rfl ?_
  refine run_s (ss_load_ptr rfl rfl) rfl ?_
  obtain ⟨q1, h⟩ := h
  refine run_w (ws_call (xs := [.tmp 8]) (ids := []) rfl rfl rfl rfl (c_spec_LeastTable c q1) rfl ?_ )
  rintro _ rfl
  refine ⟨rfl, ?_⟩
  refine run_s (ss_move rfl) rfl ?_
  refine run_s (ss_extract rfl rfl) rfl ?_
  refine run_s (ss_extract rfl rfl) rfl ?_
  refine run_s (ss_assign rfl) rfl ?_
  refine run_s (ss_assign rfl) rfl ?_
  refine run_nil ?_
  refine aw_seq ?_
  refine aw_seq ?_
  refine aw_gh (gh_to (n := 18) (σ' := [(2, ⟨[cnil], []⟩)]) (env' := [(2, .cell 2 0), (4, .c (.lst (rows (LeaT c)))), (5, .c (ci (LeaE c)))]) rfl rfl ⟨rfl, rfl, rfl, trivial⟩) ?_
  refine aw_region ?_
  refine run_s (ss_move rfl) rfl ?_
  refine run_s (ss_neq rfl rfl) rfl ?_
  refine run_nil ?_
  refine aw_cond rfl (fun q3 => ?_) (fun q3 => ?_)
  ·replace h := h.1 (of_decide_eq_false (bnot_t q3))
   refine aw_seq ?_
   refine aw_region ?_
   refine run_s (ss_build0) rfl ?_
   refine run_s (ss_move rfl) rfl ?_
   refine run_w (ws_storeS rfl rfl (Nat.le_of_ble_eq_true rfl) rfl rfl rfl ⟨rfl, ?_⟩)
   refine run_s (ss_assign rfl) rfl ?_
   refine run_nil ?_
   refine aw_ret ?_
   exact retAF_mk (retv2 rfl (rv_struct rfl rfl rfl) (rv_tmp rfl)) rfl rfl ⟨_, (cle_tup (cleL_cons (cle_agg (cleL_cons cle_nilL cleL_nil)) (cleL_cons (cle_refl _) cleL_nil))), _, _, h, rfl⟩
  ·replace h := h.2 (of_decide_eq_true (bnot_f q3))
   refine aw_skip ?_
   refine aw_seq ?_
   refine aw_region ?_
   refine run_s (ss_move rfl) rfl ?_
   refine run_s (ss_build (ps := [(0, .tmp 16)]) rfl rfl) rfl ?_
   refine run_w (ws_storeS rfl rfl (Nat.le_of_ble_eq_true rfl) rfl rfl rfl ⟨rfl, ?_⟩)
   refine run_s (ss_assign rfl) rfl ?_
   refine run_nil ?_
   refine aw_ret ?_
   exact retAF_mk (retv2 rfl (rv_struct rfl rfl rfl) (rv_tmp rfl)) rfl rfl ⟨_, (cle_refl _), _, _, h, rfl⟩

theorem c_spec_LeastCycleSet (c : List (List Int)) (hp : small2 c) : AF Try.prog 16 [.agg [.lst (rows c)]] (fun R_ => R_ = .tup [.agg [.lst (rows (LeaT c))], ci (LeaE c)]) :=
  (w_spec_LeastCycleSet c (fun y0 y1 => y0 = LeaT c ∧ y1 = LeaE c) (p_spec_LeastCycleSet c hp)).mono (by rintro r ⟨_, _, ⟨rfl, rfl⟩, rfl⟩; rfl)

end Go.Proofs.Ytpcnbdjommcaoaa

/- Contracts of functions that the law FnRackQuotients reaches: conditions, plain proofs, walks; no condition. -/
import Derived.Test.YtbodlnpmplcaoaaKRackQuotientsg
import Derived.Test.YtbodlnpmplcaoaaPp
namespace Go.Proofs.Ytbodlnpmplcaoaa

def wp_laws_likeInts (a : List Int) (b : List Int) (Q : Bool → Prop) : Prop :=
 ((¬ ((a.length : Int) = (b.length : Int)) →
 Q false) ∧
 ((a.length : Int) = (b.length : Int) →
 ∃ (H1 : Int → Prop) (m1 : Int → Nat),
 H1 0 ∧
 ∀ (v5_1 : Int), H1 v5_1 →
 ( ((v5_1 < (a.length : Int) →
 (0 ≤ v5_1 ∧ v5_1 < (a.length : Int)) ∧
 (0 ≤ v5_1 ∧ v5_1 < (b.length : Int)) ∧
 ((¬ (el a v5_1 = el b v5_1) →
 Q false) ∧
 (el a v5_1 = el b v5_1 →
 (InI (v5_1 + 1)) ∧
 (H1 (v5_1 + 1) ∧ m1 (v5_1 + 1) < m1 v5_1)))) ∧
 (¬ (v5_1 < (a.length : Int)) →
 Q true)))))

def wp_laws_same9 (a : List (List Int)) (b : List (List Int)) (Q : Bool → Prop) : Prop :=
 ((¬ ((a.length : Int) = (b.length : Int)) →
 Q false) ∧
 ((a.length : Int) = (b.length : Int) →
 ∃ (H1 : Int → Prop) (m1 : Int → Nat),
 H1 0 ∧
 ∀ (v5_1 : Int), H1 v5_1 →
 ( ((v5_1 < (a.length : Int) →
 (0 ≤ v5_1 ∧ v5_1 < (a.length : Int)) ∧
 (0 ≤ v5_1 ∧ v5_1 < (b.length : Int)) ∧
 (small (el a v5_1) ∧ small (el b v5_1)) ∧
 ((¬ ((el a v5_1) = (el b v5_1)) →
 Q false) ∧
 ((el a v5_1) = (el b v5_1) →
 (InI (v5_1 + 1)) ∧
 (H1 (v5_1 + 1) ∧ m1 (v5_1 + 1) < m1 v5_1)))) ∧
 (¬ (v5_1 < (a.length : Int)) →
 Q true)))))

def wp_laws_most9 (list : List Int) (Q : Int → Prop) : Prop :=
 ∃ (H1 : Int → Int → Prop) (m1 : Int → Int → Nat),
 H1 0 0 ∧
 ∀ (v3_1 : Int) (v4_1 : Int), H1 v3_1 v4_1 →
 ( ((v4_1 < (list.length : Int) →
 (0 ≤ v4_1 ∧ v4_1 < (list.length : Int)) ∧
 ((v3_1 ≤ el list v4_1 →
 (0 ≤ v4_1 ∧ v4_1 < (list.length : Int)) ∧
 (InI ((el list v4_1) + 1)) ∧
 (InI (v4_1 + 1)) ∧
 (H1 ((el list v4_1) + 1) (v4_1 + 1) ∧ m1 ((el list v4_1) + 1) (v4_1 + 1) < m1 v3_1 v4_1)) ∧
 (¬ (v3_1 ≤ el list v4_1) →
 (InI (v4_1 + 1)) ∧
 (H1 v3_1 (v4_1 + 1) ∧ m1 v3_1 (v4_1 + 1) < m1 v3_1 v4_1)))) ∧
 (¬ (v4_1 < (list.length : Int)) →
 Q v3_1)))

theorem p_laws_likeInts (a b : List Int) (hp : small a ∧ small b) : wp_laws_likeInts a b (fun y0 => y0 = decide (a = b)) := by
  unfold wp_laws_likeInts
  obtain ⟨ha, hb⟩ := hp
  refine ⟨fun h => (decide_eq_false fun e => h (by rw [e])).symm, fun h => ⟨fun i => 0 ≤ i ∧ i ≤ (a.length : Int) ∧ Upto i fun j => el a j = el b j, fun i => ((a.length : Int) - i).toNat, ⟨by omega, by omega, upto0⟩, ?_⟩⟩
  rintro i ⟨h0, h1, hI⟩
  dsimp only
  refine ⟨fun hlt => ⟨⟨h0, hlt⟩, ⟨h0, by omega⟩, fun hf => (decide_eq_false fun e => hf (by rw [e])).symm, fun ht => ⟨⟨by omega, by omega⟩, ⟨by omega, by omega, upto1 hI ht⟩, by omega⟩⟩, fun hge => ?_⟩
  exact (decide_eq_true (ext_el (by omega) fun j h2 h3 => hI j h2 (by omega))).symm
theorem p_laws_same9 (a b : List (List Int)) (hp : small2 a ∧ small2 b) : wp_laws_same9 a b (fun y0 => y0 = decide (a = b)) := by
  unfold wp_laws_same9
  obtain ⟨⟨ha, ha2⟩, hb, hb2⟩ := hp
  refine ⟨fun h => (decide_eq_false fun e => h (by rw [e])).symm, fun h => ⟨fun i => 0 ≤ i ∧ i ≤ (a.length : Int) ∧ Upto i fun j => el a j = el b j, fun i => ((a.length : Int) - i).toNat, ⟨by omega, by omega, upto0⟩, ?_⟩⟩
  rintro i ⟨h0, h1, hI⟩
  dsimp only
  refine ⟨fun hlt => ⟨⟨h0, hlt⟩, ⟨h0, by omega⟩, ⟨ha2 _ (el_mem ⟨h0, hlt⟩), hb2 _ (el_mem ⟨h0, by omega⟩)⟩, fun hf => (decide_eq_false fun e => hf (by rw [e])).symm, fun ht => ⟨⟨by omega, by omega⟩, ⟨by omega, by omega, upto1 hI ht⟩, by omega⟩⟩, fun hge => ?_⟩
  exact (decide_eq_true (ext_el (by omega) fun j h2 h3 => hI j h2 (by omega))).symm
theorem p_laws_most9 (list : List Int) (hp : small list ∧ ∀ z_ ∈ list, z_ ≤ 1000000000) : wp_laws_most9 list (fun y0 => y0 = mostI list) := by
  obtain ⟨hs, hz⟩ := hp
  have hs' : (list.length : Int) ≤ 1000000000 := hs
  refine ⟨fun n i => (0 ≤ i ∧ i ≤ (list.length : Int)) ∧ n = mostI (list.take i.toNat), fun _ i => ((list.length : Int) - i).toNat, ⟨⟨by omega, by omega⟩, rfl⟩, ?_⟩
  rintro n i ⟨⟨i0, i1⟩, rfl⟩
  dsimp only
  refine ⟨fun ilt => ?_, fun ige => by rw [List.take_of_length_le (by omega)]⟩
  have st := most_step ⟨i0, ilt⟩
  have hb := hz _ (el_mem ⟨i0, ilt⟩)
  have h0 := most_nonneg (list.take i.toNat)
  refine ⟨⟨i0, ilt⟩, fun hc => ⟨⟨i0, ilt⟩, ⟨by omega, by omega⟩, ⟨by omega, by omega⟩, ⟨⟨by omega, by omega⟩, by rw [st, if_pos hc]⟩, by omega⟩, fun hc => ⟨⟨by omega, by omega⟩, ⟨⟨by omega, by omega⟩, by rw [st, if_neg hc]⟩, by omega⟩⟩
set_option maxRecDepth 100000 in
set_option maxHeartbeats 4000000 in
theorem w_laws_likeInts (a : List Int) (b : List Int) (Q : Bool → Prop) (h : wp_laws_likeInts a b Q) : AF Try.prog 13 [.lst (ints a), .lst (ints b)] (fun R_ => ∃ y0, Q y0 ∧ R_ = cb y0) := by
  refine AF.ofWQ (af_enter (n := 26) Try.func13 rfl (by rfl) rfl (Nat.le_of_ble_eq_true rfl) ?_)
  unfold wp_laws_likeInts at h
  refine aw_seq ?_
  refine aw_gh (gh_to (n := 26) (σ' := []) (env' := [(0, .c (.lst (ints a))), (1, .c (.lst (ints b)))]) rfl rfl ⟨rfl, rfl, trivial⟩) ?_
  refine aw_region ?_
  refine run_s (ss_assign rfl) rfl ?_
  refine run_nil ?_
  refine aw_seq ?_
  refine aw_seq ?_
  refine aw_region ?_
  refine run_s (ss_move rfl) rfl ?_
  refine run_s (ss_lenL (f := ci) rfl) rfl ?_
  refine run_s (ss_move rfl) rfl ?_
  refine run_s (ss_lenL (f := ci) rfl) rfl ?_
  refine run_s (ss_neq rfl rfl) rfl ?_
  refine run_nil ?_
  refine aw_cond rfl (fun q1 => ?_) (fun q1 => ?_)
  · replace h := h.1 (of_decide_eq_false (bnot_t q1))
    refine aw_seq ?_
    refine aw_gh (gh_to (n := 26) (σ' := []) (env' := [(4, .c (cb false))]) rfl rfl ⟨rfl, trivial⟩) ?_
    refine aw_region ?_
    refine run_s (ss_assign rfl) rfl ?_
    refine run_nil ?_
    refine aw_ret ?_
    exact retAF_mk (retv1 rfl (rv_tmp rfl)) rfl rfl ⟨_, (cle_refl _), _, h, rfl⟩
  · replace h := h.2 (of_decide_eq_true (bnot_f q1))
    refine aw_skip ?_
    refine aw_seq ?_
    refine aw_seq ?_
    refine aw_gh (gh_to (n := 26) (σ' := []) (env' := [(0, .c (.lst (ints a))), (1, .c (.lst (ints b)))]) rfl rfl ⟨rfl, rfl, trivial⟩) ?_
    refine aw_region ?_
    refine run_s (ss_assign rfl) rfl ?_
    refine run_nil ?_
    refine aw_block ?_
    obtain ⟨H1, m1, q2, h⟩ := h
    refine aw_loop1 (fun (v5_1 : Int) => ⟨[], [(0, .c (.lst (ints a))), (1, .c (.lst (ints b))), (5, .c (ci v5_1))], 26⟩) H1 m1 ⟨0, ghe_to (n := 26) rfl rfl ⟨rfl, rfl, rfl, trivial⟩, q2⟩ ?_
    rintro v5_1 q2
    replace h := h v5_1 q2
    refine aw_seq ?_
    refine aw_seq ?_
    refine aw_region ?_
    refine run_s (ss_move rfl) rfl ?_
    refine run_s (ss_move rfl) rfl ?_
    refine run_s (ss_lenL (f := ci) rfl) rfl ?_
    refine run_s (ss_lss rfl rfl) rfl ?_
    refine run_nil ?_
    refine aw_cond rfl (fun q3 => ?_) (fun q3 => ?_)
    · replace h := h.1 (of_decide_eq_true q3)
      refine aw_skip ?_
      refine aw_seq ?_
      refine aw_block ?_
      refine aw_seq ?_
      refine aw_gh (gh_to (n := 26) (σ' := []) (env' := [(0, .c (.lst (ints a))), (1, .c (.lst (ints b))), (5, .c (ci v5_1))]) rfl rfl ⟨rfl, rfl, rfl, trivial⟩) ?_
      refine aw_regionD (kd := kdl [0, 0, 0, 1, 0, 0, 0, 1, 0]) (ord := [0, 1, 2, 4, 5, 6, 3, 7, 8]) [] mixed (by kernel_rfl) ?_
      refine rd_s rfl rfl trivial (ss_move rfl) rfl ?_
      refine rd_s rfl rfl trivial (ss_move rfl) rfl ?_
      obtain ⟨q4, h⟩ := h
      refine rd_s rfl rfl trivial (ss_idxL rfl rfl q4) rfl ?_
      refine rd_s rfl rfl trivial (ss_move rfl) rfl ?_
      refine rd_s rfl rfl trivial (ss_move rfl) rfl ?_
      obtain ⟨q5, h⟩ := h
      refine rd_s rfl rfl trivial (ss_idxL rfl rfl q5) rfl ?_
      refine rd_l rfl rfl trivial (ss_loadL (f := ci) rfl q4) rfl ?_
      refine rd_l rfl rfl trivial (ss_loadL (f := ci) rfl q5) rfl ?_
      refine rd_s rfl rfl trivial (ss_neq rfl rfl) rfl ?_
      refine rd_nil ?_
      refine aw_cond rfl (fun q6 => ?_) (fun q6 => ?_)
      · replace h := h.1 (of_decide_eq_false (bnot_t q6))
        refine aw_seq ?_
        refine aw_gh (gh_to (n := 26) (σ' := []) (env' := []) rfl rfl trivial) ?_
        refine aw_region ?_
        refine run_s (ss_assign rfl) rfl ?_
        refine run_nil ?_
        refine aw_ret ?_
        exact retAF_mk (retv1 rfl (rv_tmp rfl)) rfl rfl ⟨_, (cle_refl _), _, h, rfl⟩
      · replace h := h.2 (of_decide_eq_true (bnot_f q6))
        refine aw_skip ?_
        refine aw_gh (gh_to (n := 26) (σ' := []) (env' := [(0, .c (.lst (ints a))), (1, .c (.lst (ints b))), (5, .c (ci v5_1))]) rfl rfl ⟨rfl, rfl, rfl, trivial⟩) ?_
        refine aw_region ?_
        refine run_s (ss_move rfl) rfl ?_
        obtain ⟨q7, h⟩ := h
        refine run_s (ss_add rfl rfl q7) rfl ?_
        refine run_s (ss_assign rfl) rfl ?_
        refine run_nil ?_
        exact ⟨v5_1 + 1, ghe_to (n := 26) rfl rfl ⟨rfl, rfl, rfl, trivial⟩, h.1, h.2⟩
    · replace h := h.2 (of_decide_eq_false q3)
      refine aw_exit ?_
      refine aw_seq ?_
      refine aw_gh (gh_to (n := 26) (σ' := []) (env' := []) rfl rfl trivial) ?_
      refine aw_region ?_
      refine run_s (ss_assign rfl) rfl ?_
      refine run_nil ?_
      refine aw_ret ?_
      exact retAF_mk (retv1 rfl (rv_tmp rfl)) rfl rfl ⟨_, (cle_refl _), _, h, rfl⟩

theorem c_laws_likeInts (a : List Int) (b : List Int) (hp : small a ∧ small b) : AF Try.prog 13 [.lst (ints a), .lst (ints b)] (fun R_ => R_ = cb (decide (a = b))) :=
  (w_laws_likeInts a b (fun y0 => y0 = decide (a = b)) (p_laws_likeInts a b hp)).mono (by rintro r ⟨_, rfl, rfl⟩; rfl)

set_option maxRecDepth 100000 in
set_option maxHeartbeats 4000000 in
theorem w_laws_same9 (a : List (List Int)) (b : List (List Int)) (Q : Bool → Prop) (h : wp_laws_same9 a b Q) : AF Try.prog 26 [.lst (rows a), .lst (rows b)] (fun R_ => ∃ y0, Q y0 ∧ R_ = cb y0) := by
  refine AF.ofWQ (af_enter (n := 27) Try.func26 rfl (by rfl) rfl (Nat.le_of_ble_eq_true rfl) ?_)
  unfold wp_laws_same9 at h
  refine aw_seq ?_
  refine aw_gh (gh_to (n := 27) (σ' := []) (env' := [(0, .c (.lst (rows a))), (1, .c (.lst (rows b)))]) rfl rfl ⟨rfl, rfl, trivial⟩) ?_
  refine aw_region ?_
  refine run_s (ss_assign rfl) rfl ?_
  refine run_nil ?_
  refine aw_seq ?_
  refine aw_seq ?_
  refine aw_region ?_
  refine run_s (ss_move rfl) rfl ?_
  refine run_s (ss_lenL (f := (fun r => C.lst (ints r))) rfl) rfl ?_
  refine run_s (ss_move rfl) rfl ?_
  refine run_s (ss_lenL (f := (fun r => C.lst (ints r))) rfl) rfl ?_
  refine run_s (ss_neq rfl rfl) rfl ?_
  refine run_nil ?_
  refine aw_cond rfl (fun q1 => ?_) (fun q1 => ?_)
  · replace h := h.1 (of_decide_eq_false (bnot_t q1))
    refine aw_seq ?_
    refine aw_gh (gh_to (n := 27) (σ' := []) (env' := [(4, .c (cb false))]) rfl rfl ⟨rfl, trivial⟩) ?_
    refine aw_region ?_
    refine run_s (ss_assign rfl) rfl ?_
    refine run_nil ?_
    refine aw_ret ?_
    exact retAF_mk (retv1 rfl (rv_tmp rfl)) rfl rfl ⟨_, (cle_refl _), _, h, rfl⟩
  · replace h := h.2 (of_decide_eq_true (bnot_f q1))
    refine aw_skip ?_
    refine aw_seq ?_
    refine aw_seq ?_
    refine aw_gh (gh_to (n := 27) (σ' := []) (env' := [(0, .c (.lst (rows a))), (1, .c (.lst (rows b)))]) rfl rfl ⟨rfl, rfl, trivial⟩) ?_
    refine aw_region ?_
    refine run_s (ss_assign rfl) rfl ?_
    refine run_nil ?_
    refine aw_block ?_
    obtain ⟨H1, m1, q2, h⟩ := h
    refine aw_loop1 (fun (v5_1 : Int) => ⟨[], [(0, .c (.lst (rows a))), (1, .c (.lst (rows b))), (5, .c (ci v5_1))], 27⟩) H1 m1 ⟨0, ghe_to (n := 27) rfl rfl ⟨rfl, rfl, rfl, trivial⟩, q2⟩ ?_
    rintro v5_1 q2
    replace h := h v5_1 q2
    refine aw_seq ?_
    refine aw_seq ?_
    refine aw_region ?_
    refine run_s (ss_move rfl) rfl ?_
    refine run_s (ss_move rfl) rfl ?_
    refine run_s (ss_lenL (f := (fun r => C.lst (ints r))) rfl) rfl ?_
    refine run_s (ss_lss rfl rfl) rfl ?_
    refine run_nil ?_
    refine aw_cond rfl (fun q3 => ?_) (fun q3 => ?_)
    · replace h := h.1 (of_decide_eq_true q3)
      refine aw_skip ?_
      refine aw_seq ?_
      refine aw_block ?_
      refine aw_seq ?_
      refine aw_gh (gh_to (n := 27) (σ' := []) (env' := [(0, .c (.lst (rows a))), (1, .c (.lst (rows b))), (5, .c (ci v5_1))]) rfl rfl ⟨rfl, rfl, rfl, trivial⟩) ?_
      refine aw_regionD (kd := kdl [0, 0, 0, 1, 0, 0, 0, 1, 2, 0]) (ord := [0, 1, 2, 4, 5, 6, 3, 7, 8, 9]) [] mixed (by kernel_rfl) ?_
      refine rd_s rfl rfl trivial (ss_move rfl) rfl ?_
      refine rd_s rfl rfl trivial (ss_move rfl) rfl ?_
      obtain ⟨q4, h⟩ := h
      refine rd_s rfl rfl trivial (ss_idxL rfl rfl q4) rfl ?_
      refine rd_s rfl rfl trivial (ss_move rfl) rfl ?_
      refine rd_s rfl rfl trivial (ss_move rfl) rfl ?_
      obtain ⟨q5, h⟩ := h
      refine rd_s rfl rfl trivial (ss_idxL rfl rfl q5) rfl ?_
      refine rd_l rfl rfl trivial (ss_loadL (f := (fun r => C.lst (ints r))) rfl q4) rfl ?_
      refine rd_l rfl rfl trivial (ss_loadL (f := (fun r => C.lst (ints r))) rfl q5) rfl ?_
      obtain ⟨q6, h⟩ := h
      refine rd_w rfl rfl trivial rfl rfl (ws_call (xs := [.tmp 20, .tmp 24]) (ids := []) rfl rfl rfl rfl (c_laws_likeInts (el a v5_1) (el b v5_1) q6) rfl ?_ )
      rintro _ rfl
      refine ⟨rfl, ?_⟩
      refine rd_s rfl rfl trivial (ss_not rfl) rfl ?_
      refine rd_nil ?_
      refine aw_cond rfl (fun q8 => ?_) (fun q8 => ?_)
      · replace h := h.1 (of_decide_eq_false (bnot_t q8))
        refine aw_seq ?_
        refine aw_gh (gh_to (n := 27) (σ' := []) (env' := []) rfl rfl trivial) ?_
        refine aw_region ?_
        refine run_s (ss_assign rfl) rfl ?_
        refine run_nil ?_
        refine aw_ret ?_
        exact retAF_mk (retv1 rfl (rv_tmp rfl)) rfl rfl ⟨_, (cle_refl _), _, h, rfl⟩
      · replace h := h.2 (of_decide_eq_true (bnot_f q8))
        refine aw_skip ?_
        refine aw_gh (gh_to (n := 27) (σ' := []) (env' := [(0, .c (.lst (rows a))), (1, .c (.lst (rows b))), (5, .c (ci v5_1))]) rfl rfl ⟨rfl, rfl, rfl, trivial⟩) ?_
        refine aw_region ?_
        refine run_s (ss_move rfl) rfl ?_
        obtain ⟨q9, h⟩ := h
        refine run_s (ss_add rfl rfl q9) rfl ?_
        refine run_s (ss_assign rfl) rfl ?_
        refine run_nil ?_
        exact ⟨v5_1 + 1, ghe_to (n := 27) rfl rfl ⟨rfl, rfl, rfl, trivial⟩, h.1, h.2⟩
    · replace h := h.2 (of_decide_eq_false q3)
      refine aw_exit ?_
      refine aw_seq ?_
      refine aw_gh (gh_to (n := 27) (σ' := []) (env' := []) rfl rfl trivial) ?_
      refine aw_region ?_
      refine run_s (ss_assign rfl) rfl ?_
      refine run_nil ?_
      refine aw_ret ?_
      exact retAF_mk (retv1 rfl (rv_tmp rfl)) rfl rfl ⟨_, (cle_refl _), _, h, rfl⟩

theorem c_laws_same9 (a : List (List Int)) (b : List (List Int)) (hp : small2 a ∧ small2 b) : AF Try.prog 26 [.lst (rows a), .lst (rows b)] (fun R_ => R_ = cb (decide (a = b))) :=
  (w_laws_same9 a b (fun y0 => y0 = decide (a = b)) (p_laws_same9 a b hp)).mono (by rintro r ⟨_, rfl, rfl⟩; rfl)

set_option maxRecDepth 100000 in
set_option maxHeartbeats 4000000 in
theorem w_laws_most9 (list : List Int) (Q : Int → Prop) (h : wp_laws_most9 list Q) : AF Try.prog 39 [.lst (ints list)] (fun R_ => ∃ y0, Q y0 ∧ R_ = ci y0) := by
  refine AF.ofWQ (af_enter (n := 23) Try.func39 rfl (by rfl) rfl (Nat.le_of_ble_eq_true rfl) ?_)
  unfold wp_laws_most9 at h
  refine aw_seq ?_
  refine aw_gh (gh_to (n := 23) (σ' := []) (env' := [(0, .c (.lst (ints list)))]) rfl rfl ⟨rfl, trivial⟩) ?_
  refine aw_region ?_
  refine run_s (ss_assign rfl) rfl ?_
  refine run_nil ?_
  refine aw_seq ?_
  refine aw_region ?_
  refine run_s (ss_assign rfl) rfl ?_
  refine run_nil ?_
  refine aw_seq ?_
  refine aw_seq ?_
  refine aw_region ?_
  refine run_s (ss_assign rfl) rfl ?_
  refine run_nil ?_
  refine aw_block ?_
  obtain ⟨H1, m1, q1, h⟩ := h
  refine aw_loop2 (fun (v3_1 : Int) (v4_1 : Int) => ⟨[], [(0, .c (.lst (ints list))), (3, .c (ci v3_1)), (4, .c (ci v4_1))], 23⟩) H1 m1 ⟨0, 0, ghe_to (n := 23) rfl rfl ⟨rfl, rfl, rfl, trivial⟩, q1⟩ ?_
  rintro v3_1 v4_1 q1
  replace h := h v3_1 v4_1 q1
  refine aw_seq ?_
  refine aw_seq ?_
  refine aw_region ?_
  refine run_s (ss_move rfl) rfl ?_
  refine run_s (ss_move rfl) rfl ?_
  refine run_s (ss_lenL (f := ci) rfl) rfl ?_
  refine run_s (ss_lss rfl rfl) rfl ?_
  refine run_nil ?_
  refine aw_cond rfl (fun q2 => ?_) (fun q2 => ?_)
  · replace h := h.1 (of_decide_eq_true q2)
    refine aw_skip ?_
    refine aw_seq ?_
    refine aw_block ?_
    refine aw_seq ?_
    refine aw_region ?_
    refine run_s (ss_move rfl) rfl ?_
    refine run_s (ss_move rfl) rfl ?_
    obtain ⟨q3, h⟩ := h
    refine run_s (ss_idxL rfl rfl q3) rfl ?_
    refine run_s (ss_loadL (f := ci) rfl q3) rfl ?_
    refine run_s (ss_move rfl) rfl ?_
    refine run_s (ss_geq rfl rfl) rfl ?_
    refine run_nil ?_
    refine aw_cond rfl (fun q4 => ?_) (fun q4 => ?_)
    · replace h := h.1 (of_decide_eq_true q4)
      refine aw_gh (gh_to (n := 23) (σ' := []) (env' := [(0, .c (.lst (ints list))), (3, .c (ci v3_1)), (4, .c (ci v4_1))]) rfl rfl ⟨rfl, rfl, rfl, trivial⟩) ?_
      refine aw_region ?_
      refine run_s (ss_move rfl) rfl ?_
      refine run_s (ss_move rfl) rfl ?_
      obtain ⟨q5, h⟩ := h
      refine run_s (ss_idxL rfl rfl q5) rfl ?_
      refine run_s (ss_loadL (f := ci) rfl q5) rfl ?_
      obtain ⟨q6, h⟩ := h
      refine run_s (ss_add rfl rfl q6) rfl ?_
      refine run_s (ss_assign rfl) rfl ?_
      refine run_nil ?_
      refine aw_gh (gh_to (n := 23) (σ' := []) (env' := [(0, .c (.lst (ints list))), (3, .c (ci ((el list v4_1) + 1))), (4, .c (ci v4_1))]) rfl rfl ⟨rfl, rfl, rfl, trivial⟩) ?_
      refine aw_region ?_
      refine run_s (ss_move rfl) rfl ?_
      obtain ⟨q7, h⟩ := h
      refine run_s (ss_add rfl rfl q7) rfl ?_
      refine run_s (ss_assign rfl) rfl ?_
      refine run_nil ?_
      exact ⟨(el list v4_1) + 1, v4_1 + 1, ghe_to (n := 23) rfl rfl ⟨rfl, rfl, rfl, trivial⟩, h.1, h.2⟩
    · replace h := h.2 (of_decide_eq_false q4)
      refine aw_skip ?_
      refine aw_gh (gh_to (n := 23) (σ' := []) (env' := [(0, .c (.lst (ints list))), (3, .c (ci v3_1)), (4, .c (ci v4_1))]) rfl rfl ⟨rfl, rfl, rfl, trivial⟩) ?_
      refine aw_region ?_
      refine run_s (ss_move rfl) rfl ?_
      obtain ⟨q8, h⟩ := h
      refine run_s (ss_add rfl rfl q8) rfl ?_
      refine run_s (ss_assign rfl) rfl ?_
      refine run_nil ?_
      exact ⟨v3_1, v4_1 + 1, ghe_to (n := 23) rfl rfl ⟨rfl, rfl, rfl, trivial⟩, h.1, h.2⟩
  · replace h := h.2 (of_decide_eq_false q2)
    refine aw_exit ?_
    refine aw_seq ?_
    refine aw_gh (gh_to (n := 23) (σ' := []) (env' := [(3, .c (ci v3_1))]) rfl rfl ⟨rfl, trivial⟩) ?_
    refine aw_region ?_
    refine run_s (ss_move rfl) rfl ?_
    refine run_s (ss_assign rfl) rfl ?_
    refine run_nil ?_
    refine aw_ret ?_
    exact retAF_mk (retv1 rfl (rv_tmp rfl)) rfl rfl ⟨_, (cle_refl _), _, h, rfl⟩

theorem c_laws_most9 (list : List Int) (hp : small list ∧ ∀ z_ ∈ list, z_ ≤ 1000000000) : AF Try.prog 39 [.lst (ints list)] (fun R_ => R_ = ci (mostI list)) :=
  (w_laws_most9 list (fun y0 => y0 = mostI list) (p_laws_most9 list hp)).mono (by rintro r ⟨_, rfl, rfl⟩; rfl)

def wp_spec_DrawCongruenceFrom (code : List Int) (Q : List (List Int) → Int → Int → Prop) : Prop :=
 (small code ∧ bytes code) ∧
 ∀ (r1_0 : List Int) (r1_1 : Int) (r1_2 : Int), (r1_0 = code ∧ okS code r1_1 r1_2) →
 (okS r1_0 r1_1 r1_2 ∧ 1 ≤ (10 : Int) ∧ (10 : Int) ≤ 12) ∧
 ∀ (r2_0 : List (List Int)) (o2_0 : List Int) (o2_1 : Int) (o2_2 : Int), (drT (10 : Int) r2_0 ∧ o2_0 = r1_0 ∧ okS r1_0 o2_1 o2_2) →
 (okS o2_0 o2_1 o2_2 ∧ InI (r2_0.length : Int)) ∧
 ∀ (r3_0 : Int) (o3_0 : List Int) (o3_1 : Int) (o3_2 : Int), (nxP (r2_0.length : Int) r3_0 ∧ o3_0 = o2_0 ∧ okS o2_0 o3_1 o3_2) →
 (okS o3_0 o3_1 o3_2 ∧ InI (24 : Int)) ∧
 ∀ (r4_0 : Int) (o4_0 : List Int) (o4_1 : Int) (o4_2 : Int), (nxP (24 : Int) r4_0 ∧ o4_0 = o3_0 ∧ okS o3_0 o4_1 o4_2) →
 ((0 : Int) ≤ r4_0 ∧ (0 : Int) < 23 ∧ r4_0 ≤ 9223372036854775807) ∧
 (InI (r3_0 - (r4_0 / 23))) ∧
 (okS o4_0 o4_1 o4_2 ∧ InI (24 : Int)) ∧
 ∀ (r5_0 : Int) (o5_0 : List Int) (o5_1 : Int) (o5_2 : Int), (nxP (24 : Int) r5_0 ∧ o5_0 = o4_0 ∧ okS o4_0 o5_1 o5_2) →
 ((0 : Int) ≤ r5_0 ∧ (0 : Int) < 23 ∧ r5_0 ≤ 9223372036854775807) ∧
 (InI ((r2_0.length : Int) + (r5_0 / 23))) ∧
 (okS o5_0 o5_1 o5_2 ∧ InI ((r2_0.length : Int) + (r5_0 / 23))) ∧
 ∀ (r6_0 : Int) (o6_0 : List Int) (o6_1 : Int) (o6_2 : Int), (nxP ((r2_0.length : Int) + (r5_0 / 23)) r6_0 ∧ o6_0 = o5_0 ∧ okS o5_0 o6_1 o6_2) →
 Q r2_0 (r3_0 - (r4_0 / 23)) r6_0

def wp_spec_DrawIsCongruence (code : List Int) (Q : List (List Int) → List Int → Prop) : Prop :=
 (small code ∧ bytes code) ∧
 ∀ (r1_0 : List Int) (r1_1 : Int) (r1_2 : Int), (r1_0 = code ∧ okS code r1_1 r1_2) →
 (okS r1_0 r1_1 r1_2 ∧ 1 ≤ (8 : Int) ∧ (8 : Int) ≤ 12) ∧
 ∀ (r2_0 : List (List Int)) (o2_0 : List Int) (o2_1 : Int) (o2_2 : Int), (drT (8 : Int) r2_0 ∧ o2_0 = r1_0 ∧ okS r1_0 o2_1 o2_2) →
 (small2 r2_0) ∧
 (((isRk r2_0) = true →
 (okS o2_0 o2_1 o2_2 ∧ InI (3 : Int)) ∧
 ∀ (r3_0 : Int) (o3_0 : List Int) (o3_1 : Int) (o3_2 : Int), (nxP (3 : Int) r3_0 ∧ o3_0 = o2_0 ∧ okS o2_0 o3_1 o3_2) →
 ((0 < r3_0 →
 (okS o3_0 o3_1 o3_2 ∧ InI (r2_0.length : Int)) ∧
 ∀ (r4_0 : Int) (o4_0 : List Int) (o4_1 : Int) (o4_2 : Int), (nxP (r2_0.length : Int) r4_0 ∧ o4_0 = o3_0 ∧ okS o3_0 o4_1 o4_2) →
 (okS o4_0 o4_1 o4_2 ∧ InI (r2_0.length : Int)) ∧
 ∀ (r5_0 : Int) (o5_0 : List Int) (o5_1 : Int) (o5_2 : Int), (nxP (r2_0.length : Int) r5_0 ∧ o5_0 = o4_0 ∧ okS o4_0 o5_1 o5_2) →
 (isTab r2_0 = true ∧ 0 ≤ r4_0 ∧ r4_0 < (r2_0.length : Int) ∧ 0 ≤ r5_0 ∧ r5_0 < (r2_0.length : Int)) ∧
 Q r2_0 (cgI r2_0 r4_0 r5_0)) ∧
 (¬ (0 < r3_0) →
 ∃ (H1 : Int → List Int → Int → Int → List Int → Prop) (m1 : Int → List Int → Int → Int → List Int → Nat),
 H1 0 o3_0 o3_1 o3_2 ([] : List Int) ∧
 ∀ (v8_1 : Int) (f10_0_1 : List Int) (f10_1_1 : Int) (f10_2_1 : Int) (o33_1 : List Int), H1 v8_1 f10_0_1 f10_1_1 f10_2_1 o33_1 →
 ( ((v8_1 < (r2_0.length : Int) →
 (okS f10_0_1 f10_1_1 f10_2_1 ∧ InI (3 : Int)) ∧
 ∀ (r6_0 : Int) (o6_0 : List Int) (o6_1 : Int) (o6_2 : Int), (nxP (3 : Int) r6_0 ∧ o6_0 = f10_0_1 ∧ okS f10_0_1 o6_1 o6_2) →
 ((o33_1.length : Int) + (([r6_0]).length : Int) ≤ 1000000000) ∧
 (InI (v8_1 + 1)) ∧
 (H1 (v8_1 + 1) o6_0 o6_1 o6_2 (o33_1 ++ ([r6_0])) ∧ m1 (v8_1 + 1) o6_0 o6_1 o6_2 (o33_1 ++ ([r6_0])) < m1 v8_1 f10_0_1 f10_1_1 f10_2_1 o33_1)) ∧
 (¬ (v8_1 < (r2_0.length : Int)) →
 (okS f10_0_1 f10_1_1 f10_2_1 ∧ InI (6 : Int)) ∧
 ∀ (r7_0 : Int) (o7_0 : List Int) (o7_1 : Int) (o7_2 : Int), (nxP (6 : Int) r7_0 ∧ o7_0 = f10_0_1 ∧ okS f10_0_1 o7_1 o7_2) →
 ((r7_0 = 0 →
 Q r2_0 o33_1) ∧
 (¬ (r7_0 = 0) →
 (small o33_1) ∧
 Q r2_0 (numI o33_1))))))))) ∧
 ((isRk r2_0) = false →
 ∃ (H2 : Int → List Int → Int → Int → List Int → Prop) (m2 : Int → List Int → Int → Int → List Int → Nat),
 H2 0 o2_0 o2_1 o2_2 ([] : List Int) ∧
 ∀ (v8_1 : Int) (f10_0_1 : List Int) (f10_1_1 : Int) (f10_2_1 : Int) (o33_1 : List Int), H2 v8_1 f10_0_1 f10_1_1 f10_2_1 o33_1 →
 ( ((v8_1 < (r2_0.length : Int) →
 (okS f10_0_1 f10_1_1 f10_2_1 ∧ InI (3 : Int)) ∧
 ∀ (r8_0 : Int) (o8_0 : List Int) (o8_1 : Int) (o8_2 : Int), (nxP (3 : Int) r8_0 ∧ o8_0 = f10_0_1 ∧ okS f10_0_1 o8_1 o8_2) →
 ((o33_1.length : Int) + (([r8_0]).length : Int) ≤ 1000000000) ∧
 (InI (v8_1 + 1)) ∧
 (H2 (v8_1 + 1) o8_0 o8_1 o8_2 (o33_1 ++ ([r8_0])) ∧ m2 (v8_1 + 1) o8_0 o8_1 o8_2 (o33_1 ++ ([r8_0])) < m2 v8_1 f10_0_1 f10_1_1 f10_2_1 o33_1)) ∧
 (¬ (v8_1 < (r2_0.length : Int)) →
 (okS f10_0_1 f10_1_1 f10_2_1 ∧ InI (6 : Int)) ∧
 ∀ (r9_0 : Int) (o9_0 : List Int) (o9_1 : Int) (o9_2 : Int), (nxP (6 : Int) r9_0 ∧ o9_0 = f10_0_1 ∧ okS f10_0_1 o9_1 o9_2) →
 ((r9_0 = 0 →
 Q r2_0 o33_1) ∧
 (¬ (r9_0 = 0) →
 (small o33_1) ∧
 Q r2_0 (numI o33_1))))))))

def wp_spec_DrawQuotientRack (code : List Int) (Q : List (List Int) → List Int → Prop) : Prop :=
 (small code ∧ bytes code) ∧
 ∀ (r1_0 : List (List Int)) (r1_1 : List Int), (drT 8 r1_0 ∧ (r1_1.length : Int) ≤ 12) →
 Q r1_0 r1_1

theorem p_spec_DrawCongruenceFrom (code : List Int) (hp : small code ∧ bytes code) : wp_spec_DrawCongruenceFrom code (fun y0 y1 y2 => drT 10 y0 ∧ (-1 ≤ y1 ∧ y1 ≤ 12) ∧ 0 ≤ y2 ∧ y2 ≤ 12) := by
  refine ⟨hp, ?_⟩
  rintro c a h ⟨rfl, h1⟩
  refine ⟨⟨h1, by omega, by omega⟩, ?_⟩
  rintro t o0 o1 o2 ⟨ht, rfl, h2⟩
  have hl := ht.1
  refine ⟨⟨h2, by omega, by omega⟩, ?_⟩
  rintro x p0 p1 p2 ⟨hx, rfl, h3⟩
  refine ⟨⟨h3, by omega, by omega⟩, ?_⟩
  rintro k q0 q1 q2 ⟨hk, rfl, h4⟩
  have hk2 := hk.2 (by omega)
  have hx2 : 0 ≤ x ∧ x ≤ 10 := by
    by_cases hc : (t.length : Int) < 1
    · rw [hx.1 hc]; omega
    · have := hx.2 hc; omega
  refine ⟨⟨hk2.1, by omega, by omega⟩, ⟨by omega, by omega⟩, ⟨h4, by omega, by omega⟩, ?_⟩
  rintro j b0 b1 b2 ⟨hj, rfl, h5⟩
  have hj2 := hj.2 (by omega)
  refine ⟨⟨hj2.1, by omega, by omega⟩, ⟨by omega, by omega⟩, ⟨h5, by omega, by omega⟩, ?_⟩
  rintro y d0 d1 d2 ⟨hy, rfl, _⟩
  have hy2 : 0 ≤ y ∧ y ≤ 12 := by
    by_cases hc : (t.length : Int) + j / 23 < 1
    · rw [hy.1 hc]; omega
    · have := hy.2 hc; omega
  exact ⟨ht, ⟨by omega, by omega⟩, hy2⟩
theorem p_spec_DrawIsCongruence (code : List Int) (hp : small code ∧ bytes code) : wp_spec_DrawIsCongruence code (fun y0 y1 => drT 8 y0 ∧ (y1.length : Int) ≤ 12) := by
  refine ⟨hp, ?_⟩
  rintro c a h ⟨rfl, h1⟩
  refine ⟨⟨h1, by omega, by omega⟩, ?_⟩
  rintro t o0 o1 o2 ⟨ht, rfl, h2⟩
  have hl := ht.1
  have st : small2 t := ⟨by show (_ : Int) ≤ _; omega, fun q hq => by show (_ : Int) ≤ _; have := (ht.2 q hq).1; omega⟩
  refine ⟨st, fun hrk => ⟨⟨h2, by omega, by omega⟩, ?_⟩, fun _ => ?_⟩
  · have tt := isRk_tab hrk
    have hn := isTab_len tt
    rintro k p0 p1 p2 ⟨hk, rfl, h3⟩
    refine ⟨fun _ => ⟨⟨h3, by omega, by omega⟩, ?_⟩, fun _ => ?_⟩
    · rintro x q0 q1 q2 ⟨hx, rfl, h4⟩
      refine ⟨⟨h4, by omega, by omega⟩, ?_⟩
      rintro y b0 b1 b2 ⟨hy, rfl, _⟩
      have hx2 := hx.2 (by omega)
      have hy2 := hy.2 (by omega)
      exact ⟨⟨tt, hx2.1, hx2.2, hy2.1, hy2.2⟩, ht, by have := (cgP_ex t x y).1; omega⟩
    · refine ⟨fun v c a h l => (0 ≤ v ∧ v ≤ (t.length : Int)) ∧ c = p0 ∧ okS c a h ∧ (l.length : Int) = v, fun v _ _ _ _ => ((t.length : Int) - v).toNat, ⟨⟨by omega, by omega⟩, rfl, h3, by simp⟩, ?_⟩
      rintro v c a h l ⟨⟨v0, v1⟩, rfl, hS, ll⟩
      dsimp only
      refine ⟨fun g => ⟨⟨hS, by omega, by omega⟩, ?_⟩, fun g => ⟨⟨hS, by omega, by omega⟩, ?_⟩⟩
      · rintro q b0 b1 b2 ⟨_, rfl, h4⟩
        exact ⟨by rw [List.length_singleton]; omega, ⟨by omega, by omega⟩, ⟨⟨by omega, by omega⟩, rfl, h4, by simp; omega⟩, by omega⟩
      · rintro q b0 b1 b2 ⟨_, rfl, h4⟩
        exact ⟨fun _ => ⟨ht, by omega⟩, fun _ => ⟨by show (_ : Int) ≤ _; omega, ht, by have := (num_ex l).1; omega⟩⟩
  · refine ⟨fun v c a h l => (0 ≤ v ∧ v ≤ (t.length : Int)) ∧ c = o0 ∧ okS c a h ∧ (l.length : Int) = v, fun v _ _ _ _ => ((t.length : Int) - v).toNat, ⟨⟨by omega, by omega⟩, rfl, h2, by simp⟩, ?_⟩
    rintro v c a h l ⟨⟨v0, v1⟩, rfl, hS, ll⟩
    dsimp only
    refine ⟨fun g => ⟨⟨hS, by omega, by omega⟩, ?_⟩, fun g => ⟨⟨hS, by omega, by omega⟩, ?_⟩⟩
    · rintro q b0 b1 b2 ⟨_, rfl, h4⟩
      exact ⟨by rw [List.length_singleton]; omega, ⟨by omega, by omega⟩, ⟨⟨by omega, by omega⟩, rfl, h4, by simp; omega⟩, by omega⟩
    · rintro q b0 b1 b2 ⟨_, rfl, h4⟩
      exact ⟨fun _ => ⟨ht, by omega⟩, fun _ => ⟨by show (_ : Int) ≤ _; omega, ht, by have := (num_ex l).1; omega⟩⟩
theorem p_spec_DrawQuotientRack (code : List Int) (hp : small code ∧ bytes code) : wp_spec_DrawQuotientRack code (fun y0 y1 => drT 8 y0 ∧ (y1.length : Int) ≤ 12) := by
  refine ⟨hp, ?_⟩
  rintro t l h
  exact h
set_option maxRecDepth 100000 in
set_option maxHeartbeats 4000000 in
theorem w_spec_DrawCongruenceFrom (code : List Int) (Q : List (List Int) → Int → Int → Prop) (h : wp_spec_DrawCongruenceFrom code Q) : AF Try.prog 51 [.lst (bys code)] (fun R_ => ∃ y0 y1 y2, Q y0 y1 y2 ∧ R_ = .tup [.agg [.own (orows y0)], ci y1, ci y2]) := by
  refine AF.ofWQ (af_enter (n := 30) Try.func51 rfl (by rfl) rfl (Nat.le_of_ble_eq_true rfl) ?_)
  unfold wp_spec_DrawCongruenceFrom at h
  refine aw_seq ?_
  refine aw_gh (gh_to (n := 30) (σ' := []) (env' := [(0, .c (.lst (bys code)))]) rfl rfl ⟨rfl, trivial⟩) ?_
  refine aw_region ?_
  refine run_w (ws_alloc (id := 2) rfl (Nat.le_of_ble_eq_true rfl) ⟨rfl, ?_⟩)
  refine run_s (ss_assign rfl) rfl ?_
  refine run_s (ss_assign rfl) rfl ?_
  refine run_nil ?_
  refine aw_seq ?_
  refine aw_region ?_
  refine run_s (ss_move rfl) rfl ?_
  obtain ⟨q1, h⟩ := h
  refine run_w (ws_call (xs := [.tmp 8]) (ids := [9]) rfl rfl rfl rfl (c_spec_l01From code q1) rfl ?_ )
  rintro _ ⟨r1_0, r1_1, r1_2, q2, rfl⟩
  replace h := h r1_0 r1_1 r1_2 q2
  refine ⟨rfl, ?_⟩
  refine run_s (ss_assign rfl) rfl ?_
  refine run_nil ?_
  refine aw_seq ?_
  refine aw_region ?_
  refine run_s (ss_move rfl) rfl ?_
  obtain ⟨q3, h⟩ := h
  refine run_w (ws_callM (xs := [.tmp 10, .const (.int .i64 (10))]) (cs := [.obox [.lst (bys r1_0), ci r1_1, cu r1_2], ci 10]) (ids := [11]) rfl (.inr ⟨rfl, rfl⟩) rfl rfl rfl (c_spec_l03DrawAny r1_0 r1_1 r1_2 10 q3) rfl rfl ?_ )
  rintro _ _ ⟨r2_0, o2_0, o2_1, o2_2, q4, rfl, rfl⟩
  replace h := h r2_0 o2_0 o2_1 o2_2 q4
  refine ⟨rfl, rfl, ?_⟩
  refine run_w (ws_alloc (id := 6) rfl (Nat.le_of_ble_eq_true rfl) ⟨rfl, ?_⟩)
  refine run_w (ws_storeS rfl rfl (Nat.le_of_ble_eq_true rfl) rfl rfl rfl ⟨rfl, ?_⟩)
  refine run_nil ?_
  refine aw_seq ?_
  refine aw_gh (gh_to (n := 30) (σ' := [(6, ⟨[.hole], [(0, .ref 11)]⟩), (11, ⟨orows r2_0, []⟩), (9, ⟨[.lst (bys o2_0), ci o2_1, cu o2_2], []⟩), (2, ⟨[cnil], []⟩)]) (env' := [(2, .cell 2 0), (5, .cell 9 0), (6, .cell 6 0)]) rfl rfl ⟨rfl, rfl, rfl, trivial⟩) ?_
  refine aw_region ?_
  refine run_s (ss_field_cell rfl) rfl ?_
  refine run_s (ss_loadH rfl rfl rfl rfl) rfl ?_
  refine run_s (ss_lenR (f := (fun r => C.own (ints r))) rfl rfl) rfl ?_
  refine run_s (ss_assign rfl) rfl ?_
  refine run_nil ?_
  refine aw_seq ?_
  refine aw_gh (gh_to (n := 30) (σ' := [(6, ⟨[.hole], [(0, .ref 11)]⟩), (11, ⟨orows r2_0, []⟩), (9, ⟨[.lst (bys o2_0), ci o2_1, cu o2_2], []⟩), (2, ⟨[cnil], []⟩)]) (env' := [(2, .cell 2 0), (5, .cell 9 0), (6, .cell 6 0), (7, .c (ci (r2_0.length : Int)))]) rfl rfl ⟨rfl, rfl, rfl, rfl, trivial⟩) ?_
  refine aw_regionD (kd := kdl [1, 0, 0, 2, 0, 2, 0, 0, 0, 0, 0, 2, 0, 0, 2, 3, 0, 0]) (ord := [1, 2, 4, 8, 9, 10, 0, 3, 5, 6, 7, 11, 12, 13, 14, 15, 16, 17]) [9] mixed (by kernel_rfl) ?_
  refine rd_s rfl rfl trivial (ss_move rfl) rfl ?_
  refine rd_s rfl rfl trivial (ss_move rfl) rfl ?_
  refine rd_s rfl rfl trivial (ss_move rfl) rfl ?_
  refine rd_s rfl rfl trivial (ss_move rfl) rfl ?_
  refine rd_s rfl rfl trivial (ss_move rfl) rfl ?_
  refine rd_s rfl rfl trivial (ss_move rfl) rfl ?_
  refine rd_l rfl rfl trivial (ss_loadS rfl rfl rfl rfl) rfl ?_
  obtain ⟨q5, h⟩ := h
  refine rd_w rfl rfl trivial rfl rfl (ws_callM (xs := [.tmp 16, .tmp 17]) (cs := [.obox [.lst (bys o2_0), ci o2_1, cu o2_2], ci (r2_0.length : Int)]) (ids := []) rfl (.inr ⟨rfl, rfl⟩) rfl rfl rfl (c_spec_l01Next o2_0 o2_1 o2_2 (r2_0.length : Int) q5) rfl rfl ?_ )
  rintro _ _ ⟨r3_0, o3_0, o3_1, o3_2, q6, rfl, rfl⟩
  replace h := h r3_0 o3_0 o3_1 o3_2 q6
  refine ⟨rfl, rfl, ?_⟩
  obtain ⟨q7, h⟩ := h
  refine rd_w rfl rfl trivial rfl rfl (ws_callM (xs := [.tmp 19, .const (.int .i64 (24))]) (cs := [.obox [.lst (bys o3_0), ci o3_1, cu o3_2], ci 24]) (ids := []) rfl (.inr ⟨rfl, rfl⟩) rfl rfl rfl (c_spec_l01Next o3_0 o3_1 o3_2 24 q7) rfl rfl ?_ )
  rintro _ _ ⟨r4_0, o4_0, o4_1, o4_2, q8, rfl, rfl⟩
  replace h := h r4_0 o4_0 o4_1 o4_2 q8
  refine ⟨rfl, rfl, ?_⟩
  obtain ⟨q9, h⟩ := h
  refine rd_s rfl rfl trivial (ss_quo rfl rfl q9) rfl ?_
  obtain ⟨q10, h⟩ := h
  refine rd_s rfl rfl trivial (ss_sub rfl rfl q10) rfl ?_
  obtain ⟨q11, h⟩ := h
  refine rd_w rfl rfl trivial rfl rfl (ws_callM (xs := [.tmp 25, .const (.int .i64 (24))]) (cs := [.obox [.lst (bys o4_0), ci o4_1, cu o4_2], ci 24]) (ids := []) rfl (.inr ⟨rfl, rfl⟩) rfl rfl rfl (c_spec_l01Next o4_0 o4_1 o4_2 24 q11) rfl rfl ?_ )
  rintro _ _ ⟨r5_0, o5_0, o5_1, o5_2, q12, rfl, rfl⟩
  replace h := h r5_0 o5_0 o5_1 o5_2 q12
  refine ⟨rfl, rfl, ?_⟩
  obtain ⟨q13, h⟩ := h
  refine rd_s rfl rfl trivial (ss_quo rfl rfl q13) rfl ?_
  obtain ⟨q14, h⟩ := h
  refine rd_s rfl rfl trivial (ss_add rfl rfl q14) rfl ?_
  obtain ⟨q15, h⟩ := h
  refine rd_w rfl rfl trivial rfl rfl (ws_callM (xs := [.tmp 23, .tmp 28]) (cs := [.obox [.lst (bys o5_0), ci o5_1, cu o5_2], ci ((r2_0.length : Int) + (r5_0 / 23))]) (ids := []) rfl (.inr ⟨rfl, rfl⟩) rfl rfl rfl (c_spec_l01Next o5_0 o5_1 o5_2 ((r2_0.length : Int) + (r5_0 / 23)) q15) rfl rfl ?_ )
  rintro _ _ ⟨r6_0, o6_0, o6_1, o6_2, q16, rfl, rfl⟩
  replace h := h r6_0 o6_0 o6_1 o6_2 q16
  refine ⟨rfl, rfl, ?_⟩
  refine rd_f rfl rfl trivial (ws_storeS rfl rfl (Nat.le_of_ble_eq_true rfl) rfl rfl rfl ⟨rfl, ?_⟩)
  refine rd_s rfl rfl trivial (ss_assign rfl) rfl ?_
  refine rd_s rfl rfl trivial (ss_assign rfl) rfl ?_
  refine rd_nil ?_
  refine aw_ret ?_
  exact retAF_mk (retv3 rfl (rv_struct rfl rfl rfl) (rv_tmp rfl) (rv_tmp rfl)) rfl rfl ⟨_, (cle_refl _), _, _, _, h, rfl⟩

theorem c_spec_DrawCongruenceFrom (code : List Int) (hp : small code ∧ bytes code) : AF Try.prog 51 [.lst (bys code)] (fun R_ => ∃ y0 y1 y2, (drT 10 y0 ∧ (-1 ≤ y1 ∧ y1 ≤ 12) ∧ 0 ≤ y2 ∧ y2 ≤ 12) ∧ R_ = .tup [.agg [.own (orows y0)], ci y1, ci y2]) :=
  w_spec_DrawCongruenceFrom code (fun y0 y1 y2 => drT 10 y0 ∧ (-1 ≤ y1 ∧ y1 ≤ 12) ∧ 0 ≤ y2 ∧ y2 ≤ 12) (p_spec_DrawCongruenceFrom code hp)

set_option maxRecDepth 100000 in
set_option maxHeartbeats 4000000 in
theorem w_spec_DrawIsCongruence (code : List Int) (Q : List (List Int) → List Int → Prop) (h : wp_spec_DrawIsCongruence code Q) : AF Try.prog 127 [.lst (bys code)] (fun R_ => ∃ y0 y1, Q y0 y1 ∧ R_ = .tup [.agg [.own (orows y0)], .own (ints y1)]) := by
  refine AF.ofWQ (af_enter (n := 52) Try.func127 rfl (by rfl) rfl (Nat.le_of_ble_eq_true rfl) ?_)
  unfold wp_spec_DrawIsCongruence at h
  refine aw_seq ?_
  refine aw_gh (gh_to (n := 52) (σ' := []) (env' := [(0, .c (.lst (bys code)))]) rfl rfl ⟨rfl, trivial⟩) ?_
  refine aw_region ?_
  refine run_w (ws_alloc (id := 2) rfl (Nat.le_of_ble_eq_true rfl) ⟨rfl, ?_⟩)
  refine run_s (ss_assign rfl) rfl ?_
  refine run_nil ?_
  refine aw_seq ?_
  refine aw_region ?_
  refine run_s (ss_move rfl) rfl ?_
  obtain ⟨q1, h⟩ := h
  refine run_w (ws_call (xs := [.tmp 9]) (ids := [10]) rfl rfl rfl rfl (c_spec_l01From code q1) rfl ?_ )
  rintro _ ⟨r1_0, r1_1, r1_2, q2, rfl⟩
  replace h := h r1_0 r1_1 r1_2 q2
  refine ⟨rfl, ?_⟩
  refine run_s (ss_assign rfl) rfl ?_
  refine run_nil ?_
  refine aw_seq ?_
  refine aw_region ?_
  refine run_s (ss_move rfl) rfl ?_
  obtain ⟨q3, h⟩ := h
  refine run_w (ws_callM (xs := [.tmp 11, .const (.int .i64 (8))]) (cs := [.obox [.lst (bys r1_0), ci r1_1, cu r1_2], ci 8]) (ids := [12]) rfl (.inr ⟨rfl, rfl⟩) rfl rfl rfl (c_spec_l03DrawAny r1_0 r1_1 r1_2 8 q3) rfl rfl ?_ )
  rintro _ _ ⟨r2_0, o2_0, o2_1, o2_2, q4, rfl, rfl⟩
  replace h := h r2_0 o2_0 o2_1 o2_2 q4
  refine ⟨rfl, rfl, ?_⟩
  refine run_w (ws_alloc (id := 5) rfl (Nat.le_of_ble_eq_true rfl) ⟨rfl, ?_⟩)
  refine run_w (ws_storeS rfl rfl (Nat.le_of_ble_eq_true rfl) rfl rfl rfl ⟨rfl, ?_⟩)
  refine run_nil ?_
  refine aw_seq ?_
  refine aw_region ?_
  refine run_s (ss_field_cell rfl) rfl ?_
  refine run_s (ss_loadH rfl rfl rfl rfl) rfl ?_
  refine run_s (ss_lenR (f := (fun r => C.own (ints r))) rfl rfl) rfl ?_
  refine run_s (ss_assign rfl) rfl ?_
  refine run_nil ?_
  refine aw_seq ?_
  refine aw_seq ?_
  refine aw_region ?_
  refine run_s (ss_loadS rfl rfl rfl rfl) rfl ?_
  obtain ⟨q5, h⟩ := h
  refine run_w (ws_callR (xs := [.tmp 16]) (cs := [.agg [.own (orows r2_0)]]) (ids := []) rfl (.inr ⟨rfl, rfl⟩) rfl rfl (fz_cons (fz_agg (fz_cons (fz_own (fz_map (fun _ => (fz_own (fz_map (fun _ => rfl) _))) _)) fz_nil)) fz_nil) (c_spec_l03Is r2_0 q5) rfl ?_ )
  rintro _ rfl
  refine ⟨rfl, rfl, ?_⟩
  refine run_s (ss_move rfl) rfl ?_
  refine run_split (s := 18) rfl (fun q7 => ?_) (fun q7 => ?_)
  · replace h := h.1 (q7)
    refine run_gt rfl rfl q7 ?_
    refine run_s (ss_move rfl) rfl ?_
    refine run_gt rfl rfl q7 ?_
    obtain ⟨q8, h⟩ := h
    refine run_w (ws_callM (xs := [.tmp 19, .const (.int .i64 (3))]) (cs := [.obox [.lst (bys o2_0), ci o2_1, cu o2_2], ci 3]) (ids := []) rfl (.inr ⟨rfl, rfl⟩) rfl rfl rfl (c_spec_l01Next o2_0 o2_1 o2_2 3 q8) rfl rfl ?_ )
    rintro _ _ ⟨r3_0, o3_0, o3_1, o3_2, q9, rfl, rfl⟩
    replace h := h r3_0 o3_0 o3_1 o3_2 q9
    refine ⟨rfl, rfl, ?_⟩
    refine run_gt rfl rfl q7 ?_
    refine run_s (ss_gtr rfl rfl) rfl ?_
    refine run_s (ss_pickT rfl q7 rfl) rfl ?_
    refine run_nil ?_
    refine aw_cond rfl (fun q10 => ?_) (fun q10 => ?_)
    · replace h := h.1 (of_decide_eq_true q10)
      refine aw_seq ?_
      refine aw_gh (gh_to (n := 52) (σ' := [(5, ⟨[.hole], [(0, .ref 12)]⟩), (12, ⟨orows r2_0, []⟩), (10, ⟨[.lst (bys o3_0), ci o3_1, cu o3_2], []⟩), (2, ⟨[cnil], []⟩)]) (env' := [(2, .cell 2 0), (3, .c (cnil)), (4, .cell 10 0), (5, .cell 5 0), (6, .c (ci (r2_0.length : Int)))]) rfl rfl ⟨rfl, rfl, rfl, rfl, rfl, trivial⟩) ?_
      refine aw_regionD (kd := kdl [1, 0, 1, 0, 0, 2, 0, 0, 2, 2, 3, 0]) (ord := [1, 3, 4, 6, 7, 0, 2, 5, 8, 9, 10, 11]) [10] mixed (by kernel_rfl) ?_
      refine rd_s rfl rfl trivial (ss_field_cell rfl) rfl ?_
      refine rd_s rfl rfl trivial (ss_move rfl) rfl ?_
      refine rd_s rfl rfl trivial (ss_move rfl) rfl ?_
      refine rd_s rfl rfl trivial (ss_move rfl) rfl ?_
      refine rd_s rfl rfl trivial (ss_move rfl) rfl ?_
      refine rd_l rfl rfl trivial (ss_loadS rfl rfl rfl rfl) rfl ?_
      refine rd_l rfl rfl trivial (ss_loadH rfl rfl rfl rfl) rfl ?_
      obtain ⟨q11, h⟩ := h
      refine rd_w rfl rfl trivial rfl rfl (ws_callM (xs := [.tmp 26, .tmp 27]) (cs := [.obox [.lst (bys o3_0), ci o3_1, cu o3_2], ci (r2_0.length : Int)]) (ids := []) rfl (.inr ⟨rfl, rfl⟩) rfl rfl rfl (c_spec_l01Next o3_0 o3_1 o3_2 (r2_0.length : Int) q11) rfl rfl ?_ )
      rintro _ _ ⟨r4_0, o4_0, o4_1, o4_2, q12, rfl, rfl⟩
      replace h := h r4_0 o4_0 o4_1 o4_2 q12
      refine ⟨rfl, rfl, ?_⟩
      obtain ⟨q13, h⟩ := h
      refine rd_w rfl rfl trivial rfl rfl (ws_callM (xs := [.tmp 29, .tmp 30]) (cs := [.obox [.lst (bys o4_0), ci o4_1, cu o4_2], ci (r2_0.length : Int)]) (ids := []) rfl (.inr ⟨rfl, rfl⟩) rfl rfl rfl (c_spec_l01Next o4_0 o4_1 o4_2 (r2_0.length : Int) q13) rfl rfl ?_ )
      rintro _ _ ⟨r5_0, o5_0, o5_1, o5_2, q14, rfl, rfl⟩
      replace h := h r5_0 o5_0 o5_1 o5_2 q14
      refine ⟨rfl, rfl, ?_⟩
      obtain ⟨q15, h⟩ := h
      refine rd_w rfl rfl trivial rfl rfl (ws_callR (xs := [.tmp 25, .tmp 28, .tmp 31]) (cs := [.own (orows r2_0), ci r4_0, ci r5_0]) (ids := [32]) rfl (.inr ⟨rfl, rfl⟩) rfl rfl (fz_cons (fz_own (fz_map (fun _ => (fz_own (fz_map (fun _ => rfl) _))) _)) (fz_cons rfl (fz_cons rfl fz_nil))) (c_spec_l04From r2_0 r4_0 r5_0 q15) rfl ?_ )
      rintro _ rfl
      refine ⟨(slf_own (slfL_map (f := ci) (fun _ => rfl) _)), rfl, ?_⟩
      refine rd_f rfl rfl trivial (ws_storeS rfl rfl (Nat.le_of_ble_eq_true rfl) rfl rfl rfl ⟨rfl, ?_⟩)
      refine rd_s rfl rfl trivial (ss_assign rfl) rfl ?_
      refine rd_nil ?_
      refine aw_ret ?_
      exact retAF_mk (retv2 rfl (rv_struct rfl rfl rfl) (rv_tmp rfl)) rfl rfl ⟨_, (cle_refl _), _, _, h, rfl⟩
    · replace h := h.2 (of_decide_eq_false q10)
      refine aw_skip ?_
      refine aw_seq ?_
      refine aw_gh (gh_to (n := 52) (σ' := [(5, ⟨[.hole], [(0, .ref 12)]⟩), (12, ⟨orows r2_0, []⟩), (10, ⟨[.lst (bys o3_0), ci o3_1, cu o3_2], []⟩), (2, ⟨[cnil], []⟩)]) (env' := [(2, .cell 2 0), (4, .cell 10 0), (5, .cell 5 0), (6, .c (ci (r2_0.length : Int)))]) rfl rfl ⟨rfl, rfl, rfl, rfl, trivial⟩) ?_
      refine aw_region ?_
      refine run_w (ws_buildSlice (id := 33) (ps := []) rfl rfl (Nat.le_of_ble_eq_true rfl) rfl ⟨rfl, ?_⟩)
      refine run_s (ss_assign rfl) rfl ?_
      refine run_nil ?_
      refine aw_seq ?_
      refine aw_seq ?_
      refine aw_region ?_
      refine run_s (ss_assign rfl) rfl ?_
      refine run_nil ?_
      refine aw_block ?_
      obtain ⟨H1, m1, q17, h⟩ := h
      refine aw_loop5 (fun (v8_1 : Int) (f10_0_1 : List Int) (f10_1_1 : Int) (f10_2_1 : Int) (o33_1 : List Int) => ⟨[(33, ⟨ints o33_1, []⟩), (5, ⟨[.hole], [(0, .ref 12)]⟩), (12, ⟨orows r2_0, []⟩), (10, ⟨[.lst (bys f10_0_1), ci f10_1_1, cu f10_2_1], []⟩), (2, ⟨[cnil], []⟩)], [(2, .cell 2 0), (4, .cell 10 0), (5, .cell 5 0), (6, .c (ci (r2_0.length : Int))), (7, .ref 33), (8, .c (ci v8_1))], 52⟩) H1 m1 ⟨0, o3_0, o3_1, o3_2, ([] : List Int), ghe_to (n := 52) rfl rfl ⟨rfl, rfl, rfl, rfl, rfl, rfl, trivial⟩, q17⟩ ?_
      rintro v8_1 f10_0_1 f10_1_1 f10_2_1 o33_1 q17
      replace h := h v8_1 f10_0_1 f10_1_1 f10_2_1 o33_1 q17
      refine aw_seq ?_
      refine aw_seq ?_
      refine aw_region ?_
      refine run_s (ss_move rfl) rfl ?_
      refine run_s (ss_move rfl) rfl ?_
      refine run_s (ss_lss rfl rfl) rfl ?_
      refine run_nil ?_
      refine aw_cond rfl (fun q18 => ?_) (fun q18 => ?_)
      · replace h := h.1 (of_decide_eq_true q18)
        refine aw_skip ?_
        refine aw_seq ?_
        refine aw_block ?_
        refine aw_region ?_
        refine run_s (ss_move rfl) rfl ?_
        refine run_s (ss_move rfl) rfl ?_
        obtain ⟨q19, h⟩ := h
        refine run_w (ws_callM (xs := [.tmp 40, .const (.int .i64 (3))]) (cs := [.obox [.lst (bys f10_0_1), ci f10_1_1, cu f10_2_1], ci 3]) (ids := []) rfl (.inr ⟨rfl, rfl⟩) rfl rfl rfl (c_spec_l01Next f10_0_1 f10_1_1 f10_2_1 3 q19) rfl rfl ?_ )
        rintro _ _ ⟨r6_0, o6_0, o6_1, o6_2, q20, rfl, rfl⟩
        replace h := h r6_0 o6_0 o6_1 o6_2 q20
        refine ⟨rfl, rfl, ?_⟩
        refine run_w (ws_buildSlice (id := 42) (ps := [(0, .tmp 41)]) rfl rfl (Nat.le_of_ble_eq_true rfl) rfl ⟨rfl, ?_⟩)
        obtain ⟨q21, h⟩ := h
        refine run_w (ws_app1 ci (l := o33_1) (m := [r6_0]) rfl rfl rfl rfl rfl (Nat.le_of_ble_eq_true rfl) q21 ⟨rfl, ?_⟩)
        refine run_s (ss_assign rfl) rfl ?_
        refine run_nil ?_
        refine aw_gh (gh_to (n := 52) (σ' := [(33, ⟨ints (o33_1 ++ ([r6_0])), []⟩), (5, ⟨[.hole], [(0, .ref 12)]⟩), (12, ⟨orows r2_0, []⟩), (10, ⟨[.lst (bys o6_0), ci o6_1, cu o6_2], []⟩), (2, ⟨[cnil], []⟩)]) (env' := [(2, .cell 2 0), (4, .cell 10 0), (5, .cell 5 0), (6, .c (ci (r2_0.length : Int))), (7, .ref 33), (8, .c (ci v8_1))]) rfl rfl ⟨rfl, rfl, rfl, rfl, rfl, rfl, trivial⟩) ?_
        refine aw_region ?_
        refine run_s (ss_move rfl) rfl ?_
        obtain ⟨q22, h⟩ := h
        refine run_s (ss_add rfl rfl q22) rfl ?_
        refine run_s (ss_assign rfl) rfl ?_
        refine run_nil ?_
        exact ⟨v8_1 + 1, o6_0, o6_1, o6_2, o33_1 ++ ([r6_0]), ghe_to (n := 52) rfl rfl ⟨rfl, rfl, rfl, rfl, rfl, rfl, trivial⟩, h.1, h.2⟩
      · replace h := h.2 (of_decide_eq_false q18)
        refine aw_exit ?_
        refine aw_seq ?_
        refine aw_seq ?_
        refine aw_region ?_
        refine run_s (ss_move rfl) rfl ?_
        obtain ⟨q23, h⟩ := h
        refine run_w (ws_callM (xs := [.tmp 44, .const (.int .i64 (6))]) (cs := [.obox [.lst (bys f10_0_1), ci f10_1_1, cu f10_2_1], ci 6]) (ids := []) rfl (.inr ⟨rfl, rfl⟩) rfl rfl rfl (c_spec_l01Next f10_0_1 f10_1_1 f10_2_1 6 q23) rfl rfl ?_ )
        rintro _ _ ⟨r7_0, o7_0, o7_1, o7_2, q24, rfl, rfl⟩
        replace h := h r7_0 o7_0 o7_1 o7_2 q24
        refine ⟨rfl, rfl, ?_⟩
        refine run_s (ss_eql rfl rfl) rfl ?_
        refine run_nil ?_
        refine aw_cond rfl (fun q25 => ?_) (fun q25 => ?_)
        · replace h := h.1 (of_decide_eq_true q25)
          refine aw_seq ?_
          refine aw_gh (gh_to (n := 52) (σ' := [(33, ⟨ints o33_1, []⟩), (5, ⟨[.hole], [(0, .ref 12)]⟩), (12, ⟨orows r2_0, []⟩), (10, ⟨[.lst (bys o7_0), ci o7_1, cu o7_2], []⟩), (2, ⟨[cnil], []⟩)]) (env' := [(2, .cell 2 0), (5, .cell 5 0), (7, .ref 33)]) rfl rfl ⟨rfl, rfl, rfl, trivial⟩) ?_
          refine aw_region ?_
          refine run_s (ss_loadS rfl rfl rfl rfl) rfl ?_
          refine run_s (ss_move rfl) rfl ?_
          refine run_w (ws_storeS rfl rfl (Nat.le_of_ble_eq_true rfl) rfl rfl rfl ⟨rfl, ?_⟩)
          refine run_s (ss_assign rfl) rfl ?_
          refine run_nil ?_
          refine aw_ret ?_
          exact retAF_mk (retv2 rfl (rv_struct rfl rfl rfl) (rv_tmp rfl)) rfl rfl ⟨_, (cle_refl _), _, _, h, rfl⟩
        · replace h := h.2 (of_decide_eq_false q25)
          refine aw_skip ?_
          refine aw_seq ?_
          refine aw_gh (gh_to (n := 52) (σ' := [(33, ⟨ints o33_1, []⟩), (5, ⟨[.hole], [(0, .ref 12)]⟩), (12, ⟨orows r2_0, []⟩), (10, ⟨[.lst (bys o7_0), ci o7_1, cu o7_2], []⟩), (2, ⟨[cnil], []⟩)]) (env' := [(2, .cell 2 0), (5, .cell 5 0), (7, .ref 33)]) rfl rfl ⟨rfl, rfl, rfl, trivial⟩) ?_
          refine aw_regionD (kd := kdl [1, 0, 2, 3, 0]) (ord := [1, 0, 2, 3, 4]) [] mixed (by kernel_rfl) ?_
          refine rd_s rfl rfl trivial (ss_move rfl) rfl ?_
          refine rd_l rfl rfl trivial (ss_loadS rfl rfl rfl rfl) rfl ?_
          obtain ⟨q26, h⟩ := h
          refine rd_w rfl rfl trivial rfl rfl (ws_callR (xs := [.tmp 50]) (cs := [.own (ints o33_1)]) (ids := [51]) rfl (.inr ⟨rfl, rfl⟩) rfl rfl (fz_cons (fz_own (fz_map (fun _ => rfl) _)) fz_nil) (c_spec_l04Numbered o33_1 q26) rfl ?_ )
          rintro _ rfl
          refine ⟨(slf_own (slfL_map (f := ci) (fun _ => rfl) _)), rfl, ?_⟩
          refine rd_f rfl rfl trivial (ws_storeS rfl rfl (Nat.le_of_ble_eq_true rfl) rfl rfl rfl ⟨rfl, ?_⟩)
          refine rd_s rfl rfl trivial (ss_assign rfl) rfl ?_
          refine rd_nil ?_
          refine aw_ret ?_
          exact retAF_mk (retv2 rfl (rv_struct rfl rfl rfl) (rv_tmp rfl)) rfl rfl ⟨_, (cle_refl _), _, _, h, rfl⟩
  · replace h := h.2 (q7)
    refine run_gf rfl rfl q7 rfl ?_
    refine run_gf rfl rfl q7 rfl ?_
    refine run_gf rfl rfl q7 rfl ?_
    refine run_s (ss_pickF rfl q7 rfl) rfl ?_
    refine run_nil ?_
    refine aw_cond rfl (fun q28 => ?_) (fun q28 => ?_)
    · cases q28
    · skip
      refine aw_skip ?_
      refine aw_seq ?_
      refine aw_gh (gh_to (n := 52) (σ' := [(5, ⟨[.hole], [(0, .ref 12)]⟩), (12, ⟨orows r2_0, []⟩), (10, ⟨[.lst (bys o2_0), ci o2_1, cu o2_2], []⟩), (2, ⟨[cnil], []⟩)]) (env' := [(2, .cell 2 0), (4, .cell 10 0), (5, .cell 5 0), (6, .c (ci (r2_0.length : Int)))]) rfl rfl ⟨rfl, rfl, rfl, rfl, trivial⟩) ?_
      refine aw_region ?_
      refine run_w (ws_buildSlice (id := 33) (ps := []) rfl rfl (Nat.le_of_ble_eq_true rfl) rfl ⟨rfl, ?_⟩)
      refine run_s (ss_assign rfl) rfl ?_
      refine run_nil ?_
      refine aw_seq ?_
      refine aw_seq ?_
      refine aw_region ?_
      refine run_s (ss_assign rfl) rfl ?_
      refine run_nil ?_
      refine aw_block ?_
      obtain ⟨H2, m2, q29, h⟩ := h
      refine aw_loop5 (fun (v8_1 : Int) (f10_0_1 : List Int) (f10_1_1 : Int) (f10_2_1 : Int) (o33_1 : List Int) => ⟨[(33, ⟨ints o33_1, []⟩), (5, ⟨[.hole], [(0, .ref 12)]⟩), (12, ⟨orows r2_0, []⟩), (10, ⟨[.lst (bys f10_0_1), ci f10_1_1, cu f10_2_1], []⟩), (2, ⟨[cnil], []⟩)], [(2, .cell 2 0), (4, .cell 10 0), (5, .cell 5 0), (6, .c (ci (r2_0.length : Int))), (7, .ref 33), (8, .c (ci v8_1))], 52⟩) H2 m2 ⟨0, o2_0, o2_1, o2_2, ([] : List Int), ghe_to (n := 52) rfl rfl ⟨rfl, rfl, rfl, rfl, rfl, rfl, trivial⟩, q29⟩ ?_
      rintro v8_1 f10_0_1 f10_1_1 f10_2_1 o33_1 q29
      replace h := h v8_1 f10_0_1 f10_1_1 f10_2_1 o33_1 q29
      refine aw_seq ?_
      refine aw_seq ?_
      refine aw_region ?_
      refine run_s (ss_move rfl) rfl ?_
      refine run_s (ss_move rfl) rfl ?_
      refine run_s (ss_lss rfl rfl) rfl ?_
      refine run_nil ?_
      refine aw_cond rfl (fun q30 => ?_) (fun q30 => ?_)
      · replace h := h.1 (of_decide_eq_true q30)
        refine aw_skip ?_
        refine aw_seq ?_
        refine aw_block ?_
        refine aw_region ?_
        refine run_s (ss_move rfl) rfl ?_
        refine run_s (ss_move rfl) rfl ?_
        obtain ⟨q31, h⟩ := h
        refine run_w (ws_callM (xs := [.tmp 40, .const (.int .i64 (3))]) (cs := [.obox [.lst (bys f10_0_1), ci f10_1_1, cu f10_2_1], ci 3]) (ids := []) rfl (.inr ⟨rfl, rfl⟩) rfl rfl rfl (c_spec_l01Next f10_0_1 f10_1_1 f10_2_1 3 q31) rfl rfl ?_ )
        rintro _ _ ⟨r8_0, o8_0, o8_1, o8_2, q32, rfl, rfl⟩
        replace h := h r8_0 o8_0 o8_1 o8_2 q32
        refine ⟨rfl, rfl, ?_⟩
        refine run_w (ws_buildSlice (id := 42) (ps := [(0, .tmp 41)]) rfl rfl (Nat.le_of_ble_eq_true rfl) rfl ⟨rfl, ?_⟩)
        obtain ⟨q33, h⟩ := h
        refine run_w (ws_app1 ci (l := o33_1) (m := [r8_0]) rfl rfl rfl rfl rfl (Nat.le_of_ble_eq_true rfl) q33 ⟨rfl, ?_⟩)
        refine run_s (ss_assign rfl) rfl ?_
        refine run_nil ?_
        refine aw_gh (gh_to (n := 52) (σ' := [(33, ⟨ints (o33_1 ++ ([r8_0])), []⟩), (5, ⟨[.hole], [(0, .ref 12)]⟩), (12, ⟨orows r2_0, []⟩), (10, ⟨[.lst (bys o8_0), ci o8_1, cu o8_2], []⟩), (2, ⟨[cnil], []⟩)]) (env' := [(2, .cell 2 0), (4, .cell 10 0), (5, .cell 5 0), (6, .c (ci (r2_0.length : Int))), (7, .ref 33), (8, .c (ci v8_1))]) rfl rfl ⟨rfl, rfl, rfl, rfl, rfl, rfl, trivial⟩) ?_
        refine aw_region ?_
        refine run_s (ss_move rfl) rfl ?_
        obtain ⟨q34, h⟩ := h
        refine run_s (ss_add rfl rfl q34) rfl ?_
        refine run_s (ss_assign rfl) rfl ?_
        refine run_nil ?_
        exact ⟨v8_1 + 1, o8_0, o8_1, o8_2, o33_1 ++ ([r8_0]), ghe_to (n := 52) rfl rfl ⟨rfl, rfl, rfl, rfl, rfl, rfl, trivial⟩, h.1, h.2⟩
      · replace h := h.2 (of_decide_eq_false q30)
        refine aw_exit ?_
        refine aw_seq ?_
        refine aw_seq ?_
        refine aw_region ?_
        refine run_s (ss_move rfl) rfl ?_
        obtain ⟨q35, h⟩ := h
        refine run_w (ws_callM (xs := [.tmp 44, .const (.int .i64 (6))]) (cs := [.obox [.lst (bys f10_0_1), ci f10_1_1, cu f10_2_1], ci 6]) (ids := []) rfl (.inr ⟨rfl, rfl⟩) rfl rfl rfl (c_spec_l01Next f10_0_1 f10_1_1 f10_2_1 6 q35) rfl rfl ?_ )
        rintro _ _ ⟨r9_0, o9_0, o9_1, o9_2, q36, rfl, rfl⟩
        replace h := h r9_0 o9_0 o9_1 o9_2 q36
        refine ⟨rfl, rfl, ?_⟩
        refine run_s (ss_eql rfl rfl) rfl ?_
        refine run_nil ?_
        refine aw_cond rfl (fun q37 => ?_) (fun q37 => ?_)
        · replace h := h.1 (of_decide_eq_true q37)
          refine aw_seq ?_
          refine aw_gh (gh_to (n := 52) (σ' := [(33, ⟨ints o33_1, []⟩), (5, ⟨[.hole], [(0, .ref 12)]⟩), (12, ⟨orows r2_0, []⟩), (10, ⟨[.lst (bys o9_0), ci o9_1, cu o9_2], []⟩), (2, ⟨[cnil], []⟩)]) (env' := [(2, .cell 2 0), (5, .cell 5 0), (7, .ref 33)]) rfl rfl ⟨rfl, rfl, rfl, trivial⟩) ?_
          refine aw_region ?_
          refine run_s (ss_loadS rfl rfl rfl rfl) rfl ?_
          refine run_s (ss_move rfl) rfl ?_
          refine run_w (ws_storeS rfl rfl (Nat.le_of_ble_eq_true rfl) rfl rfl rfl ⟨rfl, ?_⟩)
          refine run_s (ss_assign rfl) rfl ?_
          refine run_nil ?_
          refine aw_ret ?_
          exact retAF_mk (retv2 rfl (rv_struct rfl rfl rfl) (rv_tmp rfl)) rfl rfl ⟨_, (cle_refl _), _, _, h, rfl⟩
        · replace h := h.2 (of_decide_eq_false q37)
          refine aw_skip ?_
          refine aw_seq ?_
          refine aw_gh (gh_to (n := 52) (σ' := [(33, ⟨ints o33_1, []⟩), (5, ⟨[.hole], [(0, .ref 12)]⟩), (12, ⟨orows r2_0, []⟩), (10, ⟨[.lst (bys o9_0), ci o9_1, cu o9_2], []⟩), (2, ⟨[cnil], []⟩)]) (env' := [(2, .cell 2 0), (5, .cell 5 0), (7, .ref 33)]) rfl rfl ⟨rfl, rfl, rfl, trivial⟩) ?_
          refine aw_regionD (kd := kdl [1, 0, 2, 3, 0]) (ord := [1, 0, 2, 3, 4]) [] mixed (by kernel_rfl) ?_
          refine rd_s rfl rfl trivial (ss_move rfl) rfl ?_
          refine rd_l rfl rfl trivial (ss_loadS rfl rfl rfl rfl) rfl ?_
          obtain ⟨q38, h⟩ := h
          refine rd_w rfl rfl trivial rfl rfl (ws_callR (xs := [.tmp 50]) (cs := [.own (ints o33_1)]) (ids := [51]) rfl (.inr ⟨rfl, rfl⟩) rfl rfl (fz_cons (fz_own (fz_map (fun _ => rfl) _)) fz_nil) (c_spec_l04Numbered o33_1 q38) rfl ?_ )
          rintro _ rfl
          refine ⟨(slf_own (slfL_map (f := ci) (fun _ => rfl) _)), rfl, ?_⟩
          refine rd_f rfl rfl trivial (ws_storeS rfl rfl (Nat.le_of_ble_eq_true rfl) rfl rfl rfl ⟨rfl, ?_⟩)
          refine rd_s rfl rfl trivial (ss_assign rfl) rfl ?_
          refine rd_nil ?_
          refine aw_ret ?_
          exact retAF_mk (retv2 rfl (rv_struct rfl rfl rfl) (rv_tmp rfl)) rfl rfl ⟨_, (cle_refl _), _, _, h, rfl⟩

theorem c_spec_DrawIsCongruence (code : List Int) (hp : small code ∧ bytes code) : AF Try.prog 127 [.lst (bys code)] (fun R_ => ∃ y0 y1, (drT 8 y0 ∧ (y1.length : Int) ≤ 12) ∧ R_ = .tup [.agg [.own (orows y0)], .own (ints y1)]) :=
  w_spec_DrawIsCongruence code (fun y0 y1 => drT 8 y0 ∧ (y1.length : Int) ≤ 12) (p_spec_DrawIsCongruence code hp)

set_option maxRecDepth 100000 in
set_option maxHeartbeats 4000000 in
theorem w_spec_DrawQuotientRack (code : List Int) (Q : List (List Int) → List Int → Prop) (h : wp_spec_DrawQuotientRack code Q) : AF Try.prog 58 [.lst (bys code)] (fun R_ => ∃ y0 y1, Q y0 y1 ∧ R_ = .tup [.agg [.own (orows y0)], .own (ints y1)]) := by
  refine AF.ofWQ (af_enter (n := 8) Try.func58 rfl (by rfl) rfl (Nat.le_of_ble_eq_true rfl) ?_)
  unfold wp_spec_DrawQuotientRack at h
  refine aw_seq ?_
  refine aw_gh (gh_to (n := 8) (σ' := []) (env' := [(0, .c (.lst (bys code)))]) rfl rfl ⟨rfl, trivial⟩) ?_
  refine aw_region ?_
  refine run_w (ws_alloc (id := 2) rfl (Nat.le_of_ble_eq_true rfl) ⟨rfl, ?_⟩)
  refine run_s (ss_assign rfl) rfl ?_
  refine run_nil ?_
  refine aw_seq ?_
  refine aw_region ?_
  refine run_s (ss_move rfl) rfl ?_
  obtain ⟨q1, h⟩ := h
  refine run_w (ws_call (xs := [.tmp 4]) (ids := [5, 1001]) rfl rfl rfl rfl (c_spec_DrawIsCongruence code q1) rfl ?_ )
  rintro _ ⟨r1_0, r1_1, q2, rfl⟩
  replace h := h r1_0 r1_1 q2
  refine ⟨rfl, ?_⟩
  refine run_s (ss_extract rfl rfl) rfl ?_
  refine run_s (ss_extract rfl rfl) rfl ?_
  refine run_w (ws_storeS rfl rfl (Nat.le_of_ble_eq_true rfl) rfl rfl rfl ⟨rfl, ?_⟩)
  refine run_s (ss_assign rfl) rfl ?_
  refine run_nil ?_
  refine aw_ret ?_
  exact retAF_mk (retv2 rfl (rv_struct rfl rfl rfl) (rv_tmp rfl)) rfl rfl ⟨_, (cle_refl _), _, _, h, rfl⟩

theorem c_spec_DrawQuotientRack (code : List Int) (hp : small code ∧ bytes code) : AF Try.prog 58 [.lst (bys code)] (fun R_ => ∃ y0 y1, (drT 8 y0 ∧ (y1.length : Int) ≤ 12) ∧ R_ = .tup [.agg [.own (orows y0)], .own (ints y1)]) :=
  w_spec_DrawQuotientRack code (fun y0 y1 => drT 8 y0 ∧ (y1.length : Int) ≤ 12) (p_spec_DrawQuotientRack code hp)

end Go.Proofs.Ytbodlnpmplcaoaa

/- Contracts of functions that the law FnRackProducts reaches: conditions, plain proofs, walks; no condition. -/
import Derived.Test.YtbodlnpmplcaoaaKRackProductsn
import Derived.Test.YtbodlnpmplcaoaaPo
namespace Go.Proofs.Ytbodlnpmplcaoaa

def wp_laws_likeInts (a : List Int) (b : List Int) (Q : Bool → Prop) : Prop :=
 ((¬ ((a.length : Int) = (b.length : Int)) →
  Q false) ∧
 ((a.length : Int) = (b.length : Int) →
  ∃ (H1 : Int → Prop) (m1 : Int → Nat),
  H1 0 ∧
  ∀ (v5_1 : Int), H1 v5_1 →
  ( ((v5_1 < (a.length : Int) →
    (0 ≤ v5_1 ∧ v5_1 < (a.length : Int)) ∧
    (0 ≤ v5_1 ∧ v5_1 < (b.length : Int)) ∧
    ((¬ (el a v5_1 = el b v5_1) →
     Q false) ∧
    (el a v5_1 = el b v5_1 →
     (InI (v5_1 + 1)) ∧
     (H1 (v5_1 + 1) ∧ m1 (v5_1 + 1) < m1 v5_1)))) ∧
   (¬ (v5_1 < (a.length : Int)) →
    Q true)))))

def wp_laws_same9 (a : List (List Int)) (b : List (List Int)) (Q : Bool → Prop) : Prop :=
 ((¬ ((a.length : Int) = (b.length : Int)) →
  Q false) ∧
 ((a.length : Int) = (b.length : Int) →
  ∃ (H1 : Int → Prop) (m1 : Int → Nat),
  H1 0 ∧
  ∀ (v5_1 : Int), H1 v5_1 →
  ( ((v5_1 < (a.length : Int) →
    (0 ≤ v5_1 ∧ v5_1 < (a.length : Int)) ∧
    (0 ≤ v5_1 ∧ v5_1 < (b.length : Int)) ∧
    (small (el a v5_1) ∧ small (el b v5_1)) ∧
    ((¬ ((el a v5_1) = (el b v5_1)) →
     Q false) ∧
    ((el a v5_1) = (el b v5_1) →
     (InI (v5_1 + 1)) ∧
     (H1 (v5_1 + 1) ∧ m1 (v5_1 + 1) < m1 v5_1)))) ∧
   (¬ (v5_1 < (a.length : Int)) →
    Q true)))))

def wp_laws_most9 (list : List Int) (Q : Int → Prop) : Prop :=
 ∃ (H1 : Int → Int → Prop) (m1 : Int → Int → Nat),
 H1 0 0 ∧
 ∀ (v3_1 : Int) (v4_1 : Int), H1 v3_1 v4_1 →
 ( ((v4_1 < (list.length : Int) →
   (0 ≤ v4_1 ∧ v4_1 < (list.length : Int)) ∧
   ((v3_1 ≤ el list v4_1 →
    (0 ≤ v4_1 ∧ v4_1 < (list.length : Int)) ∧
    (InI ((el list v4_1) + 1)) ∧
    (InI (v4_1 + 1)) ∧
    (H1 ((el list v4_1) + 1) (v4_1 + 1) ∧ m1 ((el list v4_1) + 1) (v4_1 + 1) < m1 v3_1 v4_1)) ∧
   (¬ (v3_1 ≤ el list v4_1) →
    (InI (v4_1 + 1)) ∧
    (H1 v3_1 (v4_1 + 1) ∧ m1 v3_1 (v4_1 + 1) < m1 v3_1 v4_1)))) ∧
  (¬ (v4_1 < (list.length : Int)) →
   Q v3_1)))

def wp_impl_IsQuandle (r : List (List Int)) (Q : Bool → Int → Prop) : Prop :=
 (small2 r) ∧
 (((isRk r) = false →
  Q false 1) ∧
 ((isRk r) = true →
  (isTab r = true) ∧
  (small (diag r)) ∧
  Q (incB (diag r)) 0))

theorem p_laws_likeInts (a b : List Int) (hp : small a ∧ small b) : wp_laws_likeInts a b (fun y0 => y0 = decide (a = b)) := by
  unfold wp_laws_likeInts
  obtain ⟨ha, hb⟩ := hp
  refine ⟨fun h => (decide_eq_false fun e => h (by rw [e])).symm, fun h => ⟨fun i => 0 ≤ i ∧ i ≤ (a.length : Int) ∧ Upto i fun j => el a j = el b j, fun i => ((a.length : Int) - i).toNat, ⟨by omega, by omega, upto0⟩, ?_⟩⟩
  rintro i ⟨h0, h1, hI⟩
  dsimp only
  refine ⟨fun hlt => ⟨⟨h0, hlt⟩, ⟨h0, by omega⟩, fun hf => (decide_eq_false fun e => hf (by rw [e])).symm, fun ht => ⟨⟨by omega, by omega⟩, ⟨by omega, by omega, upto1 hI ht⟩, by omega⟩⟩, fun hge => ?_⟩
  exact (decide_eq_true (ext_el (by omega) fun j h2 h3 => hI j h2 (by omega))).symm
theorem p_laws_same9 (a b : List (List Int)) (hp : small2 a ∧ small2 b) : wp_laws_same9 a b (fun y0 => y0 = decide (a = b)) := by
  unfold wp_laws_same9
  obtain ⟨⟨ha, ha2⟩, hb, hb2⟩ := hp
  refine ⟨fun h => (decide_eq_false fun e => h (by rw [e])).symm, fun h => ⟨fun i => 0 ≤ i ∧ i ≤ (a.length : Int) ∧ Upto i fun j => el a j = el b j, fun i => ((a.length : Int) - i).toNat, ⟨by omega, by omega, upto0⟩, ?_⟩⟩
  rintro i ⟨h0, h1, hI⟩
  dsimp only
  refine ⟨fun hlt => ⟨⟨h0, hlt⟩, ⟨h0, by omega⟩, ⟨ha2 _ (el_mem ⟨h0, hlt⟩), hb2 _ (el_mem ⟨h0, by omega⟩)⟩, fun hf => (decide_eq_false fun e => hf (by rw [e])).symm, fun ht => ⟨⟨by omega, by omega⟩, ⟨by omega, by omega, upto1 hI ht⟩, by omega⟩⟩, fun hge => ?_⟩
  exact (decide_eq_true (ext_el (by omega) fun j h2 h3 => hI j h2 (by omega))).symm
theorem p_laws_most9 (list : List Int) (hp : small list ∧ ∀ z_ ∈ list, z_ ≤ 1000000000) : wp_laws_most9 list (fun y0 => y0 = mostI list) := by
  obtain ⟨hs, hz⟩ := hp
  have hs' : (list.length : Int) ≤ 1000000000 := hs
  refine ⟨fun n i => (0 ≤ i ∧ i ≤ (list.length : Int)) ∧ n = mostI (list.take i.toNat), fun _ i => ((list.length : Int) - i).toNat, ⟨⟨by omega, by omega⟩, rfl⟩, ?_⟩
  rintro n i ⟨⟨i0, i1⟩, rfl⟩
  dsimp only
  refine ⟨fun ilt => ?_, fun ige => by rw [List.take_of_length_le (by omega)]⟩
  have st := most_step ⟨i0, ilt⟩
  have hb := hz _ (el_mem ⟨i0, ilt⟩)
  have h0 := most_nonneg (list.take i.toNat)
  refine ⟨⟨i0, ilt⟩, fun hc => ⟨⟨i0, ilt⟩, ⟨by omega, by omega⟩, ⟨by omega, by omega⟩, ⟨⟨by omega, by omega⟩, by rw [st, if_pos hc]⟩, by omega⟩, fun hc => ⟨⟨by omega, by omega⟩, ⟨⟨by omega, by omega⟩, by rw [st, if_neg hc]⟩, by omega⟩⟩
theorem p_impl_IsQuandle (r : List (List Int)) (hp : small2 r) : wp_impl_IsQuandle r (fun y0 y1 => y0 = (isRk r && decide (diag r = unitI (r.length : Int))) ∧ y1 = rkE r) := by
  unfold wp_impl_IsQuandle rkE
  refine ⟨hp, fun h => by rw [h]; exact ⟨rfl, rfl⟩, fun h => ?_⟩
  have ht := isRk_tab h
  have hn := isTab_len ht
  refine ⟨ht, by show (_ : Int) ≤ _; rw [length_diag]; omega, ?_, by rw [h]; rfl⟩
  rw [h, incB_unit fun i i0 i1 => by rw [length_diag] at i1 ⊢; rw [el_diag ⟨i0, i1⟩]; exact rk_el ht ⟨i0, i1⟩ ⟨i0, i1⟩, length_diag]
  rfl
set_option maxRecDepth 100000 in
set_option maxHeartbeats 4000000 in
theorem w_laws_likeInts (a : List Int) (b : List Int) (Q : Bool → Prop) (h : wp_laws_likeInts a b Q) : AF Try.prog 13 [.lst (ints a), .lst (ints b)] (fun R_ => ∃ y0, Q y0 ∧ R_ = cb y0) := by
  refine AF.ofWQ (af_enter (n := 26) Try.func13 rfl (by rfl) rfl (Nat.le_of_ble_eq_true rfl) ?_)
  unfold wp_laws_likeInts at h
  refine aw_seq ?_
  refine aw_gh (gh_to (n := 26) (σ' := []) (env' := [(0, .c (.lst (ints a))), (1, .c (.lst (ints b)))]) rfl rfl ⟨rfl, rfl, trivial⟩) ?_
  refine aw_region ?_
  refine run_s (ss_assign rfl) rfl ?_
  refine run_nil ?_
  refine aw_seq ?_
  refine aw_seq ?_
  refine aw_region ?_
  refine run_s (ss_move rfl) rfl ?_
  refine run_s (ss_lenL (f := ci) rfl) rfl ?_
  refine run_s (ss_move rfl) rfl ?_
  refine run_s (ss_lenL (f := ci) rfl) rfl ?_
  refine run_s (ss_neq rfl rfl) rfl ?_
  refine run_nil ?_
  refine aw_cond rfl (fun q1 => ?_) (fun q1 => ?_)
  · replace h := h.1 (of_decide_eq_false (bnot_t q1))
    refine aw_seq ?_
    refine aw_gh (gh_to (n := 26) (σ' := []) (env' := [(4, .c (cb false))]) rfl rfl ⟨rfl, trivial⟩) ?_
    refine aw_region ?_
    refine run_s (ss_assign rfl) rfl ?_
    refine run_nil ?_
    refine aw_ret ?_
    exact retAF_mk (retv1 rfl (rv_tmp rfl)) rfl rfl ⟨_, (cle_refl _), _, h, rfl⟩
  · replace h := h.2 (of_decide_eq_true (bnot_f q1))
    refine aw_skip ?_
    refine aw_seq ?_
    refine aw_seq ?_
    refine aw_gh (gh_to (n := 26) (σ' := []) (env' := [(0, .c (.lst (ints a))), (1, .c (.lst (ints b)))]) rfl rfl ⟨rfl, rfl, trivial⟩) ?_
    refine aw_region ?_
    refine run_s (ss_assign rfl) rfl ?_
    refine run_nil ?_
    refine aw_block ?_
    obtain ⟨H1, m1, q2, h⟩ := h
    refine aw_loop1 (fun (v5_1 : Int) => ⟨[], [(0, .c (.lst (ints a))), (1, .c (.lst (ints b))), (5, .c (ci v5_1))], 26⟩) H1 m1 ⟨0, ghe_to (n := 26) rfl rfl ⟨rfl, rfl, rfl, trivial⟩, q2⟩ ?_
    rintro v5_1 q2
    replace h := h v5_1 q2
    refine aw_seq ?_
    refine aw_seq ?_
    refine aw_region ?_
    refine run_s (ss_move rfl) rfl ?_
    refine run_s (ss_move rfl) rfl ?_
    refine run_s (ss_lenL (f := ci) rfl) rfl ?_
    refine run_s (ss_lss rfl rfl) rfl ?_
    refine run_nil ?_
    refine aw_cond rfl (fun q3 => ?_) (fun q3 => ?_)
    · replace h := h.1 (of_decide_eq_true q3)
      refine aw_skip ?_
      refine aw_seq ?_
      refine aw_block ?_
      refine aw_seq ?_
      refine aw_gh (gh_to (n := 26) (σ' := []) (env' := [(0, .c (.lst (ints a))), (1, .c (.lst (ints b))), (5, .c (ci v5_1))]) rfl rfl ⟨rfl, rfl, rfl, trivial⟩) ?_
      refine aw_regionD (kd := kdl [0, 0, 0, 1, 0, 0, 0, 1, 0]) (ord := [0, 1, 2, 4, 5, 6, 3, 7, 8]) [] mixed (by kernel_rfl) ?_
      refine rd_s rfl rfl trivial (ss_move rfl) rfl ?_
      refine rd_s rfl rfl trivial (ss_move rfl) rfl ?_
      obtain ⟨q4, h⟩ := h
      refine rd_s rfl rfl trivial (ss_idxL rfl rfl q4) rfl ?_
      refine rd_s rfl rfl trivial (ss_move rfl) rfl ?_
      refine rd_s rfl rfl trivial (ss_move rfl) rfl ?_
      obtain ⟨q5, h⟩ := h
      refine rd_s rfl rfl trivial (ss_idxL rfl rfl q5) rfl ?_
      refine rd_l rfl rfl trivial (ss_loadL (f := ci) rfl q4) rfl ?_
      refine rd_l rfl rfl trivial (ss_loadL (f := ci) rfl q5) rfl ?_
      refine rd_s rfl rfl trivial (ss_neq rfl rfl) rfl ?_
      refine rd_nil ?_
      refine aw_cond rfl (fun q6 => ?_) (fun q6 => ?_)
      · replace h := h.1 (of_decide_eq_false (bnot_t q6))
        refine aw_seq ?_
        refine aw_gh (gh_to (n := 26) (σ' := []) (env' := []) rfl rfl trivial) ?_
        refine aw_region ?_
        refine run_s (ss_assign rfl) rfl ?_
        refine run_nil ?_
        refine aw_ret ?_
        exact retAF_mk (retv1 rfl (rv_tmp rfl)) rfl rfl ⟨_, (cle_refl _), _, h, rfl⟩
      · replace h := h.2 (of_decide_eq_true (bnot_f q6))
        refine aw_skip ?_
        refine aw_gh (gh_to (n := 26) (σ' := []) (env' := [(0, .c (.lst (ints a))), (1, .c (.lst (ints b))), (5, .c (ci v5_1))]) rfl rfl ⟨rfl, rfl, rfl, trivial⟩) ?_
        refine aw_region ?_
        refine run_s (ss_move rfl) rfl ?_
        obtain ⟨q7, h⟩ := h
        refine run_s (ss_add rfl rfl q7) rfl ?_
        refine run_s (ss_assign rfl) rfl ?_
        refine run_nil ?_
        exact ⟨v5_1 + 1, ghe_to (n := 26) rfl rfl ⟨rfl, rfl, rfl, trivial⟩, h.1, h.2⟩
    · replace h := h.2 (of_decide_eq_false q3)
      refine aw_exit ?_
      refine aw_seq ?_
      refine aw_gh (gh_to (n := 26) (σ' := []) (env' := []) rfl rfl trivial) ?_
      refine aw_region ?_
      refine run_s (ss_assign rfl) rfl ?_
      refine run_nil ?_
      refine aw_ret ?_
      exact retAF_mk (retv1 rfl (rv_tmp rfl)) rfl rfl ⟨_, (cle_refl _), _, h, rfl⟩

theorem c_laws_likeInts (a : List Int) (b : List Int) (hp : small a ∧ small b) : AF Try.prog 13 [.lst (ints a), .lst (ints b)] (fun R_ => R_ = cb (decide (a = b))) :=
  (w_laws_likeInts a b (fun y0 => y0 = decide (a = b)) (p_laws_likeInts a b hp)).mono (by rintro r ⟨_, rfl, rfl⟩; rfl)

set_option maxRecDepth 100000 in
set_option maxHeartbeats 4000000 in
theorem w_laws_same9 (a : List (List Int)) (b : List (List Int)) (Q : Bool → Prop) (h : wp_laws_same9 a b Q) : AF Try.prog 26 [.lst (rows a), .lst (rows b)] (fun R_ => ∃ y0, Q y0 ∧ R_ = cb y0) := by
  refine AF.ofWQ (af_enter (n := 27) Try.func26 rfl (by rfl) rfl (Nat.le_of_ble_eq_true rfl) ?_)
  unfold wp_laws_same9 at h
  refine aw_seq ?_
  refine aw_gh (gh_to (n := 27) (σ' := []) (env' := [(0, .c (.lst (rows a))), (1, .c (.lst (rows b)))]) rfl rfl ⟨rfl, rfl, trivial⟩) ?_
  refine aw_region ?_
  refine run_s (ss_assign rfl) rfl ?_
  refine run_nil ?_
  refine aw_seq ?_
  refine aw_seq ?_
  refine aw_region ?_
  refine run_s (ss_move rfl) rfl ?_
  refine run_s (ss_lenL (f := (fun r => C.lst (ints r))) rfl) rfl ?_
  refine run_s (ss_move rfl) rfl ?_
  refine run_s (ss_lenL (f := (fun r => C.lst (ints r))) rfl) rfl ?_
  refine run_s (ss_neq rfl rfl) rfl ?_
  refine run_nil ?_
  refine aw_cond rfl (fun q1 => ?_) (fun q1 => ?_)
  · replace h := h.1 (of_decide_eq_false (bnot_t q1))
    refine aw_seq ?_
    refine aw_gh (gh_to (n := 27) (σ' := []) (env' := [(4, .c (cb false))]) rfl rfl ⟨rfl, trivial⟩) ?_
    refine aw_region ?_
    refine run_s (ss_assign rfl) rfl ?_
    refine run_nil ?_
    refine aw_ret ?_
    exact retAF_mk (retv1 rfl (rv_tmp rfl)) rfl rfl ⟨_, (cle_refl _), _, h, rfl⟩
  · replace h := h.2 (of_decide_eq_true (bnot_f q1))
    refine aw_skip ?_
    refine aw_seq ?_
    refine aw_seq ?_
    refine aw_gh (gh_to (n := 27) (σ' := []) (env' := [(0, .c (.lst (rows a))), (1, .c (.lst (rows b)))]) rfl rfl ⟨rfl, rfl, trivial⟩) ?_
    refine aw_region ?_
    refine run_s (ss_assign rfl) rfl ?_
    refine run_nil ?_
    refine aw_block ?_
    obtain ⟨H1, m1, q2, h⟩ := h
    refine aw_loop1 (fun (v5_1 : Int) => ⟨[], [(0, .c (.lst (rows a))), (1, .c (.lst (rows b))), (5, .c (ci v5_1))], 27⟩) H1 m1 ⟨0, ghe_to (n := 27) rfl rfl ⟨rfl, rfl, rfl, trivial⟩, q2⟩ ?_
    rintro v5_1 q2
    replace h := h v5_1 q2
    refine aw_seq ?_
    refine aw_seq ?_
    refine aw_region ?_
    refine run_s (ss_move rfl) rfl ?_
    refine run_s (ss_move rfl) rfl ?_
    refine run_s (ss_lenL (f := (fun r => C.lst (ints r))) rfl) rfl ?_
    refine run_s (ss_lss rfl rfl) rfl ?_
    refine run_nil ?_
    refine aw_cond rfl (fun q3 => ?_) (fun q3 => ?_)
    · replace h := h.1 (of_decide_eq_true q3)
      refine aw_skip ?_
      refine aw_seq ?_
      refine aw_block ?_
      refine aw_seq ?_
      refine aw_gh (gh_to (n := 27) (σ' := []) (env' := [(0, .c (.lst (rows a))), (1, .c (.lst (rows b))), (5, .c (ci v5_1))]) rfl rfl ⟨rfl, rfl, rfl, trivial⟩) ?_
      refine aw_regionD (kd := kdl [0, 0, 0, 1, 0, 0, 0, 1, 2, 0]) (ord := [0, 1, 2, 4, 5, 6, 3, 7, 8, 9]) [] mixed (by kernel_rfl) ?_
      refine rd_s rfl rfl trivial (ss_move rfl) rfl ?_
      refine rd_s rfl rfl trivial (ss_move rfl) rfl ?_
      obtain ⟨q4, h⟩ := h
      refine rd_s rfl rfl trivial (ss_idxL rfl rfl q4) rfl ?_
      refine rd_s rfl rfl trivial (ss_move rfl) rfl ?_
      refine rd_s rfl rfl trivial (ss_move rfl) rfl ?_
      obtain ⟨q5, h⟩ := h
      refine rd_s rfl rfl trivial (ss_idxL rfl rfl q5) rfl ?_
      refine rd_l rfl rfl trivial (ss_loadL (f := (fun r => C.lst (ints r))) rfl q4) rfl ?_
      refine rd_l rfl rfl trivial (ss_loadL (f := (fun r => C.lst (ints r))) rfl q5) rfl ?_
      obtain ⟨q6, h⟩ := h
      refine rd_w rfl rfl trivial rfl rfl (ws_call (xs := [.tmp 20, .tmp 24]) (ids := []) rfl rfl rfl rfl (c_laws_likeInts (el a v5_1) (el b v5_1) q6) rfl ?_ )
      rintro _ rfl
      refine ⟨rfl, ?_⟩
      refine rd_s rfl rfl trivial (ss_not rfl) rfl ?_
      refine rd_nil ?_
      refine aw_cond rfl (fun q8 => ?_) (fun q8 => ?_)
      · replace h := h.1 (of_decide_eq_false (bnot_t q8))
        refine aw_seq ?_
        refine aw_gh (gh_to (n := 27) (σ' := []) (env' := []) rfl rfl trivial) ?_
        refine aw_region ?_
        refine run_s (ss_assign rfl) rfl ?_
        refine run_nil ?_
        refine aw_ret ?_
        exact retAF_mk (retv1 rfl (rv_tmp rfl)) rfl rfl ⟨_, (cle_refl _), _, h, rfl⟩
      · replace h := h.2 (of_decide_eq_true (bnot_f q8))
        refine aw_skip ?_
        refine aw_gh (gh_to (n := 27) (σ' := []) (env' := [(0, .c (.lst (rows a))), (1, .c (.lst (rows b))), (5, .c (ci v5_1))]) rfl rfl ⟨rfl, rfl, rfl, trivial⟩) ?_
        refine aw_region ?_
        refine run_s (ss_move rfl) rfl ?_
        obtain ⟨q9, h⟩ := h
        refine run_s (ss_add rfl rfl q9) rfl ?_
        refine run_s (ss_assign rfl) rfl ?_
        refine run_nil ?_
        exact ⟨v5_1 + 1, ghe_to (n := 27) rfl rfl ⟨rfl, rfl, rfl, trivial⟩, h.1, h.2⟩
    · replace h := h.2 (of_decide_eq_false q3)
      refine aw_exit ?_
      refine aw_seq ?_
      refine aw_gh (gh_to (n := 27) (σ' := []) (env' := []) rfl rfl trivial) ?_
      refine aw_region ?_
      refine run_s (ss_assign rfl) rfl ?_
      refine run_nil ?_
      refine aw_ret ?_
      exact retAF_mk (retv1 rfl (rv_tmp rfl)) rfl rfl ⟨_, (cle_refl _), _, h, rfl⟩

theorem c_laws_same9 (a : List (List Int)) (b : List (List Int)) (hp : small2 a ∧ small2 b) : AF Try.prog 26 [.lst (rows a), .lst (rows b)] (fun R_ => R_ = cb (decide (a = b))) :=
  (w_laws_same9 a b (fun y0 => y0 = decide (a = b)) (p_laws_same9 a b hp)).mono (by rintro r ⟨_, rfl, rfl⟩; rfl)

set_option maxRecDepth 100000 in
set_option maxHeartbeats 4000000 in
theorem w_laws_most9 (list : List Int) (Q : Int → Prop) (h : wp_laws_most9 list Q) : AF Try.prog 39 [.lst (ints list)] (fun R_ => ∃ y0, Q y0 ∧ R_ = ci y0) := by
  refine AF.ofWQ (af_enter (n := 23) Try.func39 rfl (by rfl) rfl (Nat.le_of_ble_eq_true rfl) ?_)
  unfold wp_laws_most9 at h
  refine aw_seq ?_
  refine aw_gh (gh_to (n := 23) (σ' := []) (env' := [(0, .c (.lst (ints list)))]) rfl rfl ⟨rfl, trivial⟩) ?_
  refine aw_region ?_
  refine run_s (ss_assign rfl) rfl ?_
  refine run_nil ?_
  refine aw_seq ?_
  refine aw_region ?_
  refine run_s (ss_assign rfl) rfl ?_
  refine run_nil ?_
  refine aw_seq ?_
  refine aw_seq ?_
  refine aw_region ?_
  refine run_s (ss_assign rfl) rfl ?_
  refine run_nil ?_
  refine aw_block ?_
  obtain ⟨H1, m1, q1, h⟩ := h
  refine aw_loop2 (fun (v3_1 : Int) (v4_1 : Int) => ⟨[], [(0, .c (.lst (ints list))), (3, .c (ci v3_1)), (4, .c (ci v4_1))], 23⟩) H1 m1 ⟨0, 0, ghe_to (n := 23) rfl rfl ⟨rfl, rfl, rfl, trivial⟩, q1⟩ ?_
  rintro v3_1 v4_1 q1
  replace h := h v3_1 v4_1 q1
  refine aw_seq ?_
  refine aw_seq ?_
  refine aw_region ?_
  refine run_s (ss_move rfl) rfl ?_
  refine run_s (ss_move rfl) rfl ?_
  refine run_s (ss_lenL (f := ci) rfl) rfl ?_
  refine run_s (ss_lss rfl rfl) rfl ?_
  refine run_nil ?_
  refine aw_cond rfl (fun q2 => ?_) (fun q2 => ?_)
  · replace h := h.1 (of_decide_eq_true q2)
    refine aw_skip ?_
    refine aw_seq ?_
    refine aw_block ?_
    refine aw_seq ?_
    refine aw_region ?_
    refine run_s (ss_move rfl) rfl ?_
    refine run_s (ss_move rfl) rfl ?_
    obtain ⟨q3, h⟩ := h
    refine run_s (ss_idxL rfl rfl q3) rfl ?_
    refine run_s (ss_loadL (f := ci) rfl q3) rfl ?_
    refine run_s (ss_move rfl) rfl ?_
    refine run_s (ss_geq rfl rfl) rfl ?_
    refine run_nil ?_
    refine aw_cond rfl (fun q4 => ?_) (fun q4 => ?_)
    · replace h := h.1 (of_decide_eq_true q4)
      refine aw_gh (gh_to (n := 23) (σ' := []) (env' := [(0, .c (.lst (ints list))), (3, .c (ci v3_1)), (4, .c (ci v4_1))]) rfl rfl ⟨rfl, rfl, rfl, trivial⟩) ?_
      refine aw_region ?_
      refine run_s (ss_move rfl) rfl ?_
      refine run_s (ss_move rfl) rfl ?_
      obtain ⟨q5, h⟩ := h
      refine run_s (ss_idxL rfl rfl q5) rfl ?_
      refine run_s (ss_loadL (f := ci) rfl q5) rfl ?_
      obtain ⟨q6, h⟩ := h
      refine run_s (ss_add rfl rfl q6) rfl ?_
      refine run_s (ss_assign rfl) rfl ?_
      refine run_nil ?_
      refine aw_gh (gh_to (n := 23) (σ' := []) (env' := [(0, .c (.lst (ints list))), (3, .c (ci ((el list v4_1) + 1))), (4, .c (ci v4_1))]) rfl rfl ⟨rfl, rfl, rfl, trivial⟩) ?_
      refine aw_region ?_
      refine run_s (ss_move rfl) rfl ?_
      obtain ⟨q7, h⟩ := h
      refine run_s (ss_add rfl rfl q7) rfl ?_
      refine run_s (ss_assign rfl) rfl ?_
      refine run_nil ?_
      exact ⟨(el list v4_1) + 1, v4_1 + 1, ghe_to (n := 23) rfl rfl ⟨rfl, rfl, rfl, trivial⟩, h.1, h.2⟩
    · replace h := h.2 (of_decide_eq_false q4)
      refine aw_skip ?_
      refine aw_gh (gh_to (n := 23) (σ' := []) (env' := [(0, .c (.lst (ints list))), (3, .c (ci v3_1)), (4, .c (ci v4_1))]) rfl rfl ⟨rfl, rfl, rfl, trivial⟩) ?_
      refine aw_region ?_
      refine run_s (ss_move rfl) rfl ?_
      obtain ⟨q8, h⟩ := h
      refine run_s (ss_add rfl rfl q8) rfl ?_
      refine run_s (ss_assign rfl) rfl ?_
      refine run_nil ?_
      exact ⟨v3_1, v4_1 + 1, ghe_to (n := 23) rfl rfl ⟨rfl, rfl, rfl, trivial⟩, h.1, h.2⟩
  · replace h := h.2 (of_decide_eq_false q2)
    refine aw_exit ?_
    refine aw_seq ?_
    refine aw_gh (gh_to (n := 23) (σ' := []) (env' := [(3, .c (ci v3_1))]) rfl rfl ⟨rfl, trivial⟩) ?_
    refine aw_region ?_
    refine run_s (ss_move rfl) rfl ?_
    refine run_s (ss_assign rfl) rfl ?_
    refine run_nil ?_
    refine aw_ret ?_
    exact retAF_mk (retv1 rfl (rv_tmp rfl)) rfl rfl ⟨_, (cle_refl _), _, h, rfl⟩

theorem c_laws_most9 (list : List Int) (hp : small list ∧ ∀ z_ ∈ list, z_ ≤ 1000000000) : AF Try.prog 39 [.lst (ints list)] (fun R_ => R_ = ci (mostI list)) :=
  (w_laws_most9 list (fun y0 => y0 = mostI list) (p_laws_most9 list hp)).mono (by rintro r ⟨_, rfl, rfl⟩; rfl)

set_option maxRecDepth 100000 in
set_option maxHeartbeats 4000000 in
theorem w_impl_IsQuandle (r : List (List Int)) (Q : Bool → Int → Prop) (h : wp_impl_IsQuandle r Q) : AF Try.prog 31 [.agg [.lst (rows r)]] (fun R_ => ∃ y0 y1, Q y0 y1 ∧ R_ = .tup [cb y0, ci y1]) := by
  refine AF.ofWQ (af_enter (n := 10) Try.func31 rfl (by rfl) rfl (Nat.le_of_ble_eq_true rfl) ?_)
  unfold wp_impl_IsQuandle at h
  refine aw_seq ?_
  refine aw_gh (gh_to (n := 10) (σ' := []) (env' := [(0, .c (.agg [.lst (rows r)]))]) rfl rfl ⟨rfl, trivial⟩) ?_
  refine aw_region ?_
  refine run_w (ws_boxR rfl (.inl rfl) rfl ⟨rfl, ?_⟩)
  refine run_s (ss_assign rfl) rfl ?_
  refine run_s (ss_assign rfl) rfl ?_
  refine run_nil ?_
  refine aw_seq ?_
  refine aw_seq ?_
  refine aw_region ?_
  refine run_s (ss_load_struct rfl (Nat.le_of_ble_eq_true rfl)) rfl ?_
  obtain ⟨q1, h⟩ := h
  refine run_w (ws_call (xs := [.tmp 4]) (ids := []) rfl rfl rfl rfl (c_impl_IsRack r q1) rfl ?_ )
  rintro _ rfl
  refine ⟨rfl, ?_⟩
  refine run_s (ss_not rfl) rfl ?_
  refine run_nil ?_
  refine aw_cond rfl (fun q3 => ?_) (fun q3 => ?_)
  · replace h := h.1 ((bnot_t q3))
    refine aw_seq ?_
    refine aw_gh (gh_to (n := 10) (σ' := []) (env' := [(2, .c (cb false)), (3, .c (ci 0))]) rfl rfl ⟨rfl, rfl, trivial⟩) ?_
    refine aw_region ?_
    refine run_s (ss_assign rfl) rfl ?_
    refine run_s (ss_assign rfl) rfl ?_
    refine run_nil ?_
    refine aw_ret ?_
    exact retAF_mk (retv2 rfl (rv_tmp rfl) (rv_tmp rfl)) rfl rfl ⟨_, (cle_refl _), _, _, h, rfl⟩
  · replace h := h.2 ((bnot_f q3))
    refine aw_skip ?_
    refine aw_seq ?_
    refine aw_region ?_
    refine run_s (ss_load_struct rfl (Nat.le_of_ble_eq_true rfl)) rfl ?_
    obtain ⟨q4, h⟩ := h
    refine run_w (ws_call (xs := [.tmp 7]) (ids := [8]) rfl rfl rfl rfl (c_impl_kinkOf r q4) rfl ?_ )
    rintro _ rfl
    refine ⟨rfl, ?_⟩
    obtain ⟨q6, h⟩ := h
    refine run_w (ws_callR (xs := [.tmp 8]) (cs := [.own (ints (diag r))]) (ids := []) rfl (.inr ⟨rfl, rfl⟩) rfl rfl (fz_cons (fz_own (fz_map (fun _ => rfl) _)) fz_nil) (c_impl_isIdentity (diag r) q6) rfl ?_ )
    rintro _ rfl
    refine ⟨rfl, rfl, ?_⟩
    refine run_s (ss_assign rfl) rfl ?_
    refine run_s (ss_assign rfl) rfl ?_
    refine run_nil ?_
    refine aw_ret ?_
    exact retAF_mk (retv2 rfl (rv_tmp rfl) (rv_tmp rfl)) rfl rfl ⟨_, (cle_refl _), _, _, h, rfl⟩

theorem c_impl_IsQuandle (r : List (List Int)) (hp : small2 r) : AF Try.prog 31 [.agg [.lst (rows r)]] (fun R_ => R_ = .tup [cb (isRk r && decide (diag r = unitI (r.length : Int))), ci (rkE r)]) :=
  (w_impl_IsQuandle r (fun y0 y1 => y0 = (isRk r && decide (diag r = unitI (r.length : Int))) ∧ y1 = rkE r) (p_impl_IsQuandle r hp)).mono (by rintro r ⟨_, _, ⟨rfl, rfl⟩, rfl⟩; rfl)

end Go.Proofs.Ytbodlnpmplcaoaa

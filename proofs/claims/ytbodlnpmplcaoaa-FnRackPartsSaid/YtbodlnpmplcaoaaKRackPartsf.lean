/- Contracts of functions that the law FnRackParts reaches: conditions, plain proofs, walks; no condition. -/
import Derived.Test.YtbodlnpmplcaoaaKRackPartse
import Derived.Test.YtbodlnpmplcaoaaPp
namespace Go.Proofs.Ytbodlnpmplcaoaa

def wp_laws_likeInts (a : List Int) (b : List Int) (Q : Bool → Prop) : Prop :=
 ((¬ ((a.length : Int) = (b.length : Int)) →
 Q false) ∧
 ((a.length : Int) = (b.length : Int) →
 ∃ (H1 : Int → Prop) (m1 : Int → Nat),
 H1 0 ∧
 ∀ (v5_1 : Int), H1 v5_1 →
 ( ((v5_1 < (a.length : Int) →
 (0 ≤ v5_1 ∧ v5_1 < (a.length : Int)) ∧
 (0 ≤ v5_1 ∧ v5_1 < (b.length : Int)) ∧
 ((¬ (el a v5_1 = el b v5_1) →
 Q false) ∧
 (el a v5_1 = el b v5_1 →
 (InI (v5_1 + 1)) ∧
 (H1 (v5_1 + 1) ∧ m1 (v5_1 + 1) < m1 v5_1)))) ∧
 (¬ (v5_1 < (a.length : Int)) →
 Q true)))))

def wp_laws_hasInt (list : List Int) (x : Int) (Q : Bool → Prop) : Prop :=
 ∃ (H1 : Int → Prop) (m1 : Int → Nat),
 H1 0 ∧
 ∀ (v5_1 : Int), H1 v5_1 →
 ( ((v5_1 < (list.length : Int) →
 (0 ≤ v5_1 ∧ v5_1 < (list.length : Int)) ∧
 ((el list v5_1 = x →
 Q true) ∧
 (¬ (el list v5_1 = x) →
 (InI (v5_1 + 1)) ∧
 (H1 (v5_1 + 1) ∧ m1 (v5_1 + 1) < m1 v5_1)))) ∧
 (¬ (v5_1 < (list.length : Int)) →
 Q false)))

theorem p_laws_likeInts (a b : List Int) (hp : small a ∧ small b) : wp_laws_likeInts a b (fun y0 => y0 = decide (a = b)) := by
  unfold wp_laws_likeInts
  obtain ⟨ha, hb⟩ := hp
  refine ⟨fun h => (decide_eq_false fun e => h (by rw [e])).symm, fun h => ⟨fun i => 0 ≤ i ∧ i ≤ (a.length : Int) ∧ Upto i fun j => el a j = el b j, fun i => ((a.length : Int) - i).toNat, ⟨by omega, by omega, upto0⟩, ?_⟩⟩
  rintro i ⟨h0, h1, hI⟩
  dsimp only
  refine ⟨fun hlt => ⟨⟨h0, hlt⟩, ⟨h0, by omega⟩, fun hf => (decide_eq_false fun e => hf (by rw [e])).symm, fun ht => ⟨⟨by omega, by omega⟩, ⟨by omega, by omega, upto1 hI ht⟩, by omega⟩⟩, fun hge => ?_⟩
  exact (decide_eq_true (ext_el (by omega) fun j h2 h3 => hI j h2 (by omega))).symm
theorem p_laws_hasInt (list : List Int) (x : Int) (hp : small list) : wp_laws_hasInt list x (fun y0 => y0 = list.contains x) := by
  have hs : (list.length : Int) ≤ 1000000000 := hp
  refine ⟨fun i => 0 ≤ i ∧ i ≤ (list.length : Int) ∧ Upto i fun j => el list j ≠ x, fun i => ((list.length : Int) - i).toNat, ⟨by omega, by omega, upto0⟩, ?_⟩
  rintro i ⟨h0, h1, hI⟩
  dsimp only
  refine ⟨fun hlt => ⟨⟨h0, hlt⟩, fun ht => ?_, fun hf => ⟨⟨by omega, by omega⟩, ⟨by omega, by omega, upto1 hI hf⟩, by omega⟩⟩, fun hge => ?_⟩
  · rw [← ht]; exact (List.contains_iff_mem.2 (el_mem ⟨h0, hlt⟩)).symm
  · symm
    rw [← Bool.not_eq_true, List.contains_iff_mem]
    intro hm
    obtain ⟨j, hj, e⟩ := mem_el hm
    exact hI j hj.1 (by omega) e
set_option maxRecDepth 100000 in
set_option maxHeartbeats 4000000 in
theorem w_laws_likeInts (a : List Int) (b : List Int) (Q : Bool → Prop) (h : wp_laws_likeInts a b Q) : AF Try.prog 13 [.lst (ints a), .lst (ints b)] (fun R_ => ∃ y0, Q y0 ∧ R_ = cb y0) := by
  refine AF.ofWQ (af_enter (n := 26) Try.func13 rfl (by rfl) rfl (Nat.le_of_ble_eq_true rfl) ?_)
  unfold wp_laws_likeInts at h
  refine aw_seq ?_
  refine aw_gh (gh_to (n := 26) (σ' := []) (env' := [(0, .c (.lst (ints a))), (1, .c (.lst (ints b)))]) rfl rfl ⟨rfl, rfl, trivial⟩) ?_
  refine aw_region ?_
  refine run_s (ss_assign rfl) rfl ?_
  refine run_nil ?_
  refine aw_seq ?_
  refine aw_seq ?_
  refine aw_region ?_
  refine run_s (ss_move rfl) rfl ?_
  refine run_s (ss_lenL (f := ci) rfl) rfl ?_
  refine run_s (ss_move rfl) rfl ?_
  refine run_s (ss_lenL (f := ci) rfl) rfl ?_
  refine run_s (ss_neq rfl rfl) rfl ?_
  refine run_nil ?_
  refine aw_cond rfl (fun q1 => ?_) (fun q1 => ?_)
  · replace h := h.1 (of_decide_eq_false (bnot_t q1))
    refine aw_seq ?_
    refine aw_gh (gh_to (n := 26) (σ' := []) (env' := [(4, .c (cb false))]) rfl rfl ⟨rfl, trivial⟩) ?_
    refine aw_region ?_
    refine run_s (ss_assign rfl) rfl ?_
    refine run_nil ?_
    refine aw_ret ?_
    exact retAF_mk (retv1 rfl (rv_tmp rfl)) rfl rfl ⟨_, (cle_refl _), _, h, rfl⟩
  · replace h := h.2 (of_decide_eq_true (bnot_f q1))
    refine aw_skip ?_
    refine aw_seq ?_
    refine aw_seq ?_
    refine aw_gh (gh_to (n := 26) (σ' := []) (env' := [(0, .c (.lst (ints a))), (1, .c (.lst (ints b)))]) rfl rfl ⟨rfl, rfl, trivial⟩) ?_
    refine aw_region ?_
    refine run_s (ss_assign rfl) rfl ?_
    refine run_nil ?_
    refine aw_block ?_
    obtain ⟨H1, m1, q2, h⟩ := h
    refine aw_loop1 (fun (v5_1 : Int) => ⟨[], [(0, .c (.lst (ints a))), (1, .c (.lst (ints b))), (5, .c (ci v5_1))], 26⟩) H1 m1 ⟨0, ghe_to (n := 26) rfl rfl ⟨rfl, rfl, rfl, trivial⟩, q2⟩ ?_
    rintro v5_1 q2
    replace h := h v5_1 q2
    refine aw_seq ?_
    refine aw_seq ?_
    refine aw_region ?_
    refine run_s (ss_move rfl) rfl ?_
    refine run_s (ss_move rfl) rfl ?_
    refine run_s (ss_lenL (f := ci) rfl) rfl ?_
    refine run_s (ss_lss rfl rfl) rfl ?_
    refine run_nil ?_
    refine aw_cond rfl (fun q3 => ?_) (fun q3 => ?_)
    · replace h := h.1 (of_decide_eq_true q3)
      refine aw_skip ?_
      refine aw_seq ?_
      refine aw_block ?_
      refine aw_seq ?_
      refine aw_gh (gh_to (n := 26) (σ' := []) (env' := [(0, .c (.lst (ints a))), (1, .c (.lst (ints b))), (5, .c (ci v5_1))]) rfl rfl ⟨rfl, rfl, rfl, trivial⟩) ?_
      refine aw_regionD (kd := kdl [0, 0, 0, 1, 0, 0, 0, 1, 0]) (ord := [0, 1, 2, 4, 5, 6, 3, 7, 8]) [] mixed (by kernel_rfl) ?_
      refine rd_s rfl rfl trivial (ss_move rfl) rfl ?_
      refine rd_s rfl rfl trivial (ss_move rfl) rfl ?_
      obtain ⟨q4, h⟩ := h
      refine rd_s rfl rfl trivial (ss_idxL rfl rfl q4) rfl ?_
      refine rd_s rfl rfl trivial (ss_move rfl) rfl ?_
      refine rd_s rfl rfl trivial (ss_move rfl) rfl ?_
      obtain ⟨q5, h⟩ := h
      refine rd_s rfl rfl trivial (ss_idxL rfl rfl q5) rfl ?_
      refine rd_l rfl rfl trivial (ss_loadL (f := ci) rfl q4) rfl ?_
      refine rd_l rfl rfl trivial (ss_loadL (f := ci) rfl q5) rfl ?_
      refine rd_s rfl rfl trivial (ss_neq rfl rfl) rfl ?_
      refine rd_nil ?_
      refine aw_cond rfl (fun q6 => ?_) (fun q6 => ?_)
      · replace h := h.1 (of_decide_eq_false (bnot_t q6))
        refine aw_seq ?_
        refine aw_gh (gh_to (n := 26) (σ' := []) (env' := []) rfl rfl trivial) ?_
        refine aw_region ?_
        refine run_s (ss_assign rfl) rfl ?_
        refine run_nil ?_
        refine aw_ret ?_
        exact retAF_mk (retv1 rfl (rv_tmp rfl)) rfl rfl ⟨_, (cle_refl _), _, h, rfl⟩
      · replace h := h.2 (of_decide_eq_true (bnot_f q6))
        refine aw_skip ?_
        refine aw_gh (gh_to (n := 26) (σ' := []) (env' := [(0, .c (.lst (ints a))), (1, .c (.lst (ints b))), (5, .c (ci v5_1))]) rfl rfl ⟨rfl, rfl, rfl, trivial⟩) ?_
        refine aw_region ?_
        refine run_s (ss_move rfl) rfl ?_
        obtain ⟨q7, h⟩ := h
        refine run_s (ss_add rfl rfl q7) rfl ?_
        refine run_s (ss_assign rfl) rfl ?_
        refine run_nil ?_
        exact ⟨v5_1 + 1, ghe_to (n := 26) rfl rfl ⟨rfl, rfl, rfl, trivial⟩, h.1, h.2⟩
    · replace h := h.2 (of_decide_eq_false q3)
      refine aw_exit ?_
      refine aw_seq ?_
      refine aw_gh (gh_to (n := 26) (σ' := []) (env' := []) rfl rfl trivial) ?_
      refine aw_region ?_
      refine run_s (ss_assign rfl) rfl ?_
      refine run_nil ?_
      refine aw_ret ?_
      exact retAF_mk (retv1 rfl (rv_tmp rfl)) rfl rfl ⟨_, (cle_refl _), _, h, rfl⟩

theorem c_laws_likeInts (a : List Int) (b : List Int) (hp : small a ∧ small b) : AF Try.prog 13 [.lst (ints a), .lst (ints b)] (fun R_ => R_ = cb (decide (a = b))) :=
  (w_laws_likeInts a b (fun y0 => y0 = decide (a = b)) (p_laws_likeInts a b hp)).mono (by rintro r ⟨_, rfl, rfl⟩; rfl)

set_option maxRecDepth 100000 in
set_option maxHeartbeats 4000000 in
theorem w_laws_hasInt (list : List Int) (x : Int) (Q : Bool → Prop) (h : wp_laws_hasInt list x Q) : AF Try.prog 16 [.lst (ints list), ci x] (fun R_ => ∃ y0, Q y0 ∧ R_ = cb y0) := by
  refine AF.ofWQ (af_enter (n := 18) Try.func16 rfl (by rfl) rfl (Nat.le_of_ble_eq_true rfl) ?_)
  unfold wp_laws_hasInt at h
  refine aw_seq ?_
  refine aw_gh (gh_to (n := 18) (σ' := []) (env' := [(0, .c (.lst (ints list))), (1, .c (ci x))]) rfl rfl ⟨rfl, rfl, trivial⟩) ?_
  refine aw_region ?_
  refine run_s (ss_assign rfl) rfl ?_
  refine run_nil ?_
  refine aw_seq ?_
  refine aw_seq ?_
  refine aw_region ?_
  refine run_s (ss_assign rfl) rfl ?_
  refine run_nil ?_
  refine aw_block ?_
  obtain ⟨H1, m1, q1, h⟩ := h
  refine aw_loop1 (fun (v5_1 : Int) => ⟨[], [(0, .c (.lst (ints list))), (1, .c (ci x)), (5, .c (ci v5_1))], 18⟩) H1 m1 ⟨0, ghe_to (n := 18) rfl rfl ⟨rfl, rfl, rfl, trivial⟩, q1⟩ ?_
  rintro v5_1 q1
  replace h := h v5_1 q1
  refine aw_seq ?_
  refine aw_seq ?_
  refine aw_region ?_
  refine run_s (ss_move rfl) rfl ?_
  refine run_s (ss_move rfl) rfl ?_
  refine run_s (ss_lenL (f := ci) rfl) rfl ?_
  refine run_s (ss_lss rfl rfl) rfl ?_
  refine run_nil ?_
  refine aw_cond rfl (fun q2 => ?_) (fun q2 => ?_)
  · replace h := h.1 (of_decide_eq_true q2)
    refine aw_skip ?_
    refine aw_seq ?_
    refine aw_block ?_
    refine aw_seq ?_
    refine aw_region ?_
    refine run_s (ss_move rfl) rfl ?_
    refine run_s (ss_move rfl) rfl ?_
    obtain ⟨q3, h⟩ := h
    refine run_s (ss_idxL rfl rfl q3) rfl ?_
    refine run_s (ss_loadL (f := ci) rfl q3) rfl ?_
    refine run_s (ss_move rfl) rfl ?_
    refine run_s (ss_eql rfl rfl) rfl ?_
    refine run_nil ?_
    refine aw_cond rfl (fun q4 => ?_) (fun q4 => ?_)
    · replace h := h.1 (of_decide_eq_true q4)
      refine aw_seq ?_
      refine aw_gh (gh_to (n := 18) (σ' := []) (env' := []) rfl rfl trivial) ?_
      refine aw_region ?_
      refine run_s (ss_assign rfl) rfl ?_
      refine run_nil ?_
      refine aw_ret ?_
      exact retAF_mk (retv1 rfl (rv_tmp rfl)) rfl rfl ⟨_, (cle_refl _), _, h, rfl⟩
    · replace h := h.2 (of_decide_eq_false q4)
      refine aw_skip ?_
      refine aw_gh (gh_to (n := 18) (σ' := []) (env' := [(0, .c (.lst (ints list))), (1, .c (ci x)), (5, .c (ci v5_1))]) rfl rfl ⟨rfl, rfl, rfl, trivial⟩) ?_
      refine aw_region ?_
      refine run_s (ss_move rfl) rfl ?_
      obtain ⟨q5, h⟩ := h
      refine run_s (ss_add rfl rfl q5) rfl ?_
      refine run_s (ss_assign rfl) rfl ?_
      refine run_nil ?_
      exact ⟨v5_1 + 1, ghe_to (n := 18) rfl rfl ⟨rfl, rfl, rfl, trivial⟩, h.1, h.2⟩
  · replace h := h.2 (of_decide_eq_false q2)
    refine aw_exit ?_
    refine aw_seq ?_
    refine aw_gh (gh_to (n := 18) (σ' := []) (env' := []) rfl rfl trivial) ?_
    refine aw_region ?_
    refine run_s (ss_assign rfl) rfl ?_
    refine run_nil ?_
    refine aw_ret ?_
    exact retAF_mk (retv1 rfl (rv_tmp rfl)) rfl rfl ⟨_, (cle_refl _), _, h, rfl⟩

theorem c_laws_hasInt (list : List Int) (x : Int) (hp : small list) : AF Try.prog 16 [.lst (ints list), ci x] (fun R_ => R_ = cb (list.contains x)) :=
  (w_laws_hasInt list x (fun y0 => y0 = list.contains x) (p_laws_hasInt list x hp)).mono (by rintro r ⟨_, rfl, rfl⟩; rfl)

def wp_spec_DrawSubrackFrom (code : List Int) (Q : List (List Int) → List Int → Prop) : Prop :=
 (small code ∧ bytes code) ∧
 ∀ (r1_0 : List Int) (r1_1 : Int) (r1_2 : Int), (r1_0 = code ∧ okS code r1_1 r1_2) →
 (okS r1_0 r1_1 r1_2 ∧ 1 ≤ (12 : Int) ∧ (12 : Int) ≤ 12) ∧
 ∀ (r2_0 : List (List Int)) (o2_0 : List Int) (o2_1 : Int) (o2_2 : Int), (drT (12 : Int) r2_0 ∧ o2_0 = r1_0 ∧ okS r1_0 o2_1 o2_2) →
 (okS o2_0 o2_1 o2_2 ∧ InI (4 : Int)) ∧
 ∀ (r3_0 : Int) (o3_0 : List Int) (o3_1 : Int) (o3_2 : Int), (nxP (4 : Int) r3_0 ∧ o3_0 = o2_0 ∧ okS o2_0 o3_1 o3_2) →
 ∃ (H1 : Int → List Int → Int → Int → List Int → Prop) (m1 : Int → List Int → Int → Int → List Int → Nat),
 H1 r3_0 o3_0 o3_1 o3_2 ([] : List Int) ∧
 ∀ (v7_1 : Int) (f9_0_1 : List Int) (f9_1_1 : Int) (f9_2_1 : Int) (o12_1 : List Int), H1 v7_1 f9_0_1 f9_1_1 f9_2_1 o12_1 →
 ( ((0 < v7_1 →
 (okS f9_0_1 f9_1_1 f9_2_1 ∧ InI (24 : Int)) ∧
 ∀ (r4_0 : Int) (o4_0 : List Int) (o4_1 : Int) (o4_2 : Int), (nxP (24 : Int) r4_0 ∧ o4_0 = f9_0_1 ∧ okS f9_0_1 o4_1 o4_2) →
 ((0 : Int) ≤ r4_0 ∧ (0 : Int) < 23 ∧ r4_0 ≤ 9223372036854775807) ∧
 (InI ((r2_0.length : Int) + (r4_0 / 23))) ∧
 (okS o4_0 o4_1 o4_2 ∧ InI ((r2_0.length : Int) + (r4_0 / 23))) ∧
 ∀ (r5_0 : Int) (o5_0 : List Int) (o5_1 : Int) (o5_2 : Int), (nxP ((r2_0.length : Int) + (r4_0 / 23)) r5_0 ∧ o5_0 = o4_0 ∧ okS o4_0 o5_1 o5_2) →
 ((o12_1.length : Int) + (([r5_0]).length : Int) ≤ 1000000000) ∧
 (InI (v7_1 - 1)) ∧
 (H1 (v7_1 - 1) o5_0 o5_1 o5_2 (o12_1 ++ ([r5_0])) ∧ m1 (v7_1 - 1) o5_0 o5_1 o5_2 (o12_1 ++ ([r5_0])) < m1 v7_1 f9_0_1 f9_1_1 f9_2_1 o12_1)) ∧
 (¬ (0 < v7_1) →
 Q r2_0 o12_1)))

def wp_spec_DrawSubracksOf (code : List Int) (Q : List (List Int) → Prop) : Prop :=
 (small code ∧ bytes code) ∧
 ∀ (r1_0 : List Int) (r1_1 : Int) (r1_2 : Int), (r1_0 = code ∧ okS code r1_1 r1_2) →
 (okS r1_0 r1_1 r1_2 ∧ 1 ≤ (9 : Int) ∧ (9 : Int) ≤ 12) ∧
 ∀ (r2_0 : List (List Int)) (o2_0 : List Int) (o2_1 : Int) (o2_2 : Int), (drT (9 : Int) r2_0 ∧ o2_0 = r1_0 ∧ okS r1_0 o2_1 o2_2) →
 Q r2_0

def wp_laws_roll (code : List Int) (seed : Int) (Q : List Int → Int → Int → Prop) : Prop :=
 ((0 : Int) ≤ (code.length : Int) ∧ (code.length : Int) ≤ 18446744073709551615) ∧
 ∃ (H1 : Int → Int → Prop) (m1 : Int → Int → Nat),
 H1 0 (w64 ((w64 (seed * (5507 : Int))) + (code.length : Int))) ∧
 ∀ (v6_1 : Int) (f15_2_1 : Int), H1 v6_1 f15_2_1 →
 ( ((v6_1 < (code.length : Int) →
 (0 ≤ v6_1 ∧ v6_1 < (code.length : Int)) ∧
 ((0 : Int) ≤ el code v6_1 ∧ el code v6_1 ≤ 18446744073709551615) ∧
 (InI (v6_1 + 1)) ∧
 (H1 (v6_1 + 1) (w64 ((w64 ((w64 (f15_2_1 * (1099511628211 : Int))) + (el code v6_1))) + (5 : Int))) ∧ m1 (v6_1 + 1) (w64 ((w64 ((w64 (f15_2_1 * (1099511628211 : Int))) + (el code v6_1))) + (5 : Int))) < m1 v6_1 f15_2_1)) ∧
 (¬ (v6_1 < (code.length : Int)) →
 Q code 0 f15_2_1)))

def wp_dice_below (d1 : List Int) (d2 : Int) (d3 : Int) (n : Int) (Q : Int → List Int → Int → Int → Prop) : Prop :=
 ((n < 1 →
 Q 0 d1 d2 d3) ∧
 (¬ (n < 1) →
 ((0 : Int) ≤ w64 ((w64 (d3 * (6364136223846793005 : Int))) + (1442695040888963407 : Int)) ∧ (0 : Int) ≤ (33 : Int) ∧ (33 : Int) ≤ 62) ∧
 (((0 : Int) ≤ (w64 ((w64 (d3 * (6364136223846793005 : Int))) + (1442695040888963407 : Int))) / (2 : Int) ^ (33 : Int).toNat ∧ (w64 ((w64 (d3 * (6364136223846793005 : Int))) + (1442695040888963407 : Int))) / (2 : Int) ^ (33 : Int).toNat ≤ 18446744073709551615) ∧ (0 : Int) ≤ (16777215 : Int) ∧ (16777215 : Int) ≤ 18446744073709551615) ∧
 (InI ((((w64 ((w64 (d3 * (6364136223846793005 : Int))) + (1442695040888963407 : Int))) / (2 : Int) ^ (33 : Int).toNat).toNat &&& (16777215 : Int).toNat : Nat) : Int)) ∧
 ((d2 < (d1.length : Int) →
 (0 ≤ d2 ∧ d2 < (d1.length : Int)) ∧
 (InI (el d1 d2)) ∧
 (InI (((((w64 ((w64 (d3 * (6364136223846793005 : Int))) + (1442695040888963407 : Int))) / (2 : Int) ^ (33 : Int).toNat).toNat &&& (16777215 : Int).toNat : Nat) : Int) + (el d1 d2))) ∧
 (InI (d2 + 1)) ∧
 ((0 : Int) ≤ ((((w64 ((w64 (d3 * (6364136223846793005 : Int))) + (1442695040888963407 : Int))) / (2 : Int) ^ (33 : Int).toNat).toNat &&& (16777215 : Int).toNat : Nat) : Int) + (el d1 d2) ∧ (0 : Int) < n) ∧
 Q ((((((w64 ((w64 (d3 * (6364136223846793005 : Int))) + (1442695040888963407 : Int))) / (2 : Int) ^ (33 : Int).toNat).toNat &&& (16777215 : Int).toNat : Nat) : Int) + (el d1 d2)) % n) d1 (d2 + 1) (w64 ((w64 (d3 * (6364136223846793005 : Int))) + (1442695040888963407 : Int)))) ∧
 (¬ (d2 < (d1.length : Int)) →
 ((0 : Int) ≤ ((((w64 ((w64 (d3 * (6364136223846793005 : Int))) + (1442695040888963407 : Int))) / (2 : Int) ^ (33 : Int).toNat).toNat &&& (16777215 : Int).toNat : Nat) : Int) ∧ (0 : Int) < n) ∧
 Q (((((w64 ((w64 (d3 * (6364136223846793005 : Int))) + (1442695040888963407 : Int))) / (2 : Int) ^ (33 : Int).toNat).toNat &&& (16777215 : Int).toNat : Nat) : Int) % n) d1 d2 (w64 ((w64 (d3 * (6364136223846793005 : Int))) + (1442695040888963407 : Int)))))))

theorem p_spec_DrawSubrackFrom (code : List Int) (hp : small code ∧ bytes code) : wp_spec_DrawSubrackFrom code (fun y0 y1 => drT 12 y0 ∧ (y1.length : Int) ≤ 12 ∧ ∀ z_ ∈ y1, 0 ≤ z_ ∧ z_ ≤ 13) := by
  refine ⟨hp, ?_⟩
  rintro c a h ⟨rfl, h1⟩
  refine ⟨⟨h1, by omega, by omega⟩, ?_⟩
  rintro t o0 o1 o2 ⟨ht, rfl, h2⟩
  have hl := ht.1
  refine ⟨⟨h2, by omega, by omega⟩, ?_⟩
  rintro k p0 p1 p2 ⟨hk, rfl, h3⟩
  have hk2 := hk.2 (by omega)
  refine ⟨fun v c a h l => (0 ≤ v ∧ v ≤ 3) ∧ c = p0 ∧ okS c a h ∧ (l.length : Int) = k - v ∧ ∀ z ∈ l, 0 ≤ z ∧ z ≤ 13, fun v _ _ _ _ => v.toNat, ⟨⟨by omega, by omega⟩, rfl, h3, by simp, by simp⟩, ?_⟩
  rintro v c a h l ⟨⟨v0, v1⟩, rfl, hS, ll, lz⟩
  dsimp only
  refine ⟨fun g => ⟨⟨hS, by omega, by omega⟩, ?_⟩, fun g => ⟨ht, by omega, lz⟩⟩
  rintro q b0 b1 b2 ⟨hq, rfl, h4⟩
  have hq2 := hq.2 (by omega)
  refine ⟨⟨hq2.1, by omega, by omega⟩, ⟨by omega, by omega⟩, ⟨h4, by omega, by omega⟩, ?_⟩
  rintro w d0 d1 d2 ⟨hw, rfl, h5⟩
  have hw2 : 0 ≤ w ∧ w ≤ 13 := by
    by_cases hc : (t.length : Int) + q / 23 < 1
    · rw [hw.1 hc]; omega
    · have := hw.2 hc; omega
  exact ⟨by rw [List.length_singleton]; omega, ⟨by omega, by omega⟩, ⟨⟨by omega, by omega⟩, rfl, h5, by simp; omega, mem_app lz hw2⟩, by omega⟩
theorem p_spec_DrawSubracksOf (code : List Int) (hp : small code ∧ bytes code) : wp_spec_DrawSubracksOf code (fun y0 => drT 9 y0) := by
  refine ⟨hp, ?_⟩
  rintro c a h ⟨rfl, h1⟩
  refine ⟨⟨h1, by omega, by omega⟩, ?_⟩
  rintro t o0 o1 o2 ⟨ht, rfl, h2⟩
  exact ht
theorem p_laws_roll (code : List Int) (seed : Int) (hp : small code ∧ bytes code ∧ 0 ≤ seed ∧ seed ≤ 18446744073709551615) : wp_laws_roll code seed (fun y0 y1 y2 => y0 = code ∧ okS code y1 y2) := by
  have hs : (code.length : Int) ≤ 1000000000 := hp.1
  refine ⟨⟨by omega, by omega⟩, fun i h => (0 ≤ i ∧ i ≤ (code.length : Int)) ∧ 0 ≤ h ∧ h ≤ 18446744073709551615, fun i _ => ((code.length : Int) - i).toNat, ⟨⟨by omega, by omega⟩, w64_in _⟩, ?_⟩
  rintro i h ⟨⟨i0, i1⟩, hh⟩
  dsimp only
  refine ⟨fun ilt => ?_, fun _ => ⟨rfl, ⟨hp.1, hp.2.1⟩, ⟨by omega, by omega⟩, hh⟩⟩
  have hb := hp.2.1 i i0 ilt
  exact ⟨⟨i0, ilt⟩, ⟨hb.1, by omega⟩, ⟨by omega, by omega⟩, ⟨⟨by omega, by omega⟩, w64_in _⟩, by omega⟩
theorem p_dice_below (s1 : List Int) (s2 s3 n : Int) (hp : okS s1 s2 s3 ∧ InI n) : wp_dice_below s1 s2 s3 n (fun y0 w0 w1 w2 => nxP n y0 ∧ w0 = s1 ∧ okS s1 w1 w2) := by
  obtain ⟨⟨⟨hs, hb⟩, ha, hh⟩, hn⟩ := hp
  have hs' : (s1.length : Int) ≤ 1000000000 := hs
  unfold wp_dice_below
  refine ⟨fun h => ⟨⟨fun _ => rfl, fun g => absurd h g⟩, rfl, ⟨hs, hb⟩, ha, hh⟩, fun h => ?_⟩
  generalize hH : w64 (w64 (s3 * (6364136223846793005 : Int)) + (1442695040888963407 : Int)) = H
  have hw : 0 ≤ H ∧ H ≤ 18446744073709551615 := by rw [← hH]; exact w64_in _
  have hd := shr_bd hw (33 : Int).toNat
  have hx := and_bd (H / (2 : Int) ^ (33 : Int).toNat).toNat
  generalize (((H / (2 : Int) ^ (33 : Int).toNat).toNat &&& (16777215 : Int).toNat : Nat) : Int) = B at hx ⊢
  have hn1 : 0 < n := by omega
  have md : ∀ z : Int, 0 ≤ z → nxP n (z % n) := fun z _ => ⟨fun g => absurd g h, fun _ => ⟨Int.emod_nonneg _ (by omega), Int.emod_lt_of_pos _ hn1⟩⟩
  refine ⟨⟨hw.1, by omega, by omega⟩, ⟨hd, by omega, by omega⟩, ⟨by omega, by omega⟩, fun g => ?_, fun g => ?_⟩
  · have hbb := hb s2 ha.1 g
    exact ⟨⟨ha.1, g⟩, ⟨by omega, by omega⟩, ⟨by omega, by omega⟩, ⟨by omega, by omega⟩, ⟨by omega, hn1⟩, md _ (by omega), rfl, ⟨hs, hb⟩, ⟨by omega, by omega⟩, hw⟩
  · exact ⟨⟨by omega, hn1⟩, md _ hx.1, rfl, ⟨hs, hb⟩, ha, hw⟩

set_option maxRecDepth 100000 in
set_option maxHeartbeats 4000000 in
theorem w_spec_DrawSubrackFrom (code : List Int) (Q : List (List Int) → List Int → Prop) (h : wp_spec_DrawSubrackFrom code Q) : AF Try.prog 10 [.lst (bys code)] (fun R_ => ∃ y0 y1, Q y0 y1 ∧ R_ = .tup [.agg [.own (orows y0)], .own (ints y1)]) := by
  refine AF.ofWQ (af_enter (n := 33) Try.func10 rfl (by rfl) rfl (Nat.le_of_ble_eq_true rfl) ?_)
  unfold wp_spec_DrawSubrackFrom at h
  refine aw_seq ?_
  refine aw_gh (gh_to (n := 33) (σ' := []) (env' := [(0, .c (.lst (bys code)))]) rfl rfl ⟨rfl, trivial⟩) ?_
  refine aw_region ?_
  refine run_w (ws_alloc (id := 2) rfl (Nat.le_of_ble_eq_true rfl) ⟨rfl, ?_⟩)
  refine run_s (ss_assign rfl) rfl ?_
  refine run_nil ?_
  refine aw_seq ?_
  refine aw_region ?_
  refine run_s (ss_move rfl) rfl ?_
  obtain ⟨q1, h⟩ := h
  refine run_w (ws_call (xs := [.tmp 8]) (ids := [9]) rfl rfl rfl rfl (c_spec_l01From code q1) rfl ?_ )
  rintro _ ⟨r1_0, r1_1, r1_2, q2, rfl⟩
  replace h := h r1_0 r1_1 r1_2 q2
  refine ⟨rfl, ?_⟩
  refine run_s (ss_assign rfl) rfl ?_
  refine run_nil ?_
  refine aw_seq ?_
  refine aw_region ?_
  refine run_s (ss_move rfl) rfl ?_
  obtain ⟨q3, h⟩ := h
  refine run_w (ws_callM (xs := [.tmp 10, .const (.int .i64 (12))]) (cs := [.obox [.lst (bys r1_0), ci r1_1, cu r1_2], ci 12]) (ids := [11]) rfl (.inr ⟨rfl, rfl⟩) rfl rfl rfl (c_spec_l03DrawAny r1_0 r1_1 r1_2 12 q3) rfl rfl ?_ )
  rintro _ _ ⟨r2_0, o2_0, o2_1, o2_2, q4, rfl, rfl⟩
  replace h := h r2_0 o2_0 o2_1 o2_2 q4
  refine ⟨rfl, rfl, ?_⟩
  refine run_w (ws_alloc (id := 5) rfl (Nat.le_of_ble_eq_true rfl) ⟨rfl, ?_⟩)
  refine run_w (ws_storeS rfl rfl (Nat.le_of_ble_eq_true rfl) rfl rfl rfl ⟨rfl, ?_⟩)
  refine run_nil ?_
  refine aw_seq ?_
  refine aw_gh (gh_to (n := 33) (σ' := [(5, ⟨[.hole], [(0, .ref 11)]⟩), (11, ⟨orows r2_0, []⟩), (9, ⟨[.lst (bys o2_0), ci o2_1, cu o2_2], []⟩), (2, ⟨[cnil], []⟩)]) (env' := [(2, .cell 2 0), (4, .cell 9 0), (5, .cell 5 0)]) rfl rfl ⟨rfl, rfl, rfl, trivial⟩) ?_
  refine aw_region ?_
  refine run_w (ws_buildSlice (id := 12) (ps := []) rfl rfl (Nat.le_of_ble_eq_true rfl) rfl ⟨rfl, ?_⟩)
  refine run_s (ss_assign rfl) rfl ?_
  refine run_nil ?_
  refine aw_seq ?_
  refine aw_seq ?_
  refine aw_region ?_
  refine run_s (ss_move rfl) rfl ?_
  obtain ⟨q5, h⟩ := h
  refine run_w (ws_callM (xs := [.tmp 13, .const (.int .i64 (4))]) (cs := [.obox [.lst (bys o2_0), ci o2_1, cu o2_2], ci 4]) (ids := []) rfl (.inr ⟨rfl, rfl⟩) rfl rfl rfl (c_spec_l01Next o2_0 o2_1 o2_2 4 q5) rfl rfl ?_ )
  rintro _ _ ⟨r3_0, o3_0, o3_1, o3_2, q6, rfl, rfl⟩
  replace h := h r3_0 o3_0 o3_1 o3_2 q6
  refine ⟨rfl, rfl, ?_⟩
  refine run_s (ss_assign rfl) rfl ?_
  refine run_nil ?_
  refine aw_block ?_
  obtain ⟨H1, m1, q7, h⟩ := h
  refine aw_loop5 (fun (v7_1 : Int) (f9_0_1 : List Int) (f9_1_1 : Int) (f9_2_1 : Int) (o12_1 : List Int) => ⟨[(12, ⟨ints o12_1, []⟩), (5, ⟨[.hole], [(0, .ref 11)]⟩), (11, ⟨orows r2_0, []⟩), (9, ⟨[.lst (bys f9_0_1), ci f9_1_1, cu f9_2_1], []⟩), (2, ⟨[cnil], []⟩)], [(2, .cell 2 0), (4, .cell 9 0), (5, .cell 5 0), (6, .ref 12), (7, .c (ci v7_1))], 33⟩) H1 m1 ⟨r3_0, o3_0, o3_1, o3_2, ([] : List Int), ghe_to (n := 33) rfl rfl ⟨rfl, rfl, rfl, rfl, rfl, trivial⟩, q7⟩ ?_
  rintro v7_1 f9_0_1 f9_1_1 f9_2_1 o12_1 q7
  replace h := h v7_1 f9_0_1 f9_1_1 f9_2_1 o12_1 q7
  refine aw_seq ?_
  refine aw_seq ?_
  refine aw_region ?_
  refine run_s (ss_move rfl) rfl ?_
  refine run_s (ss_gtr rfl rfl) rfl ?_
  refine run_nil ?_
  refine aw_cond rfl (fun q8 => ?_) (fun q8 => ?_)
  · replace h := h.1 (of_decide_eq_true q8)
    refine aw_skip ?_
    refine aw_seq ?_
    refine aw_block ?_
    refine aw_gh (gh_to (n := 33) (σ' := [(12, ⟨ints o12_1, []⟩), (5, ⟨[.hole], [(0, .ref 11)]⟩), (11, ⟨orows r2_0, []⟩), (9, ⟨[.lst (bys f9_0_1), ci f9_1_1, cu f9_2_1], []⟩), (2, ⟨[cnil], []⟩)]) (env' := [(2, .cell 2 0), (4, .cell 9 0), (5, .cell 5 0), (6, .ref 12), (7, .c (ci v7_1))]) rfl rfl ⟨rfl, rfl, rfl, rfl, rfl, trivial⟩) ?_
    refine aw_regionD (kd := kdl [0, 0, 0, 1, 0, 0, 2, 0, 0, 2, 2, 2, 0]) (ord := [0, 1, 2, 5, 3, 4, 6, 7, 8, 9, 10, 11, 12]) [9, 12, 29] mixed (by kernel_rfl) ?_
    refine rd_s rfl rfl trivial (ss_move rfl) rfl ?_
    refine rd_s rfl rfl trivial (ss_move rfl) rfl ?_
    refine rd_s rfl rfl trivial (ss_field_cell rfl) rfl ?_
    refine rd_s rfl rfl trivial (ss_move rfl) rfl ?_
    refine rd_l rfl rfl trivial (ss_loadH rfl rfl rfl rfl) rfl ?_
    refine rd_s rfl rfl trivial (ss_lenR (f := (fun r => C.own (ints r))) rfl rfl) rfl ?_
    obtain ⟨q9, h⟩ := h
    refine rd_w rfl rfl trivial rfl rfl (ws_callM (xs := [.tmp 24, .const (.int .i64 (24))]) (cs := [.obox [.lst (bys f9_0_1), ci f9_1_1, cu f9_2_1], ci 24]) (ids := []) rfl (.inr ⟨rfl, rfl⟩) rfl rfl rfl (c_spec_l01Next f9_0_1 f9_1_1 f9_2_1 24 q9) rfl rfl ?_ )
    rintro _ _ ⟨r4_0, o4_0, o4_1, o4_2, q10, rfl, rfl⟩
    replace h := h r4_0 o4_0 o4_1 o4_2 q10
    refine ⟨rfl, rfl, ?_⟩
    obtain ⟨q11, h⟩ := h
    refine rd_s rfl rfl trivial (ss_quo rfl rfl q11) rfl ?_
    obtain ⟨q12, h⟩ := h
    refine rd_s rfl rfl trivial (ss_add rfl rfl q12) rfl ?_
    obtain ⟨q13, h⟩ := h
    refine rd_w rfl rfl trivial rfl rfl (ws_callM (xs := [.tmp 20, .tmp 27]) (cs := [.obox [.lst (bys o4_0), ci o4_1, cu o4_2], ci ((r2_0.length : Int) + (r4_0 / 23))]) (ids := []) rfl (.inr ⟨rfl, rfl⟩) rfl rfl rfl (c_spec_l01Next o4_0 o4_1 o4_2 ((r2_0.length : Int) + (r4_0 / 23)) q13) rfl rfl ?_ )
    rintro _ _ ⟨r5_0, o5_0, o5_1, o5_2, q14, rfl, rfl⟩
    replace h := h r5_0 o5_0 o5_1 o5_2 q14
    refine ⟨rfl, rfl, ?_⟩
    refine rd_w rfl rfl trivial rfl rfl (ws_buildSlice (id := 29) (ps := [(0, .tmp 28)]) rfl rfl (Nat.le_of_ble_eq_true rfl) rfl ⟨rfl, ?_⟩)
    obtain ⟨q15, h⟩ := h
    refine rd_w rfl rfl trivial rfl rfl (ws_app1 ci (l := o12_1) (m := [r5_0]) rfl rfl rfl rfl rfl (Nat.le_of_ble_eq_true rfl) q15 ⟨rfl, ?_⟩)
    refine rd_s rfl rfl trivial (ss_assign rfl) rfl ?_
    refine rd_nil ?_
    refine aw_gh (gh_to (n := 33) (σ' := [(12, ⟨ints (o12_1 ++ ([r5_0])), []⟩), (5, ⟨[.hole], [(0, .ref 11)]⟩), (11, ⟨orows r2_0, []⟩), (9, ⟨[.lst (bys o5_0), ci o5_1, cu o5_2], []⟩), (2, ⟨[cnil], []⟩)]) (env' := [(2, .cell 2 0), (4, .cell 9 0), (5, .cell 5 0), (6, .ref 12), (7, .c (ci v7_1))]) rfl rfl ⟨rfl, rfl, rfl, rfl, rfl, trivial⟩) ?_
    refine aw_region ?_
    refine run_s (ss_move rfl) rfl ?_
    obtain ⟨q16, h⟩ := h
    refine run_s (ss_sub rfl rfl q16) rfl ?_
    refine run_s (ss_assign rfl) rfl ?_
    refine run_nil ?_
    exact ⟨v7_1 - 1, o5_0, o5_1, o5_2, o12_1 ++ ([r5_0]), ghe_to (n := 33) rfl rfl ⟨rfl, rfl, rfl, rfl, rfl, trivial⟩, h.1, h.2⟩
  · replace h := h.2 (of_decide_eq_false q8)
    refine aw_exit ?_
    refine aw_seq ?_
    refine aw_region ?_
    refine run_s (ss_loadS rfl rfl rfl rfl) rfl ?_
    refine run_s (ss_move rfl) rfl ?_
    refine run_w (ws_storeS rfl rfl (Nat.le_of_ble_eq_true rfl) rfl rfl rfl ⟨rfl, ?_⟩)
    refine run_s (ss_assign rfl) rfl ?_
    refine run_nil ?_
    refine aw_ret ?_
    exact retAF_mk (retv2 rfl (rv_struct rfl rfl rfl) (rv_tmp rfl)) rfl rfl ⟨_, (cle_refl _), _, _, h, rfl⟩

theorem c_spec_DrawSubrackFrom (code : List Int) (hp : small code ∧ bytes code) : AF Try.prog 10 [.lst (bys code)] (fun R_ => ∃ y0 y1, (drT 12 y0 ∧ (y1.length : Int) ≤ 12 ∧ ∀ z_ ∈ y1, 0 ≤ z_ ∧ z_ ≤ 13) ∧ R_ = .tup [.agg [.own (orows y0)], .own (ints y1)]) :=
  w_spec_DrawSubrackFrom code (fun y0 y1 => drT 12 y0 ∧ (y1.length : Int) ≤ 12 ∧ ∀ z_ ∈ y1, 0 ≤ z_ ∧ z_ ≤ 13) (p_spec_DrawSubrackFrom code hp)

set_option maxRecDepth 100000 in
set_option maxHeartbeats 4000000 in
theorem w_spec_DrawSubracksOf (code : List Int) (Q : List (List Int) → Prop) (h : wp_spec_DrawSubracksOf code Q) : AF Try.prog 17 [.lst (bys code)] (fun R_ => ∃ y0, Q y0 ∧ R_ = .agg [.own (orows y0)]) := by
  refine AF.ofWQ (af_enter (n := 6) Try.func17 rfl (by rfl) rfl (Nat.le_of_ble_eq_true rfl) ?_)
  unfold wp_spec_DrawSubracksOf at h
  refine aw_seq ?_
  refine aw_gh (gh_to (n := 6) (σ' := []) (env' := [(0, .c (.lst (bys code)))]) rfl rfl ⟨rfl, trivial⟩) ?_
  refine aw_region ?_
  refine run_w (ws_alloc (id := 2) rfl (Nat.le_of_ble_eq_true rfl) ⟨rfl, ?_⟩)
  refine run_nil ?_
  refine aw_seq ?_
  refine aw_region ?_
  refine run_s (ss_move rfl) rfl ?_
  obtain ⟨q1, h⟩ := h
  refine run_w (ws_call (xs := [.tmp 3]) (ids := [4]) rfl rfl rfl rfl (c_spec_l01From code q1) rfl ?_ )
  rintro _ ⟨r1_0, r1_1, r1_2, q2, rfl⟩
  replace h := h r1_0 r1_1 r1_2 q2
  refine ⟨rfl, ?_⟩
  obtain ⟨q3, h⟩ := h
  refine run_w (ws_callM (xs := [.tmp 4, .const (.int .i64 (9))]) (cs := [.obox [.lst (bys r1_0), ci r1_1, cu r1_2], ci 9]) (ids := [5]) rfl (.inr ⟨rfl, rfl⟩) rfl rfl rfl (c_spec_l03DrawAny r1_0 r1_1 r1_2 9 q3) rfl rfl ?_ )
  rintro _ _ ⟨r2_0, o2_0, o2_1, o2_2, q4, rfl, rfl⟩
  replace h := h r2_0 o2_0 o2_1 o2_2 q4
  refine ⟨rfl, rfl, ?_⟩
  refine run_w (ws_storeS rfl rfl (Nat.le_of_ble_eq_true rfl) rfl rfl rfl ⟨rfl, ?_⟩)
  refine run_nil ?_
  refine aw_ret ?_
  exact retAF_mk (retv1 rfl (rv_struct rfl rfl rfl)) rfl rfl ⟨_, (cle_refl _), _, h, rfl⟩

theorem c_spec_DrawSubracksOf (code : List Int) (hp : small code ∧ bytes code) : AF Try.prog 17 [.lst (bys code)] (fun R_ => ∃ y0, (drT 9 y0) ∧ R_ = .agg [.own (orows y0)]) :=
  w_spec_DrawSubracksOf code (fun y0 => drT 9 y0) (p_spec_DrawSubracksOf code hp)

set_option maxRecDepth 100000 in
set_option maxHeartbeats 4000000 in
theorem w_laws_roll (code : List Int) (seed : Int) (Q : List Int → Int → Int → Prop) (h : wp_laws_roll code seed Q) : AF Try.prog 20 [.lst (bys code), cu seed] (fun R_ => ∃ y0 y1 y2, Q y0 y1 y2 ∧ R_ = .obox [.lst (bys y0), ci y1, cu y2]) := by
  refine AF.ofWQ (af_enter (n := 38) Try.func20 rfl (by rfl) rfl (Nat.le_of_ble_eq_true rfl) ?_)
  unfold wp_laws_roll at h
  refine aw_seq ?_
  refine aw_gh (gh_to (n := 38) (σ' := []) (env' := [(0, .c (.lst (bys code))), (1, .c (cu seed))]) rfl rfl ⟨rfl, rfl, trivial⟩) ?_
  refine aw_region ?_
  refine run_s (ss_assign rfl) rfl ?_
  refine run_nil ?_
  refine aw_seq ?_
  refine aw_region ?_
  refine run_s (ss_move rfl) rfl ?_
  refine run_s (ss_move rfl) rfl ?_
  refine run_s (ss_mulU rfl rfl) rfl ?_
  refine run_s (ss_move rfl) rfl ?_
  refine run_s (ss_lenL (f := cy) rfl) rfl ?_
  obtain ⟨q1, h⟩ := h
  refine run_s (ss_convert rfl (IntWalk.u64_in _ q1)) rfl ?_
  refine run_s (ss_addU rfl rfl) rfl ?_
  refine run_s (ss_buildG (ps := [(0, .tmp 7), (2, .tmp 13)]) rfl) rfl ?_
  refine run_w (ws_boxS (id := 15) rfl rfl rfl (Nat.le_of_ble_eq_true rfl) rfl ⟨rfl, ?_⟩)
  refine run_s (ss_assign rfl) rfl ?_
  refine run_nil ?_
  refine aw_seq ?_
  refine aw_seq ?_
  refine aw_gh (gh_to (n := 38) (σ' := [(15, ⟨[.lst (bys code), ci 0, cu (w64 ((w64 (seed * (5507 : Int))) + (code.length : Int)))], []⟩)]) (env' := [(0, .c (.lst (bys code))), (5, .cell 15 0)]) rfl rfl ⟨rfl, rfl, trivial⟩) ?_
  refine aw_region ?_
  refine run_s (ss_assign rfl) rfl ?_
  refine run_nil ?_
  refine aw_block ?_
  obtain ⟨H1, m1, q2, h⟩ := h
  refine aw_loop2 (fun (v6_1 : Int) (f15_2_1 : Int) => ⟨[(15, ⟨[.lst (bys code), ci 0, cu f15_2_1], []⟩)], [(0, .c (.lst (bys code))), (5, .cell 15 0), (6, .c (ci v6_1))], 38⟩) H1 m1 ⟨0, w64 ((w64 (seed * (5507 : Int))) + (code.length : Int)), ghe_to (n := 38) rfl rfl ⟨rfl, rfl, rfl, trivial⟩, q2⟩ ?_
  rintro v6_1 f15_2_1 q2
  replace h := h v6_1 f15_2_1 q2
  refine aw_seq ?_
  refine aw_seq ?_
  refine aw_region ?_
  refine run_s (ss_move rfl) rfl ?_
  refine run_s (ss_move rfl) rfl ?_
  refine run_s (ss_lenL (f := cy) rfl) rfl ?_
  refine run_s (ss_lss rfl rfl) rfl ?_
  refine run_nil ?_
  refine aw_cond rfl (fun q3 => ?_) (fun q3 => ?_)
  · replace h := h.1 (of_decide_eq_true q3)
    refine aw_skip ?_
    refine aw_seq ?_
    refine aw_block ?_
    refine aw_gh (gh_to (n := 38) (σ' := [(15, ⟨[.lst (bys code), ci 0, cu f15_2_1], []⟩)]) (env' := [(0, .c (.lst (bys code))), (5, .cell 15 0), (6, .c (ci v6_1))]) rfl rfl ⟨rfl, rfl, rfl, trivial⟩) ?_
    refine aw_regionD (kd := kdl [0, 0, 0, 0, 1, 0, 0, 0, 0, 1, 0, 0, 0, 0, 0, 3]) (ord := [0, 1, 2, 3, 6, 7, 8, 4, 5, 9, 10, 11, 12, 13, 14, 15]) [] mixed (by kernel_rfl) ?_
    refine rd_s rfl rfl trivial (ss_move rfl) rfl ?_
    refine rd_s rfl rfl trivial (ss_move rfl) rfl ?_
    refine rd_s rfl rfl trivial (ss_nilCheck_cell rfl) rfl ?_
    refine rd_s rfl rfl trivial (ss_field_cell rfl) rfl ?_
    refine rd_s rfl rfl trivial (ss_move rfl) rfl ?_
    refine rd_s rfl rfl trivial (ss_move rfl) rfl ?_
    obtain ⟨q4, h⟩ := h
    refine rd_s rfl rfl trivial (ss_idxL rfl rfl q4) rfl ?_
    refine rd_l rfl rfl trivial (ss_loadC rfl rfl rfl rfl rfl) rfl ?_
    refine rd_s rfl rfl trivial (ss_mulU rfl rfl) rfl ?_
    refine rd_l rfl rfl trivial (ss_loadL (f := cy) rfl q4) rfl ?_
    obtain ⟨q5, h⟩ := h
    refine rd_s rfl rfl trivial (ss_convert rfl (IntWalk.u64_in _ q5)) rfl ?_
    refine rd_s rfl rfl trivial (ss_addU rfl rfl) rfl ?_
    refine rd_s rfl rfl trivial (ss_addU rfl rfl) rfl ?_
    refine rd_s rfl rfl trivial (ss_nilCheck_cell rfl) rfl ?_
    refine rd_s rfl rfl trivial (ss_field_cell rfl) rfl ?_
    refine rd_f rfl rfl trivial (ws_store rfl rfl (Nat.le_of_ble_eq_true rfl) rfl rfl ⟨rfl, ?_⟩)
    refine rd_nil ?_
    refine aw_gh (gh_to (n := 38) (σ' := [(15, ⟨[.lst (bys code), ci 0, cu (w64 ((w64 ((w64 (f15_2_1 * (1099511628211 : Int))) + (el code v6_1))) + (5 : Int)))], []⟩)]) (env' := [(0, .c (.lst (bys code))), (5, .cell 15 0), (6, .c (ci v6_1))]) rfl rfl ⟨rfl, rfl, rfl, trivial⟩) ?_
    refine aw_region ?_
    refine run_s (ss_move rfl) rfl ?_
    obtain ⟨q6, h⟩ := h
    refine run_s (ss_add rfl rfl q6) rfl ?_
    refine run_s (ss_assign rfl) rfl ?_
    refine run_nil ?_
    exact ⟨v6_1 + 1, w64 ((w64 ((w64 (f15_2_1 * (1099511628211 : Int))) + (el code v6_1))) + (5 : Int)), ghe_to (n := 38) rfl rfl ⟨rfl, rfl, rfl, trivial⟩, h.1, h.2⟩
  · replace h := h.2 (of_decide_eq_false q3)
    refine aw_exit ?_
    refine aw_seq ?_
    refine aw_gh (gh_to (n := 38) (σ' := [(15, ⟨[.lst (bys code), ci 0, cu f15_2_1], []⟩)]) (env' := [(5, .cell 15 0)]) rfl rfl ⟨rfl, trivial⟩) ?_
    refine aw_region ?_
    refine run_s (ss_move rfl) rfl ?_
    refine run_s (ss_assign rfl) rfl ?_
    refine run_nil ?_
    refine aw_ret ?_
    exact retAF_mk (retv1 rfl (rv_tmp rfl)) rfl rfl ⟨_, (cle_refl _), _, _, _, h, rfl⟩

theorem c_laws_roll (code : List Int) (seed : Int) (hp : small code ∧ bytes code ∧ 0 ≤ seed ∧ seed ≤ 18446744073709551615) : AF Try.prog 20 [.lst (bys code), cu seed] (fun R_ => ∃ y0 y1 y2, (y0 = code ∧ okS code y1 y2) ∧ R_ = .obox [.lst (bys y0), ci y1, cu y2]) :=
  w_laws_roll code seed (fun y0 y1 y2 => y0 = code ∧ okS code y1 y2) (p_laws_roll code seed hp)

set_option maxRecDepth 100000 in
set_option maxHeartbeats 4000000 in
theorem w_dice_below (d1 : List Int) (d2 : Int) (d3 : Int) (n : Int) (Q : Int → List Int → Int → Int → Prop) (h : wp_dice_below d1 d2 d3 n Q) : AM Try.prog 21 [.obox [.lst (bys d1), ci d2, cu d3], ci n] (fun R_ O_ => ∃ y0 w0 w1 w2, Q y0 w0 w1 w2 ∧ R_ = ci y0 ∧ O_ = [.obox [.lst (bys w0), ci w1, cu w2], ci n]) := by
  refine am_enter (n := 58) (m := 2) Try.func21 rfl (by rfl) rfl rfl (Nat.le_of_ble_eq_true rfl) [800] rfl ?_
  unfold wp_dice_below at h
  refine aw_seq ?_
  refine aw_gh (gh_to (n := 58) (σ' := [(800, ⟨[.lst (bys d1), ci d2, cu d3], []⟩)]) (env' := [(0, .cell 800 0), (1, .c (ci n)), (58, .cell 800 0), (59, .c (ci n))]) rfl rfl ⟨rfl, rfl, rfl, rfl, trivial⟩) ?_
  refine aw_region ?_
  refine run_s (ss_assign rfl) rfl ?_
  refine run_nil ?_
  refine aw_seq ?_
  refine aw_seq ?_
  refine aw_region ?_
  refine run_s (ss_move rfl) rfl ?_
  refine run_s (ss_lss rfl rfl) rfl ?_
  refine run_nil ?_
  refine aw_cond rfl (fun q1 => ?_) (fun q1 => ?_)
  · replace h := h.1 (of_decide_eq_true q1)
    refine aw_seq ?_
    refine aw_gh (gh_to (n := 58) (σ' := [(800, ⟨[.lst (bys d1), ci d2, cu d3], []⟩)]) (env' := [(4, .c (ci 0)), (58, .cell 800 0), (59, .c (ci n))]) rfl rfl ⟨rfl, rfl, rfl, trivial⟩) ?_
    refine aw_region ?_
    refine run_s (ss_assign rfl) rfl ?_
    refine run_nil ?_
    refine aw_ret ?_
    exact retAM_mk (retv1 rfl (rv_tmp rfl)) rfl rfl rfl ⟨_, _, _, _, h, rfl, rfl⟩
  · replace h := h.2 (of_decide_eq_false q1)
    refine aw_skip ?_
    refine aw_seq ?_
    refine aw_region ?_
    refine run_s (ss_move rfl) rfl ?_
    refine run_s (ss_move rfl) rfl ?_
    refine run_s (ss_nilCheck_cell rfl) rfl ?_
    refine run_s (ss_field_cell rfl) rfl ?_
    refine run_s (ss_loadC rfl rfl rfl rfl rfl) rfl ?_
    refine run_s (ss_mulU rfl rfl) rfl ?_
    refine run_s (ss_addU rfl rfl) rfl ?_
    refine run_s (ss_nilCheck_cell rfl) rfl ?_
    refine run_s (ss_field_cell rfl) rfl ?_
    refine run_w (ws_store rfl rfl (Nat.le_of_ble_eq_true rfl) rfl rfl ⟨rfl, ?_⟩)
    refine run_nil ?_
    refine aw_seq ?_
    refine aw_gh (gh_to (n := 58) (σ' := [(800, ⟨[.lst (bys d1), ci d2, cu (w64 ((w64 (d3 * (6364136223846793005 : Int))) + (1442695040888963407 : Int)))], []⟩)]) (env' := [(0, .cell 800 0), (1, .c (ci n)), (58, .cell 800 0), (59, .c (ci n))]) rfl rfl ⟨rfl, rfl, rfl, rfl, trivial⟩) ?_
    refine aw_region ?_
    refine run_s (ss_move rfl) rfl ?_
    refine run_s (ss_nilCheck_cell rfl) rfl ?_
    refine run_s (ss_field_cell rfl) rfl ?_
    refine run_s (ss_loadC rfl rfl rfl rfl rfl) rfl ?_
    obtain ⟨q2, h⟩ := h
    refine run_s (ss_shrU rfl rfl q2) rfl ?_
    obtain ⟨q3, h⟩ := h
    refine run_s (ss_andU rfl rfl q3) rfl ?_
    obtain ⟨q4, h⟩ := h
    refine run_s (ss_convert rfl (wrap_in q4.1 q4.2)) rfl ?_
    refine run_s (ss_assign rfl) rfl ?_
    refine run_nil ?_
    refine aw_seq ?_
    refine aw_seq ?_
    refine aw_gh (gh_to (n := 58) (σ' := [(800, ⟨[.lst (bys d1), ci d2, cu (w64 ((w64 (d3 * (6364136223846793005 : Int))) + (1442695040888963407 : Int)))], []⟩)]) (env' := [(0, .cell 800 0), (1, .c (ci n)), (5, .c (ci ((((w64 ((w64 (d3 * (6364136223846793005 : Int))) + (1442695040888963407 : Int))) / (2 : Int) ^ (33 : Int).toNat).toNat &&& (16777215 : Int).toNat : Nat) : Int))), (58, .cell 800 0), (59, .c (ci n))]) rfl rfl ⟨rfl, rfl, rfl, rfl, rfl, trivial⟩) ?_
    refine aw_regionD (kd := kdl [0, 0, 0, 1, 0, 0, 0, 1, 0, 0]) (ord := [0, 1, 2, 4, 5, 6, 3, 7, 8, 9]) [] mixed (by kernel_rfl) ?_
    refine rd_s rfl rfl trivial (ss_move rfl) rfl ?_
    refine rd_s rfl rfl trivial (ss_nilCheck_cell rfl) rfl ?_
    refine rd_s rfl rfl trivial (ss_field_cell rfl) rfl ?_
    refine rd_s rfl rfl trivial (ss_move rfl) rfl ?_
    refine rd_s rfl rfl trivial (ss_nilCheck_cell rfl) rfl ?_
    refine rd_s rfl rfl trivial (ss_field_cell rfl) rfl ?_
    refine rd_l rfl rfl trivial (ss_loadC rfl rfl rfl rfl rfl) rfl ?_
    refine rd_l rfl rfl trivial (ss_loadC rfl rfl rfl rfl rfl) rfl ?_
    refine rd_s rfl rfl trivial (ss_lenL (f := cy) rfl) rfl ?_
    refine rd_s rfl rfl trivial (ss_lss rfl rfl) rfl ?_
    refine rd_nil ?_
    refine aw_cond rfl (fun q5 => ?_) (fun q5 => ?_)
    · replace h := h.1 (of_decide_eq_true q5)
      refine aw_seq ?_
      refine aw_gh (gh_to (n := 58) (σ' := [(800, ⟨[.lst (bys d1), ci d2, cu (w64 ((w64 (d3 * (6364136223846793005 : Int))) + (1442695040888963407 : Int)))], []⟩)]) (env' := [(0, .cell 800 0), (1, .c (ci n)), (5, .c (ci ((((w64 ((w64 (d3 * (6364136223846793005 : Int))) + (1442695040888963407 : Int))) / (2 : Int) ^ (33 : Int).toNat).toNat &&& (16777215 : Int).toNat : Nat) : Int))), (58, .cell 800 0), (59, .c (ci n))]) rfl rfl ⟨rfl, rfl, rfl, rfl, rfl, trivial⟩) ?_
      refine aw_regionD (kd := kdl [0, 0, 0, 0, 1, 0, 0, 0, 1, 0, 1, 0, 0, 0]) (ord := [0, 1, 2, 3, 5, 6, 7, 4, 8, 9, 10, 11, 12, 13]) [] mixed (by kernel_rfl) ?_
      refine rd_s rfl rfl trivial (ss_move rfl) rfl ?_
      refine rd_s rfl rfl trivial (ss_move rfl) rfl ?_
      refine rd_s rfl rfl trivial (ss_nilCheck_cell rfl) rfl ?_
      refine rd_s rfl rfl trivial (ss_field_cell rfl) rfl ?_
      refine rd_s rfl rfl trivial (ss_move rfl) rfl ?_
      refine rd_s rfl rfl trivial (ss_nilCheck_cell rfl) rfl ?_
      refine rd_s rfl rfl trivial (ss_field_cell rfl) rfl ?_
      refine rd_l rfl rfl trivial (ss_loadC rfl rfl rfl rfl rfl) rfl ?_
      refine rd_l rfl rfl trivial (ss_loadC rfl rfl rfl rfl rfl) rfl ?_
      obtain ⟨q6, h⟩ := h
      refine rd_s rfl rfl trivial (ss_idxL rfl rfl q6) rfl ?_
      refine rd_l rfl rfl trivial (ss_loadL (f := cy) rfl q6) rfl ?_
      obtain ⟨q7, h⟩ := h
      refine rd_s rfl rfl trivial (ss_convert rfl (wrap_in q7.1 q7.2)) rfl ?_
      obtain ⟨q8, h⟩ := h
      refine rd_s rfl rfl trivial (ss_add rfl rfl q8) rfl ?_
      refine rd_s rfl rfl trivial (ss_assign rfl) rfl ?_
      refine rd_nil ?_
      refine aw_gh (gh_to (n := 58) (σ' := [(800, ⟨[.lst (bys d1), ci d2, cu (w64 ((w64 (d3 * (6364136223846793005 : Int))) + (1442695040888963407 : Int)))], []⟩)]) (env' := [(0, .cell 800 0), (1, .c (ci n)), (5, .c (ci (((((w64 ((w64 (d3 * (6364136223846793005 : Int))) + (1442695040888963407 : Int))) / (2 : Int) ^ (33 : Int).toNat).toNat &&& (16777215 : Int).toNat : Nat) : Int) + (el d1 d2)))), (58, .cell 800 0), (59, .c (ci n))]) rfl rfl ⟨rfl, rfl, rfl, rfl, rfl, trivial⟩) ?_
      refine aw_region ?_
      refine run_s (ss_move rfl) rfl ?_
      refine run_s (ss_move rfl) rfl ?_
      refine run_s (ss_nilCheck_cell rfl) rfl ?_
      refine run_s (ss_field_cell rfl) rfl ?_
      refine run_s (ss_loadC rfl rfl rfl rfl rfl) rfl ?_
      obtain ⟨q9, h⟩ := h
      refine run_s (ss_add rfl rfl q9) rfl ?_
      refine run_s (ss_nilCheck_cell rfl) rfl ?_
      refine run_s (ss_field_cell rfl) rfl ?_
      refine run_w (ws_store rfl rfl (Nat.le_of_ble_eq_true rfl) rfl rfl ⟨rfl, ?_⟩)
      refine run_nil ?_
      refine aw_seq ?_
      refine aw_gh (gh_to (n := 58) (σ' := [(800, ⟨[.lst (bys d1), ci (d2 + 1), cu (w64 ((w64 (d3 * (6364136223846793005 : Int))) + (1442695040888963407 : Int)))], []⟩)]) (env' := [(1, .c (ci n)), (5, .c (ci (((((w64 ((w64 (d3 * (6364136223846793005 : Int))) + (1442695040888963407 : Int))) / (2 : Int) ^ (33 : Int).toNat).toNat &&& (16777215 : Int).toNat : Nat) : Int) + (el d1 d2)))), (58, .cell 800 0), (59, .c (ci n))]) rfl rfl ⟨rfl, rfl, rfl, rfl, trivial⟩) ?_
      refine aw_region ?_
      refine run_s (ss_move rfl) rfl ?_
      refine run_s (ss_move rfl) rfl ?_
      obtain ⟨q10, h⟩ := h
      refine run_s (ss_rem rfl rfl q10) rfl ?_
      refine run_s (ss_assign rfl) rfl ?_
      refine run_nil ?_
      refine aw_ret ?_
      exact retAM_mk (retv1 rfl (rv_tmp rfl)) rfl rfl rfl ⟨_, _, _, _, h, rfl, rfl⟩
    · replace h := h.2 (of_decide_eq_false q5)
      refine aw_skip ?_
      refine aw_seq ?_
      refine aw_gh (gh_to (n := 58) (σ' := [(800, ⟨[.lst (bys d1), ci d2, cu (w64 ((w64 (d3 * (6364136223846793005 : Int))) + (1442695040888963407 : Int)))], []⟩)]) (env' := [(1, .c (ci n)), (5, .c (ci ((((w64 ((w64 (d3 * (6364136223846793005 : Int))) + (1442695040888963407 : Int))) / (2 : Int) ^ (33 : Int).toNat).toNat &&& (16777215 : Int).toNat : Nat) : Int))), (58, .cell 800 0), (59, .c (ci n))]) rfl rfl ⟨rfl, rfl, rfl, rfl, trivial⟩) ?_
      refine aw_region ?_
      refine run_s (ss_move rfl) rfl ?_
      refine run_s (ss_move rfl) rfl ?_
      obtain ⟨q11, h⟩ := h
      refine run_s (ss_rem rfl rfl q11) rfl ?_
      refine run_s (ss_assign rfl) rfl ?_
      refine run_nil ?_
      refine aw_ret ?_
      exact retAM_mk (retv1 rfl (rv_tmp rfl)) rfl rfl rfl ⟨_, _, _, _, h, rfl, rfl⟩

theorem c_dice_below (d1 : List Int) (d2 : Int) (d3 : Int) (n : Int) (hp : okS d1 d2 d3 ∧ InI n) : AM Try.prog 21 [.obox [.lst (bys d1), ci d2, cu d3], ci n] (fun R_ O_ => ∃ y0 w0 w1 w2, (nxP n y0 ∧ w0 = d1 ∧ okS d1 w1 w2) ∧ R_ = ci y0 ∧ O_ = [.obox [.lst (bys w0), ci w1, cu w2], ci n]) :=
  w_dice_below d1 d2 d3 n (fun y0 w0 w1 w2 => nxP n y0 ∧ w0 = d1 ∧ okS d1 w1 w2) (p_dice_below d1 d2 d3 n hp)

end Go.Proofs.Ytbodlnpmplcaoaa

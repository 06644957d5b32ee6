/- Contracts of functions that the law FnExactRestrictRack reaches: conditions, plain proofs, walks; no condition. -/
import Derived.Test.YtllimiejaijbkaaKERestrictRacke
import Derived.Test.YtllimiejaijbkaaPf
namespace Go.Proofs.Ytllimiejaijbkaa

def wp_impl_isSubrack (r : List (List Int)) (list : List Int) (Q : Bool → Prop) : Prop :=
 ∃ (H1 : Int → Prop) (m1 : Int → Nat),
 H1 0 ∧
 ∀ (v11_1 : Int), H1 v11_1 →
 ( ((v11_1 < (list.length : Int) →
   (0 ≤ v11_1 ∧ v11_1 < (list.length : Int)) ∧
   ∃ (H2 : Int → Prop) (m2 : Int → Nat),
   H2 0 ∧
   ∀ (v17_2 : Int), H2 v17_2 →
   ( ((v17_2 < (list.length : Int) →
     (0 ≤ v17_2 ∧ v17_2 < (list.length : Int)) ∧
     (0 ≤ el list v11_1 ∧ el list v11_1 < (r.length : Int)) ∧
     (0 ≤ el list v17_2 ∧ el list v17_2 < ((el r (el list v11_1)).length : Int)) ∧
     (small list) ∧
     (((list.contains (el (el r (el list v11_1)) (el list v17_2))) = false →
      Q false) ∧
     ((list.contains (el (el r (el list v11_1)) (el list v17_2))) = true →
      (InI (v17_2 + 1)) ∧
      (H2 (v17_2 + 1) ∧ m2 (v17_2 + 1) < m2 v17_2)))) ∧
    (¬ (v17_2 < (list.length : Int)) →
     (InI (v11_1 + 1)) ∧
     (H1 (v11_1 + 1) ∧ m1 (v11_1 + 1) < m1 v11_1))))) ∧
  (¬ (v11_1 < (list.length : Int)) →
   Q true)))


theorem p_impl_isSubrack (r : List (List Int)) (list : List Int) (hp : isTab r = true ∧ small list ∧ ∀ x_ ∈ list, 0 ≤ x_ ∧ x_ < (r.length : Int)) : wp_impl_isSubrack r list (fun y0 => y0 = dec (SubP r list)) := by
  unfold wp_impl_isSubrack
  obtain ⟨hr, hs, hl⟩ := hp
  have hs' : (list.length : Int) ≤ 1000000000 := hs
  refine ⟨fun i => 0 ≤ i ∧ i ≤ (list.length : Int) ∧ Upto i fun i => ∀ j, 0 ≤ j → j < (list.length : Int) → el (el r (el list i)) (el list j) ∈ list, fun i => ((list.length : Int) - i).toNat, ⟨by omega, by omega, upto0⟩, ?_⟩
  rintro i ⟨i0, i1, iI⟩
  dsimp only
  refine ⟨fun ilt => ⟨⟨i0, ilt⟩, ?_⟩, fun ige => ?_⟩
  · refine ⟨fun j => 0 ≤ j ∧ j ≤ (list.length : Int) ∧ Upto j fun j => el (el r (el list i)) (el list j) ∈ list, fun j => ((list.length : Int) - j).toNat, ⟨by omega, by omega, upto0⟩, ?_⟩
    rintro j ⟨j0, j1, jI⟩
    dsimp only
    refine ⟨fun jlt => ?_, fun jge => ⟨⟨by omega, by omega⟩, ⟨by omega, by omega, upto1 iI fun j a b => jI j a (by omega)⟩, by omega⟩⟩
    have hi := hl _ (el_mem (l := list) (i := i) ⟨i0, ilt⟩)
    have hj := hl _ (el_mem (l := list) (i := j) ⟨j0, jlt⟩)
    have ll := rk_len hr hi
    refine ⟨⟨j0, jlt⟩, hi, ⟨hj.1, by omega⟩, hs, fun h => ?_, fun h => ⟨⟨by omega, by omega⟩, ⟨by omega, by omega, upto1 jI (List.contains_iff_mem.1 h)⟩, by omega⟩⟩
    refine (dec_f fun hS => ?_).symm
    rw [List.contains_iff_mem.2 (hS _ (el_mem (l := list) (i := i) ⟨i0, ilt⟩) _ (el_mem (l := list) (i := j) ⟨j0, jlt⟩))] at h
    cases h
  · refine (dec_t fun x hx y hy => ?_).symm
    obtain ⟨a, ha, rfl⟩ := mem_el hx
    obtain ⟨b, hb, rfl⟩ := mem_el hy
    exact iI a ha.1 (by omega) b hb.1 hb.2
set_option maxRecDepth 100000 in
set_option maxHeartbeats 1000000 in
theorem w_impl_isSubrack (r : List (List Int)) (list : List Int) (Q : Bool → Prop) (h : wp_impl_isSubrack r list Q) : AF Try.prog 92 [.agg [.lst (rows r)], .lst (ints list)] (fun R_ => ∃ y0, Q y0 ∧ R_ = cb y0) := by
  refine AF.ofWQ (af_enter (n := 34) Try.func92 rfl (by rfl) rfl (Nat.le_of_ble_eq_true rfl) ?_)
  unfold wp_impl_isSubrack at h
  refine aw_seq ?_
  refine aw_gh (gh_to (n := 34) (σ' := []) (env' := [(0, .c (.agg [.lst (rows r)])), (1, .c (.lst (ints list)))]) rfl rfl ⟨rfl, rfl, trivial⟩) ?_
  refine aw_region ?_
  refine run_w (ws_boxR rfl (.inl rfl) rfl ⟨rfl, ?_⟩)
  refine run_s (ss_assign rfl) rfl ?_
  refine run_nil ?_
  refine aw_seq ?_
  refine aw_seq ?_
  refine aw_region ?_
  refine run_s (ss_move rfl) rfl ?_
  refine run_s (ss_lenL (f := ci) rfl) rfl ?_
  refine run_s (ss_move rfl) rfl ?_
  refine run_nil ?_
  refine aw_block ?_
  obtain ⟨H1, m1, q1, h⟩ := h
  refine aw_loop1 (fun (v11_1 : Int) => ⟨[], [(1, .c (.lst (ints list))), (2, .c (.ptr [.lst (rows r)])), (9, .c (.lst (ints list))), (10, .c (ci (list.length : Int))), (11, .c (ci v11_1))], 34⟩) H1 m1 ⟨0, ghe_to (n := 34) rfl rfl ⟨rfl, rfl, rfl, rfl, rfl, trivial⟩, q1⟩ ?_
  rintro v11_1 q1
  replace h := h v11_1 q1
  refine aw_seq ?_
  refine aw_region ?_
  refine run_s (ss_lss rfl rfl) rfl ?_
  refine run_nil ?_
  refine aw_seq ?_
  refine aw_cond rfl (fun q2 => ?_) (fun q2 => ?_)
  · replace h := h.1 (of_decide_eq_true q2)
    refine aw_skip ?_
    refine aw_seq ?_
    refine aw_block ?_
    refine aw_seq ?_
    refine aw_region ?_
    obtain ⟨q3, h⟩ := h
    refine run_s (ss_idxL rfl rfl q3) rfl ?_
    refine run_s (ss_loadL (f := ci) rfl q3) rfl ?_
    refine run_s (ss_assign rfl) rfl ?_
    refine run_nil ?_
    refine aw_seq ?_
    refine aw_region ?_
    refine run_s (ss_move rfl) rfl ?_
    refine run_s (ss_lenL (f := ci) rfl) rfl ?_
    refine run_s (ss_move rfl) rfl ?_
    refine run_nil ?_
    refine aw_block ?_
    obtain ⟨H2, m2, q4, h⟩ := h
    refine aw_loop1 (fun (v17_2 : Int) => ⟨[], [(1, .c (.lst (ints list))), (2, .c (.ptr [.lst (rows r)])), (6, .c (ci (el list v11_1))), (9, .c (.lst (ints list))), (10, .c (ci (list.length : Int))), (11, .c (ci v11_1)), (15, .c (.lst (ints list))), (16, .c (ci (list.length : Int))), (17, .c (ci v17_2))], 34⟩) H2 m2 ⟨0, ghe_to (n := 34) rfl rfl ⟨rfl, rfl, rfl, rfl, rfl, rfl, rfl, rfl, rfl, trivial⟩, q4⟩ ?_
    rintro v17_2 q4
    replace h := h v17_2 q4
    refine aw_seq ?_
    refine aw_region ?_
    refine run_s (ss_lss rfl rfl) rfl ?_
    refine run_nil ?_
    refine aw_seq ?_
    refine aw_cond rfl (fun q5 => ?_) (fun q5 => ?_)
    · replace h := h.1 (of_decide_eq_true q5)
      refine aw_skip ?_
      refine aw_seq ?_
      refine aw_block ?_
      refine aw_seq ?_
      refine aw_region ?_
      obtain ⟨q6, h⟩ := h
      refine run_s (ss_idxL rfl rfl q6) rfl ?_
      refine run_s (ss_loadL (f := ci) rfl q6) rfl ?_
      refine run_s (ss_assign rfl) rfl ?_
      refine run_nil ?_
      refine aw_seq ?_
      refine aw_region ?_
      refine run_s (ss_move rfl) rfl ?_
      refine run_s (ss_field_ptr rfl) rfl ?_
      refine run_s (ss_load_ptr rfl rfl) rfl ?_
      refine run_s (ss_move rfl) rfl ?_
      obtain ⟨q7, h⟩ := h
      refine run_s (ss_idxL rfl rfl q7) rfl ?_
      refine run_s (ss_loadL (f := (fun r => C.lst (ints r))) rfl q7) rfl ?_
      refine run_s (ss_move rfl) rfl ?_
      obtain ⟨q8, h⟩ := h
      refine run_s (ss_idxL rfl rfl q8) rfl ?_
      refine run_s (ss_loadL (f := ci) rfl q8) rfl ?_
      obtain ⟨q9, h⟩ := h
      refine run_w (ws_call (xs := [.tmp 21, .tmp 29]) (ids := []) rfl rfl rfl rfl (c_k_Contains list (el (el r (el list v11_1)) (el list v17_2)) q9) rfl ?_ )
      rintro _ rfl
      refine ⟨rfl, ?_⟩
      refine run_s (ss_not rfl) rfl ?_
      refine run_nil ?_
      refine aw_cond rfl (fun q11 => ?_) (fun q11 => ?_)
      · replace h := h.1 ((bnot_t q11))
        refine aw_seq ?_
        refine aw_gh (gh_to (n := 34) (σ' := []) (env' := []) rfl rfl trivial) ?_
        refine aw_region ?_
        refine run_s (ss_assign rfl) rfl ?_
        refine run_nil ?_
        refine aw_ret ?_
        exact retAF_mk (retv1 rfl (rv_tmp rfl)) rfl rfl ⟨_, (cle_refl _), _, h, rfl⟩
      · replace h := h.2 ((bnot_f q11))
        refine aw_skip ?_
        refine aw_gh (gh_to (n := 34) (σ' := []) (env' := [(1, .c (.lst (ints list))), (2, .c (.ptr [.lst (rows r)])), (6, .c (ci (el list v11_1))), (9, .c (.lst (ints list))), (10, .c (ci (list.length : Int))), (11, .c (ci v11_1)), (15, .c (.lst (ints list))), (16, .c (ci (list.length : Int))), (17, .c (ci v17_2))]) rfl rfl ⟨rfl, rfl, rfl, rfl, rfl, rfl, rfl, rfl, rfl, trivial⟩) ?_
        refine aw_region ?_
        obtain ⟨q12, h⟩ := h
        refine run_s (ss_add rfl rfl q12) rfl ?_
        refine run_s (ss_move rfl) rfl ?_
        refine run_nil ?_
        exact ⟨v17_2 + 1, ghe_to (n := 34) rfl rfl ⟨rfl, rfl, rfl, rfl, rfl, rfl, rfl, rfl, rfl, trivial⟩, h.1, h.2⟩
    · replace h := h.2 (of_decide_eq_false q5)
      refine aw_exit ?_
      refine aw_gh (gh_to (n := 34) (σ' := []) (env' := [(1, .c (.lst (ints list))), (2, .c (.ptr [.lst (rows r)])), (9, .c (.lst (ints list))), (10, .c (ci (list.length : Int))), (11, .c (ci v11_1))]) rfl rfl ⟨rfl, rfl, rfl, rfl, rfl, trivial⟩) ?_
      refine aw_region ?_
      obtain ⟨q13, h⟩ := h
      refine run_s (ss_add rfl rfl q13) rfl ?_
      refine run_s (ss_move rfl) rfl ?_
      refine run_nil ?_
      exact ⟨v11_1 + 1, ghe_to (n := 34) rfl rfl ⟨rfl, rfl, rfl, rfl, rfl, trivial⟩, h.1, h.2⟩
  · replace h := h.2 (of_decide_eq_false q2)
    refine aw_exit ?_
    refine aw_seq ?_
    refine aw_gh (gh_to (n := 34) (σ' := []) (env' := []) rfl rfl trivial) ?_
    refine aw_region ?_
    refine run_s (ss_assign rfl) rfl ?_
    refine run_nil ?_
    refine aw_ret ?_
    exact retAF_mk (retv1 rfl (rv_tmp rfl)) rfl rfl ⟨_, (cle_refl _), _, h, rfl⟩

theorem c_impl_isSubrack (r : List (List Int)) (list : List Int) (hp : isTab r = true ∧ small list ∧ ∀ x_ ∈ list, 0 ≤ x_ ∧ x_ < (r.length : Int)) : AF Try.prog 92 [.agg [.lst (rows r)], .lst (ints list)] (fun R_ => R_ = cb (dec (SubP r list))) :=
  (w_impl_isSubrack r list (fun y0 => y0 = dec (SubP r list)) (p_impl_isSubrack r list hp)).mono (by rintro r ⟨_, rfl, rfl⟩; rfl)

end Go.Proofs.Ytllimiejaijbkaa

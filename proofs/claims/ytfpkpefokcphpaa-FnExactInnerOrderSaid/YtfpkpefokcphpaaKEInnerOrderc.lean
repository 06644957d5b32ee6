/- Contracts of functions that the law FnExactInnerOrder reaches: conditions, plain proofs, walks; no condition. -/
import Derived.Test.YtfpkpefokcphpaaKEInnerOrderb
namespace Go.Proofs.Ytfpkpefokcphpaa

def wp_laws_FnExactInnerOrder (a0 : List (List Int)) (Q : Bool → Prop) : Prop :=
 (InS (1048576 : Int) ∧ huge2 a0) ∧
 ((szII a0 (1048576 : Int) < 0 →
 Q true) ∧
 (¬ (szII a0 (1048576 : Int) < 0) →
 (small2 a0) ∧
 (small2 a0) ∧
 (small2 a0) ∧
 (small2 a0) ∧
 ((¬ (InoV a0 = InoV a0) →
 Q false) ∧
 (InoV a0 = InoV a0 →
 ((¬ (InoE a0 = InoE a0) →
 Q false) ∧
 (InoE a0 = InoE a0 →
 (small2 a0) ∧
 (small2 a0 ∧ small2 a0) ∧
 ((¬ (a0 = a0) →
 Q false) ∧
 (a0 = a0 →
 Q true))))))))

@[reducible] def fine2 (t : List (List Int)) : Prop := small2 t ∧ tot t ≤ 1000000000
theorem sz_fine {a : List (List Int)} {left : Int} (hl : left ≤ 1000000000) (h : ¬ szII a left < 0) : fine2 a := by
  unfold szII at h
  split at h
  · omega
  · have tn := tot_nonneg a
    refine ⟨⟨by show (a.length : Int) ≤ 1000000000; omega, fun r hr => ?_⟩, by omega⟩
    obtain ⟨i, hi, rfl⟩ := mem_el hr
    have := tt_row hi
    have := (tt_le a i).1
    show ((el a i).length : Int) ≤ 1000000000; omega
theorem sz_in {a : List (List Int)} {left : Int} (hl : left ≤ 1000000000) (h : ¬ szII a left < 0) : InS (szII a left) := by
  refine ⟨by omega, ?_⟩
  unfold szII
  have := tot_nonneg a
  split <;> omega
theorem InS20 : InS 1048576 := ⟨by omega, by omega⟩
theorem fine_mkk {T : List (List Int)} {k : Int} (h : fine2 T) (hk : 0 ≤ k ∧ k ≤ 100000000000) : okKT k T ∧ ¬ (k + tot T < 0) := by
  have := tot_nonneg T
  have h2 := h.2
  exact ⟨⟨by omega, by omega⟩, by omega⟩
theorem p_laws_FnExactInnerOrder (a0 : List (List Int)) (hp : huge2 a0) : wp_laws_FnExactInnerOrder a0 (fun y0 => y0 = true) := by
  unfold wp_laws_FnExactInnerOrder
  have ha0 := hp
  by_cases za0 : szII a0 1048576 < 0
  · simp [eq_true InS20, eq_true ha0, za0]
  have fa0 := sz_fine (by omega) za0
  have ia0 := sz_in (by omega) za0
  have j0 : 0 ≤ (1 : Int) ∧ (1 : Int) ≤ 100000000000 := ⟨by omega, by omega⟩
  have ma0 := fine_mkk fa0 j0
  have ta0 := tot_nonneg a0
  have j1 : 0 ≤ 1 + tot a0 ∧ 1 + tot a0 ≤ 100000000000 := ⟨by omega, by have := fa0.2; omega⟩
  have k1 : okK 1 := ⟨by omega, by omega⟩
  simp [eq_true InS20, eq_true ha0, za0, eq_true fa0.1, eq_true ia0, eq_true ma0.1, ma0.2, eq_true k1]
set_option maxRecDepth 100000 in
set_option maxHeartbeats 4000000 in
theorem w_laws_FnExactInnerOrder (a0 : List (List Int)) (Q : Bool → Prop) (h : wp_laws_FnExactInnerOrder a0 Q) : AF Try.prog 3 [.agg [.lst (rows a0)]] (fun R_ => ∃ y0, Q y0 ∧ R_ = cb y0) := by
  refine AF.ofWQ (af_enter (n := 40) Try.func3 rfl (by rfl) rfl (Nat.le_of_ble_eq_true rfl) ?_)
  unfold wp_laws_FnExactInnerOrder at h
  refine aw_seq ?_
  refine aw_gh (gh_to (n := 40) (σ' := []) (env' := [(0, .c (.agg [.lst (rows a0)]))]) rfl rfl ⟨rfl, trivial⟩) ?_
  refine aw_region ?_
  refine run_w (ws_boxR rfl (.inl rfl) rfl ⟨rfl, ?_⟩)
  refine run_s (ss_assign rfl) rfl ?_
  refine run_nil ?_
  refine aw_seq ?_
  refine aw_region ?_
  refine run_s (ss_assign rfl) rfl ?_
  refine run_nil ?_
  refine aw_seq ?_
  refine aw_region ?_
  refine run_s (ss_load_struct rfl (Nat.le_of_ble_eq_true rfl)) rfl ?_
  refine run_s (ss_move rfl) rfl ?_
  obtain ⟨q1, h⟩ := h
  refine run_w (ws_call (xs := [.tmp 9, .tmp 10]) (ids := []) rfl rfl rfl rfl (c_laws_szRack a0 1048576 q1) rfl ?_ )
  rintro _ rfl
  refine ⟨rfl, ?_⟩
  refine run_s (ss_assign rfl) rfl ?_
  refine run_nil ?_
  refine aw_seq ?_
  refine aw_seq ?_
  refine aw_region ?_
  refine run_s (ss_move rfl) rfl ?_
  refine run_s (ss_lss rfl rfl) rfl ?_
  refine run_nil ?_
  refine aw_cond rfl (fun q3 => ?_) (fun q3 => ?_)
  ·replace h := h.1 (of_decide_eq_true q3)
   refine aw_seq ?_
   refine aw_gh (gh_to (n := 40) (σ' := []) (env' := [(2, .c (cb false))]) rfl rfl ⟨rfl, trivial⟩) ?_
   refine aw_region ?_
   refine run_s (ss_assign rfl) rfl ?_
   refine run_nil ?_
   refine aw_ret ?_
   exact retAF_mk (retv1 rfl (rv_tmp rfl)) rfl rfl ⟨_, (cle_refl _), _, h, rfl⟩
  ·replace h := h.2 (of_decide_eq_false q3)
   refine aw_skip ?_
   refine aw_seq ?_
   refine aw_region ?_
   refine run_s (ss_load_struct rfl (Nat.le_of_ble_eq_true rfl)) rfl ?_
   obtain ⟨q4, h⟩ := h
   refine run_w (ws_call (xs := [.tmp 15]) (ids := [16]) rfl rfl rfl rfl (c_laws_toRack a0 q4) rfl ?_ )
   rintro _ rfl
   refine ⟨rfl, ?_⟩
   obtain ⟨q6, h⟩ := h
   refine run_w (ws_callR (xs := [.tmp 16]) (cs := [.agg [.own (orows a0)]]) (ids := []) rfl (.inr ⟨rfl, rfl⟩) rfl rfl (fz_cons (fz_agg (fz_cons (fz_own (fz_map (fun _ => (fz_own (fz_map (fun _ => rfl) _))) _)) fz_nil)) fz_nil) (c_spec_InnerOrder a0 q6) rfl ?_ )
   rintro _ rfl
   refine ⟨(slf_tup (slf_cons rfl (slf_cons rfl slf_nil))), rfl, ?_⟩
   refine run_s (ss_move rfl) rfl ?_
   refine run_s (ss_extract rfl rfl) rfl ?_
   refine run_s (ss_extract rfl rfl) rfl ?_
   refine run_s (ss_assign rfl) rfl ?_
   refine run_s (ss_assign rfl) rfl ?_
   refine run_nil ?_
   refine aw_seq ?_
   refine aw_gh (gh_to (n := 40) (σ' := [(16, ⟨orows a0, []⟩)]) (env' := [(1, .c (.ptr [.lst (rows a0)])), (4, .c (ci (InoV a0))), (5, .c (ci (InoE a0)))]) rfl rfl ⟨rfl, rfl, rfl, trivial⟩) ?_
   refine aw_region ?_
   refine run_s (ss_load_struct rfl (Nat.le_of_ble_eq_true rfl)) rfl ?_
   obtain ⟨q8, h⟩ := h
   refine run_w (ws_call (xs := [.tmp 20]) (ids := [21]) rfl rfl rfl rfl (c_laws_toRack a0 q8) rfl ?_ )
   rintro _ rfl
   refine ⟨rfl, ?_⟩
   refine run_w (ws_alloc (id := 6) rfl (Nat.le_of_ble_eq_true rfl) ⟨rfl, ?_⟩)
   refine run_w (ws_storeS rfl rfl (Nat.le_of_ble_eq_true rfl) rfl rfl rfl ⟨rfl, ?_⟩)
   refine run_nil ?_
   refine aw_seq ?_
   refine aw_region ?_
   refine run_s (ss_loadS rfl rfl rfl rfl) rfl ?_
   obtain ⟨q10, h⟩ := h
   refine run_w (ws_callR (xs := [.tmp 23]) (cs := [.agg [.own (orows a0)]]) (ids := []) rfl (.inr ⟨rfl, rfl⟩) rfl rfl (fz_cons (fz_agg (fz_cons (fz_own (fz_map (fun _ => (fz_own (fz_map (fun _ => rfl) _))) _)) fz_nil)) fz_nil) (c_impl_InnerOrder a0 q10) rfl ?_ )
   rintro _ rfl
   refine ⟨(slf_tup (slf_cons rfl (slf_cons rfl slf_nil))), rfl, ?_⟩
   refine run_s (ss_move rfl) rfl ?_
   refine run_s (ss_extract rfl rfl) rfl ?_
   refine run_s (ss_extract rfl rfl) rfl ?_
   refine run_s (ss_assign rfl) rfl ?_
   refine run_s (ss_assign rfl) rfl ?_
   refine run_nil ?_
   refine aw_seq ?_
   refine aw_seq ?_
   refine aw_gh (gh_to (n := 40) (σ' := [(6, ⟨[.hole], [(0, .ref 21)]⟩), (21, ⟨orows a0, []⟩), (16, ⟨orows a0, []⟩)]) (env' := [(1, .c (.ptr [.lst (rows a0)])), (4, .c (ci (InoV a0))), (5, .c (ci (InoE a0))), (6, .cell 6 0), (7, .c (ci (InoV a0))), (8, .c (ci (InoE a0)))]) rfl rfl ⟨rfl, rfl, rfl, rfl, rfl, rfl, trivial⟩) ?_
   refine aw_region ?_
   refine run_s (ss_move rfl) rfl ?_
   refine run_s (ss_move rfl) rfl ?_
   refine run_s (ss_neq rfl rfl) rfl ?_
   refine run_s (ss_move rfl) rfl ?_
   refine run_split (s := 30) rfl (fun q12 => ?_) (fun q12 => ?_)
   ·replace h := h.1 (of_decide_eq_false (bnot_t q12))
    refine run_gf rfl rfl q12 rfl ?_
    refine run_gf rfl rfl q12 rfl ?_
    refine run_gf rfl rfl q12 rfl ?_
    refine run_s (ss_pickT rfl q12 rfl) rfl ?_
    refine run_nil ?_
    refine aw_cond rfl (fun q13 => ?_) (fun q13 => ?_)
    ·skip
     refine aw_seq ?_
     refine aw_gh (gh_to (n := 40) (σ' := [(6, ⟨[.hole], [(0, .ref 21)]⟩), (21, ⟨orows a0, []⟩), (16, ⟨orows a0, []⟩)]) (env' := []) rfl rfl trivial) ?_
     refine aw_region ?_
     refine run_s (ss_assign rfl) rfl ?_
     refine run_nil ?_
     refine aw_ret ?_
     exact retAF_mk (retv1 rfl (rv_tmp rfl)) rfl rfl ⟨_, (cle_refl _), _, h, rfl⟩
    ·cases q13
   ·replace h := h.2 (of_decide_eq_true (bnot_f q12))
    refine run_gt rfl rfl q12 ?_
    refine run_s (ss_move rfl) rfl ?_
    refine run_gt rfl rfl q12 ?_
    refine run_s (ss_move rfl) rfl ?_
    refine run_gt rfl rfl q12 ?_
    refine run_s (ss_neq rfl rfl) rfl ?_
    refine run_s (ss_pickF rfl q12 rfl) rfl ?_
    refine run_nil ?_
    refine aw_cond rfl (fun q14 => ?_) (fun q14 => ?_)
    ·replace h := h.1 (of_decide_eq_false (bnot_t q14))
     refine aw_seq ?_
     refine aw_gh (gh_to (n := 40) (σ' := [(6, ⟨[.hole], [(0, .ref 21)]⟩), (21, ⟨orows a0, []⟩), (16, ⟨orows a0, []⟩)]) (env' := []) rfl rfl trivial) ?_
     refine aw_region ?_
     refine run_s (ss_assign rfl) rfl ?_
     refine run_nil ?_
     refine aw_ret ?_
     exact retAF_mk (retv1 rfl (rv_tmp rfl)) rfl rfl ⟨_, (cle_refl _), _, h, rfl⟩
    ·replace h := h.2 (of_decide_eq_true (bnot_f q14))
     refine aw_skip ?_
     refine aw_seq ?_
     refine aw_seq ?_
     refine aw_gh (gh_to (n := 40) (σ' := [(6, ⟨[.hole], [(0, .ref 21)]⟩), (21, ⟨orows a0, []⟩), (16, ⟨orows a0, []⟩)]) (env' := [(1, .c (.ptr [.lst (rows a0)])), (6, .cell 6 0)]) rfl rfl ⟨rfl, rfl, trivial⟩) ?_
     refine aw_regionD (kd := kdl [1, 1, 2, 2, 0]) (ord := [0, 1, 2, 3, 4]) [] mixed (by kernel_rfl) ?_
     refine rd_l rfl rfl trivial (ss_loadS rfl rfl rfl rfl) rfl ?_
     refine rd_l rfl rfl trivial (ss_load_struct rfl (Nat.le_of_ble_eq_true rfl)) rfl ?_
     obtain ⟨q15, h⟩ := h
     refine rd_w rfl rfl trivial rfl rfl (ws_call (xs := [.tmp 36]) (ids := [37]) rfl rfl rfl rfl (c_laws_toRack a0 q15) rfl ?_ )
     rintro _ rfl
     refine ⟨rfl, ?_⟩
     obtain ⟨q17, h⟩ := h
     refine rd_w rfl rfl trivial rfl rfl (ws_callR (xs := [.tmp 35, .tmp 37]) (cs := [.agg [.own (orows a0)], .agg [.own (orows a0)]]) (ids := []) rfl (.inr ⟨rfl, rfl⟩) rfl rfl (fz_cons (fz_agg (fz_cons (fz_own (fz_map (fun _ => (fz_own (fz_map (fun _ => rfl) _))) _)) fz_nil)) (fz_cons (fz_agg (fz_cons (fz_own (fz_map (fun _ => (fz_own (fz_map (fun _ => rfl) _))) _)) fz_nil)) fz_nil)) (c_laws_eqRack a0 a0 q17) rfl ?_ )
     rintro _ rfl
     refine ⟨rfl, rfl, ?_⟩
     refine rd_s rfl rfl trivial (ss_not rfl) rfl ?_
     refine rd_nil ?_
     refine aw_cond rfl (fun q19 => ?_) (fun q19 => ?_)
     ·replace h := h.1 (of_decide_eq_false (bnot_t q19))
      refine aw_seq ?_
      refine aw_gh (gh_to (n := 40) (σ' := [(37, ⟨orows a0, []⟩), (6, ⟨[.hole], [(0, .ref 21)]⟩), (21, ⟨orows a0, []⟩), (16, ⟨orows a0, []⟩)]) (env' := []) rfl rfl trivial) ?_
      refine aw_region ?_
      refine run_s (ss_assign rfl) rfl ?_
      refine run_nil ?_
      refine aw_ret ?_
      exact retAF_mk (retv1 rfl (rv_tmp rfl)) rfl rfl ⟨_, (cle_refl _), _, h, rfl⟩
     ·replace h := h.2 (of_decide_eq_true (bnot_f q19))
      refine aw_skip ?_
      refine aw_seq ?_
      refine aw_gh (gh_to (n := 40) (σ' := [(37, ⟨orows a0, []⟩), (6, ⟨[.hole], [(0, .ref 21)]⟩), (21, ⟨orows a0, []⟩), (16, ⟨orows a0, []⟩)]) (env' := []) rfl rfl trivial) ?_
      refine aw_region ?_
      refine run_s (ss_assign rfl) rfl ?_
      refine run_nil ?_
      refine aw_ret ?_
      exact retAF_mk (retv1 rfl (rv_tmp rfl)) rfl rfl ⟨_, (cle_refl _), _, h, rfl⟩

theorem c_laws_FnExactInnerOrder (a0 : List (List Int)) (hp : huge2 a0) : AF Try.prog 3 [.agg [.lst (rows a0)]] (fun R_ => R_ = cb true) :=
  (w_laws_FnExactInnerOrder a0 (fun y0 => y0 = true) (p_laws_FnExactInnerOrder a0 hp)).mono (by rintro r ⟨_, rfl, rfl⟩; rfl)

end Go.Proofs.Ytfpkpefokcphpaa

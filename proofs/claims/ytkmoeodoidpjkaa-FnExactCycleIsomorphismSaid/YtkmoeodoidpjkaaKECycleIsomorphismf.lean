/- Contracts of functions that the law FnExactCycleIsomorphism reaches: conditions, plain proofs, walks; no condition. -/
import Derived.Test.YtkmoeodoidpjkaaKECycleIsomorphisme
namespace Go.Proofs.Ytkmoeodoidpjkaa

def wp_laws_FnExactCycleIsomorphism (a0 : List (List Int)) (a1 : List (List Int)) (Q : Bool → Prop) : Prop :=
 (InS (1048576 : Int) ∧ huge2 a0) ∧
 ((szII a0 (1048576 : Int) < 0 →
 Q true) ∧
 (¬ (szII a0 (1048576 : Int) < 0) →
 (InS (szII a0 (1048576 : Int)) ∧ huge2 a1) ∧
 ((szII a1 (szII a0 (1048576 : Int)) < 0 →
 Q true) ∧
 (¬ (szII a1 (szII a0 (1048576 : Int)) < 0) →
 (small2 a0) ∧
 (small2 a1) ∧
 (small2 a0 ∧ small2 a1) ∧
 (small2 a0) ∧
 (small2 a1) ∧
 (small2 a0 ∧ small2 a1) ∧
 (small (CisT a0 a1) ∧ small (CisT a0 a1)) ∧
 ((¬ ((CisT a0 a1) = (CisT a0 a1)) →
 Q false) ∧
 ((CisT a0 a1) = (CisT a0 a1) →
 ((¬ (CisE a0 a1 = CisE a0 a1) →
 Q false) ∧
 (CisE a0 a1 = CisE a0 a1 →
 (small2 a0) ∧
 (small2 a0 ∧ small2 a0) ∧
 ((¬ (a0 = a0) →
 Q false) ∧
 (a0 = a0 →
 (small2 a1) ∧
 (small2 a1 ∧ small2 a1) ∧
 ((¬ (a1 = a1) →
 Q false) ∧
 (a1 = a1 →
 (small2 a0 ∧ okKT (1 : Int) a0) ∧
 (small2 a1 ∧ okKT ((1 : Int) + tot a0) a1) ∧
 ((((1 : Int) + tot a0) + tot a1 < 0 →
 Q false) ∧
 (¬ (((1 : Int) + tot a0) + tot a1 < 0) →
 (small (CisT a0 a1) ∧ small (CisT a0 a1)) ∧
 ((¬ ((CisT a0 a1) = (CisT a0 a1)) →
 Q false) ∧
 ((CisT a0 a1) = (CisT a0 a1) →
 ((¬ (CisE a0 a1 = CisE a0 a1) →
 Q false) ∧
 (CisE a0 a1 = CisE a0 a1 →
 (small (CisT a0 a1) ∧ okK (1 : Int)) ∧
 (small (mkI (1 : Int) (CisT a0 a1)) ∧ okK (1 : Int)) ∧
 ((heI (1 : Int) (mkI (1 : Int) (CisT a0 a1)) < 0 →
 Q false) ∧
 (¬ (heI (1 : Int) (mkI (1 : Int) (CisT a0 a1)) < 0) →
 ((¬ (heI (1 : Int) (mkI (1 : Int) (CisT a0 a1)) = (1 : Int) + ((CisT a0 a1).length : Int)) →
 Q false) ∧
 (heI (1 : Int) (mkI (1 : Int) (CisT a0 a1)) = (1 : Int) + ((CisT a0 a1).length : Int) →
 (small2 a0) ∧
 (small2 a1) ∧
 (small2 a0 ∧ small2 a1) ∧
 (small (CisT a0 a1) ∧ small (CisT a0 a1)) ∧
 ((¬ ((CisT a0 a1) = (CisT a0 a1)) →
 Q false) ∧
 ((CisT a0 a1) = (CisT a0 a1) →
 ((¬ (CisE a0 a1 = CisE a0 a1) →
 Q false) ∧
 (CisE a0 a1 = CisE a0 a1 →
 (small (mkI (1 : Int) (CisT a0 a1)) ∧ okK (1 : Int)) ∧
 ((heI (1 : Int) (mkI (1 : Int) (CisT a0 a1)) < 0 →
 Q false) ∧
 (¬ (heI (1 : Int) (mkI (1 : Int) (CisT a0 a1)) < 0) →
 ((¬ (heI (1 : Int) (mkI (1 : Int) (CisT a0 a1)) = (1 : Int) + ((CisT a0 a1).length : Int)) →
 Q false) ∧
 (heI (1 : Int) (mkI (1 : Int) (CisT a0 a1)) = (1 : Int) + ((CisT a0 a1).length : Int) →
 Q true))))))))))))))))))))))))))))))

@[reducible] def fine2 (t : List (List Int)) : Prop := small2 t ∧ tot t ≤ 1000000000
theorem fine_mk1 {l : List Int} (h : small l) : small (mkI 1 l) ∧ heI 1 (mkI 1 l) = 1 + (l.length : Int) := ⟨by simpa using h, heI_mkI 1 l⟩
theorem sz_fine {a : List (List Int)} {left : Int} (hl : left ≤ 1000000000) (h : ¬ szII a left < 0) : fine2 a := by
  unfold szII at h
  split at h
  · omega
  · have tn := tot_nonneg a
    refine ⟨⟨by show (a.length : Int) ≤ 1000000000; omega, fun r hr => ?_⟩, by omega⟩
    obtain ⟨i, hi, rfl⟩ := mem_el hr
    have := tt_row hi
    have := (tt_le a i).1
    show ((el a i).length : Int) ≤ 1000000000; omega
theorem sz_in {a : List (List Int)} {left : Int} (hl : left ≤ 1000000000) (h : ¬ szII a left < 0) : InS (szII a left) := by
  refine ⟨by omega, ?_⟩
  unfold szII
  have := tot_nonneg a
  split <;> omega
theorem InS20 : InS 1048576 := ⟨by omega, by omega⟩
theorem fine_mkk {T : List (List Int)} {k : Int} (h : fine2 T) (hk : 0 ≤ k ∧ k ≤ 100000000000) : okKT k T ∧ ¬ (k + tot T < 0) := by
  have := tot_nonneg T
  have h2 := h.2
  exact ⟨⟨by omega, by omega⟩, by omega⟩
theorem small_iso {a b : List (List (List Int))} (h : isoL a b ≠ []) (ht : isTab (el a 0) = true) : small (el (isoL a b) 0) := by
  have := isoL_el h
  have := isTab_len ht
  show (_ : Int) ≤ 1000000000; omega
theorem small_Cis (r s : List (List Int)) : small (CisT r s) := by
  unfold CisT
  split
  · rename_i h
    unfold CisE at h
    split at h
    · rename_i h2
      refine small_iso (fun e => ?_) (isCyc_tab h2.1)
      rw [if_pos e] at h; cases h
    · cases h
  · show (_ : Int) ≤ _; simp
theorem p_laws_FnExactCycleIsomorphism (a0 : List (List Int)) (a1 : List (List Int)) (hp : huge2 a0 ∧ huge2 a1) : wp_laws_FnExactCycleIsomorphism a0 a1 (fun y0 => y0 = true) := by
  unfold wp_laws_FnExactCycleIsomorphism
  obtain ⟨ha0, ha1⟩ := hp
  by_cases za0 : szII a0 1048576 < 0
  · simp [eq_true InS20, eq_true ha0, eq_true ha1, za0]
  have fa0 := sz_fine (by omega) za0
  have ia0 := sz_in (by omega) za0
  by_cases za1 : szII a1 (szII a0 1048576) < 0
  · simp [eq_true InS20, eq_true ha0, eq_true ha1, za0, eq_true fa0.1, eq_true ia0, za1]
  have fa1 := sz_fine (by omega) za1
  have ia1 := sz_in (by omega) za1
  have j0 : 0 ≤ (1 : Int) ∧ (1 : Int) ≤ 100000000000 := ⟨by omega, by omega⟩
  have ma0 := fine_mkk fa0 j0
  have ta0 := tot_nonneg a0
  have j1 : 0 ≤ 1 + tot a0 ∧ 1 + tot a0 ≤ 100000000000 := ⟨by omega, by have := fa0.2; omega⟩
  have ma1 := fine_mkk fa1 j1
  have ta1 := tot_nonneg a1
  have j2 : 0 ≤ 1 + tot a0 + tot a1 ∧ 1 + tot a0 + tot a1 ≤ 100000000000 := ⟨by omega, by have := fa1.2; omega⟩
  have k1 : okK 1 := ⟨by omega, by omega⟩
  have r0 := small_Cis a0 a1
  generalize CisT a0 a1 = T0 at *
  have q0 := fine_mk1 r0
  have p0 : ¬ (1 + (T0.length : Int) < 0) := by omega
  simp [eq_true InS20, eq_true ha0, eq_true ha1, za0, eq_true fa0.1, eq_true ia0, za1, eq_true fa1.1, eq_true ia1, eq_true ma0.1, ma0.2, eq_true ma1.1, ma1.2, eq_true k1, eq_true r0, eq_true q0.1, q0.2, p0]
set_option maxRecDepth 100000 in
set_option maxHeartbeats 4000000 in
theorem w_laws_FnExactCycleIsomorphism (a0 : List (List Int)) (a1 : List (List Int)) (Q : Bool → Prop) (h : wp_laws_FnExactCycleIsomorphism a0 a1 Q) : AF Try.prog 4 [.agg [.lst (rows a0)], .agg [.lst (rows a1)]] (fun R_ => ∃ y0, Q y0 ∧ R_ = cb y0) := by
  refine AF.ofWQ (af_enter (n := 119) Try.func4 rfl (by rfl) rfl (Nat.le_of_ble_eq_true rfl) ?_)
  unfold wp_laws_FnExactCycleIsomorphism at h
  refine aw_seq ?_
  refine aw_gh (gh_to (n := 119) (σ' := []) (env' := [(0, .c (.agg [.lst (rows a0)])), (1, .c (.agg [.lst (rows a1)]))]) rfl rfl ⟨rfl, rfl, trivial⟩) ?_
  refine aw_region ?_
  refine run_w (ws_boxR rfl (.inl rfl) rfl ⟨rfl, ?_⟩)
  refine run_w (ws_boxR rfl (.inl rfl) rfl ⟨rfl, ?_⟩)
  refine run_s (ss_assign rfl) rfl ?_
  refine run_nil ?_
  refine aw_seq ?_
  refine aw_region ?_
  refine run_s (ss_assign rfl) rfl ?_
  refine run_nil ?_
  refine aw_seq ?_
  refine aw_region ?_
  refine run_s (ss_load_struct rfl (Nat.le_of_ble_eq_true rfl)) rfl ?_
  refine run_s (ss_move rfl) rfl ?_
  obtain ⟨q1, h⟩ := h
  refine run_w (ws_call (xs := [.tmp 17, .tmp 18]) (ids := []) rfl rfl rfl rfl (c_laws_szCycleSet a0 1048576 q1) rfl ?_ )
  rintro _ rfl
  refine ⟨rfl, ?_⟩
  refine run_s (ss_assign rfl) rfl ?_
  refine run_nil ?_
  refine aw_seq ?_
  refine aw_seq ?_
  refine aw_region ?_
  refine run_s (ss_move rfl) rfl ?_
  refine run_s (ss_lss rfl rfl) rfl ?_
  refine run_nil ?_
  refine aw_cond rfl (fun q3 => ?_) (fun q3 => ?_)
  ·replace h := h.1 (of_decide_eq_true q3)
   refine aw_seq ?_
   refine aw_gh (gh_to (n := 119) (σ' := []) (env' := [(4, .c (cb false))]) rfl rfl ⟨rfl, trivial⟩) ?_
   refine aw_region ?_
   refine run_s (ss_assign rfl) rfl ?_
   refine run_nil ?_
   refine aw_ret ?_
   exact retAF_mk (retv1 rfl (rv_tmp rfl)) rfl rfl ⟨_, (cle_refl _), _, h, rfl⟩
  ·replace h := h.2 (of_decide_eq_false q3)
   refine aw_skip ?_
   refine aw_seq ?_
   refine aw_region ?_
   refine run_s (ss_load_struct rfl (Nat.le_of_ble_eq_true rfl)) rfl ?_
   refine run_s (ss_move rfl) rfl ?_
   obtain ⟨q4, h⟩ := h
   refine run_w (ws_call (xs := [.tmp 22, .tmp 23]) (ids := []) rfl rfl rfl rfl (c_laws_szCycleSet a1 (szII a0 (1048576 : Int)) q4) rfl ?_ )
   rintro _ rfl
   refine ⟨rfl, ?_⟩
   refine run_s (ss_assign rfl) rfl ?_
   refine run_nil ?_
   refine aw_seq ?_
   refine aw_seq ?_
   refine aw_region ?_
   refine run_s (ss_move rfl) rfl ?_
   refine run_s (ss_lss rfl rfl) rfl ?_
   refine run_nil ?_
   refine aw_cond rfl (fun q6 => ?_) (fun q6 => ?_)
   ·replace h := h.1 (of_decide_eq_true q6)
    refine aw_seq ?_
    refine aw_gh (gh_to (n := 119) (σ' := []) (env' := [(4, .c (cb false))]) rfl rfl ⟨rfl, trivial⟩) ?_
    refine aw_region ?_
    refine run_s (ss_assign rfl) rfl ?_
    refine run_nil ?_
    refine aw_ret ?_
    exact retAF_mk (retv1 rfl (rv_tmp rfl)) rfl rfl ⟨_, (cle_refl _), _, h, rfl⟩
   ·replace h := h.2 (of_decide_eq_false q6)
    refine aw_skip ?_
    refine aw_seq ?_
    refine aw_gh (gh_to (n := 119) (σ' := []) (env' := [(2, .c (.ptr [.lst (rows a0)])), (3, .c (.ptr [.lst (rows a1)]))]) rfl rfl ⟨rfl, rfl, trivial⟩) ?_
    refine aw_regionD (kd := kdl [1, 2, 1, 2, 2, 0, 0, 0, 0, 0]) (ord := [0, 2, 1, 3, 4, 5, 6, 7, 8, 9]) [] mixed (by kernel_rfl) ?_
    refine rd_l rfl rfl trivial (ss_load_struct rfl (Nat.le_of_ble_eq_true rfl)) rfl ?_
    refine rd_l rfl rfl trivial (ss_load_struct rfl (Nat.le_of_ble_eq_true rfl)) rfl ?_
    obtain ⟨q7, h⟩ := h
    refine rd_w rfl rfl trivial rfl rfl (ws_call (xs := [.tmp 28]) (ids := [29]) rfl rfl rfl rfl (c_laws_toCycleSet a0 q7) rfl ?_ )
    rintro _ rfl
    refine ⟨rfl, ?_⟩
    obtain ⟨q9, h⟩ := h
    refine rd_w rfl rfl trivial rfl rfl (ws_call (xs := [.tmp 30]) (ids := [31]) rfl rfl rfl rfl (c_laws_toCycleSet a1 q9) rfl ?_ )
    rintro _ rfl
    refine ⟨rfl, ?_⟩
    obtain ⟨q11, h⟩ := h
    refine rd_w rfl rfl trivial rfl rfl (ws_gh (gh_frzE (id := 29) (fun r => C.lst (ints r)) rfl (fun _ => (fz_own (fz_map (fun _ => rfl) _)))) (ws_gh (gh_frzE (id := 31) (fun r => C.lst (ints r)) rfl (fun _ => (fz_own (fz_map (fun _ => rfl) _)))) (ws_call (xs := [.tmp 29, .tmp 31]) (ids := []) rfl rfl rfl rfl (c_spec_CycleIsomorphism a0 a1 q11) rfl ?_ )))
    rintro _ rfl
    refine ⟨rfl, ?_⟩
    refine rd_s rfl rfl trivial (ss_move rfl) rfl ?_
    refine rd_s rfl rfl trivial (ss_extract rfl rfl) rfl ?_
    refine rd_s rfl rfl trivial (ss_extract rfl rfl) rfl ?_
    refine rd_s rfl rfl trivial (ss_assign rfl) rfl ?_
    refine rd_s rfl rfl trivial (ss_assign rfl) rfl ?_
    refine rd_nil ?_
    refine aw_seq ?_
    refine aw_region ?_
    refine run_s (ss_load_struct rfl (Nat.le_of_ble_eq_true rfl)) rfl ?_
    obtain ⟨q13, h⟩ := h
    refine run_w (ws_call (xs := [.tmp 35]) (ids := [36]) rfl rfl rfl rfl (c_laws_toCycleSet a0 q13) rfl ?_ )
    rintro _ rfl
    refine ⟨rfl, ?_⟩
    refine run_w (ws_alloc (id := 8) rfl (Nat.le_of_ble_eq_true rfl) ⟨rfl, ?_⟩)
    refine run_w (ws_storeS rfl rfl (Nat.le_of_ble_eq_true rfl) rfl rfl rfl ⟨rfl, ?_⟩)
    refine run_nil ?_
    refine aw_seq ?_
    refine aw_region ?_
    refine run_s (ss_load_struct rfl (Nat.le_of_ble_eq_true rfl)) rfl ?_
    obtain ⟨q15, h⟩ := h
    refine run_w (ws_call (xs := [.tmp 37]) (ids := [38]) rfl rfl rfl rfl (c_laws_toCycleSet a1 q15) rfl ?_ )
    rintro _ rfl
    refine ⟨rfl, ?_⟩
    refine run_w (ws_alloc (id := 9) rfl (Nat.le_of_ble_eq_true rfl) ⟨rfl, ?_⟩)
    refine run_w (ws_storeS rfl rfl (Nat.le_of_ble_eq_true rfl) rfl rfl rfl ⟨rfl, ?_⟩)
    refine run_nil ?_
    refine aw_seq ?_
    refine aw_region ?_
    refine run_s (ss_loadS rfl rfl rfl rfl) rfl ?_
    refine run_s (ss_loadS rfl rfl rfl rfl) rfl ?_
    obtain ⟨q17, h⟩ := h
    refine run_w (ws_callR (xs := [.tmp 40, .tmp 41]) (cs := [.agg [.own (orows a0)], .agg [.own (orows a1)]]) (ids := [42]) rfl (.inr ⟨rfl, rfl⟩) rfl rfl (fz_cons (fz_agg (fz_cons (fz_own (fz_map (fun _ => (fz_own (fz_map (fun _ => rfl) _))) _)) fz_nil)) (fz_cons (fz_agg (fz_cons (fz_own (fz_map (fun _ => (fz_own (fz_map (fun _ => rfl) _))) _)) fz_nil)) fz_nil)) (c_impl_CycleIsomorphism a0 a1 q17) rfl ?_ )
    rintro _ rfl
    refine ⟨(slf_tup (slf_cons (slf_own (slfL_map (f := ci) (fun _ => rfl) _)) (slf_cons rfl slf_nil))), rfl, ?_⟩
    refine run_s (ss_move rfl) rfl ?_
    refine run_s (ss_extract rfl rfl) rfl ?_
    refine run_s (ss_extract rfl rfl) rfl ?_
    refine run_s (ss_assign rfl) rfl ?_
    refine run_s (ss_assign rfl) rfl ?_
    refine run_nil ?_
    refine aw_seq ?_
    refine aw_seq ?_
    refine aw_gh (gh_to (n := 119) (σ' := [(42, ⟨ints (CisT a0 a1), []⟩), (9, ⟨[.hole], [(0, .ref 38)]⟩), (38, ⟨orows a1, []⟩), (8, ⟨[.hole], [(0, .ref 36)]⟩), (36, ⟨orows a0, []⟩)]) (env' := [(2, .c (.ptr [.lst (rows a0)])), (3, .c (.ptr [.lst (rows a1)])), (6, .c (.lst (ints (CisT a0 a1)))), (7, .c (ci (CisE a0 a1))), (8, .cell 8 0), (9, .cell 9 0), (10, .ref 42), (11, .c (ci (CisE a0 a1)))]) rfl rfl ⟨rfl, rfl, rfl, rfl, rfl, rfl, rfl, rfl, trivial⟩) ?_
    refine aw_region ?_
    refine run_s (ss_move rfl) rfl ?_
    refine run_s (ss_move rfl) rfl ?_
    obtain ⟨q19, h⟩ := h
    refine run_w (ws_callR (xs := [.tmp 45, .tmp 46]) (cs := [.own (ints (CisT a0 a1)), .lst (ints (CisT a0 a1))]) (ids := []) rfl (.inr ⟨rfl, rfl⟩) rfl rfl (fz_cons (fz_own (fz_map (fun _ => rfl) _)) (fz_cons rfl fz_nil)) (c_laws_eqInt64S (CisT a0 a1) (CisT a0 a1) q19) rfl ?_ )
    rintro _ rfl
    refine ⟨rfl, rfl, ?_⟩
    refine run_s (ss_not rfl) rfl ?_
    refine run_s (ss_move rfl) rfl ?_
    refine run_split (s := 49) rfl (fun q21 => ?_) (fun q21 => ?_)
    ·replace h := h.1 (of_decide_eq_false (bnot_t q21))
     refine run_gf rfl rfl q21 rfl ?_
     refine run_gf rfl rfl q21 rfl ?_
     refine run_gf rfl rfl q21 rfl ?_
     refine run_s (ss_pickT rfl q21 rfl) rfl ?_
     refine run_nil ?_
     refine aw_cond rfl (fun q22 => ?_) (fun q22 => ?_)
     ·skip
      refine aw_seq ?_
      refine aw_gh (gh_to (n := 119) (σ' := [(42, ⟨ints (CisT a0 a1), []⟩), (9, ⟨[.hole], [(0, .ref 38)]⟩), (38, ⟨orows a1, []⟩), (8, ⟨[.hole], [(0, .ref 36)]⟩), (36, ⟨orows a0, []⟩)]) (env' := []) rfl rfl trivial) ?_
      refine aw_region ?_
      refine run_s (ss_assign rfl) rfl ?_
      refine run_nil ?_
      refine aw_ret ?_
      exact retAF_mk (retv1 rfl (rv_tmp rfl)) rfl rfl ⟨_, (cle_refl _), _, h, rfl⟩
     ·cases q22
    ·replace h := h.2 (of_decide_eq_true (bnot_f q21))
     refine run_gt rfl rfl q21 ?_
     refine run_s (ss_move rfl) rfl ?_
     refine run_gt rfl rfl q21 ?_
     refine run_s (ss_move rfl) rfl ?_
     refine run_gt rfl rfl q21 ?_
     refine run_s (ss_neq rfl rfl) rfl ?_
     refine run_s (ss_pickF rfl q21 rfl) rfl ?_
     refine run_nil ?_
     refine aw_cond rfl (fun q23 => ?_) (fun q23 => ?_)
     ·replace h := h.1 (of_decide_eq_false (bnot_t q23))
      refine aw_seq ?_
      refine aw_gh (gh_to (n := 119) (σ' := [(42, ⟨ints (CisT a0 a1), []⟩), (9, ⟨[.hole], [(0, .ref 38)]⟩), (38, ⟨orows a1, []⟩), (8, ⟨[.hole], [(0, .ref 36)]⟩), (36, ⟨orows a0, []⟩)]) (env' := []) rfl rfl trivial) ?_
      refine aw_region ?_
      refine run_s (ss_assign rfl) rfl ?_
      refine run_nil ?_
      refine aw_ret ?_
      exact retAF_mk (retv1 rfl (rv_tmp rfl)) rfl rfl ⟨_, (cle_refl _), _, h, rfl⟩
     ·replace h := h.2 (of_decide_eq_true (bnot_f q23))
      refine aw_skip ?_
      refine aw_seq ?_
      refine aw_seq ?_
      refine aw_gh (gh_to (n := 119) (σ' := [(42, ⟨ints (CisT a0 a1), []⟩), (9, ⟨[.hole], [(0, .ref 38)]⟩), (38, ⟨orows a1, []⟩), (8, ⟨[.hole], [(0, .ref 36)]⟩), (36, ⟨orows a0, []⟩)]) (env' := [(2, .c (.ptr [.lst (rows a0)])), (3, .c (.ptr [.lst (rows a1)])), (6, .c (.lst (ints (CisT a0 a1)))), (7, .c (ci (CisE a0 a1))), (8, .cell 8 0), (9, .cell 9 0), (10, .ref 42), (11, .c (ci (CisE a0 a1)))]) rfl rfl ⟨rfl, rfl, rfl, rfl, rfl, rfl, rfl, rfl, trivial⟩) ?_
      refine aw_regionD (kd := kdl [1, 1, 2, 2, 0]) (ord := [0, 1, 2, 3, 4]) [] mixed (by kernel_rfl) ?_
      refine rd_l rfl rfl trivial (ss_loadS rfl rfl rfl rfl) rfl ?_
      refine rd_l rfl rfl trivial (ss_load_struct rfl (Nat.le_of_ble_eq_true rfl)) rfl ?_
      obtain ⟨q24, h⟩ := h
      refine rd_w rfl rfl trivial rfl rfl (ws_call (xs := [.tmp 55]) (ids := [56]) rfl rfl rfl rfl (c_laws_toCycleSet a0 q24) rfl ?_ )
      rintro _ rfl
      refine ⟨rfl, ?_⟩
      obtain ⟨q26, h⟩ := h
      refine rd_w rfl rfl trivial rfl rfl (ws_callR (xs := [.tmp 54, .tmp 56]) (cs := [.agg [.own (orows a0)], .agg [.own (orows a0)]]) (ids := []) rfl (.inr ⟨rfl, rfl⟩) rfl rfl (fz_cons (fz_agg (fz_cons (fz_own (fz_map (fun _ => (fz_own (fz_map (fun _ => rfl) _))) _)) fz_nil)) (fz_cons (fz_agg (fz_cons (fz_own (fz_map (fun _ => (fz_own (fz_map (fun _ => rfl) _))) _)) fz_nil)) fz_nil)) (c_laws_eqCycleSet a0 a0 q26) rfl ?_ )
      rintro _ rfl
      refine ⟨rfl, rfl, ?_⟩
      refine rd_s rfl rfl trivial (ss_not rfl) rfl ?_
      refine rd_nil ?_
      refine aw_cond rfl (fun q28 => ?_) (fun q28 => ?_)
      ·replace h := h.1 (of_decide_eq_false (bnot_t q28))
       refine aw_seq ?_
       refine aw_gh (gh_to (n := 119) (σ' := [(56, ⟨orows a0, []⟩), (42, ⟨ints (CisT a0 a1), []⟩), (9, ⟨[.hole], [(0, .ref 38)]⟩), (38, ⟨orows a1, []⟩), (8, ⟨[.hole], [(0, .ref 36)]⟩), (36, ⟨orows a0, []⟩)]) (env' := []) rfl rfl trivial) ?_
       refine aw_region ?_
       refine run_s (ss_assign rfl) rfl ?_
       refine run_nil ?_
       refine aw_ret ?_
       exact retAF_mk (retv1 rfl (rv_tmp rfl)) rfl rfl ⟨_, (cle_refl _), _, h, rfl⟩
      ·replace h := h.2 (of_decide_eq_true (bnot_f q28))
       refine aw_skip ?_
       refine aw_seq ?_
       refine aw_seq ?_
       refine aw_gh (gh_to (n := 119) (σ' := [(56, ⟨orows a0, []⟩), (42, ⟨ints (CisT a0 a1), []⟩), (9, ⟨[.hole], [(0, .ref 38)]⟩), (38, ⟨orows a1, []⟩), (8, ⟨[.hole], [(0, .ref 36)]⟩), (36, ⟨orows a0, []⟩)]) (env' := [(2, .c (.ptr [.lst (rows a0)])), (3, .c (.ptr [.lst (rows a1)])), (6, .c (.lst (ints (CisT a0 a1)))), (7, .c (ci (CisE a0 a1))), (8, .cell 8 0), (9, .cell 9 0), (10, .ref 42), (11, .c (ci (CisE a0 a1)))]) rfl rfl ⟨rfl, rfl, rfl, rfl, rfl, rfl, rfl, rfl, trivial⟩) ?_
       refine aw_regionD (kd := kdl [1, 1, 2, 2, 0]) (ord := [0, 1, 2, 3, 4]) [] mixed (by kernel_rfl) ?_
       refine rd_l rfl rfl trivial (ss_loadS rfl rfl rfl rfl) rfl ?_
       refine rd_l rfl rfl trivial (ss_load_struct rfl (Nat.le_of_ble_eq_true rfl)) rfl ?_
       obtain ⟨q29, h⟩ := h
       refine rd_w rfl rfl trivial rfl rfl (ws_call (xs := [.tmp 60]) (ids := [61]) rfl rfl rfl rfl (c_laws_toCycleSet a1 q29) rfl ?_ )
       rintro _ rfl
       refine ⟨rfl, ?_⟩
       obtain ⟨q31, h⟩ := h
       refine rd_w rfl rfl trivial rfl rfl (ws_callR (xs := [.tmp 59, .tmp 61]) (cs := [.agg [.own (orows a1)], .agg [.own (orows a1)]]) (ids := []) rfl (.inr ⟨rfl, rfl⟩) rfl rfl (fz_cons (fz_agg (fz_cons (fz_own (fz_map (fun _ => (fz_own (fz_map (fun _ => rfl) _))) _)) fz_nil)) (fz_cons (fz_agg (fz_cons (fz_own (fz_map (fun _ => (fz_own (fz_map (fun _ => rfl) _))) _)) fz_nil)) fz_nil)) (c_laws_eqCycleSet a1 a1 q31) rfl ?_ )
       rintro _ rfl
       refine ⟨rfl, rfl, ?_⟩
       refine rd_s rfl rfl trivial (ss_not rfl) rfl ?_
       refine rd_nil ?_
       refine aw_cond rfl (fun q33 => ?_) (fun q33 => ?_)
       ·replace h := h.1 (of_decide_eq_false (bnot_t q33))
        refine aw_seq ?_
        refine aw_gh (gh_to (n := 119) (σ' := [(61, ⟨orows a1, []⟩), (56, ⟨orows a0, []⟩), (42, ⟨ints (CisT a0 a1), []⟩), (9, ⟨[.hole], [(0, .ref 38)]⟩), (38, ⟨orows a1, []⟩), (8, ⟨[.hole], [(0, .ref 36)]⟩), (36, ⟨orows a0, []⟩)]) (env' := []) rfl rfl trivial) ?_
        refine aw_region ?_
        refine run_s (ss_assign rfl) rfl ?_
        refine run_nil ?_
        refine aw_ret ?_
        exact retAF_mk (retv1 rfl (rv_tmp rfl)) rfl rfl ⟨_, (cle_refl _), _, h, rfl⟩
       ·replace h := h.2 (of_decide_eq_true (bnot_f q33))
        refine aw_skip ?_
        refine aw_seq ?_
        refine aw_region ?_
        refine run_s (ss_assign rfl) rfl ?_
        refine run_nil ?_
        refine aw_seq ?_
        refine aw_region ?_
        refine run_s (ss_loadS rfl rfl rfl rfl) rfl ?_
        refine run_s (ss_move rfl) rfl ?_
        obtain ⟨q34, h⟩ := h
        refine run_w (ws_callM (xs := [.tmp 64, .tmp 65]) (cs := [.agg [.own (orows a0)], ci 1]) (ids := []) rfl (.inr ⟨rfl, rfl⟩) rfl rfl rfl (c_laws_markCycleSet a0 1 q34) rfl rfl ?_ )
        rintro _ _ ⟨rfl, rfl⟩
        refine ⟨rfl, rfl, ?_⟩
        refine run_s (ss_assign rfl) rfl ?_
        refine run_nil ?_
        refine aw_seq ?_
        refine aw_region ?_
        refine run_s (ss_loadS rfl rfl rfl rfl) rfl ?_
        refine run_s (ss_move rfl) rfl ?_
        obtain ⟨q36, h⟩ := h
        refine run_w (ws_callM (xs := [.tmp 67, .tmp 68]) (cs := [.agg [.own (orows a1)], ci ((1 : Int) + tot a0)]) (ids := []) rfl (.inr ⟨rfl, rfl⟩) rfl rfl rfl (c_laws_markCycleSet a1 ((1 : Int) + tot a0) q36) rfl rfl ?_ )
        rintro _ _ ⟨rfl, rfl⟩
        refine ⟨rfl, rfl, ?_⟩
        refine run_s (ss_assign rfl) rfl ?_
        refine run_nil ?_
        refine aw_seq ?_
        refine aw_seq ?_
        refine aw_region ?_
        refine run_s (ss_move rfl) rfl ?_
        refine run_s (ss_lss rfl rfl) rfl ?_
        refine run_s (ss_move rfl) rfl ?_
        refine run_split (s := 72) rfl (fun q38 => ?_) (fun q38 => ?_)
        ·replace h := h.1 (of_decide_eq_true q38)
         refine run_gf rfl rfl q38 rfl ?_
         refine run_gf rfl rfl q38 rfl ?_
         refine run_gf rfl rfl q38 rfl ?_
         refine run_gf rfl rfl q38 rfl ?_
         refine run_s (ss_pickT rfl q38 rfl) rfl ?_
         refine run_s (ss_move rfl) rfl ?_
         refine run_split (s := 78) rfl (fun q39 => ?_) (fun q39 => ?_)
         ·skip
          refine run_gf rfl rfl q39 rfl ?_
          refine run_gf rfl rfl q39 rfl ?_
          refine run_gf rfl rfl q39 rfl ?_
          refine run_s (ss_pickT rfl q39 rfl) rfl ?_
          refine run_nil ?_
          refine aw_cond rfl (fun q40 => ?_) (fun q40 => ?_)
          ·skip
           refine aw_seq ?_
           refine aw_gh (gh_to (n := 119) (σ' := [(61, ⟨orows a1, []⟩), (56, ⟨orows a0, []⟩), (42, ⟨ints (CisT a0 a1), []⟩), (9, ⟨[.hole], [(0, .ref 38)]⟩), (38, ⟨orows (mkII ((1 : Int) + tot a0) a1), []⟩), (8, ⟨[.hole], [(0, .ref 36)]⟩), (36, ⟨orows (mkII (1 : Int) a0), []⟩)]) (env' := []) rfl rfl trivial) ?_
           refine aw_region ?_
           refine run_s (ss_assign rfl) rfl ?_
           refine run_nil ?_
           refine aw_ret ?_
           exact retAF_mk (retv1 rfl (rv_tmp rfl)) rfl rfl ⟨_, (cle_refl _), _, h, rfl⟩
          ·cases q40
         ·cases q39
        ·replace h := h.2 (of_decide_eq_false q38)
         refine run_gt rfl rfl q38 ?_
         refine run_s (ss_move rfl) rfl ?_
         refine run_gt rfl rfl q38 ?_
         refine run_s (ss_move rfl) rfl ?_
         refine run_gt rfl rfl q38 ?_
         obtain ⟨q41, h⟩ := h
         refine run_w (ws_callR (xs := [.tmp 73, .tmp 74]) (cs := [.own (ints (CisT a0 a1)), .lst (ints (CisT a0 a1))]) (ids := []) rfl (.inr ⟨rfl, rfl⟩) rfl rfl (fz_cons (fz_own (fz_map (fun _ => rfl) _)) (fz_cons rfl fz_nil)) (c_laws_eqInt64S (CisT a0 a1) (CisT a0 a1) q41) rfl ?_ )
         rintro _ rfl
         refine ⟨rfl, rfl, ?_⟩
         refine run_gt rfl rfl q38 ?_
         refine run_s (ss_not rfl) rfl ?_
         refine run_s (ss_pickF rfl q38 rfl) rfl ?_
         refine run_s (ss_move rfl) rfl ?_
         refine run_split (s := 78) rfl (fun q43 => ?_) (fun q43 => ?_)
         ·replace h := h.1 (of_decide_eq_false (bnot_t q43))
          refine run_gf rfl rfl q43 rfl ?_
          refine run_gf rfl rfl q43 rfl ?_
          refine run_gf rfl rfl q43 rfl ?_
          refine run_s (ss_pickT rfl q43 rfl) rfl ?_
          refine run_nil ?_
          refine aw_cond rfl (fun q44 => ?_) (fun q44 => ?_)
          ·skip
           refine aw_seq ?_
           refine aw_gh (gh_to (n := 119) (σ' := [(61, ⟨orows a1, []⟩), (56, ⟨orows a0, []⟩), (42, ⟨ints (CisT a0 a1), []⟩), (9, ⟨[.hole], [(0, .ref 38)]⟩), (38, ⟨orows (mkII ((1 : Int) + tot a0) a1), []⟩), (8, ⟨[.hole], [(0, .ref 36)]⟩), (36, ⟨orows (mkII (1 : Int) a0), []⟩)]) (env' := []) rfl rfl trivial) ?_
           refine aw_region ?_
           refine run_s (ss_assign rfl) rfl ?_
           refine run_nil ?_
           refine aw_ret ?_
           exact retAF_mk (retv1 rfl (rv_tmp rfl)) rfl rfl ⟨_, (cle_refl _), _, h, rfl⟩
          ·cases q44
         ·replace h := h.2 (of_decide_eq_true (bnot_f q43))
          refine run_gt rfl rfl q43 ?_
          refine run_s (ss_move rfl) rfl ?_
          refine run_gt rfl rfl q43 ?_
          refine run_s (ss_move rfl) rfl ?_
          refine run_gt rfl rfl q43 ?_
          refine run_s (ss_neq rfl rfl) rfl ?_
          refine run_s (ss_pickF rfl q43 rfl) rfl ?_
          refine run_nil ?_
          refine aw_cond rfl (fun q45 => ?_) (fun q45 => ?_)
          ·replace h := h.1 (of_decide_eq_false (bnot_t q45))
           refine aw_seq ?_
           refine aw_gh (gh_to (n := 119) (σ' := [(61, ⟨orows a1, []⟩), (56, ⟨orows a0, []⟩), (42, ⟨ints (CisT a0 a1), []⟩), (9, ⟨[.hole], [(0, .ref 38)]⟩), (38, ⟨orows (mkII ((1 : Int) + tot a0) a1), []⟩), (8, ⟨[.hole], [(0, .ref 36)]⟩), (36, ⟨orows (mkII (1 : Int) a0), []⟩)]) (env' := []) rfl rfl trivial) ?_
           refine aw_region ?_
           refine run_s (ss_assign rfl) rfl ?_
           refine run_nil ?_
           refine aw_ret ?_
           exact retAF_mk (retv1 rfl (rv_tmp rfl)) rfl rfl ⟨_, (cle_refl _), _, h, rfl⟩
          ·replace h := h.2 (of_decide_eq_true (bnot_f q45))
           refine aw_skip ?_
           refine aw_seq ?_
           refine aw_gh (gh_to (n := 119) (σ' := [(61, ⟨orows a1, []⟩), (56, ⟨orows a0, []⟩), (42, ⟨ints (CisT a0 a1), []⟩), (9, ⟨[.hole], [(0, .ref 38)]⟩), (38, ⟨orows (mkII ((1 : Int) + tot a0) a1), []⟩), (8, ⟨[.hole], [(0, .ref 36)]⟩), (36, ⟨orows (mkII (1 : Int) a0), []⟩)]) (env' := [(2, .c (.ptr [.lst (rows a0)])), (3, .c (.ptr [.lst (rows a1)])), (6, .c (.lst (ints (CisT a0 a1)))), (7, .c (ci (CisE a0 a1))), (10, .ref 42)]) rfl rfl ⟨rfl, rfl, rfl, rfl, rfl, trivial⟩) ?_
           refine aw_region ?_
           refine run_s (ss_assign rfl) rfl ?_
           refine run_nil ?_
           refine aw_seq ?_
           refine aw_region ?_
           refine run_s (ss_move rfl) rfl ?_
           refine run_s (ss_move rfl) rfl ?_
           obtain ⟨q46, h⟩ := h
           refine run_w (ws_callM (xs := [.tmp 83, .tmp 84]) (cs := [.own (ints (CisT a0 a1)), ci 1]) (ids := []) rfl (.inr ⟨rfl, rfl⟩) rfl rfl rfl (c_laws_markInt64S (CisT a0 a1) 1 q46) rfl rfl ?_ )
           rintro _ _ ⟨rfl, rfl⟩
           refine ⟨rfl, rfl, ?_⟩
           refine run_s (ss_assign rfl) rfl ?_
           refine run_nil ?_
           refine aw_seq ?_
           refine aw_region ?_
           refine run_s (ss_assign rfl) rfl ?_
           refine run_nil ?_
           refine aw_seq ?_
           refine aw_region ?_
           refine run_s (ss_move rfl) rfl ?_
           refine run_s (ss_move rfl) rfl ?_
           obtain ⟨q48, h⟩ := h
           refine run_w (ws_callR (xs := [.tmp 86, .tmp 87]) (cs := [.own (ints (mkI (1 : Int) (CisT a0 a1))), ci 1]) (ids := []) rfl (.inr ⟨rfl, rfl⟩) rfl rfl (fz_cons (fz_own (fz_map (fun _ => rfl) _)) (fz_cons rfl fz_nil)) (c_laws_heldInt64S (mkI (1 : Int) (CisT a0 a1)) 1 q48) rfl ?_ )
           rintro _ rfl
           refine ⟨rfl, rfl, ?_⟩
           refine run_s (ss_assign rfl) rfl ?_
           refine run_nil ?_
           refine aw_seq ?_
           refine aw_seq ?_
           refine aw_gh (gh_to (n := 119) (σ' := [(61, ⟨orows a1, []⟩), (56, ⟨orows a0, []⟩), (42, ⟨ints (mkI (1 : Int) (CisT a0 a1)), []⟩), (9, ⟨[.hole], [(0, .ref 38)]⟩), (38, ⟨orows (mkII ((1 : Int) + tot a0) a1), []⟩), (8, ⟨[.hole], [(0, .ref 36)]⟩), (36, ⟨orows (mkII (1 : Int) a0), []⟩)]) (env' := [(2, .c (.ptr [.lst (rows a0)])), (3, .c (.ptr [.lst (rows a1)])), (6, .c (.lst (ints (CisT a0 a1)))), (7, .c (ci (CisE a0 a1))), (10, .ref 42), (13, .c (ci ((1 : Int) + ((CisT a0 a1).length : Int)))), (14, .c (ci (heI (1 : Int) (mkI (1 : Int) (CisT a0 a1)))))]) rfl rfl ⟨rfl, rfl, rfl, rfl, rfl, rfl, rfl, trivial⟩) ?_
           refine aw_region ?_
           refine run_s (ss_move rfl) rfl ?_
           refine run_s (ss_lss rfl rfl) rfl ?_
           refine run_nil ?_
           refine aw_cond rfl (fun q50 => ?_) (fun q50 => ?_)
           ·replace h := h.1 (of_decide_eq_true q50)
            refine aw_seq ?_
            refine aw_gh (gh_to (n := 119) (σ' := [(61, ⟨orows a1, []⟩), (56, ⟨orows a0, []⟩), (42, ⟨ints (mkI (1 : Int) (CisT a0 a1)), []⟩), (9, ⟨[.hole], [(0, .ref 38)]⟩), (38, ⟨orows (mkII ((1 : Int) + tot a0) a1), []⟩), (8, ⟨[.hole], [(0, .ref 36)]⟩), (36, ⟨orows (mkII (1 : Int) a0), []⟩)]) (env' := []) rfl rfl trivial) ?_
            refine aw_region ?_
            refine run_s (ss_assign rfl) rfl ?_
            refine run_nil ?_
            refine aw_ret ?_
            exact retAF_mk (retv1 rfl (rv_tmp rfl)) rfl rfl ⟨_, (cle_refl _), _, h, rfl⟩
           ·replace h := h.2 (of_decide_eq_false q50)
            refine aw_skip ?_
            refine aw_seq ?_
            refine aw_seq ?_
            refine aw_region ?_
            refine run_s (ss_move rfl) rfl ?_
            refine run_s (ss_move rfl) rfl ?_
            refine run_s (ss_neq rfl rfl) rfl ?_
            refine run_nil ?_
            refine aw_cond rfl (fun q51 => ?_) (fun q51 => ?_)
            ·replace h := h.1 (of_decide_eq_false (bnot_t q51))
             refine aw_seq ?_
             refine aw_gh (gh_to (n := 119) (σ' := [(61, ⟨orows a1, []⟩), (56, ⟨orows a0, []⟩), (42, ⟨ints (mkI (1 : Int) (CisT a0 a1)), []⟩), (9, ⟨[.hole], [(0, .ref 38)]⟩), (38, ⟨orows (mkII ((1 : Int) + tot a0) a1), []⟩), (8, ⟨[.hole], [(0, .ref 36)]⟩), (36, ⟨orows (mkII (1 : Int) a0), []⟩)]) (env' := []) rfl rfl trivial) ?_
             refine aw_region ?_
             refine run_s (ss_assign rfl) rfl ?_
             refine run_nil ?_
             refine aw_ret ?_
             exact retAF_mk (retv1 rfl (rv_tmp rfl)) rfl rfl ⟨_, (cle_refl _), _, h, rfl⟩
            ·replace h := h.2 (of_decide_eq_true (bnot_f q51))
             refine aw_skip ?_
             refine aw_seq ?_
             refine aw_gh (gh_to (n := 119) (σ' := [(61, ⟨orows a1, []⟩), (56, ⟨orows a0, []⟩), (42, ⟨ints (mkI (1 : Int) (CisT a0 a1)), []⟩), (9, ⟨[.hole], [(0, .ref 38)]⟩), (38, ⟨orows (mkII ((1 : Int) + tot a0) a1), []⟩), (8, ⟨[.hole], [(0, .ref 36)]⟩), (36, ⟨orows (mkII (1 : Int) a0), []⟩)]) (env' := [(2, .c (.ptr [.lst (rows a0)])), (3, .c (.ptr [.lst (rows a1)])), (6, .c (.lst (ints (CisT a0 a1)))), (7, .c (ci (CisE a0 a1))), (10, .ref 42), (13, .c (ci ((1 : Int) + ((CisT a0 a1).length : Int))))]) rfl rfl ⟨rfl, rfl, rfl, rfl, rfl, rfl, trivial⟩) ?_
             refine aw_regionD (kd := kdl [1, 2, 1, 2, 2, 0, 0, 0, 0, 0]) (ord := [0, 2, 1, 3, 4, 5, 6, 7, 8, 9]) [] mixed (by kernel_rfl) ?_
             refine rd_l rfl rfl trivial (ss_load_struct rfl (Nat.le_of_ble_eq_true rfl)) rfl ?_
             refine rd_l rfl rfl trivial (ss_load_struct rfl (Nat.le_of_ble_eq_true rfl)) rfl ?_
             obtain ⟨q52, h⟩ := h
             refine rd_w rfl rfl trivial rfl rfl (ws_call (xs := [.tmp 95]) (ids := [96]) rfl rfl rfl rfl (c_laws_toCycleSet a0 q52) rfl ?_ )
             rintro _ rfl
             refine ⟨rfl, ?_⟩
             obtain ⟨q54, h⟩ := h
             refine rd_w rfl rfl trivial rfl rfl (ws_call (xs := [.tmp 97]) (ids := [98]) rfl rfl rfl rfl (c_laws_toCycleSet a1 q54) rfl ?_ )
             rintro _ rfl
             refine ⟨rfl, ?_⟩
             obtain ⟨q56, h⟩ := h
             refine rd_w rfl rfl trivial rfl rfl (ws_callR (xs := [.tmp 96, .tmp 98]) (cs := [.agg [.own (orows a0)], .agg [.own (orows a1)]]) (ids := [99]) rfl (.inr ⟨rfl, rfl⟩) rfl rfl (fz_cons (fz_agg (fz_cons (fz_own (fz_map (fun _ => (fz_own (fz_map (fun _ => rfl) _))) _)) fz_nil)) (fz_cons (fz_agg (fz_cons (fz_own (fz_map (fun _ => (fz_own (fz_map (fun _ => rfl) _))) _)) fz_nil)) fz_nil)) (c_impl_CycleIsomorphism a0 a1 q56) rfl ?_ )
             rintro _ rfl
             refine ⟨(slf_tup (slf_cons (slf_own (slfL_map (f := ci) (fun _ => rfl) _)) (slf_cons rfl slf_nil))), rfl, ?_⟩
             refine rd_s rfl rfl trivial (ss_move rfl) rfl ?_
             refine rd_s rfl rfl trivial (ss_extract rfl rfl) rfl ?_
             refine rd_s rfl rfl trivial (ss_extract rfl rfl) rfl ?_
             refine rd_s rfl rfl trivial (ss_assign rfl) rfl ?_
             refine rd_s rfl rfl trivial (ss_assign rfl) rfl ?_
             refine rd_nil ?_
             refine aw_seq ?_
             refine aw_seq ?_
             refine aw_gh (gh_to (n := 119) (σ' := [(99, ⟨ints (CisT a0 a1), []⟩), (98, ⟨orows a1, []⟩), (96, ⟨orows a0, []⟩), (61, ⟨orows a1, []⟩), (56, ⟨orows a0, []⟩), (42, ⟨ints (mkI (1 : Int) (CisT a0 a1)), []⟩), (9, ⟨[.hole], [(0, .ref 38)]⟩), (38, ⟨orows (mkII ((1 : Int) + tot a0) a1), []⟩), (8, ⟨[.hole], [(0, .ref 36)]⟩), (36, ⟨orows (mkII (1 : Int) a0), []⟩)]) (env' := [(6, .c (.lst (ints (CisT a0 a1)))), (7, .c (ci (CisE a0 a1))), (10, .ref 42), (13, .c (ci ((1 : Int) + ((CisT a0 a1).length : Int)))), (15, .ref 99), (16, .c (ci (CisE a0 a1)))]) rfl rfl ⟨rfl, rfl, rfl, rfl, rfl, rfl, trivial⟩) ?_
             refine aw_region ?_
             refine run_s (ss_move rfl) rfl ?_
             refine run_s (ss_move rfl) rfl ?_
             obtain ⟨q58, h⟩ := h
             refine run_w (ws_callR (xs := [.tmp 102, .tmp 103]) (cs := [.own (ints (CisT a0 a1)), .lst (ints (CisT a0 a1))]) (ids := []) rfl (.inr ⟨rfl, rfl⟩) rfl rfl (fz_cons (fz_own (fz_map (fun _ => rfl) _)) (fz_cons rfl fz_nil)) (c_laws_eqInt64S (CisT a0 a1) (CisT a0 a1) q58) rfl ?_ )
             rintro _ rfl
             refine ⟨rfl, rfl, ?_⟩
             refine run_s (ss_not rfl) rfl ?_
             refine run_s (ss_move rfl) rfl ?_
             refine run_split (s := 106) rfl (fun q60 => ?_) (fun q60 => ?_)
             ·replace h := h.1 (of_decide_eq_false (bnot_t q60))
              refine run_gf rfl rfl q60 rfl ?_
              refine run_gf rfl rfl q60 rfl ?_
              refine run_gf rfl rfl q60 rfl ?_
              refine run_s (ss_pickT rfl q60 rfl) rfl ?_
              refine run_nil ?_
              refine aw_cond rfl (fun q61 => ?_) (fun q61 => ?_)
              ·skip
               refine aw_seq ?_
               refine aw_gh (gh_to (n := 119) (σ' := [(99, ⟨ints (CisT a0 a1), []⟩), (98, ⟨orows a1, []⟩), (96, ⟨orows a0, []⟩), (61, ⟨orows a1, []⟩), (56, ⟨orows a0, []⟩), (42, ⟨ints (mkI (1 : Int) (CisT a0 a1)), []⟩), (9, ⟨[.hole], [(0, .ref 38)]⟩), (38, ⟨orows (mkII ((1 : Int) + tot a0) a1), []⟩), (8, ⟨[.hole], [(0, .ref 36)]⟩), (36, ⟨orows (mkII (1 : Int) a0), []⟩)]) (env' := []) rfl rfl trivial) ?_
               refine aw_region ?_
               refine run_s (ss_assign rfl) rfl ?_
               refine run_nil ?_
               refine aw_ret ?_
               exact retAF_mk (retv1 rfl (rv_tmp rfl)) rfl rfl ⟨_, (cle_refl _), _, h, rfl⟩
              ·cases q61
             ·replace h := h.2 (of_decide_eq_true (bnot_f q60))
              refine run_gt rfl rfl q60 ?_
              refine run_s (ss_move rfl) rfl ?_
              refine run_gt rfl rfl q60 ?_
              refine run_s (ss_move rfl) rfl ?_
              refine run_gt rfl rfl q60 ?_
              refine run_s (ss_neq rfl rfl) rfl ?_
              refine run_s (ss_pickF rfl q60 rfl) rfl ?_
              refine run_nil ?_
              refine aw_cond rfl (fun q62 => ?_) (fun q62 => ?_)
              ·replace h := h.1 (of_decide_eq_false (bnot_t q62))
               refine aw_seq ?_
               refine aw_gh (gh_to (n := 119) (σ' := [(99, ⟨ints (CisT a0 a1), []⟩), (98, ⟨orows a1, []⟩), (96, ⟨orows a0, []⟩), (61, ⟨orows a1, []⟩), (56, ⟨orows a0, []⟩), (42, ⟨ints (mkI (1 : Int) (CisT a0 a1)), []⟩), (9, ⟨[.hole], [(0, .ref 38)]⟩), (38, ⟨orows (mkII ((1 : Int) + tot a0) a1), []⟩), (8, ⟨[.hole], [(0, .ref 36)]⟩), (36, ⟨orows (mkII (1 : Int) a0), []⟩)]) (env' := []) rfl rfl trivial) ?_
               refine aw_region ?_
               refine run_s (ss_assign rfl) rfl ?_
               refine run_nil ?_
               refine aw_ret ?_
               exact retAF_mk (retv1 rfl (rv_tmp rfl)) rfl rfl ⟨_, (cle_refl _), _, h, rfl⟩
              ·replace h := h.2 (of_decide_eq_true (bnot_f q62))
               refine aw_skip ?_
               refine aw_seq ?_
               refine aw_gh (gh_to (n := 119) (σ' := [(99, ⟨ints (CisT a0 a1), []⟩), (98, ⟨orows a1, []⟩), (96, ⟨orows a0, []⟩), (61, ⟨orows a1, []⟩), (56, ⟨orows a0, []⟩), (42, ⟨ints (mkI (1 : Int) (CisT a0 a1)), []⟩), (9, ⟨[.hole], [(0, .ref 38)]⟩), (38, ⟨orows (mkII ((1 : Int) + tot a0) a1), []⟩), (8, ⟨[.hole], [(0, .ref 36)]⟩), (36, ⟨orows (mkII (1 : Int) a0), []⟩)]) (env' := [(10, .ref 42), (13, .c (ci ((1 : Int) + ((CisT a0 a1).length : Int))))]) rfl rfl ⟨rfl, rfl, trivial⟩) ?_
               refine aw_region ?_
               refine run_s (ss_assign rfl) rfl ?_
               refine run_nil ?_
               refine aw_seq ?_
               refine aw_region ?_
               refine run_s (ss_move rfl) rfl ?_
               refine run_s (ss_move rfl) rfl ?_
               obtain ⟨q63, h⟩ := h
               refine run_w (ws_callR (xs := [.tmp 111, .tmp 112]) (cs := [.own (ints (mkI (1 : Int) (CisT a0 a1))), ci 1]) (ids := []) rfl (.inr ⟨rfl, rfl⟩) rfl rfl (fz_cons (fz_own (fz_map (fun _ => rfl) _)) (fz_cons rfl fz_nil)) (c_laws_heldInt64S (mkI (1 : Int) (CisT a0 a1)) 1 q63) rfl ?_ )
               rintro _ rfl
               refine ⟨rfl, rfl, ?_⟩
               refine run_s (ss_assign rfl) rfl ?_
               refine run_nil ?_
               refine aw_seq ?_
               refine aw_seq ?_
               refine aw_gh (gh_to (n := 119) (σ' := [(99, ⟨ints (CisT a0 a1), []⟩), (98, ⟨orows a1, []⟩), (96, ⟨orows a0, []⟩), (61, ⟨orows a1, []⟩), (56, ⟨orows a0, []⟩), (42, ⟨ints (mkI (1 : Int) (CisT a0 a1)), []⟩), (9, ⟨[.hole], [(0, .ref 38)]⟩), (38, ⟨orows (mkII ((1 : Int) + tot a0) a1), []⟩), (8, ⟨[.hole], [(0, .ref 36)]⟩), (36, ⟨orows (mkII (1 : Int) a0), []⟩)]) (env' := [(13, .c (ci ((1 : Int) + ((CisT a0 a1).length : Int)))), (14, .c (ci (heI (1 : Int) (mkI (1 : Int) (CisT a0 a1)))))]) rfl rfl ⟨rfl, rfl, trivial⟩) ?_
               refine aw_region ?_
               refine run_s (ss_move rfl) rfl ?_
               refine run_s (ss_lss rfl rfl) rfl ?_
               refine run_nil ?_
               refine aw_cond rfl (fun q65 => ?_) (fun q65 => ?_)
               ·replace h := h.1 (of_decide_eq_true q65)
                refine aw_seq ?_
                refine aw_gh (gh_to (n := 119) (σ' := [(99, ⟨ints (CisT a0 a1), []⟩), (98, ⟨orows a1, []⟩), (96, ⟨orows a0, []⟩), (61, ⟨orows a1, []⟩), (56, ⟨orows a0, []⟩), (42, ⟨ints (mkI (1 : Int) (CisT a0 a1)), []⟩), (9, ⟨[.hole], [(0, .ref 38)]⟩), (38, ⟨orows (mkII ((1 : Int) + tot a0) a1), []⟩), (8, ⟨[.hole], [(0, .ref 36)]⟩), (36, ⟨orows (mkII (1 : Int) a0), []⟩)]) (env' := []) rfl rfl trivial) ?_
                refine aw_region ?_
                refine run_s (ss_assign rfl) rfl ?_
                refine run_nil ?_
                refine aw_ret ?_
                exact retAF_mk (retv1 rfl (rv_tmp rfl)) rfl rfl ⟨_, (cle_refl _), _, h, rfl⟩
               ·replace h := h.2 (of_decide_eq_false q65)
                refine aw_skip ?_
                refine aw_seq ?_
                refine aw_seq ?_
                refine aw_region ?_
                refine run_s (ss_move rfl) rfl ?_
                refine run_s (ss_move rfl) rfl ?_
                refine run_s (ss_neq rfl rfl) rfl ?_
                refine run_nil ?_
                refine aw_cond rfl (fun q66 => ?_) (fun q66 => ?_)
                ·replace h := h.1 (of_decide_eq_false (bnot_t q66))
                 refine aw_seq ?_
                 refine aw_gh (gh_to (n := 119) (σ' := [(99, ⟨ints (CisT a0 a1), []⟩), (98, ⟨orows a1, []⟩), (96, ⟨orows a0, []⟩), (61, ⟨orows a1, []⟩), (56, ⟨orows a0, []⟩), (42, ⟨ints (mkI (1 : Int) (CisT a0 a1)), []⟩), (9, ⟨[.hole], [(0, .ref 38)]⟩), (38, ⟨orows (mkII ((1 : Int) + tot a0) a1), []⟩), (8, ⟨[.hole], [(0, .ref 36)]⟩), (36, ⟨orows (mkII (1 : Int) a0), []⟩)]) (env' := []) rfl rfl trivial) ?_
                 refine aw_region ?_
                 refine run_s (ss_assign rfl) rfl ?_
                 refine run_nil ?_
                 refine aw_ret ?_
                 exact retAF_mk (retv1 rfl (rv_tmp rfl)) rfl rfl ⟨_, (cle_refl _), _, h, rfl⟩
                ·replace h := h.2 (of_decide_eq_true (bnot_f q66))
                 refine aw_skip ?_
                 refine aw_seq ?_
                 refine aw_gh (gh_to (n := 119) (σ' := [(99, ⟨ints (CisT a0 a1), []⟩), (98, ⟨orows a1, []⟩), (96, ⟨orows a0, []⟩), (61, ⟨orows a1, []⟩), (56, ⟨orows a0, []⟩), (42, ⟨ints (mkI (1 : Int) (CisT a0 a1)), []⟩), (9, ⟨[.hole], [(0, .ref 38)]⟩), (38, ⟨orows (mkII ((1 : Int) + tot a0) a1), []⟩), (8, ⟨[.hole], [(0, .ref 36)]⟩), (36, ⟨orows (mkII (1 : Int) a0), []⟩)]) (env' := []) rfl rfl trivial) ?_
                 refine aw_region ?_
                 refine run_s (ss_assign rfl) rfl ?_
                 refine run_nil ?_
                 refine aw_ret ?_
                 exact retAF_mk (retv1 rfl (rv_tmp rfl)) rfl rfl ⟨_, (cle_refl _), _, h, rfl⟩

theorem c_laws_FnExactCycleIsomorphism (a0 : List (List Int)) (a1 : List (List Int)) (hp : huge2 a0 ∧ huge2 a1) : AF Try.prog 4 [.agg [.lst (rows a0)], .agg [.lst (rows a1)]] (fun R_ => R_ = cb true) :=
  (w_laws_FnExactCycleIsomorphism a0 a1 (fun y0 => y0 = true) (p_laws_FnExactCycleIsomorphism a0 a1 hp)).mono (by rintro r ⟨_, rfl, rfl⟩; rfl)

end Go.Proofs.Ytkmoeodoidpjkaa

/- Contracts of functions that the law FnExactLeastRack reaches: conditions, plain proofs, walks; no condition. -/
import Derived.Test.YtpcnbdjommcaoaaKELeastRackc
namespace Go.Proofs.Ytpcnbdjommcaoaa

def wp_laws_FnExactLeastRack (a0 : List (List Int)) (Q : Bool → Prop) : Prop :=
 (InS (1048576 : Int) ∧ huge2 a0) ∧
 ((szII a0 (1048576 : Int) < 0 →
 Q true) ∧
 (¬ (szII a0 (1048576 : Int) < 0) →
 (small2 a0) ∧
 (small2 a0) ∧
 (small2 a0) ∧
 (small2 a0) ∧
 (small2 (if isRk a0 then LeaT a0 else []) ∧ small2 (if isRk a0 then LeaT a0 else [])) ∧
 ((¬ ((if isRk a0 then LeaT a0 else []) = (if isRk a0 then LeaT a0 else [])) →
 Q false) ∧
 ((if isRk a0 then LeaT a0 else []) = (if isRk a0 then LeaT a0 else []) →
 ((¬ ((if isRk a0 then LeaE a0 else 1) = (if isRk a0 then LeaE a0 else 1)) →
 Q false) ∧
 ((if isRk a0 then LeaE a0 else 1) = (if isRk a0 then LeaE a0 else 1) →
 (small2 a0) ∧
 (small2 a0 ∧ small2 a0) ∧
 ((¬ (a0 = a0) →
 Q false) ∧
 (a0 = a0 →
 (small2 a0 ∧ okKT (1 : Int) a0) ∧
 (((1 : Int) + tot a0 < 0 →
 Q false) ∧
 (¬ ((1 : Int) + tot a0 < 0) →
 (small2 (if isRk a0 then LeaT a0 else []) ∧ small2 (if isRk a0 then LeaT a0 else [])) ∧
 ((¬ ((if isRk a0 then LeaT a0 else []) = (if isRk a0 then LeaT a0 else [])) →
 Q false) ∧
 ((if isRk a0 then LeaT a0 else []) = (if isRk a0 then LeaT a0 else []) →
 ((¬ ((if isRk a0 then LeaE a0 else 1) = (if isRk a0 then LeaE a0 else 1)) →
 Q false) ∧
 ((if isRk a0 then LeaE a0 else 1) = (if isRk a0 then LeaE a0 else 1) →
 (small2 (if isRk a0 then LeaT a0 else []) ∧ okKT (1 : Int) (if isRk a0 then LeaT a0 else [])) ∧
 (small2 (mkII (1 : Int) (if isRk a0 then LeaT a0 else [])) ∧ okKT (1 : Int) (mkII (1 : Int) (if isRk a0 then LeaT a0 else []))) ∧
 ((heII (1 : Int) (mkII (1 : Int) (if isRk a0 then LeaT a0 else [])) < 0 →
 Q false) ∧
 (¬ (heII (1 : Int) (mkII (1 : Int) (if isRk a0 then LeaT a0 else [])) < 0) →
 ((¬ (heII (1 : Int) (mkII (1 : Int) (if isRk a0 then LeaT a0 else [])) = (1 : Int) + tot (if isRk a0 then LeaT a0 else [])) →
 Q false) ∧
 (heII (1 : Int) (mkII (1 : Int) (if isRk a0 then LeaT a0 else [])) = (1 : Int) + tot (if isRk a0 then LeaT a0 else []) →
 (small2 a0) ∧
 (small2 a0) ∧
 (small2 (if isRk a0 then LeaT a0 else []) ∧ small2 (if isRk a0 then LeaT a0 else [])) ∧
 ((¬ ((if isRk a0 then LeaT a0 else []) = (if isRk a0 then LeaT a0 else [])) →
 Q false) ∧
 ((if isRk a0 then LeaT a0 else []) = (if isRk a0 then LeaT a0 else []) →
 ((¬ ((if isRk a0 then LeaE a0 else 1) = (if isRk a0 then LeaE a0 else 1)) →
 Q false) ∧
 ((if isRk a0 then LeaE a0 else 1) = (if isRk a0 then LeaE a0 else 1) →
 (small2 (mkII (1 : Int) (if isRk a0 then LeaT a0 else [])) ∧ okKT (1 : Int) (mkII (1 : Int) (if isRk a0 then LeaT a0 else []))) ∧
 ((heII (1 : Int) (mkII (1 : Int) (if isRk a0 then LeaT a0 else [])) < 0 →
 Q false) ∧
 (¬ (heII (1 : Int) (mkII (1 : Int) (if isRk a0 then LeaT a0 else [])) < 0) →
 ((¬ (heII (1 : Int) (mkII (1 : Int) (if isRk a0 then LeaT a0 else [])) = (1 : Int) + tot (if isRk a0 then LeaT a0 else [])) →
 Q false) ∧
 (heII (1 : Int) (mkII (1 : Int) (if isRk a0 then LeaT a0 else [])) = (1 : Int) + tot (if isRk a0 then LeaT a0 else []) →
 Q true))))))))))))))))))))))))))

@[reducible] def fine2 (t : List (List Int)) : Prop := small2 t ∧ tot t ≤ 1000000000
theorem fine2_nil : fine2 [] := ⟨⟨by simp, by simp⟩, by simp [tot]⟩
theorem fine2_ite {c : Prop} [Decidable c] {t : List (List Int)} (h : c → fine2 t) : fine2 (if c then t else []) := by
  split
  · exact h (by assumption)
  · exact fine2_nil
theorem fine_mk {T : List (List Int)} (h : fine2 T) : okKT 1 T ∧ small2 (mkII 1 T) ∧ okKT 1 (mkII 1 T) ∧ heII 1 (mkII 1 T) = 1 + tot T ∧ 0 ≤ tot T := by
  have := tot_nonneg T
  have h2 := h.2
  exact ⟨⟨by omega, by omega⟩, small2_mkII h.1, ⟨by omega, by rw [tot_mkII]; omega⟩, heII_mkII 1 T, this⟩
theorem sz_fine {a : List (List Int)} {left : Int} (hl : left ≤ 1000000000) (h : ¬ szII a left < 0) : fine2 a := by
  unfold szII at h
  split at h
  · omega
  · have tn := tot_nonneg a
    refine ⟨⟨by show (a.length : Int) ≤ 1000000000; omega, fun r hr => ?_⟩, by omega⟩
    obtain ⟨i, hi, rfl⟩ := mem_el hr
    have := tt_row hi
    have := (tt_le a i).1
    show ((el a i).length : Int) ≤ 1000000000; omega
theorem sz_in {a : List (List Int)} {left : Int} (hl : left ≤ 1000000000) (h : ¬ szII a left < 0) : InS (szII a left) := by
  refine ⟨by omega, ?_⟩
  unfold szII
  have := tot_nonneg a
  split <;> omega
theorem InS20 : InS 1048576 := ⟨by omega, by omega⟩
theorem fine_mkk {T : List (List Int)} {k : Int} (h : fine2 T) (hk : 0 ≤ k ∧ k ≤ 100000000000) : okKT k T ∧ ¬ (k + tot T < 0) := by
  have := tot_nonneg T
  have h2 := h.2
  exact ⟨⟨by omega, by omega⟩, by omega⟩
theorem tot_le_mul : ∀ (t : List (List Int)) (m : Int), 0 ≤ m → (∀ r ∈ t, (r.length : Int) ≤ m) → tot t ≤ (t.length : Int) * m
  | [], m, _, _ => by simp [tot]
  | r :: t, m, hm, h => by
    have h1 := h r List.mem_cons_self
    have h2 := tot_le_mul t m hm fun q hq => h q (List.mem_cons_of_mem _ hq)
    simp only [tot, List.length_cons, Int.natCast_add, Int.add_mul]
    omega
theorem fine2_of {t : List (List Int)} (h : (t.length : Int) ≤ 1000) (h2 : ∀ r ∈ t, (r.length : Int) ≤ 1000) : fine2 t := by
  refine ⟨⟨by show (t.length : Int) ≤ 1000000000; omega, fun r hr => by have := h2 r hr; show (r.length : Int) ≤ 1000000000; omega⟩, ?_⟩
  have a := tot_le_mul t 1000 (by omega) h2
  have b : (t.length : Int) * 1000 ≤ 1000 * 1000 := by omega
  omega
theorem fine2_isTab {t : List (List Int)} (h : isTab t = true) : fine2 t := fine2_of (by have := isTab_len h; omega) fun r hr => by
  obtain ⟨i, hi, rfl⟩ := mem_el hr
  have a := (isTab_row h hi).1; have b := isTab_len h; omega
theorem lea_tab {t : List (List Int)} (ht : isTab t = true) : ∀ (L : List (List Int)) (b : List (List Int)), (∀ p ∈ L, (p.length : Int) = (t.length : Int) ∧ isPerm p = true) → isTab b = true → isTab (L.foldl (lesT t) b) = true
  | [], b, _, hb => hb
  | p :: L, b, h, hb => lea_tab ht L _ (fun q hq => h q (List.mem_cons_of_mem _ hq)) (lesT_tab ht (h p (by simp)).2 (h p (by simp)).1 hb)
theorem fine_Lea (c : List (List Int)) : fine2 (LeaT c) := fine2_ite fun h => by
  have ht : isTab c = true := by
    unfold LeaE at h
    split at h
    · assumption
    · cases h
  exact fine2_isTab (lea_tab ht _ _ (fun p hp => growL_perm (by omega) hp) ht)
theorem fine_LeR (r : List (List Int)) : fine2 (if isRk r then LeaT r else []) := fine2_ite fun _ => fine_Lea r

theorem p_laws_FnExactLeastRack (a0 : List (List Int)) (hp : huge2 a0) : wp_laws_FnExactLeastRack a0 (fun y0 => y0 = true) := by
  unfold wp_laws_FnExactLeastRack
  have ha0 := hp
  by_cases za0 : szII a0 1048576 < 0
  · simp [eq_true InS20, eq_true ha0, za0]
  have fa0 := sz_fine (by omega) za0
  have ia0 := sz_in (by omega) za0
  have j0 : 0 ≤ (1 : Int) ∧ (1 : Int) ≤ 100000000000 := ⟨by omega, by omega⟩
  have ma0 := fine_mkk fa0 j0
  have ta0 := tot_nonneg a0
  have j1 : 0 ≤ 1 + tot a0 ∧ 1 + tot a0 ≤ 100000000000 := ⟨by omega, by have := fa0.2; omega⟩
  have k1 : okK 1 := ⟨by omega, by omega⟩
  have r0 := fine_LeR a0
  generalize (if isRk a0 then LeaT a0 else []) = T0 at *
  have q0 := fine_mk r0
  have p0 : ¬ (1 + tot T0 < 0) := by have := q0.2.2.2.2; omega
  simp [eq_true InS20, eq_true ha0, za0, eq_true fa0.1, eq_true ia0, eq_true ma0.1, ma0.2, eq_true k1, eq_true r0.1, eq_true q0.1, eq_true q0.2.1, eq_true q0.2.2.1, q0.2.2.2.1, p0]
set_option maxRecDepth 100000 in
set_option maxHeartbeats 4000000 in
theorem w_laws_FnExactLeastRack (a0 : List (List Int)) (Q : Bool → Prop) (h : wp_laws_FnExactLeastRack a0 Q) : AF Try.prog 6 [.agg [.lst (rows a0)]] (fun R_ => ∃ y0, Q y0 ∧ R_ = cb y0) := by
  refine AF.ofWQ (af_enter (n := 96) Try.func6 rfl (by rfl) rfl (Nat.le_of_ble_eq_true rfl) ?_)
  unfold wp_laws_FnExactLeastRack at h
  refine aw_seq ?_
  refine aw_gh (gh_to (n := 96) (σ' := []) (env' := [(0, .c (.agg [.lst (rows a0)]))]) rfl rfl ⟨rfl, trivial⟩) ?_
  refine aw_region ?_
  refine run_w (ws_boxR rfl (.inl rfl) rfl ⟨rfl, ?_⟩)
  refine run_s (ss_assign rfl) rfl ?_
  refine run_nil ?_
  refine aw_seq ?_
  refine aw_region ?_
  refine run_s (ss_assign rfl) rfl ?_
  refine run_nil ?_
  refine aw_seq ?_
  refine aw_region ?_
  refine run_s (ss_load_struct rfl (Nat.le_of_ble_eq_true rfl)) rfl ?_
  refine run_s (ss_move rfl) rfl ?_
  obtain ⟨q1, h⟩ := h
  refine run_w (ws_call (xs := [.tmp 14, .tmp 15]) (ids := []) rfl rfl rfl rfl (c_laws_szRack a0 1048576 q1) rfl ?_ )
  rintro _ rfl
  refine ⟨rfl, ?_⟩
  refine run_s (ss_assign rfl) rfl ?_
  refine run_nil ?_
  refine aw_seq ?_
  refine aw_seq ?_
  refine aw_region ?_
  refine run_s (ss_move rfl) rfl ?_
  refine run_s (ss_lss rfl rfl) rfl ?_
  refine run_nil ?_
  refine aw_cond rfl (fun q3 => ?_) (fun q3 => ?_)
  ·replace h := h.1 (of_decide_eq_true q3)
   refine aw_seq ?_
   refine aw_gh (gh_to (n := 96) (σ' := []) (env' := [(2, .c (cb false))]) rfl rfl ⟨rfl, trivial⟩) ?_
   refine aw_region ?_
   refine run_s (ss_assign rfl) rfl ?_
   refine run_nil ?_
   refine aw_ret ?_
   exact retAF_mk (retv1 rfl (rv_tmp rfl)) rfl rfl ⟨_, (cle_refl _), _, h, rfl⟩
  ·replace h := h.2 (of_decide_eq_false q3)
   refine aw_skip ?_
   refine aw_seq ?_
   refine aw_region ?_
   refine run_s (ss_load_struct rfl (Nat.le_of_ble_eq_true rfl)) rfl ?_
   obtain ⟨q4, h⟩ := h
   refine run_w (ws_call (xs := [.tmp 20]) (ids := [21]) rfl rfl rfl rfl (c_laws_toRack a0 q4) rfl ?_ )
   rintro _ rfl
   refine ⟨rfl, ?_⟩
   refine run_gh (gh_frzE (id := 21) (fun r => C.lst (ints r)) rfl (fun _ => (fz_own (fz_map (fun _ => rfl) _)))) ?_
   obtain ⟨q6, h⟩ := h
   refine run_w (ws_call (xs := [.tmp 21]) (ids := []) rfl rfl rfl rfl (c_spec_LeastRack a0 q6) rfl ?_ )
   rintro _ rfl
   refine ⟨rfl, ?_⟩
   refine run_s (ss_move rfl) rfl ?_
   refine run_s (ss_extract rfl rfl) rfl ?_
   refine run_s (ss_extract rfl rfl) rfl ?_
   refine run_w (ws_alloc (id := 4) rfl (Nat.le_of_ble_eq_true rfl) ⟨rfl, ?_⟩)
   refine run_w (ws_storeS rfl rfl (Nat.le_of_ble_eq_true rfl) rfl rfl rfl ⟨rfl, ?_⟩)
   refine run_s (ss_assign rfl) rfl ?_
   refine run_nil ?_
   refine aw_seq ?_
   refine aw_region ?_
   refine run_s (ss_load_struct rfl (Nat.le_of_ble_eq_true rfl)) rfl ?_
   obtain ⟨q8, h⟩ := h
   refine run_w (ws_call (xs := [.tmp 25]) (ids := [26]) rfl rfl rfl rfl (c_laws_toRack a0 q8) rfl ?_ )
   rintro _ rfl
   refine ⟨rfl, ?_⟩
   refine run_w (ws_alloc (id := 6) rfl (Nat.le_of_ble_eq_true rfl) ⟨rfl, ?_⟩)
   refine run_w (ws_storeS rfl rfl (Nat.le_of_ble_eq_true rfl) rfl rfl rfl ⟨rfl, ?_⟩)
   refine run_nil ?_
   refine aw_seq ?_
   refine aw_region ?_
   refine run_s (ss_loadS rfl rfl rfl rfl) rfl ?_
   obtain ⟨q10, h⟩ := h
   refine run_w (ws_callR (xs := [.tmp 28]) (cs := [.agg [.own (orows a0)]]) (ids := [29]) rfl (.inr ⟨rfl, rfl⟩) rfl rfl (fz_cons (fz_agg (fz_cons (fz_own (fz_map (fun _ => (fz_own (fz_map (fun _ => rfl) _))) _)) fz_nil)) fz_nil) (c_impl_LeastRack a0 q10) rfl ?_ )
   rintro _ rfl
   refine ⟨(slf_tup (slf_cons (slf_agg (slf_cons (slf_own (slfL_map (f := (fun r => C.own (ints r))) (fun _ => (slf_own (slfL_map (f := ci) (fun _ => rfl) _))) _)) slf_nil)) (slf_cons rfl slf_nil))), rfl, ?_⟩
   refine run_s (ss_move rfl) rfl ?_
   refine run_s (ss_extract rfl rfl) rfl ?_
   refine run_s (ss_extract rfl rfl) rfl ?_
   refine run_w (ws_alloc (id := 7) rfl (Nat.le_of_ble_eq_true rfl) ⟨rfl, ?_⟩)
   refine run_w (ws_storeS rfl rfl (Nat.le_of_ble_eq_true rfl) rfl rfl rfl ⟨rfl, ?_⟩)
   refine run_s (ss_assign rfl) rfl ?_
   refine run_nil ?_
   refine aw_seq ?_
   refine aw_seq ?_
   refine aw_gh (gh_to (n := 96) (σ' := [(7, ⟨[.hole], [(0, .ref 29)]⟩), (29, ⟨orows (if isRk a0 then LeaT a0 else []), []⟩), (6, ⟨[.hole], [(0, .ref 26)]⟩), (26, ⟨orows a0, []⟩), (4, ⟨[.lst (rows (if isRk a0 then LeaT a0 else []))], []⟩)]) (env' := [(1, .c (.ptr [.lst (rows a0)])), (4, .cell 4 0), (5, .c (ci (if isRk a0 then LeaE a0 else 1))), (6, .cell 6 0), (7, .cell 7 0), (8, .c (ci (if isRk a0 then LeaE a0 else 1)))]) rfl rfl ⟨rfl, rfl, rfl, rfl, rfl, rfl, trivial⟩) ?_
   refine aw_region ?_
   refine run_s (ss_loadS rfl rfl rfl rfl) rfl ?_
   refine run_s (ss_loadS rfl rfl rfl rfl) rfl ?_
   obtain ⟨q12, h⟩ := h
   refine run_w (ws_callR (xs := [.tmp 32, .tmp 33]) (cs := [.agg [.own (orows (if isRk a0 then LeaT a0 else []))], .agg [.lst (rows (if isRk a0 then LeaT a0 else []))]]) (ids := []) rfl (.inr ⟨rfl, rfl⟩) rfl rfl (fz_cons (fz_agg (fz_cons (fz_own (fz_map (fun _ => (fz_own (fz_map (fun _ => rfl) _))) _)) fz_nil)) (fz_cons rfl fz_nil)) (c_laws_eqRack (if isRk a0 then LeaT a0 else []) (if isRk a0 then LeaT a0 else []) q12) rfl ?_ )
   rintro _ rfl
   refine ⟨rfl, rfl, ?_⟩
   refine run_s (ss_not rfl) rfl ?_
   refine run_s (ss_move rfl) rfl ?_
   refine run_split (s := 36) rfl (fun q14 => ?_) (fun q14 => ?_)
   ·replace h := h.1 (of_decide_eq_false (bnot_t q14))
    refine run_gf rfl rfl q14 rfl ?_
    refine run_gf rfl rfl q14 rfl ?_
    refine run_gf rfl rfl q14 rfl ?_
    refine run_s (ss_pickT rfl q14 rfl) rfl ?_
    refine run_nil ?_
    refine aw_cond rfl (fun q15 => ?_) (fun q15 => ?_)
    ·skip
     refine aw_seq ?_
     refine aw_gh (gh_to (n := 96) (σ' := [(7, ⟨[.hole], [(0, .ref 29)]⟩), (29, ⟨orows (if isRk a0 then LeaT a0 else []), []⟩), (6, ⟨[.hole], [(0, .ref 26)]⟩), (26, ⟨orows a0, []⟩), (4, ⟨[.lst (rows (if isRk a0 then LeaT a0 else []))], []⟩)]) (env' := []) rfl rfl trivial) ?_
     refine aw_region ?_
     refine run_s (ss_assign rfl) rfl ?_
     refine run_nil ?_
     refine aw_ret ?_
     exact retAF_mk (retv1 rfl (rv_tmp rfl)) rfl rfl ⟨_, (cle_refl _), _, h, rfl⟩
    ·cases q15
   ·replace h := h.2 (of_decide_eq_true (bnot_f q14))
    refine run_gt rfl rfl q14 ?_
    refine run_s (ss_move rfl) rfl ?_
    refine run_gt rfl rfl q14 ?_
    refine run_s (ss_move rfl) rfl ?_
    refine run_gt rfl rfl q14 ?_
    refine run_s (ss_neq rfl rfl) rfl ?_
    refine run_s (ss_pickF rfl q14 rfl) rfl ?_
    refine run_nil ?_
    refine aw_cond rfl (fun q16 => ?_) (fun q16 => ?_)
    ·replace h := h.1 (of_decide_eq_false (bnot_t q16))
     refine aw_seq ?_
     refine aw_gh (gh_to (n := 96) (σ' := [(7, ⟨[.hole], [(0, .ref 29)]⟩), (29, ⟨orows (if isRk a0 then LeaT a0 else []), []⟩), (6, ⟨[.hole], [(0, .ref 26)]⟩), (26, ⟨orows a0, []⟩), (4, ⟨[.lst (rows (if isRk a0 then LeaT a0 else []))], []⟩)]) (env' := []) rfl rfl trivial) ?_
     refine aw_region ?_
     refine run_s (ss_assign rfl) rfl ?_
     refine run_nil ?_
     refine aw_ret ?_
     exact retAF_mk (retv1 rfl (rv_tmp rfl)) rfl rfl ⟨_, (cle_refl _), _, h, rfl⟩
    ·replace h := h.2 (of_decide_eq_true (bnot_f q16))
     refine aw_skip ?_
     refine aw_seq ?_
     refine aw_seq ?_
     refine aw_gh (gh_to (n := 96) (σ' := [(7, ⟨[.hole], [(0, .ref 29)]⟩), (29, ⟨orows (if isRk a0 then LeaT a0 else []), []⟩), (6, ⟨[.hole], [(0, .ref 26)]⟩), (26, ⟨orows a0, []⟩), (4, ⟨[.lst (rows (if isRk a0 then LeaT a0 else []))], []⟩)]) (env' := [(1, .c (.ptr [.lst (rows a0)])), (4, .cell 4 0), (5, .c (ci (if isRk a0 then LeaE a0 else 1))), (6, .cell 6 0), (7, .cell 7 0), (8, .c (ci (if isRk a0 then LeaE a0 else 1)))]) rfl rfl ⟨rfl, rfl, rfl, rfl, rfl, rfl, trivial⟩) ?_
     refine aw_regionD (kd := kdl [1, 1, 2, 2, 0]) (ord := [0, 1, 2, 3, 4]) [] mixed (by kernel_rfl) ?_
     refine rd_l rfl rfl trivial (ss_loadS rfl rfl rfl rfl) rfl ?_
     refine rd_l rfl rfl trivial (ss_load_struct rfl (Nat.le_of_ble_eq_true rfl)) rfl ?_
     obtain ⟨q17, h⟩ := h
     refine rd_w rfl rfl trivial rfl rfl (ws_call (xs := [.tmp 42]) (ids := [43]) rfl rfl rfl rfl (c_laws_toRack a0 q17) rfl ?_ )
     rintro _ rfl
     refine ⟨rfl, ?_⟩
     obtain ⟨q19, h⟩ := h
     refine rd_w rfl rfl trivial rfl rfl (ws_callR (xs := [.tmp 41, .tmp 43]) (cs := [.agg [.own (orows a0)], .agg [.own (orows a0)]]) (ids := []) rfl (.inr ⟨rfl, rfl⟩) rfl rfl (fz_cons (fz_agg (fz_cons (fz_own (fz_map (fun _ => (fz_own (fz_map (fun _ => rfl) _))) _)) fz_nil)) (fz_cons (fz_agg (fz_cons (fz_own (fz_map (fun _ => (fz_own (fz_map (fun _ => rfl) _))) _)) fz_nil)) fz_nil)) (c_laws_eqRack a0 a0 q19) rfl ?_ )
     rintro _ rfl
     refine ⟨rfl, rfl, ?_⟩
     refine rd_s rfl rfl trivial (ss_not rfl) rfl ?_
     refine rd_nil ?_
     refine aw_cond rfl (fun q21 => ?_) (fun q21 => ?_)
     ·replace h := h.1 (of_decide_eq_false (bnot_t q21))
      refine aw_seq ?_
      refine aw_gh (gh_to (n := 96) (σ' := [(43, ⟨orows a0, []⟩), (7, ⟨[.hole], [(0, .ref 29)]⟩), (29, ⟨orows (if isRk a0 then LeaT a0 else []), []⟩), (6, ⟨[.hole], [(0, .ref 26)]⟩), (26, ⟨orows a0, []⟩), (4, ⟨[.lst (rows (if isRk a0 then LeaT a0 else []))], []⟩)]) (env' := []) rfl rfl trivial) ?_
      refine aw_region ?_
      refine run_s (ss_assign rfl) rfl ?_
      refine run_nil ?_
      refine aw_ret ?_
      exact retAF_mk (retv1 rfl (rv_tmp rfl)) rfl rfl ⟨_, (cle_refl _), _, h, rfl⟩
     ·replace h := h.2 (of_decide_eq_true (bnot_f q21))
      refine aw_skip ?_
      refine aw_seq ?_
      refine aw_region ?_
      refine run_s (ss_assign rfl) rfl ?_
      refine run_nil ?_
      refine aw_seq ?_
      refine aw_region ?_
      refine run_s (ss_loadS rfl rfl rfl rfl) rfl ?_
      refine run_s (ss_move rfl) rfl ?_
      obtain ⟨q22, h⟩ := h
      refine run_w (ws_callM (xs := [.tmp 46, .tmp 47]) (cs := [.agg [.own (orows a0)], ci 1]) (ids := []) rfl (.inr ⟨rfl, rfl⟩) rfl rfl rfl (c_laws_markRack a0 1 q22) rfl rfl ?_ )
      rintro _ _ ⟨rfl, rfl⟩
      refine ⟨rfl, rfl, ?_⟩
      refine run_s (ss_assign rfl) rfl ?_
      refine run_nil ?_
      refine aw_seq ?_
      refine aw_seq ?_
      refine aw_region ?_
      refine run_s (ss_move rfl) rfl ?_
      refine run_s (ss_lss rfl rfl) rfl ?_
      refine run_s (ss_move rfl) rfl ?_
      refine run_split (s := 51) rfl (fun q24 => ?_) (fun q24 => ?_)
      ·replace h := h.1 (of_decide_eq_true q24)
       refine run_gf rfl rfl q24 rfl ?_
       refine run_gf rfl rfl q24 rfl ?_
       refine run_gf rfl rfl q24 rfl ?_
       refine run_gf rfl rfl q24 rfl ?_
       refine run_s (ss_pickT rfl q24 rfl) rfl ?_
       refine run_s (ss_move rfl) rfl ?_
       refine run_split (s := 57) rfl (fun q25 => ?_) (fun q25 => ?_)
       ·skip
        refine run_gf rfl rfl q25 rfl ?_
        refine run_gf rfl rfl q25 rfl ?_
        refine run_gf rfl rfl q25 rfl ?_
        refine run_s (ss_pickT rfl q25 rfl) rfl ?_
        refine run_nil ?_
        refine aw_cond rfl (fun q26 => ?_) (fun q26 => ?_)
        ·skip
         refine aw_seq ?_
         refine aw_gh (gh_to (n := 96) (σ' := [(43, ⟨orows a0, []⟩), (7, ⟨[.hole], [(0, .ref 29)]⟩), (29, ⟨orows (if isRk a0 then LeaT a0 else []), []⟩), (6, ⟨[.hole], [(0, .ref 26)]⟩), (26, ⟨orows (mkII (1 : Int) a0), []⟩), (4, ⟨[.lst (rows (if isRk a0 then LeaT a0 else []))], []⟩)]) (env' := []) rfl rfl trivial) ?_
         refine aw_region ?_
         refine run_s (ss_assign rfl) rfl ?_
         refine run_nil ?_
         refine aw_ret ?_
         exact retAF_mk (retv1 rfl (rv_tmp rfl)) rfl rfl ⟨_, (cle_refl _), _, h, rfl⟩
        ·cases q26
       ·cases q25
      ·replace h := h.2 (of_decide_eq_false q24)
       refine run_gt rfl rfl q24 ?_
       refine run_s (ss_loadS rfl rfl rfl rfl) rfl ?_
       refine run_gt rfl rfl q24 ?_
       refine run_s (ss_loadS rfl rfl rfl rfl) rfl ?_
       refine run_gt rfl rfl q24 ?_
       obtain ⟨q27, h⟩ := h
       refine run_w (ws_callR (xs := [.tmp 52, .tmp 53]) (cs := [.agg [.own (orows (if isRk a0 then LeaT a0 else []))], .agg [.lst (rows (if isRk a0 then LeaT a0 else []))]]) (ids := []) rfl (.inr ⟨rfl, rfl⟩) rfl rfl (fz_cons (fz_agg (fz_cons (fz_own (fz_map (fun _ => (fz_own (fz_map (fun _ => rfl) _))) _)) fz_nil)) (fz_cons rfl fz_nil)) (c_laws_eqRack (if isRk a0 then LeaT a0 else []) (if isRk a0 then LeaT a0 else []) q27) rfl ?_ )
       rintro _ rfl
       refine ⟨rfl, rfl, ?_⟩
       refine run_gt rfl rfl q24 ?_
       refine run_s (ss_not rfl) rfl ?_
       refine run_s (ss_pickF rfl q24 rfl) rfl ?_
       refine run_s (ss_move rfl) rfl ?_
       refine run_split (s := 57) rfl (fun q29 => ?_) (fun q29 => ?_)
       ·replace h := h.1 (of_decide_eq_false (bnot_t q29))
        refine run_gf rfl rfl q29 rfl ?_
        refine run_gf rfl rfl q29 rfl ?_
        refine run_gf rfl rfl q29 rfl ?_
        refine run_s (ss_pickT rfl q29 rfl) rfl ?_
        refine run_nil ?_
        refine aw_cond rfl (fun q30 => ?_) (fun q30 => ?_)
        ·skip
         refine aw_seq ?_
         refine aw_gh (gh_to (n := 96) (σ' := [(43, ⟨orows a0, []⟩), (7, ⟨[.hole], [(0, .ref 29)]⟩), (29, ⟨orows (if isRk a0 then LeaT a0 else []), []⟩), (6, ⟨[.hole], [(0, .ref 26)]⟩), (26, ⟨orows (mkII (1 : Int) a0), []⟩), (4, ⟨[.lst (rows (if isRk a0 then LeaT a0 else []))], []⟩)]) (env' := []) rfl rfl trivial) ?_
         refine aw_region ?_
         refine run_s (ss_assign rfl) rfl ?_
         refine run_nil ?_
         refine aw_ret ?_
         exact retAF_mk (retv1 rfl (rv_tmp rfl)) rfl rfl ⟨_, (cle_refl _), _, h, rfl⟩
        ·cases q30
       ·replace h := h.2 (of_decide_eq_true (bnot_f q29))
        refine run_gt rfl rfl q29 ?_
        refine run_s (ss_move rfl) rfl ?_
        refine run_gt rfl rfl q29 ?_
        refine run_s (ss_move rfl) rfl ?_
        refine run_gt rfl rfl q29 ?_
        refine run_s (ss_neq rfl rfl) rfl ?_
        refine run_s (ss_pickF rfl q29 rfl) rfl ?_
        refine run_nil ?_
        refine aw_cond rfl (fun q31 => ?_) (fun q31 => ?_)
        ·replace h := h.1 (of_decide_eq_false (bnot_t q31))
         refine aw_seq ?_
         refine aw_gh (gh_to (n := 96) (σ' := [(43, ⟨orows a0, []⟩), (7, ⟨[.hole], [(0, .ref 29)]⟩), (29, ⟨orows (if isRk a0 then LeaT a0 else []), []⟩), (6, ⟨[.hole], [(0, .ref 26)]⟩), (26, ⟨orows (mkII (1 : Int) a0), []⟩), (4, ⟨[.lst (rows (if isRk a0 then LeaT a0 else []))], []⟩)]) (env' := []) rfl rfl trivial) ?_
         refine aw_region ?_
         refine run_s (ss_assign rfl) rfl ?_
         refine run_nil ?_
         refine aw_ret ?_
         exact retAF_mk (retv1 rfl (rv_tmp rfl)) rfl rfl ⟨_, (cle_refl _), _, h, rfl⟩
        ·replace h := h.2 (of_decide_eq_true (bnot_f q31))
         refine aw_skip ?_
         refine aw_seq ?_
         refine aw_gh (gh_to (n := 96) (σ' := [(43, ⟨orows a0, []⟩), (7, ⟨[.hole], [(0, .ref 29)]⟩), (29, ⟨orows (if isRk a0 then LeaT a0 else []), []⟩), (6, ⟨[.hole], [(0, .ref 26)]⟩), (26, ⟨orows (mkII (1 : Int) a0), []⟩), (4, ⟨[.lst (rows (if isRk a0 then LeaT a0 else []))], []⟩)]) (env' := [(1, .c (.ptr [.lst (rows a0)])), (4, .cell 4 0), (5, .c (ci (if isRk a0 then LeaE a0 else 1))), (7, .cell 7 0)]) rfl rfl ⟨rfl, rfl, rfl, rfl, trivial⟩) ?_
         refine aw_region ?_
         refine run_s (ss_assign rfl) rfl ?_
         refine run_nil ?_
         refine aw_seq ?_
         refine aw_region ?_
         refine run_s (ss_loadS rfl rfl rfl rfl) rfl ?_
         refine run_s (ss_move rfl) rfl ?_
         obtain ⟨q32, h⟩ := h
         refine run_w (ws_callM (xs := [.tmp 62, .tmp 63]) (cs := [.agg [.own (orows (if isRk a0 then LeaT a0 else []))], ci 1]) (ids := []) rfl (.inr ⟨rfl, rfl⟩) rfl rfl rfl (c_laws_markRack (if isRk a0 then LeaT a0 else []) 1 q32) rfl rfl ?_ )
         rintro _ _ ⟨rfl, rfl⟩
         refine ⟨rfl, rfl, ?_⟩
         refine run_s (ss_assign rfl) rfl ?_
         refine run_nil ?_
         refine aw_seq ?_
         refine aw_region ?_
         refine run_s (ss_assign rfl) rfl ?_
         refine run_nil ?_
         refine aw_seq ?_
         refine aw_region ?_
         refine run_s (ss_loadS rfl rfl rfl rfl) rfl ?_
         refine run_s (ss_move rfl) rfl ?_
         obtain ⟨q34, h⟩ := h
         refine run_w (ws_callR (xs := [.tmp 65, .tmp 66]) (cs := [.agg [.own (orows (mkII (1 : Int) (if isRk a0 then LeaT a0 else [])))], ci 1]) (ids := []) rfl (.inr ⟨rfl, rfl⟩) rfl rfl (fz_cons (fz_agg (fz_cons (fz_own (fz_map (fun _ => (fz_own (fz_map (fun _ => rfl) _))) _)) fz_nil)) (fz_cons rfl fz_nil)) (c_laws_heldRack (mkII (1 : Int) (if isRk a0 then LeaT a0 else [])) 1 q34) rfl ?_ )
         rintro _ rfl
         refine ⟨rfl, rfl, ?_⟩
         refine run_s (ss_assign rfl) rfl ?_
         refine run_nil ?_
         refine aw_seq ?_
         refine aw_seq ?_
         refine aw_gh (gh_to (n := 96) (σ' := [(43, ⟨orows a0, []⟩), (7, ⟨[.hole], [(0, .ref 29)]⟩), (29, ⟨orows (mkII (1 : Int) (if isRk a0 then LeaT a0 else [])), []⟩), (6, ⟨[.hole], [(0, .ref 26)]⟩), (26, ⟨orows (mkII (1 : Int) a0), []⟩), (4, ⟨[.lst (rows (if isRk a0 then LeaT a0 else []))], []⟩)]) (env' := [(1, .c (.ptr [.lst (rows a0)])), (4, .cell 4 0), (5, .c (ci (if isRk a0 then LeaE a0 else 1))), (7, .cell 7 0), (10, .c (ci ((1 : Int) + tot (if isRk a0 then LeaT a0 else [])))), (11, .c (ci (heII (1 : Int) (mkII (1 : Int) (if isRk a0 then LeaT a0 else [])))))]) rfl rfl ⟨rfl, rfl, rfl, rfl, rfl, rfl, trivial⟩) ?_
         refine aw_region ?_
         refine run_s (ss_move rfl) rfl ?_
         refine run_s (ss_lss rfl rfl) rfl ?_
         refine run_nil ?_
         refine aw_cond rfl (fun q36 => ?_) (fun q36 => ?_)
         ·replace h := h.1 (of_decide_eq_true q36)
          refine aw_seq ?_
          refine aw_gh (gh_to (n := 96) (σ' := [(43, ⟨orows a0, []⟩), (7, ⟨[.hole], [(0, .ref 29)]⟩), (29, ⟨orows (mkII (1 : Int) (if isRk a0 then LeaT a0 else [])), []⟩), (6, ⟨[.hole], [(0, .ref 26)]⟩), (26, ⟨orows (mkII (1 : Int) a0), []⟩), (4, ⟨[.lst (rows (if isRk a0 then LeaT a0 else []))], []⟩)]) (env' := []) rfl rfl trivial) ?_
          refine aw_region ?_
          refine run_s (ss_assign rfl) rfl ?_
          refine run_nil ?_
          refine aw_ret ?_
          exact retAF_mk (retv1 rfl (rv_tmp rfl)) rfl rfl ⟨_, (cle_refl _), _, h, rfl⟩
         ·replace h := h.2 (of_decide_eq_false q36)
          refine aw_skip ?_
          refine aw_seq ?_
          refine aw_seq ?_
          refine aw_region ?_
          refine run_s (ss_move rfl) rfl ?_
          refine run_s (ss_move rfl) rfl ?_
          refine run_s (ss_neq rfl rfl) rfl ?_
          refine run_nil ?_
          refine aw_cond rfl (fun q37 => ?_) (fun q37 => ?_)
          ·replace h := h.1 (of_decide_eq_false (bnot_t q37))
           refine aw_seq ?_
           refine aw_gh (gh_to (n := 96) (σ' := [(43, ⟨orows a0, []⟩), (7, ⟨[.hole], [(0, .ref 29)]⟩), (29, ⟨orows (mkII (1 : Int) (if isRk a0 then LeaT a0 else [])), []⟩), (6, ⟨[.hole], [(0, .ref 26)]⟩), (26, ⟨orows (mkII (1 : Int) a0), []⟩), (4, ⟨[.lst (rows (if isRk a0 then LeaT a0 else []))], []⟩)]) (env' := []) rfl rfl trivial) ?_
           refine aw_region ?_
           refine run_s (ss_assign rfl) rfl ?_
           refine run_nil ?_
           refine aw_ret ?_
           exact retAF_mk (retv1 rfl (rv_tmp rfl)) rfl rfl ⟨_, (cle_refl _), _, h, rfl⟩
          ·replace h := h.2 (of_decide_eq_true (bnot_f q37))
           refine aw_skip ?_
           refine aw_seq ?_
           refine aw_region ?_
           refine run_s (ss_load_struct rfl (Nat.le_of_ble_eq_true rfl)) rfl ?_
           obtain ⟨q38, h⟩ := h
           refine run_w (ws_call (xs := [.tmp 74]) (ids := [75]) rfl rfl rfl rfl (c_laws_toRack a0 q38) rfl ?_ )
           rintro _ rfl
           refine ⟨rfl, ?_⟩
           obtain ⟨q40, h⟩ := h
           refine run_w (ws_callR (xs := [.tmp 75]) (cs := [.agg [.own (orows a0)]]) (ids := [76]) rfl (.inr ⟨rfl, rfl⟩) rfl rfl (fz_cons (fz_agg (fz_cons (fz_own (fz_map (fun _ => (fz_own (fz_map (fun _ => rfl) _))) _)) fz_nil)) fz_nil) (c_impl_LeastRack a0 q40) rfl ?_ )
           rintro _ rfl
           refine ⟨(slf_tup (slf_cons (slf_agg (slf_cons (slf_own (slfL_map (f := (fun r => C.own (ints r))) (fun _ => (slf_own (slfL_map (f := ci) (fun _ => rfl) _))) _)) slf_nil)) (slf_cons rfl slf_nil))), rfl, ?_⟩
           refine run_s (ss_move rfl) rfl ?_
           refine run_s (ss_extract rfl rfl) rfl ?_
           refine run_s (ss_extract rfl rfl) rfl ?_
           refine run_w (ws_alloc (id := 12) rfl (Nat.le_of_ble_eq_true rfl) ⟨rfl, ?_⟩)
           refine run_w (ws_storeS rfl rfl (Nat.le_of_ble_eq_true rfl) rfl rfl rfl ⟨rfl, ?_⟩)
           refine run_s (ss_assign rfl) rfl ?_
           refine run_nil ?_
           refine aw_seq ?_
           refine aw_seq ?_
           refine aw_gh (gh_to (n := 96) (σ' := [(12, ⟨[.hole], [(0, .ref 76)]⟩), (76, ⟨orows (if isRk a0 then LeaT a0 else []), []⟩), (75, ⟨orows a0, []⟩), (43, ⟨orows a0, []⟩), (7, ⟨[.hole], [(0, .ref 29)]⟩), (29, ⟨orows (mkII (1 : Int) (if isRk a0 then LeaT a0 else [])), []⟩), (6, ⟨[.hole], [(0, .ref 26)]⟩), (26, ⟨orows (mkII (1 : Int) a0), []⟩), (4, ⟨[.lst (rows (if isRk a0 then LeaT a0 else []))], []⟩)]) (env' := [(4, .cell 4 0), (5, .c (ci (if isRk a0 then LeaE a0 else 1))), (7, .cell 7 0), (10, .c (ci ((1 : Int) + tot (if isRk a0 then LeaT a0 else [])))), (12, .cell 12 0), (13, .c (ci (if isRk a0 then LeaE a0 else 1)))]) rfl rfl ⟨rfl, rfl, rfl, rfl, rfl, rfl, trivial⟩) ?_
           refine aw_region ?_
           refine run_s (ss_loadS rfl rfl rfl rfl) rfl ?_
           refine run_s (ss_loadS rfl rfl rfl rfl) rfl ?_
           obtain ⟨q42, h⟩ := h
           refine run_w (ws_callR (xs := [.tmp 79, .tmp 80]) (cs := [.agg [.own (orows (if isRk a0 then LeaT a0 else []))], .agg [.lst (rows (if isRk a0 then LeaT a0 else []))]]) (ids := []) rfl (.inr ⟨rfl, rfl⟩) rfl rfl (fz_cons (fz_agg (fz_cons (fz_own (fz_map (fun _ => (fz_own (fz_map (fun _ => rfl) _))) _)) fz_nil)) (fz_cons rfl fz_nil)) (c_laws_eqRack (if isRk a0 then LeaT a0 else []) (if isRk a0 then LeaT a0 else []) q42) rfl ?_ )
           rintro _ rfl
           refine ⟨rfl, rfl, ?_⟩
           refine run_s (ss_not rfl) rfl ?_
           refine run_s (ss_move rfl) rfl ?_
           refine run_split (s := 83) rfl (fun q44 => ?_) (fun q44 => ?_)
           ·replace h := h.1 (of_decide_eq_false (bnot_t q44))
            refine run_gf rfl rfl q44 rfl ?_
            refine run_gf rfl rfl q44 rfl ?_
            refine run_gf rfl rfl q44 rfl ?_
            refine run_s (ss_pickT rfl q44 rfl) rfl ?_
            refine run_nil ?_
            refine aw_cond rfl (fun q45 => ?_) (fun q45 => ?_)
            ·skip
             refine aw_seq ?_
             refine aw_gh (gh_to (n := 96) (σ' := [(12, ⟨[.hole], [(0, .ref 76)]⟩), (76, ⟨orows (if isRk a0 then LeaT a0 else []), []⟩), (75, ⟨orows a0, []⟩), (43, ⟨orows a0, []⟩), (7, ⟨[.hole], [(0, .ref 29)]⟩), (29, ⟨orows (mkII (1 : Int) (if isRk a0 then LeaT a0 else [])), []⟩), (6, ⟨[.hole], [(0, .ref 26)]⟩), (26, ⟨orows (mkII (1 : Int) a0), []⟩), (4, ⟨[.lst (rows (if isRk a0 then LeaT a0 else []))], []⟩)]) (env' := []) rfl rfl trivial) ?_
             refine aw_region ?_
             refine run_s (ss_assign rfl) rfl ?_
             refine run_nil ?_
             refine aw_ret ?_
             exact retAF_mk (retv1 rfl (rv_tmp rfl)) rfl rfl ⟨_, (cle_refl _), _, h, rfl⟩
            ·cases q45
           ·replace h := h.2 (of_decide_eq_true (bnot_f q44))
            refine run_gt rfl rfl q44 ?_
            refine run_s (ss_move rfl) rfl ?_
            refine run_gt rfl rfl q44 ?_
            refine run_s (ss_move rfl) rfl ?_
            refine run_gt rfl rfl q44 ?_
            refine run_s (ss_neq rfl rfl) rfl ?_
            refine run_s (ss_pickF rfl q44 rfl) rfl ?_
            refine run_nil ?_
            refine aw_cond rfl (fun q46 => ?_) (fun q46 => ?_)
            ·replace h := h.1 (of_decide_eq_false (bnot_t q46))
             refine aw_seq ?_
             refine aw_gh (gh_to (n := 96) (σ' := [(12, ⟨[.hole], [(0, .ref 76)]⟩), (76, ⟨orows (if isRk a0 then LeaT a0 else []), []⟩), (75, ⟨orows a0, []⟩), (43, ⟨orows a0, []⟩), (7, ⟨[.hole], [(0, .ref 29)]⟩), (29, ⟨orows (mkII (1 : Int) (if isRk a0 then LeaT a0 else [])), []⟩), (6, ⟨[.hole], [(0, .ref 26)]⟩), (26, ⟨orows (mkII (1 : Int) a0), []⟩), (4, ⟨[.lst (rows (if isRk a0 then LeaT a0 else []))], []⟩)]) (env' := []) rfl rfl trivial) ?_
             refine aw_region ?_
             refine run_s (ss_assign rfl) rfl ?_
             refine run_nil ?_
             refine aw_ret ?_
             exact retAF_mk (retv1 rfl (rv_tmp rfl)) rfl rfl ⟨_, (cle_refl _), _, h, rfl⟩
            ·replace h := h.2 (of_decide_eq_true (bnot_f q46))
             refine aw_skip ?_
             refine aw_seq ?_
             refine aw_gh (gh_to (n := 96) (σ' := [(12, ⟨[.hole], [(0, .ref 76)]⟩), (76, ⟨orows (if isRk a0 then LeaT a0 else []), []⟩), (75, ⟨orows a0, []⟩), (43, ⟨orows a0, []⟩), (7, ⟨[.hole], [(0, .ref 29)]⟩), (29, ⟨orows (mkII (1 : Int) (if isRk a0 then LeaT a0 else [])), []⟩), (6, ⟨[.hole], [(0, .ref 26)]⟩), (26, ⟨orows (mkII (1 : Int) a0), []⟩), (4, ⟨[.lst (rows (if isRk a0 then LeaT a0 else []))], []⟩)]) (env' := [(7, .cell 7 0), (10, .c (ci ((1 : Int) + tot (if isRk a0 then LeaT a0 else []))))]) rfl rfl ⟨rfl, rfl, trivial⟩) ?_
             refine aw_region ?_
             refine run_s (ss_assign rfl) rfl ?_
             refine run_nil ?_
             refine aw_seq ?_
             refine aw_region ?_
             refine run_s (ss_loadS rfl rfl rfl rfl) rfl ?_
             refine run_s (ss_move rfl) rfl ?_
             obtain ⟨q47, h⟩ := h
             refine run_w (ws_callR (xs := [.tmp 88, .tmp 89]) (cs := [.agg [.own (orows (mkII (1 : Int) (if isRk a0 then LeaT a0 else [])))], ci 1]) (ids := []) rfl (.inr ⟨rfl, rfl⟩) rfl rfl (fz_cons (fz_agg (fz_cons (fz_own (fz_map (fun _ => (fz_own (fz_map (fun _ => rfl) _))) _)) fz_nil)) (fz_cons rfl fz_nil)) (c_laws_heldRack (mkII (1 : Int) (if isRk a0 then LeaT a0 else [])) 1 q47) rfl ?_ )
             rintro _ rfl
             refine ⟨rfl, rfl, ?_⟩
             refine run_s (ss_assign rfl) rfl ?_
             refine run_nil ?_
             refine aw_seq ?_
             refine aw_seq ?_
             refine aw_gh (gh_to (n := 96) (σ' := [(12, ⟨[.hole], [(0, .ref 76)]⟩), (76, ⟨orows (if isRk a0 then LeaT a0 else []), []⟩), (75, ⟨orows a0, []⟩), (43, ⟨orows a0, []⟩), (7, ⟨[.hole], [(0, .ref 29)]⟩), (29, ⟨orows (mkII (1 : Int) (if isRk a0 then LeaT a0 else [])), []⟩), (6, ⟨[.hole], [(0, .ref 26)]⟩), (26, ⟨orows (mkII (1 : Int) a0), []⟩), (4, ⟨[.lst (rows (if isRk a0 then LeaT a0 else []))], []⟩)]) (env' := [(10, .c (ci ((1 : Int) + tot (if isRk a0 then LeaT a0 else [])))), (11, .c (ci (heII (1 : Int) (mkII (1 : Int) (if isRk a0 then LeaT a0 else [])))))]) rfl rfl ⟨rfl, rfl, trivial⟩) ?_
             refine aw_region ?_
             refine run_s (ss_move rfl) rfl ?_
             refine run_s (ss_lss rfl rfl) rfl ?_
             refine run_nil ?_
             refine aw_cond rfl (fun q49 => ?_) (fun q49 => ?_)
             ·replace h := h.1 (of_decide_eq_true q49)
              refine aw_seq ?_
              refine aw_gh (gh_to (n := 96) (σ' := [(12, ⟨[.hole], [(0, .ref 76)]⟩), (76, ⟨orows (if isRk a0 then LeaT a0 else []), []⟩), (75, ⟨orows a0, []⟩), (43, ⟨orows a0, []⟩), (7, ⟨[.hole], [(0, .ref 29)]⟩), (29, ⟨orows (mkII (1 : Int) (if isRk a0 then LeaT a0 else [])), []⟩), (6, ⟨[.hole], [(0, .ref 26)]⟩), (26, ⟨orows (mkII (1 : Int) a0), []⟩), (4, ⟨[.lst (rows (if isRk a0 then LeaT a0 else []))], []⟩)]) (env' := []) rfl rfl trivial) ?_
              refine aw_region ?_
              refine run_s (ss_assign rfl) rfl ?_
              refine run_nil ?_
              refine aw_ret ?_
              exact retAF_mk (retv1 rfl (rv_tmp rfl)) rfl rfl ⟨_, (cle_refl _), _, h, rfl⟩
             ·replace h := h.2 (of_decide_eq_false q49)
              refine aw_skip ?_
              refine aw_seq ?_
              refine aw_seq ?_
              refine aw_region ?_
              refine run_s (ss_move rfl) rfl ?_
              refine run_s (ss_move rfl) rfl ?_
              refine run_s (ss_neq rfl rfl) rfl ?_
              refine run_nil ?_
              refine aw_cond rfl (fun q50 => ?_) (fun q50 => ?_)
              ·replace h := h.1 (of_decide_eq_false (bnot_t q50))
               refine aw_seq ?_
               refine aw_gh (gh_to (n := 96) (σ' := [(12, ⟨[.hole], [(0, .ref 76)]⟩), (76, ⟨orows (if isRk a0 then LeaT a0 else []), []⟩), (75, ⟨orows a0, []⟩), (43, ⟨orows a0, []⟩), (7, ⟨[.hole], [(0, .ref 29)]⟩), (29, ⟨orows (mkII (1 : Int) (if isRk a0 then LeaT a0 else [])), []⟩), (6, ⟨[.hole], [(0, .ref 26)]⟩), (26, ⟨orows (mkII (1 : Int) a0), []⟩), (4, ⟨[.lst (rows (if isRk a0 then LeaT a0 else []))], []⟩)]) (env' := []) rfl rfl trivial) ?_
               refine aw_region ?_
               refine run_s (ss_assign rfl) rfl ?_
               refine run_nil ?_
               refine aw_ret ?_
               exact retAF_mk (retv1 rfl (rv_tmp rfl)) rfl rfl ⟨_, (cle_refl _), _, h, rfl⟩
              ·replace h := h.2 (of_decide_eq_true (bnot_f q50))
               refine aw_skip ?_
               refine aw_seq ?_
               refine aw_gh (gh_to (n := 96) (σ' := [(12, ⟨[.hole], [(0, .ref 76)]⟩), (76, ⟨orows (if isRk a0 then LeaT a0 else []), []⟩), (75, ⟨orows a0, []⟩), (43, ⟨orows a0, []⟩), (7, ⟨[.hole], [(0, .ref 29)]⟩), (29, ⟨orows (mkII (1 : Int) (if isRk a0 then LeaT a0 else [])), []⟩), (6, ⟨[.hole], [(0, .ref 26)]⟩), (26, ⟨orows (mkII (1 : Int) a0), []⟩), (4, ⟨[.lst (rows (if isRk a0 then LeaT a0 else []))], []⟩)]) (env' := []) rfl rfl trivial) ?_
               refine aw_region ?_
               refine run_s (ss_assign rfl) rfl ?_
               refine run_nil ?_
               refine aw_ret ?_
               exact retAF_mk (retv1 rfl (rv_tmp rfl)) rfl rfl ⟨_, (cle_refl _), _, h, rfl⟩

theorem c_laws_FnExactLeastRack (a0 : List (List Int)) (hp : huge2 a0) : AF Try.prog 6 [.agg [.lst (rows a0)]] (fun R_ => R_ = cb true) :=
  (w_laws_FnExactLeastRack a0 (fun y0 => y0 = true) (p_laws_FnExactLeastRack a0 hp)).mono (by rintro r ⟨_, rfl, rfl⟩; rfl)

end Go.Proofs.Ytpcnbdjommcaoaa

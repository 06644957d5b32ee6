/- Contracts of functions that the law FnExactCountRackMaps reaches: conditions, plain proofs, walks; no condition. -/
import Derived.Test.YtgekmhiemakaaaaKECountRackMapsf
namespace Go.Proofs.Ytgekmhiemakaaaa

def wp_laws_FnExactCountRackMaps (a0 : List (List Int)) (a1 : List (List Int)) (Q : Bool → Prop) : Prop :=
 (InS (1048576 : Int) ∧ huge2 a0) ∧
 ((szII a0 (1048576 : Int) < 0 →
  Q true) ∧
 (¬ (szII a0 (1048576 : Int) < 0) →
  (InS (szII a0 (1048576 : Int)) ∧ huge2 a1) ∧
  ((szII a1 (szII a0 (1048576 : Int)) < 0 →
   Q true) ∧
  (¬ (szII a1 (szII a0 (1048576 : Int)) < 0) →
   (small2 a0) ∧
   (small2 a1) ∧
   (small2 a0 ∧ small2 a1) ∧
   (small2 a0) ∧
   (small2 a1) ∧
   (small2 a0 ∧ small2 a1) ∧
   ((¬ (CrmV a0 a1 = CrmV a0 a1) →
    Q false) ∧
   (CrmV a0 a1 = CrmV a0 a1 →
    ((¬ (CrmE a0 a1 = CrmE a0 a1) →
     Q false) ∧
    (CrmE a0 a1 = CrmE a0 a1 →
     (small2 a0) ∧
     (small2 a0 ∧ small2 a0) ∧
     ((¬ (a0 = a0) →
      Q false) ∧
     (a0 = a0 →
      (small2 a1) ∧
      (small2 a1 ∧ small2 a1) ∧
      ((¬ (a1 = a1) →
       Q false) ∧
      (a1 = a1 →
       Q true))))))))))))


@[reducible] def fine2 (t : List (List Int)) : Prop := small2 t ∧ tot t ≤ 1000000000
theorem fine2_nil : fine2 [] := ⟨⟨by simp, by simp⟩, by simp [tot]⟩
theorem mem_ranf {α : Type} {n : Int} {f : Int → α} {r : α} (h : r ∈ ran n f) : ∃ i, (0 ≤ i ∧ i < n) ∧ r = f i := by
  unfold ran at h
  obtain ⟨k, hk, rfl⟩ := List.mem_map.1 h
  have := List.mem_range.1 hk
  exact ⟨k, ⟨by omega, by omega⟩, rfl⟩
theorem fine2_tab {n : Int} {f : Int → Int → Int} (h : n ≤ 1000) : fine2 (tab n f) := by
  refine ⟨⟨by simp [tab]; omega, fun r hr => ?_⟩, ?_⟩
  · obtain ⟨i, _, rfl⟩ := mem_ranf hr
    simp; omega
  · rw [tot_tab]
    have : n.toNat ≤ 1000 := by omega
    have : n.toNat * n.toNat ≤ 1000 * 1000 := Nat.mul_le_mul this this
    omega
theorem fine2_ite {c : Prop} [Decidable c] {t : List (List Int)} (h : c → fine2 t) : fine2 (if c then t else []) := by
  split
  · exact h (by assumption)
  · exact fine2_nil
theorem small_ite {c : Prop} [Decidable c] {t : List Int} (h : c → small t) : small (if c then t else []) := by
  split
  · exact h (by assumption)
  · simp
theorem fine_mk {T : List (List Int)} (h : fine2 T) : okKT 1 T ∧ small2 (mkII 1 T) ∧ okKT 1 (mkII 1 T) ∧ heII 1 (mkII 1 T) = 1 + tot T ∧ 0 ≤ tot T := by
  have := tot_nonneg T
  have h2 := h.2
  exact ⟨⟨by omega, by omega⟩, small2_mkII h.1, ⟨by omega, by rw [tot_mkII]; omega⟩, heII_mkII 1 T, this⟩
theorem fine_mk1 {l : List Int} (h : small l) : small (mkI 1 l) ∧ heI 1 (mkI 1 l) = 1 + (l.length : Int) := ⟨by simpa using h, heI_mkI 1 l⟩
/-- What is not too large. -/
theorem sz_fine {a : List (List Int)} {left : Int} (hl : left ≤ 1000000000) (h : ¬ szII a left < 0) : fine2 a := by
  unfold szII at h
  split at h
  · omega
  · have tn := tot_nonneg a
    refine ⟨⟨by show (a.length : Int) ≤ 1000000000; omega, fun r hr => ?_⟩, by omega⟩
    obtain ⟨i, hi, rfl⟩ := mem_el hr
    have := tt_row hi
    have := (tt_le a i).1
    show ((el a i).length : Int) ≤ 1000000000; omega
theorem sz_in {a : List (List Int)} {left : Int} (hl : left ≤ 1000000000) (h : ¬ szII a left < 0) : InS (szII a left) := by
  refine ⟨by omega, ?_⟩
  unfold szII
  have := tot_nonneg a
  split <;> omega
theorem InS20 : InS 1048576 := ⟨by omega, by omega⟩
theorem fine_mkk {T : List (List Int)} {k : Int} (h : fine2 T) (hk : 0 ≤ k ∧ k ≤ 100000000000) : okKT k T ∧ ¬ (k + tot T < 0) := by
  have := tot_nonneg T
  have h2 := h.2
  exact ⟨⟨by omega, by omega⟩, by omega⟩
theorem fine_TrivT (n : Int) : fine2 (TrivT n) := fine2_ite fun h => fine2_tab (by omega)
theorem fine_DiheT (n : Int) : fine2 (DiheT n) := fine2_ite fun h => fine2_tab (by omega)
theorem fine_AlexT (n a : Int) : fine2 (AlexT n a) := fine2_ite fun h => fine2_tab (by
  unfold AlexE at h
  split at h
  · cases h
  · rename_i h2; have := Classical.not_not.1 h2; omega)
theorem fine_PermT (p : List Int) : fine2 (PermT p) := fine2_ite fun h => fine2_tab (by have := permB_len h; omega)
theorem small_SquaT (c : List (List Int)) : small (SquaT c) := small_ite fun h => by have := isTab_len h; simp [diag]; omega
theorem first3_len (n : Int) (f : Int → Int → Int → Bool) : ((first3 n f).length : Int) ≤ 3 := by
  unfold first3
  split
  · rename_i l h
    obtain ⟨x, hx, h⟩ := List.exists_of_findSome?_eq_some h
    obtain ⟨y, hy, h⟩ := List.exists_of_findSome?_eq_some h
    obtain ⟨z, hz, h⟩ := List.exists_of_findSome?_eq_some h
    split at h
    · cases h; simp
    · cases h
  · simp
theorem small_CycfT (c : List (List Int)) : small (CycfT c) := small_ite fun h => by have := first3_len (c.length : Int) (cycB c); unfold cycF; show _ ≤ (1000000000 : Int); omega

theorem tot_le_mul : ∀ (t : List (List Int)) (m : Int), 0 ≤ m → (∀ r ∈ t, (r.length : Int) ≤ m) → tot t ≤ (t.length : Int) * m
  | [], m, _, _ => by simp [tot]
  | r :: t, m, hm, h => by
    have h1 := h r List.mem_cons_self
    have h2 := tot_le_mul t m hm fun q hq => h q (List.mem_cons_of_mem _ hq)
    simp only [tot, List.length_cons, Int.natCast_add, Int.add_mul]
    omega
theorem fine2_of {t : List (List Int)} (h : (t.length : Int) ≤ 1000) (h2 : ∀ r ∈ t, (r.length : Int) ≤ 1000) : fine2 t := by
  refine ⟨⟨by show (t.length : Int) ≤ 1000000000; omega, fun r hr => by have := h2 r hr; show (r.length : Int) ≤ 1000000000; omega⟩, ?_⟩
  have a := tot_le_mul t 1000 (by omega) h2
  have b : (t.length : Int) * 1000 ≤ 1000 * 1000 := by omega
  omega
theorem fine2_isTab {t : List (List Int)} (h : isTab t = true) : fine2 t := fine2_of (by have := isTab_len h; omega) fun r hr => by
  obtain ⟨i, hi, rfl⟩ := mem_el hr
  have a := (isTab_row h hi).1; have b := isTab_len h; omega
theorem small_RkfT (r : List (List Int)) : small (RkfT r) := small_ite fun h => by have := first3_len (r.length : Int) (rackB r); unfold rackF; show _ ≤ (1000000000 : Int); omega
theorem small_dg (c : List (List Int)) : small (KinT c) := small_ite fun h => small_diag (isRk_tab h)
theorem fine_AffT (n a b c : Int) : fine2 (AffT n a b c) := fine2_ite fun h => fine2_tab (by
  unfold AffE at h
  split at h
  · rename_i h2; simp only [inN, Bool.and_eq_true, decide_eq_true_eq] at h2; omega
  · cases h)
theorem fine_Dual (r : List (List Int)) : fine2 (DuaT r) := fine2_ite fun h => by
  have ht := isRk_tab h
  have hn := isTab_len ht
  refine fine2_of (by simp; omega) fun q hq => ?_
  obtain ⟨u, hu, rfl⟩ := List.mem_map.1 hq
  obtain ⟨i, hi, rfl⟩ := mem_el hu
  have := rk_len ht hi
  simp; omega
theorem fine_Quat (r : List (List Int)) : fine2 (QuaR r) := fine2_ite fun h => fine2_tab (by have := isTab_len (isRk_tab h); omega)
theorem fine_Pro (a b : List (List Int)) : fine2 (ProT a b) := fine2_ite fun h => fine2_tab (by
  unfold ProE at h
  split at h
  · rename_i h2
    simp only [Bool.and_eq_true] at h2
    have x := isTab_len (isRk_tab h2.1)
    have y := isTab_len (isRk_tab h2.2)
    have := mulB (a := (a.length : Int)) (i := (b.length : Int)) (A := 12) (B := 12) ⟨by omega, by omega, by omega, by omega⟩
    omega
  · cases h)
theorem fine_Uni (a b : List (List Int)) : fine2 (UniT a b) := fine2_ite fun h => fine2_tab (by
  unfold UniE at h
  split at h
  · rename_i h2
    simp only [Bool.and_eq_true] at h2
    have x := isTab_len (isRk_tab h2.1)
    have y := isTab_len (isRk_tab h2.2)
    omega
  · cases h)
theorem small_Ror (r : List (List Int)) : small (RorT r) := small_ite fun h => by
  have := isTab_len (isRk_tab h)
  have := orbI_len (n := (r.length : Int)) (by omega) (isRk_permsN h)
  show _ ≤ (1000000000 : Int); omega
theorem small_Sub (r : List (List Int)) : small (SubT r) := small_ite fun h => by
  have := isTab_len (isRk_tab h)
  have p2 := pow2_le (k := r.length) (by omega)
  have := subsI_len r ((2 : Int) ^ r.length)
  show _ ≤ (1000000000 : Int); omega

theorem p_laws_FnExactCountRackMaps (a0 : List (List Int)) (a1 : List (List Int)) (hp : huge2 a0 ∧ huge2 a1) : wp_laws_FnExactCountRackMaps a0 a1 (fun y0 => y0 = true) := by
  unfold wp_laws_FnExactCountRackMaps
  obtain ⟨ha0, ha1⟩ := hp
  by_cases za0 : szII a0 1048576 < 0
  · simp [eq_true InS20, eq_true ha0, eq_true ha1, za0]
  have fa0 := sz_fine (by omega) za0
  have ia0 := sz_in (by omega) za0
  by_cases za1 : szII a1 (szII a0 1048576) < 0
  · simp [eq_true InS20, eq_true ha0, eq_true ha1, za0, eq_true fa0.1, eq_true ia0, za1]
  have fa1 := sz_fine (by omega) za1
  have ia1 := sz_in (by omega) za1
  have j0 : 0 ≤ (1 : Int) ∧ (1 : Int) ≤ 100000000000 := ⟨by omega, by omega⟩
  have ma0 := fine_mkk fa0 j0
  have ta0 := tot_nonneg a0
  have j1 : 0 ≤ 1 + tot a0 ∧ 1 + tot a0 ≤ 100000000000 := ⟨by omega, by have := fa0.2; omega⟩
  have ma1 := fine_mkk fa1 j1
  have ta1 := tot_nonneg a1
  have j2 : 0 ≤ 1 + tot a0 + tot a1 ∧ 1 + tot a0 + tot a1 ≤ 100000000000 := ⟨by omega, by have := fa1.2; omega⟩
  have k1 : okK 1 := ⟨by omega, by omega⟩
  simp [eq_true InS20, eq_true ha0, eq_true ha1, za0, eq_true fa0.1, eq_true ia0, za1, eq_true fa1.1, eq_true ia1, eq_true ma0.1, ma0.2, eq_true ma1.1, ma1.2, eq_true k1]
set_option maxRecDepth 100000 in
set_option maxHeartbeats 1000000 in
theorem w_laws_FnExactCountRackMaps (a0 : List (List Int)) (a1 : List (List Int)) (Q : Bool → Prop) (h : wp_laws_FnExactCountRackMaps a0 a1 Q) : AF Try.prog 10 [.agg [.lst (rows a0)], .agg [.lst (rows a1)]] (fun R_ => ∃ y0, Q y0 ∧ R_ = cb y0) := by
  refine AF.ofWQ (af_enter (n := 58) Try.func10 rfl (by rfl) rfl (Nat.le_of_ble_eq_true rfl) ?_)
  unfold wp_laws_FnExactCountRackMaps at h
  refine aw_seq ?_
  refine aw_gh (gh_to (n := 58) (σ' := []) (env' := [(0, .c (.agg [.lst (rows a0)])), (1, .c (.agg [.lst (rows a1)]))]) rfl rfl ⟨rfl, rfl, trivial⟩) ?_
  refine aw_region ?_
  refine run_w (ws_boxR rfl (.inl rfl) rfl ⟨rfl, ?_⟩)
  refine run_w (ws_boxR rfl (.inl rfl) rfl ⟨rfl, ?_⟩)
  refine run_s (ss_assign rfl) rfl ?_
  refine run_nil ?_
  refine aw_seq ?_
  refine aw_region ?_
  refine run_s (ss_assign rfl) rfl ?_
  refine run_nil ?_
  refine aw_seq ?_
  refine aw_region ?_
  refine run_s (ss_load_struct rfl (Nat.le_of_ble_eq_true rfl)) rfl ?_
  refine run_s (ss_move rfl) rfl ?_
  obtain ⟨q1, h⟩ := h
  refine run_w (ws_call (xs := [.tmp 12, .tmp 13]) (ids := []) rfl rfl rfl rfl (c_laws_szRack a0 1048576 q1) rfl ?_ )
  rintro _ rfl
  refine ⟨rfl, ?_⟩
  refine run_s (ss_assign rfl) rfl ?_
  refine run_nil ?_
  refine aw_seq ?_
  refine aw_seq ?_
  refine aw_region ?_
  refine run_s (ss_move rfl) rfl ?_
  refine run_s (ss_lss rfl rfl) rfl ?_
  refine run_nil ?_
  refine aw_cond rfl (fun q3 => ?_) (fun q3 => ?_)
  · replace h := h.1 (of_decide_eq_true q3)
    refine aw_seq ?_
    refine aw_gh (gh_to (n := 58) (σ' := []) (env' := [(4, .c (cb false))]) rfl rfl ⟨rfl, trivial⟩) ?_
    refine aw_region ?_
    refine run_s (ss_assign rfl) rfl ?_
    refine run_nil ?_
    refine aw_ret ?_
    exact retAF_mk (retv1 rfl (rv_tmp rfl)) rfl rfl ⟨_, (cle_refl _), _, h, rfl⟩
  · replace h := h.2 (of_decide_eq_false q3)
    refine aw_skip ?_
    refine aw_seq ?_
    refine aw_region ?_
    refine run_s (ss_load_struct rfl (Nat.le_of_ble_eq_true rfl)) rfl ?_
    refine run_s (ss_move rfl) rfl ?_
    obtain ⟨q4, h⟩ := h
    refine run_w (ws_call (xs := [.tmp 17, .tmp 18]) (ids := []) rfl rfl rfl rfl (c_laws_szRack a1 (szII a0 (1048576 : Int)) q4) rfl ?_ )
    rintro _ rfl
    refine ⟨rfl, ?_⟩
    refine run_s (ss_assign rfl) rfl ?_
    refine run_nil ?_
    refine aw_seq ?_
    refine aw_seq ?_
    refine aw_gh (gh_to (n := 58) (σ' := []) (env' := [(2, .c (.ptr [.lst (rows a0)])), (3, .c (.ptr [.lst (rows a1)])), (5, .c (ci (szII a1 (szII a0 (1048576 : Int)))))]) rfl rfl ⟨rfl, rfl, rfl, trivial⟩) ?_
    refine aw_region ?_
    refine run_s (ss_move rfl) rfl ?_
    refine run_s (ss_lss rfl rfl) rfl ?_
    refine run_nil ?_
    refine aw_cond rfl (fun q6 => ?_) (fun q6 => ?_)
    · replace h := h.1 (of_decide_eq_true q6)
      refine aw_seq ?_
      refine aw_gh (gh_to (n := 58) (σ' := []) (env' := []) rfl rfl trivial) ?_
      refine aw_region ?_
      refine run_s (ss_assign rfl) rfl ?_
      refine run_nil ?_
      refine aw_ret ?_
      exact retAF_mk (retv1 rfl (rv_tmp rfl)) rfl rfl ⟨_, (cle_refl _), _, h, rfl⟩
    · replace h := h.2 (of_decide_eq_false q6)
      refine aw_skip ?_
      refine aw_seq ?_
      refine aw_gh (gh_to (n := 58) (σ' := []) (env' := [(2, .c (.ptr [.lst (rows a0)])), (3, .c (.ptr [.lst (rows a1)]))]) rfl rfl ⟨rfl, rfl, trivial⟩) ?_
      refine aw_regionD (kd := kdl [1, 2, 1, 2, 2, 0, 0, 0, 0, 0]) (ord := [0, 2, 1, 3, 4, 5, 6, 7, 8, 9]) [] mixed (by kernel_rfl) ?_
      refine rd_l rfl rfl trivial (ss_load_struct rfl (Nat.le_of_ble_eq_true rfl)) rfl ?_
      refine rd_l rfl rfl trivial (ss_load_struct rfl (Nat.le_of_ble_eq_true rfl)) rfl ?_
      obtain ⟨q7, h⟩ := h
      refine rd_w rfl rfl trivial rfl rfl (ws_call (xs := [.tmp 23]) (ids := [24]) rfl rfl rfl rfl (c_laws_toRack a0 q7) rfl ?_ )
      rintro _ rfl
      refine ⟨rfl, ?_⟩
      obtain ⟨q9, h⟩ := h
      refine rd_w rfl rfl trivial rfl rfl (ws_call (xs := [.tmp 25]) (ids := [26]) rfl rfl rfl rfl (c_laws_toRack a1 q9) rfl ?_ )
      rintro _ rfl
      refine ⟨rfl, ?_⟩
      obtain ⟨q11, h⟩ := h
      refine rd_w rfl rfl trivial rfl rfl (ws_callR (xs := [.tmp 24, .tmp 26]) (cs := [.agg [.own (orows a0)], .agg [.own (orows a1)]]) (ids := []) rfl (.inr ⟨rfl, rfl⟩) rfl rfl (fz_cons (fz_agg (fz_cons (fz_own (fz_map (fun _ => (fz_own (fz_map (fun _ => rfl) _))) _)) fz_nil)) (fz_cons (fz_agg (fz_cons (fz_own (fz_map (fun _ => (fz_own (fz_map (fun _ => rfl) _))) _)) fz_nil)) fz_nil)) (c_spec_CountRackMaps a0 a1 q11) rfl ?_ )
      rintro _ rfl
      refine ⟨(slf_tup (slf_cons rfl (slf_cons rfl slf_nil))), rfl, ?_⟩
      refine rd_s rfl rfl trivial (ss_move rfl) rfl ?_
      refine rd_s rfl rfl trivial (ss_extract rfl rfl) rfl ?_
      refine rd_s rfl rfl trivial (ss_extract rfl rfl) rfl ?_
      refine rd_s rfl rfl trivial (ss_assign rfl) rfl ?_
      refine rd_s rfl rfl trivial (ss_assign rfl) rfl ?_
      refine rd_nil ?_
      refine aw_seq ?_
      refine aw_gh (gh_to (n := 58) (σ' := [(26, ⟨orows a1, []⟩), (24, ⟨orows a0, []⟩)]) (env' := [(2, .c (.ptr [.lst (rows a0)])), (3, .c (.ptr [.lst (rows a1)])), (6, .c (ci (CrmV a0 a1))), (7, .c (ci (CrmE a0 a1)))]) rfl rfl ⟨rfl, rfl, rfl, rfl, trivial⟩) ?_
      refine aw_region ?_
      refine run_s (ss_load_struct rfl (Nat.le_of_ble_eq_true rfl)) rfl ?_
      obtain ⟨q13, h⟩ := h
      refine run_w (ws_call (xs := [.tmp 30]) (ids := [31]) rfl rfl rfl rfl (c_laws_toRack a0 q13) rfl ?_ )
      rintro _ rfl
      refine ⟨rfl, ?_⟩
      refine run_w (ws_alloc (id := 8) rfl (Nat.le_of_ble_eq_true rfl) ⟨rfl, ?_⟩)
      refine run_w (ws_storeS rfl rfl (Nat.le_of_ble_eq_true rfl) rfl rfl rfl ⟨rfl, ?_⟩)
      refine run_nil ?_
      refine aw_seq ?_
      refine aw_region ?_
      refine run_s (ss_load_struct rfl (Nat.le_of_ble_eq_true rfl)) rfl ?_
      obtain ⟨q15, h⟩ := h
      refine run_w (ws_call (xs := [.tmp 32]) (ids := [33]) rfl rfl rfl rfl (c_laws_toRack a1 q15) rfl ?_ )
      rintro _ rfl
      refine ⟨rfl, ?_⟩
      refine run_w (ws_alloc (id := 9) rfl (Nat.le_of_ble_eq_true rfl) ⟨rfl, ?_⟩)
      refine run_w (ws_storeS rfl rfl (Nat.le_of_ble_eq_true rfl) rfl rfl rfl ⟨rfl, ?_⟩)
      refine run_nil ?_
      refine aw_seq ?_
      refine aw_region ?_
      refine run_s (ss_loadS rfl rfl rfl rfl) rfl ?_
      refine run_s (ss_loadS rfl rfl rfl rfl) rfl ?_
      obtain ⟨q17, h⟩ := h
      refine run_w (ws_callR (xs := [.tmp 35, .tmp 36]) (cs := [.agg [.own (orows a0)], .agg [.own (orows a1)]]) (ids := []) rfl (.inr ⟨rfl, rfl⟩) rfl rfl (fz_cons (fz_agg (fz_cons (fz_own (fz_map (fun _ => (fz_own (fz_map (fun _ => rfl) _))) _)) fz_nil)) (fz_cons (fz_agg (fz_cons (fz_own (fz_map (fun _ => (fz_own (fz_map (fun _ => rfl) _))) _)) fz_nil)) fz_nil)) (c_impl_CountRackMaps a0 a1 q17) rfl ?_ )
      rintro _ rfl
      refine ⟨(slf_tup (slf_cons rfl (slf_cons rfl slf_nil))), rfl, ?_⟩
      refine run_s (ss_move rfl) rfl ?_
      refine run_s (ss_extract rfl rfl) rfl ?_
      refine run_s (ss_extract rfl rfl) rfl ?_
      refine run_s (ss_assign rfl) rfl ?_
      refine run_s (ss_assign rfl) rfl ?_
      refine run_nil ?_
      refine aw_seq ?_
      refine aw_seq ?_
      refine aw_gh (gh_to (n := 58) (σ' := [(9, ⟨[.hole], [(0, .ref 33)]⟩), (33, ⟨orows a1, []⟩), (8, ⟨[.hole], [(0, .ref 31)]⟩), (31, ⟨orows a0, []⟩), (26, ⟨orows a1, []⟩), (24, ⟨orows a0, []⟩)]) (env' := [(2, .c (.ptr [.lst (rows a0)])), (3, .c (.ptr [.lst (rows a1)])), (6, .c (ci (CrmV a0 a1))), (7, .c (ci (CrmE a0 a1))), (8, .cell 8 0), (9, .cell 9 0), (10, .c (ci (CrmV a0 a1))), (11, .c (ci (CrmE a0 a1)))]) rfl rfl ⟨rfl, rfl, rfl, rfl, rfl, rfl, rfl, rfl, trivial⟩) ?_
      refine aw_region ?_
      refine run_s (ss_move rfl) rfl ?_
      refine run_s (ss_move rfl) rfl ?_
      refine run_s (ss_neq rfl rfl) rfl ?_
      refine run_s (ss_move rfl) rfl ?_
      refine run_split (s := 43) rfl (fun q19 => ?_) (fun q19 => ?_)
      · replace h := h.1 (of_decide_eq_false (bnot_t q19))
        refine run_gf rfl rfl q19 rfl ?_
        refine run_gf rfl rfl q19 rfl ?_
        refine run_gf rfl rfl q19 rfl ?_
        refine run_s (ss_pickT rfl q19 rfl) rfl ?_
        refine run_nil ?_
        refine aw_cond rfl (fun q20 => ?_) (fun q20 => ?_)
        · skip
          refine aw_seq ?_
          refine aw_gh (gh_to (n := 58) (σ' := [(9, ⟨[.hole], [(0, .ref 33)]⟩), (33, ⟨orows a1, []⟩), (8, ⟨[.hole], [(0, .ref 31)]⟩), (31, ⟨orows a0, []⟩), (26, ⟨orows a1, []⟩), (24, ⟨orows a0, []⟩)]) (env' := []) rfl rfl trivial) ?_
          refine aw_region ?_
          refine run_s (ss_assign rfl) rfl ?_
          refine run_nil ?_
          refine aw_ret ?_
          exact retAF_mk (retv1 rfl (rv_tmp rfl)) rfl rfl ⟨_, (cle_refl _), _, h, rfl⟩
        · cases q20
      · replace h := h.2 (of_decide_eq_true (bnot_f q19))
        refine run_gt rfl rfl q19 ?_
        refine run_s (ss_move rfl) rfl ?_
        refine run_gt rfl rfl q19 ?_
        refine run_s (ss_move rfl) rfl ?_
        refine run_gt rfl rfl q19 ?_
        refine run_s (ss_neq rfl rfl) rfl ?_
        refine run_s (ss_pickF rfl q19 rfl) rfl ?_
        refine run_nil ?_
        refine aw_cond rfl (fun q21 => ?_) (fun q21 => ?_)
        · replace h := h.1 (of_decide_eq_false (bnot_t q21))
          refine aw_seq ?_
          refine aw_gh (gh_to (n := 58) (σ' := [(9, ⟨[.hole], [(0, .ref 33)]⟩), (33, ⟨orows a1, []⟩), (8, ⟨[.hole], [(0, .ref 31)]⟩), (31, ⟨orows a0, []⟩), (26, ⟨orows a1, []⟩), (24, ⟨orows a0, []⟩)]) (env' := []) rfl rfl trivial) ?_
          refine aw_region ?_
          refine run_s (ss_assign rfl) rfl ?_
          refine run_nil ?_
          refine aw_ret ?_
          exact retAF_mk (retv1 rfl (rv_tmp rfl)) rfl rfl ⟨_, (cle_refl _), _, h, rfl⟩
        · replace h := h.2 (of_decide_eq_true (bnot_f q21))
          refine aw_skip ?_
          refine aw_seq ?_
          refine aw_seq ?_
          refine aw_gh (gh_to (n := 58) (σ' := [(9, ⟨[.hole], [(0, .ref 33)]⟩), (33, ⟨orows a1, []⟩), (8, ⟨[.hole], [(0, .ref 31)]⟩), (31, ⟨orows a0, []⟩), (26, ⟨orows a1, []⟩), (24, ⟨orows a0, []⟩)]) (env' := [(2, .c (.ptr [.lst (rows a0)])), (3, .c (.ptr [.lst (rows a1)])), (8, .cell 8 0), (9, .cell 9 0)]) rfl rfl ⟨rfl, rfl, rfl, rfl, trivial⟩) ?_
          refine aw_regionD (kd := kdl [1, 1, 2, 2, 0]) (ord := [0, 1, 2, 3, 4]) [] mixed (by kernel_rfl) ?_
          refine rd_l rfl rfl trivial (ss_loadS rfl rfl rfl rfl) rfl ?_
          refine rd_l rfl rfl trivial (ss_load_struct rfl (Nat.le_of_ble_eq_true rfl)) rfl ?_
          obtain ⟨q22, h⟩ := h
          refine rd_w rfl rfl trivial rfl rfl (ws_call (xs := [.tmp 49]) (ids := [50]) rfl rfl rfl rfl (c_laws_toRack a0 q22) rfl ?_ )
          rintro _ rfl
          refine ⟨rfl, ?_⟩
          obtain ⟨q24, h⟩ := h
          refine rd_w rfl rfl trivial rfl rfl (ws_callR (xs := [.tmp 48, .tmp 50]) (cs := [.agg [.own (orows a0)], .agg [.own (orows a0)]]) (ids := []) rfl (.inr ⟨rfl, rfl⟩) rfl rfl (fz_cons (fz_agg (fz_cons (fz_own (fz_map (fun _ => (fz_own (fz_map (fun _ => rfl) _))) _)) fz_nil)) (fz_cons (fz_agg (fz_cons (fz_own (fz_map (fun _ => (fz_own (fz_map (fun _ => rfl) _))) _)) fz_nil)) fz_nil)) (c_laws_eqRack a0 a0 q24) rfl ?_ )
          rintro _ rfl
          refine ⟨rfl, rfl, ?_⟩
          refine rd_s rfl rfl trivial (ss_not rfl) rfl ?_
          refine rd_nil ?_
          refine aw_cond rfl (fun q26 => ?_) (fun q26 => ?_)
          · replace h := h.1 (of_decide_eq_false (bnot_t q26))
            refine aw_seq ?_
            refine aw_gh (gh_to (n := 58) (σ' := [(50, ⟨orows a0, []⟩), (9, ⟨[.hole], [(0, .ref 33)]⟩), (33, ⟨orows a1, []⟩), (8, ⟨[.hole], [(0, .ref 31)]⟩), (31, ⟨orows a0, []⟩), (26, ⟨orows a1, []⟩), (24, ⟨orows a0, []⟩)]) (env' := []) rfl rfl trivial) ?_
            refine aw_region ?_
            refine run_s (ss_assign rfl) rfl ?_
            refine run_nil ?_
            refine aw_ret ?_
            exact retAF_mk (retv1 rfl (rv_tmp rfl)) rfl rfl ⟨_, (cle_refl _), _, h, rfl⟩
          · replace h := h.2 (of_decide_eq_true (bnot_f q26))
            refine aw_skip ?_
            refine aw_seq ?_
            refine aw_seq ?_
            refine aw_gh (gh_to (n := 58) (σ' := [(50, ⟨orows a0, []⟩), (9, ⟨[.hole], [(0, .ref 33)]⟩), (33, ⟨orows a1, []⟩), (8, ⟨[.hole], [(0, .ref 31)]⟩), (31, ⟨orows a0, []⟩), (26, ⟨orows a1, []⟩), (24, ⟨orows a0, []⟩)]) (env' := [(3, .c (.ptr [.lst (rows a1)])), (9, .cell 9 0)]) rfl rfl ⟨rfl, rfl, trivial⟩) ?_
            refine aw_regionD (kd := kdl [1, 1, 2, 2, 0]) (ord := [0, 1, 2, 3, 4]) [] mixed (by kernel_rfl) ?_
            refine rd_l rfl rfl trivial (ss_loadS rfl rfl rfl rfl) rfl ?_
            refine rd_l rfl rfl trivial (ss_load_struct rfl (Nat.le_of_ble_eq_true rfl)) rfl ?_
            obtain ⟨q27, h⟩ := h
            refine rd_w rfl rfl trivial rfl rfl (ws_call (xs := [.tmp 54]) (ids := [55]) rfl rfl rfl rfl (c_laws_toRack a1 q27) rfl ?_ )
            rintro _ rfl
            refine ⟨rfl, ?_⟩
            obtain ⟨q29, h⟩ := h
            refine rd_w rfl rfl trivial rfl rfl (ws_callR (xs := [.tmp 53, .tmp 55]) (cs := [.agg [.own (orows a1)], .agg [.own (orows a1)]]) (ids := []) rfl (.inr ⟨rfl, rfl⟩) rfl rfl (fz_cons (fz_agg (fz_cons (fz_own (fz_map (fun _ => (fz_own (fz_map (fun _ => rfl) _))) _)) fz_nil)) (fz_cons (fz_agg (fz_cons (fz_own (fz_map (fun _ => (fz_own (fz_map (fun _ => rfl) _))) _)) fz_nil)) fz_nil)) (c_laws_eqRack a1 a1 q29) rfl ?_ )
            rintro _ rfl
            refine ⟨rfl, rfl, ?_⟩
            refine rd_s rfl rfl trivial (ss_not rfl) rfl ?_
            refine rd_nil ?_
            refine aw_cond rfl (fun q31 => ?_) (fun q31 => ?_)
            · replace h := h.1 (of_decide_eq_false (bnot_t q31))
              refine aw_seq ?_
              refine aw_gh (gh_to (n := 58) (σ' := [(55, ⟨orows a1, []⟩), (50, ⟨orows a0, []⟩), (9, ⟨[.hole], [(0, .ref 33)]⟩), (33, ⟨orows a1, []⟩), (8, ⟨[.hole], [(0, .ref 31)]⟩), (31, ⟨orows a0, []⟩), (26, ⟨orows a1, []⟩), (24, ⟨orows a0, []⟩)]) (env' := []) rfl rfl trivial) ?_
              refine aw_region ?_
              refine run_s (ss_assign rfl) rfl ?_
              refine run_nil ?_
              refine aw_ret ?_
              exact retAF_mk (retv1 rfl (rv_tmp rfl)) rfl rfl ⟨_, (cle_refl _), _, h, rfl⟩
            · replace h := h.2 (of_decide_eq_true (bnot_f q31))
              refine aw_skip ?_
              refine aw_seq ?_
              refine aw_gh (gh_to (n := 58) (σ' := [(55, ⟨orows a1, []⟩), (50, ⟨orows a0, []⟩), (9, ⟨[.hole], [(0, .ref 33)]⟩), (33, ⟨orows a1, []⟩), (8, ⟨[.hole], [(0, .ref 31)]⟩), (31, ⟨orows a0, []⟩), (26, ⟨orows a1, []⟩), (24, ⟨orows a0, []⟩)]) (env' := []) rfl rfl trivial) ?_
              refine aw_region ?_
              refine run_s (ss_assign rfl) rfl ?_
              refine run_nil ?_
              refine aw_ret ?_
              exact retAF_mk (retv1 rfl (rv_tmp rfl)) rfl rfl ⟨_, (cle_refl _), _, h, rfl⟩

theorem c_laws_FnExactCountRackMaps (a0 : List (List Int)) (a1 : List (List Int)) (hp : huge2 a0 ∧ huge2 a1) : AF Try.prog 10 [.agg [.lst (rows a0)], .agg [.lst (rows a1)]] (fun R_ => R_ = cb true) :=
  (w_laws_FnExactCountRackMaps a0 a1 (fun y0 => y0 = true) (p_laws_FnExactCountRackMaps a0 a1 hp)).mono (by rintro r ⟨_, rfl, rfl⟩; rfl)

end Go.Proofs.Ytgekmhiemakaaaa

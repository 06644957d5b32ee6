/- Contracts of functions that the law FnExactCycleSetOfSolution reaches: conditions, plain proofs, walks; no condition. -/
import Derived.Test.YtbcdcnddnldijaaKECycleSetOfSolutionj
namespace Go.Proofs.Ytbcdcnddnldijaa

def wp_laws_FnExactCycleSetOfSolution (a01 : List (List Int)) (a02 : List (List Int)) (Q : Bool → Prop) : Prop :=
 (InS (1048576 : Int) ∧ huge2 a01 ∧ huge2 a02) ∧
 ((szSo a01 a02 (1048576 : Int) < 0 →
  Q true) ∧
 (¬ (szSo a01 a02 (1048576 : Int) < 0) →
  (small2 a01 ∧ small2 a02) ∧
  (small2 a01 ∧ small2 a02) ∧
  (small2 a01 ∧ small2 a02) ∧
  (small2 a01 ∧ small2 a02) ∧
  (small2 (CsoT a01 a02) ∧ small2 (CsoT a01 a02)) ∧
  ((¬ ((CsoT a01 a02) = (CsoT a01 a02)) →
   Q false) ∧
  ((CsoT a01 a02) = (CsoT a01 a02) →
   ((¬ (CsoE a01 a02 = CsoE a01 a02) →
    Q false) ∧
   (CsoE a01 a02 = CsoE a01 a02 →
    (small2 a01 ∧ small2 a02) ∧
    ((small2 a01 ∧ small2 a02) ∧ small2 a01 ∧ small2 a02) ∧
    (((decide (a01 = a01) && decide (a02 = a02)) = false →
     Q false) ∧
    ((decide (a01 = a01) && decide (a02 = a02)) = true →
     (small2 a01 ∧ small2 a02 ∧ 0 ≤ (1 : Int) ∧ (1 : Int) + tot a01 + tot a02 ≤ 1000000000000) ∧
     (((1 : Int) + tot a01 + tot a02 < 0 →
      Q false) ∧
     (¬ ((1 : Int) + tot a01 + tot a02 < 0) →
      (small2 (CsoT a01 a02) ∧ small2 (CsoT a01 a02)) ∧
      ((¬ ((CsoT a01 a02) = (CsoT a01 a02)) →
       Q false) ∧
      ((CsoT a01 a02) = (CsoT a01 a02) →
       ((¬ (CsoE a01 a02 = CsoE a01 a02) →
        Q false) ∧
       (CsoE a01 a02 = CsoE a01 a02 →
        (small2 (CsoT a01 a02) ∧ okKT (1 : Int) (CsoT a01 a02)) ∧
        (small2 (mkII (1 : Int) (CsoT a01 a02)) ∧ okKT (1 : Int) (mkII (1 : Int) (CsoT a01 a02))) ∧
        ((heII (1 : Int) (mkII (1 : Int) (CsoT a01 a02)) < 0 →
         Q false) ∧
        (¬ (heII (1 : Int) (mkII (1 : Int) (CsoT a01 a02)) < 0) →
         ((¬ (heII (1 : Int) (mkII (1 : Int) (CsoT a01 a02)) = (1 : Int) + tot (CsoT a01 a02)) →
          Q false) ∧
         (heII (1 : Int) (mkII (1 : Int) (CsoT a01 a02)) = (1 : Int) + tot (CsoT a01 a02) →
          (small2 a01 ∧ small2 a02) ∧
          (small2 a01 ∧ small2 a02) ∧
          (small2 (CsoT a01 a02) ∧ small2 (CsoT a01 a02)) ∧
          ((¬ ((CsoT a01 a02) = (CsoT a01 a02)) →
           Q false) ∧
          ((CsoT a01 a02) = (CsoT a01 a02) →
           ((¬ (CsoE a01 a02 = CsoE a01 a02) →
            Q false) ∧
           (CsoE a01 a02 = CsoE a01 a02 →
            (small2 (mkII (1 : Int) (CsoT a01 a02)) ∧ okKT (1 : Int) (mkII (1 : Int) (CsoT a01 a02))) ∧
            ((heII (1 : Int) (mkII (1 : Int) (CsoT a01 a02)) < 0 →
             Q false) ∧
            (¬ (heII (1 : Int) (mkII (1 : Int) (CsoT a01 a02)) < 0) →
             ((¬ (heII (1 : Int) (mkII (1 : Int) (CsoT a01 a02)) = (1 : Int) + tot (CsoT a01 a02)) →
              Q false) ∧
             (heII (1 : Int) (mkII (1 : Int) (CsoT a01 a02)) = (1 : Int) + tot (CsoT a01 a02) →
              Q true))))))))))))))))))))))))))


@[reducible] def fine2 (t : List (List Int)) : Prop := small2 t ∧ tot t ≤ 1000000000
theorem fine2_nil : fine2 [] := ⟨⟨by simp, by simp⟩, by simp [tot]⟩
theorem mem_ranf {α : Type} {n : Int} {f : Int → α} {r : α} (h : r ∈ ran n f) : ∃ i, (0 ≤ i ∧ i < n) ∧ r = f i := by
  unfold ran at h
  obtain ⟨k, hk, rfl⟩ := List.mem_map.1 h
  have := List.mem_range.1 hk
  exact ⟨k, ⟨by omega, by omega⟩, rfl⟩
theorem fine2_tab {n : Int} {f : Int → Int → Int} (h : n ≤ 1000) : fine2 (tab n f) := by
  refine ⟨⟨by simp [tab]; omega, fun r hr => ?_⟩, ?_⟩
  · obtain ⟨i, _, rfl⟩ := mem_ranf hr
    simp; omega
  · rw [tot_tab]
    have : n.toNat ≤ 1000 := by omega
    have : n.toNat * n.toNat ≤ 1000 * 1000 := Nat.mul_le_mul this this
    omega
theorem fine2_ite {c : Prop} [Decidable c] {t : List (List Int)} (h : c → fine2 t) : fine2 (if c then t else []) := by
  split
  · exact h (by assumption)
  · exact fine2_nil
theorem small_ite {c : Prop} [Decidable c] {t : List Int} (h : c → small t) : small (if c then t else []) := by
  split
  · exact h (by assumption)
  · simp
theorem fine_mk {T : List (List Int)} (h : fine2 T) : okKT 1 T ∧ small2 (mkII 1 T) ∧ okKT 1 (mkII 1 T) ∧ heII 1 (mkII 1 T) = 1 + tot T ∧ 0 ≤ tot T := by
  have := tot_nonneg T
  have h2 := h.2
  exact ⟨⟨by omega, by omega⟩, small2_mkII h.1, ⟨by omega, by rw [tot_mkII]; omega⟩, heII_mkII 1 T, this⟩
theorem fine_mk1 {l : List Int} (h : small l) : small (mkI 1 l) ∧ heI 1 (mkI 1 l) = 1 + (l.length : Int) := ⟨by simpa using h, heI_mkI 1 l⟩
/-- What is not too large. -/
theorem sz_fine {a : List (List Int)} {left : Int} (hl : left ≤ 1000000000) (h : ¬ szII a left < 0) : fine2 a := by
  unfold szII at h
  split at h
  · omega
  · have tn := tot_nonneg a
    refine ⟨⟨by show (a.length : Int) ≤ 1000000000; omega, fun r hr => ?_⟩, by omega⟩
    obtain ⟨i, hi, rfl⟩ := mem_el hr
    have := tt_row hi
    have := (tt_le a i).1
    show ((el a i).length : Int) ≤ 1000000000; omega
theorem sz_in {a : List (List Int)} {left : Int} (hl : left ≤ 1000000000) (h : ¬ szII a left < 0) : InS (szII a left) := by
  refine ⟨by omega, ?_⟩
  unfold szII
  have := tot_nonneg a
  split <;> omega
theorem InS20 : InS 1048576 := ⟨by omega, by omega⟩
theorem fine_mkk {T : List (List Int)} {k : Int} (h : fine2 T) (hk : 0 ≤ k ∧ k ≤ 100000000000) : okKT k T ∧ ¬ (k + tot T < 0) := by
  have := tot_nonneg T
  have h2 := h.2
  exact ⟨⟨by omega, by omega⟩, by omega⟩
theorem fine_TrivT (n : Int) : fine2 (TrivT n) := fine2_ite fun h => fine2_tab (by omega)
theorem fine_DiheT (n : Int) : fine2 (DiheT n) := fine2_ite fun h => fine2_tab (by omega)
theorem fine_AlexT (n a : Int) : fine2 (AlexT n a) := fine2_ite fun h => fine2_tab (by
  unfold AlexE at h
  split at h
  · cases h
  · rename_i h2; have := Classical.not_not.1 h2; omega)
theorem fine_PermT (p : List Int) : fine2 (PermT p) := fine2_ite fun h => fine2_tab (by have := permB_len h; omega)
theorem small_SquaT (c : List (List Int)) : small (SquaT c) := small_ite fun h => by have := isTab_len h; simp [diag]; omega
theorem first3_len (n : Int) (f : Int → Int → Int → Bool) : ((first3 n f).length : Int) ≤ 3 := by
  unfold first3
  split
  · rename_i l h
    obtain ⟨x, hx, h⟩ := List.exists_of_findSome?_eq_some h
    obtain ⟨y, hy, h⟩ := List.exists_of_findSome?_eq_some h
    obtain ⟨z, hz, h⟩ := List.exists_of_findSome?_eq_some h
    split at h
    · cases h; simp
    · cases h
  · simp
theorem small_CycfT (c : List (List Int)) : small (CycfT c) := small_ite fun h => by have := first3_len (c.length : Int) (cycB c); unfold cycF; show _ ≤ (1000000000 : Int); omega

theorem tot_le_mul : ∀ (t : List (List Int)) (m : Int), 0 ≤ m → (∀ r ∈ t, (r.length : Int) ≤ m) → tot t ≤ (t.length : Int) * m
  | [], m, _, _ => by simp [tot]
  | r :: t, m, hm, h => by
    have h1 := h r List.mem_cons_self
    have h2 := tot_le_mul t m hm fun q hq => h q (List.mem_cons_of_mem _ hq)
    simp only [tot, List.length_cons, Int.natCast_add, Int.add_mul]
    omega
theorem fine2_of {t : List (List Int)} (h : (t.length : Int) ≤ 1000) (h2 : ∀ r ∈ t, (r.length : Int) ≤ 1000) : fine2 t := by
  refine ⟨⟨by show (t.length : Int) ≤ 1000000000; omega, fun r hr => by have := h2 r hr; show (r.length : Int) ≤ 1000000000; omega⟩, ?_⟩
  have a := tot_le_mul t 1000 (by omega) h2
  have b : (t.length : Int) * 1000 ≤ 1000 * 1000 := by omega
  omega
theorem fine2_isTab {t : List (List Int)} (h : isTab t = true) : fine2 t := fine2_of (by have := isTab_len h; omega) fun r hr => by
  obtain ⟨i, hi, rfl⟩ := mem_el hr
  have a := (isTab_row h hi).1; have b := isTab_len h; omega
theorem small_RkfT (r : List (List Int)) : small (RkfT r) := small_ite fun h => by have := first3_len (r.length : Int) (rackB r); unfold rackF; show _ ≤ (1000000000 : Int); omega
theorem small_dg (c : List (List Int)) : small (KinT c) := small_ite fun h => small_diag (isRk_tab h)
theorem fine_AffT (n a b c : Int) : fine2 (AffT n a b c) := fine2_ite fun h => fine2_tab (by
  unfold AffE at h
  split at h
  · rename_i h2; simp only [inN, Bool.and_eq_true, decide_eq_true_eq] at h2; omega
  · cases h)
theorem fine_Dual (r : List (List Int)) : fine2 (DuaT r) := fine2_ite fun h => by
  have ht := isRk_tab h
  have hn := isTab_len ht
  refine fine2_of (by simp; omega) fun q hq => ?_
  obtain ⟨u, hu, rfl⟩ := List.mem_map.1 hq
  obtain ⟨i, hi, rfl⟩ := mem_el hu
  have := rk_len ht hi
  simp; omega
theorem fine_Quat (r : List (List Int)) : fine2 (QuaR r) := fine2_ite fun h => fine2_tab (by have := isTab_len (isRk_tab h); omega)
theorem fine_Pro (a b : List (List Int)) : fine2 (ProT a b) := fine2_ite fun h => fine2_tab (by
  unfold ProE at h
  split at h
  · rename_i h2
    simp only [Bool.and_eq_true] at h2
    have x := isTab_len (isRk_tab h2.1)
    have y := isTab_len (isRk_tab h2.2)
    have := mulB (a := (a.length : Int)) (i := (b.length : Int)) (A := 12) (B := 12) ⟨by omega, by omega, by omega, by omega⟩
    omega
  · cases h)
theorem fine_Uni (a b : List (List Int)) : fine2 (UniT a b) := fine2_ite fun h => fine2_tab (by
  unfold UniE at h
  split at h
  · rename_i h2
    simp only [Bool.and_eq_true] at h2
    have x := isTab_len (isRk_tab h2.1)
    have y := isTab_len (isRk_tab h2.2)
    omega
  · cases h)
theorem small_Ror (r : List (List Int)) : small (RorT r) := small_ite fun h => by
  have := isTab_len (isRk_tab h)
  have := orbI_len (n := (r.length : Int)) (by omega) (isRk_permsN h)
  show _ ≤ (1000000000 : Int); omega
theorem small_Sub (r : List (List Int)) : small (SubT r) := small_ite fun h => by
  have := isTab_len (isRk_tab h)
  have p2 := pow2_le (k := r.length) (by omega)
  have := subsI_len r ((2 : Int) ^ r.length)
  show _ ≤ (1000000000 : Int); omega
theorem fine_so {T0 T1 : List (List Int)} (h0 : fine2 T0) (h1 : fine2 T1) : 1 + tot T0 + tot T1 ≤ 1000000000000 ∧ small2 (mkII 1 T0) ∧ small2 (mkII (1 + tot T0) T1) ∧ heSo 1 (mkII 1 T0) (mkII (1 + tot T0) T1) = 1 + tot T0 + tot T1 ∧ ¬ (1 + tot T0 + tot T1 < 0) := by
  have t0 := tot_nonneg T0
  have t1 := tot_nonneg T1
  have a := h0.2
  have b := h1.2
  refine ⟨by omega, small2_mkII h0.1, small2_mkII h1.1, ?_, by omega⟩
  unfold heSo
  rw [heII_mkII, heII_mkII, if_neg (by omega), if_neg (by omega)]
theorem fine_Cjq (l : List (List Int)) : fine2 (CjqT l) := fine2_ite fun h => fine2_tab (by
  unfold CjqE at h
  split at h
  · split at h
    · cases h
    · omega
  · cases h)
theorem fine_RsoA (r : List (List Int)) : fine2 (RsoA r) := fine2_ite fun h => fine2_isTab (isRk_tab h)
theorem fine_RsoB (r : List (List Int)) : fine2 (RsoB r) := fine2_ite fun h => fine2_tab (by have := isTab_len (isRk_tab h); omega)
theorem small_Row (c : List (List Int)) : small (RowT c) := small_ite fun h => by
  have := isTab_len (isCyc_tab h)
  show _ ≤ (1000000000 : Int); simp; omega
theorem fine_Res (r : List (List Int)) (l : List Int) : fine2 (ResT r l) := fine2_ite fun h => fine2_tab (by
  unfold ResE at h
  split at h
  · rename_i h1
    split at h
    · rename_i h2
      simp only [Bool.and_eq_true] at h2
      have := res_len (isRk_tab h1) (res_el h2.1) h2.2
      omega
    · cases h
  · cases h)
theorem fine_Quo (r : List (List Int)) (c : List Int) : fine2 (QuoT r c) := fine2_ite fun h => fine2_tab (by
  unfold QuoE at h
  split at h
  · rename_i h1
    simp only [Bool.and_eq_true] at h1
    have a := canN_le (partB_can h1.2)
    have b := partB_len h1.2
    have d := isTab_len (isRk_tab h1.1)
    omega
  · cases h)
theorem fine_SocA (c : List (List Int)) : fine2 (SocA c) := fine2_ite fun h => fine2_tab (by have := isTab_len (isCyc_tab h); omega)
theorem fine_SocB (c : List (List Int)) : fine2 (SocB c) := fine2_ite fun h => fine2_tab (by have := isTab_len (isCyc_tab h); omega)
theorem fine_Dcy (c : List (List Int)) : fine2 (DcyT c) := fine2_ite fun h => by
  have hB := isTab_trnT (isTab_cyBT (isCyc_tab h) (isCyc_perm h))
  have hn := isTab_len hB
  refine fine2_of (by simp; omega) fun q hq => ?_
  obtain ⟨u, hu, rfl⟩ := List.mem_map.1 hq
  obtain ⟨i, hi, rfl⟩ := mem_el hu
  have := rk_len hB hi
  simp; omega
theorem small_Cgf (r : List (List Int)) (x y : Int) : small (CgfT r x y) := small_ite fun h => by
  unfold CgfE at h
  split at h
  · rename_i h1
    split at h
    · rename_i h2
      simp only [inN, Bool.and_eq_true, decide_eq_true_eq] at h2
      have := (cgI_is (isRk_tab h1) ⟨h2.1.1, by omega⟩ ⟨h2.2.1, by omega⟩).1
      have := isTab_len (isRk_tab h1)
      show ((cgI r x y).length : Int) ≤ 1000000000
      omega
    · cases h
  · cases h
theorem fine_Cso (s t : List (List Int)) : fine2 (CsoT s t) := fine2_ite fun h => by
  have hb : pmB s t = true := by
    unfold CsoE at h
    split at h
    · rename_i h1; simp only [solB, Bool.and_eq_true] at h1; exact h1.1.1
    · cases h
  have hB := (pm_tab hb).1
  have hn := isTab_len hB
  refine fine2_of (by simp; omega) fun q hq => ?_
  obtain ⟨u, hu, rfl⟩ := List.mem_map.1 hq
  obtain ⟨i, hi, rfl⟩ := mem_el hu
  have := rk_len hB hi
  simp; omega

theorem p_laws_FnExactCycleSetOfSolution (a01 : List (List Int)) (a02 : List (List Int)) (hp : huge2 a01 ∧ huge2 a02) : wp_laws_FnExactCycleSetOfSolution a01 a02 (fun y0 => y0 = true) := by
  unfold wp_laws_FnExactCycleSetOfSolution
  obtain ⟨ha01, ha02⟩ := hp
  by_cases za01 : szII a01 1048576 < 0
  · simp [eq_true InS20, eq_true ha01, eq_true ha02, szSo, za01]
  have fa01 := sz_fine (by omega) za01
  have ia01 := sz_in (by omega) za01
  by_cases za02 : szII a02 (szII a01 1048576) < 0
  · simp [eq_true InS20, eq_true ha01, eq_true ha02, szSo, za01, eq_true fa01.1, eq_true ia01, za02]
  have fa02 := sz_fine (by omega) za02
  have ia02 := sz_in (by omega) za02
  have j0 : 0 ≤ (1 : Int) ∧ (1 : Int) ≤ 100000000000 := ⟨by omega, by omega⟩
  have ma01 := fine_mkk fa01 j0
  have ta01 := tot_nonneg a01
  have j1 : 0 ≤ 1 + tot a01 ∧ 1 + tot a01 ≤ 100000000000 := ⟨by omega, by have := fa01.2; omega⟩
  have ma02 := fine_mkk fa02 j1
  have ta02 := tot_nonneg a02
  have j2 : 0 ≤ 1 + tot a01 + tot a02 ∧ 1 + tot a01 + tot a02 ≤ 100000000000 := ⟨by omega, by have := fa02.2; omega⟩
  have sa0 : 1 + tot a01 + tot a02 ≤ 1000000000000 := by have := fa01.2; have := fa02.2; omega
  have k1 : okK 1 := ⟨by omega, by omega⟩
  have r0 := fine_Cso a01 a02
  generalize CsoT a01 a02 = T0 at *
  have q0 := fine_mk r0
  have p0 : ¬ (1 + tot T0 < 0) := by have := q0.2.2.2.2; omega
  simp [eq_true InS20, eq_true ha01, eq_true ha02, szSo, za01, eq_true fa01.1, eq_true ia01, za02, eq_true fa02.1, eq_true ia02, eq_true ma01.1, ma01.2, eq_true ma02.1, ma02.2, eq_true sa0, eq_true k1, eq_true r0.1, eq_true q0.1, eq_true q0.2.1, eq_true q0.2.2.1, q0.2.2.2.1, p0]
set_option maxRecDepth 100000 in
set_option maxHeartbeats 1000000 in
theorem w_laws_FnExactCycleSetOfSolution (a01 : List (List Int)) (a02 : List (List Int)) (Q : Bool → Prop) (h : wp_laws_FnExactCycleSetOfSolution a01 a02 Q) : AF Try.prog 3 [.agg [.lst (rows a01), .lst (rows a02)]] (fun R_ => ∃ y0, Q y0 ∧ R_ = cb y0) := by
  refine AF.ofWQ (af_enter (n := 96) Try.func3 rfl (by rfl) rfl (Nat.le_of_ble_eq_true rfl) ?_)
  unfold wp_laws_FnExactCycleSetOfSolution at h
  refine aw_seq ?_
  refine aw_gh (gh_to (n := 96) (σ' := []) (env' := [(0, .c (.agg [.lst (rows a01), .lst (rows a02)]))]) rfl rfl ⟨rfl, trivial⟩) ?_
  refine aw_region ?_
  refine run_w (ws_boxR rfl (.inl rfl) rfl ⟨rfl, ?_⟩)
  refine run_s (ss_assign rfl) rfl ?_
  refine run_nil ?_
  refine aw_seq ?_
  refine aw_region ?_
  refine run_s (ss_assign rfl) rfl ?_
  refine run_nil ?_
  refine aw_seq ?_
  refine aw_region ?_
  refine run_s (ss_load_struct rfl (Nat.le_of_ble_eq_true rfl)) rfl ?_
  refine run_s (ss_move rfl) rfl ?_
  obtain ⟨q1, h⟩ := h
  refine run_w (ws_call (xs := [.tmp 14, .tmp 15]) (ids := []) rfl rfl rfl rfl (c_laws_szSolution a01 a02 1048576 q1) rfl ?_ )
  rintro _ rfl
  refine ⟨rfl, ?_⟩
  refine run_s (ss_assign rfl) rfl ?_
  refine run_nil ?_
  refine aw_seq ?_
  refine aw_seq ?_
  refine aw_region ?_
  refine run_s (ss_move rfl) rfl ?_
  refine run_s (ss_lss rfl rfl) rfl ?_
  refine run_nil ?_
  refine aw_cond rfl (fun q3 => ?_) (fun q3 => ?_)
  · replace h := h.1 (of_decide_eq_true q3)
    refine aw_seq ?_
    refine aw_gh (gh_to (n := 96) (σ' := []) (env' := [(2, .c (cb false))]) rfl rfl ⟨rfl, trivial⟩) ?_
    refine aw_region ?_
    refine run_s (ss_assign rfl) rfl ?_
    refine run_nil ?_
    refine aw_ret ?_
    exact retAF_mk (retv1 rfl (rv_tmp rfl)) rfl rfl ⟨_, (cle_refl _), _, h, rfl⟩
  · replace h := h.2 (of_decide_eq_false q3)
    refine aw_skip ?_
    refine aw_seq ?_
    refine aw_region ?_
    refine run_s (ss_load_struct rfl (Nat.le_of_ble_eq_true rfl)) rfl ?_
    obtain ⟨q4, h⟩ := h
    refine run_w (ws_call (xs := [.tmp 20]) (ids := [21, 1001]) rfl rfl rfl rfl (c_laws_toSolution a01 a02 q4) rfl ?_ )
    rintro _ rfl
    refine ⟨rfl, ?_⟩
    obtain ⟨q6, h⟩ := h
    refine run_w (ws_callR (xs := [.tmp 21]) (cs := [.agg [.own (orows a01), .own (orows a02)]]) (ids := [22]) rfl (.inr ⟨rfl, rfl⟩) rfl rfl (fz_cons (fz_agg (fz_cons (fz_own (fz_map (fun _ => (fz_own (fz_map (fun _ => rfl) _))) _)) (fz_cons (fz_own (fz_map (fun _ => (fz_own (fz_map (fun _ => rfl) _))) _)) fz_nil))) fz_nil) (c_spec_CycleSetOfSolution a01 a02 q6) rfl ?_ )
    rintro _ rfl
    refine ⟨(slf_tup (slf_cons (slf_agg (slf_cons (slf_own (slfL_map (f := (fun r => C.own (ints r))) (fun _ => (slf_own (slfL_map (f := ci) (fun _ => rfl) _))) _)) slf_nil)) (slf_cons rfl slf_nil))), rfl, ?_⟩
    refine run_s (ss_move rfl) rfl ?_
    refine run_s (ss_extract rfl rfl) rfl ?_
    refine run_s (ss_extract rfl rfl) rfl ?_
    refine run_w (ws_alloc (id := 4) rfl (Nat.le_of_ble_eq_true rfl) ⟨rfl, ?_⟩)
    refine run_w (ws_storeS rfl rfl (Nat.le_of_ble_eq_true rfl) rfl rfl rfl ⟨rfl, ?_⟩)
    refine run_s (ss_assign rfl) rfl ?_
    refine run_nil ?_
    refine aw_seq ?_
    refine aw_gh (gh_to (n := 96) (σ' := [(4, ⟨[.hole], [(0, .ref 22)]⟩), (22, ⟨orows (CsoT a01 a02), []⟩), (21, ⟨orows a01, []⟩), (1001, ⟨orows a02, []⟩)]) (env' := [(1, .c (.ptr [.lst (rows a01), .lst (rows a02)])), (4, .cell 4 0), (5, .c (ci (CsoE a01 a02)))]) rfl rfl ⟨rfl, rfl, rfl, trivial⟩) ?_
    refine aw_region ?_
    refine run_s (ss_load_struct rfl (Nat.le_of_ble_eq_true rfl)) rfl ?_
    obtain ⟨q8, h⟩ := h
    refine run_w (ws_call (xs := [.tmp 25]) (ids := [26, 1002]) rfl rfl rfl rfl (c_laws_toSolution a01 a02 q8) rfl ?_ )
    rintro _ rfl
    refine ⟨rfl, ?_⟩
    refine run_w (ws_alloc (id := 6) rfl (Nat.le_of_ble_eq_true rfl) ⟨rfl, ?_⟩)
    refine run_w (ws_storeN rfl rfl (Nat.le_of_ble_eq_true rfl) rfl rfl rfl rfl ⟨rfl, ?_⟩)
    refine run_nil ?_
    refine aw_seq ?_
    refine aw_region ?_
    refine run_s (ss_loadS rfl rfl rfl rfl) rfl ?_
    obtain ⟨q10, h⟩ := h
    refine run_w (ws_callR (xs := [.tmp 28]) (cs := [.agg [.own (orows a01), .own (orows a02)]]) (ids := [29]) rfl (.inr ⟨rfl, rfl⟩) rfl rfl (fz_cons (fz_agg (fz_cons (fz_own (fz_map (fun _ => (fz_own (fz_map (fun _ => rfl) _))) _)) (fz_cons (fz_own (fz_map (fun _ => (fz_own (fz_map (fun _ => rfl) _))) _)) fz_nil))) fz_nil) (c_impl_CycleSetOfSolution a01 a02 q10) rfl ?_ )
    rintro _ rfl
    refine ⟨(slf_tup (slf_cons (slf_agg (slf_cons (slf_own (slfL_map (f := (fun r => C.own (ints r))) (fun _ => (slf_own (slfL_map (f := ci) (fun _ => rfl) _))) _)) slf_nil)) (slf_cons rfl slf_nil))), rfl, ?_⟩
    refine run_s (ss_move rfl) rfl ?_
    refine run_s (ss_extract rfl rfl) rfl ?_
    refine run_s (ss_extract rfl rfl) rfl ?_
    refine run_w (ws_alloc (id := 7) rfl (Nat.le_of_ble_eq_true rfl) ⟨rfl, ?_⟩)
    refine run_w (ws_storeS rfl rfl (Nat.le_of_ble_eq_true rfl) rfl rfl rfl ⟨rfl, ?_⟩)
    refine run_s (ss_assign rfl) rfl ?_
    refine run_nil ?_
    refine aw_seq ?_
    refine aw_seq ?_
    refine aw_gh (gh_to (n := 96) (σ' := [(7, ⟨[.hole], [(0, .ref 29)]⟩), (29, ⟨orows (CsoT a01 a02), []⟩), (6, ⟨[.hole, .hole], [(1, .ref 1002), (0, .ref 26)]⟩), (26, ⟨orows a01, []⟩), (1002, ⟨orows a02, []⟩), (4, ⟨[.hole], [(0, .ref 22)]⟩), (22, ⟨orows (CsoT a01 a02), []⟩), (21, ⟨orows a01, []⟩), (1001, ⟨orows a02, []⟩)]) (env' := [(1, .c (.ptr [.lst (rows a01), .lst (rows a02)])), (4, .cell 4 0), (5, .c (ci (CsoE a01 a02))), (6, .cell 6 0), (7, .cell 7 0), (8, .c (ci (CsoE a01 a02)))]) rfl rfl ⟨rfl, rfl, rfl, rfl, rfl, rfl, trivial⟩) ?_
    refine aw_region ?_
    refine run_s (ss_loadS rfl rfl rfl rfl) rfl ?_
    refine run_s (ss_loadS rfl rfl rfl rfl) rfl ?_
    obtain ⟨q12, h⟩ := h
    refine run_w (ws_callR (xs := [.tmp 32, .tmp 33]) (cs := [.agg [.own (orows (CsoT a01 a02))], .agg [.own (orows (CsoT a01 a02))]]) (ids := []) rfl (.inr ⟨rfl, rfl⟩) rfl rfl (fz_cons (fz_agg (fz_cons (fz_own (fz_map (fun _ => (fz_own (fz_map (fun _ => rfl) _))) _)) fz_nil)) (fz_cons (fz_agg (fz_cons (fz_own (fz_map (fun _ => (fz_own (fz_map (fun _ => rfl) _))) _)) fz_nil)) fz_nil)) (c_laws_eqCycleSet (CsoT a01 a02) (CsoT a01 a02) q12) rfl ?_ )
    rintro _ rfl
    refine ⟨rfl, rfl, ?_⟩
    refine run_s (ss_not rfl) rfl ?_
    refine run_s (ss_move rfl) rfl ?_
    refine run_split (s := 36) rfl (fun q14 => ?_) (fun q14 => ?_)
    · replace h := h.1 (of_decide_eq_false (bnot_t q14))
      refine run_gf rfl rfl q14 rfl ?_
      refine run_gf rfl rfl q14 rfl ?_
      refine run_gf rfl rfl q14 rfl ?_
      refine run_s (ss_pickT rfl q14 rfl) rfl ?_
      refine run_nil ?_
      refine aw_cond rfl (fun q15 => ?_) (fun q15 => ?_)
      · skip
        refine aw_seq ?_
        refine aw_gh (gh_to (n := 96) (σ' := [(7, ⟨[.hole], [(0, .ref 29)]⟩), (29, ⟨orows (CsoT a01 a02), []⟩), (6, ⟨[.hole, .hole], [(1, .ref 1002), (0, .ref 26)]⟩), (26, ⟨orows a01, []⟩), (1002, ⟨orows a02, []⟩), (4, ⟨[.hole], [(0, .ref 22)]⟩), (22, ⟨orows (CsoT a01 a02), []⟩), (21, ⟨orows a01, []⟩), (1001, ⟨orows a02, []⟩)]) (env' := []) rfl rfl trivial) ?_
        refine aw_region ?_
        refine run_s (ss_assign rfl) rfl ?_
        refine run_nil ?_
        refine aw_ret ?_
        exact retAF_mk (retv1 rfl (rv_tmp rfl)) rfl rfl ⟨_, (cle_refl _), _, h, rfl⟩
      · cases q15
    · replace h := h.2 (of_decide_eq_true (bnot_f q14))
      refine run_gt rfl rfl q14 ?_
      refine run_s (ss_move rfl) rfl ?_
      refine run_gt rfl rfl q14 ?_
      refine run_s (ss_move rfl) rfl ?_
      refine run_gt rfl rfl q14 ?_
      refine run_s (ss_neq rfl rfl) rfl ?_
      refine run_s (ss_pickF rfl q14 rfl) rfl ?_
      refine run_nil ?_
      refine aw_cond rfl (fun q16 => ?_) (fun q16 => ?_)
      · replace h := h.1 (of_decide_eq_false (bnot_t q16))
        refine aw_seq ?_
        refine aw_gh (gh_to (n := 96) (σ' := [(7, ⟨[.hole], [(0, .ref 29)]⟩), (29, ⟨orows (CsoT a01 a02), []⟩), (6, ⟨[.hole, .hole], [(1, .ref 1002), (0, .ref 26)]⟩), (26, ⟨orows a01, []⟩), (1002, ⟨orows a02, []⟩), (4, ⟨[.hole], [(0, .ref 22)]⟩), (22, ⟨orows (CsoT a01 a02), []⟩), (21, ⟨orows a01, []⟩), (1001, ⟨orows a02, []⟩)]) (env' := []) rfl rfl trivial) ?_
        refine aw_region ?_
        refine run_s (ss_assign rfl) rfl ?_
        refine run_nil ?_
        refine aw_ret ?_
        exact retAF_mk (retv1 rfl (rv_tmp rfl)) rfl rfl ⟨_, (cle_refl _), _, h, rfl⟩
      · replace h := h.2 (of_decide_eq_true (bnot_f q16))
        refine aw_skip ?_
        refine aw_seq ?_
        refine aw_seq ?_
        refine aw_gh (gh_to (n := 96) (σ' := [(7, ⟨[.hole], [(0, .ref 29)]⟩), (29, ⟨orows (CsoT a01 a02), []⟩), (6, ⟨[.hole, .hole], [(1, .ref 1002), (0, .ref 26)]⟩), (26, ⟨orows a01, []⟩), (1002, ⟨orows a02, []⟩), (4, ⟨[.hole], [(0, .ref 22)]⟩), (22, ⟨orows (CsoT a01 a02), []⟩), (21, ⟨orows a01, []⟩), (1001, ⟨orows a02, []⟩)]) (env' := [(1, .c (.ptr [.lst (rows a01), .lst (rows a02)])), (4, .cell 4 0), (5, .c (ci (CsoE a01 a02))), (6, .cell 6 0), (7, .cell 7 0), (8, .c (ci (CsoE a01 a02)))]) rfl rfl ⟨rfl, rfl, rfl, rfl, rfl, rfl, trivial⟩) ?_
        refine aw_regionD (kd := kdl [1, 1, 2, 2, 0]) (ord := [0, 1, 2, 3, 4]) [] mixed (by kernel_rfl) ?_
        refine rd_l rfl rfl trivial (ss_loadS rfl rfl rfl rfl) rfl ?_
        refine rd_l rfl rfl trivial (ss_load_struct rfl (Nat.le_of_ble_eq_true rfl)) rfl ?_
        obtain ⟨q17, h⟩ := h
        refine rd_w rfl rfl trivial rfl rfl (ws_call (xs := [.tmp 42]) (ids := [43, 1003]) rfl rfl rfl rfl (c_laws_toSolution a01 a02 q17) rfl ?_ )
        rintro _ rfl
        refine ⟨rfl, ?_⟩
        obtain ⟨q19, h⟩ := h
        refine rd_w rfl rfl trivial rfl rfl (ws_callR (xs := [.tmp 41, .tmp 43]) (cs := [.agg [.own (orows a01), .own (orows a02)], .agg [.own (orows a01), .own (orows a02)]]) (ids := []) rfl (.inr ⟨rfl, rfl⟩) rfl rfl (fz_cons (fz_agg (fz_cons (fz_own (fz_map (fun _ => (fz_own (fz_map (fun _ => rfl) _))) _)) (fz_cons (fz_own (fz_map (fun _ => (fz_own (fz_map (fun _ => rfl) _))) _)) fz_nil))) (fz_cons (fz_agg (fz_cons (fz_own (fz_map (fun _ => (fz_own (fz_map (fun _ => rfl) _))) _)) (fz_cons (fz_own (fz_map (fun _ => (fz_own (fz_map (fun _ => rfl) _))) _)) fz_nil))) fz_nil)) (c_laws_eqSolution a01 a02 a01 a02 q19) rfl ?_ )
        rintro _ rfl
        refine ⟨rfl, rfl, ?_⟩
        refine rd_s rfl rfl trivial (ss_not rfl) rfl ?_
        refine rd_nil ?_
        refine aw_cond rfl (fun q21 => ?_) (fun q21 => ?_)
        · replace h := h.1 ((bnot_t q21))
          refine aw_seq ?_
          refine aw_gh (gh_to (n := 96) (σ' := [(43, ⟨orows a01, []⟩), (1003, ⟨orows a02, []⟩), (7, ⟨[.hole], [(0, .ref 29)]⟩), (29, ⟨orows (CsoT a01 a02), []⟩), (6, ⟨[.hole, .hole], [(1, .ref 1002), (0, .ref 26)]⟩), (26, ⟨orows a01, []⟩), (1002, ⟨orows a02, []⟩), (4, ⟨[.hole], [(0, .ref 22)]⟩), (22, ⟨orows (CsoT a01 a02), []⟩), (21, ⟨orows a01, []⟩), (1001, ⟨orows a02, []⟩)]) (env' := []) rfl rfl trivial) ?_
          refine aw_region ?_
          refine run_s (ss_assign rfl) rfl ?_
          refine run_nil ?_
          refine aw_ret ?_
          exact retAF_mk (retv1 rfl (rv_tmp rfl)) rfl rfl ⟨_, (cle_refl _), _, h, rfl⟩
        · replace h := h.2 ((bnot_f q21))
          refine aw_skip ?_
          refine aw_seq ?_
          refine aw_region ?_
          refine run_s (ss_assign rfl) rfl ?_
          refine run_nil ?_
          refine aw_seq ?_
          refine aw_region ?_
          refine run_s (ss_loadS rfl rfl rfl rfl) rfl ?_
          refine run_s (ss_move rfl) rfl ?_
          obtain ⟨q22, h⟩ := h
          refine run_w (ws_callM (xs := [.tmp 46, .tmp 47]) (cs := [.agg [.own (orows a01), .own (orows a02)], ci 1]) (ids := []) rfl (.inr ⟨rfl, rfl⟩) rfl rfl rfl (c_laws_markSolution a01 a02 1 q22) rfl rfl ?_ )
          rintro _ _ ⟨rfl, rfl⟩
          refine ⟨rfl, rfl, ?_⟩
          refine run_s (ss_assign rfl) rfl ?_
          refine run_nil ?_
          refine aw_seq ?_
          refine aw_seq ?_
          refine aw_region ?_
          refine run_s (ss_move rfl) rfl ?_
          refine run_s (ss_lss rfl rfl) rfl ?_
          refine run_s (ss_move rfl) rfl ?_
          refine run_split (s := 51) rfl (fun q24 => ?_) (fun q24 => ?_)
          · replace h := h.1 (of_decide_eq_true q24)
            refine run_gf rfl rfl q24 rfl ?_
            refine run_gf rfl rfl q24 rfl ?_
            refine run_gf rfl rfl q24 rfl ?_
            refine run_gf rfl rfl q24 rfl ?_
            refine run_s (ss_pickT rfl q24 rfl) rfl ?_
            refine run_s (ss_move rfl) rfl ?_
            refine run_split (s := 57) rfl (fun q25 => ?_) (fun q25 => ?_)
            · skip
              refine run_gf rfl rfl q25 rfl ?_
              refine run_gf rfl rfl q25 rfl ?_
              refine run_gf rfl rfl q25 rfl ?_
              refine run_s (ss_pickT rfl q25 rfl) rfl ?_
              refine run_nil ?_
              refine aw_cond rfl (fun q26 => ?_) (fun q26 => ?_)
              · skip
                refine aw_seq ?_
                refine aw_gh (gh_to (n := 96) (σ' := [(43, ⟨orows a01, []⟩), (1003, ⟨orows a02, []⟩), (7, ⟨[.hole], [(0, .ref 29)]⟩), (29, ⟨orows (CsoT a01 a02), []⟩), (6, ⟨[.hole, .hole], [(1, .ref 1002), (0, .ref 26)]⟩), (26, ⟨orows (mkII (1 : Int) a01), []⟩), (1002, ⟨orows (mkII ((1 : Int) + tot a01) a02), []⟩), (4, ⟨[.hole], [(0, .ref 22)]⟩), (22, ⟨orows (CsoT a01 a02), []⟩), (21, ⟨orows a01, []⟩), (1001, ⟨orows a02, []⟩)]) (env' := []) rfl rfl trivial) ?_
                refine aw_region ?_
                refine run_s (ss_assign rfl) rfl ?_
                refine run_nil ?_
                refine aw_ret ?_
                exact retAF_mk (retv1 rfl (rv_tmp rfl)) rfl rfl ⟨_, (cle_refl _), _, h, rfl⟩
              · cases q26
            · cases q25
          · replace h := h.2 (of_decide_eq_false q24)
            refine run_gt rfl rfl q24 ?_
            refine run_s (ss_loadS rfl rfl rfl rfl) rfl ?_
            refine run_gt rfl rfl q24 ?_
            refine run_s (ss_loadS rfl rfl rfl rfl) rfl ?_
            refine run_gt rfl rfl q24 ?_
            obtain ⟨q27, h⟩ := h
            refine run_w (ws_callR (xs := [.tmp 52, .tmp 53]) (cs := [.agg [.own (orows (CsoT a01 a02))], .agg [.own (orows (CsoT a01 a02))]]) (ids := []) rfl (.inr ⟨rfl, rfl⟩) rfl rfl (fz_cons (fz_agg (fz_cons (fz_own (fz_map (fun _ => (fz_own (fz_map (fun _ => rfl) _))) _)) fz_nil)) (fz_cons (fz_agg (fz_cons (fz_own (fz_map (fun _ => (fz_own (fz_map (fun _ => rfl) _))) _)) fz_nil)) fz_nil)) (c_laws_eqCycleSet (CsoT a01 a02) (CsoT a01 a02) q27) rfl ?_ )
            rintro _ rfl
            refine ⟨rfl, rfl, ?_⟩
            refine run_gt rfl rfl q24 ?_
            refine run_s (ss_not rfl) rfl ?_
            refine run_s (ss_pickF rfl q24 rfl) rfl ?_
            refine run_s (ss_move rfl) rfl ?_
            refine run_split (s := 57) rfl (fun q29 => ?_) (fun q29 => ?_)
            · replace h := h.1 (of_decide_eq_false (bnot_t q29))
              refine run_gf rfl rfl q29 rfl ?_
              refine run_gf rfl rfl q29 rfl ?_
              refine run_gf rfl rfl q29 rfl ?_
              refine run_s (ss_pickT rfl q29 rfl) rfl ?_
              refine run_nil ?_
              refine aw_cond rfl (fun q30 => ?_) (fun q30 => ?_)
              · skip
                refine aw_seq ?_
                refine aw_gh (gh_to (n := 96) (σ' := [(43, ⟨orows a01, []⟩), (1003, ⟨orows a02, []⟩), (7, ⟨[.hole], [(0, .ref 29)]⟩), (29, ⟨orows (CsoT a01 a02), []⟩), (6, ⟨[.hole, .hole], [(1, .ref 1002), (0, .ref 26)]⟩), (26, ⟨orows (mkII (1 : Int) a01), []⟩), (1002, ⟨orows (mkII ((1 : Int) + tot a01) a02), []⟩), (4, ⟨[.hole], [(0, .ref 22)]⟩), (22, ⟨orows (CsoT a01 a02), []⟩), (21, ⟨orows a01, []⟩), (1001, ⟨orows a02, []⟩)]) (env' := []) rfl rfl trivial) ?_
                refine aw_region ?_
                refine run_s (ss_assign rfl) rfl ?_
                refine run_nil ?_
                refine aw_ret ?_
                exact retAF_mk (retv1 rfl (rv_tmp rfl)) rfl rfl ⟨_, (cle_refl _), _, h, rfl⟩
              · cases q30
            · replace h := h.2 (of_decide_eq_true (bnot_f q29))
              refine run_gt rfl rfl q29 ?_
              refine run_s (ss_move rfl) rfl ?_
              refine run_gt rfl rfl q29 ?_
              refine run_s (ss_move rfl) rfl ?_
              refine run_gt rfl rfl q29 ?_
              refine run_s (ss_neq rfl rfl) rfl ?_
              refine run_s (ss_pickF rfl q29 rfl) rfl ?_
              refine run_nil ?_
              refine aw_cond rfl (fun q31 => ?_) (fun q31 => ?_)
              · replace h := h.1 (of_decide_eq_false (bnot_t q31))
                refine aw_seq ?_
                refine aw_gh (gh_to (n := 96) (σ' := [(43, ⟨orows a01, []⟩), (1003, ⟨orows a02, []⟩), (7, ⟨[.hole], [(0, .ref 29)]⟩), (29, ⟨orows (CsoT a01 a02), []⟩), (6, ⟨[.hole, .hole], [(1, .ref 1002), (0, .ref 26)]⟩), (26, ⟨orows (mkII (1 : Int) a01), []⟩), (1002, ⟨orows (mkII ((1 : Int) + tot a01) a02), []⟩), (4, ⟨[.hole], [(0, .ref 22)]⟩), (22, ⟨orows (CsoT a01 a02), []⟩), (21, ⟨orows a01, []⟩), (1001, ⟨orows a02, []⟩)]) (env' := []) rfl rfl trivial) ?_
                refine aw_region ?_
                refine run_s (ss_assign rfl) rfl ?_
                refine run_nil ?_
                refine aw_ret ?_
                exact retAF_mk (retv1 rfl (rv_tmp rfl)) rfl rfl ⟨_, (cle_refl _), _, h, rfl⟩
              · replace h := h.2 (of_decide_eq_true (bnot_f q31))
                refine aw_skip ?_
                refine aw_seq ?_
                refine aw_gh (gh_to (n := 96) (σ' := [(43, ⟨orows a01, []⟩), (1003, ⟨orows a02, []⟩), (7, ⟨[.hole], [(0, .ref 29)]⟩), (29, ⟨orows (CsoT a01 a02), []⟩), (6, ⟨[.hole, .hole], [(1, .ref 1002), (0, .ref 26)]⟩), (26, ⟨orows (mkII (1 : Int) a01), []⟩), (1002, ⟨orows (mkII ((1 : Int) + tot a01) a02), []⟩), (4, ⟨[.hole], [(0, .ref 22)]⟩), (22, ⟨orows (CsoT a01 a02), []⟩), (21, ⟨orows a01, []⟩), (1001, ⟨orows a02, []⟩)]) (env' := [(1, .c (.ptr [.lst (rows a01), .lst (rows a02)])), (4, .cell 4 0), (5, .c (ci (CsoE a01 a02))), (7, .cell 7 0)]) rfl rfl ⟨rfl, rfl, rfl, rfl, trivial⟩) ?_
                refine aw_region ?_
                refine run_s (ss_assign rfl) rfl ?_
                refine run_nil ?_
                refine aw_seq ?_
                refine aw_region ?_
                refine run_s (ss_loadS rfl rfl rfl rfl) rfl ?_
                refine run_s (ss_move rfl) rfl ?_
                obtain ⟨q32, h⟩ := h
                refine run_w (ws_callM (xs := [.tmp 62, .tmp 63]) (cs := [.agg [.own (orows (CsoT a01 a02))], ci 1]) (ids := []) rfl (.inr ⟨rfl, rfl⟩) rfl rfl rfl (c_laws_markCycleSet (CsoT a01 a02) 1 q32) rfl rfl ?_ )
                rintro _ _ ⟨rfl, rfl⟩
                refine ⟨rfl, rfl, ?_⟩
                refine run_s (ss_assign rfl) rfl ?_
                refine run_nil ?_
                refine aw_seq ?_
                refine aw_region ?_
                refine run_s (ss_assign rfl) rfl ?_
                refine run_nil ?_
                refine aw_seq ?_
                refine aw_region ?_
                refine run_s (ss_loadS rfl rfl rfl rfl) rfl ?_
                refine run_s (ss_move rfl) rfl ?_
                obtain ⟨q34, h⟩ := h
                refine run_w (ws_callR (xs := [.tmp 65, .tmp 66]) (cs := [.agg [.own (orows (mkII (1 : Int) (CsoT a01 a02)))], ci 1]) (ids := []) rfl (.inr ⟨rfl, rfl⟩) rfl rfl (fz_cons (fz_agg (fz_cons (fz_own (fz_map (fun _ => (fz_own (fz_map (fun _ => rfl) _))) _)) fz_nil)) (fz_cons rfl fz_nil)) (c_laws_heldCycleSet (mkII (1 : Int) (CsoT a01 a02)) 1 q34) rfl ?_ )
                rintro _ rfl
                refine ⟨rfl, rfl, ?_⟩
                refine run_s (ss_assign rfl) rfl ?_
                refine run_nil ?_
                refine aw_seq ?_
                refine aw_seq ?_
                refine aw_gh (gh_to (n := 96) (σ' := [(43, ⟨orows a01, []⟩), (1003, ⟨orows a02, []⟩), (7, ⟨[.hole], [(0, .ref 29)]⟩), (29, ⟨orows (mkII (1 : Int) (CsoT a01 a02)), []⟩), (6, ⟨[.hole, .hole], [(1, .ref 1002), (0, .ref 26)]⟩), (26, ⟨orows (mkII (1 : Int) a01), []⟩), (1002, ⟨orows (mkII ((1 : Int) + tot a01) a02), []⟩), (4, ⟨[.hole], [(0, .ref 22)]⟩), (22, ⟨orows (CsoT a01 a02), []⟩), (21, ⟨orows a01, []⟩), (1001, ⟨orows a02, []⟩)]) (env' := [(1, .c (.ptr [.lst (rows a01), .lst (rows a02)])), (4, .cell 4 0), (5, .c (ci (CsoE a01 a02))), (7, .cell 7 0), (10, .c (ci ((1 : Int) + tot (CsoT a01 a02)))), (11, .c (ci (heII (1 : Int) (mkII (1 : Int) (CsoT a01 a02)))))]) rfl rfl ⟨rfl, rfl, rfl, rfl, rfl, rfl, trivial⟩) ?_
                refine aw_region ?_
                refine run_s (ss_move rfl) rfl ?_
                refine run_s (ss_lss rfl rfl) rfl ?_
                refine run_nil ?_
                refine aw_cond rfl (fun q36 => ?_) (fun q36 => ?_)
                · replace h := h.1 (of_decide_eq_true q36)
                  refine aw_seq ?_
                  refine aw_gh (gh_to (n := 96) (σ' := [(43, ⟨orows a01, []⟩), (1003, ⟨orows a02, []⟩), (7, ⟨[.hole], [(0, .ref 29)]⟩), (29, ⟨orows (mkII (1 : Int) (CsoT a01 a02)), []⟩), (6, ⟨[.hole, .hole], [(1, .ref 1002), (0, .ref 26)]⟩), (26, ⟨orows (mkII (1 : Int) a01), []⟩), (1002, ⟨orows (mkII ((1 : Int) + tot a01) a02), []⟩), (4, ⟨[.hole], [(0, .ref 22)]⟩), (22, ⟨orows (CsoT a01 a02), []⟩), (21, ⟨orows a01, []⟩), (1001, ⟨orows a02, []⟩)]) (env' := []) rfl rfl trivial) ?_
                  refine aw_region ?_
                  refine run_s (ss_assign rfl) rfl ?_
                  refine run_nil ?_
                  refine aw_ret ?_
                  exact retAF_mk (retv1 rfl (rv_tmp rfl)) rfl rfl ⟨_, (cle_refl _), _, h, rfl⟩
                · replace h := h.2 (of_decide_eq_false q36)
                  refine aw_skip ?_
                  refine aw_seq ?_
                  refine aw_seq ?_
                  refine aw_region ?_
                  refine run_s (ss_move rfl) rfl ?_
                  refine run_s (ss_move rfl) rfl ?_
                  refine run_s (ss_neq rfl rfl) rfl ?_
                  refine run_nil ?_
                  refine aw_cond rfl (fun q37 => ?_) (fun q37 => ?_)
                  · replace h := h.1 (of_decide_eq_false (bnot_t q37))
                    refine aw_seq ?_
                    refine aw_gh (gh_to (n := 96) (σ' := [(43, ⟨orows a01, []⟩), (1003, ⟨orows a02, []⟩), (7, ⟨[.hole], [(0, .ref 29)]⟩), (29, ⟨orows (mkII (1 : Int) (CsoT a01 a02)), []⟩), (6, ⟨[.hole, .hole], [(1, .ref 1002), (0, .ref 26)]⟩), (26, ⟨orows (mkII (1 : Int) a01), []⟩), (1002, ⟨orows (mkII ((1 : Int) + tot a01) a02), []⟩), (4, ⟨[.hole], [(0, .ref 22)]⟩), (22, ⟨orows (CsoT a01 a02), []⟩), (21, ⟨orows a01, []⟩), (1001, ⟨orows a02, []⟩)]) (env' := []) rfl rfl trivial) ?_
                    refine aw_region ?_
                    refine run_s (ss_assign rfl) rfl ?_
                    refine run_nil ?_
                    refine aw_ret ?_
                    exact retAF_mk (retv1 rfl (rv_tmp rfl)) rfl rfl ⟨_, (cle_refl _), _, h, rfl⟩
                  · replace h := h.2 (of_decide_eq_true (bnot_f q37))
                    refine aw_skip ?_
                    refine aw_seq ?_
                    refine aw_region ?_
                    refine run_s (ss_load_struct rfl (Nat.le_of_ble_eq_true rfl)) rfl ?_
                    obtain ⟨q38, h⟩ := h
                    refine run_w (ws_call (xs := [.tmp 74]) (ids := [75, 1004]) rfl rfl rfl rfl (c_laws_toSolution a01 a02 q38) rfl ?_ )
                    rintro _ rfl
                    refine ⟨rfl, ?_⟩
                    obtain ⟨q40, h⟩ := h
                    refine run_w (ws_callR (xs := [.tmp 75]) (cs := [.agg [.own (orows a01), .own (orows a02)]]) (ids := [76]) rfl (.inr ⟨rfl, rfl⟩) rfl rfl (fz_cons (fz_agg (fz_cons (fz_own (fz_map (fun _ => (fz_own (fz_map (fun _ => rfl) _))) _)) (fz_cons (fz_own (fz_map (fun _ => (fz_own (fz_map (fun _ => rfl) _))) _)) fz_nil))) fz_nil) (c_impl_CycleSetOfSolution a01 a02 q40) rfl ?_ )
                    rintro _ rfl
                    refine ⟨(slf_tup (slf_cons (slf_agg (slf_cons (slf_own (slfL_map (f := (fun r => C.own (ints r))) (fun _ => (slf_own (slfL_map (f := ci) (fun _ => rfl) _))) _)) slf_nil)) (slf_cons rfl slf_nil))), rfl, ?_⟩
                    refine run_s (ss_move rfl) rfl ?_
                    refine run_s (ss_extract rfl rfl) rfl ?_
                    refine run_s (ss_extract rfl rfl) rfl ?_
                    refine run_w (ws_alloc (id := 12) rfl (Nat.le_of_ble_eq_true rfl) ⟨rfl, ?_⟩)
                    refine run_w (ws_storeS rfl rfl (Nat.le_of_ble_eq_true rfl) rfl rfl rfl ⟨rfl, ?_⟩)
                    refine run_s (ss_assign rfl) rfl ?_
                    refine run_nil ?_
                    refine aw_seq ?_
                    refine aw_seq ?_
                    refine aw_gh (gh_to (n := 96) (σ' := [(12, ⟨[.hole], [(0, .ref 76)]⟩), (76, ⟨orows (CsoT a01 a02), []⟩), (75, ⟨orows a01, []⟩), (1004, ⟨orows a02, []⟩), (43, ⟨orows a01, []⟩), (1003, ⟨orows a02, []⟩), (7, ⟨[.hole], [(0, .ref 29)]⟩), (29, ⟨orows (mkII (1 : Int) (CsoT a01 a02)), []⟩), (6, ⟨[.hole, .hole], [(1, .ref 1002), (0, .ref 26)]⟩), (26, ⟨orows (mkII (1 : Int) a01), []⟩), (1002, ⟨orows (mkII ((1 : Int) + tot a01) a02), []⟩), (4, ⟨[.hole], [(0, .ref 22)]⟩), (22, ⟨orows (CsoT a01 a02), []⟩), (21, ⟨orows a01, []⟩), (1001, ⟨orows a02, []⟩)]) (env' := [(4, .cell 4 0), (5, .c (ci (CsoE a01 a02))), (7, .cell 7 0), (10, .c (ci ((1 : Int) + tot (CsoT a01 a02)))), (12, .cell 12 0), (13, .c (ci (CsoE a01 a02)))]) rfl rfl ⟨rfl, rfl, rfl, rfl, rfl, rfl, trivial⟩) ?_
                    refine aw_region ?_
                    refine run_s (ss_loadS rfl rfl rfl rfl) rfl ?_
                    refine run_s (ss_loadS rfl rfl rfl rfl) rfl ?_
                    obtain ⟨q42, h⟩ := h
                    refine run_w (ws_callR (xs := [.tmp 79, .tmp 80]) (cs := [.agg [.own (orows (CsoT a01 a02))], .agg [.own (orows (CsoT a01 a02))]]) (ids := []) rfl (.inr ⟨rfl, rfl⟩) rfl rfl (fz_cons (fz_agg (fz_cons (fz_own (fz_map (fun _ => (fz_own (fz_map (fun _ => rfl) _))) _)) fz_nil)) (fz_cons (fz_agg (fz_cons (fz_own (fz_map (fun _ => (fz_own (fz_map (fun _ => rfl) _))) _)) fz_nil)) fz_nil)) (c_laws_eqCycleSet (CsoT a01 a02) (CsoT a01 a02) q42) rfl ?_ )
                    rintro _ rfl
                    refine ⟨rfl, rfl, ?_⟩
                    refine run_s (ss_not rfl) rfl ?_
                    refine run_s (ss_move rfl) rfl ?_
                    refine run_split (s := 83) rfl (fun q44 => ?_) (fun q44 => ?_)
                    · replace h := h.1 (of_decide_eq_false (bnot_t q44))
                      refine run_gf rfl rfl q44 rfl ?_
                      refine run_gf rfl rfl q44 rfl ?_
                      refine run_gf rfl rfl q44 rfl ?_
                      refine run_s (ss_pickT rfl q44 rfl) rfl ?_
                      refine run_nil ?_
                      refine aw_cond rfl (fun q45 => ?_) (fun q45 => ?_)
                      · skip
                        refine aw_seq ?_
                        refine aw_gh (gh_to (n := 96) (σ' := [(12, ⟨[.hole], [(0, .ref 76)]⟩), (76, ⟨orows (CsoT a01 a02), []⟩), (75, ⟨orows a01, []⟩), (1004, ⟨orows a02, []⟩), (43, ⟨orows a01, []⟩), (1003, ⟨orows a02, []⟩), (7, ⟨[.hole], [(0, .ref 29)]⟩), (29, ⟨orows (mkII (1 : Int) (CsoT a01 a02)), []⟩), (6, ⟨[.hole, .hole], [(1, .ref 1002), (0, .ref 26)]⟩), (26, ⟨orows (mkII (1 : Int) a01), []⟩), (1002, ⟨orows (mkII ((1 : Int) + tot a01) a02), []⟩), (4, ⟨[.hole], [(0, .ref 22)]⟩), (22, ⟨orows (CsoT a01 a02), []⟩), (21, ⟨orows a01, []⟩), (1001, ⟨orows a02, []⟩)]) (env' := []) rfl rfl trivial) ?_
                        refine aw_region ?_
                        refine run_s (ss_assign rfl) rfl ?_
                        refine run_nil ?_
                        refine aw_ret ?_
                        exact retAF_mk (retv1 rfl (rv_tmp rfl)) rfl rfl ⟨_, (cle_refl _), _, h, rfl⟩
                      · cases q45
                    · replace h := h.2 (of_decide_eq_true (bnot_f q44))
                      refine run_gt rfl rfl q44 ?_
                      refine run_s (ss_move rfl) rfl ?_
                      refine run_gt rfl rfl q44 ?_
                      refine run_s (ss_move rfl) rfl ?_
                      refine run_gt rfl rfl q44 ?_
                      refine run_s (ss_neq rfl rfl) rfl ?_
                      refine run_s (ss_pickF rfl q44 rfl) rfl ?_
                      refine run_nil ?_
                      refine aw_cond rfl (fun q46 => ?_) (fun q46 => ?_)
                      · replace h := h.1 (of_decide_eq_false (bnot_t q46))
                        refine aw_seq ?_
                        refine aw_gh (gh_to (n := 96) (σ' := [(12, ⟨[.hole], [(0, .ref 76)]⟩), (76, ⟨orows (CsoT a01 a02), []⟩), (75, ⟨orows a01, []⟩), (1004, ⟨orows a02, []⟩), (43, ⟨orows a01, []⟩), (1003, ⟨orows a02, []⟩), (7, ⟨[.hole], [(0, .ref 29)]⟩), (29, ⟨orows (mkII (1 : Int) (CsoT a01 a02)), []⟩), (6, ⟨[.hole, .hole], [(1, .ref 1002), (0, .ref 26)]⟩), (26, ⟨orows (mkII (1 : Int) a01), []⟩), (1002, ⟨orows (mkII ((1 : Int) + tot a01) a02), []⟩), (4, ⟨[.hole], [(0, .ref 22)]⟩), (22, ⟨orows (CsoT a01 a02), []⟩), (21, ⟨orows a01, []⟩), (1001, ⟨orows a02, []⟩)]) (env' := []) rfl rfl trivial) ?_
                        refine aw_region ?_
                        refine run_s (ss_assign rfl) rfl ?_
                        refine run_nil ?_
                        refine aw_ret ?_
                        exact retAF_mk (retv1 rfl (rv_tmp rfl)) rfl rfl ⟨_, (cle_refl _), _, h, rfl⟩
                      · replace h := h.2 (of_decide_eq_true (bnot_f q46))
                        refine aw_skip ?_
                        refine aw_seq ?_
                        refine aw_gh (gh_to (n := 96) (σ' := [(12, ⟨[.hole], [(0, .ref 76)]⟩), (76, ⟨orows (CsoT a01 a02), []⟩), (75, ⟨orows a01, []⟩), (1004, ⟨orows a02, []⟩), (43, ⟨orows a01, []⟩), (1003, ⟨orows a02, []⟩), (7, ⟨[.hole], [(0, .ref 29)]⟩), (29, ⟨orows (mkII (1 : Int) (CsoT a01 a02)), []⟩), (6, ⟨[.hole, .hole], [(1, .ref 1002), (0, .ref 26)]⟩), (26, ⟨orows (mkII (1 : Int) a01), []⟩), (1002, ⟨orows (mkII ((1 : Int) + tot a01) a02), []⟩), (4, ⟨[.hole], [(0, .ref 22)]⟩), (22, ⟨orows (CsoT a01 a02), []⟩), (21, ⟨orows a01, []⟩), (1001, ⟨orows a02, []⟩)]) (env' := [(7, .cell 7 0), (10, .c (ci ((1 : Int) + tot (CsoT a01 a02))))]) rfl rfl ⟨rfl, rfl, trivial⟩) ?_
                        refine aw_region ?_
                        refine run_s (ss_assign rfl) rfl ?_
                        refine run_nil ?_
                        refine aw_seq ?_
                        refine aw_region ?_
                        refine run_s (ss_loadS rfl rfl rfl rfl) rfl ?_
                        refine run_s (ss_move rfl) rfl ?_
                        obtain ⟨q47, h⟩ := h
                        refine run_w (ws_callR (xs := [.tmp 88, .tmp 89]) (cs := [.agg [.own (orows (mkII (1 : Int) (CsoT a01 a02)))], ci 1]) (ids := []) rfl (.inr ⟨rfl, rfl⟩) rfl rfl (fz_cons (fz_agg (fz_cons (fz_own (fz_map (fun _ => (fz_own (fz_map (fun _ => rfl) _))) _)) fz_nil)) (fz_cons rfl fz_nil)) (c_laws_heldCycleSet (mkII (1 : Int) (CsoT a01 a02)) 1 q47) rfl ?_ )
                        rintro _ rfl
                        refine ⟨rfl, rfl, ?_⟩
                        refine run_s (ss_assign rfl) rfl ?_
                        refine run_nil ?_
                        refine aw_seq ?_
                        refine aw_seq ?_
                        refine aw_gh (gh_to (n := 96) (σ' := [(12, ⟨[.hole], [(0, .ref 76)]⟩), (76, ⟨orows (CsoT a01 a02), []⟩), (75, ⟨orows a01, []⟩), (1004, ⟨orows a02, []⟩), (43, ⟨orows a01, []⟩), (1003, ⟨orows a02, []⟩), (7, ⟨[.hole], [(0, .ref 29)]⟩), (29, ⟨orows (mkII (1 : Int) (CsoT a01 a02)), []⟩), (6, ⟨[.hole, .hole], [(1, .ref 1002), (0, .ref 26)]⟩), (26, ⟨orows (mkII (1 : Int) a01), []⟩), (1002, ⟨orows (mkII ((1 : Int) + tot a01) a02), []⟩), (4, ⟨[.hole], [(0, .ref 22)]⟩), (22, ⟨orows (CsoT a01 a02), []⟩), (21, ⟨orows a01, []⟩), (1001, ⟨orows a02, []⟩)]) (env' := [(10, .c (ci ((1 : Int) + tot (CsoT a01 a02)))), (11, .c (ci (heII (1 : Int) (mkII (1 : Int) (CsoT a01 a02)))))]) rfl rfl ⟨rfl, rfl, trivial⟩) ?_
                        refine aw_region ?_
                        refine run_s (ss_move rfl) rfl ?_
                        refine run_s (ss_lss rfl rfl) rfl ?_
                        refine run_nil ?_
                        refine aw_cond rfl (fun q49 => ?_) (fun q49 => ?_)
                        · replace h := h.1 (of_decide_eq_true q49)
                          refine aw_seq ?_
                          refine aw_gh (gh_to (n := 96) (σ' := [(12, ⟨[.hole], [(0, .ref 76)]⟩), (76, ⟨orows (CsoT a01 a02), []⟩), (75, ⟨orows a01, []⟩), (1004, ⟨orows a02, []⟩), (43, ⟨orows a01, []⟩), (1003, ⟨orows a02, []⟩), (7, ⟨[.hole], [(0, .ref 29)]⟩), (29, ⟨orows (mkII (1 : Int) (CsoT a01 a02)), []⟩), (6, ⟨[.hole, .hole], [(1, .ref 1002), (0, .ref 26)]⟩), (26, ⟨orows (mkII (1 : Int) a01), []⟩), (1002, ⟨orows (mkII ((1 : Int) + tot a01) a02), []⟩), (4, ⟨[.hole], [(0, .ref 22)]⟩), (22, ⟨orows (CsoT a01 a02), []⟩), (21, ⟨orows a01, []⟩), (1001, ⟨orows a02, []⟩)]) (env' := []) rfl rfl trivial) ?_
                          refine aw_region ?_
                          refine run_s (ss_assign rfl) rfl ?_
                          refine run_nil ?_
                          refine aw_ret ?_
                          exact retAF_mk (retv1 rfl (rv_tmp rfl)) rfl rfl ⟨_, (cle_refl _), _, h, rfl⟩
                        · replace h := h.2 (of_decide_eq_false q49)
                          refine aw_skip ?_
                          refine aw_seq ?_
                          refine aw_seq ?_
                          refine aw_region ?_
                          refine run_s (ss_move rfl) rfl ?_
                          refine run_s (ss_move rfl) rfl ?_
                          refine run_s (ss_neq rfl rfl) rfl ?_
                          refine run_nil ?_
                          refine aw_cond rfl (fun q50 => ?_) (fun q50 => ?_)
                          · replace h := h.1 (of_decide_eq_false (bnot_t q50))
                            refine aw_seq ?_
                            refine aw_gh (gh_to (n := 96) (σ' := [(12, ⟨[.hole], [(0, .ref 76)]⟩), (76, ⟨orows (CsoT a01 a02), []⟩), (75, ⟨orows a01, []⟩), (1004, ⟨orows a02, []⟩), (43, ⟨orows a01, []⟩), (1003, ⟨orows a02, []⟩), (7, ⟨[.hole], [(0, .ref 29)]⟩), (29, ⟨orows (mkII (1 : Int) (CsoT a01 a02)), []⟩), (6, ⟨[.hole, .hole], [(1, .ref 1002), (0, .ref 26)]⟩), (26, ⟨orows (mkII (1 : Int) a01), []⟩), (1002, ⟨orows (mkII ((1 : Int) + tot a01) a02), []⟩), (4, ⟨[.hole], [(0, .ref 22)]⟩), (22, ⟨orows (CsoT a01 a02), []⟩), (21, ⟨orows a01, []⟩), (1001, ⟨orows a02, []⟩)]) (env' := []) rfl rfl trivial) ?_
                            refine aw_region ?_
                            refine run_s (ss_assign rfl) rfl ?_
                            refine run_nil ?_
                            refine aw_ret ?_
                            exact retAF_mk (retv1 rfl (rv_tmp rfl)) rfl rfl ⟨_, (cle_refl _), _, h, rfl⟩
                          · replace h := h.2 (of_decide_eq_true (bnot_f q50))
                            refine aw_skip ?_
                            refine aw_seq ?_
                            refine aw_gh (gh_to (n := 96) (σ' := [(12, ⟨[.hole], [(0, .ref 76)]⟩), (76, ⟨orows (CsoT a01 a02), []⟩), (75, ⟨orows a01, []⟩), (1004, ⟨orows a02, []⟩), (43, ⟨orows a01, []⟩), (1003, ⟨orows a02, []⟩), (7, ⟨[.hole], [(0, .ref 29)]⟩), (29, ⟨orows (mkII (1 : Int) (CsoT a01 a02)), []⟩), (6, ⟨[.hole, .hole], [(1, .ref 1002), (0, .ref 26)]⟩), (26, ⟨orows (mkII (1 : Int) a01), []⟩), (1002, ⟨orows (mkII ((1 : Int) + tot a01) a02), []⟩), (4, ⟨[.hole], [(0, .ref 22)]⟩), (22, ⟨orows (CsoT a01 a02), []⟩), (21, ⟨orows a01, []⟩), (1001, ⟨orows a02, []⟩)]) (env' := []) rfl rfl trivial) ?_
                            refine aw_region ?_
                            refine run_s (ss_assign rfl) rfl ?_
                            refine run_nil ?_
                            refine aw_ret ?_
                            exact retAF_mk (retv1 rfl (rv_tmp rfl)) rfl rfl ⟨_, (cle_refl _), _, h, rfl⟩

theorem c_laws_FnExactCycleSetOfSolution (a01 : List (List Int)) (a02 : List (List Int)) (hp : huge2 a01 ∧ huge2 a02) : AF Try.prog 3 [.agg [.lst (rows a01), .lst (rows a02)]] (fun R_ => R_ = cb true) :=
  (w_laws_FnExactCycleSetOfSolution a01 a02 (fun y0 => y0 = true) (p_laws_FnExactCycleSetOfSolution a01 a02 hp)).mono (by rintro r ⟨_, rfl, rfl⟩; rfl)

end Go.Proofs.Ytbcdcnddnldijaa

/- Contracts of functions that the law FnExactSubrackFrom reaches: conditions, plain proofs, walks; no condition. -/
import Derived.Test.YtbcdcnddnldijaaKESubrackFromk
namespace Go.Proofs.Ytbcdcnddnldijaa

def wp_laws_FnExactSubrackFrom (a0 : List (List Int)) (a1 : List Int) (Q : Bool → Prop) : Prop :=
 ((1048576 < (a1.length : Int) →
  Q true) ∧
 (¬ (1048576 < (a1.length : Int)) →
  (InS (1048576 : Int) ∧ huge2 a0) ∧
  ((szII a0 (1048576 : Int) < 0 →
   Q true) ∧
  (¬ (szII a0 (1048576 : Int) < 0) →
   (small2 a0) ∧
   (small a1) ∧
   (small2 a0 ∧ small a1) ∧
   (small2 a0) ∧
   (small a1) ∧
   (small2 a0 ∧ small a1) ∧
   (small (SbfT a0 a1) ∧ small (SbfT a0 a1)) ∧
   ((¬ ((SbfT a0 a1) = (SbfT a0 a1)) →
    Q false) ∧
   ((SbfT a0 a1) = (SbfT a0 a1) →
    ((¬ (SbfE a0 a1 = SbfE a0 a1) →
     Q false) ∧
    (SbfE a0 a1 = SbfE a0 a1 →
     (small2 a0) ∧
     (small2 a0 ∧ small2 a0) ∧
     ((¬ (a0 = a0) →
      Q false) ∧
     (a0 = a0 →
      (small a1) ∧
      (small a1 ∧ small a1) ∧
      ((¬ (a1 = a1) →
       Q false) ∧
      (a1 = a1 →
       (small2 a0 ∧ okKT (1 : Int) a0) ∧
       (small a1 ∧ okK ((1 : Int) + tot a0)) ∧
       ((((1 : Int) + tot a0) + (a1.length : Int) < 0 →
        Q false) ∧
       (¬ (((1 : Int) + tot a0) + (a1.length : Int) < 0) →
        (small (SbfT a0 a1) ∧ small (SbfT a0 a1)) ∧
        ((¬ ((SbfT a0 a1) = (SbfT a0 a1)) →
         Q false) ∧
        ((SbfT a0 a1) = (SbfT a0 a1) →
         ((¬ (SbfE a0 a1 = SbfE a0 a1) →
          Q false) ∧
         (SbfE a0 a1 = SbfE a0 a1 →
          (small (SbfT a0 a1) ∧ okK (1 : Int)) ∧
          (small (mkI (1 : Int) (SbfT a0 a1)) ∧ okK (1 : Int)) ∧
          ((heI (1 : Int) (mkI (1 : Int) (SbfT a0 a1)) < 0 →
           Q false) ∧
          (¬ (heI (1 : Int) (mkI (1 : Int) (SbfT a0 a1)) < 0) →
           ((¬ (heI (1 : Int) (mkI (1 : Int) (SbfT a0 a1)) = (1 : Int) + ((SbfT a0 a1).length : Int)) →
            Q false) ∧
           (heI (1 : Int) (mkI (1 : Int) (SbfT a0 a1)) = (1 : Int) + ((SbfT a0 a1).length : Int) →
            (small2 a0) ∧
            (small a1) ∧
            (small2 a0 ∧ small a1) ∧
            (small (SbfT a0 a1) ∧ small (SbfT a0 a1)) ∧
            ((¬ ((SbfT a0 a1) = (SbfT a0 a1)) →
             Q false) ∧
            ((SbfT a0 a1) = (SbfT a0 a1) →
             ((¬ (SbfE a0 a1 = SbfE a0 a1) →
              Q false) ∧
             (SbfE a0 a1 = SbfE a0 a1 →
              (small (mkI (1 : Int) (SbfT a0 a1)) ∧ okK (1 : Int)) ∧
              ((heI (1 : Int) (mkI (1 : Int) (SbfT a0 a1)) < 0 →
               Q false) ∧
              (¬ (heI (1 : Int) (mkI (1 : Int) (SbfT a0 a1)) < 0) →
               ((¬ (heI (1 : Int) (mkI (1 : Int) (SbfT a0 a1)) = (1 : Int) + ((SbfT a0 a1).length : Int)) →
                Q false) ∧
               (heI (1 : Int) (mkI (1 : Int) (SbfT a0 a1)) = (1 : Int) + ((SbfT a0 a1).length : Int) →
                Q true))))))))))))))))))))))))))))))


@[reducible] def fine2 (t : List (List Int)) : Prop := small2 t ∧ tot t ≤ 1000000000
theorem fine2_nil : fine2 [] := ⟨⟨by simp, by simp⟩, by simp [tot]⟩
theorem mem_ranf {α : Type} {n : Int} {f : Int → α} {r : α} (h : r ∈ ran n f) : ∃ i, (0 ≤ i ∧ i < n) ∧ r = f i := by
  unfold ran at h
  obtain ⟨k, hk, rfl⟩ := List.mem_map.1 h
  have := List.mem_range.1 hk
  exact ⟨k, ⟨by omega, by omega⟩, rfl⟩
theorem fine2_tab {n : Int} {f : Int → Int → Int} (h : n ≤ 1000) : fine2 (tab n f) := by
  refine ⟨⟨by simp [tab]; omega, fun r hr => ?_⟩, ?_⟩
  · obtain ⟨i, _, rfl⟩ := mem_ranf hr
    simp; omega
  · rw [tot_tab]
    have : n.toNat ≤ 1000 := by omega
    have : n.toNat * n.toNat ≤ 1000 * 1000 := Nat.mul_le_mul this this
    omega
theorem fine2_ite {c : Prop} [Decidable c] {t : List (List Int)} (h : c → fine2 t) : fine2 (if c then t else []) := by
  split
  · exact h (by assumption)
  · exact fine2_nil
theorem small_ite {c : Prop} [Decidable c] {t : List Int} (h : c → small t) : small (if c then t else []) := by
  split
  · exact h (by assumption)
  · simp
theorem fine_mk {T : List (List Int)} (h : fine2 T) : okKT 1 T ∧ small2 (mkII 1 T) ∧ okKT 1 (mkII 1 T) ∧ heII 1 (mkII 1 T) = 1 + tot T ∧ 0 ≤ tot T := by
  have := tot_nonneg T
  have h2 := h.2
  exact ⟨⟨by omega, by omega⟩, small2_mkII h.1, ⟨by omega, by rw [tot_mkII]; omega⟩, heII_mkII 1 T, this⟩
theorem fine_mk1 {l : List Int} (h : small l) : small (mkI 1 l) ∧ heI 1 (mkI 1 l) = 1 + (l.length : Int) := ⟨by simpa using h, heI_mkI 1 l⟩
/-- What is not too large. -/
theorem sz_fine {a : List (List Int)} {left : Int} (hl : left ≤ 1000000000) (h : ¬ szII a left < 0) : fine2 a := by
  unfold szII at h
  split at h
  · omega
  · have tn := tot_nonneg a
    refine ⟨⟨by show (a.length : Int) ≤ 1000000000; omega, fun r hr => ?_⟩, by omega⟩
    obtain ⟨i, hi, rfl⟩ := mem_el hr
    have := tt_row hi
    have := (tt_le a i).1
    show ((el a i).length : Int) ≤ 1000000000; omega
theorem sz_in {a : List (List Int)} {left : Int} (hl : left ≤ 1000000000) (h : ¬ szII a left < 0) : InS (szII a left) := by
  refine ⟨by omega, ?_⟩
  unfold szII
  have := tot_nonneg a
  split <;> omega
theorem InS20 : InS 1048576 := ⟨by omega, by omega⟩
theorem fine_mkk {T : List (List Int)} {k : Int} (h : fine2 T) (hk : 0 ≤ k ∧ k ≤ 100000000000) : okKT k T ∧ ¬ (k + tot T < 0) := by
  have := tot_nonneg T
  have h2 := h.2
  exact ⟨⟨by omega, by omega⟩, by omega⟩
theorem fine_TrivT (n : Int) : fine2 (TrivT n) := fine2_ite fun h => fine2_tab (by omega)
theorem fine_DiheT (n : Int) : fine2 (DiheT n) := fine2_ite fun h => fine2_tab (by omega)
theorem fine_AlexT (n a : Int) : fine2 (AlexT n a) := fine2_ite fun h => fine2_tab (by
  unfold AlexE at h
  split at h
  · cases h
  · rename_i h2; have := Classical.not_not.1 h2; omega)
theorem fine_PermT (p : List Int) : fine2 (PermT p) := fine2_ite fun h => fine2_tab (by have := permB_len h; omega)
theorem small_SquaT (c : List (List Int)) : small (SquaT c) := small_ite fun h => by have := isTab_len h; simp [diag]; omega
theorem first3_len (n : Int) (f : Int → Int → Int → Bool) : ((first3 n f).length : Int) ≤ 3 := by
  unfold first3
  split
  · rename_i l h
    obtain ⟨x, hx, h⟩ := List.exists_of_findSome?_eq_some h
    obtain ⟨y, hy, h⟩ := List.exists_of_findSome?_eq_some h
    obtain ⟨z, hz, h⟩ := List.exists_of_findSome?_eq_some h
    split at h
    · cases h; simp
    · cases h
  · simp
theorem small_CycfT (c : List (List Int)) : small (CycfT c) := small_ite fun h => by have := first3_len (c.length : Int) (cycB c); unfold cycF; show _ ≤ (1000000000 : Int); omega

theorem tot_le_mul : ∀ (t : List (List Int)) (m : Int), 0 ≤ m → (∀ r ∈ t, (r.length : Int) ≤ m) → tot t ≤ (t.length : Int) * m
  | [], m, _, _ => by simp [tot]
  | r :: t, m, hm, h => by
    have h1 := h r List.mem_cons_self
    have h2 := tot_le_mul t m hm fun q hq => h q (List.mem_cons_of_mem _ hq)
    simp only [tot, List.length_cons, Int.natCast_add, Int.add_mul]
    omega
theorem fine2_of {t : List (List Int)} (h : (t.length : Int) ≤ 1000) (h2 : ∀ r ∈ t, (r.length : Int) ≤ 1000) : fine2 t := by
  refine ⟨⟨by show (t.length : Int) ≤ 1000000000; omega, fun r hr => by have := h2 r hr; show (r.length : Int) ≤ 1000000000; omega⟩, ?_⟩
  have a := tot_le_mul t 1000 (by omega) h2
  have b : (t.length : Int) * 1000 ≤ 1000 * 1000 := by omega
  omega
theorem fine2_isTab {t : List (List Int)} (h : isTab t = true) : fine2 t := fine2_of (by have := isTab_len h; omega) fun r hr => by
  obtain ⟨i, hi, rfl⟩ := mem_el hr
  have a := (isTab_row h hi).1; have b := isTab_len h; omega
theorem small_RkfT (r : List (List Int)) : small (RkfT r) := small_ite fun h => by have := first3_len (r.length : Int) (rackB r); unfold rackF; show _ ≤ (1000000000 : Int); omega
theorem small_dg (c : List (List Int)) : small (KinT c) := small_ite fun h => small_diag (isRk_tab h)
theorem fine_AffT (n a b c : Int) : fine2 (AffT n a b c) := fine2_ite fun h => fine2_tab (by
  unfold AffE at h
  split at h
  · rename_i h2; simp only [inN, Bool.and_eq_true, decide_eq_true_eq] at h2; omega
  · cases h)
theorem fine_Dual (r : List (List Int)) : fine2 (DuaT r) := fine2_ite fun h => by
  have ht := isRk_tab h
  have hn := isTab_len ht
  refine fine2_of (by simp; omega) fun q hq => ?_
  obtain ⟨u, hu, rfl⟩ := List.mem_map.1 hq
  obtain ⟨i, hi, rfl⟩ := mem_el hu
  have := rk_len ht hi
  simp; omega
theorem fine_Quat (r : List (List Int)) : fine2 (QuaR r) := fine2_ite fun h => fine2_tab (by have := isTab_len (isRk_tab h); omega)
theorem fine_Pro (a b : List (List Int)) : fine2 (ProT a b) := fine2_ite fun h => fine2_tab (by
  unfold ProE at h
  split at h
  · rename_i h2
    simp only [Bool.and_eq_true] at h2
    have x := isTab_len (isRk_tab h2.1)
    have y := isTab_len (isRk_tab h2.2)
    have := mulB (a := (a.length : Int)) (i := (b.length : Int)) (A := 12) (B := 12) ⟨by omega, by omega, by omega, by omega⟩
    omega
  · cases h)
theorem fine_Uni (a b : List (List Int)) : fine2 (UniT a b) := fine2_ite fun h => fine2_tab (by
  unfold UniE at h
  split at h
  · rename_i h2
    simp only [Bool.and_eq_true] at h2
    have x := isTab_len (isRk_tab h2.1)
    have y := isTab_len (isRk_tab h2.2)
    omega
  · cases h)
theorem small_Ror (r : List (List Int)) : small (RorT r) := small_ite fun h => by
  have := isTab_len (isRk_tab h)
  have := orbI_len (n := (r.length : Int)) (by omega) (isRk_permsN h)
  show _ ≤ (1000000000 : Int); omega
theorem small_Sub (r : List (List Int)) : small (SubT r) := small_ite fun h => by
  have := isTab_len (isRk_tab h)
  have p2 := pow2_le (k := r.length) (by omega)
  have := subsI_len r ((2 : Int) ^ r.length)
  show _ ≤ (1000000000 : Int); omega
theorem fine_so {T0 T1 : List (List Int)} (h0 : fine2 T0) (h1 : fine2 T1) : 1 + tot T0 + tot T1 ≤ 1000000000000 ∧ small2 (mkII 1 T0) ∧ small2 (mkII (1 + tot T0) T1) ∧ heSo 1 (mkII 1 T0) (mkII (1 + tot T0) T1) = 1 + tot T0 + tot T1 ∧ ¬ (1 + tot T0 + tot T1 < 0) := by
  have t0 := tot_nonneg T0
  have t1 := tot_nonneg T1
  have a := h0.2
  have b := h1.2
  refine ⟨by omega, small2_mkII h0.1, small2_mkII h1.1, ?_, by omega⟩
  unfold heSo
  rw [heII_mkII, heII_mkII, if_neg (by omega), if_neg (by omega)]
theorem fine_Cjq (l : List (List Int)) : fine2 (CjqT l) := fine2_ite fun h => fine2_tab (by
  unfold CjqE at h
  split at h
  · split at h
    · cases h
    · omega
  · cases h)
theorem fine_RsoA (r : List (List Int)) : fine2 (RsoA r) := fine2_ite fun h => fine2_isTab (isRk_tab h)
theorem fine_RsoB (r : List (List Int)) : fine2 (RsoB r) := fine2_ite fun h => fine2_tab (by have := isTab_len (isRk_tab h); omega)
theorem small_Row (c : List (List Int)) : small (RowT c) := small_ite fun h => by
  have := isTab_len (isCyc_tab h)
  show _ ≤ (1000000000 : Int); simp; omega
theorem fine_Res (r : List (List Int)) (l : List Int) : fine2 (ResT r l) := fine2_ite fun h => fine2_tab (by
  unfold ResE at h
  split at h
  · rename_i h1
    split at h
    · rename_i h2
      simp only [Bool.and_eq_true] at h2
      have := res_len (isRk_tab h1) (res_el h2.1) h2.2
      omega
    · cases h
  · cases h)
theorem fine_Quo (r : List (List Int)) (c : List Int) : fine2 (QuoT r c) := fine2_ite fun h => fine2_tab (by
  unfold QuoE at h
  split at h
  · rename_i h1
    simp only [Bool.and_eq_true] at h1
    have a := canN_le (partB_can h1.2)
    have b := partB_len h1.2
    have d := isTab_len (isRk_tab h1.1)
    omega
  · cases h)
theorem fine_SocA (c : List (List Int)) : fine2 (SocA c) := fine2_ite fun h => fine2_tab (by have := isTab_len (isCyc_tab h); omega)
theorem fine_SocB (c : List (List Int)) : fine2 (SocB c) := fine2_ite fun h => fine2_tab (by have := isTab_len (isCyc_tab h); omega)
theorem fine_Dcy (c : List (List Int)) : fine2 (DcyT c) := fine2_ite fun h => by
  have hB := isTab_trnT (isTab_cyBT (isCyc_tab h) (isCyc_perm h))
  have hn := isTab_len hB
  refine fine2_of (by simp; omega) fun q hq => ?_
  obtain ⟨u, hu, rfl⟩ := List.mem_map.1 hq
  obtain ⟨i, hi, rfl⟩ := mem_el hu
  have := rk_len hB hi
  simp; omega
theorem small_Cgf (r : List (List Int)) (x y : Int) : small (CgfT r x y) := small_ite fun h => by
  unfold CgfE at h
  split at h
  · rename_i h1
    split at h
    · rename_i h2
      simp only [inN, Bool.and_eq_true, decide_eq_true_eq] at h2
      have := (cgI_is (isRk_tab h1) ⟨h2.1.1, by omega⟩ ⟨h2.2.1, by omega⟩).1
      have := isTab_len (isRk_tab h1)
      show ((cgI r x y).length : Int) ≤ 1000000000
      omega
    · cases h
  · cases h
theorem fine_Cso (s t : List (List Int)) : fine2 (CsoT s t) := fine2_ite fun h => by
  have hb : pmB s t = true := by
    unfold CsoE at h
    split at h
    · rename_i h1; simp only [solB, Bool.and_eq_true] at h1; exact h1.1.1
    · cases h
  have hB := (pm_tab hb).1
  have hn := isTab_len hB
  refine fine2_of (by simp; omega) fun q hq => ?_
  obtain ⟨u, hu, rfl⟩ := List.mem_map.1 hq
  obtain ⟨i, hi, rfl⟩ := mem_el hu
  have := rk_len hB hi
  simp; omega
theorem small_Sbf (r : List (List Int)) (l : List Int) : small (SbfT r l) := small_ite fun h => by
  unfold SbfE at h
  split at h
  · rename_i h1
    have hn := isTab_len (isRk_tab h1)
    have := List.length_filter_le (fun x => dec (Sc r l x)) (ran (r.length : Int) id)
    have e : (ran (r.length : Int) id).length = r.length := by simp
    show ((sbI r l).length : Int) ≤ 1000000000
    unfold sbI
    omega
  · cases h

theorem p_laws_FnExactSubrackFrom (a0 : List (List Int)) (a1 : List Int) (hp : huge2 a0 ∧ a1.length ≤ 9223372036854775807) : wp_laws_FnExactSubrackFrom a0 a1 (fun y0 => y0 = true) := by
  unfold wp_laws_FnExactSubrackFrom
  obtain ⟨ha0, ha1⟩ := hp
  by_cases za1 : 1048576 < (a1.length : Int)
  · simp [eq_true InS20, eq_true ha0, eq_true ha1, za1]
  have fa1 : small a1 := by show (a1.length : Int) ≤ 1000000000; omega
  by_cases za0 : szII a0 1048576 < 0
  · simp [eq_true InS20, eq_true ha0, eq_true ha1, za1, eq_true fa1, za0]
  have fa0 := sz_fine (by omega) za0
  have ia0 := sz_in (by omega) za0
  have j0 : 0 ≤ (1 : Int) ∧ (1 : Int) ≤ 100000000000 := ⟨by omega, by omega⟩
  have ma0 := fine_mkk fa0 j0
  have ta0 := tot_nonneg a0
  have j1 : 0 ≤ 1 + tot a0 ∧ 1 + tot a0 ≤ 100000000000 := ⟨by omega, by have := fa0.2; omega⟩
  have ma1 : okK (1 + tot a0) := ⟨by omega, by omega⟩
  have j2 : 0 ≤ 1 + tot a0 + (a1.length : Int) ∧ 1 + tot a0 + (a1.length : Int) ≤ 100000000000 := ⟨by omega, by omega⟩
  have na1 : ¬ (1 + tot a0 + (a1.length : Int) < 0) := by omega
  have k1 : okK 1 := ⟨by omega, by omega⟩
  have r0 := small_Sbf a0 a1
  generalize SbfT a0 a1 = T0 at *
  have q0 := fine_mk1 r0
  have p0 : ¬ (1 + (T0.length : Int) < 0) := by omega
  simp [eq_true InS20, eq_true ha0, eq_true ha1, za1, eq_true fa1, za0, eq_true fa0.1, eq_true ia0, eq_true ma0.1, ma0.2, eq_true ma1, na1, eq_true k1, eq_true r0, eq_true q0.1, q0.2, p0]
set_option maxRecDepth 100000 in
set_option maxHeartbeats 1000000 in
theorem w_laws_FnExactSubrackFrom (a0 : List (List Int)) (a1 : List Int) (Q : Bool → Prop) (h : wp_laws_FnExactSubrackFrom a0 a1 Q) : AF Try.prog 4 [.agg [.lst (rows a0)], .lst (ints a1)] (fun R_ => ∃ y0, Q y0 ∧ R_ = cb y0) := by
  refine AF.ofWQ (af_enter (n := 117) Try.func4 rfl (by rfl) rfl (Nat.le_of_ble_eq_true rfl) ?_)
  unfold wp_laws_FnExactSubrackFrom at h
  refine aw_seq ?_
  refine aw_gh (gh_to (n := 117) (σ' := []) (env' := [(0, .c (.agg [.lst (rows a0)])), (1, .c (.lst (ints a1)))]) rfl rfl ⟨rfl, rfl, trivial⟩) ?_
  refine aw_region ?_
  refine run_w (ws_boxR rfl (.inl rfl) rfl ⟨rfl, ?_⟩)
  refine run_s (ss_assign rfl) rfl ?_
  refine run_nil ?_
  refine aw_seq ?_
  refine aw_seq ?_
  refine aw_region ?_
  refine run_s (ss_move rfl) rfl ?_
  refine run_s (ss_lenL (f := ci) rfl) rfl ?_
  refine run_s (ss_gtr rfl rfl) rfl ?_
  refine run_nil ?_
  refine aw_cond rfl (fun q1 => ?_) (fun q1 => ?_)
  · replace h := h.1 (of_decide_eq_true q1)
    refine aw_seq ?_
    refine aw_gh (gh_to (n := 117) (σ' := []) (env' := [(4, .c (cb false))]) rfl rfl ⟨rfl, trivial⟩) ?_
    refine aw_region ?_
    refine run_s (ss_assign rfl) rfl ?_
    refine run_nil ?_
    refine aw_ret ?_
    exact retAF_mk (retv1 rfl (rv_tmp rfl)) rfl rfl ⟨_, (cle_refl _), _, h, rfl⟩
  · replace h := h.2 (of_decide_eq_false q1)
    refine aw_skip ?_
    refine aw_seq ?_
    refine aw_region ?_
    refine run_s (ss_assign rfl) rfl ?_
    refine run_nil ?_
    refine aw_seq ?_
    refine aw_region ?_
    refine run_s (ss_load_struct rfl (Nat.le_of_ble_eq_true rfl)) rfl ?_
    refine run_s (ss_move rfl) rfl ?_
    obtain ⟨q2, h⟩ := h
    refine run_w (ws_call (xs := [.tmp 20, .tmp 21]) (ids := []) rfl rfl rfl rfl (c_laws_szRack a0 1048576 q2) rfl ?_ )
    rintro _ rfl
    refine ⟨rfl, ?_⟩
    refine run_s (ss_assign rfl) rfl ?_
    refine run_nil ?_
    refine aw_seq ?_
    refine aw_seq ?_
    refine aw_region ?_
    refine run_s (ss_move rfl) rfl ?_
    refine run_s (ss_lss rfl rfl) rfl ?_
    refine run_nil ?_
    refine aw_cond rfl (fun q4 => ?_) (fun q4 => ?_)
    · replace h := h.1 (of_decide_eq_true q4)
      refine aw_seq ?_
      refine aw_gh (gh_to (n := 117) (σ' := []) (env' := [(4, .c (cb false))]) rfl rfl ⟨rfl, trivial⟩) ?_
      refine aw_region ?_
      refine run_s (ss_assign rfl) rfl ?_
      refine run_nil ?_
      refine aw_ret ?_
      exact retAF_mk (retv1 rfl (rv_tmp rfl)) rfl rfl ⟨_, (cle_refl _), _, h, rfl⟩
    · replace h := h.2 (of_decide_eq_false q4)
      refine aw_skip ?_
      refine aw_seq ?_
      refine aw_region ?_
      refine run_s (ss_load_struct rfl (Nat.le_of_ble_eq_true rfl)) rfl ?_
      obtain ⟨q5, h⟩ := h
      refine run_w (ws_call (xs := [.tmp 26]) (ids := [27]) rfl rfl rfl rfl (c_laws_toRack a0 q5) rfl ?_ )
      rintro _ rfl
      refine ⟨rfl, ?_⟩
      refine run_s (ss_move rfl) rfl ?_
      obtain ⟨q7, h⟩ := h
      refine run_w (ws_call (xs := [.tmp 28]) (ids := [29]) rfl rfl rfl rfl (c_laws_toInt64S a1 q7) rfl ?_ )
      rintro _ rfl
      refine ⟨rfl, ?_⟩
      obtain ⟨q9, h⟩ := h
      refine run_w (ws_callR (xs := [.tmp 27, .tmp 29]) (cs := [.agg [.own (orows a0)], .own (ints a1)]) (ids := [30]) rfl (.inr ⟨rfl, rfl⟩) rfl rfl (fz_cons (fz_agg (fz_cons (fz_own (fz_map (fun _ => (fz_own (fz_map (fun _ => rfl) _))) _)) fz_nil)) (fz_cons (fz_own (fz_map (fun _ => rfl) _)) fz_nil)) (c_spec_SubrackFrom a0 a1 q9) rfl ?_ )
      rintro _ rfl
      refine ⟨(slf_tup (slf_cons (slf_own (slfL_map (f := ci) (fun _ => rfl) _)) (slf_cons rfl slf_nil))), rfl, ?_⟩
      refine run_s (ss_move rfl) rfl ?_
      refine run_s (ss_extract rfl rfl) rfl ?_
      refine run_s (ss_extract rfl rfl) rfl ?_
      refine run_s (ss_assign rfl) rfl ?_
      refine run_s (ss_assign rfl) rfl ?_
      refine run_nil ?_
      refine aw_seq ?_
      refine aw_gh (gh_to (n := 117) (σ' := [(30, ⟨ints (SbfT a0 a1), []⟩), (29, ⟨ints a1, []⟩), (27, ⟨orows a0, []⟩)]) (env' := [(1, .c (.lst (ints a1))), (2, .c (.ptr [.lst (rows a0)])), (6, .ref 30), (7, .c (ci (SbfE a0 a1)))]) rfl rfl ⟨rfl, rfl, rfl, rfl, trivial⟩) ?_
      refine aw_region ?_
      refine run_s (ss_load_struct rfl (Nat.le_of_ble_eq_true rfl)) rfl ?_
      obtain ⟨q11, h⟩ := h
      refine run_w (ws_call (xs := [.tmp 33]) (ids := [34]) rfl rfl rfl rfl (c_laws_toRack a0 q11) rfl ?_ )
      rintro _ rfl
      refine ⟨rfl, ?_⟩
      refine run_w (ws_alloc (id := 8) rfl (Nat.le_of_ble_eq_true rfl) ⟨rfl, ?_⟩)
      refine run_w (ws_storeS rfl rfl (Nat.le_of_ble_eq_true rfl) rfl rfl rfl ⟨rfl, ?_⟩)
      refine run_nil ?_
      refine aw_seq ?_
      refine aw_region ?_
      refine run_s (ss_move rfl) rfl ?_
      obtain ⟨q13, h⟩ := h
      refine run_w (ws_call (xs := [.tmp 35]) (ids := [36]) rfl rfl rfl rfl (c_laws_toInt64S a1 q13) rfl ?_ )
      rintro _ rfl
      refine ⟨rfl, ?_⟩
      refine run_s (ss_assign rfl) rfl ?_
      refine run_nil ?_
      refine aw_seq ?_
      refine aw_region ?_
      refine run_s (ss_loadS rfl rfl rfl rfl) rfl ?_
      refine run_s (ss_move rfl) rfl ?_
      obtain ⟨q15, h⟩ := h
      refine run_w (ws_callR (xs := [.tmp 38, .tmp 39]) (cs := [.agg [.own (orows a0)], .own (ints a1)]) (ids := [40]) rfl (.inr ⟨rfl, rfl⟩) rfl rfl (fz_cons (fz_agg (fz_cons (fz_own (fz_map (fun _ => (fz_own (fz_map (fun _ => rfl) _))) _)) fz_nil)) (fz_cons (fz_own (fz_map (fun _ => rfl) _)) fz_nil)) (c_impl_SubrackFrom a0 a1 q15) rfl ?_ )
      rintro _ rfl
      refine ⟨(slf_tup (slf_cons (slf_own (slfL_map (f := ci) (fun _ => rfl) _)) (slf_cons rfl slf_nil))), rfl, ?_⟩
      refine run_s (ss_move rfl) rfl ?_
      refine run_s (ss_extract rfl rfl) rfl ?_
      refine run_s (ss_extract rfl rfl) rfl ?_
      refine run_s (ss_assign rfl) rfl ?_
      refine run_s (ss_assign rfl) rfl ?_
      refine run_nil ?_
      refine aw_seq ?_
      refine aw_seq ?_
      refine aw_gh (gh_to (n := 117) (σ' := [(40, ⟨ints (SbfT a0 a1), []⟩), (36, ⟨ints a1, []⟩), (8, ⟨[.hole], [(0, .ref 34)]⟩), (34, ⟨orows a0, []⟩), (30, ⟨ints (SbfT a0 a1), []⟩), (29, ⟨ints a1, []⟩), (27, ⟨orows a0, []⟩)]) (env' := [(1, .c (.lst (ints a1))), (2, .c (.ptr [.lst (rows a0)])), (6, .ref 30), (7, .c (ci (SbfE a0 a1))), (8, .cell 8 0), (9, .ref 36), (10, .ref 40), (11, .c (ci (SbfE a0 a1)))]) rfl rfl ⟨rfl, rfl, rfl, rfl, rfl, rfl, rfl, rfl, trivial⟩) ?_
      refine aw_region ?_
      refine run_s (ss_move rfl) rfl ?_
      refine run_s (ss_move rfl) rfl ?_
      obtain ⟨q17, h⟩ := h
      refine run_w (ws_callR (xs := [.tmp 43, .tmp 44]) (cs := [.own (ints (SbfT a0 a1)), .own (ints (SbfT a0 a1))]) (ids := []) rfl (.inr ⟨rfl, rfl⟩) rfl rfl (fz_cons (fz_own (fz_map (fun _ => rfl) _)) (fz_cons (fz_own (fz_map (fun _ => rfl) _)) fz_nil)) (c_laws_eqInt64S (SbfT a0 a1) (SbfT a0 a1) q17) rfl ?_ )
      rintro _ rfl
      refine ⟨rfl, rfl, ?_⟩
      refine run_s (ss_not rfl) rfl ?_
      refine run_s (ss_move rfl) rfl ?_
      refine run_split (s := 47) rfl (fun q19 => ?_) (fun q19 => ?_)
      · replace h := h.1 (of_decide_eq_false (bnot_t q19))
        refine run_gf rfl rfl q19 rfl ?_
        refine run_gf rfl rfl q19 rfl ?_
        refine run_gf rfl rfl q19 rfl ?_
        refine run_s (ss_pickT rfl q19 rfl) rfl ?_
        refine run_nil ?_
        refine aw_cond rfl (fun q20 => ?_) (fun q20 => ?_)
        · skip
          refine aw_seq ?_
          refine aw_gh (gh_to (n := 117) (σ' := [(40, ⟨ints (SbfT a0 a1), []⟩), (36, ⟨ints a1, []⟩), (8, ⟨[.hole], [(0, .ref 34)]⟩), (34, ⟨orows a0, []⟩), (30, ⟨ints (SbfT a0 a1), []⟩), (29, ⟨ints a1, []⟩), (27, ⟨orows a0, []⟩)]) (env' := []) rfl rfl trivial) ?_
          refine aw_region ?_
          refine run_s (ss_assign rfl) rfl ?_
          refine run_nil ?_
          refine aw_ret ?_
          exact retAF_mk (retv1 rfl (rv_tmp rfl)) rfl rfl ⟨_, (cle_refl _), _, h, rfl⟩
        · cases q20
      · replace h := h.2 (of_decide_eq_true (bnot_f q19))
        refine run_gt rfl rfl q19 ?_
        refine run_s (ss_move rfl) rfl ?_
        refine run_gt rfl rfl q19 ?_
        refine run_s (ss_move rfl) rfl ?_
        refine run_gt rfl rfl q19 ?_
        refine run_s (ss_neq rfl rfl) rfl ?_
        refine run_s (ss_pickF rfl q19 rfl) rfl ?_
        refine run_nil ?_
        refine aw_cond rfl (fun q21 => ?_) (fun q21 => ?_)
        · replace h := h.1 (of_decide_eq_false (bnot_t q21))
          refine aw_seq ?_
          refine aw_gh (gh_to (n := 117) (σ' := [(40, ⟨ints (SbfT a0 a1), []⟩), (36, ⟨ints a1, []⟩), (8, ⟨[.hole], [(0, .ref 34)]⟩), (34, ⟨orows a0, []⟩), (30, ⟨ints (SbfT a0 a1), []⟩), (29, ⟨ints a1, []⟩), (27, ⟨orows a0, []⟩)]) (env' := []) rfl rfl trivial) ?_
          refine aw_region ?_
          refine run_s (ss_assign rfl) rfl ?_
          refine run_nil ?_
          refine aw_ret ?_
          exact retAF_mk (retv1 rfl (rv_tmp rfl)) rfl rfl ⟨_, (cle_refl _), _, h, rfl⟩
        · replace h := h.2 (of_decide_eq_true (bnot_f q21))
          refine aw_skip ?_
          refine aw_seq ?_
          refine aw_seq ?_
          refine aw_gh (gh_to (n := 117) (σ' := [(40, ⟨ints (SbfT a0 a1), []⟩), (36, ⟨ints a1, []⟩), (8, ⟨[.hole], [(0, .ref 34)]⟩), (34, ⟨orows a0, []⟩), (30, ⟨ints (SbfT a0 a1), []⟩), (29, ⟨ints a1, []⟩), (27, ⟨orows a0, []⟩)]) (env' := [(1, .c (.lst (ints a1))), (2, .c (.ptr [.lst (rows a0)])), (6, .ref 30), (7, .c (ci (SbfE a0 a1))), (8, .cell 8 0), (9, .ref 36), (10, .ref 40), (11, .c (ci (SbfE a0 a1)))]) rfl rfl ⟨rfl, rfl, rfl, rfl, rfl, rfl, rfl, rfl, trivial⟩) ?_
          refine aw_regionD (kd := kdl [1, 1, 2, 2, 0]) (ord := [0, 1, 2, 3, 4]) [] mixed (by kernel_rfl) ?_
          refine rd_l rfl rfl trivial (ss_loadS rfl rfl rfl rfl) rfl ?_
          refine rd_l rfl rfl trivial (ss_load_struct rfl (Nat.le_of_ble_eq_true rfl)) rfl ?_
          obtain ⟨q22, h⟩ := h
          refine rd_w rfl rfl trivial rfl rfl (ws_call (xs := [.tmp 53]) (ids := [54]) rfl rfl rfl rfl (c_laws_toRack a0 q22) rfl ?_ )
          rintro _ rfl
          refine ⟨rfl, ?_⟩
          obtain ⟨q24, h⟩ := h
          refine rd_w rfl rfl trivial rfl rfl (ws_callR (xs := [.tmp 52, .tmp 54]) (cs := [.agg [.own (orows a0)], .agg [.own (orows a0)]]) (ids := []) rfl (.inr ⟨rfl, rfl⟩) rfl rfl (fz_cons (fz_agg (fz_cons (fz_own (fz_map (fun _ => (fz_own (fz_map (fun _ => rfl) _))) _)) fz_nil)) (fz_cons (fz_agg (fz_cons (fz_own (fz_map (fun _ => (fz_own (fz_map (fun _ => rfl) _))) _)) fz_nil)) fz_nil)) (c_laws_eqRack a0 a0 q24) rfl ?_ )
          rintro _ rfl
          refine ⟨rfl, rfl, ?_⟩
          refine rd_s rfl rfl trivial (ss_not rfl) rfl ?_
          refine rd_nil ?_
          refine aw_cond rfl (fun q26 => ?_) (fun q26 => ?_)
          · replace h := h.1 (of_decide_eq_false (bnot_t q26))
            refine aw_seq ?_
            refine aw_gh (gh_to (n := 117) (σ' := [(54, ⟨orows a0, []⟩), (40, ⟨ints (SbfT a0 a1), []⟩), (36, ⟨ints a1, []⟩), (8, ⟨[.hole], [(0, .ref 34)]⟩), (34, ⟨orows a0, []⟩), (30, ⟨ints (SbfT a0 a1), []⟩), (29, ⟨ints a1, []⟩), (27, ⟨orows a0, []⟩)]) (env' := []) rfl rfl trivial) ?_
            refine aw_region ?_
            refine run_s (ss_assign rfl) rfl ?_
            refine run_nil ?_
            refine aw_ret ?_
            exact retAF_mk (retv1 rfl (rv_tmp rfl)) rfl rfl ⟨_, (cle_refl _), _, h, rfl⟩
          · replace h := h.2 (of_decide_eq_true (bnot_f q26))
            refine aw_skip ?_
            refine aw_seq ?_
            refine aw_seq ?_
            refine aw_region ?_
            refine run_s (ss_move rfl) rfl ?_
            refine run_s (ss_move rfl) rfl ?_
            obtain ⟨q27, h⟩ := h
            refine run_w (ws_call (xs := [.tmp 58]) (ids := [59]) rfl rfl rfl rfl (c_laws_toInt64S a1 q27) rfl ?_ )
            rintro _ rfl
            refine ⟨rfl, ?_⟩
            obtain ⟨q29, h⟩ := h
            refine run_w (ws_callR (xs := [.tmp 57, .tmp 59]) (cs := [.own (ints a1), .own (ints a1)]) (ids := []) rfl (.inr ⟨rfl, rfl⟩) rfl rfl (fz_cons (fz_own (fz_map (fun _ => rfl) _)) (fz_cons (fz_own (fz_map (fun _ => rfl) _)) fz_nil)) (c_laws_eqInt64S a1 a1 q29) rfl ?_ )
            rintro _ rfl
            refine ⟨rfl, rfl, ?_⟩
            refine run_s (ss_not rfl) rfl ?_
            refine run_nil ?_
            refine aw_cond rfl (fun q31 => ?_) (fun q31 => ?_)
            · replace h := h.1 (of_decide_eq_false (bnot_t q31))
              refine aw_seq ?_
              refine aw_gh (gh_to (n := 117) (σ' := [(59, ⟨ints a1, []⟩), (54, ⟨orows a0, []⟩), (40, ⟨ints (SbfT a0 a1), []⟩), (36, ⟨ints a1, []⟩), (8, ⟨[.hole], [(0, .ref 34)]⟩), (34, ⟨orows a0, []⟩), (30, ⟨ints (SbfT a0 a1), []⟩), (29, ⟨ints a1, []⟩), (27, ⟨orows a0, []⟩)]) (env' := []) rfl rfl trivial) ?_
              refine aw_region ?_
              refine run_s (ss_assign rfl) rfl ?_
              refine run_nil ?_
              refine aw_ret ?_
              exact retAF_mk (retv1 rfl (rv_tmp rfl)) rfl rfl ⟨_, (cle_refl _), _, h, rfl⟩
            · replace h := h.2 (of_decide_eq_true (bnot_f q31))
              refine aw_skip ?_
              refine aw_seq ?_
              refine aw_region ?_
              refine run_s (ss_assign rfl) rfl ?_
              refine run_nil ?_
              refine aw_seq ?_
              refine aw_region ?_
              refine run_s (ss_loadS rfl rfl rfl rfl) rfl ?_
              refine run_s (ss_move rfl) rfl ?_
              obtain ⟨q32, h⟩ := h
              refine run_w (ws_callM (xs := [.tmp 62, .tmp 63]) (cs := [.agg [.own (orows a0)], ci 1]) (ids := []) rfl (.inr ⟨rfl, rfl⟩) rfl rfl rfl (c_laws_markRack a0 1 q32) rfl rfl ?_ )
              rintro _ _ ⟨rfl, rfl⟩
              refine ⟨rfl, rfl, ?_⟩
              refine run_s (ss_assign rfl) rfl ?_
              refine run_nil ?_
              refine aw_seq ?_
              refine aw_region ?_
              refine run_s (ss_move rfl) rfl ?_
              refine run_s (ss_move rfl) rfl ?_
              obtain ⟨q34, h⟩ := h
              refine run_w (ws_callM (xs := [.tmp 65, .tmp 66]) (cs := [.own (ints a1), ci ((1 : Int) + tot a0)]) (ids := []) rfl (.inr ⟨rfl, rfl⟩) rfl rfl rfl (c_laws_markInt64S a1 ((1 : Int) + tot a0) q34) rfl rfl ?_ )
              rintro _ _ ⟨rfl, rfl⟩
              refine ⟨rfl, rfl, ?_⟩
              refine run_s (ss_assign rfl) rfl ?_
              refine run_nil ?_
              refine aw_seq ?_
              refine aw_seq ?_
              refine aw_region ?_
              refine run_s (ss_move rfl) rfl ?_
              refine run_s (ss_lss rfl rfl) rfl ?_
              refine run_s (ss_move rfl) rfl ?_
              refine run_split (s := 70) rfl (fun q36 => ?_) (fun q36 => ?_)
              · replace h := h.1 (of_decide_eq_true q36)
                refine run_gf rfl rfl q36 rfl ?_
                refine run_gf rfl rfl q36 rfl ?_
                refine run_gf rfl rfl q36 rfl ?_
                refine run_gf rfl rfl q36 rfl ?_
                refine run_s (ss_pickT rfl q36 rfl) rfl ?_
                refine run_s (ss_move rfl) rfl ?_
                refine run_split (s := 76) rfl (fun q37 => ?_) (fun q37 => ?_)
                · skip
                  refine run_gf rfl rfl q37 rfl ?_
                  refine run_gf rfl rfl q37 rfl ?_
                  refine run_gf rfl rfl q37 rfl ?_
                  refine run_s (ss_pickT rfl q37 rfl) rfl ?_
                  refine run_nil ?_
                  refine aw_cond rfl (fun q38 => ?_) (fun q38 => ?_)
                  · skip
                    refine aw_seq ?_
                    refine aw_gh (gh_to (n := 117) (σ' := [(59, ⟨ints a1, []⟩), (54, ⟨orows a0, []⟩), (40, ⟨ints (SbfT a0 a1), []⟩), (36, ⟨ints (mkI ((1 : Int) + tot a0) a1), []⟩), (8, ⟨[.hole], [(0, .ref 34)]⟩), (34, ⟨orows (mkII (1 : Int) a0), []⟩), (30, ⟨ints (SbfT a0 a1), []⟩), (29, ⟨ints a1, []⟩), (27, ⟨orows a0, []⟩)]) (env' := []) rfl rfl trivial) ?_
                    refine aw_region ?_
                    refine run_s (ss_assign rfl) rfl ?_
                    refine run_nil ?_
                    refine aw_ret ?_
                    exact retAF_mk (retv1 rfl (rv_tmp rfl)) rfl rfl ⟨_, (cle_refl _), _, h, rfl⟩
                  · cases q38
                · cases q37
              · replace h := h.2 (of_decide_eq_false q36)
                refine run_gt rfl rfl q36 ?_
                refine run_s (ss_move rfl) rfl ?_
                refine run_gt rfl rfl q36 ?_
                refine run_s (ss_move rfl) rfl ?_
                refine run_gt rfl rfl q36 ?_
                obtain ⟨q39, h⟩ := h
                refine run_w (ws_callR (xs := [.tmp 71, .tmp 72]) (cs := [.own (ints (SbfT a0 a1)), .own (ints (SbfT a0 a1))]) (ids := []) rfl (.inr ⟨rfl, rfl⟩) rfl rfl (fz_cons (fz_own (fz_map (fun _ => rfl) _)) (fz_cons (fz_own (fz_map (fun _ => rfl) _)) fz_nil)) (c_laws_eqInt64S (SbfT a0 a1) (SbfT a0 a1) q39) rfl ?_ )
                rintro _ rfl
                refine ⟨rfl, rfl, ?_⟩
                refine run_gt rfl rfl q36 ?_
                refine run_s (ss_not rfl) rfl ?_
                refine run_s (ss_pickF rfl q36 rfl) rfl ?_
                refine run_s (ss_move rfl) rfl ?_
                refine run_split (s := 76) rfl (fun q41 => ?_) (fun q41 => ?_)
                · replace h := h.1 (of_decide_eq_false (bnot_t q41))
                  refine run_gf rfl rfl q41 rfl ?_
                  refine run_gf rfl rfl q41 rfl ?_
                  refine run_gf rfl rfl q41 rfl ?_
                  refine run_s (ss_pickT rfl q41 rfl) rfl ?_
                  refine run_nil ?_
                  refine aw_cond rfl (fun q42 => ?_) (fun q42 => ?_)
                  · skip
                    refine aw_seq ?_
                    refine aw_gh (gh_to (n := 117) (σ' := [(59, ⟨ints a1, []⟩), (54, ⟨orows a0, []⟩), (40, ⟨ints (SbfT a0 a1), []⟩), (36, ⟨ints (mkI ((1 : Int) + tot a0) a1), []⟩), (8, ⟨[.hole], [(0, .ref 34)]⟩), (34, ⟨orows (mkII (1 : Int) a0), []⟩), (30, ⟨ints (SbfT a0 a1), []⟩), (29, ⟨ints a1, []⟩), (27, ⟨orows a0, []⟩)]) (env' := []) rfl rfl trivial) ?_
                    refine aw_region ?_
                    refine run_s (ss_assign rfl) rfl ?_
                    refine run_nil ?_
                    refine aw_ret ?_
                    exact retAF_mk (retv1 rfl (rv_tmp rfl)) rfl rfl ⟨_, (cle_refl _), _, h, rfl⟩
                  · cases q42
                · replace h := h.2 (of_decide_eq_true (bnot_f q41))
                  refine run_gt rfl rfl q41 ?_
                  refine run_s (ss_move rfl) rfl ?_
                  refine run_gt rfl rfl q41 ?_
                  refine run_s (ss_move rfl) rfl ?_
                  refine run_gt rfl rfl q41 ?_
                  refine run_s (ss_neq rfl rfl) rfl ?_
                  refine run_s (ss_pickF rfl q41 rfl) rfl ?_
                  refine run_nil ?_
                  refine aw_cond rfl (fun q43 => ?_) (fun q43 => ?_)
                  · replace h := h.1 (of_decide_eq_false (bnot_t q43))
                    refine aw_seq ?_
                    refine aw_gh (gh_to (n := 117) (σ' := [(59, ⟨ints a1, []⟩), (54, ⟨orows a0, []⟩), (40, ⟨ints (SbfT a0 a1), []⟩), (36, ⟨ints (mkI ((1 : Int) + tot a0) a1), []⟩), (8, ⟨[.hole], [(0, .ref 34)]⟩), (34, ⟨orows (mkII (1 : Int) a0), []⟩), (30, ⟨ints (SbfT a0 a1), []⟩), (29, ⟨ints a1, []⟩), (27, ⟨orows a0, []⟩)]) (env' := []) rfl rfl trivial) ?_
                    refine aw_region ?_
                    refine run_s (ss_assign rfl) rfl ?_
                    refine run_nil ?_
                    refine aw_ret ?_
                    exact retAF_mk (retv1 rfl (rv_tmp rfl)) rfl rfl ⟨_, (cle_refl _), _, h, rfl⟩
                  · replace h := h.2 (of_decide_eq_true (bnot_f q43))
                    refine aw_skip ?_
                    refine aw_seq ?_
                    refine aw_gh (gh_to (n := 117) (σ' := [(59, ⟨ints a1, []⟩), (54, ⟨orows a0, []⟩), (40, ⟨ints (SbfT a0 a1), []⟩), (36, ⟨ints (mkI ((1 : Int) + tot a0) a1), []⟩), (8, ⟨[.hole], [(0, .ref 34)]⟩), (34, ⟨orows (mkII (1 : Int) a0), []⟩), (30, ⟨ints (SbfT a0 a1), []⟩), (29, ⟨ints a1, []⟩), (27, ⟨orows a0, []⟩)]) (env' := [(1, .c (.lst (ints a1))), (2, .c (.ptr [.lst (rows a0)])), (6, .ref 30), (7, .c (ci (SbfE a0 a1))), (10, .ref 40)]) rfl rfl ⟨rfl, rfl, rfl, rfl, rfl, trivial⟩) ?_
                    refine aw_region ?_
                    refine run_s (ss_assign rfl) rfl ?_
                    refine run_nil ?_
                    refine aw_seq ?_
                    refine aw_region ?_
                    refine run_s (ss_move rfl) rfl ?_
                    refine run_s (ss_move rfl) rfl ?_
                    obtain ⟨q44, h⟩ := h
                    refine run_w (ws_callM (xs := [.tmp 81, .tmp 82]) (cs := [.own (ints (SbfT a0 a1)), ci 1]) (ids := []) rfl (.inr ⟨rfl, rfl⟩) rfl rfl rfl (c_laws_markInt64S (SbfT a0 a1) 1 q44) rfl rfl ?_ )
                    rintro _ _ ⟨rfl, rfl⟩
                    refine ⟨rfl, rfl, ?_⟩
                    refine run_s (ss_assign rfl) rfl ?_
                    refine run_nil ?_
                    refine aw_seq ?_
                    refine aw_region ?_
                    refine run_s (ss_assign rfl) rfl ?_
                    refine run_nil ?_
                    refine aw_seq ?_
                    refine aw_region ?_
                    refine run_s (ss_move rfl) rfl ?_
                    refine run_s (ss_move rfl) rfl ?_
                    obtain ⟨q46, h⟩ := h
                    refine run_w (ws_callR (xs := [.tmp 84, .tmp 85]) (cs := [.own (ints (mkI (1 : Int) (SbfT a0 a1))), ci 1]) (ids := []) rfl (.inr ⟨rfl, rfl⟩) rfl rfl (fz_cons (fz_own (fz_map (fun _ => rfl) _)) (fz_cons rfl fz_nil)) (c_laws_heldInt64S (mkI (1 : Int) (SbfT a0 a1)) 1 q46) rfl ?_ )
                    rintro _ rfl
                    refine ⟨rfl, rfl, ?_⟩
                    refine run_s (ss_assign rfl) rfl ?_
                    refine run_nil ?_
                    refine aw_seq ?_
                    refine aw_seq ?_
                    refine aw_gh (gh_to (n := 117) (σ' := [(59, ⟨ints a1, []⟩), (54, ⟨orows a0, []⟩), (40, ⟨ints (mkI (1 : Int) (SbfT a0 a1)), []⟩), (36, ⟨ints (mkI ((1 : Int) + tot a0) a1), []⟩), (8, ⟨[.hole], [(0, .ref 34)]⟩), (34, ⟨orows (mkII (1 : Int) a0), []⟩), (30, ⟨ints (SbfT a0 a1), []⟩), (29, ⟨ints a1, []⟩), (27, ⟨orows a0, []⟩)]) (env' := [(1, .c (.lst (ints a1))), (2, .c (.ptr [.lst (rows a0)])), (6, .ref 30), (7, .c (ci (SbfE a0 a1))), (10, .ref 40), (13, .c (ci ((1 : Int) + ((SbfT a0 a1).length : Int)))), (14, .c (ci (heI (1 : Int) (mkI (1 : Int) (SbfT a0 a1)))))]) rfl rfl ⟨rfl, rfl, rfl, rfl, rfl, rfl, rfl, trivial⟩) ?_
                    refine aw_region ?_
                    refine run_s (ss_move rfl) rfl ?_
                    refine run_s (ss_lss rfl rfl) rfl ?_
                    refine run_nil ?_
                    refine aw_cond rfl (fun q48 => ?_) (fun q48 => ?_)
                    · replace h := h.1 (of_decide_eq_true q48)
                      refine aw_seq ?_
                      refine aw_gh (gh_to (n := 117) (σ' := [(59, ⟨ints a1, []⟩), (54, ⟨orows a0, []⟩), (40, ⟨ints (mkI (1 : Int) (SbfT a0 a1)), []⟩), (36, ⟨ints (mkI ((1 : Int) + tot a0) a1), []⟩), (8, ⟨[.hole], [(0, .ref 34)]⟩), (34, ⟨orows (mkII (1 : Int) a0), []⟩), (30, ⟨ints (SbfT a0 a1), []⟩), (29, ⟨ints a1, []⟩), (27, ⟨orows a0, []⟩)]) (env' := []) rfl rfl trivial) ?_
                      refine aw_region ?_
                      refine run_s (ss_assign rfl) rfl ?_
                      refine run_nil ?_
                      refine aw_ret ?_
                      exact retAF_mk (retv1 rfl (rv_tmp rfl)) rfl rfl ⟨_, (cle_refl _), _, h, rfl⟩
                    · replace h := h.2 (of_decide_eq_false q48)
                      refine aw_skip ?_
                      refine aw_seq ?_
                      refine aw_seq ?_
                      refine aw_region ?_
                      refine run_s (ss_move rfl) rfl ?_
                      refine run_s (ss_move rfl) rfl ?_
                      refine run_s (ss_neq rfl rfl) rfl ?_
                      refine run_nil ?_
                      refine aw_cond rfl (fun q49 => ?_) (fun q49 => ?_)
                      · replace h := h.1 (of_decide_eq_false (bnot_t q49))
                        refine aw_seq ?_
                        refine aw_gh (gh_to (n := 117) (σ' := [(59, ⟨ints a1, []⟩), (54, ⟨orows a0, []⟩), (40, ⟨ints (mkI (1 : Int) (SbfT a0 a1)), []⟩), (36, ⟨ints (mkI ((1 : Int) + tot a0) a1), []⟩), (8, ⟨[.hole], [(0, .ref 34)]⟩), (34, ⟨orows (mkII (1 : Int) a0), []⟩), (30, ⟨ints (SbfT a0 a1), []⟩), (29, ⟨ints a1, []⟩), (27, ⟨orows a0, []⟩)]) (env' := []) rfl rfl trivial) ?_
                        refine aw_region ?_
                        refine run_s (ss_assign rfl) rfl ?_
                        refine run_nil ?_
                        refine aw_ret ?_
                        exact retAF_mk (retv1 rfl (rv_tmp rfl)) rfl rfl ⟨_, (cle_refl _), _, h, rfl⟩
                      · replace h := h.2 (of_decide_eq_true (bnot_f q49))
                        refine aw_skip ?_
                        refine aw_seq ?_
                        refine aw_region ?_
                        refine run_s (ss_load_struct rfl (Nat.le_of_ble_eq_true rfl)) rfl ?_
                        obtain ⟨q50, h⟩ := h
                        refine run_w (ws_call (xs := [.tmp 93]) (ids := [94]) rfl rfl rfl rfl (c_laws_toRack a0 q50) rfl ?_ )
                        rintro _ rfl
                        refine ⟨rfl, ?_⟩
                        refine run_s (ss_move rfl) rfl ?_
                        obtain ⟨q52, h⟩ := h
                        refine run_w (ws_call (xs := [.tmp 95]) (ids := [96]) rfl rfl rfl rfl (c_laws_toInt64S a1 q52) rfl ?_ )
                        rintro _ rfl
                        refine ⟨rfl, ?_⟩
                        obtain ⟨q54, h⟩ := h
                        refine run_w (ws_callR (xs := [.tmp 94, .tmp 96]) (cs := [.agg [.own (orows a0)], .own (ints a1)]) (ids := [97]) rfl (.inr ⟨rfl, rfl⟩) rfl rfl (fz_cons (fz_agg (fz_cons (fz_own (fz_map (fun _ => (fz_own (fz_map (fun _ => rfl) _))) _)) fz_nil)) (fz_cons (fz_own (fz_map (fun _ => rfl) _)) fz_nil)) (c_impl_SubrackFrom a0 a1 q54) rfl ?_ )
                        rintro _ rfl
                        refine ⟨(slf_tup (slf_cons (slf_own (slfL_map (f := ci) (fun _ => rfl) _)) (slf_cons rfl slf_nil))), rfl, ?_⟩
                        refine run_s (ss_move rfl) rfl ?_
                        refine run_s (ss_extract rfl rfl) rfl ?_
                        refine run_s (ss_extract rfl rfl) rfl ?_
                        refine run_s (ss_assign rfl) rfl ?_
                        refine run_s (ss_assign rfl) rfl ?_
                        refine run_nil ?_
                        refine aw_seq ?_
                        refine aw_seq ?_
                        refine aw_gh (gh_to (n := 117) (σ' := [(97, ⟨ints (SbfT a0 a1), []⟩), (96, ⟨ints a1, []⟩), (94, ⟨orows a0, []⟩), (59, ⟨ints a1, []⟩), (54, ⟨orows a0, []⟩), (40, ⟨ints (mkI (1 : Int) (SbfT a0 a1)), []⟩), (36, ⟨ints (mkI ((1 : Int) + tot a0) a1), []⟩), (8, ⟨[.hole], [(0, .ref 34)]⟩), (34, ⟨orows (mkII (1 : Int) a0), []⟩), (30, ⟨ints (SbfT a0 a1), []⟩), (29, ⟨ints a1, []⟩), (27, ⟨orows a0, []⟩)]) (env' := [(6, .ref 30), (7, .c (ci (SbfE a0 a1))), (10, .ref 40), (13, .c (ci ((1 : Int) + ((SbfT a0 a1).length : Int)))), (15, .ref 97), (16, .c (ci (SbfE a0 a1)))]) rfl rfl ⟨rfl, rfl, rfl, rfl, rfl, rfl, trivial⟩) ?_
                        refine aw_region ?_
                        refine run_s (ss_move rfl) rfl ?_
                        refine run_s (ss_move rfl) rfl ?_
                        obtain ⟨q56, h⟩ := h
                        refine run_w (ws_callR (xs := [.tmp 100, .tmp 101]) (cs := [.own (ints (SbfT a0 a1)), .own (ints (SbfT a0 a1))]) (ids := []) rfl (.inr ⟨rfl, rfl⟩) rfl rfl (fz_cons (fz_own (fz_map (fun _ => rfl) _)) (fz_cons (fz_own (fz_map (fun _ => rfl) _)) fz_nil)) (c_laws_eqInt64S (SbfT a0 a1) (SbfT a0 a1) q56) rfl ?_ )
                        rintro _ rfl
                        refine ⟨rfl, rfl, ?_⟩
                        refine run_s (ss_not rfl) rfl ?_
                        refine run_s (ss_move rfl) rfl ?_
                        refine run_split (s := 104) rfl (fun q58 => ?_) (fun q58 => ?_)
                        · replace h := h.1 (of_decide_eq_false (bnot_t q58))
                          refine run_gf rfl rfl q58 rfl ?_
                          refine run_gf rfl rfl q58 rfl ?_
                          refine run_gf rfl rfl q58 rfl ?_
                          refine run_s (ss_pickT rfl q58 rfl) rfl ?_
                          refine run_nil ?_
                          refine aw_cond rfl (fun q59 => ?_) (fun q59 => ?_)
                          · skip
                            refine aw_seq ?_
                            refine aw_gh (gh_to (n := 117) (σ' := [(97, ⟨ints (SbfT a0 a1), []⟩), (96, ⟨ints a1, []⟩), (94, ⟨orows a0, []⟩), (59, ⟨ints a1, []⟩), (54, ⟨orows a0, []⟩), (40, ⟨ints (mkI (1 : Int) (SbfT a0 a1)), []⟩), (36, ⟨ints (mkI ((1 : Int) + tot a0) a1), []⟩), (8, ⟨[.hole], [(0, .ref 34)]⟩), (34, ⟨orows (mkII (1 : Int) a0), []⟩), (30, ⟨ints (SbfT a0 a1), []⟩), (29, ⟨ints a1, []⟩), (27, ⟨orows a0, []⟩)]) (env' := []) rfl rfl trivial) ?_
                            refine aw_region ?_
                            refine run_s (ss_assign rfl) rfl ?_
                            refine run_nil ?_
                            refine aw_ret ?_
                            exact retAF_mk (retv1 rfl (rv_tmp rfl)) rfl rfl ⟨_, (cle_refl _), _, h, rfl⟩
                          · cases q59
                        · replace h := h.2 (of_decide_eq_true (bnot_f q58))
                          refine run_gt rfl rfl q58 ?_
                          refine run_s (ss_move rfl) rfl ?_
                          refine run_gt rfl rfl q58 ?_
                          refine run_s (ss_move rfl) rfl ?_
                          refine run_gt rfl rfl q58 ?_
                          refine run_s (ss_neq rfl rfl) rfl ?_
                          refine run_s (ss_pickF rfl q58 rfl) rfl ?_
                          refine run_nil ?_
                          refine aw_cond rfl (fun q60 => ?_) (fun q60 => ?_)
                          · replace h := h.1 (of_decide_eq_false (bnot_t q60))
                            refine aw_seq ?_
                            refine aw_gh (gh_to (n := 117) (σ' := [(97, ⟨ints (SbfT a0 a1), []⟩), (96, ⟨ints a1, []⟩), (94, ⟨orows a0, []⟩), (59, ⟨ints a1, []⟩), (54, ⟨orows a0, []⟩), (40, ⟨ints (mkI (1 : Int) (SbfT a0 a1)), []⟩), (36, ⟨ints (mkI ((1 : Int) + tot a0) a1), []⟩), (8, ⟨[.hole], [(0, .ref 34)]⟩), (34, ⟨orows (mkII (1 : Int) a0), []⟩), (30, ⟨ints (SbfT a0 a1), []⟩), (29, ⟨ints a1, []⟩), (27, ⟨orows a0, []⟩)]) (env' := []) rfl rfl trivial) ?_
                            refine aw_region ?_
                            refine run_s (ss_assign rfl) rfl ?_
                            refine run_nil ?_
                            refine aw_ret ?_
                            exact retAF_mk (retv1 rfl (rv_tmp rfl)) rfl rfl ⟨_, (cle_refl _), _, h, rfl⟩
                          · replace h := h.2 (of_decide_eq_true (bnot_f q60))
                            refine aw_skip ?_
                            refine aw_seq ?_
                            refine aw_gh (gh_to (n := 117) (σ' := [(97, ⟨ints (SbfT a0 a1), []⟩), (96, ⟨ints a1, []⟩), (94, ⟨orows a0, []⟩), (59, ⟨ints a1, []⟩), (54, ⟨orows a0, []⟩), (40, ⟨ints (mkI (1 : Int) (SbfT a0 a1)), []⟩), (36, ⟨ints (mkI ((1 : Int) + tot a0) a1), []⟩), (8, ⟨[.hole], [(0, .ref 34)]⟩), (34, ⟨orows (mkII (1 : Int) a0), []⟩), (30, ⟨ints (SbfT a0 a1), []⟩), (29, ⟨ints a1, []⟩), (27, ⟨orows a0, []⟩)]) (env' := [(10, .ref 40), (13, .c (ci ((1 : Int) + ((SbfT a0 a1).length : Int))))]) rfl rfl ⟨rfl, rfl, trivial⟩) ?_
                            refine aw_region ?_
                            refine run_s (ss_assign rfl) rfl ?_
                            refine run_nil ?_
                            refine aw_seq ?_
                            refine aw_region ?_
                            refine run_s (ss_move rfl) rfl ?_
                            refine run_s (ss_move rfl) rfl ?_
                            obtain ⟨q61, h⟩ := h
                            refine run_w (ws_callR (xs := [.tmp 109, .tmp 110]) (cs := [.own (ints (mkI (1 : Int) (SbfT a0 a1))), ci 1]) (ids := []) rfl (.inr ⟨rfl, rfl⟩) rfl rfl (fz_cons (fz_own (fz_map (fun _ => rfl) _)) (fz_cons rfl fz_nil)) (c_laws_heldInt64S (mkI (1 : Int) (SbfT a0 a1)) 1 q61) rfl ?_ )
                            rintro _ rfl
                            refine ⟨rfl, rfl, ?_⟩
                            refine run_s (ss_assign rfl) rfl ?_
                            refine run_nil ?_
                            refine aw_seq ?_
                            refine aw_seq ?_
                            refine aw_gh (gh_to (n := 117) (σ' := [(97, ⟨ints (SbfT a0 a1), []⟩), (96, ⟨ints a1, []⟩), (94, ⟨orows a0, []⟩), (59, ⟨ints a1, []⟩), (54, ⟨orows a0, []⟩), (40, ⟨ints (mkI (1 : Int) (SbfT a0 a1)), []⟩), (36, ⟨ints (mkI ((1 : Int) + tot a0) a1), []⟩), (8, ⟨[.hole], [(0, .ref 34)]⟩), (34, ⟨orows (mkII (1 : Int) a0), []⟩), (30, ⟨ints (SbfT a0 a1), []⟩), (29, ⟨ints a1, []⟩), (27, ⟨orows a0, []⟩)]) (env' := [(13, .c (ci ((1 : Int) + ((SbfT a0 a1).length : Int)))), (14, .c (ci (heI (1 : Int) (mkI (1 : Int) (SbfT a0 a1)))))]) rfl rfl ⟨rfl, rfl, trivial⟩) ?_
                            refine aw_region ?_
                            refine run_s (ss_move rfl) rfl ?_
                            refine run_s (ss_lss rfl rfl) rfl ?_
                            refine run_nil ?_
                            refine aw_cond rfl (fun q63 => ?_) (fun q63 => ?_)
                            · replace h := h.1 (of_decide_eq_true q63)
                              refine aw_seq ?_
                              refine aw_gh (gh_to (n := 117) (σ' := [(97, ⟨ints (SbfT a0 a1), []⟩), (96, ⟨ints a1, []⟩), (94, ⟨orows a0, []⟩), (59, ⟨ints a1, []⟩), (54, ⟨orows a0, []⟩), (40, ⟨ints (mkI (1 : Int) (SbfT a0 a1)), []⟩), (36, ⟨ints (mkI ((1 : Int) + tot a0) a1), []⟩), (8, ⟨[.hole], [(0, .ref 34)]⟩), (34, ⟨orows (mkII (1 : Int) a0), []⟩), (30, ⟨ints (SbfT a0 a1), []⟩), (29, ⟨ints a1, []⟩), (27, ⟨orows a0, []⟩)]) (env' := []) rfl rfl trivial) ?_
                              refine aw_region ?_
                              refine run_s (ss_assign rfl) rfl ?_
                              refine run_nil ?_
                              refine aw_ret ?_
                              exact retAF_mk (retv1 rfl (rv_tmp rfl)) rfl rfl ⟨_, (cle_refl _), _, h, rfl⟩
                            · replace h := h.2 (of_decide_eq_false q63)
                              refine aw_skip ?_
                              refine aw_seq ?_
                              refine aw_seq ?_
                              refine aw_region ?_
                              refine run_s (ss_move rfl) rfl ?_
                              refine run_s (ss_move rfl) rfl ?_
                              refine run_s (ss_neq rfl rfl) rfl ?_
                              refine run_nil ?_
                              refine aw_cond rfl (fun q64 => ?_) (fun q64 => ?_)
                              · replace h := h.1 (of_decide_eq_false (bnot_t q64))
                                refine aw_seq ?_
                                refine aw_gh (gh_to (n := 117) (σ' := [(97, ⟨ints (SbfT a0 a1), []⟩), (96, ⟨ints a1, []⟩), (94, ⟨orows a0, []⟩), (59, ⟨ints a1, []⟩), (54, ⟨orows a0, []⟩), (40, ⟨ints (mkI (1 : Int) (SbfT a0 a1)), []⟩), (36, ⟨ints (mkI ((1 : Int) + tot a0) a1), []⟩), (8, ⟨[.hole], [(0, .ref 34)]⟩), (34, ⟨orows (mkII (1 : Int) a0), []⟩), (30, ⟨ints (SbfT a0 a1), []⟩), (29, ⟨ints a1, []⟩), (27, ⟨orows a0, []⟩)]) (env' := []) rfl rfl trivial) ?_
                                refine aw_region ?_
                                refine run_s (ss_assign rfl) rfl ?_
                                refine run_nil ?_
                                refine aw_ret ?_
                                exact retAF_mk (retv1 rfl (rv_tmp rfl)) rfl rfl ⟨_, (cle_refl _), _, h, rfl⟩
                              · replace h := h.2 (of_decide_eq_true (bnot_f q64))
                                refine aw_skip ?_
                                refine aw_seq ?_
                                refine aw_gh (gh_to (n := 117) (σ' := [(97, ⟨ints (SbfT a0 a1), []⟩), (96, ⟨ints a1, []⟩), (94, ⟨orows a0, []⟩), (59, ⟨ints a1, []⟩), (54, ⟨orows a0, []⟩), (40, ⟨ints (mkI (1 : Int) (SbfT a0 a1)), []⟩), (36, ⟨ints (mkI ((1 : Int) + tot a0) a1), []⟩), (8, ⟨[.hole], [(0, .ref 34)]⟩), (34, ⟨orows (mkII (1 : Int) a0), []⟩), (30, ⟨ints (SbfT a0 a1), []⟩), (29, ⟨ints a1, []⟩), (27, ⟨orows a0, []⟩)]) (env' := []) rfl rfl trivial) ?_
                                refine aw_region ?_
                                refine run_s (ss_assign rfl) rfl ?_
                                refine run_nil ?_
                                refine aw_ret ?_
                                exact retAF_mk (retv1 rfl (rv_tmp rfl)) rfl rfl ⟨_, (cle_refl _), _, h, rfl⟩

theorem c_laws_FnExactSubrackFrom (a0 : List (List Int)) (a1 : List Int) (hp : huge2 a0 ∧ a1.length ≤ 9223372036854775807) : AF Try.prog 4 [.agg [.lst (rows a0)], .lst (ints a1)] (fun R_ => R_ = cb true) :=
  (w_laws_FnExactSubrackFrom a0 a1 (fun y0 => y0 = true) (p_laws_FnExactSubrackFrom a0 a1 hp)).mono (by rintro r ⟨_, rfl, rfl⟩; rfl)

end Go.Proofs.Ytbcdcnddnldijaa

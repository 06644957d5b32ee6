/- Contracts of functions that the law FnExactAffineCycleSet reaches: conditions, plain proofs, walks; no condition. -/
import Derived.Test.YtmofdccagnbccabKEAffineCycleSetc
namespace Go.Proofs.Ytmofdccagnbccab

def wp_laws_FnExactAffineCycleSet (a0 : Int) (a1 : Int) (a2 : Int) (a3 : Int) (Q : Bool → Prop) : Prop :=
 (InI a0 ∧ InI a1 ∧ InI a2 ∧ InI a3) ∧
 (InI a0 ∧ InI a1 ∧ InI a2 ∧ InI a3) ∧
 (small2 (AffT a0 a1 a2 a3) ∧ small2 (AffT a0 a1 a2 a3)) ∧
 ((¬ ((AffT a0 a1 a2 a3) = (AffT a0 a1 a2 a3)) →
  Q false) ∧
 ((AffT a0 a1 a2 a3) = (AffT a0 a1 a2 a3) →
  ((¬ (AffE a0 a1 a2 a3 = AffE a0 a1 a2 a3) →
   Q false) ∧
  (AffE a0 a1 a2 a3 = AffE a0 a1 a2 a3 →
   (small2 (AffT a0 a1 a2 a3) ∧ okKT (1 : Int) (AffT a0 a1 a2 a3)) ∧
   (small2 (mkII (1 : Int) (AffT a0 a1 a2 a3)) ∧ okKT (1 : Int) (mkII (1 : Int) (AffT a0 a1 a2 a3))) ∧
   ((heII (1 : Int) (mkII (1 : Int) (AffT a0 a1 a2 a3)) < 0 →
    Q false) ∧
   (¬ (heII (1 : Int) (mkII (1 : Int) (AffT a0 a1 a2 a3)) < 0) →
    ((¬ (heII (1 : Int) (mkII (1 : Int) (AffT a0 a1 a2 a3)) = (1 : Int) + tot (AffT a0 a1 a2 a3)) →
     Q false) ∧
    (heII (1 : Int) (mkII (1 : Int) (AffT a0 a1 a2 a3)) = (1 : Int) + tot (AffT a0 a1 a2 a3) →
     (InI a0 ∧ InI a1 ∧ InI a2 ∧ InI a3) ∧
     (small2 (AffT a0 a1 a2 a3) ∧ small2 (AffT a0 a1 a2 a3)) ∧
     ((¬ ((AffT a0 a1 a2 a3) = (AffT a0 a1 a2 a3)) →
      Q false) ∧
     ((AffT a0 a1 a2 a3) = (AffT a0 a1 a2 a3) →
      ((¬ (AffE a0 a1 a2 a3 = AffE a0 a1 a2 a3) →
       Q false) ∧
      (AffE a0 a1 a2 a3 = AffE a0 a1 a2 a3 →
       (small2 (mkII (1 : Int) (AffT a0 a1 a2 a3)) ∧ okKT (1 : Int) (mkII (1 : Int) (AffT a0 a1 a2 a3))) ∧
       ((heII (1 : Int) (mkII (1 : Int) (AffT a0 a1 a2 a3)) < 0 →
        Q false) ∧
       (¬ (heII (1 : Int) (mkII (1 : Int) (AffT a0 a1 a2 a3)) < 0) →
        ((¬ (heII (1 : Int) (mkII (1 : Int) (AffT a0 a1 a2 a3)) = (1 : Int) + tot (AffT a0 a1 a2 a3)) →
         Q false) ∧
        (heII (1 : Int) (mkII (1 : Int) (AffT a0 a1 a2 a3)) = (1 : Int) + tot (AffT a0 a1 a2 a3) →
         Q true))))))))))))))))


@[reducible] def fine2 (t : List (List Int)) : Prop := small2 t ∧ tot t ≤ 1000000000
theorem fine2_nil : fine2 [] := ⟨⟨by simp, by simp⟩, by simp [tot]⟩
theorem mem_ranf {α : Type} {n : Int} {f : Int → α} {r : α} (h : r ∈ ran n f) : ∃ i, (0 ≤ i ∧ i < n) ∧ r = f i := by
  unfold ran at h
  obtain ⟨k, hk, rfl⟩ := List.mem_map.1 h
  have := List.mem_range.1 hk
  exact ⟨k, ⟨by omega, by omega⟩, rfl⟩
theorem fine2_tab {n : Int} {f : Int → Int → Int} (h : n ≤ 1000) : fine2 (tab n f) := by
  refine ⟨⟨by simp [tab]; omega, fun r hr => ?_⟩, ?_⟩
  · obtain ⟨i, _, rfl⟩ := mem_ranf hr
    simp; omega
  · rw [tot_tab]
    have : n.toNat ≤ 1000 := by omega
    have : n.toNat * n.toNat ≤ 1000 * 1000 := Nat.mul_le_mul this this
    omega
theorem fine2_ite {c : Prop} [Decidable c] {t : List (List Int)} (h : c → fine2 t) : fine2 (if c then t else []) := by
  split
  · exact h (by assumption)
  · exact fine2_nil
theorem small_ite {c : Prop} [Decidable c] {t : List Int} (h : c → small t) : small (if c then t else []) := by
  split
  · exact h (by assumption)
  · simp
theorem fine_mk {T : List (List Int)} (h : fine2 T) : okKT 1 T ∧ small2 (mkII 1 T) ∧ okKT 1 (mkII 1 T) ∧ heII 1 (mkII 1 T) = 1 + tot T ∧ 0 ≤ tot T := by
  have := tot_nonneg T
  have h2 := h.2
  exact ⟨⟨by omega, by omega⟩, small2_mkII h.1, ⟨by omega, by rw [tot_mkII]; omega⟩, heII_mkII 1 T, this⟩
theorem fine_mk1 {l : List Int} (h : small l) : small (mkI 1 l) ∧ heI 1 (mkI 1 l) = 1 + (l.length : Int) := ⟨by simpa using h, heI_mkI 1 l⟩
/-- What is not too large. -/
theorem sz_fine {a : List (List Int)} {left : Int} (hl : left ≤ 1000000000) (h : ¬ szII a left < 0) : fine2 a := by
  unfold szII at h
  split at h
  · omega
  · have tn := tot_nonneg a
    refine ⟨⟨by show (a.length : Int) ≤ 1000000000; omega, fun r hr => ?_⟩, by omega⟩
    obtain ⟨i, hi, rfl⟩ := mem_el hr
    have := tt_row hi
    have := (tt_le a i).1
    show ((el a i).length : Int) ≤ 1000000000; omega
theorem sz_in {a : List (List Int)} {left : Int} (hl : left ≤ 1000000000) (h : ¬ szII a left < 0) : InS (szII a left) := by
  refine ⟨by omega, ?_⟩
  unfold szII
  have := tot_nonneg a
  split <;> omega
theorem InS20 : InS 1048576 := ⟨by omega, by omega⟩
theorem fine_mkk {T : List (List Int)} {k : Int} (h : fine2 T) (hk : 0 ≤ k ∧ k ≤ 100000000000) : okKT k T ∧ ¬ (k + tot T < 0) := by
  have := tot_nonneg T
  have h2 := h.2
  exact ⟨⟨by omega, by omega⟩, by omega⟩
theorem fine_TrivT (n : Int) : fine2 (TrivT n) := fine2_ite fun h => fine2_tab (by omega)
theorem fine_DiheT (n : Int) : fine2 (DiheT n) := fine2_ite fun h => fine2_tab (by omega)
theorem fine_AlexT (n a : Int) : fine2 (AlexT n a) := fine2_ite fun h => fine2_tab (by
  unfold AlexE at h
  split at h
  · cases h
  · rename_i h2; have := Classical.not_not.1 h2; omega)
theorem fine_PermT (p : List Int) : fine2 (PermT p) := fine2_ite fun h => fine2_tab (by have := permB_len h; omega)
theorem small_SquaT (c : List (List Int)) : small (SquaT c) := small_ite fun h => by have := isTab_len h; simp [diag]; omega
theorem first3_len (n : Int) (f : Int → Int → Int → Bool) : ((first3 n f).length : Int) ≤ 3 := by
  unfold first3
  split
  · rename_i l h
    obtain ⟨x, hx, h⟩ := List.exists_of_findSome?_eq_some h
    obtain ⟨y, hy, h⟩ := List.exists_of_findSome?_eq_some h
    obtain ⟨z, hz, h⟩ := List.exists_of_findSome?_eq_some h
    split at h
    · cases h; simp
    · cases h
  · simp
theorem small_CycfT (c : List (List Int)) : small (CycfT c) := small_ite fun h => by have := first3_len (c.length : Int) (cycB c); unfold cycF; show _ ≤ (1000000000 : Int); omega

theorem tot_le_mul : ∀ (t : List (List Int)) (m : Int), 0 ≤ m → (∀ r ∈ t, (r.length : Int) ≤ m) → tot t ≤ (t.length : Int) * m
  | [], m, _, _ => by simp [tot]
  | r :: t, m, hm, h => by
    have h1 := h r List.mem_cons_self
    have h2 := tot_le_mul t m hm fun q hq => h q (List.mem_cons_of_mem _ hq)
    simp only [tot, List.length_cons, Int.natCast_add, Int.add_mul]
    omega
theorem fine2_of {t : List (List Int)} (h : (t.length : Int) ≤ 1000) (h2 : ∀ r ∈ t, (r.length : Int) ≤ 1000) : fine2 t := by
  refine ⟨⟨by show (t.length : Int) ≤ 1000000000; omega, fun r hr => by have := h2 r hr; show (r.length : Int) ≤ 1000000000; omega⟩, ?_⟩
  have a := tot_le_mul t 1000 (by omega) h2
  have b : (t.length : Int) * 1000 ≤ 1000 * 1000 := by omega
  omega
theorem fine2_isTab {t : List (List Int)} (h : isTab t = true) : fine2 t := fine2_of (by have := isTab_len h; omega) fun r hr => by
  obtain ⟨i, hi, rfl⟩ := mem_el hr
  have a := (isTab_row h hi).1; have b := isTab_len h; omega
theorem small_RkfT (r : List (List Int)) : small (RkfT r) := small_ite fun h => by have := first3_len (r.length : Int) (rackB r); unfold rackF; show _ ≤ (1000000000 : Int); omega
theorem small_dg (c : List (List Int)) : small (if isRk c then diag c else []) := small_ite fun h => small_diag (isRk_tab h)
theorem fine_AffT (n a b c : Int) : fine2 (AffT n a b c) := fine2_ite fun h => fine2_tab (by
  unfold AffE at h
  split at h
  · rename_i h2; simp only [inN, Bool.and_eq_true, decide_eq_true_eq] at h2; omega
  · cases h)
theorem fine_Dual (r : List (List Int)) : fine2 (if isRk r then r.map backI else []) := fine2_ite fun h => by
  have ht := isRk_tab h
  have hn := isTab_len ht
  refine fine2_of (by simp; omega) fun q hq => ?_
  obtain ⟨u, hu, rfl⟩ := List.mem_map.1 hq
  obtain ⟨i, hi, rfl⟩ := mem_el hu
  have := rk_len ht hi
  simp; omega
theorem fine_Quat (r : List (List Int)) : fine2 (if isRk r then QuaT r else []) := fine2_ite fun h => fine2_tab (by have := isTab_len (isRk_tab h); omega)

theorem p_laws_FnExactAffineCycleSet (a0 : Int) (a1 : Int) (a2 : Int) (a3 : Int) (hp : InI a0 ∧ InI a1 ∧ InI a2 ∧ InI a3) : wp_laws_FnExactAffineCycleSet a0 a1 a2 a3 (fun y0 => y0 = true) := by
  unfold wp_laws_FnExactAffineCycleSet
  obtain ⟨ha0, ha1, ha2, ha3⟩ := hp
  have j0 : 0 ≤ (1 : Int) ∧ (1 : Int) ≤ 100000000000 := ⟨by omega, by omega⟩
  have k1 : okK 1 := ⟨by omega, by omega⟩
  have r0 := fine_AffT a0 a1 a2 a3
  generalize AffT a0 a1 a2 a3 = T0 at *
  have q0 := fine_mk r0
  have p0 : ¬ (1 + tot T0 < 0) := by have := q0.2.2.2.2; omega
  simp [eq_true InS20, eq_true ha0, eq_true ha1, eq_true ha2, eq_true ha3, eq_true k1, eq_true r0.1, eq_true q0.1, eq_true q0.2.1, eq_true q0.2.2.1, q0.2.2.2.1, p0]
set_option maxRecDepth 100000 in
set_option maxHeartbeats 1000000 in
theorem w_laws_FnExactAffineCycleSet (a0 : Int) (a1 : Int) (a2 : Int) (a3 : Int) (Q : Bool → Prop) (h : wp_laws_FnExactAffineCycleSet a0 a1 a2 a3 Q) : AF Try.prog 3 [ci a0, ci a1, ci a2, ci a3] (fun R_ => ∃ y0, Q y0 ∧ R_ = cb y0) := by
  refine AF.ofWQ (af_enter (n := 78) Try.func3 rfl (by rfl) rfl (Nat.le_of_ble_eq_true rfl) ?_)
  unfold wp_laws_FnExactAffineCycleSet at h
  refine aw_seq ?_
  refine aw_gh (gh_to (n := 78) (σ' := []) (env' := [(0, .c (ci a0)), (1, .c (ci a1)), (2, .c (ci a2)), (3, .c (ci a3))]) rfl rfl ⟨rfl, rfl, rfl, rfl, trivial⟩) ?_
  refine aw_region ?_
  refine run_s (ss_assign rfl) rfl ?_
  refine run_nil ?_
  refine aw_seq ?_
  refine aw_region ?_
  refine run_s (ss_move rfl) rfl ?_
  refine run_s (ss_move rfl) rfl ?_
  refine run_s (ss_move rfl) rfl ?_
  refine run_s (ss_move rfl) rfl ?_
  obtain ⟨q1, h⟩ := h
  refine run_w (ws_call (xs := [.tmp 18, .tmp 19, .tmp 20, .tmp 21]) (ids := [22]) rfl rfl rfl rfl (c_spec_AffineCycleSet a0 a1 a2 a3 q1) rfl ?_ )
  rintro _ rfl
  refine ⟨rfl, ?_⟩
  refine run_s (ss_move rfl) rfl ?_
  refine run_s (ss_extract rfl rfl) rfl ?_
  refine run_s (ss_extract rfl rfl) rfl ?_
  refine run_w (ws_alloc (id := 9) rfl (Nat.le_of_ble_eq_true rfl) ⟨rfl, ?_⟩)
  refine run_w (ws_storeS rfl rfl (Nat.le_of_ble_eq_true rfl) rfl rfl rfl ⟨rfl, ?_⟩)
  refine run_s (ss_assign rfl) rfl ?_
  refine run_nil ?_
  refine aw_seq ?_
  refine aw_region ?_
  refine run_s (ss_move rfl) rfl ?_
  refine run_s (ss_move rfl) rfl ?_
  refine run_s (ss_move rfl) rfl ?_
  refine run_s (ss_move rfl) rfl ?_
  obtain ⟨q3, h⟩ := h
  refine run_w (ws_call (xs := [.tmp 26, .tmp 27, .tmp 28, .tmp 29]) (ids := [30]) rfl rfl rfl rfl (c_impl_AffineCycleSet a0 a1 a2 a3 q3) rfl ?_ )
  rintro _ rfl
  refine ⟨rfl, ?_⟩
  refine run_s (ss_move rfl) rfl ?_
  refine run_s (ss_extract rfl rfl) rfl ?_
  refine run_s (ss_extract rfl rfl) rfl ?_
  refine run_w (ws_alloc (id := 11) rfl (Nat.le_of_ble_eq_true rfl) ⟨rfl, ?_⟩)
  refine run_w (ws_storeS rfl rfl (Nat.le_of_ble_eq_true rfl) rfl rfl rfl ⟨rfl, ?_⟩)
  refine run_s (ss_assign rfl) rfl ?_
  refine run_nil ?_
  refine aw_seq ?_
  refine aw_seq ?_
  refine aw_gh (gh_to (n := 78) (σ' := [(11, ⟨[.hole], [(0, .ref 30)]⟩), (30, ⟨orows (AffT a0 a1 a2 a3), []⟩), (9, ⟨[.hole], [(0, .ref 22)]⟩), (22, ⟨orows (AffT a0 a1 a2 a3), []⟩)]) (env' := [(0, .c (ci a0)), (1, .c (ci a1)), (2, .c (ci a2)), (3, .c (ci a3)), (9, .cell 9 0), (10, .c (ci (AffE a0 a1 a2 a3))), (11, .cell 11 0), (12, .c (ci (AffE a0 a1 a2 a3)))]) rfl rfl ⟨rfl, rfl, rfl, rfl, rfl, rfl, rfl, rfl, trivial⟩) ?_
  refine aw_region ?_
  refine run_s (ss_loadS rfl rfl rfl rfl) rfl ?_
  refine run_s (ss_loadS rfl rfl rfl rfl) rfl ?_
  obtain ⟨q5, h⟩ := h
  refine run_w (ws_callR (xs := [.tmp 33, .tmp 34]) (cs := [.agg [.own (orows (AffT a0 a1 a2 a3))], .agg [.own (orows (AffT a0 a1 a2 a3))]]) (ids := []) rfl (.inr ⟨rfl, rfl⟩) rfl rfl (fz_cons (fz_agg (fz_cons (fz_own (fz_map (fun _ => (fz_own (fz_map (fun _ => rfl) _))) _)) fz_nil)) (fz_cons (fz_agg (fz_cons (fz_own (fz_map (fun _ => (fz_own (fz_map (fun _ => rfl) _))) _)) fz_nil)) fz_nil)) (c_laws_eqCycleSet (AffT a0 a1 a2 a3) (AffT a0 a1 a2 a3) q5) rfl ?_ )
  rintro _ rfl
  refine ⟨rfl, rfl, ?_⟩
  refine run_s (ss_not rfl) rfl ?_
  refine run_s (ss_move rfl) rfl ?_
  refine run_split (s := 37) rfl (fun q7 => ?_) (fun q7 => ?_)
  · replace h := h.1 (of_decide_eq_false (bnot_t q7))
    refine run_gf rfl rfl q7 rfl ?_
    refine run_gf rfl rfl q7 rfl ?_
    refine run_gf rfl rfl q7 rfl ?_
    refine run_s (ss_pickT rfl q7 rfl) rfl ?_
    refine run_nil ?_
    refine aw_cond rfl (fun q8 => ?_) (fun q8 => ?_)
    · skip
      refine aw_seq ?_
      refine aw_gh (gh_to (n := 78) (σ' := [(11, ⟨[.hole], [(0, .ref 30)]⟩), (30, ⟨orows (AffT a0 a1 a2 a3), []⟩), (9, ⟨[.hole], [(0, .ref 22)]⟩), (22, ⟨orows (AffT a0 a1 a2 a3), []⟩)]) (env' := []) rfl rfl trivial) ?_
      refine aw_region ?_
      refine run_s (ss_assign rfl) rfl ?_
      refine run_nil ?_
      refine aw_ret ?_
      exact retAF_mk (retv1 rfl (rv_tmp rfl)) rfl rfl ⟨_, (cle_refl _), _, h, rfl⟩
    · cases q8
  · replace h := h.2 (of_decide_eq_true (bnot_f q7))
    refine run_gt rfl rfl q7 ?_
    refine run_s (ss_move rfl) rfl ?_
    refine run_gt rfl rfl q7 ?_
    refine run_s (ss_move rfl) rfl ?_
    refine run_gt rfl rfl q7 ?_
    refine run_s (ss_neq rfl rfl) rfl ?_
    refine run_s (ss_pickF rfl q7 rfl) rfl ?_
    refine run_nil ?_
    refine aw_cond rfl (fun q9 => ?_) (fun q9 => ?_)
    · replace h := h.1 (of_decide_eq_false (bnot_t q9))
      refine aw_seq ?_
      refine aw_gh (gh_to (n := 78) (σ' := [(11, ⟨[.hole], [(0, .ref 30)]⟩), (30, ⟨orows (AffT a0 a1 a2 a3), []⟩), (9, ⟨[.hole], [(0, .ref 22)]⟩), (22, ⟨orows (AffT a0 a1 a2 a3), []⟩)]) (env' := []) rfl rfl trivial) ?_
      refine aw_region ?_
      refine run_s (ss_assign rfl) rfl ?_
      refine run_nil ?_
      refine aw_ret ?_
      exact retAF_mk (retv1 rfl (rv_tmp rfl)) rfl rfl ⟨_, (cle_refl _), _, h, rfl⟩
    · replace h := h.2 (of_decide_eq_true (bnot_f q9))
      refine aw_skip ?_
      refine aw_seq ?_
      refine aw_gh (gh_to (n := 78) (σ' := [(11, ⟨[.hole], [(0, .ref 30)]⟩), (30, ⟨orows (AffT a0 a1 a2 a3), []⟩), (9, ⟨[.hole], [(0, .ref 22)]⟩), (22, ⟨orows (AffT a0 a1 a2 a3), []⟩)]) (env' := [(0, .c (ci a0)), (1, .c (ci a1)), (2, .c (ci a2)), (3, .c (ci a3)), (9, .cell 9 0), (10, .c (ci (AffE a0 a1 a2 a3))), (11, .cell 11 0)]) rfl rfl ⟨rfl, rfl, rfl, rfl, rfl, rfl, rfl, trivial⟩) ?_
      refine aw_region ?_
      refine run_s (ss_assign rfl) rfl ?_
      refine run_nil ?_
      refine aw_seq ?_
      refine aw_region ?_
      refine run_s (ss_loadS rfl rfl rfl rfl) rfl ?_
      refine run_s (ss_move rfl) rfl ?_
      obtain ⟨q10, h⟩ := h
      refine run_w (ws_callM (xs := [.tmp 42, .tmp 43]) (cs := [.agg [.own (orows (AffT a0 a1 a2 a3))], ci 1]) (ids := []) rfl (.inr ⟨rfl, rfl⟩) rfl rfl rfl (c_laws_markCycleSet (AffT a0 a1 a2 a3) 1 q10) rfl ?_ )
      rintro _ _ ⟨rfl, rfl⟩
      refine ⟨rfl, rfl, ?_⟩
      refine run_s (ss_assign rfl) rfl ?_
      refine run_nil ?_
      refine aw_seq ?_
      refine aw_region ?_
      refine run_s (ss_assign rfl) rfl ?_
      refine run_nil ?_
      refine aw_seq ?_
      refine aw_region ?_
      refine run_s (ss_loadS rfl rfl rfl rfl) rfl ?_
      refine run_s (ss_move rfl) rfl ?_
      obtain ⟨q12, h⟩ := h
      refine run_w (ws_callR (xs := [.tmp 45, .tmp 46]) (cs := [.agg [.own (orows (mkII (1 : Int) (AffT a0 a1 a2 a3)))], ci 1]) (ids := []) rfl (.inr ⟨rfl, rfl⟩) rfl rfl (fz_cons (fz_agg (fz_cons (fz_own (fz_map (fun _ => (fz_own (fz_map (fun _ => rfl) _))) _)) fz_nil)) (fz_cons rfl fz_nil)) (c_laws_heldCycleSet (mkII (1 : Int) (AffT a0 a1 a2 a3)) 1 q12) rfl ?_ )
      rintro _ rfl
      refine ⟨rfl, rfl, ?_⟩
      refine run_s (ss_assign rfl) rfl ?_
      refine run_nil ?_
      refine aw_seq ?_
      refine aw_seq ?_
      refine aw_region ?_
      refine run_s (ss_move rfl) rfl ?_
      refine run_s (ss_lss rfl rfl) rfl ?_
      refine run_nil ?_
      refine aw_cond rfl (fun q14 => ?_) (fun q14 => ?_)
      · replace h := h.1 (of_decide_eq_true q14)
        refine aw_seq ?_
        refine aw_gh (gh_to (n := 78) (σ' := [(11, ⟨[.hole], [(0, .ref 30)]⟩), (30, ⟨orows (mkII (1 : Int) (AffT a0 a1 a2 a3)), []⟩), (9, ⟨[.hole], [(0, .ref 22)]⟩), (22, ⟨orows (AffT a0 a1 a2 a3), []⟩)]) (env' := []) rfl rfl trivial) ?_
        refine aw_region ?_
        refine run_s (ss_assign rfl) rfl ?_
        refine run_nil ?_
        refine aw_ret ?_
        exact retAF_mk (retv1 rfl (rv_tmp rfl)) rfl rfl ⟨_, (cle_refl _), _, h, rfl⟩
      · replace h := h.2 (of_decide_eq_false q14)
        refine aw_skip ?_
        refine aw_seq ?_
        refine aw_seq ?_
        refine aw_region ?_
        refine run_s (ss_move rfl) rfl ?_
        refine run_s (ss_move rfl) rfl ?_
        refine run_s (ss_neq rfl rfl) rfl ?_
        refine run_nil ?_
        refine aw_cond rfl (fun q15 => ?_) (fun q15 => ?_)
        · replace h := h.1 (of_decide_eq_false (bnot_t q15))
          refine aw_seq ?_
          refine aw_gh (gh_to (n := 78) (σ' := [(11, ⟨[.hole], [(0, .ref 30)]⟩), (30, ⟨orows (mkII (1 : Int) (AffT a0 a1 a2 a3)), []⟩), (9, ⟨[.hole], [(0, .ref 22)]⟩), (22, ⟨orows (AffT a0 a1 a2 a3), []⟩)]) (env' := []) rfl rfl trivial) ?_
          refine aw_region ?_
          refine run_s (ss_assign rfl) rfl ?_
          refine run_nil ?_
          refine aw_ret ?_
          exact retAF_mk (retv1 rfl (rv_tmp rfl)) rfl rfl ⟨_, (cle_refl _), _, h, rfl⟩
        · replace h := h.2 (of_decide_eq_true (bnot_f q15))
          refine aw_skip ?_
          refine aw_seq ?_
          refine aw_region ?_
          refine run_s (ss_move rfl) rfl ?_
          refine run_s (ss_move rfl) rfl ?_
          refine run_s (ss_move rfl) rfl ?_
          refine run_s (ss_move rfl) rfl ?_
          obtain ⟨q16, h⟩ := h
          refine run_w (ws_call (xs := [.tmp 54, .tmp 55, .tmp 56, .tmp 57]) (ids := [58]) rfl rfl rfl rfl (c_impl_AffineCycleSet a0 a1 a2 a3 q16) rfl ?_ )
          rintro _ rfl
          refine ⟨rfl, ?_⟩
          refine run_s (ss_move rfl) rfl ?_
          refine run_s (ss_extract rfl rfl) rfl ?_
          refine run_s (ss_extract rfl rfl) rfl ?_
          refine run_w (ws_alloc (id := 15) rfl (Nat.le_of_ble_eq_true rfl) ⟨rfl, ?_⟩)
          refine run_w (ws_storeS rfl rfl (Nat.le_of_ble_eq_true rfl) rfl rfl rfl ⟨rfl, ?_⟩)
          refine run_s (ss_assign rfl) rfl ?_
          refine run_nil ?_
          refine aw_seq ?_
          refine aw_seq ?_
          refine aw_gh (gh_to (n := 78) (σ' := [(15, ⟨[.hole], [(0, .ref 58)]⟩), (58, ⟨orows (AffT a0 a1 a2 a3), []⟩), (11, ⟨[.hole], [(0, .ref 30)]⟩), (30, ⟨orows (mkII (1 : Int) (AffT a0 a1 a2 a3)), []⟩), (9, ⟨[.hole], [(0, .ref 22)]⟩), (22, ⟨orows (AffT a0 a1 a2 a3), []⟩)]) (env' := [(9, .cell 9 0), (10, .c (ci (AffE a0 a1 a2 a3))), (11, .cell 11 0), (13, .c (ci ((1 : Int) + tot (AffT a0 a1 a2 a3)))), (15, .cell 15 0), (16, .c (ci (AffE a0 a1 a2 a3)))]) rfl rfl ⟨rfl, rfl, rfl, rfl, rfl, rfl, trivial⟩) ?_
          refine aw_region ?_
          refine run_s (ss_loadS rfl rfl rfl rfl) rfl ?_
          refine run_s (ss_loadS rfl rfl rfl rfl) rfl ?_
          obtain ⟨q18, h⟩ := h
          refine run_w (ws_callR (xs := [.tmp 61, .tmp 62]) (cs := [.agg [.own (orows (AffT a0 a1 a2 a3))], .agg [.own (orows (AffT a0 a1 a2 a3))]]) (ids := []) rfl (.inr ⟨rfl, rfl⟩) rfl rfl (fz_cons (fz_agg (fz_cons (fz_own (fz_map (fun _ => (fz_own (fz_map (fun _ => rfl) _))) _)) fz_nil)) (fz_cons (fz_agg (fz_cons (fz_own (fz_map (fun _ => (fz_own (fz_map (fun _ => rfl) _))) _)) fz_nil)) fz_nil)) (c_laws_eqCycleSet (AffT a0 a1 a2 a3) (AffT a0 a1 a2 a3) q18) rfl ?_ )
          rintro _ rfl
          refine ⟨rfl, rfl, ?_⟩
          refine run_s (ss_not rfl) rfl ?_
          refine run_s (ss_move rfl) rfl ?_
          refine run_split (s := 65) rfl (fun q20 => ?_) (fun q20 => ?_)
          · replace h := h.1 (of_decide_eq_false (bnot_t q20))
            refine run_gf rfl rfl q20 rfl ?_
            refine run_gf rfl rfl q20 rfl ?_
            refine run_gf rfl rfl q20 rfl ?_
            refine run_s (ss_pickT rfl q20 rfl) rfl ?_
            refine run_nil ?_
            refine aw_cond rfl (fun q21 => ?_) (fun q21 => ?_)
            · skip
              refine aw_seq ?_
              refine aw_gh (gh_to (n := 78) (σ' := [(15, ⟨[.hole], [(0, .ref 58)]⟩), (58, ⟨orows (AffT a0 a1 a2 a3), []⟩), (11, ⟨[.hole], [(0, .ref 30)]⟩), (30, ⟨orows (mkII (1 : Int) (AffT a0 a1 a2 a3)), []⟩), (9, ⟨[.hole], [(0, .ref 22)]⟩), (22, ⟨orows (AffT a0 a1 a2 a3), []⟩)]) (env' := []) rfl rfl trivial) ?_
              refine aw_region ?_
              refine run_s (ss_assign rfl) rfl ?_
              refine run_nil ?_
              refine aw_ret ?_
              exact retAF_mk (retv1 rfl (rv_tmp rfl)) rfl rfl ⟨_, (cle_refl _), _, h, rfl⟩
            · cases q21
          · replace h := h.2 (of_decide_eq_true (bnot_f q20))
            refine run_gt rfl rfl q20 ?_
            refine run_s (ss_move rfl) rfl ?_
            refine run_gt rfl rfl q20 ?_
            refine run_s (ss_move rfl) rfl ?_
            refine run_gt rfl rfl q20 ?_
            refine run_s (ss_neq rfl rfl) rfl ?_
            refine run_s (ss_pickF rfl q20 rfl) rfl ?_
            refine run_nil ?_
            refine aw_cond rfl (fun q22 => ?_) (fun q22 => ?_)
            · replace h := h.1 (of_decide_eq_false (bnot_t q22))
              refine aw_seq ?_
              refine aw_gh (gh_to (n := 78) (σ' := [(15, ⟨[.hole], [(0, .ref 58)]⟩), (58, ⟨orows (AffT a0 a1 a2 a3), []⟩), (11, ⟨[.hole], [(0, .ref 30)]⟩), (30, ⟨orows (mkII (1 : Int) (AffT a0 a1 a2 a3)), []⟩), (9, ⟨[.hole], [(0, .ref 22)]⟩), (22, ⟨orows (AffT a0 a1 a2 a3), []⟩)]) (env' := []) rfl rfl trivial) ?_
              refine aw_region ?_
              refine run_s (ss_assign rfl) rfl ?_
              refine run_nil ?_
              refine aw_ret ?_
              exact retAF_mk (retv1 rfl (rv_tmp rfl)) rfl rfl ⟨_, (cle_refl _), _, h, rfl⟩
            · replace h := h.2 (of_decide_eq_true (bnot_f q22))
              refine aw_skip ?_
              refine aw_seq ?_
              refine aw_gh (gh_to (n := 78) (σ' := [(15, ⟨[.hole], [(0, .ref 58)]⟩), (58, ⟨orows (AffT a0 a1 a2 a3), []⟩), (11, ⟨[.hole], [(0, .ref 30)]⟩), (30, ⟨orows (mkII (1 : Int) (AffT a0 a1 a2 a3)), []⟩), (9, ⟨[.hole], [(0, .ref 22)]⟩), (22, ⟨orows (AffT a0 a1 a2 a3), []⟩)]) (env' := [(11, .cell 11 0), (13, .c (ci ((1 : Int) + tot (AffT a0 a1 a2 a3))))]) rfl rfl ⟨rfl, rfl, trivial⟩) ?_
              refine aw_region ?_
              refine run_s (ss_assign rfl) rfl ?_
              refine run_nil ?_
              refine aw_seq ?_
              refine aw_region ?_
              refine run_s (ss_loadS rfl rfl rfl rfl) rfl ?_
              refine run_s (ss_move rfl) rfl ?_
              obtain ⟨q23, h⟩ := h
              refine run_w (ws_callR (xs := [.tmp 70, .tmp 71]) (cs := [.agg [.own (orows (mkII (1 : Int) (AffT a0 a1 a2 a3)))], ci 1]) (ids := []) rfl (.inr ⟨rfl, rfl⟩) rfl rfl (fz_cons (fz_agg (fz_cons (fz_own (fz_map (fun _ => (fz_own (fz_map (fun _ => rfl) _))) _)) fz_nil)) (fz_cons rfl fz_nil)) (c_laws_heldCycleSet (mkII (1 : Int) (AffT a0 a1 a2 a3)) 1 q23) rfl ?_ )
              rintro _ rfl
              refine ⟨rfl, rfl, ?_⟩
              refine run_s (ss_assign rfl) rfl ?_
              refine run_nil ?_
              refine aw_seq ?_
              refine aw_seq ?_
              refine aw_region ?_
              refine run_s (ss_move rfl) rfl ?_
              refine run_s (ss_lss rfl rfl) rfl ?_
              refine run_nil ?_
              refine aw_cond rfl (fun q25 => ?_) (fun q25 => ?_)
              · replace h := h.1 (of_decide_eq_true q25)
                refine aw_seq ?_
                refine aw_gh (gh_to (n := 78) (σ' := [(15, ⟨[.hole], [(0, .ref 58)]⟩), (58, ⟨orows (AffT a0 a1 a2 a3), []⟩), (11, ⟨[.hole], [(0, .ref 30)]⟩), (30, ⟨orows (mkII (1 : Int) (AffT a0 a1 a2 a3)), []⟩), (9, ⟨[.hole], [(0, .ref 22)]⟩), (22, ⟨orows (AffT a0 a1 a2 a3), []⟩)]) (env' := []) rfl rfl trivial) ?_
                refine aw_region ?_
                refine run_s (ss_assign rfl) rfl ?_
                refine run_nil ?_
                refine aw_ret ?_
                exact retAF_mk (retv1 rfl (rv_tmp rfl)) rfl rfl ⟨_, (cle_refl _), _, h, rfl⟩
              · replace h := h.2 (of_decide_eq_false q25)
                refine aw_skip ?_
                refine aw_seq ?_
                refine aw_seq ?_
                refine aw_gh (gh_to (n := 78) (σ' := [(15, ⟨[.hole], [(0, .ref 58)]⟩), (58, ⟨orows (AffT a0 a1 a2 a3), []⟩), (11, ⟨[.hole], [(0, .ref 30)]⟩), (30, ⟨orows (mkII (1 : Int) (AffT a0 a1 a2 a3)), []⟩), (9, ⟨[.hole], [(0, .ref 22)]⟩), (22, ⟨orows (AffT a0 a1 a2 a3), []⟩)]) (env' := [(13, .c (ci ((1 : Int) + tot (AffT a0 a1 a2 a3)))), (14, .c (ci (heII (1 : Int) (mkII (1 : Int) (AffT a0 a1 a2 a3)))))]) rfl rfl ⟨rfl, rfl, trivial⟩) ?_
                refine aw_region ?_
                refine run_s (ss_move rfl) rfl ?_
                refine run_s (ss_move rfl) rfl ?_
                refine run_s (ss_neq rfl rfl) rfl ?_
                refine run_nil ?_
                refine aw_cond rfl (fun q26 => ?_) (fun q26 => ?_)
                · replace h := h.1 (of_decide_eq_false (bnot_t q26))
                  refine aw_seq ?_
                  refine aw_gh (gh_to (n := 78) (σ' := [(15, ⟨[.hole], [(0, .ref 58)]⟩), (58, ⟨orows (AffT a0 a1 a2 a3), []⟩), (11, ⟨[.hole], [(0, .ref 30)]⟩), (30, ⟨orows (mkII (1 : Int) (AffT a0 a1 a2 a3)), []⟩), (9, ⟨[.hole], [(0, .ref 22)]⟩), (22, ⟨orows (AffT a0 a1 a2 a3), []⟩)]) (env' := []) rfl rfl trivial) ?_
                  refine aw_region ?_
                  refine run_s (ss_assign rfl) rfl ?_
                  refine run_nil ?_
                  refine aw_ret ?_
                  exact retAF_mk (retv1 rfl (rv_tmp rfl)) rfl rfl ⟨_, (cle_refl _), _, h, rfl⟩
                · replace h := h.2 (of_decide_eq_true (bnot_f q26))
                  refine aw_skip ?_
                  refine aw_seq ?_
                  refine aw_gh (gh_to (n := 78) (σ' := [(15, ⟨[.hole], [(0, .ref 58)]⟩), (58, ⟨orows (AffT a0 a1 a2 a3), []⟩), (11, ⟨[.hole], [(0, .ref 30)]⟩), (30, ⟨orows (mkII (1 : Int) (AffT a0 a1 a2 a3)), []⟩), (9, ⟨[.hole], [(0, .ref 22)]⟩), (22, ⟨orows (AffT a0 a1 a2 a3), []⟩)]) (env' := []) rfl rfl trivial) ?_
                  refine aw_region ?_
                  refine run_s (ss_assign rfl) rfl ?_
                  refine run_nil ?_
                  refine aw_ret ?_
                  exact retAF_mk (retv1 rfl (rv_tmp rfl)) rfl rfl ⟨_, (cle_refl _), _, h, rfl⟩

theorem c_laws_FnExactAffineCycleSet (a0 : Int) (a1 : Int) (a2 : Int) (a3 : Int) (hp : InI a0 ∧ InI a1 ∧ InI a2 ∧ InI a3) : AF Try.prog 3 [ci a0, ci a1, ci a2, ci a3] (fun R_ => R_ = cb true) :=
  (w_laws_FnExactAffineCycleSet a0 a1 a2 a3 (fun y0 => y0 = true) (p_laws_FnExactAffineCycleSet a0 a1 a2 a3 hp)).mono (by rintro r ⟨_, rfl, rfl⟩; rfl)

end Go.Proofs.Ytmofdccagnbccab

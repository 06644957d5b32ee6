/- Contracts of functions that the law FnRacks reaches: conditions, plain proofs, walks; no condition. -/
import Derived.Test.YtbodlnpmplcaoaaKRacksp
namespace Go.Proofs.Ytbodlnpmplcaoaa

def wp_laws_FnRacks (code : List Int) (Q : Bool → Prop) : Prop :=
 ((4096 < (code.length : Int) →
  Q true) ∧
 (¬ (4096 < (code.length : Int)) →
  (small code ∧ bytes code) ∧
  ∀ (r1_0 : List (List Int)), (drT 5 r1_0) →
  (small2 r1_0) ∧
  (small2 r1_0) ∧
  ((¬ (RkfE r1_0 = RkfE r1_0) →
   Q false) ∧
  (RkfE r1_0 = RkfE r1_0 →
   (small (RkfT r1_0) ∧ small (RkfT r1_0)) ∧
   ((¬ ((RkfT r1_0) = (RkfT r1_0)) →
    Q false) ∧
   ((RkfT r1_0) = (RkfT r1_0) →
    (small2 r1_0) ∧
    (small2 r1_0) ∧
    ((((isRk r1_0) == (isRk r1_0)) = false →
     Q false) ∧
    (((isRk r1_0) == (isRk r1_0)) = true →
     (small2 r1_0) ∧
     ((((isRk r1_0) == (decide (RkfE r1_0 = 4))) = false →
      Q false) ∧
     (((isRk r1_0) == (decide (RkfE r1_0 = 4))) = true →
      (small2 r1_0) ∧
      (((isRk r1_0) = false →
       Q true) ∧
      ((isRk r1_0) = true →
       ∃ (H1 : Int → Prop) (m1 : Int → Nat),
       H1 0 ∧
       ∀ (v9_1 : Int), H1 v9_1 →
       ( ((v9_1 < (r1_0.length : Int) →
         (0 ≤ v9_1 ∧ v9_1 < (r1_0.length : Int)) ∧
         (isTab r1_0 = true ∧ small (el r1_0 v9_1)) ∧
         (small2 (imgI r1_0 (el r1_0 v9_1)) ∧ small2 r1_0) ∧
         ((¬ ((imgI r1_0 (el r1_0 v9_1)) = r1_0) →
          Q false) ∧
         ((imgI r1_0 (el r1_0 v9_1)) = r1_0 →
          (InI (v9_1 + 1)) ∧
          (H1 (v9_1 + 1) ∧ m1 (v9_1 + 1) < m1 v9_1)))) ∧
        (¬ (v9_1 < (r1_0.length : Int)) →
         (small2 r1_0) ∧
         (small2 r1_0) ∧
         (small2 (DuaT r1_0)) ∧
         (small2 r1_0) ∧
         (small2 (QuaR r1_0)) ∧
         (small2 r1_0) ∧
         (small2 r1_0) ∧
         ((¬ (rkE r1_0 = 0) →
          Q false) ∧
         (rkE r1_0 = 0 →
          ((¬ (rkE r1_0 = 0) →
           Q false) ∧
          (rkE r1_0 = 0 →
           ((¬ (rkE (DuaT r1_0) = 0) →
            Q false) ∧
           (rkE (DuaT r1_0) = 0 →
            ((¬ (rkE r1_0 = 0) →
             Q false) ∧
            (rkE r1_0 = 0 →
             ((¬ (rkE (QuaR r1_0) = 0) →
              Q false) ∧
             (rkE (QuaR r1_0) = 0 →
              ((¬ (rkE r1_0 = 0) →
               Q false) ∧
              (rkE r1_0 = 0 →
               ((¬ (rkE r1_0 = 0) →
                Q false) ∧
               (rkE r1_0 = 0 →
                (isTab r1_0 = true ∧ small (KinT r1_0)) ∧
                (small2 (imgI r1_0 (KinT r1_0)) ∧ small2 r1_0) ∧
                (((imgI r1_0 (KinT r1_0)) = r1_0 →
                 (small2 (DuaT r1_0)) ∧
                 (((isRk (DuaT r1_0)) = true →
                  (small2 (DuaT (DuaT r1_0)) ∧ small2 r1_0) ∧
                  (((DuaT (DuaT r1_0)) = r1_0 →
                   (((isRk (QuaR r1_0) && decide (diag (QuaR r1_0) = unitI ((QuaR r1_0).length : Int))) = true →
                    (small2 (QuaR r1_0) ∧ small2 r1_0) ∧
                    ((((isRk r1_0 && decide (diag r1_0 = unitI (r1_0.length : Int))) == (decide ((QuaR r1_0) = r1_0))) = true →
                     (small2 (DuaT r1_0) ∧ small2 r1_0) ∧
                     Q ((isRk r1_0 && r1_0.all invB) == (decide ((DuaT r1_0) = r1_0)))) ∧
                    (((isRk r1_0 && decide (diag r1_0 = unitI (r1_0.length : Int))) == (decide ((QuaR r1_0) = r1_0))) = false →
                     Q false))) ∧
                   ((isRk (QuaR r1_0) && decide (diag (QuaR r1_0) = unitI ((QuaR r1_0).length : Int))) = false →
                    Q false))) ∧
                  (¬ ((DuaT (DuaT r1_0)) = r1_0) →
                   Q false))) ∧
                 ((isRk (DuaT r1_0)) = false →
                  Q false))) ∧
                (¬ ((imgI r1_0 (KinT r1_0)) = r1_0) →
                 Q false)))))))))))))))))))))))))))))))


@[reducible] def fine2 (t : List (List Int)) : Prop := small2 t ∧ tot t ≤ 1000000000
theorem fine2_nil : fine2 [] := ⟨⟨by simp, by simp⟩, by simp [tot]⟩
theorem mem_ranf {α : Type} {n : Int} {f : Int → α} {r : α} (h : r ∈ ran n f) : ∃ i, (0 ≤ i ∧ i < n) ∧ r = f i := by
  unfold ran at h
  obtain ⟨k, hk, rfl⟩ := List.mem_map.1 h
  have := List.mem_range.1 hk
  exact ⟨k, ⟨by omega, by omega⟩, rfl⟩
theorem fine2_tab {n : Int} {f : Int → Int → Int} (h : n ≤ 1000) : fine2 (tab n f) := by
  refine ⟨⟨by simp [tab]; omega, fun r hr => ?_⟩, ?_⟩
  · obtain ⟨i, _, rfl⟩ := mem_ranf hr
    simp; omega
  · rw [tot_tab]
    have : n.toNat ≤ 1000 := by omega
    have : n.toNat * n.toNat ≤ 1000 * 1000 := Nat.mul_le_mul this this
    omega
theorem fine2_ite {c : Prop} [Decidable c] {t : List (List Int)} (h : c → fine2 t) : fine2 (if c then t else []) := by
  split
  · exact h (by assumption)
  · exact fine2_nil
theorem small_ite {c : Prop} [Decidable c] {t : List Int} (h : c → small t) : small (if c then t else []) := by
  split
  · exact h (by assumption)
  · simp
theorem fine_mk {T : List (List Int)} (h : fine2 T) : okKT 1 T ∧ small2 (mkII 1 T) ∧ okKT 1 (mkII 1 T) ∧ heII 1 (mkII 1 T) = 1 + tot T ∧ 0 ≤ tot T := by
  have := tot_nonneg T
  have h2 := h.2
  exact ⟨⟨by omega, by omega⟩, small2_mkII h.1, ⟨by omega, by rw [tot_mkII]; omega⟩, heII_mkII 1 T, this⟩
theorem fine_mk1 {l : List Int} (h : small l) : small (mkI 1 l) ∧ heI 1 (mkI 1 l) = 1 + (l.length : Int) := ⟨by simpa using h, heI_mkI 1 l⟩
/-- What is not too large. -/
theorem sz_fine {a : List (List Int)} {left : Int} (hl : left ≤ 1000000000) (h : ¬ szII a left < 0) : fine2 a := by
  unfold szII at h
  split at h
  · omega
  · have tn := tot_nonneg a
    refine ⟨⟨by show (a.length : Int) ≤ 1000000000; omega, fun r hr => ?_⟩, by omega⟩
    obtain ⟨i, hi, rfl⟩ := mem_el hr
    have := tt_row hi
    have := (tt_le a i).1
    show ((el a i).length : Int) ≤ 1000000000; omega
theorem sz_in {a : List (List Int)} {left : Int} (hl : left ≤ 1000000000) (h : ¬ szII a left < 0) : InS (szII a left) := by
  refine ⟨by omega, ?_⟩
  unfold szII
  have := tot_nonneg a
  split <;> omega
theorem InS20 : InS 1048576 := ⟨by omega, by omega⟩
theorem fine_mkk {T : List (List Int)} {k : Int} (h : fine2 T) (hk : 0 ≤ k ∧ k ≤ 100000000000) : okKT k T ∧ ¬ (k + tot T < 0) := by
  have := tot_nonneg T
  have h2 := h.2
  exact ⟨⟨by omega, by omega⟩, by omega⟩
theorem fine_TrivT (n : Int) : fine2 (TrivT n) := fine2_ite fun h => fine2_tab (by omega)
theorem fine_DiheT (n : Int) : fine2 (DiheT n) := fine2_ite fun h => fine2_tab (by omega)
theorem fine_AlexT (n a : Int) : fine2 (AlexT n a) := fine2_ite fun h => fine2_tab (by
  unfold AlexE at h
  split at h
  · cases h
  · rename_i h2; have := Classical.not_not.1 h2; omega)
theorem fine_PermT (p : List Int) : fine2 (PermT p) := fine2_ite fun h => fine2_tab (by have := permB_len h; omega)
theorem small_SquaT (c : List (List Int)) : small (SquaT c) := small_ite fun h => by have := isTab_len h; simp [diag]; omega
theorem first3_len (n : Int) (f : Int → Int → Int → Bool) : ((first3 n f).length : Int) ≤ 3 := by
  unfold first3
  split
  · rename_i l h
    obtain ⟨x, hx, h⟩ := List.exists_of_findSome?_eq_some h
    obtain ⟨y, hy, h⟩ := List.exists_of_findSome?_eq_some h
    obtain ⟨z, hz, h⟩ := List.exists_of_findSome?_eq_some h
    split at h
    · cases h; simp
    · cases h
  · simp
theorem small_CycfT (c : List (List Int)) : small (CycfT c) := small_ite fun h => by have := first3_len (c.length : Int) (cycB c); unfold cycF; show _ ≤ (1000000000 : Int); omega

theorem tot_le_mul : ∀ (t : List (List Int)) (m : Int), 0 ≤ m → (∀ r ∈ t, (r.length : Int) ≤ m) → tot t ≤ (t.length : Int) * m
  | [], m, _, _ => by simp [tot]
  | r :: t, m, hm, h => by
    have h1 := h r List.mem_cons_self
    have h2 := tot_le_mul t m hm fun q hq => h q (List.mem_cons_of_mem _ hq)
    simp only [tot, List.length_cons, Int.natCast_add, Int.add_mul]
    omega
theorem fine2_of {t : List (List Int)} (h : (t.length : Int) ≤ 1000) (h2 : ∀ r ∈ t, (r.length : Int) ≤ 1000) : fine2 t := by
  refine ⟨⟨by show (t.length : Int) ≤ 1000000000; omega, fun r hr => by have := h2 r hr; show (r.length : Int) ≤ 1000000000; omega⟩, ?_⟩
  have a := tot_le_mul t 1000 (by omega) h2
  have b : (t.length : Int) * 1000 ≤ 1000 * 1000 := by omega
  omega
theorem fine2_isTab {t : List (List Int)} (h : isTab t = true) : fine2 t := fine2_of (by have := isTab_len h; omega) fun r hr => by
  obtain ⟨i, hi, rfl⟩ := mem_el hr
  have a := (isTab_row h hi).1; have b := isTab_len h; omega
theorem small_RkfT (r : List (List Int)) : small (RkfT r) := small_ite fun h => by have := first3_len (r.length : Int) (rackB r); unfold rackF; show _ ≤ (1000000000 : Int); omega
theorem small_dg (c : List (List Int)) : small (KinT c) := small_ite fun h => small_diag (isRk_tab h)
theorem fine_AffT (n a b c : Int) : fine2 (AffT n a b c) := fine2_ite fun h => fine2_tab (by
  unfold AffE at h
  split at h
  · rename_i h2; simp only [inN, Bool.and_eq_true, decide_eq_true_eq] at h2; omega
  · cases h)
theorem fine_Dual (r : List (List Int)) : fine2 (DuaT r) := fine2_ite fun h => by
  have ht := isRk_tab h
  have hn := isTab_len ht
  refine fine2_of (by simp; omega) fun q hq => ?_
  obtain ⟨u, hu, rfl⟩ := List.mem_map.1 hq
  obtain ⟨i, hi, rfl⟩ := mem_el hu
  have := rk_len ht hi
  simp; omega
theorem fine_Quat (r : List (List Int)) : fine2 (QuaR r) := fine2_ite fun h => fine2_tab (by have := isTab_len (isRk_tab h); omega)
theorem fine_Pro (a b : List (List Int)) : fine2 (ProT a b) := fine2_ite fun h => fine2_tab (by
  unfold ProE at h
  split at h
  · rename_i h2
    simp only [Bool.and_eq_true] at h2
    have x := isTab_len (isRk_tab h2.1)
    have y := isTab_len (isRk_tab h2.2)
    have := mulB (a := (a.length : Int)) (i := (b.length : Int)) (A := 12) (B := 12) ⟨by omega, by omega, by omega, by omega⟩
    omega
  · cases h)
theorem fine_Uni (a b : List (List Int)) : fine2 (UniT a b) := fine2_ite fun h => fine2_tab (by
  unfold UniE at h
  split at h
  · rename_i h2
    simp only [Bool.and_eq_true] at h2
    have x := isTab_len (isRk_tab h2.1)
    have y := isTab_len (isRk_tab h2.2)
    omega
  · cases h)
theorem small_Ror (r : List (List Int)) : small (RorT r) := small_ite fun h => by
  have := isTab_len (isRk_tab h)
  have := orbI_len (n := (r.length : Int)) (by omega) (isRk_permsN h)
  show _ ≤ (1000000000 : Int); omega
theorem small_Sub (r : List (List Int)) : small (SubT r) := small_ite fun h => by
  have := isTab_len (isRk_tab h)
  have p2 := pow2_le (k := r.length) (by omega)
  have := subsI_len r ((2 : Int) ^ r.length)
  show _ ≤ (1000000000 : Int); omega
theorem fine_so {T0 T1 : List (List Int)} (h0 : fine2 T0) (h1 : fine2 T1) : 1 + tot T0 + tot T1 ≤ 1000000000000 ∧ small2 (mkII 1 T0) ∧ small2 (mkII (1 + tot T0) T1) ∧ heSo 1 (mkII 1 T0) (mkII (1 + tot T0) T1) = 1 + tot T0 + tot T1 ∧ ¬ (1 + tot T0 + tot T1 < 0) := by
  have t0 := tot_nonneg T0
  have t1 := tot_nonneg T1
  have a := h0.2
  have b := h1.2
  refine ⟨by omega, small2_mkII h0.1, small2_mkII h1.1, ?_, by omega⟩
  unfold heSo
  rw [heII_mkII, heII_mkII, if_neg (by omega), if_neg (by omega)]
theorem fine_Cjq (l : List (List Int)) : fine2 (CjqT l) := fine2_ite fun h => fine2_tab (by
  unfold CjqE at h
  split at h
  · split at h
    · cases h
    · omega
  · cases h)
theorem fine_RsoA (r : List (List Int)) : fine2 (RsoA r) := fine2_ite fun h => fine2_isTab (isRk_tab h)
theorem fine_RsoB (r : List (List Int)) : fine2 (RsoB r) := fine2_ite fun h => fine2_tab (by have := isTab_len (isRk_tab h); omega)
theorem small_Row (c : List (List Int)) : small (RowT c) := small_ite fun h => by
  have := isTab_len (isCyc_tab h)
  show _ ≤ (1000000000 : Int); simp; omega
theorem fine_Res (r : List (List Int)) (l : List Int) : fine2 (ResT r l) := fine2_ite fun h => fine2_tab (by
  unfold ResE at h
  split at h
  · rename_i h1
    split at h
    · rename_i h2
      simp only [Bool.and_eq_true] at h2
      have := res_len (isRk_tab h1) (res_el h2.1) h2.2
      omega
    · cases h
  · cases h)
theorem fine_Quo (r : List (List Int)) (c : List Int) : fine2 (QuoT r c) := fine2_ite fun h => fine2_tab (by
  unfold QuoE at h
  split at h
  · rename_i h1
    simp only [Bool.and_eq_true] at h1
    have a := canN_le (partB_can h1.2)
    have b := partB_len h1.2
    have d := isTab_len (isRk_tab h1.1)
    omega
  · cases h)
theorem fine_SocA (c : List (List Int)) : fine2 (SocA c) := fine2_ite fun h => fine2_tab (by have := isTab_len (isCyc_tab h); omega)
theorem fine_SocB (c : List (List Int)) : fine2 (SocB c) := fine2_ite fun h => fine2_tab (by have := isTab_len (isCyc_tab h); omega)
theorem fine_Dcy (c : List (List Int)) : fine2 (DcyT c) := fine2_ite fun h => by
  have hB := isTab_trnT (isTab_cyBT (isCyc_tab h) (isCyc_perm h))
  have hn := isTab_len hB
  refine fine2_of (by simp; omega) fun q hq => ?_
  obtain ⟨u, hu, rfl⟩ := List.mem_map.1 hq
  obtain ⟨i, hi, rfl⟩ := mem_el hu
  have := rk_len hB hi
  simp; omega
theorem small_Cgf (r : List (List Int)) (x y : Int) : small (CgfT r x y) := small_ite fun h => by
  unfold CgfE at h
  split at h
  · rename_i h1
    split at h
    · rename_i h2
      simp only [inN, Bool.and_eq_true, decide_eq_true_eq] at h2
      have := (cgI_is (isRk_tab h1) ⟨h2.1.1, by omega⟩ ⟨h2.2.1, by omega⟩).1
      have := isTab_len (isRk_tab h1)
      show ((cgI r x y).length : Int) ≤ 1000000000
      omega
    · cases h
  · cases h
theorem fine_Cso (s t : List (List Int)) : fine2 (CsoT s t) := fine2_ite fun h => by
  have hb : pmB s t = true := by
    unfold CsoE at h
    split at h
    · rename_i h1; simp only [solB, Bool.and_eq_true] at h1; exact h1.1.1
    · cases h
  have hB := (pm_tab hb).1
  have hn := isTab_len hB
  refine fine2_of (by simp; omega) fun q hq => ?_
  obtain ⟨u, hu, rfl⟩ := List.mem_map.1 hq
  obtain ⟨i, hi, rfl⟩ := mem_el hu
  have := rk_len hB hi
  simp; omega
theorem small_Sbf (r : List (List Int)) (l : List Int) : small (SbfT r l) := small_ite fun h => by
  unfold SbfE at h
  split at h
  · rename_i h1
    have hn := isTab_len (isRk_tab h1)
    have := List.length_filter_le (fun x => dec (Sc r l x)) (ran (r.length : Int) id)
    have e : (ran (r.length : Int) id).length = r.length := by simp
    show ((sbI r l).length : Int) ≤ 1000000000
    unfold sbI
    omega
  · cases h
theorem drT_small {m : Int} {t : List (List Int)} (hm : m ≤ 1000) (h : drT m t) : small2 t := ⟨by show (_ : Int) ≤ _; have := h.1; omega, fun q hq => by show (_ : Int) ≤ _; have := (h.2 q hq).1; omega⟩
theorem bytes_of {code : List Int} (hp : code.length ≤ 9223372036854775807 ∧ ∀ z_ ∈ code, 0 ≤ z_ ∧ z_ ≤ 255) (h : ¬ (4096 < (code.length : Int))) : small code ∧ bytes code :=
  ⟨by show (_ : Int) ≤ _; omega, fun i i0 i1 => hp.2 _ (el_mem ⟨i0, i1⟩)⟩
theorem rkE_t {t : List (List Int)} (h : isRk t = true) : rkE t = 0 := by unfold rkE; rw [h]; rfl

theorem p_laws_FnRacks (code : List Int) (hp : code.length ≤ 9223372036854775807 ∧ ∀ z_ ∈ code, 0 ≤ z_ ∧ z_ ≤ 255) : wp_laws_FnRacks code (fun y0 => y0 = true) := by
  unfold wp_laws_FnRacks
  refine ⟨fun _ => rfl, fun hb => ⟨bytes_of hp hb, ?_⟩⟩
  rintro r hr
  have sr := drT_small (by omega) hr
  have fd := (fine_Dual r).1
  have fq := (fine_Quat r).1
  have fdd := (fine_Dual (DuaT r)).1
  have sf := small_RkfT r
  have e4 : (RkfE r = 4) = (isRk r = true) := by
    apply propext
    unfold RkfE isRk
    cases isTab r <;> cases r.all isPerm <;> by_cases h : rackF r = [] <;> simp [h]
  by_cases h : isRk r = true
  · have ht := isRk_tab h
    have hn := isTab_len ht
    have eD : DuaT r = r.map backI := by unfold DuaT; rw [if_pos h]
    have eQ : QuaR r = QuaT r := by unfold QuaR; rw [if_pos h]
    have eK : KinT r = diag r := by unfold KinT; rw [if_pos h]
    have rd := isRk_dua h
    have rq := isRk_qua h
    have eDD : DuaT (r.map backI) = r := by unfold DuaT; rw [if_pos rd, dua_dua h]
    have c0 := rkE_t h; have c1 := rkE_t rd; have c2 := rkE_t rq
    have l9 : (r.length : Int) ≤ 1000000000 := by omega
    have sk : small (diag r) := by show (_ : Int) ≤ _; rw [length_diag]; omega
    rw [eD] at fd fdd
    rw [eDD] at fdd
    rw [eQ] at fq
    have ik := rk_kink_auto h
    have qd := qua_diag h
    have qs : (QuaT r = r) = (diag r = unitI (r.length : Int)) := propext (qua_self h).symm
    have di : (r.map backI = r) = (r.all invB = true) := propext (dua_inv h).symm
    rw [eK, eD, eDD, eQ, ik, qd, h, rd, rq, c0, c1, c2]
    simp only [e4, h]
    have hloop : ∀ x, 0 ≤ x → x < (r.length : Int) → small (el r x) ∧ imgI r (el r x) = r := fun x x0 x1 =>
      ⟨sr.2 _ (el_mem ⟨x0, x1⟩), rk_row_auto h ⟨x0, x1⟩⟩
    simp only [eq_true sr, eq_true sf, true_and, and_true, not_true, false_imp_iff, true_imp_iff, true_implies, not_false_eq_true, beq_self_eq_true, decide_true, Bool.true_eq_false]
    refine ⟨fun x => 0 ≤ x ∧ x ≤ (r.length : Int), fun x => ((r.length : Int) - x).toNat, ⟨by omega, by omega⟩, ?_⟩
    rintro x ⟨x0, x1⟩
    dsimp only
    refine ⟨fun xn => ?_, fun xn => ?_⟩
    · obtain ⟨g1, g2⟩ := hloop x x0 xn
      rw [g2]
      exact ⟨⟨x0, xn⟩, ⟨ht, g1⟩, sr, fun g => absurd rfl g, fun _ => ⟨⟨by omega, by omega⟩, ⟨by omega, by omega⟩, by omega⟩⟩
    · by_cases dr : diag r = unitI (r.length : Int) <;> by_cases iv : r.all invB = true <;> simp [eq_true sr, eq_true fd, eq_true fq, eq_true fdd, eq_true sk, eq_true l9, ht, qs, di, dr, iv, eq_true sf]
  · have h' : isRk r = false := by simpa using h
    rw [h']
    simp [eq_true sr, eq_true sf, e4, h']

set_option maxRecDepth 100000 in
set_option maxHeartbeats 4000000 in
theorem w_laws_FnRacks (code : List Int) (Q : Bool → Prop) (h : wp_laws_FnRacks code Q) : AF Try.prog 4 [.lst (bys code)] (fun R_ => ∃ y0, Q y0 ∧ R_ = cb y0) := by
  refine AF.ofWQ (af_enter (n := 184) Try.func4 rfl (by rfl) rfl (Nat.le_of_ble_eq_true rfl) ?_)
  unfold wp_laws_FnRacks at h
  refine aw_seq ?_
  refine aw_gh (gh_to (n := 184) (σ' := []) (env' := [(0, .c (.lst (bys code)))]) rfl rfl ⟨rfl, trivial⟩) ?_
  refine aw_region ?_
  refine run_s (ss_assign rfl) rfl ?_
  refine run_nil ?_
  refine aw_seq ?_
  refine aw_seq ?_
  refine aw_region ?_
  refine run_s (ss_move rfl) rfl ?_
  refine run_w (ws_call (xs := [.tmp 24]) (ids := []) rfl rfl rfl rfl (c_laws_big code) rfl ?_ )
  rintro _ rfl
  refine ⟨rfl, ?_⟩
  refine run_nil ?_
  refine aw_cond rfl (fun q2 => ?_) (fun q2 => ?_)
  · replace h := h.1 (of_decide_eq_true q2)
    refine aw_seq ?_
    refine aw_gh (gh_to (n := 184) (σ' := []) (env' := [(2, .c (cb false))]) rfl rfl ⟨rfl, trivial⟩) ?_
    refine aw_region ?_
    refine run_s (ss_assign rfl) rfl ?_
    refine run_nil ?_
    refine aw_ret ?_
    exact retAF_mk (retv1 rfl (rv_tmp rfl)) rfl rfl ⟨_, (cle_refl _), _, h, rfl⟩
  · replace h := h.2 (of_decide_eq_false q2)
    refine aw_skip ?_
    refine aw_seq ?_
    refine aw_region ?_
    refine run_s (ss_move rfl) rfl ?_
    obtain ⟨q3, h⟩ := h
    refine run_w (ws_call (xs := [.tmp 26]) (ids := [27]) rfl rfl rfl rfl (c_spec_DrawRackFault code q3) rfl ?_ )
    rintro _ ⟨r1_0, q4, rfl⟩
    replace h := h r1_0 q4
    refine ⟨rfl, ?_⟩
    refine run_w (ws_alloc (id := 3) rfl (Nat.le_of_ble_eq_true rfl) ⟨rfl, ?_⟩)
    refine run_w (ws_storeS rfl rfl (Nat.le_of_ble_eq_true rfl) rfl rfl rfl ⟨rfl, ?_⟩)
    refine run_nil ?_
    refine aw_gh (gh_to (n := 184) (σ' := [(3, ⟨[.hole], [(0, .ref 27)]⟩), (27, ⟨orows r1_0, []⟩)]) (env' := [(3, .cell 3 0)]) rfl rfl ⟨rfl, trivial⟩) ?_
    refine aw_gh (gh_frzE (id := 27) (fun r => C.lst (ints r)) rfl (fun _ => (fz_own (fz_map (fun _ => rfl) _)))) ?_
    refine aw_gh (gh_fillc (id := 3) (j := 0) rfl rfl (Nat.le_of_ble_eq_true rfl)) ?_
    refine aw_gh (gh_to (n := 184) (σ' := [(3, ⟨[.lst (rows r1_0)], []⟩)]) (env' := [(3, .cell 3 0)]) rfl rfl ⟨rfl, trivial⟩) ?_
    refine aw_seq ?_
    refine aw_region ?_
    refine run_s (ss_loadS rfl rfl rfl rfl) rfl ?_
    obtain ⟨q5, h⟩ := h
    refine run_w (ws_call (xs := [.tmp 29]) (ids := [30]) rfl rfl rfl rfl (c_impl_RackFault r1_0 q5) rfl ?_ )
    rintro _ rfl
    refine ⟨rfl, ?_⟩
    refine run_s (ss_move rfl) rfl ?_
    refine run_s (ss_extract rfl rfl) rfl ?_
    refine run_s (ss_extract rfl rfl) rfl ?_
    refine run_s (ss_assign rfl) rfl ?_
    refine run_s (ss_assign rfl) rfl ?_
    refine run_nil ?_
    refine aw_gh (gh_to (n := 184) (σ' := [(30, ⟨ints (RkfT r1_0), []⟩), (3, ⟨[.lst (rows r1_0)], []⟩)]) (env' := [(3, .cell 3 0), (4, .ref 30), (5, .c (ci (RkfE r1_0)))]) rfl rfl ⟨rfl, rfl, rfl, trivial⟩) ?_
    refine aw_gh (gh_frzE (id := 30) ci rfl (fun _ => rfl)) ?_
    refine aw_gh (gh_to (n := 184) (σ' := [(3, ⟨[.lst (rows r1_0)], []⟩)]) (env' := [(3, .cell 3 0), (4, .c (.lst (ints (RkfT r1_0)))), (5, .c (ci (RkfE r1_0)))]) rfl rfl ⟨rfl, rfl, rfl, trivial⟩) ?_
    refine aw_seq ?_
    refine aw_seq ?_
    refine aw_region ?_
    refine run_s (ss_loadS rfl rfl rfl rfl) rfl ?_
    obtain ⟨q7, h⟩ := h
    refine run_w (ws_call (xs := [.tmp 34]) (ids := [35]) rfl rfl rfl rfl (c_spec_RackFault r1_0 q7) rfl ?_ )
    rintro _ rfl
    refine ⟨rfl, ?_⟩
    refine run_s (ss_move rfl) rfl ?_
    refine run_s (ss_extract rfl rfl) rfl ?_
    refine run_s (ss_extract rfl rfl) rfl ?_
    refine run_s (ss_assign rfl) rfl ?_
    refine run_s (ss_assign rfl) rfl ?_
    refine run_nil ?_
    refine aw_gh (gh_to (n := 184) (σ' := [(35, ⟨ints (RkfT r1_0), []⟩), (3, ⟨[.lst (rows r1_0)], []⟩)]) (env' := [(3, .cell 3 0), (4, .c (.lst (ints (RkfT r1_0)))), (5, .c (ci (RkfE r1_0))), (6, .ref 35), (7, .c (ci (RkfE r1_0)))]) rfl rfl ⟨rfl, rfl, rfl, rfl, rfl, trivial⟩) ?_
    refine aw_gh (gh_frzE (id := 35) ci rfl (fun _ => rfl)) ?_
    refine aw_gh (gh_to (n := 184) (σ' := [(3, ⟨[.lst (rows r1_0)], []⟩)]) (env' := [(3, .cell 3 0), (4, .c (.lst (ints (RkfT r1_0)))), (5, .c (ci (RkfE r1_0))), (6, .c (.lst (ints (RkfT r1_0)))), (7, .c (ci (RkfE r1_0)))]) rfl rfl ⟨rfl, rfl, rfl, rfl, rfl, trivial⟩) ?_
    refine aw_seq ?_
    refine aw_gh (gh_to (n := 184) (σ' := [(3, ⟨[.lst (rows r1_0)], []⟩)]) (env' := [(3, .cell 3 0), (4, .c (.lst (ints (RkfT r1_0)))), (5, .c (ci (RkfE r1_0))), (6, .c (.lst (ints (RkfT r1_0)))), (7, .c (ci (RkfE r1_0)))]) rfl rfl ⟨rfl, rfl, rfl, rfl, rfl, trivial⟩) ?_
    refine aw_regionD (kd := kdl [0, 0, 0, 0, 0, 0, 2, 0, 0, 0, 1, 2, 1, 2, 0, 0, 0, 1, 2, 0, 0, 0, 0]) (ord := [0, 1, 2, 3, 4, 5, 6, 7, 8, 9, 10, 12, 11, 13, 14, 15, 16, 19, 20, 17, 18, 21, 22]) [] mixed (by kernel_rfl) ?_
    refine rd_s rfl rfl trivial (ss_move rfl) rfl ?_
    refine rd_s rfl rfl trivial (ss_move rfl) rfl ?_
    refine rd_s rfl rfl trivial (ss_neq rfl rfl) rfl ?_
    refine rd_s rfl rfl trivial (ss_move rfl) rfl ?_
    refine rd_split (s := 41) rfl (fun q9 => ?_) (fun q9 => ?_)
    · replace h := h.1 (of_decide_eq_false (bnot_t q9))
      refine rd_no rfl rfl rfl q9 rfl ?_
      refine rd_no rfl rfl rfl q9 rfl ?_
      refine rd_no rfl rfl rfl q9 rfl ?_
      refine rd_no rfl rfl rfl q9 rfl ?_
      refine rd_s rfl rfl trivial (ss_pickT rfl q9 rfl) rfl ?_
      refine rd_s rfl rfl trivial (ss_move rfl) rfl ?_
      refine rd_split (s := 47) rfl (fun q10 => ?_) (fun q10 => ?_)
      · skip
        refine rd_no rfl rfl rfl q10 rfl ?_
        refine rd_no rfl rfl rfl q10 rfl ?_
        refine rd_no rfl rfl rfl q10 rfl ?_
        refine rd_no rfl rfl rfl q10 rfl ?_
        refine rd_no rfl rfl rfl q10 rfl ?_
        refine rd_s rfl rfl trivial (ss_pickT rfl q10 rfl) rfl ?_
        refine rd_s rfl rfl trivial (ss_move rfl) rfl ?_
        refine rd_split (s := 54) rfl (fun q11 => ?_) (fun q11 => ?_)
        · skip
          refine rd_no rfl rfl rfl q11 rfl ?_
          refine rd_no rfl rfl rfl q11 rfl ?_
          refine rd_no rfl rfl rfl q11 rfl ?_
          refine rd_no rfl rfl rfl q11 rfl ?_
          refine rd_no rfl rfl rfl q11 rfl ?_
          refine rd_s rfl rfl trivial (ss_pickT rfl q11 rfl) rfl ?_
          refine rd_nil ?_
          refine aw_cond rfl (fun q12 => ?_) (fun q12 => ?_)
          · skip
            refine aw_seq ?_
            refine aw_gh (gh_to (n := 184) (σ' := [(3, ⟨[.lst (rows r1_0)], []⟩)]) (env' := []) rfl rfl trivial) ?_
            refine aw_region ?_
            refine run_s (ss_assign rfl) rfl ?_
            refine run_nil ?_
            refine aw_ret ?_
            exact retAF_mk (retv1 rfl (rv_tmp rfl)) rfl rfl ⟨_, (cle_refl _), _, h, rfl⟩
          · cases q12
        · cases q11
      · cases q10
    · replace h := h.2 (of_decide_eq_true (bnot_f q9))
      refine rd_s rfl rfl ⟨_, _, rfl, rfl, q9⟩ (ss_move rfl) rfl ?_
      refine rd_s rfl rfl ⟨_, _, rfl, rfl, q9⟩ (ss_move rfl) rfl ?_
      obtain ⟨q13, h⟩ := h
      refine rd_w rfl rfl ⟨_, _, rfl, rfl, q9⟩ rfl rfl (ws_call (xs := [.tmp 42, .tmp 43]) (ids := []) rfl rfl rfl rfl (c_laws_likeInts (RkfT r1_0) (RkfT r1_0) q13) rfl ?_ )
      rintro _ rfl
      refine ⟨rfl, ?_⟩
      refine rd_s rfl rfl ⟨_, _, rfl, rfl, q9⟩ (ss_not rfl) rfl ?_
      refine rd_s rfl rfl trivial (ss_pickF rfl q9 rfl) rfl ?_
      refine rd_s rfl rfl trivial (ss_move rfl) rfl ?_
      refine rd_split (s := 47) rfl (fun q15 => ?_) (fun q15 => ?_)
      · replace h := h.1 (of_decide_eq_false (bnot_t q15))
        refine rd_no rfl rfl rfl q15 rfl ?_
        refine rd_no rfl rfl rfl q15 rfl ?_
        refine rd_no rfl rfl rfl q15 rfl ?_
        refine rd_no rfl rfl rfl q15 rfl ?_
        refine rd_no rfl rfl rfl q15 rfl ?_
        refine rd_s rfl rfl trivial (ss_pickT rfl q15 rfl) rfl ?_
        refine rd_s rfl rfl trivial (ss_move rfl) rfl ?_
        refine rd_split (s := 54) rfl (fun q16 => ?_) (fun q16 => ?_)
        · skip
          refine rd_no rfl rfl rfl q16 rfl ?_
          refine rd_no rfl rfl rfl q16 rfl ?_
          refine rd_no rfl rfl rfl q16 rfl ?_
          refine rd_no rfl rfl rfl q16 rfl ?_
          refine rd_no rfl rfl rfl q16 rfl ?_
          refine rd_s rfl rfl trivial (ss_pickT rfl q16 rfl) rfl ?_
          refine rd_nil ?_
          refine aw_cond rfl (fun q17 => ?_) (fun q17 => ?_)
          · skip
            refine aw_seq ?_
            refine aw_gh (gh_to (n := 184) (σ' := [(3, ⟨[.lst (rows r1_0)], []⟩)]) (env' := []) rfl rfl trivial) ?_
            refine aw_region ?_
            refine run_s (ss_assign rfl) rfl ?_
            refine run_nil ?_
            refine aw_ret ?_
            exact retAF_mk (retv1 rfl (rv_tmp rfl)) rfl rfl ⟨_, (cle_refl _), _, h, rfl⟩
          · cases q17
        · cases q16
      · replace h := h.2 (of_decide_eq_true (bnot_f q15))
        refine rd_l rfl rfl ⟨_, _, rfl, rfl, q15⟩ (ss_loadS rfl rfl rfl rfl) rfl ?_
        refine rd_l rfl rfl ⟨_, _, rfl, rfl, q15⟩ (ss_loadS rfl rfl rfl rfl) rfl ?_
        obtain ⟨q18, h⟩ := h
        refine rd_w rfl rfl ⟨_, _, rfl, rfl, q15⟩ rfl rfl (ws_call (xs := [.tmp 48]) (ids := []) rfl rfl rfl rfl (c_impl_IsRack r1_0 q18) rfl ?_ )
        rintro _ rfl
        refine ⟨rfl, ?_⟩
        obtain ⟨q20, h⟩ := h
        refine rd_w rfl rfl ⟨_, _, rfl, rfl, q15⟩ rfl rfl (ws_call (xs := [.tmp 50]) (ids := []) rfl rfl rfl rfl (c_spec_IsRack r1_0 q20) rfl ?_ )
        rintro _ rfl
        refine ⟨rfl, ?_⟩
        refine rd_s rfl rfl ⟨_, _, rfl, rfl, q15⟩ (ss_neqB rfl rfl) rfl ?_
        refine rd_s rfl rfl trivial (ss_pickF rfl q15 rfl) rfl ?_
        refine rd_s rfl rfl trivial (ss_move rfl) rfl ?_
        refine rd_split (s := 54) rfl (fun q22 => ?_) (fun q22 => ?_)
        · replace h := h.1 ((bnot_t q22))
          refine rd_no rfl rfl rfl q22 rfl ?_
          refine rd_no rfl rfl rfl q22 rfl ?_
          refine rd_no rfl rfl rfl q22 rfl ?_
          refine rd_no rfl rfl rfl q22 rfl ?_
          refine rd_no rfl rfl rfl q22 rfl ?_
          refine rd_s rfl rfl trivial (ss_pickT rfl q22 rfl) rfl ?_
          refine rd_nil ?_
          refine aw_cond rfl (fun q23 => ?_) (fun q23 => ?_)
          · skip
            refine aw_seq ?_
            refine aw_gh (gh_to (n := 184) (σ' := [(3, ⟨[.lst (rows r1_0)], []⟩)]) (env' := []) rfl rfl trivial) ?_
            refine aw_region ?_
            refine run_s (ss_assign rfl) rfl ?_
            refine run_nil ?_
            refine aw_ret ?_
            exact retAF_mk (retv1 rfl (rv_tmp rfl)) rfl rfl ⟨_, (cle_refl _), _, h, rfl⟩
          · cases q23
        · replace h := h.2 ((bnot_f q22))
          refine rd_s rfl rfl ⟨_, _, rfl, rfl, q22⟩ (ss_move rfl) rfl ?_
          refine rd_s rfl rfl ⟨_, _, rfl, rfl, q22⟩ (ss_eql rfl rfl) rfl ?_
          refine rd_l rfl rfl ⟨_, _, rfl, rfl, q22⟩ (ss_loadS rfl rfl rfl rfl) rfl ?_
          obtain ⟨q24, h⟩ := h
          refine rd_w rfl rfl ⟨_, _, rfl, rfl, q22⟩ rfl rfl (ws_call (xs := [.tmp 55]) (ids := []) rfl rfl rfl rfl (c_impl_IsRack r1_0 q24) rfl ?_ )
          rintro _ rfl
          refine ⟨rfl, ?_⟩
          refine rd_s rfl rfl ⟨_, _, rfl, rfl, q22⟩ (ss_neqB rfl rfl) rfl ?_
          refine rd_s rfl rfl trivial (ss_pickF rfl q22 rfl) rfl ?_
          refine rd_nil ?_
          refine aw_cond rfl (fun q26 => ?_) (fun q26 => ?_)
          · replace h := h.1 ((bnot_t q26))
            refine aw_seq ?_
            refine aw_gh (gh_to (n := 184) (σ' := [(3, ⟨[.lst (rows r1_0)], []⟩)]) (env' := []) rfl rfl trivial) ?_
            refine aw_region ?_
            refine run_s (ss_assign rfl) rfl ?_
            refine run_nil ?_
            refine aw_ret ?_
            exact retAF_mk (retv1 rfl (rv_tmp rfl)) rfl rfl ⟨_, (cle_refl _), _, h, rfl⟩
          · replace h := h.2 ((bnot_f q26))
            refine aw_skip ?_
            refine aw_seq ?_
            refine aw_seq ?_
            refine aw_region ?_
            refine run_s (ss_loadS rfl rfl rfl rfl) rfl ?_
            obtain ⟨q27, h⟩ := h
            refine run_w (ws_call (xs := [.tmp 61]) (ids := []) rfl rfl rfl rfl (c_impl_IsRack r1_0 q27) rfl ?_ )
            rintro _ rfl
            refine ⟨rfl, ?_⟩
            refine run_s (ss_not rfl) rfl ?_
            refine run_nil ?_
            refine aw_cond rfl (fun q29 => ?_) (fun q29 => ?_)
            · replace h := h.1 ((bnot_t q29))
              refine aw_seq ?_
              refine aw_gh (gh_to (n := 184) (σ' := [(3, ⟨[.lst (rows r1_0)], []⟩)]) (env' := []) rfl rfl trivial) ?_
              refine aw_region ?_
              refine run_s (ss_assign rfl) rfl ?_
              refine run_nil ?_
              refine aw_ret ?_
              exact retAF_mk (retv1 rfl (rv_tmp rfl)) rfl rfl ⟨_, (cle_refl _), _, h, rfl⟩
            · replace h := h.2 ((bnot_f q29))
              refine aw_skip ?_
              refine aw_seq ?_
              refine aw_region ?_
              refine run_s (ss_field_cell rfl) rfl ?_
              refine run_s (ss_loadC rfl rfl rfl rfl rfl) rfl ?_
              refine run_s (ss_lenL (f := (fun r => C.lst (ints r))) rfl) rfl ?_
              refine run_s (ss_assign rfl) rfl ?_
              refine run_nil ?_
              refine aw_seq ?_
              refine aw_seq ?_
              refine aw_region ?_
              refine run_s (ss_assign rfl) rfl ?_
              refine run_nil ?_
              refine aw_block ?_
              obtain ⟨H1, m1, q30, h⟩ := h
              refine aw_loop1 (fun (v9_1 : Int) => ⟨[(3, ⟨[.lst (rows r1_0)], []⟩)], [(3, .cell 3 0), (8, .c (ci (r1_0.length : Int))), (9, .c (ci v9_1))], 184⟩) H1 m1 ⟨0, ghe_to (n := 184) rfl rfl ⟨rfl, rfl, rfl, trivial⟩, q30⟩ ?_
              rintro v9_1 q30
              replace h := h v9_1 q30
              refine aw_seq ?_
              refine aw_seq ?_
              refine aw_region ?_
              refine run_s (ss_move rfl) rfl ?_
              refine run_s (ss_move rfl) rfl ?_
              refine run_s (ss_lss rfl rfl) rfl ?_
              refine run_nil ?_
              refine aw_cond rfl (fun q31 => ?_) (fun q31 => ?_)
              · replace h := h.1 (of_decide_eq_true q31)
                refine aw_skip ?_
                refine aw_seq ?_
                refine aw_block ?_
                refine aw_seq ?_
                refine aw_gh (gh_to (n := 184) (σ' := [(3, ⟨[.lst (rows r1_0)], []⟩)]) (env' := [(3, .cell 3 0), (8, .c (ci (r1_0.length : Int))), (9, .c (ci v9_1))]) rfl rfl ⟨rfl, rfl, rfl, trivial⟩) ?_
                refine aw_regionD (kd := kdl [0, 1, 0, 1, 0, 0, 1, 2, 0, 1, 2, 0]) (ord := [0, 2, 4, 8, 1, 3, 5, 6, 9, 7, 10, 11]) [] mixed (by kernel_rfl) ?_
                refine rd_s rfl rfl trivial (ss_field_cell rfl) rfl ?_
                refine rd_s rfl rfl trivial (ss_field_cell rfl) rfl ?_
                refine rd_s rfl rfl trivial (ss_move rfl) rfl ?_
                refine rd_s rfl rfl trivial (ss_field_cell rfl) rfl ?_
                refine rd_l rfl rfl trivial (ss_loadC rfl rfl rfl rfl rfl) rfl ?_
                refine rd_l rfl rfl trivial (ss_loadC rfl rfl rfl rfl rfl) rfl ?_
                obtain ⟨q32, h⟩ := h
                refine rd_s rfl rfl trivial (ss_idxL rfl rfl q32) rfl ?_
                refine rd_l rfl rfl trivial (ss_loadL (f := (fun r => C.lst (ints r))) rfl q32) rfl ?_
                refine rd_l rfl rfl trivial (ss_loadC rfl rfl rfl rfl rfl) rfl ?_
                obtain ⟨q33, h⟩ := h
                refine rd_w rfl rfl trivial rfl rfl (ws_call (xs := [.tmp 73, .tmp 78]) (ids := [79]) rfl rfl rfl rfl (c_laws_image9 r1_0 (el r1_0 v9_1) q33) rfl ?_ )
                rintro _ rfl
                refine ⟨rfl, ?_⟩
                obtain ⟨q35, h⟩ := h
                refine rd_w rfl rfl trivial rfl rfl (ws_callR (xs := [.tmp 79, .tmp 81]) (cs := [.own (orows (imgI r1_0 (el r1_0 v9_1))), .lst (rows r1_0)]) (ids := []) rfl (.inr ⟨rfl, rfl⟩) rfl rfl (fz_cons (fz_own (fz_map (fun _ => (fz_own (fz_map (fun _ => rfl) _))) _)) (fz_cons rfl fz_nil)) (c_laws_same9 (imgI r1_0 (el r1_0 v9_1)) r1_0 q35) rfl ?_ )
                rintro _ rfl
                refine ⟨rfl, rfl, ?_⟩
                refine rd_s rfl rfl trivial (ss_not rfl) rfl ?_
                refine rd_nil ?_
                refine aw_gh (gh_to (n := 184) (σ' := [(79, ⟨orows (imgI r1_0 (el r1_0 v9_1)), []⟩), (3, ⟨[.lst (rows r1_0)], []⟩)]) (env' := [(3, .cell 3 0), (8, .c (ci (r1_0.length : Int))), (9, .c (ci v9_1)), (83, .c (cb (!(decide ((imgI r1_0 (el r1_0 v9_1)) = r1_0)))))]) rfl rfl ⟨rfl, rfl, rfl, rfl, trivial⟩) ?_
                refine aw_gh (gh_frzE (id := 79) (fun r => C.lst (ints r)) rfl (fun _ => (fz_own (fz_map (fun _ => rfl) _)))) ?_
                refine aw_gh (gh_to (n := 184) (σ' := [(3, ⟨[.lst (rows r1_0)], []⟩)]) (env' := [(3, .cell 3 0), (8, .c (ci (r1_0.length : Int))), (9, .c (ci v9_1)), (83, .c (cb (!(decide ((imgI r1_0 (el r1_0 v9_1)) = r1_0)))))]) rfl rfl ⟨rfl, rfl, rfl, rfl, trivial⟩) ?_
                refine aw_cond rfl (fun q37 => ?_) (fun q37 => ?_)
                · replace h := h.1 (of_decide_eq_false (bnot_t q37))
                  refine aw_seq ?_
                  refine aw_gh (gh_to (n := 184) (σ' := [(3, ⟨[.lst (rows r1_0)], []⟩)]) (env' := []) rfl rfl trivial) ?_
                  refine aw_region ?_
                  refine run_s (ss_assign rfl) rfl ?_
                  refine run_nil ?_
                  refine aw_ret ?_
                  exact retAF_mk (retv1 rfl (rv_tmp rfl)) rfl rfl ⟨_, (cle_refl _), _, h, rfl⟩
                · replace h := h.2 (of_decide_eq_true (bnot_f q37))
                  refine aw_skip ?_
                  refine aw_region ?_
                  refine run_s (ss_move rfl) rfl ?_
                  obtain ⟨q38, h⟩ := h
                  refine run_s (ss_add rfl rfl q38) rfl ?_
                  refine run_s (ss_assign rfl) rfl ?_
                  refine run_nil ?_
                  exact ⟨v9_1 + 1, ghe_to (n := 184) rfl rfl ⟨rfl, rfl, rfl, trivial⟩, h.1, h.2⟩
              · replace h := h.2 (of_decide_eq_false q31)
                refine aw_exit ?_
                refine aw_seq ?_
                refine aw_region ?_
                refine run_s (ss_loadS rfl rfl rfl rfl) rfl ?_
                obtain ⟨q39, h⟩ := h
                refine run_w (ws_call (xs := [.tmp 85]) (ids := [86]) rfl rfl rfl rfl (c_impl_KinkOf r1_0 q39) rfl ?_ )
                rintro _ rfl
                refine ⟨rfl, ?_⟩
                refine run_s (ss_move rfl) rfl ?_
                refine run_s (ss_extract rfl rfl) rfl ?_
                refine run_s (ss_extract rfl rfl) rfl ?_
                refine run_s (ss_assign rfl) rfl ?_
                refine run_s (ss_assign rfl) rfl ?_
                refine run_nil ?_
                refine aw_gh (gh_to (n := 184) (σ' := [(86, ⟨ints (KinT r1_0), []⟩), (3, ⟨[.lst (rows r1_0)], []⟩)]) (env' := [(3, .cell 3 0), (10, .ref 86), (11, .c (ci (rkE r1_0)))]) rfl rfl ⟨rfl, rfl, rfl, trivial⟩) ?_
                refine aw_gh (gh_frzE (id := 86) ci rfl (fun _ => rfl)) ?_
                refine aw_gh (gh_to (n := 184) (σ' := [(3, ⟨[.lst (rows r1_0)], []⟩)]) (env' := [(3, .cell 3 0), (10, .c (.lst (ints (KinT r1_0)))), (11, .c (ci (rkE r1_0)))]) rfl rfl ⟨rfl, rfl, rfl, trivial⟩) ?_
                refine aw_seq ?_
                refine aw_region ?_
                refine run_s (ss_loadS rfl rfl rfl rfl) rfl ?_
                obtain ⟨q41, h⟩ := h
                refine run_w (ws_call (xs := [.tmp 90]) (ids := [91]) rfl rfl rfl rfl (c_impl_DualRack r1_0 q41) rfl ?_ )
                rintro _ rfl
                refine ⟨rfl, ?_⟩
                refine run_s (ss_move rfl) rfl ?_
                refine run_s (ss_extract rfl rfl) rfl ?_
                refine run_s (ss_extract rfl rfl) rfl ?_
                refine run_w (ws_alloc (id := 12) rfl (Nat.le_of_ble_eq_true rfl) ⟨rfl, ?_⟩)
                refine run_w (ws_storeS rfl rfl (Nat.le_of_ble_eq_true rfl) rfl rfl rfl ⟨rfl, ?_⟩)
                refine run_s (ss_assign rfl) rfl ?_
                refine run_nil ?_
                refine aw_gh (gh_to (n := 184) (σ' := [(12, ⟨[.hole], [(0, .ref 91)]⟩), (91, ⟨orows (DuaT r1_0), []⟩), (3, ⟨[.lst (rows r1_0)], []⟩)]) (env' := [(3, .cell 3 0), (10, .c (.lst (ints (KinT r1_0)))), (11, .c (ci (rkE r1_0))), (12, .cell 12 0), (13, .c (ci (rkE r1_0)))]) rfl rfl ⟨rfl, rfl, rfl, rfl, rfl, trivial⟩) ?_
                refine aw_gh (gh_frzE (id := 91) (fun r => C.lst (ints r)) rfl (fun _ => (fz_own (fz_map (fun _ => rfl) _)))) ?_
                refine aw_gh (gh_fillc (id := 12) (j := 0) rfl rfl (Nat.le_of_ble_eq_true rfl)) ?_
                refine aw_gh (gh_to (n := 184) (σ' := [(12, ⟨[.lst (rows (DuaT r1_0))], []⟩), (3, ⟨[.lst (rows r1_0)], []⟩)]) (env' := [(3, .cell 3 0), (10, .c (.lst (ints (KinT r1_0)))), (11, .c (ci (rkE r1_0))), (12, .cell 12 0), (13, .c (ci (rkE r1_0)))]) rfl rfl ⟨rfl, rfl, rfl, rfl, rfl, trivial⟩) ?_
                refine aw_seq ?_
                refine aw_region ?_
                refine run_s (ss_loadS rfl rfl rfl rfl) rfl ?_
                obtain ⟨q43, h⟩ := h
                refine run_w (ws_call (xs := [.tmp 95]) (ids := [96]) rfl rfl rfl rfl (c_impl_DualRack (DuaT r1_0) q43) rfl ?_ )
                rintro _ rfl
                refine ⟨rfl, ?_⟩
                refine run_s (ss_move rfl) rfl ?_
                refine run_s (ss_extract rfl rfl) rfl ?_
                refine run_s (ss_extract rfl rfl) rfl ?_
                refine run_w (ws_alloc (id := 14) rfl (Nat.le_of_ble_eq_true rfl) ⟨rfl, ?_⟩)
                refine run_w (ws_storeS rfl rfl (Nat.le_of_ble_eq_true rfl) rfl rfl rfl ⟨rfl, ?_⟩)
                refine run_s (ss_assign rfl) rfl ?_
                refine run_nil ?_
                refine aw_gh (gh_to (n := 184) (σ' := [(14, ⟨[.hole], [(0, .ref 96)]⟩), (96, ⟨orows (DuaT (DuaT r1_0)), []⟩), (12, ⟨[.lst (rows (DuaT r1_0))], []⟩), (3, ⟨[.lst (rows r1_0)], []⟩)]) (env' := [(3, .cell 3 0), (10, .c (.lst (ints (KinT r1_0)))), (11, .c (ci (rkE r1_0))), (12, .cell 12 0), (13, .c (ci (rkE r1_0))), (14, .cell 14 0), (15, .c (ci (rkE (DuaT r1_0))))]) rfl rfl ⟨rfl, rfl, rfl, rfl, rfl, rfl, rfl, trivial⟩) ?_
                refine aw_gh (gh_frzE (id := 96) (fun r => C.lst (ints r)) rfl (fun _ => (fz_own (fz_map (fun _ => rfl) _)))) ?_
                refine aw_gh (gh_fillc (id := 14) (j := 0) rfl rfl (Nat.le_of_ble_eq_true rfl)) ?_
                refine aw_gh (gh_to (n := 184) (σ' := [(14, ⟨[.lst (rows (DuaT (DuaT r1_0)))], []⟩), (12, ⟨[.lst (rows (DuaT r1_0))], []⟩), (3, ⟨[.lst (rows r1_0)], []⟩)]) (env' := [(3, .cell 3 0), (10, .c (.lst (ints (KinT r1_0)))), (11, .c (ci (rkE r1_0))), (12, .cell 12 0), (13, .c (ci (rkE r1_0))), (14, .cell 14 0), (15, .c (ci (rkE (DuaT r1_0))))]) rfl rfl ⟨rfl, rfl, rfl, rfl, rfl, rfl, rfl, trivial⟩) ?_
                refine aw_seq ?_
                refine aw_region ?_
                refine run_s (ss_loadS rfl rfl rfl rfl) rfl ?_
                obtain ⟨q45, h⟩ := h
                refine run_w (ws_call (xs := [.tmp 100]) (ids := [101]) rfl rfl rfl rfl (c_impl_QuandleOf r1_0 q45) rfl ?_ )
                rintro _ rfl
                refine ⟨rfl, ?_⟩
                refine run_s (ss_move rfl) rfl ?_
                refine run_s (ss_extract rfl rfl) rfl ?_
                refine run_s (ss_extract rfl rfl) rfl ?_
                refine run_w (ws_alloc (id := 16) rfl (Nat.le_of_ble_eq_true rfl) ⟨rfl, ?_⟩)
                refine run_w (ws_storeS rfl rfl (Nat.le_of_ble_eq_true rfl) rfl rfl rfl ⟨rfl, ?_⟩)
                refine run_s (ss_assign rfl) rfl ?_
                refine run_nil ?_
                refine aw_gh (gh_to (n := 184) (σ' := [(16, ⟨[.hole], [(0, .ref 101)]⟩), (101, ⟨orows (QuaR r1_0), []⟩), (14, ⟨[.lst (rows (DuaT (DuaT r1_0)))], []⟩), (12, ⟨[.lst (rows (DuaT r1_0))], []⟩), (3, ⟨[.lst (rows r1_0)], []⟩)]) (env' := [(3, .cell 3 0), (10, .c (.lst (ints (KinT r1_0)))), (11, .c (ci (rkE r1_0))), (12, .cell 12 0), (13, .c (ci (rkE r1_0))), (14, .cell 14 0), (15, .c (ci (rkE (DuaT r1_0)))), (16, .cell 16 0), (17, .c (ci (rkE r1_0)))]) rfl rfl ⟨rfl, rfl, rfl, rfl, rfl, rfl, rfl, rfl, rfl, trivial⟩) ?_
                refine aw_gh (gh_frzE (id := 101) (fun r => C.lst (ints r)) rfl (fun _ => (fz_own (fz_map (fun _ => rfl) _)))) ?_
                refine aw_gh (gh_fillc (id := 16) (j := 0) rfl rfl (Nat.le_of_ble_eq_true rfl)) ?_
                refine aw_gh (gh_to (n := 184) (σ' := [(16, ⟨[.lst (rows (QuaR r1_0))], []⟩), (14, ⟨[.lst (rows (DuaT (DuaT r1_0)))], []⟩), (12, ⟨[.lst (rows (DuaT r1_0))], []⟩), (3, ⟨[.lst (rows r1_0)], []⟩)]) (env' := [(3, .cell 3 0), (10, .c (.lst (ints (KinT r1_0)))), (11, .c (ci (rkE r1_0))), (12, .cell 12 0), (13, .c (ci (rkE r1_0))), (14, .cell 14 0), (15, .c (ci (rkE (DuaT r1_0)))), (16, .cell 16 0), (17, .c (ci (rkE r1_0)))]) rfl rfl ⟨rfl, rfl, rfl, rfl, rfl, rfl, rfl, rfl, rfl, trivial⟩) ?_
                refine aw_seq ?_
                refine aw_region ?_
                refine run_s (ss_loadS rfl rfl rfl rfl) rfl ?_
                obtain ⟨q47, h⟩ := h
                refine run_w (ws_call (xs := [.tmp 105]) (ids := []) rfl rfl rfl rfl (c_impl_IsQuandle (QuaR r1_0) q47) rfl ?_ )
                rintro _ rfl
                refine ⟨rfl, ?_⟩
                refine run_s (ss_move rfl) rfl ?_
                refine run_s (ss_extract rfl rfl) rfl ?_
                refine run_s (ss_extract rfl rfl) rfl ?_
                refine run_s (ss_assign rfl) rfl ?_
                refine run_s (ss_assign rfl) rfl ?_
                refine run_nil ?_
                refine aw_seq ?_
                refine aw_region ?_
                refine run_s (ss_loadS rfl rfl rfl rfl) rfl ?_
                obtain ⟨q49, h⟩ := h
                refine run_w (ws_call (xs := [.tmp 110]) (ids := []) rfl rfl rfl rfl (c_impl_IsQuandle r1_0 q49) rfl ?_ )
                rintro _ rfl
                refine ⟨rfl, ?_⟩
                refine run_s (ss_move rfl) rfl ?_
                refine run_s (ss_extract rfl rfl) rfl ?_
                refine run_s (ss_extract rfl rfl) rfl ?_
                refine run_s (ss_assign rfl) rfl ?_
                refine run_s (ss_assign rfl) rfl ?_
                refine run_nil ?_
                refine aw_seq ?_
                refine aw_region ?_
                refine run_s (ss_loadS rfl rfl rfl rfl) rfl ?_
                obtain ⟨q51, h⟩ := h
                refine run_w (ws_call (xs := [.tmp 115]) (ids := []) rfl rfl rfl rfl (c_impl_IsInvolutoryRack r1_0 q51) rfl ?_ )
                rintro _ rfl
                refine ⟨rfl, ?_⟩
                refine run_s (ss_move rfl) rfl ?_
                refine run_s (ss_extract rfl rfl) rfl ?_
                refine run_s (ss_extract rfl rfl) rfl ?_
                refine run_s (ss_assign rfl) rfl ?_
                refine run_s (ss_assign rfl) rfl ?_
                refine run_nil ?_
                refine aw_seq ?_
                refine aw_seq ?_
                refine aw_region ?_
                refine run_s (ss_move rfl) rfl ?_
                refine run_s (ss_neq rfl rfl) rfl ?_
                refine run_s (ss_move rfl) rfl ?_
                refine run_split (s := 121) rfl (fun q53 => ?_) (fun q53 => ?_)
                · replace h := h.1 (of_decide_eq_false (bnot_t q53))
                  refine run_gf rfl rfl q53 rfl ?_
                  refine run_gf rfl rfl q53 rfl ?_
                  refine run_s (ss_pickT rfl q53 rfl) rfl ?_
                  refine run_s (ss_move rfl) rfl ?_
                  refine run_split (s := 125) rfl (fun q54 => ?_) (fun q54 => ?_)
                  · skip
                    refine run_gf rfl rfl q54 rfl ?_
                    refine run_gf rfl rfl q54 rfl ?_
                    refine run_s (ss_pickT rfl q54 rfl) rfl ?_
                    refine run_s (ss_move rfl) rfl ?_
                    refine run_split (s := 129) rfl (fun q55 => ?_) (fun q55 => ?_)
                    · skip
                      refine run_gf rfl rfl q55 rfl ?_
                      refine run_gf rfl rfl q55 rfl ?_
                      refine run_s (ss_pickT rfl q55 rfl) rfl ?_
                      refine run_s (ss_move rfl) rfl ?_
                      refine run_split (s := 133) rfl (fun q56 => ?_) (fun q56 => ?_)
                      · skip
                        refine run_gf rfl rfl q56 rfl ?_
                        refine run_gf rfl rfl q56 rfl ?_
                        refine run_s (ss_pickT rfl q56 rfl) rfl ?_
                        refine run_s (ss_move rfl) rfl ?_
                        refine run_split (s := 137) rfl (fun q57 => ?_) (fun q57 => ?_)
                        · skip
                          refine run_gf rfl rfl q57 rfl ?_
                          refine run_gf rfl rfl q57 rfl ?_
                          refine run_s (ss_pickT rfl q57 rfl) rfl ?_
                          refine run_s (ss_move rfl) rfl ?_
                          refine run_split (s := 141) rfl (fun q58 => ?_) (fun q58 => ?_)
                          · skip
                            refine run_gf rfl rfl q58 rfl ?_
                            refine run_gf rfl rfl q58 rfl ?_
                            refine run_s (ss_pickT rfl q58 rfl) rfl ?_
                            refine run_nil ?_
                            refine aw_cond rfl (fun q59 => ?_) (fun q59 => ?_)
                            · skip
                              refine aw_seq ?_
                              refine aw_gh (gh_to (n := 184) (σ' := [(16, ⟨[.lst (rows (QuaR r1_0))], []⟩), (14, ⟨[.lst (rows (DuaT (DuaT r1_0)))], []⟩), (12, ⟨[.lst (rows (DuaT r1_0))], []⟩), (3, ⟨[.lst (rows r1_0)], []⟩)]) (env' := []) rfl rfl trivial) ?_
                              refine aw_region ?_
                              refine run_s (ss_assign rfl) rfl ?_
                              refine run_nil ?_
                              refine aw_ret ?_
                              exact retAF_mk (retv1 rfl (rv_tmp rfl)) rfl rfl ⟨_, (cle_refl _), _, h, rfl⟩
                            · cases q59
                          · cases q58
                        · cases q57
                      · cases q56
                    · cases q55
                  · cases q54
                · replace h := h.2 (of_decide_eq_true (bnot_f q53))
                  refine run_gt rfl rfl q53 ?_
                  refine run_s (ss_move rfl) rfl ?_
                  refine run_gt rfl rfl q53 ?_
                  refine run_s (ss_neq rfl rfl) rfl ?_
                  refine run_s (ss_pickF rfl q53 rfl) rfl ?_
                  refine run_s (ss_move rfl) rfl ?_
                  refine run_split (s := 125) rfl (fun q60 => ?_) (fun q60 => ?_)
                  · replace h := h.1 (of_decide_eq_false (bnot_t q60))
                    refine run_gf rfl rfl q60 rfl ?_
                    refine run_gf rfl rfl q60 rfl ?_
                    refine run_s (ss_pickT rfl q60 rfl) rfl ?_
                    refine run_s (ss_move rfl) rfl ?_
                    refine run_split (s := 129) rfl (fun q61 => ?_) (fun q61 => ?_)
                    · skip
                      refine run_gf rfl rfl q61 rfl ?_
                      refine run_gf rfl rfl q61 rfl ?_
                      refine run_s (ss_pickT rfl q61 rfl) rfl ?_
                      refine run_s (ss_move rfl) rfl ?_
                      refine run_split (s := 133) rfl (fun q62 => ?_) (fun q62 => ?_)
                      · skip
                        refine run_gf rfl rfl q62 rfl ?_
                        refine run_gf rfl rfl q62 rfl ?_
                        refine run_s (ss_pickT rfl q62 rfl) rfl ?_
                        refine run_s (ss_move rfl) rfl ?_
                        refine run_split (s := 137) rfl (fun q63 => ?_) (fun q63 => ?_)
                        · skip
                          refine run_gf rfl rfl q63 rfl ?_
                          refine run_gf rfl rfl q63 rfl ?_
                          refine run_s (ss_pickT rfl q63 rfl) rfl ?_
                          refine run_s (ss_move rfl) rfl ?_
                          refine run_split (s := 141) rfl (fun q64 => ?_) (fun q64 => ?_)
                          · skip
                            refine run_gf rfl rfl q64 rfl ?_
                            refine run_gf rfl rfl q64 rfl ?_
                            refine run_s (ss_pickT rfl q64 rfl) rfl ?_
                            refine run_nil ?_
                            refine aw_cond rfl (fun q65 => ?_) (fun q65 => ?_)
                            · skip
                              refine aw_seq ?_
                              refine aw_gh (gh_to (n := 184) (σ' := [(16, ⟨[.lst (rows (QuaR r1_0))], []⟩), (14, ⟨[.lst (rows (DuaT (DuaT r1_0)))], []⟩), (12, ⟨[.lst (rows (DuaT r1_0))], []⟩), (3, ⟨[.lst (rows r1_0)], []⟩)]) (env' := []) rfl rfl trivial) ?_
                              refine aw_region ?_
                              refine run_s (ss_assign rfl) rfl ?_
                              refine run_nil ?_
                              refine aw_ret ?_
                              exact retAF_mk (retv1 rfl (rv_tmp rfl)) rfl rfl ⟨_, (cle_refl _), _, h, rfl⟩
                            · cases q65
                          · cases q64
                        · cases q63
                      · cases q62
                    · cases q61
                  · replace h := h.2 (of_decide_eq_true (bnot_f q60))
                    refine run_gt rfl rfl q60 ?_
                    refine run_s (ss_move rfl) rfl ?_
                    refine run_gt rfl rfl q60 ?_
                    refine run_s (ss_neq rfl rfl) rfl ?_
                    refine run_s (ss_pickF rfl q60 rfl) rfl ?_
                    refine run_s (ss_move rfl) rfl ?_
                    refine run_split (s := 129) rfl (fun q66 => ?_) (fun q66 => ?_)
                    · replace h := h.1 (of_decide_eq_false (bnot_t q66))
                      refine run_gf rfl rfl q66 rfl ?_
                      refine run_gf rfl rfl q66 rfl ?_
                      refine run_s (ss_pickT rfl q66 rfl) rfl ?_
                      refine run_s (ss_move rfl) rfl ?_
                      refine run_split (s := 133) rfl (fun q67 => ?_) (fun q67 => ?_)
                      · skip
                        refine run_gf rfl rfl q67 rfl ?_
                        refine run_gf rfl rfl q67 rfl ?_
                        refine run_s (ss_pickT rfl q67 rfl) rfl ?_
                        refine run_s (ss_move rfl) rfl ?_
                        refine run_split (s := 137) rfl (fun q68 => ?_) (fun q68 => ?_)
                        · skip
                          refine run_gf rfl rfl q68 rfl ?_
                          refine run_gf rfl rfl q68 rfl ?_
                          refine run_s (ss_pickT rfl q68 rfl) rfl ?_
                          refine run_s (ss_move rfl) rfl ?_
                          refine run_split (s := 141) rfl (fun q69 => ?_) (fun q69 => ?_)
                          · skip
                            refine run_gf rfl rfl q69 rfl ?_
                            refine run_gf rfl rfl q69 rfl ?_
                            refine run_s (ss_pickT rfl q69 rfl) rfl ?_
                            refine run_nil ?_
                            refine aw_cond rfl (fun q70 => ?_) (fun q70 => ?_)
                            · skip
                              refine aw_seq ?_
                              refine aw_gh (gh_to (n := 184) (σ' := [(16, ⟨[.lst (rows (QuaR r1_0))], []⟩), (14, ⟨[.lst (rows (DuaT (DuaT r1_0)))], []⟩), (12, ⟨[.lst (rows (DuaT r1_0))], []⟩), (3, ⟨[.lst (rows r1_0)], []⟩)]) (env' := []) rfl rfl trivial) ?_
                              refine aw_region ?_
                              refine run_s (ss_assign rfl) rfl ?_
                              refine run_nil ?_
                              refine aw_ret ?_
                              exact retAF_mk (retv1 rfl (rv_tmp rfl)) rfl rfl ⟨_, (cle_refl _), _, h, rfl⟩
                            · cases q70
                          · cases q69
                        · cases q68
                      · cases q67
                    · replace h := h.2 (of_decide_eq_true (bnot_f q66))
                      refine run_gt rfl rfl q66 ?_
                      refine run_s (ss_move rfl) rfl ?_
                      refine run_gt rfl rfl q66 ?_
                      refine run_s (ss_neq rfl rfl) rfl ?_
                      refine run_s (ss_pickF rfl q66 rfl) rfl ?_
                      refine run_s (ss_move rfl) rfl ?_
                      refine run_split (s := 133) rfl (fun q71 => ?_) (fun q71 => ?_)
                      · replace h := h.1 (of_decide_eq_false (bnot_t q71))
                        refine run_gf rfl rfl q71 rfl ?_
                        refine run_gf rfl rfl q71 rfl ?_
                        refine run_s (ss_pickT rfl q71 rfl) rfl ?_
                        refine run_s (ss_move rfl) rfl ?_
                        refine run_split (s := 137) rfl (fun q72 => ?_) (fun q72 => ?_)
                        · skip
                          refine run_gf rfl rfl q72 rfl ?_
                          refine run_gf rfl rfl q72 rfl ?_
                          refine run_s (ss_pickT rfl q72 rfl) rfl ?_
                          refine run_s (ss_move rfl) rfl ?_
                          refine run_split (s := 141) rfl (fun q73 => ?_) (fun q73 => ?_)
                          · skip
                            refine run_gf rfl rfl q73 rfl ?_
                            refine run_gf rfl rfl q73 rfl ?_
                            refine run_s (ss_pickT rfl q73 rfl) rfl ?_
                            refine run_nil ?_
                            refine aw_cond rfl (fun q74 => ?_) (fun q74 => ?_)
                            · skip
                              refine aw_seq ?_
                              refine aw_gh (gh_to (n := 184) (σ' := [(16, ⟨[.lst (rows (QuaR r1_0))], []⟩), (14, ⟨[.lst (rows (DuaT (DuaT r1_0)))], []⟩), (12, ⟨[.lst (rows (DuaT r1_0))], []⟩), (3, ⟨[.lst (rows r1_0)], []⟩)]) (env' := []) rfl rfl trivial) ?_
                              refine aw_region ?_
                              refine run_s (ss_assign rfl) rfl ?_
                              refine run_nil ?_
                              refine aw_ret ?_
                              exact retAF_mk (retv1 rfl (rv_tmp rfl)) rfl rfl ⟨_, (cle_refl _), _, h, rfl⟩
                            · cases q74
                          · cases q73
                        · cases q72
                      · replace h := h.2 (of_decide_eq_true (bnot_f q71))
                        refine run_gt rfl rfl q71 ?_
                        refine run_s (ss_move rfl) rfl ?_
                        refine run_gt rfl rfl q71 ?_
                        refine run_s (ss_neq rfl rfl) rfl ?_
                        refine run_s (ss_pickF rfl q71 rfl) rfl ?_
                        refine run_s (ss_move rfl) rfl ?_
                        refine run_split (s := 137) rfl (fun q75 => ?_) (fun q75 => ?_)
                        · replace h := h.1 (of_decide_eq_false (bnot_t q75))
                          refine run_gf rfl rfl q75 rfl ?_
                          refine run_gf rfl rfl q75 rfl ?_
                          refine run_s (ss_pickT rfl q75 rfl) rfl ?_
                          refine run_s (ss_move rfl) rfl ?_
                          refine run_split (s := 141) rfl (fun q76 => ?_) (fun q76 => ?_)
                          · skip
                            refine run_gf rfl rfl q76 rfl ?_
                            refine run_gf rfl rfl q76 rfl ?_
                            refine run_s (ss_pickT rfl q76 rfl) rfl ?_
                            refine run_nil ?_
                            refine aw_cond rfl (fun q77 => ?_) (fun q77 => ?_)
                            · skip
                              refine aw_seq ?_
                              refine aw_gh (gh_to (n := 184) (σ' := [(16, ⟨[.lst (rows (QuaR r1_0))], []⟩), (14, ⟨[.lst (rows (DuaT (DuaT r1_0)))], []⟩), (12, ⟨[.lst (rows (DuaT r1_0))], []⟩), (3, ⟨[.lst (rows r1_0)], []⟩)]) (env' := []) rfl rfl trivial) ?_
                              refine aw_region ?_
                              refine run_s (ss_assign rfl) rfl ?_
                              refine run_nil ?_
                              refine aw_ret ?_
                              exact retAF_mk (retv1 rfl (rv_tmp rfl)) rfl rfl ⟨_, (cle_refl _), _, h, rfl⟩
                            · cases q77
                          · cases q76
                        · replace h := h.2 (of_decide_eq_true (bnot_f q75))
                          refine run_gt rfl rfl q75 ?_
                          refine run_s (ss_move rfl) rfl ?_
                          refine run_gt rfl rfl q75 ?_
                          refine run_s (ss_neq rfl rfl) rfl ?_
                          refine run_s (ss_pickF rfl q75 rfl) rfl ?_
                          refine run_s (ss_move rfl) rfl ?_
                          refine run_split (s := 141) rfl (fun q78 => ?_) (fun q78 => ?_)
                          · replace h := h.1 (of_decide_eq_false (bnot_t q78))
                            refine run_gf rfl rfl q78 rfl ?_
                            refine run_gf rfl rfl q78 rfl ?_
                            refine run_s (ss_pickT rfl q78 rfl) rfl ?_
                            refine run_nil ?_
                            refine aw_cond rfl (fun q79 => ?_) (fun q79 => ?_)
                            · skip
                              refine aw_seq ?_
                              refine aw_gh (gh_to (n := 184) (σ' := [(16, ⟨[.lst (rows (QuaR r1_0))], []⟩), (14, ⟨[.lst (rows (DuaT (DuaT r1_0)))], []⟩), (12, ⟨[.lst (rows (DuaT r1_0))], []⟩), (3, ⟨[.lst (rows r1_0)], []⟩)]) (env' := []) rfl rfl trivial) ?_
                              refine aw_region ?_
                              refine run_s (ss_assign rfl) rfl ?_
                              refine run_nil ?_
                              refine aw_ret ?_
                              exact retAF_mk (retv1 rfl (rv_tmp rfl)) rfl rfl ⟨_, (cle_refl _), _, h, rfl⟩
                            · cases q79
                          · replace h := h.2 (of_decide_eq_true (bnot_f q78))
                            refine run_gt rfl rfl q78 ?_
                            refine run_s (ss_move rfl) rfl ?_
                            refine run_gt rfl rfl q78 ?_
                            refine run_s (ss_neq rfl rfl) rfl ?_
                            refine run_s (ss_pickF rfl q78 rfl) rfl ?_
                            refine run_nil ?_
                            refine aw_cond rfl (fun q80 => ?_) (fun q80 => ?_)
                            · replace h := h.1 (of_decide_eq_false (bnot_t q80))
                              refine aw_seq ?_
                              refine aw_gh (gh_to (n := 184) (σ' := [(16, ⟨[.lst (rows (QuaR r1_0))], []⟩), (14, ⟨[.lst (rows (DuaT (DuaT r1_0)))], []⟩), (12, ⟨[.lst (rows (DuaT r1_0))], []⟩), (3, ⟨[.lst (rows r1_0)], []⟩)]) (env' := []) rfl rfl trivial) ?_
                              refine aw_region ?_
                              refine run_s (ss_assign rfl) rfl ?_
                              refine run_nil ?_
                              refine aw_ret ?_
                              exact retAF_mk (retv1 rfl (rv_tmp rfl)) rfl rfl ⟨_, (cle_refl _), _, h, rfl⟩
                            · replace h := h.2 (of_decide_eq_true (bnot_f q80))
                              refine aw_skip ?_
                              refine aw_seq ?_
                              refine aw_gh (gh_to (n := 184) (σ' := [(16, ⟨[.lst (rows (QuaR r1_0))], []⟩), (14, ⟨[.lst (rows (DuaT (DuaT r1_0)))], []⟩), (12, ⟨[.lst (rows (DuaT r1_0))], []⟩), (3, ⟨[.lst (rows r1_0)], []⟩)]) (env' := [(3, .cell 3 0), (10, .c (.lst (ints (KinT r1_0)))), (12, .cell 12 0), (14, .cell 14 0), (16, .cell 16 0), (18, .c (cb (isRk (QuaR r1_0) && decide (diag (QuaR r1_0) = unitI ((QuaR r1_0).length : Int))))), (20, .c (cb (isRk r1_0 && decide (diag r1_0 = unitI (r1_0.length : Int))))), (22, .c (cb (isRk r1_0 && r1_0.all invB)))]) rfl rfl ⟨rfl, rfl, rfl, rfl, rfl, rfl, rfl, rfl, trivial⟩) ?_
                              refine aw_regionD (kd := kdl [0, 1, 0, 2, 0, 1, 2, 0, 1, 2, 0, 0, 0, 1, 0, 1, 2, 0, 0, 0, 0, 0, 0, 0, 1, 0, 1, 2, 0, 0, 0, 0, 0, 1, 0, 1, 2, 0, 0, 0]) (ord := [0, 2, 4, 1, 5, 3, 6, 7, 8, 9, 10, 11, 12, 14, 13, 15, 16, 17, 18, 19, 20, 21, 22, 23, 25, 24, 26, 27, 28, 29, 30, 31, 32, 34, 33, 35, 36, 37, 38, 39]) [] mixed (by kernel_rfl) ?_
                              refine rd_s rfl rfl trivial (ss_field_cell rfl) rfl ?_
                              refine rd_s rfl rfl trivial (ss_move rfl) rfl ?_
                              refine rd_s rfl rfl trivial (ss_field_cell rfl) rfl ?_
                              refine rd_l rfl rfl trivial (ss_loadC rfl rfl rfl rfl rfl) rfl ?_
                              refine rd_l rfl rfl trivial (ss_loadC rfl rfl rfl rfl rfl) rfl ?_
                              obtain ⟨q81, h⟩ := h
                              refine rd_w rfl rfl trivial rfl rfl (ws_call (xs := [.tmp 146, .tmp 147]) (ids := [148]) rfl rfl rfl rfl (c_laws_image9 r1_0 (KinT r1_0) q81) rfl ?_ )
                              rintro _ rfl
                              refine ⟨rfl, ?_⟩
                              obtain ⟨q83, h⟩ := h
                              refine rd_w rfl rfl trivial rfl rfl (ws_callR (xs := [.tmp 148, .tmp 150]) (cs := [.own (orows (imgI r1_0 (KinT r1_0))), .lst (rows r1_0)]) (ids := []) rfl (.inr ⟨rfl, rfl⟩) rfl rfl (fz_cons (fz_own (fz_map (fun _ => (fz_own (fz_map (fun _ => rfl) _))) _)) (fz_cons rfl fz_nil)) (c_laws_same9 (imgI r1_0 (KinT r1_0)) r1_0 q83) rfl ?_ )
                              rintro _ rfl
                              refine ⟨rfl, rfl, ?_⟩
                              refine rd_s rfl rfl trivial (ss_move rfl) rfl ?_
                              refine rd_split (s := 152) rfl (fun q85 => ?_) (fun q85 => ?_)
                              · replace h := h.1 (of_decide_eq_true q85)
                                refine rd_l rfl rfl ⟨_, _, rfl, rfl, q85⟩ (ss_loadS rfl rfl rfl rfl) rfl ?_
                                obtain ⟨q86, h⟩ := h
                                refine rd_w rfl rfl ⟨_, _, rfl, rfl, q85⟩ rfl rfl (ws_call (xs := [.tmp 153]) (ids := []) rfl rfl rfl rfl (c_impl_IsRack (DuaT r1_0) q86) rfl ?_ )
                                rintro _ rfl
                                refine ⟨rfl, ?_⟩
                                refine rd_s rfl rfl trivial (ss_pickT rfl q85 rfl) rfl ?_
                                refine rd_s rfl rfl trivial (ss_move rfl) rfl ?_
                                refine rd_split (s := 156) rfl (fun q88 => ?_) (fun q88 => ?_)
                                · replace h := h.1 (q88)
                                  refine rd_s rfl rfl ⟨_, _, rfl, rfl, q88⟩ (ss_field_cell rfl) rfl ?_
                                  refine rd_s rfl rfl ⟨_, _, rfl, rfl, q88⟩ (ss_field_cell rfl) rfl ?_
                                  refine rd_l rfl rfl ⟨_, _, rfl, rfl, q88⟩ (ss_loadC rfl rfl rfl rfl rfl) rfl ?_
                                  refine rd_l rfl rfl ⟨_, _, rfl, rfl, q88⟩ (ss_loadC rfl rfl rfl rfl rfl) rfl ?_
                                  obtain ⟨q89, h⟩ := h
                                  refine rd_w rfl rfl ⟨_, _, rfl, rfl, q88⟩ rfl rfl (ws_call (xs := [.tmp 158, .tmp 160]) (ids := []) rfl rfl rfl rfl (c_laws_same9 (DuaT (DuaT r1_0)) r1_0 q89) rfl ?_ )
                                  rintro _ rfl
                                  refine ⟨rfl, ?_⟩
                                  refine rd_s rfl rfl trivial (ss_pickT rfl q88 rfl) rfl ?_
                                  refine rd_s rfl rfl trivial (ss_move rfl) rfl ?_
                                  refine rd_split (s := 163) rfl (fun q91 => ?_) (fun q91 => ?_)
                                  · replace h := h.1 (of_decide_eq_true q91)
                                    refine rd_s rfl rfl ⟨_, _, rfl, rfl, q91⟩ (ss_move rfl) rfl ?_
                                    refine rd_s rfl rfl trivial (ss_pickT rfl q91 rfl) rfl ?_
                                    refine rd_s rfl rfl trivial (ss_move rfl) rfl ?_
                                    refine rd_split (s := 166) rfl (fun q92 => ?_) (fun q92 => ?_)
                                    · replace h := h.1 (q92)
                                      refine rd_s rfl rfl ⟨_, _, rfl, rfl, q92⟩ (ss_move rfl) rfl ?_
                                      refine rd_s rfl rfl ⟨_, _, rfl, rfl, q92⟩ (ss_field_cell rfl) rfl ?_
                                      refine rd_s rfl rfl ⟨_, _, rfl, rfl, q92⟩ (ss_field_cell rfl) rfl ?_
                                      refine rd_l rfl rfl ⟨_, _, rfl, rfl, q92⟩ (ss_loadC rfl rfl rfl rfl rfl) rfl ?_
                                      refine rd_l rfl rfl ⟨_, _, rfl, rfl, q92⟩ (ss_loadC rfl rfl rfl rfl rfl) rfl ?_
                                      obtain ⟨q93, h⟩ := h
                                      refine rd_w rfl rfl ⟨_, _, rfl, rfl, q92⟩ rfl rfl (ws_call (xs := [.tmp 169, .tmp 171]) (ids := []) rfl rfl rfl rfl (c_laws_same9 (QuaR r1_0) r1_0 q93) rfl ?_ )
                                      rintro _ rfl
                                      refine ⟨rfl, ?_⟩
                                      refine rd_s rfl rfl ⟨_, _, rfl, rfl, q92⟩ (ss_eqlB rfl rfl) rfl ?_
                                      refine rd_s rfl rfl trivial (ss_pickT rfl q92 rfl) rfl ?_
                                      refine rd_s rfl rfl trivial (ss_move rfl) rfl ?_
                                      refine rd_split (s := 175) rfl (fun q95 => ?_) (fun q95 => ?_)
                                      · replace h := h.1 (q95)
                                        refine rd_s rfl rfl ⟨_, _, rfl, rfl, q95⟩ (ss_move rfl) rfl ?_
                                        refine rd_s rfl rfl ⟨_, _, rfl, rfl, q95⟩ (ss_field_cell rfl) rfl ?_
                                        refine rd_s rfl rfl ⟨_, _, rfl, rfl, q95⟩ (ss_field_cell rfl) rfl ?_
                                        refine rd_l rfl rfl ⟨_, _, rfl, rfl, q95⟩ (ss_loadC rfl rfl rfl rfl rfl) rfl ?_
                                        refine rd_l rfl rfl ⟨_, _, rfl, rfl, q95⟩ (ss_loadC rfl rfl rfl rfl rfl) rfl ?_
                                        obtain ⟨q96, h⟩ := h
                                        refine rd_w rfl rfl ⟨_, _, rfl, rfl, q95⟩ rfl rfl (ws_call (xs := [.tmp 178, .tmp 180]) (ids := []) rfl rfl rfl rfl (c_laws_same9 (DuaT r1_0) r1_0 q96) rfl ?_ )
                                        rintro _ rfl
                                        refine ⟨rfl, ?_⟩
                                        refine rd_s rfl rfl ⟨_, _, rfl, rfl, q95⟩ (ss_eqlB rfl rfl) rfl ?_
                                        refine rd_s rfl rfl trivial (ss_pickT rfl q95 rfl) rfl ?_
                                        refine rd_s rfl rfl trivial (ss_assign rfl) rfl ?_
                                        refine rd_nil ?_
                                        refine aw_gh (gh_to (n := 184) (σ' := [(148, ⟨orows (imgI r1_0 (KinT r1_0)), []⟩), (16, ⟨[.lst (rows (QuaR r1_0))], []⟩), (14, ⟨[.lst (rows (DuaT (DuaT r1_0)))], []⟩), (12, ⟨[.lst (rows (DuaT r1_0))], []⟩), (3, ⟨[.lst (rows r1_0)], []⟩)]) (env' := [(2, .c (cb ((isRk r1_0 && r1_0.all invB) == (decide ((DuaT r1_0) = r1_0)))))]) rfl rfl ⟨rfl, trivial⟩) ?_
                                        refine aw_gh (gh_frzE (id := 148) (fun r => C.lst (ints r)) rfl (fun _ => (fz_own (fz_map (fun _ => rfl) _)))) ?_
                                        refine aw_gh (gh_to (n := 184) (σ' := [(16, ⟨[.lst (rows (QuaR r1_0))], []⟩), (14, ⟨[.lst (rows (DuaT (DuaT r1_0)))], []⟩), (12, ⟨[.lst (rows (DuaT r1_0))], []⟩), (3, ⟨[.lst (rows r1_0)], []⟩)]) (env' := [(2, .c (cb ((isRk r1_0 && r1_0.all invB) == (decide ((DuaT r1_0) = r1_0)))))]) rfl rfl ⟨rfl, trivial⟩) ?_
                                        refine aw_ret ?_
                                        exact retAF_mk (retv1 rfl (rv_tmp rfl)) rfl rfl ⟨_, (cle_refl _), _, h, rfl⟩
                                      · replace h := h.2 (q95)
                                        refine rd_no rfl rfl rfl q95 rfl ?_
                                        refine rd_no rfl rfl rfl q95 rfl ?_
                                        refine rd_no rfl rfl rfl q95 rfl ?_
                                        refine rd_no rfl rfl rfl q95 rfl ?_
                                        refine rd_no rfl rfl rfl q95 rfl ?_
                                        refine rd_no rfl rfl rfl q95 rfl ?_
                                        refine rd_no rfl rfl rfl q95 rfl ?_
                                        refine rd_s rfl rfl trivial (ss_pickF rfl q95 rfl) rfl ?_
                                        refine rd_s rfl rfl trivial (ss_assign rfl) rfl ?_
                                        refine rd_nil ?_
                                        refine aw_gh (gh_to (n := 184) (σ' := [(148, ⟨orows (imgI r1_0 (KinT r1_0)), []⟩), (16, ⟨[.lst (rows (QuaR r1_0))], []⟩), (14, ⟨[.lst (rows (DuaT (DuaT r1_0)))], []⟩), (12, ⟨[.lst (rows (DuaT r1_0))], []⟩), (3, ⟨[.lst (rows r1_0)], []⟩)]) (env' := [(2, .c (cb false))]) rfl rfl ⟨rfl, trivial⟩) ?_
                                        refine aw_gh (gh_frzE (id := 148) (fun r => C.lst (ints r)) rfl (fun _ => (fz_own (fz_map (fun _ => rfl) _)))) ?_
                                        refine aw_gh (gh_to (n := 184) (σ' := [(16, ⟨[.lst (rows (QuaR r1_0))], []⟩), (14, ⟨[.lst (rows (DuaT (DuaT r1_0)))], []⟩), (12, ⟨[.lst (rows (DuaT r1_0))], []⟩), (3, ⟨[.lst (rows r1_0)], []⟩)]) (env' := [(2, .c (cb false))]) rfl rfl ⟨rfl, trivial⟩) ?_
                                        refine aw_ret ?_
                                        exact retAF_mk (retv1 rfl (rv_tmp rfl)) rfl rfl ⟨_, (cle_refl _), _, h, rfl⟩
                                    · replace h := h.2 (q92)
                                      refine rd_no rfl rfl rfl q92 rfl ?_
                                      refine rd_no rfl rfl rfl q92 rfl ?_
                                      refine rd_no rfl rfl rfl q92 rfl ?_
                                      refine rd_no rfl rfl rfl q92 rfl ?_
                                      refine rd_no rfl rfl rfl q92 rfl ?_
                                      refine rd_no rfl rfl rfl q92 rfl ?_
                                      refine rd_no rfl rfl rfl q92 rfl ?_
                                      refine rd_s rfl rfl trivial (ss_pickF rfl q92 rfl) rfl ?_
                                      refine rd_s rfl rfl trivial (ss_move rfl) rfl ?_
                                      refine rd_split (s := 175) rfl (fun q98 => ?_) (fun q98 => ?_)
                                      · cases q98
                                      · skip
                                        refine rd_no rfl rfl rfl q98 rfl ?_
                                        refine rd_no rfl rfl rfl q98 rfl ?_
                                        refine rd_no rfl rfl rfl q98 rfl ?_
                                        refine rd_no rfl rfl rfl q98 rfl ?_
                                        refine rd_no rfl rfl rfl q98 rfl ?_
                                        refine rd_no rfl rfl rfl q98 rfl ?_
                                        refine rd_no rfl rfl rfl q98 rfl ?_
                                        refine rd_s rfl rfl trivial (ss_pickF rfl q98 rfl) rfl ?_
                                        refine rd_s rfl rfl trivial (ss_assign rfl) rfl ?_
                                        refine rd_nil ?_
                                        refine aw_gh (gh_to (n := 184) (σ' := [(148, ⟨orows (imgI r1_0 (KinT r1_0)), []⟩), (16, ⟨[.lst (rows (QuaR r1_0))], []⟩), (14, ⟨[.lst (rows (DuaT (DuaT r1_0)))], []⟩), (12, ⟨[.lst (rows (DuaT r1_0))], []⟩), (3, ⟨[.lst (rows r1_0)], []⟩)]) (env' := [(2, .c (cb false))]) rfl rfl ⟨rfl, trivial⟩) ?_
                                        refine aw_gh (gh_frzE (id := 148) (fun r => C.lst (ints r)) rfl (fun _ => (fz_own (fz_map (fun _ => rfl) _)))) ?_
                                        refine aw_gh (gh_to (n := 184) (σ' := [(16, ⟨[.lst (rows (QuaR r1_0))], []⟩), (14, ⟨[.lst (rows (DuaT (DuaT r1_0)))], []⟩), (12, ⟨[.lst (rows (DuaT r1_0))], []⟩), (3, ⟨[.lst (rows r1_0)], []⟩)]) (env' := [(2, .c (cb false))]) rfl rfl ⟨rfl, trivial⟩) ?_
                                        refine aw_ret ?_
                                        exact retAF_mk (retv1 rfl (rv_tmp rfl)) rfl rfl ⟨_, (cle_refl _), _, h, rfl⟩
                                  · replace h := h.2 (of_decide_eq_false q91)
                                    refine rd_no rfl rfl rfl q91 rfl ?_
                                    refine rd_s rfl rfl trivial (ss_pickF rfl q91 rfl) rfl ?_
                                    refine rd_s rfl rfl trivial (ss_move rfl) rfl ?_
                                    refine rd_split (s := 166) rfl (fun q99 => ?_) (fun q99 => ?_)
                                    · cases q99
                                    · skip
                                      refine rd_no rfl rfl rfl q99 rfl ?_
                                      refine rd_no rfl rfl rfl q99 rfl ?_
                                      refine rd_no rfl rfl rfl q99 rfl ?_
                                      refine rd_no rfl rfl rfl q99 rfl ?_
                                      refine rd_no rfl rfl rfl q99 rfl ?_
                                      refine rd_no rfl rfl rfl q99 rfl ?_
                                      refine rd_no rfl rfl rfl q99 rfl ?_
                                      refine rd_s rfl rfl trivial (ss_pickF rfl q99 rfl) rfl ?_
                                      refine rd_s rfl rfl trivial (ss_move rfl) rfl ?_
                                      refine rd_split (s := 175) rfl (fun q100 => ?_) (fun q100 => ?_)
                                      · cases q100
                                      · skip
                                        refine rd_no rfl rfl rfl q100 rfl ?_
                                        refine rd_no rfl rfl rfl q100 rfl ?_
                                        refine rd_no rfl rfl rfl q100 rfl ?_
                                        refine rd_no rfl rfl rfl q100 rfl ?_
                                        refine rd_no rfl rfl rfl q100 rfl ?_
                                        refine rd_no rfl rfl rfl q100 rfl ?_
                                        refine rd_no rfl rfl rfl q100 rfl ?_
                                        refine rd_s rfl rfl trivial (ss_pickF rfl q100 rfl) rfl ?_
                                        refine rd_s rfl rfl trivial (ss_assign rfl) rfl ?_
                                        refine rd_nil ?_
                                        refine aw_gh (gh_to (n := 184) (σ' := [(148, ⟨orows (imgI r1_0 (KinT r1_0)), []⟩), (16, ⟨[.lst (rows (QuaR r1_0))], []⟩), (14, ⟨[.lst (rows (DuaT (DuaT r1_0)))], []⟩), (12, ⟨[.lst (rows (DuaT r1_0))], []⟩), (3, ⟨[.lst (rows r1_0)], []⟩)]) (env' := [(2, .c (cb false))]) rfl rfl ⟨rfl, trivial⟩) ?_
                                        refine aw_gh (gh_frzE (id := 148) (fun r => C.lst (ints r)) rfl (fun _ => (fz_own (fz_map (fun _ => rfl) _)))) ?_
                                        refine aw_gh (gh_to (n := 184) (σ' := [(16, ⟨[.lst (rows (QuaR r1_0))], []⟩), (14, ⟨[.lst (rows (DuaT (DuaT r1_0)))], []⟩), (12, ⟨[.lst (rows (DuaT r1_0))], []⟩), (3, ⟨[.lst (rows r1_0)], []⟩)]) (env' := [(2, .c (cb false))]) rfl rfl ⟨rfl, trivial⟩) ?_
                                        refine aw_ret ?_
                                        exact retAF_mk (retv1 rfl (rv_tmp rfl)) rfl rfl ⟨_, (cle_refl _), _, h, rfl⟩
                                · replace h := h.2 (q88)
                                  refine rd_no rfl rfl rfl q88 rfl ?_
                                  refine rd_no rfl rfl rfl q88 rfl ?_
                                  refine rd_no rfl rfl rfl q88 rfl ?_
                                  refine rd_no rfl rfl rfl q88 rfl ?_
                                  refine rd_no rfl rfl rfl q88 rfl ?_
                                  refine rd_s rfl rfl trivial (ss_pickF rfl q88 rfl) rfl ?_
                                  refine rd_s rfl rfl trivial (ss_move rfl) rfl ?_
                                  refine rd_split (s := 163) rfl (fun q101 => ?_) (fun q101 => ?_)
                                  · cases q101
                                  · skip
                                    refine rd_no rfl rfl rfl q101 rfl ?_
                                    refine rd_s rfl rfl trivial (ss_pickF rfl q101 rfl) rfl ?_
                                    refine rd_s rfl rfl trivial (ss_move rfl) rfl ?_
                                    refine rd_split (s := 166) rfl (fun q102 => ?_) (fun q102 => ?_)
                                    · cases q102
                                    · skip
                                      refine rd_no rfl rfl rfl q102 rfl ?_
                                      refine rd_no rfl rfl rfl q102 rfl ?_
                                      refine rd_no rfl rfl rfl q102 rfl ?_
                                      refine rd_no rfl rfl rfl q102 rfl ?_
                                      refine rd_no rfl rfl rfl q102 rfl ?_
                                      refine rd_no rfl rfl rfl q102 rfl ?_
                                      refine rd_no rfl rfl rfl q102 rfl ?_
                                      refine rd_s rfl rfl trivial (ss_pickF rfl q102 rfl) rfl ?_
                                      refine rd_s rfl rfl trivial (ss_move rfl) rfl ?_
                                      refine rd_split (s := 175) rfl (fun q103 => ?_) (fun q103 => ?_)
                                      · cases q103
                                      · skip
                                        refine rd_no rfl rfl rfl q103 rfl ?_
                                        refine rd_no rfl rfl rfl q103 rfl ?_
                                        refine rd_no rfl rfl rfl q103 rfl ?_
                                        refine rd_no rfl rfl rfl q103 rfl ?_
                                        refine rd_no rfl rfl rfl q103 rfl ?_
                                        refine rd_no rfl rfl rfl q103 rfl ?_
                                        refine rd_no rfl rfl rfl q103 rfl ?_
                                        refine rd_s rfl rfl trivial (ss_pickF rfl q103 rfl) rfl ?_
                                        refine rd_s rfl rfl trivial (ss_assign rfl) rfl ?_
                                        refine rd_nil ?_
                                        refine aw_gh (gh_to (n := 184) (σ' := [(148, ⟨orows (imgI r1_0 (KinT r1_0)), []⟩), (16, ⟨[.lst (rows (QuaR r1_0))], []⟩), (14, ⟨[.lst (rows (DuaT (DuaT r1_0)))], []⟩), (12, ⟨[.lst (rows (DuaT r1_0))], []⟩), (3, ⟨[.lst (rows r1_0)], []⟩)]) (env' := [(2, .c (cb false))]) rfl rfl ⟨rfl, trivial⟩) ?_
                                        refine aw_gh (gh_frzE (id := 148) (fun r => C.lst (ints r)) rfl (fun _ => (fz_own (fz_map (fun _ => rfl) _)))) ?_
                                        refine aw_gh (gh_to (n := 184) (σ' := [(16, ⟨[.lst (rows (QuaR r1_0))], []⟩), (14, ⟨[.lst (rows (DuaT (DuaT r1_0)))], []⟩), (12, ⟨[.lst (rows (DuaT r1_0))], []⟩), (3, ⟨[.lst (rows r1_0)], []⟩)]) (env' := [(2, .c (cb false))]) rfl rfl ⟨rfl, trivial⟩) ?_
                                        refine aw_ret ?_
                                        exact retAF_mk (retv1 rfl (rv_tmp rfl)) rfl rfl ⟨_, (cle_refl _), _, h, rfl⟩
                              · replace h := h.2 (of_decide_eq_false q85)
                                refine rd_no rfl rfl rfl q85 rfl ?_
                                refine rd_no rfl rfl rfl q85 rfl ?_
                                refine rd_s rfl rfl trivial (ss_pickF rfl q85 rfl) rfl ?_
                                refine rd_s rfl rfl trivial (ss_move rfl) rfl ?_
                                refine rd_split (s := 156) rfl (fun q104 => ?_) (fun q104 => ?_)
                                · cases q104
                                · skip
                                  refine rd_no rfl rfl rfl q104 rfl ?_
                                  refine rd_no rfl rfl rfl q104 rfl ?_
                                  refine rd_no rfl rfl rfl q104 rfl ?_
                                  refine rd_no rfl rfl rfl q104 rfl ?_
                                  refine rd_no rfl rfl rfl q104 rfl ?_
                                  refine rd_s rfl rfl trivial (ss_pickF rfl q104 rfl) rfl ?_
                                  refine rd_s rfl rfl trivial (ss_move rfl) rfl ?_
                                  refine rd_split (s := 163) rfl (fun q105 => ?_) (fun q105 => ?_)
                                  · cases q105
                                  · skip
                                    refine rd_no rfl rfl rfl q105 rfl ?_
                                    refine rd_s rfl rfl trivial (ss_pickF rfl q105 rfl) rfl ?_
                                    refine rd_s rfl rfl trivial (ss_move rfl) rfl ?_
                                    refine rd_split (s := 166) rfl (fun q106 => ?_) (fun q106 => ?_)
                                    · cases q106
                                    · skip
                                      refine rd_no rfl rfl rfl q106 rfl ?_
                                      refine rd_no rfl rfl rfl q106 rfl ?_
                                      refine rd_no rfl rfl rfl q106 rfl ?_
                                      refine rd_no rfl rfl rfl q106 rfl ?_
                                      refine rd_no rfl rfl rfl q106 rfl ?_
                                      refine rd_no rfl rfl rfl q106 rfl ?_
                                      refine rd_no rfl rfl rfl q106 rfl ?_
                                      refine rd_s rfl rfl trivial (ss_pickF rfl q106 rfl) rfl ?_
                                      refine rd_s rfl rfl trivial (ss_move rfl) rfl ?_
                                      refine rd_split (s := 175) rfl (fun q107 => ?_) (fun q107 => ?_)
                                      · cases q107
                                      · skip
                                        refine rd_no rfl rfl rfl q107 rfl ?_
                                        refine rd_no rfl rfl rfl q107 rfl ?_
                                        refine rd_no rfl rfl rfl q107 rfl ?_
                                        refine rd_no rfl rfl rfl q107 rfl ?_
                                        refine rd_no rfl rfl rfl q107 rfl ?_
                                        refine rd_no rfl rfl rfl q107 rfl ?_
                                        refine rd_no rfl rfl rfl q107 rfl ?_
                                        refine rd_s rfl rfl trivial (ss_pickF rfl q107 rfl) rfl ?_
                                        refine rd_s rfl rfl trivial (ss_assign rfl) rfl ?_
                                        refine rd_nil ?_
                                        refine aw_gh (gh_to (n := 184) (σ' := [(148, ⟨orows (imgI r1_0 (KinT r1_0)), []⟩), (16, ⟨[.lst (rows (QuaR r1_0))], []⟩), (14, ⟨[.lst (rows (DuaT (DuaT r1_0)))], []⟩), (12, ⟨[.lst (rows (DuaT r1_0))], []⟩), (3, ⟨[.lst (rows r1_0)], []⟩)]) (env' := [(2, .c (cb false))]) rfl rfl ⟨rfl, trivial⟩) ?_
                                        refine aw_gh (gh_frzE (id := 148) (fun r => C.lst (ints r)) rfl (fun _ => (fz_own (fz_map (fun _ => rfl) _)))) ?_
                                        refine aw_gh (gh_to (n := 184) (σ' := [(16, ⟨[.lst (rows (QuaR r1_0))], []⟩), (14, ⟨[.lst (rows (DuaT (DuaT r1_0)))], []⟩), (12, ⟨[.lst (rows (DuaT r1_0))], []⟩), (3, ⟨[.lst (rows r1_0)], []⟩)]) (env' := [(2, .c (cb false))]) rfl rfl ⟨rfl, trivial⟩) ?_
                                        refine aw_ret ?_
                                        exact retAF_mk (retv1 rfl (rv_tmp rfl)) rfl rfl ⟨_, (cle_refl _), _, h, rfl⟩

theorem c_laws_FnRacks (code : List Int) (hp : code.length ≤ 9223372036854775807 ∧ ∀ z_ ∈ code, 0 ≤ z_ ∧ z_ ≤ 255) : AF Try.prog 4 [.lst (bys code)] (fun R_ => R_ = cb true) :=
  (w_laws_FnRacks code (fun y0 => y0 = true) (p_laws_FnRacks code hp)).mono (by rintro r ⟨_, rfl, rfl⟩; rfl)

end Go.Proofs.Ytbodlnpmplcaoaa

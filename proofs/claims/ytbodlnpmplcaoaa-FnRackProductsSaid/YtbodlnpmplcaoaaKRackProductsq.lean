/- Contracts of functions that the law FnRackProducts reaches: conditions, plain proofs, walks; no condition. -/
import Derived.Test.YtbodlnpmplcaoaaKRackProductsp
namespace Go.Proofs.Ytbodlnpmplcaoaa

def wp_laws_FnRackProducts (code : List Int) (Q : Bool → Prop) : Prop :=
 ((4096 < (code.length : Int) →
  Q true) ∧
 (¬ (4096 < (code.length : Int)) →
  (small code ∧ bytes code) ∧
  ∀ (r1_0 : List (List Int)) (r1_1 : List (List Int)), (drT 4 r1_0 ∧ drT 4 r1_1) →
  (small2 r1_0 ∧ small2 r1_1) ∧
  (small2 r1_0 ∧ small2 r1_1) ∧
  ((¬ (ProE r1_0 r1_1 = ProE r1_0 r1_1) →
   Q false) ∧
  (ProE r1_0 r1_1 = ProE r1_0 r1_1 →
   (small2 (ProT r1_0 r1_1) ∧ small2 (ProT r1_0 r1_1)) ∧
   ((¬ ((ProT r1_0 r1_1) = (ProT r1_0 r1_1)) →
    Q false) ∧
   ((ProT r1_0 r1_1) = (ProT r1_0 r1_1) →
    (small2 r1_0 ∧ small2 r1_1) ∧
    (small2 r1_0 ∧ small2 r1_1) ∧
    ((¬ (UniE r1_0 r1_1 = UniE r1_0 r1_1) →
     Q false) ∧
    (UniE r1_0 r1_1 = UniE r1_0 r1_1 →
     (small2 (UniT r1_0 r1_1) ∧ small2 (UniT r1_0 r1_1)) ∧
     ((¬ ((UniT r1_0 r1_1) = (UniT r1_0 r1_1)) →
      Q false) ∧
     ((UniT r1_0 r1_1) = (UniT r1_0 r1_1) →
      ((¬ (ProE r1_0 r1_1 = 0) →
       Q true) ∧
      (ProE r1_0 r1_1 = 0 →
       ((¬ (UniE r1_0 r1_1 = 0) →
        Q true) ∧
       (UniE r1_0 r1_1 = 0 →
        (small2 r1_0) ∧
        (small2 r1_1) ∧
        (small2 (ProT r1_0 r1_1)) ∧
        (small2 (UniT r1_0 r1_1)) ∧
        (small2 r1_0) ∧
        (small2 r1_1) ∧
        (small2 (UniT r1_0 r1_1)) ∧
        ((¬ (rkE r1_0 = 0) →
         Q false) ∧
        (rkE r1_0 = 0 →
         ((¬ (rkE r1_1 = 0) →
          Q false) ∧
         (rkE r1_1 = 0 →
          ((¬ (rkE (ProT r1_0 r1_1) = 0) →
           Q false) ∧
          (rkE (ProT r1_0 r1_1) = 0 →
           ((¬ (rkE (UniT r1_0 r1_1) = 0) →
            Q false) ∧
           (rkE (UniT r1_0 r1_1) = 0 →
            ((¬ (rkE r1_0 = 0) →
             Q false) ∧
            (rkE r1_0 = 0 →
             ((¬ (rkE r1_1 = 0) →
              Q false) ∧
             (rkE r1_1 = 0 →
              ((¬ (rkE (UniT r1_0 r1_1) = 0) →
               Q false) ∧
              (rkE (UniT r1_0 r1_1) = 0 →
               (small2 (ProT r1_0 r1_1)) ∧
               (((isRk (ProT r1_0 r1_1)) = true →
                (small2 (UniT r1_0 r1_1)) ∧
                (((isRk (UniT r1_0 r1_1)) = true →
                 (((isRk r1_0 && decide (diag r1_0 = unitI (r1_0.length : Int))) = true →
                  ((((isRk (ProT r1_0 r1_1) && decide (diag (ProT r1_0 r1_1) = unitI ((ProT r1_0 r1_1).length : Int))) == (isRk r1_1 && decide (diag r1_1 = unitI (r1_1.length : Int)))) = true →
                   ((((isRk (UniT r1_0 r1_1) && decide (diag (UniT r1_0 r1_1) = unitI ((UniT r1_0 r1_1).length : Int))) == (isRk r1_1 && decide (diag r1_1 = unitI (r1_1.length : Int)))) = true →
                    (small (RorT (UniT r1_0 r1_1)) ∧ ∀ z_ ∈ (RorT (UniT r1_0 r1_1)), z_ ≤ 1000000000) ∧
                    (small (RorT r1_0) ∧ ∀ z_ ∈ (RorT r1_0), z_ ≤ 1000000000) ∧
                    (small (RorT r1_1) ∧ ∀ z_ ∈ (RorT r1_1), z_ ≤ 1000000000) ∧
                    (InI ((mostI (RorT r1_0)) + (mostI (RorT r1_1)))) ∧
                    ((mostI (RorT (UniT r1_0 r1_1)) = (mostI (RorT r1_0)) + (mostI (RorT r1_1)) →
                     (InI ((r1_0.length : Int) * (r1_1.length : Int))) ∧
                     Q (decide (((ProT r1_0 r1_1).length : Int) = (r1_0.length : Int) * (r1_1.length : Int)))) ∧
                    (¬ (mostI (RorT (UniT r1_0 r1_1)) = (mostI (RorT r1_0)) + (mostI (RorT r1_1))) →
                     Q false))) ∧
                   (((isRk (UniT r1_0 r1_1) && decide (diag (UniT r1_0 r1_1) = unitI ((UniT r1_0 r1_1).length : Int))) == (isRk r1_1 && decide (diag r1_1 = unitI (r1_1.length : Int)))) = false →
                    Q false))) ∧
                  (((isRk (ProT r1_0 r1_1) && decide (diag (ProT r1_0 r1_1) = unitI ((ProT r1_0 r1_1).length : Int))) == (isRk r1_1 && decide (diag r1_1 = unitI (r1_1.length : Int)))) = false →
                   Q false))) ∧
                 ((isRk r1_0 && decide (diag r1_0 = unitI (r1_0.length : Int))) = false →
                  ((((isRk (ProT r1_0 r1_1) && decide (diag (ProT r1_0 r1_1) = unitI ((ProT r1_0 r1_1).length : Int))) == false) = true →
                   ((((isRk (UniT r1_0 r1_1) && decide (diag (UniT r1_0 r1_1) = unitI ((UniT r1_0 r1_1).length : Int))) == false) = true →
                    (small (RorT (UniT r1_0 r1_1)) ∧ ∀ z_ ∈ (RorT (UniT r1_0 r1_1)), z_ ≤ 1000000000) ∧
                    (small (RorT r1_0) ∧ ∀ z_ ∈ (RorT r1_0), z_ ≤ 1000000000) ∧
                    (small (RorT r1_1) ∧ ∀ z_ ∈ (RorT r1_1), z_ ≤ 1000000000) ∧
                    (InI ((mostI (RorT r1_0)) + (mostI (RorT r1_1)))) ∧
                    ((mostI (RorT (UniT r1_0 r1_1)) = (mostI (RorT r1_0)) + (mostI (RorT r1_1)) →
                     (InI ((r1_0.length : Int) * (r1_1.length : Int))) ∧
                     Q (decide (((ProT r1_0 r1_1).length : Int) = (r1_0.length : Int) * (r1_1.length : Int)))) ∧
                    (¬ (mostI (RorT (UniT r1_0 r1_1)) = (mostI (RorT r1_0)) + (mostI (RorT r1_1))) →
                     Q false))) ∧
                   (((isRk (UniT r1_0 r1_1) && decide (diag (UniT r1_0 r1_1) = unitI ((UniT r1_0 r1_1).length : Int))) == false) = false →
                    Q false))) ∧
                  (((isRk (ProT r1_0 r1_1) && decide (diag (ProT r1_0 r1_1) = unitI ((ProT r1_0 r1_1).length : Int))) == false) = false →
                   Q false))))) ∧
                ((isRk (UniT r1_0 r1_1)) = false →
                 Q false))) ∧
               ((isRk (ProT r1_0 r1_1)) = false →
                Q false))))))))))))))))))))))))))))))


@[reducible] def fine2 (t : List (List Int)) : Prop := small2 t ∧ tot t ≤ 1000000000
theorem fine2_nil : fine2 [] := ⟨⟨by simp, by simp⟩, by simp [tot]⟩
theorem mem_ranf {α : Type} {n : Int} {f : Int → α} {r : α} (h : r ∈ ran n f) : ∃ i, (0 ≤ i ∧ i < n) ∧ r = f i := by
  unfold ran at h
  obtain ⟨k, hk, rfl⟩ := List.mem_map.1 h
  have := List.mem_range.1 hk
  exact ⟨k, ⟨by omega, by omega⟩, rfl⟩
theorem fine2_tab {n : Int} {f : Int → Int → Int} (h : n ≤ 1000) : fine2 (tab n f) := by
  refine ⟨⟨by simp [tab]; omega, fun r hr => ?_⟩, ?_⟩
  · obtain ⟨i, _, rfl⟩ := mem_ranf hr
    simp; omega
  · rw [tot_tab]
    have : n.toNat ≤ 1000 := by omega
    have : n.toNat * n.toNat ≤ 1000 * 1000 := Nat.mul_le_mul this this
    omega
theorem fine2_ite {c : Prop} [Decidable c] {t : List (List Int)} (h : c → fine2 t) : fine2 (if c then t else []) := by
  split
  · exact h (by assumption)
  · exact fine2_nil
theorem small_ite {c : Prop} [Decidable c] {t : List Int} (h : c → small t) : small (if c then t else []) := by
  split
  · exact h (by assumption)
  · simp
theorem fine_mk {T : List (List Int)} (h : fine2 T) : okKT 1 T ∧ small2 (mkII 1 T) ∧ okKT 1 (mkII 1 T) ∧ heII 1 (mkII 1 T) = 1 + tot T ∧ 0 ≤ tot T := by
  have := tot_nonneg T
  have h2 := h.2
  exact ⟨⟨by omega, by omega⟩, small2_mkII h.1, ⟨by omega, by rw [tot_mkII]; omega⟩, heII_mkII 1 T, this⟩
theorem fine_mk1 {l : List Int} (h : small l) : small (mkI 1 l) ∧ heI 1 (mkI 1 l) = 1 + (l.length : Int) := ⟨by simpa using h, heI_mkI 1 l⟩
/-- What is not too large. -/
theorem sz_fine {a : List (List Int)} {left : Int} (hl : left ≤ 1000000000) (h : ¬ szII a left < 0) : fine2 a := by
  unfold szII at h
  split at h
  · omega
  · have tn := tot_nonneg a
    refine ⟨⟨by show (a.length : Int) ≤ 1000000000; omega, fun r hr => ?_⟩, by omega⟩
    obtain ⟨i, hi, rfl⟩ := mem_el hr
    have := tt_row hi
    have := (tt_le a i).1
    show ((el a i).length : Int) ≤ 1000000000; omega
theorem sz_in {a : List (List Int)} {left : Int} (hl : left ≤ 1000000000) (h : ¬ szII a left < 0) : InS (szII a left) := by
  refine ⟨by omega, ?_⟩
  unfold szII
  have := tot_nonneg a
  split <;> omega
theorem InS20 : InS 1048576 := ⟨by omega, by omega⟩
theorem fine_mkk {T : List (List Int)} {k : Int} (h : fine2 T) (hk : 0 ≤ k ∧ k ≤ 100000000000) : okKT k T ∧ ¬ (k + tot T < 0) := by
  have := tot_nonneg T
  have h2 := h.2
  exact ⟨⟨by omega, by omega⟩, by omega⟩
theorem fine_TrivT (n : Int) : fine2 (TrivT n) := fine2_ite fun h => fine2_tab (by omega)
theorem fine_DiheT (n : Int) : fine2 (DiheT n) := fine2_ite fun h => fine2_tab (by omega)
theorem fine_AlexT (n a : Int) : fine2 (AlexT n a) := fine2_ite fun h => fine2_tab (by
  unfold AlexE at h
  split at h
  · cases h
  · rename_i h2; have := Classical.not_not.1 h2; omega)
theorem fine_PermT (p : List Int) : fine2 (PermT p) := fine2_ite fun h => fine2_tab (by have := permB_len h; omega)
theorem small_SquaT (c : List (List Int)) : small (SquaT c) := small_ite fun h => by have := isTab_len h; simp [diag]; omega
theorem first3_len (n : Int) (f : Int → Int → Int → Bool) : ((first3 n f).length : Int) ≤ 3 := by
  unfold first3
  split
  · rename_i l h
    obtain ⟨x, hx, h⟩ := List.exists_of_findSome?_eq_some h
    obtain ⟨y, hy, h⟩ := List.exists_of_findSome?_eq_some h
    obtain ⟨z, hz, h⟩ := List.exists_of_findSome?_eq_some h
    split at h
    · cases h; simp
    · cases h
  · simp
theorem small_CycfT (c : List (List Int)) : small (CycfT c) := small_ite fun h => by have := first3_len (c.length : Int) (cycB c); unfold cycF; show _ ≤ (1000000000 : Int); omega

theorem tot_le_mul : ∀ (t : List (List Int)) (m : Int), 0 ≤ m → (∀ r ∈ t, (r.length : Int) ≤ m) → tot t ≤ (t.length : Int) * m
  | [], m, _, _ => by simp [tot]
  | r :: t, m, hm, h => by
    have h1 := h r List.mem_cons_self
    have h2 := tot_le_mul t m hm fun q hq => h q (List.mem_cons_of_mem _ hq)
    simp only [tot, List.length_cons, Int.natCast_add, Int.add_mul]
    omega
theorem fine2_of {t : List (List Int)} (h : (t.length : Int) ≤ 1000) (h2 : ∀ r ∈ t, (r.length : Int) ≤ 1000) : fine2 t := by
  refine ⟨⟨by show (t.length : Int) ≤ 1000000000; omega, fun r hr => by have := h2 r hr; show (r.length : Int) ≤ 1000000000; omega⟩, ?_⟩
  have a := tot_le_mul t 1000 (by omega) h2
  have b : (t.length : Int) * 1000 ≤ 1000 * 1000 := by omega
  omega
theorem fine2_isTab {t : List (List Int)} (h : isTab t = true) : fine2 t := fine2_of (by have := isTab_len h; omega) fun r hr => by
  obtain ⟨i, hi, rfl⟩ := mem_el hr
  have a := (isTab_row h hi).1; have b := isTab_len h; omega
theorem small_RkfT (r : List (List Int)) : small (RkfT r) := small_ite fun h => by have := first3_len (r.length : Int) (rackB r); unfold rackF; show _ ≤ (1000000000 : Int); omega
theorem small_dg (c : List (List Int)) : small (KinT c) := small_ite fun h => small_diag (isRk_tab h)
theorem fine_AffT (n a b c : Int) : fine2 (AffT n a b c) := fine2_ite fun h => fine2_tab (by
  unfold AffE at h
  split at h
  · rename_i h2; simp only [inN, Bool.and_eq_true, decide_eq_true_eq] at h2; omega
  · cases h)
theorem fine_Dual (r : List (List Int)) : fine2 (DuaT r) := fine2_ite fun h => by
  have ht := isRk_tab h
  have hn := isTab_len ht
  refine fine2_of (by simp; omega) fun q hq => ?_
  obtain ⟨u, hu, rfl⟩ := List.mem_map.1 hq
  obtain ⟨i, hi, rfl⟩ := mem_el hu
  have := rk_len ht hi
  simp; omega
theorem fine_Quat (r : List (List Int)) : fine2 (QuaR r) := fine2_ite fun h => fine2_tab (by have := isTab_len (isRk_tab h); omega)
theorem fine_Pro (a b : List (List Int)) : fine2 (ProT a b) := fine2_ite fun h => fine2_tab (by
  unfold ProE at h
  split at h
  · rename_i h2
    simp only [Bool.and_eq_true] at h2
    have x := isTab_len (isRk_tab h2.1)
    have y := isTab_len (isRk_tab h2.2)
    have := mulB (a := (a.length : Int)) (i := (b.length : Int)) (A := 12) (B := 12) ⟨by omega, by omega, by omega, by omega⟩
    omega
  · cases h)
theorem fine_Uni (a b : List (List Int)) : fine2 (UniT a b) := fine2_ite fun h => fine2_tab (by
  unfold UniE at h
  split at h
  · rename_i h2
    simp only [Bool.and_eq_true] at h2
    have x := isTab_len (isRk_tab h2.1)
    have y := isTab_len (isRk_tab h2.2)
    omega
  · cases h)
theorem small_Ror (r : List (List Int)) : small (RorT r) := small_ite fun h => by
  have := isTab_len (isRk_tab h)
  have := orbI_len (n := (r.length : Int)) (by omega) (isRk_permsN h)
  show _ ≤ (1000000000 : Int); omega
theorem small_Sub (r : List (List Int)) : small (SubT r) := small_ite fun h => by
  have := isTab_len (isRk_tab h)
  have p2 := pow2_le (k := r.length) (by omega)
  have := subsI_len r ((2 : Int) ^ r.length)
  show _ ≤ (1000000000 : Int); omega
theorem fine_so {T0 T1 : List (List Int)} (h0 : fine2 T0) (h1 : fine2 T1) : 1 + tot T0 + tot T1 ≤ 1000000000000 ∧ small2 (mkII 1 T0) ∧ small2 (mkII (1 + tot T0) T1) ∧ heSo 1 (mkII 1 T0) (mkII (1 + tot T0) T1) = 1 + tot T0 + tot T1 ∧ ¬ (1 + tot T0 + tot T1 < 0) := by
  have t0 := tot_nonneg T0
  have t1 := tot_nonneg T1
  have a := h0.2
  have b := h1.2
  refine ⟨by omega, small2_mkII h0.1, small2_mkII h1.1, ?_, by omega⟩
  unfold heSo
  rw [heII_mkII, heII_mkII, if_neg (by omega), if_neg (by omega)]
theorem fine_Cjq (l : List (List Int)) : fine2 (CjqT l) := fine2_ite fun h => fine2_tab (by
  unfold CjqE at h
  split at h
  · split at h
    · cases h
    · omega
  · cases h)
theorem fine_RsoA (r : List (List Int)) : fine2 (RsoA r) := fine2_ite fun h => fine2_isTab (isRk_tab h)
theorem fine_RsoB (r : List (List Int)) : fine2 (RsoB r) := fine2_ite fun h => fine2_tab (by have := isTab_len (isRk_tab h); omega)
theorem small_Row (c : List (List Int)) : small (RowT c) := small_ite fun h => by
  have := isTab_len (isCyc_tab h)
  show _ ≤ (1000000000 : Int); simp; omega
theorem fine_Res (r : List (List Int)) (l : List Int) : fine2 (ResT r l) := fine2_ite fun h => fine2_tab (by
  unfold ResE at h
  split at h
  · rename_i h1
    split at h
    · rename_i h2
      simp only [Bool.and_eq_true] at h2
      have := res_len (isRk_tab h1) (res_el h2.1) h2.2
      omega
    · cases h
  · cases h)
theorem fine_Quo (r : List (List Int)) (c : List Int) : fine2 (QuoT r c) := fine2_ite fun h => fine2_tab (by
  unfold QuoE at h
  split at h
  · rename_i h1
    simp only [Bool.and_eq_true] at h1
    have a := canN_le (partB_can h1.2)
    have b := partB_len h1.2
    have d := isTab_len (isRk_tab h1.1)
    omega
  · cases h)
theorem fine_SocA (c : List (List Int)) : fine2 (SocA c) := fine2_ite fun h => fine2_tab (by have := isTab_len (isCyc_tab h); omega)
theorem fine_SocB (c : List (List Int)) : fine2 (SocB c) := fine2_ite fun h => fine2_tab (by have := isTab_len (isCyc_tab h); omega)
theorem fine_Dcy (c : List (List Int)) : fine2 (DcyT c) := fine2_ite fun h => by
  have hB := isTab_trnT (isTab_cyBT (isCyc_tab h) (isCyc_perm h))
  have hn := isTab_len hB
  refine fine2_of (by simp; omega) fun q hq => ?_
  obtain ⟨u, hu, rfl⟩ := List.mem_map.1 hq
  obtain ⟨i, hi, rfl⟩ := mem_el hu
  have := rk_len hB hi
  simp; omega
theorem small_Cgf (r : List (List Int)) (x y : Int) : small (CgfT r x y) := small_ite fun h => by
  unfold CgfE at h
  split at h
  · rename_i h1
    split at h
    · rename_i h2
      simp only [inN, Bool.and_eq_true, decide_eq_true_eq] at h2
      have := (cgI_is (isRk_tab h1) ⟨h2.1.1, by omega⟩ ⟨h2.2.1, by omega⟩).1
      have := isTab_len (isRk_tab h1)
      show ((cgI r x y).length : Int) ≤ 1000000000
      omega
    · cases h
  · cases h
theorem fine_Cso (s t : List (List Int)) : fine2 (CsoT s t) := fine2_ite fun h => by
  have hb : pmB s t = true := by
    unfold CsoE at h
    split at h
    · rename_i h1; simp only [solB, Bool.and_eq_true] at h1; exact h1.1.1
    · cases h
  have hB := (pm_tab hb).1
  have hn := isTab_len hB
  refine fine2_of (by simp; omega) fun q hq => ?_
  obtain ⟨u, hu, rfl⟩ := List.mem_map.1 hq
  obtain ⟨i, hi, rfl⟩ := mem_el hu
  have := rk_len hB hi
  simp; omega
theorem small_Sbf (r : List (List Int)) (l : List Int) : small (SbfT r l) := small_ite fun h => by
  unfold SbfE at h
  split at h
  · rename_i h1
    have hn := isTab_len (isRk_tab h1)
    have := List.length_filter_le (fun x => dec (Sc r l x)) (ran (r.length : Int) id)
    have e : (ran (r.length : Int) id).length = r.length := by simp
    show ((sbI r l).length : Int) ≤ 1000000000
    unfold sbI
    omega
  · cases h
theorem drT_small {m : Int} {t : List (List Int)} (hm : m ≤ 1000) (h : drT m t) : small2 t := ⟨by show (_ : Int) ≤ _; have := h.1; omega, fun q hq => by show (_ : Int) ≤ _; have := (h.2 q hq).1; omega⟩
theorem bytes_of {code : List Int} (hp : code.length ≤ 9223372036854775807 ∧ ∀ z_ ∈ code, 0 ≤ z_ ∧ z_ ≤ 255) (h : ¬ (4096 < (code.length : Int))) : small code ∧ bytes code :=
  ⟨by show (_ : Int) ≤ _; omega, fun i i0 i1 => hp.2 _ (el_mem ⟨i0, i1⟩)⟩
theorem rkE_t {t : List (List Int)} (h : isRk t = true) : rkE t = 0 := by unfold rkE; rw [h]; rfl

theorem p_laws_FnRackProducts (code : List Int) (hp : code.length ≤ 9223372036854775807 ∧ ∀ z_ ∈ code, 0 ≤ z_ ∧ z_ ≤ 255) : wp_laws_FnRackProducts code (fun y0 => y0 = true) := by
  unfold wp_laws_FnRackProducts
  refine ⟨fun _ => rfl, fun hb => ⟨bytes_of hp hb, ?_⟩⟩
  rintro r s ⟨hr, hs⟩
  have sr := drT_small (by omega) hr
  have ss := drT_small (by omega) hs
  have fp := (fine_Pro r s).1
  have fu := (fine_Uni r s).1
  by_cases e1 : ProE r s = 0
  · by_cases e2 : UniE r s = 0
    · have hE : isRk r = true ∧ isRk s = true ∧ (r.length : Int) * (s.length : Int) ≤ 12 := by
        unfold ProE at e1
        split at e1
        · rename_i h0
          simp only [Bool.and_eq_true] at h0
          split at e1
          · cases e1
          · exact ⟨h0.1, h0.2, by omega⟩
        · cases e1
      obtain ⟨ra, rb, h12⟩ := hE
      have h12' : (r.length : Int) + (s.length : Int) ≤ 12 := by
        unfold UniE at e2
        rw [ra, rb] at e2
        simp at e2
        omega
      have eP : ProT r s = proT r s := by unfold ProT; rw [if_pos e1]
      have eU : UniT r s = uniT r s := by unfold UniT; rw [if_pos e2]
      have ta := isRk_tab ra; have tb := isRk_tab rb
      have rp := isRk_pro ra rb h12
      have ru := isRk_uni ra rb h12'
      have lp := pro_len ta tb
      have la := isTab_len ta; have lb := isTab_len tb
      rw [eP] at fp ⊢
      rw [eU] at fu ⊢
      have oa := orbI_is (n := (r.length : Int)) (by omega) (permsN_rk ra)
      have ob := orbI_is (n := (s.length : Int)) (by omega) (permsN_rk rb)
      have ou : orbI ((uniT r s).length : Int) (uniT r s) = orbI (r.length : Int) r ++ (orbI (s.length : Int) s).map (mostI (orbI (r.length : Int) r) + ·) := by
        rcases orb_uni ra rb with h | h
        · exact h
        · exact absurd h12' h
      have Ra : RorT r = orbI (r.length : Int) r := by unfold RorT; rw [if_pos ra]
      have Rb : RorT s = orbI (s.length : Int) s := by unfold RorT; rw [if_pos rb]
      have Ru : RorT (uniT r s) = orbI ((uniT r s).length : Int) (uniT r s) := by unfold RorT; rw [if_pos ru]
      have lab : ∀ {t : List (List Int)}, isRk t = true → (small (RorT t) ∧ ∀ z_ ∈ RorT t, z_ ≤ 1000000000) ∧ (0 ≤ mostI (RorT t) ∧ mostI (RorT t) ≤ 1000000001) ∧ 0 < mostI (RorT t) := fun {t} ht => by
        have lt := isTab_len (isRk_tab ht)
        have o := orbI_is (n := (t.length : Int)) (by omega) (permsN_rk ht)
        have e : RorT t = orbI (t.length : Int) t := by unfold RorT; rw [if_pos ht]
        rw [e]
        have hz : ∀ z ∈ orbI (t.length : Int) t, z < (t.length : Int) := fun z hz => by
          obtain ⟨i, hi, rfl⟩ := mem_el hz
          have hl := o.1
          have key : ∀ (k : Nat) (i : Int), 0 ≤ i → i < (t.length : Int) → i < k → el (orbI (t.length : Int) t) i ≤ i := by
            intro k
            induction k with
            | zero => intro i a _ c; omega
            | succ k ih =>
              intro i a b c
              rcases Int.lt_or_le i (el (orbI (t.length : Int) t) i) with g | g
              · obtain ⟨j, hj, e⟩ := (o.2.1 i a (by omega)).2 i a g
                have := ih j hj.1 (by omega) (by omega)
                omega
              · exact g
          have := key (i.toNat + 1) i hi.1 (by omega) (by omega)
          omega
        refine ⟨⟨by show (_ : Int) ≤ _; have := o.1; omega, fun z h => by have := hz z h; omega⟩, ⟨most_nonneg _, most_le (by omega) fun z h => by have := hz z h; omega⟩, ?_⟩
        have h0 := (o.2.1 0 (by omega) (by have := o.1; omega)).1
        have := most_lt (el_mem (l := orbI (t.length : Int) t) (i := 0) ⟨by omega, by have := o.1; omega⟩)
        omega
      have La := lab ra; have Lb := lab rb; have Lu := lab ru
      have hsum : mostI (RorT (uniT r s)) = mostI (RorT r) + mostI (RorT s) := by
        rw [Ru, ou, Ra, Rb]
        rw [Rb] at Lb
        exact most_app Lb.2.2
      have i1 : InI (mostI (RorT r) + mostI (RorT s)) := ⟨by omega, by omega⟩
      have i2 : InI ((r.length : Int) * (s.length : Int)) := ⟨by have := pro_one ta tb; omega, by omega⟩
      have dP := diag_pro ta tb
      have dU := diag_uni ta tb
      have ca : rkE r = 0 := rkE_t ra
      have cb : rkE s = 0 := rkE_t rb
      have cp : rkE (proT r s) = 0 := rkE_t rp
      have cu : rkE (uniT r s) = 0 := rkE_t ru
      by_cases dr : diag r = unitI (r.length : Int) <;> by_cases ds : diag s = unitI (s.length : Int)
      all_goals
        have eP2 : (diag (proT r s) = unitI ((proT r s).length : Int)) = (diag r = unitI (r.length : Int) ∧ diag s = unitI (s.length : Int)) := propext dP
        have eU2 : (diag (uniT r s) = unitI ((uniT r s).length : Int)) = (diag r = unitI (r.length : Int) ∧ diag s = unitI (s.length : Int)) := propext dU
        have gP : decide (diag (proT r s) = unitI ((proT r s).length : Int)) = (decide (diag r = unitI (r.length : Int)) && decide (diag s = unitI (s.length : Int))) := by rw [Bool.eq_iff_iff]; simp [eP2]
        have gU : decide (diag (uniT r s) = unitI ((uniT r s).length : Int)) = (decide (diag r = unitI (r.length : Int)) && decide (diag s = unitI (s.length : Int))) := by rw [Bool.eq_iff_iff]; simp [eU2]
        have xr : decide (diag r = unitI (r.length : Int)) = _ := rfl
        rw [gP, gU, ra, rb, rp, ru, ca, cb, cp, cu, hsum, lp, e1, e2]
        simp [eq_true sr, eq_true ss, eq_true fp, eq_true fu, dr, ds, eq_true La.1, eq_true Lb.1, eq_true Lu.1, eq_true i1, eq_true i2]
    · simp [eq_true sr, eq_true ss, eq_true fp, eq_true fu, e1, e2]
  · simp [eq_true sr, eq_true ss, eq_true fp, eq_true fu, e1]

set_option maxRecDepth 100000 in
set_option maxHeartbeats 4000000 in
theorem w_laws_FnRackProducts (code : List Int) (Q : Bool → Prop) (h : wp_laws_FnRackProducts code Q) : AF Try.prog 5 [.lst (bys code)] (fun R_ => ∃ y0, Q y0 ∧ R_ = cb y0) := by
  refine AF.ofWQ (af_enter (n := 192) Try.func5 rfl (by rfl) rfl (Nat.le_of_ble_eq_true rfl) ?_)
  unfold wp_laws_FnRackProducts at h
  refine aw_seq ?_
  refine aw_gh (gh_to (n := 192) (σ' := []) (env' := [(0, .c (.lst (bys code)))]) rfl rfl ⟨rfl, trivial⟩) ?_
  refine aw_region ?_
  refine run_s (ss_assign rfl) rfl ?_
  refine run_nil ?_
  refine aw_seq ?_
  refine aw_seq ?_
  refine aw_region ?_
  refine run_s (ss_move rfl) rfl ?_
  refine run_w (ws_call (xs := [.tmp 27]) (ids := []) rfl rfl rfl rfl (c_laws_big code) rfl ?_ )
  rintro _ rfl
  refine ⟨rfl, ?_⟩
  refine run_nil ?_
  refine aw_cond rfl (fun q2 => ?_) (fun q2 => ?_)
  · replace h := h.1 (of_decide_eq_true q2)
    refine aw_seq ?_
    refine aw_gh (gh_to (n := 192) (σ' := []) (env' := [(2, .c (cb false))]) rfl rfl ⟨rfl, trivial⟩) ?_
    refine aw_region ?_
    refine run_s (ss_assign rfl) rfl ?_
    refine run_nil ?_
    refine aw_ret ?_
    exact retAF_mk (retv1 rfl (rv_tmp rfl)) rfl rfl ⟨_, (cle_refl _), _, h, rfl⟩
  · replace h := h.2 (of_decide_eq_false q2)
    refine aw_skip ?_
    refine aw_seq ?_
    refine aw_region ?_
    refine run_s (ss_move rfl) rfl ?_
    obtain ⟨q3, h⟩ := h
    refine run_w (ws_call (xs := [.tmp 30]) (ids := [31, 1001]) rfl rfl rfl rfl (c_spec_DrawProductRack code q3) rfl ?_ )
    rintro _ ⟨r1_0, r1_1, q4, rfl⟩
    replace h := h r1_0 r1_1 q4
    refine ⟨rfl, ?_⟩
    refine run_s (ss_move rfl) rfl ?_
    refine run_s (ss_extract rfl rfl) rfl ?_
    refine run_s (ss_extract rfl rfl) rfl ?_
    refine run_w (ws_alloc (id := 3) rfl (Nat.le_of_ble_eq_true rfl) ⟨rfl, ?_⟩)
    refine run_w (ws_alloc (id := 4) rfl (Nat.le_of_ble_eq_true rfl) ⟨rfl, ?_⟩)
    refine run_w (ws_storeS rfl rfl (Nat.le_of_ble_eq_true rfl) rfl rfl rfl ⟨rfl, ?_⟩)
    refine run_w (ws_storeS rfl rfl (Nat.le_of_ble_eq_true rfl) rfl rfl rfl ⟨rfl, ?_⟩)
    refine run_nil ?_
    refine aw_gh (gh_to (n := 192) (σ' := [(4, ⟨[.hole], [(0, .ref 1001)]⟩), (3, ⟨[.hole], [(0, .ref 31)]⟩), (31, ⟨orows r1_0, []⟩), (1001, ⟨orows r1_1, []⟩)]) (env' := [(3, .cell 3 0), (4, .cell 4 0)]) rfl rfl ⟨rfl, rfl, trivial⟩) ?_
    refine aw_gh (gh_frzE (id := 31) (fun r => C.lst (ints r)) rfl (fun _ => (fz_own (fz_map (fun _ => rfl) _)))) ?_
    refine aw_gh (gh_fillc (id := 3) (j := 0) rfl rfl (Nat.le_of_ble_eq_true rfl)) ?_
    refine aw_gh (gh_to (n := 192) (σ' := [(4, ⟨[.hole], [(0, .ref 1001)]⟩), (3, ⟨[.lst (rows r1_0)], []⟩), (1001, ⟨orows r1_1, []⟩)]) (env' := [(3, .cell 3 0), (4, .cell 4 0)]) rfl rfl ⟨rfl, rfl, trivial⟩) ?_
    refine aw_gh (gh_frzE (id := 1001) (fun r => C.lst (ints r)) rfl (fun _ => (fz_own (fz_map (fun _ => rfl) _)))) ?_
    refine aw_gh (gh_fillc (id := 4) (j := 0) rfl rfl (Nat.le_of_ble_eq_true rfl)) ?_
    refine aw_gh (gh_to (n := 192) (σ' := [(4, ⟨[.lst (rows r1_1)], []⟩), (3, ⟨[.lst (rows r1_0)], []⟩)]) (env' := [(3, .cell 3 0), (4, .cell 4 0)]) rfl rfl ⟨rfl, rfl, trivial⟩) ?_
    refine aw_seq ?_
    refine aw_region ?_
    refine run_s (ss_loadS rfl rfl rfl rfl) rfl ?_
    refine run_s (ss_loadS rfl rfl rfl rfl) rfl ?_
    obtain ⟨q5, h⟩ := h
    refine run_w (ws_call (xs := [.tmp 35, .tmp 36]) (ids := [37]) rfl rfl rfl rfl (c_impl_ProductRack r1_0 r1_1 q5) rfl ?_ )
    rintro _ rfl
    refine ⟨rfl, ?_⟩
    refine run_s (ss_move rfl) rfl ?_
    refine run_s (ss_extract rfl rfl) rfl ?_
    refine run_s (ss_extract rfl rfl) rfl ?_
    refine run_w (ws_alloc (id := 5) rfl (Nat.le_of_ble_eq_true rfl) ⟨rfl, ?_⟩)
    refine run_w (ws_storeS rfl rfl (Nat.le_of_ble_eq_true rfl) rfl rfl rfl ⟨rfl, ?_⟩)
    refine run_s (ss_assign rfl) rfl ?_
    refine run_nil ?_
    refine aw_gh (gh_to (n := 192) (σ' := [(5, ⟨[.hole], [(0, .ref 37)]⟩), (37, ⟨orows (ProT r1_0 r1_1), []⟩), (4, ⟨[.lst (rows r1_1)], []⟩), (3, ⟨[.lst (rows r1_0)], []⟩)]) (env' := [(3, .cell 3 0), (4, .cell 4 0), (5, .cell 5 0), (6, .c (ci (ProE r1_0 r1_1)))]) rfl rfl ⟨rfl, rfl, rfl, rfl, trivial⟩) ?_
    refine aw_gh (gh_frzE (id := 37) (fun r => C.lst (ints r)) rfl (fun _ => (fz_own (fz_map (fun _ => rfl) _)))) ?_
    refine aw_gh (gh_fillc (id := 5) (j := 0) rfl rfl (Nat.le_of_ble_eq_true rfl)) ?_
    refine aw_gh (gh_to (n := 192) (σ' := [(5, ⟨[.lst (rows (ProT r1_0 r1_1))], []⟩), (4, ⟨[.lst (rows r1_1)], []⟩), (3, ⟨[.lst (rows r1_0)], []⟩)]) (env' := [(3, .cell 3 0), (4, .cell 4 0), (5, .cell 5 0), (6, .c (ci (ProE r1_0 r1_1)))]) rfl rfl ⟨rfl, rfl, rfl, rfl, trivial⟩) ?_
    refine aw_seq ?_
    refine aw_seq ?_
    refine aw_region ?_
    refine run_s (ss_loadS rfl rfl rfl rfl) rfl ?_
    refine run_s (ss_loadS rfl rfl rfl rfl) rfl ?_
    obtain ⟨q7, h⟩ := h
    refine run_w (ws_call (xs := [.tmp 41, .tmp 42]) (ids := [43]) rfl rfl rfl rfl (c_spec_ProductRack r1_0 r1_1 q7) rfl ?_ )
    rintro _ rfl
    refine ⟨rfl, ?_⟩
    refine run_s (ss_move rfl) rfl ?_
    refine run_s (ss_extract rfl rfl) rfl ?_
    refine run_s (ss_extract rfl rfl) rfl ?_
    refine run_w (ws_alloc (id := 7) rfl (Nat.le_of_ble_eq_true rfl) ⟨rfl, ?_⟩)
    refine run_w (ws_storeS rfl rfl (Nat.le_of_ble_eq_true rfl) rfl rfl rfl ⟨rfl, ?_⟩)
    refine run_s (ss_assign rfl) rfl ?_
    refine run_nil ?_
    refine aw_gh (gh_to (n := 192) (σ' := [(7, ⟨[.hole], [(0, .ref 43)]⟩), (43, ⟨orows (ProT r1_0 r1_1), []⟩), (5, ⟨[.lst (rows (ProT r1_0 r1_1))], []⟩), (4, ⟨[.lst (rows r1_1)], []⟩), (3, ⟨[.lst (rows r1_0)], []⟩)]) (env' := [(3, .cell 3 0), (4, .cell 4 0), (5, .cell 5 0), (6, .c (ci (ProE r1_0 r1_1))), (7, .cell 7 0), (8, .c (ci (ProE r1_0 r1_1)))]) rfl rfl ⟨rfl, rfl, rfl, rfl, rfl, rfl, trivial⟩) ?_
    refine aw_gh (gh_frzE (id := 43) (fun r => C.lst (ints r)) rfl (fun _ => (fz_own (fz_map (fun _ => rfl) _)))) ?_
    refine aw_gh (gh_fillc (id := 7) (j := 0) rfl rfl (Nat.le_of_ble_eq_true rfl)) ?_
    refine aw_gh (gh_to (n := 192) (σ' := [(7, ⟨[.lst (rows (ProT r1_0 r1_1))], []⟩), (5, ⟨[.lst (rows (ProT r1_0 r1_1))], []⟩), (4, ⟨[.lst (rows r1_1)], []⟩), (3, ⟨[.lst (rows r1_0)], []⟩)]) (env' := [(3, .cell 3 0), (4, .cell 4 0), (5, .cell 5 0), (6, .c (ci (ProE r1_0 r1_1))), (7, .cell 7 0), (8, .c (ci (ProE r1_0 r1_1)))]) rfl rfl ⟨rfl, rfl, rfl, rfl, rfl, rfl, trivial⟩) ?_
    refine aw_seq ?_
    refine aw_region ?_
    refine run_s (ss_move rfl) rfl ?_
    refine run_s (ss_move rfl) rfl ?_
    refine run_s (ss_neq rfl rfl) rfl ?_
    refine run_s (ss_move rfl) rfl ?_
    refine run_split (s := 49) rfl (fun q9 => ?_) (fun q9 => ?_)
    · replace h := h.1 (of_decide_eq_false (bnot_t q9))
      refine run_gf rfl rfl q9 rfl ?_
      refine run_gf rfl rfl q9 rfl ?_
      refine run_gf rfl rfl q9 rfl ?_
      refine run_gf rfl rfl q9 rfl ?_
      refine run_gf rfl rfl q9 rfl ?_
      refine run_gf rfl rfl q9 rfl ?_
      refine run_s (ss_pickT rfl q9 rfl) rfl ?_
      refine run_nil ?_
      refine aw_cond rfl (fun q10 => ?_) (fun q10 => ?_)
      · skip
        refine aw_seq ?_
        refine aw_gh (gh_to (n := 192) (σ' := [(7, ⟨[.lst (rows (ProT r1_0 r1_1))], []⟩), (5, ⟨[.lst (rows (ProT r1_0 r1_1))], []⟩), (4, ⟨[.lst (rows r1_1)], []⟩), (3, ⟨[.lst (rows r1_0)], []⟩)]) (env' := []) rfl rfl trivial) ?_
        refine aw_region ?_
        refine run_s (ss_assign rfl) rfl ?_
        refine run_nil ?_
        refine aw_ret ?_
        exact retAF_mk (retv1 rfl (rv_tmp rfl)) rfl rfl ⟨_, (cle_refl _), _, h, rfl⟩
      · cases q10
    · replace h := h.2 (of_decide_eq_true (bnot_f q9))
      refine run_gt rfl rfl q9 ?_
      refine run_s (ss_field_cell rfl) rfl ?_
      refine run_gt rfl rfl q9 ?_
      refine run_s (ss_loadC rfl rfl rfl rfl rfl) rfl ?_
      refine run_gt rfl rfl q9 ?_
      refine run_s (ss_field_cell rfl) rfl ?_
      refine run_gt rfl rfl q9 ?_
      refine run_s (ss_loadC rfl rfl rfl rfl rfl) rfl ?_
      refine run_gt rfl rfl q9 ?_
      obtain ⟨q11, h⟩ := h
      refine run_w (ws_call (xs := [.tmp 51, .tmp 53]) (ids := []) rfl rfl rfl rfl (c_laws_same9 (ProT r1_0 r1_1) (ProT r1_0 r1_1) q11) rfl ?_ )
      rintro _ rfl
      refine ⟨rfl, ?_⟩
      refine run_gt rfl rfl q9 ?_
      refine run_s (ss_not rfl) rfl ?_
      refine run_s (ss_pickF rfl q9 rfl) rfl ?_
      refine run_nil ?_
      refine aw_cond rfl (fun q13 => ?_) (fun q13 => ?_)
      · replace h := h.1 (of_decide_eq_false (bnot_t q13))
        refine aw_seq ?_
        refine aw_gh (gh_to (n := 192) (σ' := [(7, ⟨[.lst (rows (ProT r1_0 r1_1))], []⟩), (5, ⟨[.lst (rows (ProT r1_0 r1_1))], []⟩), (4, ⟨[.lst (rows r1_1)], []⟩), (3, ⟨[.lst (rows r1_0)], []⟩)]) (env' := []) rfl rfl trivial) ?_
        refine aw_region ?_
        refine run_s (ss_assign rfl) rfl ?_
        refine run_nil ?_
        refine aw_ret ?_
        exact retAF_mk (retv1 rfl (rv_tmp rfl)) rfl rfl ⟨_, (cle_refl _), _, h, rfl⟩
      · replace h := h.2 (of_decide_eq_true (bnot_f q13))
        refine aw_skip ?_
        refine aw_seq ?_
        refine aw_region ?_
        refine run_s (ss_loadS rfl rfl rfl rfl) rfl ?_
        refine run_s (ss_loadS rfl rfl rfl rfl) rfl ?_
        obtain ⟨q14, h⟩ := h
        refine run_w (ws_call (xs := [.tmp 58, .tmp 59]) (ids := [60]) rfl rfl rfl rfl (c_impl_UnionRack r1_0 r1_1 q14) rfl ?_ )
        rintro _ rfl
        refine ⟨rfl, ?_⟩
        refine run_s (ss_move rfl) rfl ?_
        refine run_s (ss_extract rfl rfl) rfl ?_
        refine run_s (ss_extract rfl rfl) rfl ?_
        refine run_w (ws_alloc (id := 9) rfl (Nat.le_of_ble_eq_true rfl) ⟨rfl, ?_⟩)
        refine run_w (ws_storeS rfl rfl (Nat.le_of_ble_eq_true rfl) rfl rfl rfl ⟨rfl, ?_⟩)
        refine run_s (ss_assign rfl) rfl ?_
        refine run_nil ?_
        refine aw_gh (gh_to (n := 192) (σ' := [(9, ⟨[.hole], [(0, .ref 60)]⟩), (60, ⟨orows (UniT r1_0 r1_1), []⟩), (7, ⟨[.lst (rows (ProT r1_0 r1_1))], []⟩), (5, ⟨[.lst (rows (ProT r1_0 r1_1))], []⟩), (4, ⟨[.lst (rows r1_1)], []⟩), (3, ⟨[.lst (rows r1_0)], []⟩)]) (env' := [(3, .cell 3 0), (4, .cell 4 0), (5, .cell 5 0), (6, .c (ci (ProE r1_0 r1_1))), (9, .cell 9 0), (10, .c (ci (UniE r1_0 r1_1)))]) rfl rfl ⟨rfl, rfl, rfl, rfl, rfl, rfl, trivial⟩) ?_
        refine aw_gh (gh_frzE (id := 60) (fun r => C.lst (ints r)) rfl (fun _ => (fz_own (fz_map (fun _ => rfl) _)))) ?_
        refine aw_gh (gh_fillc (id := 9) (j := 0) rfl rfl (Nat.le_of_ble_eq_true rfl)) ?_
        refine aw_gh (gh_to (n := 192) (σ' := [(9, ⟨[.lst (rows (UniT r1_0 r1_1))], []⟩), (7, ⟨[.lst (rows (ProT r1_0 r1_1))], []⟩), (5, ⟨[.lst (rows (ProT r1_0 r1_1))], []⟩), (4, ⟨[.lst (rows r1_1)], []⟩), (3, ⟨[.lst (rows r1_0)], []⟩)]) (env' := [(3, .cell 3 0), (4, .cell 4 0), (5, .cell 5 0), (6, .c (ci (ProE r1_0 r1_1))), (9, .cell 9 0), (10, .c (ci (UniE r1_0 r1_1)))]) rfl rfl ⟨rfl, rfl, rfl, rfl, rfl, rfl, trivial⟩) ?_
        refine aw_seq ?_
        refine aw_seq ?_
        refine aw_region ?_
        refine run_s (ss_loadS rfl rfl rfl rfl) rfl ?_
        refine run_s (ss_loadS rfl rfl rfl rfl) rfl ?_
        obtain ⟨q16, h⟩ := h
        refine run_w (ws_call (xs := [.tmp 64, .tmp 65]) (ids := [66]) rfl rfl rfl rfl (c_spec_UnionRack r1_0 r1_1 q16) rfl ?_ )
        rintro _ rfl
        refine ⟨rfl, ?_⟩
        refine run_s (ss_move rfl) rfl ?_
        refine run_s (ss_extract rfl rfl) rfl ?_
        refine run_s (ss_extract rfl rfl) rfl ?_
        refine run_w (ws_alloc (id := 11) rfl (Nat.le_of_ble_eq_true rfl) ⟨rfl, ?_⟩)
        refine run_w (ws_storeS rfl rfl (Nat.le_of_ble_eq_true rfl) rfl rfl rfl ⟨rfl, ?_⟩)
        refine run_s (ss_assign rfl) rfl ?_
        refine run_nil ?_
        refine aw_gh (gh_to (n := 192) (σ' := [(11, ⟨[.hole], [(0, .ref 66)]⟩), (66, ⟨orows (UniT r1_0 r1_1), []⟩), (9, ⟨[.lst (rows (UniT r1_0 r1_1))], []⟩), (7, ⟨[.lst (rows (ProT r1_0 r1_1))], []⟩), (5, ⟨[.lst (rows (ProT r1_0 r1_1))], []⟩), (4, ⟨[.lst (rows r1_1)], []⟩), (3, ⟨[.lst (rows r1_0)], []⟩)]) (env' := [(3, .cell 3 0), (4, .cell 4 0), (5, .cell 5 0), (6, .c (ci (ProE r1_0 r1_1))), (9, .cell 9 0), (10, .c (ci (UniE r1_0 r1_1))), (11, .cell 11 0), (12, .c (ci (UniE r1_0 r1_1)))]) rfl rfl ⟨rfl, rfl, rfl, rfl, rfl, rfl, rfl, rfl, trivial⟩) ?_
        refine aw_gh (gh_frzE (id := 66) (fun r => C.lst (ints r)) rfl (fun _ => (fz_own (fz_map (fun _ => rfl) _)))) ?_
        refine aw_gh (gh_fillc (id := 11) (j := 0) rfl rfl (Nat.le_of_ble_eq_true rfl)) ?_
        refine aw_gh (gh_to (n := 192) (σ' := [(11, ⟨[.lst (rows (UniT r1_0 r1_1))], []⟩), (9, ⟨[.lst (rows (UniT r1_0 r1_1))], []⟩), (7, ⟨[.lst (rows (ProT r1_0 r1_1))], []⟩), (5, ⟨[.lst (rows (ProT r1_0 r1_1))], []⟩), (4, ⟨[.lst (rows r1_1)], []⟩), (3, ⟨[.lst (rows r1_0)], []⟩)]) (env' := [(3, .cell 3 0), (4, .cell 4 0), (5, .cell 5 0), (6, .c (ci (ProE r1_0 r1_1))), (9, .cell 9 0), (10, .c (ci (UniE r1_0 r1_1))), (11, .cell 11 0), (12, .c (ci (UniE r1_0 r1_1)))]) rfl rfl ⟨rfl, rfl, rfl, rfl, rfl, rfl, rfl, rfl, trivial⟩) ?_
        refine aw_seq ?_
        refine aw_region ?_
        refine run_s (ss_move rfl) rfl ?_
        refine run_s (ss_move rfl) rfl ?_
        refine run_s (ss_neq rfl rfl) rfl ?_
        refine run_s (ss_move rfl) rfl ?_
        refine run_split (s := 72) rfl (fun q18 => ?_) (fun q18 => ?_)
        · replace h := h.1 (of_decide_eq_false (bnot_t q18))
          refine run_gf rfl rfl q18 rfl ?_
          refine run_gf rfl rfl q18 rfl ?_
          refine run_gf rfl rfl q18 rfl ?_
          refine run_gf rfl rfl q18 rfl ?_
          refine run_gf rfl rfl q18 rfl ?_
          refine run_gf rfl rfl q18 rfl ?_
          refine run_s (ss_pickT rfl q18 rfl) rfl ?_
          refine run_nil ?_
          refine aw_cond rfl (fun q19 => ?_) (fun q19 => ?_)
          · skip
            refine aw_seq ?_
            refine aw_gh (gh_to (n := 192) (σ' := [(11, ⟨[.lst (rows (UniT r1_0 r1_1))], []⟩), (9, ⟨[.lst (rows (UniT r1_0 r1_1))], []⟩), (7, ⟨[.lst (rows (ProT r1_0 r1_1))], []⟩), (5, ⟨[.lst (rows (ProT r1_0 r1_1))], []⟩), (4, ⟨[.lst (rows r1_1)], []⟩), (3, ⟨[.lst (rows r1_0)], []⟩)]) (env' := []) rfl rfl trivial) ?_
            refine aw_region ?_
            refine run_s (ss_assign rfl) rfl ?_
            refine run_nil ?_
            refine aw_ret ?_
            exact retAF_mk (retv1 rfl (rv_tmp rfl)) rfl rfl ⟨_, (cle_refl _), _, h, rfl⟩
          · cases q19
        · replace h := h.2 (of_decide_eq_true (bnot_f q18))
          refine run_gt rfl rfl q18 ?_
          refine run_s (ss_field_cell rfl) rfl ?_
          refine run_gt rfl rfl q18 ?_
          refine run_s (ss_loadC rfl rfl rfl rfl rfl) rfl ?_
          refine run_gt rfl rfl q18 ?_
          refine run_s (ss_field_cell rfl) rfl ?_
          refine run_gt rfl rfl q18 ?_
          refine run_s (ss_loadC rfl rfl rfl rfl rfl) rfl ?_
          refine run_gt rfl rfl q18 ?_
          obtain ⟨q20, h⟩ := h
          refine run_w (ws_call (xs := [.tmp 74, .tmp 76]) (ids := []) rfl rfl rfl rfl (c_laws_same9 (UniT r1_0 r1_1) (UniT r1_0 r1_1) q20) rfl ?_ )
          rintro _ rfl
          refine ⟨rfl, ?_⟩
          refine run_gt rfl rfl q18 ?_
          refine run_s (ss_not rfl) rfl ?_
          refine run_s (ss_pickF rfl q18 rfl) rfl ?_
          refine run_nil ?_
          refine aw_cond rfl (fun q22 => ?_) (fun q22 => ?_)
          · replace h := h.1 (of_decide_eq_false (bnot_t q22))
            refine aw_seq ?_
            refine aw_gh (gh_to (n := 192) (σ' := [(11, ⟨[.lst (rows (UniT r1_0 r1_1))], []⟩), (9, ⟨[.lst (rows (UniT r1_0 r1_1))], []⟩), (7, ⟨[.lst (rows (ProT r1_0 r1_1))], []⟩), (5, ⟨[.lst (rows (ProT r1_0 r1_1))], []⟩), (4, ⟨[.lst (rows r1_1)], []⟩), (3, ⟨[.lst (rows r1_0)], []⟩)]) (env' := []) rfl rfl trivial) ?_
            refine aw_region ?_
            refine run_s (ss_assign rfl) rfl ?_
            refine run_nil ?_
            refine aw_ret ?_
            exact retAF_mk (retv1 rfl (rv_tmp rfl)) rfl rfl ⟨_, (cle_refl _), _, h, rfl⟩
          · replace h := h.2 (of_decide_eq_true (bnot_f q22))
            refine aw_skip ?_
            refine aw_seq ?_
            refine aw_seq ?_
            refine aw_region ?_
            refine run_s (ss_move rfl) rfl ?_
            refine run_s (ss_neq rfl rfl) rfl ?_
            refine run_s (ss_move rfl) rfl ?_
            refine run_split (s := 82) rfl (fun q23 => ?_) (fun q23 => ?_)
            · replace h := h.1 (of_decide_eq_false (bnot_t q23))
              refine run_gf rfl rfl q23 rfl ?_
              refine run_gf rfl rfl q23 rfl ?_
              refine run_s (ss_pickT rfl q23 rfl) rfl ?_
              refine run_nil ?_
              refine aw_cond rfl (fun q24 => ?_) (fun q24 => ?_)
              · skip
                refine aw_seq ?_
                refine aw_gh (gh_to (n := 192) (σ' := [(11, ⟨[.lst (rows (UniT r1_0 r1_1))], []⟩), (9, ⟨[.lst (rows (UniT r1_0 r1_1))], []⟩), (7, ⟨[.lst (rows (ProT r1_0 r1_1))], []⟩), (5, ⟨[.lst (rows (ProT r1_0 r1_1))], []⟩), (4, ⟨[.lst (rows r1_1)], []⟩), (3, ⟨[.lst (rows r1_0)], []⟩)]) (env' := []) rfl rfl trivial) ?_
                refine aw_region ?_
                refine run_s (ss_assign rfl) rfl ?_
                refine run_nil ?_
                refine aw_ret ?_
                exact retAF_mk (retv1 rfl (rv_tmp rfl)) rfl rfl ⟨_, (cle_refl _), _, h, rfl⟩
              · cases q24
            · replace h := h.2 (of_decide_eq_true (bnot_f q23))
              refine run_gt rfl rfl q23 ?_
              refine run_s (ss_move rfl) rfl ?_
              refine run_gt rfl rfl q23 ?_
              refine run_s (ss_neq rfl rfl) rfl ?_
              refine run_s (ss_pickF rfl q23 rfl) rfl ?_
              refine run_nil ?_
              refine aw_cond rfl (fun q25 => ?_) (fun q25 => ?_)
              · replace h := h.1 (of_decide_eq_false (bnot_t q25))
                refine aw_seq ?_
                refine aw_gh (gh_to (n := 192) (σ' := [(11, ⟨[.lst (rows (UniT r1_0 r1_1))], []⟩), (9, ⟨[.lst (rows (UniT r1_0 r1_1))], []⟩), (7, ⟨[.lst (rows (ProT r1_0 r1_1))], []⟩), (5, ⟨[.lst (rows (ProT r1_0 r1_1))], []⟩), (4, ⟨[.lst (rows r1_1)], []⟩), (3, ⟨[.lst (rows r1_0)], []⟩)]) (env' := []) rfl rfl trivial) ?_
                refine aw_region ?_
                refine run_s (ss_assign rfl) rfl ?_
                refine run_nil ?_
                refine aw_ret ?_
                exact retAF_mk (retv1 rfl (rv_tmp rfl)) rfl rfl ⟨_, (cle_refl _), _, h, rfl⟩
              · replace h := h.2 (of_decide_eq_true (bnot_f q25))
                refine aw_skip ?_
                refine aw_seq ?_
                refine aw_region ?_
                refine run_s (ss_loadS rfl rfl rfl rfl) rfl ?_
                obtain ⟨q26, h⟩ := h
                refine run_w (ws_call (xs := [.tmp 87]) (ids := []) rfl rfl rfl rfl (c_impl_IsQuandle r1_0 q26) rfl ?_ )
                rintro _ rfl
                refine ⟨rfl, ?_⟩
                refine run_s (ss_move rfl) rfl ?_
                refine run_s (ss_extract rfl rfl) rfl ?_
                refine run_s (ss_extract rfl rfl) rfl ?_
                refine run_s (ss_assign rfl) rfl ?_
                refine run_s (ss_assign rfl) rfl ?_
                refine run_nil ?_
                refine aw_seq ?_
                refine aw_region ?_
                refine run_s (ss_loadS rfl rfl rfl rfl) rfl ?_
                obtain ⟨q28, h⟩ := h
                refine run_w (ws_call (xs := [.tmp 92]) (ids := []) rfl rfl rfl rfl (c_impl_IsQuandle r1_1 q28) rfl ?_ )
                rintro _ rfl
                refine ⟨rfl, ?_⟩
                refine run_s (ss_move rfl) rfl ?_
                refine run_s (ss_extract rfl rfl) rfl ?_
                refine run_s (ss_extract rfl rfl) rfl ?_
                refine run_s (ss_assign rfl) rfl ?_
                refine run_s (ss_assign rfl) rfl ?_
                refine run_nil ?_
                refine aw_seq ?_
                refine aw_region ?_
                refine run_s (ss_loadS rfl rfl rfl rfl) rfl ?_
                obtain ⟨q30, h⟩ := h
                refine run_w (ws_call (xs := [.tmp 97]) (ids := []) rfl rfl rfl rfl (c_impl_IsQuandle (ProT r1_0 r1_1) q30) rfl ?_ )
                rintro _ rfl
                refine ⟨rfl, ?_⟩
                refine run_s (ss_move rfl) rfl ?_
                refine run_s (ss_extract rfl rfl) rfl ?_
                refine run_s (ss_extract rfl rfl) rfl ?_
                refine run_s (ss_assign rfl) rfl ?_
                refine run_s (ss_assign rfl) rfl ?_
                refine run_nil ?_
                refine aw_seq ?_
                refine aw_region ?_
                refine run_s (ss_loadS rfl rfl rfl rfl) rfl ?_
                obtain ⟨q32, h⟩ := h
                refine run_w (ws_call (xs := [.tmp 102]) (ids := []) rfl rfl rfl rfl (c_impl_IsQuandle (UniT r1_0 r1_1) q32) rfl ?_ )
                rintro _ rfl
                refine ⟨rfl, ?_⟩
                refine run_s (ss_move rfl) rfl ?_
                refine run_s (ss_extract rfl rfl) rfl ?_
                refine run_s (ss_extract rfl rfl) rfl ?_
                refine run_s (ss_assign rfl) rfl ?_
                refine run_s (ss_assign rfl) rfl ?_
                refine run_nil ?_
                refine aw_seq ?_
                refine aw_region ?_
                refine run_s (ss_loadS rfl rfl rfl rfl) rfl ?_
                obtain ⟨q34, h⟩ := h
                refine run_w (ws_call (xs := [.tmp 107]) (ids := [108]) rfl rfl rfl rfl (c_impl_RackOrbits r1_0 q34) rfl ?_ )
                rintro _ rfl
                refine ⟨rfl, ?_⟩
                refine run_s (ss_move rfl) rfl ?_
                refine run_s (ss_extract rfl rfl) rfl ?_
                refine run_s (ss_extract rfl rfl) rfl ?_
                refine run_s (ss_assign rfl) rfl ?_
                refine run_s (ss_assign rfl) rfl ?_
                refine run_nil ?_
                refine aw_gh (gh_to (n := 192) (σ' := [(108, ⟨ints (RorT r1_0), []⟩), (11, ⟨[.lst (rows (UniT r1_0 r1_1))], []⟩), (9, ⟨[.lst (rows (UniT r1_0 r1_1))], []⟩), (7, ⟨[.lst (rows (ProT r1_0 r1_1))], []⟩), (5, ⟨[.lst (rows (ProT r1_0 r1_1))], []⟩), (4, ⟨[.lst (rows r1_1)], []⟩), (3, ⟨[.lst (rows r1_0)], []⟩)]) (env' := [(3, .cell 3 0), (4, .cell 4 0), (5, .cell 5 0), (9, .cell 9 0), (13, .c (cb (isRk r1_0 && decide (diag r1_0 = unitI (r1_0.length : Int))))), (14, .c (ci (rkE r1_0))), (15, .c (cb (isRk r1_1 && decide (diag r1_1 = unitI (r1_1.length : Int))))), (16, .c (ci (rkE r1_1))), (17, .c (cb (isRk (ProT r1_0 r1_1) && decide (diag (ProT r1_0 r1_1) = unitI ((ProT r1_0 r1_1).length : Int))))), (18, .c (ci (rkE (ProT r1_0 r1_1)))), (19, .c (cb (isRk (UniT r1_0 r1_1) && decide (diag (UniT r1_0 r1_1) = unitI ((UniT r1_0 r1_1).length : Int))))), (20, .c (ci (rkE (UniT r1_0 r1_1)))), (21, .ref 108), (22, .c (ci (rkE r1_0)))]) rfl rfl ⟨rfl, rfl, rfl, rfl, rfl, rfl, rfl, rfl, rfl, rfl, rfl, rfl, rfl, rfl, trivial⟩) ?_
                refine aw_gh (gh_frzE (id := 108) ci rfl (fun _ => rfl)) ?_
                refine aw_gh (gh_to (n := 192) (σ' := [(11, ⟨[.lst (rows (UniT r1_0 r1_1))], []⟩), (9, ⟨[.lst (rows (UniT r1_0 r1_1))], []⟩), (7, ⟨[.lst (rows (ProT r1_0 r1_1))], []⟩), (5, ⟨[.lst (rows (ProT r1_0 r1_1))], []⟩), (4, ⟨[.lst (rows r1_1)], []⟩), (3, ⟨[.lst (rows r1_0)], []⟩)]) (env' := [(3, .cell 3 0), (4, .cell 4 0), (5, .cell 5 0), (9, .cell 9 0), (13, .c (cb (isRk r1_0 && decide (diag r1_0 = unitI (r1_0.length : Int))))), (14, .c (ci (rkE r1_0))), (15, .c (cb (isRk r1_1 && decide (diag r1_1 = unitI (r1_1.length : Int))))), (16, .c (ci (rkE r1_1))), (17, .c (cb (isRk (ProT r1_0 r1_1) && decide (diag (ProT r1_0 r1_1) = unitI ((ProT r1_0 r1_1).length : Int))))), (18, .c (ci (rkE (ProT r1_0 r1_1)))), (19, .c (cb (isRk (UniT r1_0 r1_1) && decide (diag (UniT r1_0 r1_1) = unitI ((UniT r1_0 r1_1).length : Int))))), (20, .c (ci (rkE (UniT r1_0 r1_1)))), (21, .c (.lst (ints (RorT r1_0)))), (22, .c (ci (rkE r1_0)))]) rfl rfl ⟨rfl, rfl, rfl, rfl, rfl, rfl, rfl, rfl, rfl, rfl, rfl, rfl, rfl, rfl, trivial⟩) ?_
                refine aw_seq ?_
                refine aw_region ?_
                refine run_s (ss_loadS rfl rfl rfl rfl) rfl ?_
                obtain ⟨q36, h⟩ := h
                refine run_w (ws_call (xs := [.tmp 112]) (ids := [113]) rfl rfl rfl rfl (c_impl_RackOrbits r1_1 q36) rfl ?_ )
                rintro _ rfl
                refine ⟨rfl, ?_⟩
                refine run_s (ss_move rfl) rfl ?_
                refine run_s (ss_extract rfl rfl) rfl ?_
                refine run_s (ss_extract rfl rfl) rfl ?_
                refine run_s (ss_assign rfl) rfl ?_
                refine run_s (ss_assign rfl) rfl ?_
                refine run_nil ?_
                refine aw_gh (gh_to (n := 192) (σ' := [(113, ⟨ints (RorT r1_1), []⟩), (11, ⟨[.lst (rows (UniT r1_0 r1_1))], []⟩), (9, ⟨[.lst (rows (UniT r1_0 r1_1))], []⟩), (7, ⟨[.lst (rows (ProT r1_0 r1_1))], []⟩), (5, ⟨[.lst (rows (ProT r1_0 r1_1))], []⟩), (4, ⟨[.lst (rows r1_1)], []⟩), (3, ⟨[.lst (rows r1_0)], []⟩)]) (env' := [(3, .cell 3 0), (4, .cell 4 0), (5, .cell 5 0), (9, .cell 9 0), (13, .c (cb (isRk r1_0 && decide (diag r1_0 = unitI (r1_0.length : Int))))), (14, .c (ci (rkE r1_0))), (15, .c (cb (isRk r1_1 && decide (diag r1_1 = unitI (r1_1.length : Int))))), (16, .c (ci (rkE r1_1))), (17, .c (cb (isRk (ProT r1_0 r1_1) && decide (diag (ProT r1_0 r1_1) = unitI ((ProT r1_0 r1_1).length : Int))))), (18, .c (ci (rkE (ProT r1_0 r1_1)))), (19, .c (cb (isRk (UniT r1_0 r1_1) && decide (diag (UniT r1_0 r1_1) = unitI ((UniT r1_0 r1_1).length : Int))))), (20, .c (ci (rkE (UniT r1_0 r1_1)))), (21, .c (.lst (ints (RorT r1_0)))), (22, .c (ci (rkE r1_0))), (23, .ref 113), (24, .c (ci (rkE r1_1)))]) rfl rfl ⟨rfl, rfl, rfl, rfl, rfl, rfl, rfl, rfl, rfl, rfl, rfl, rfl, rfl, rfl, rfl, rfl, trivial⟩) ?_
                refine aw_gh (gh_frzE (id := 113) ci rfl (fun _ => rfl)) ?_
                refine aw_gh (gh_to (n := 192) (σ' := [(11, ⟨[.lst (rows (UniT r1_0 r1_1))], []⟩), (9, ⟨[.lst (rows (UniT r1_0 r1_1))], []⟩), (7, ⟨[.lst (rows (ProT r1_0 r1_1))], []⟩), (5, ⟨[.lst (rows (ProT r1_0 r1_1))], []⟩), (4, ⟨[.lst (rows r1_1)], []⟩), (3, ⟨[.lst (rows r1_0)], []⟩)]) (env' := [(3, .cell 3 0), (4, .cell 4 0), (5, .cell 5 0), (9, .cell 9 0), (13, .c (cb (isRk r1_0 && decide (diag r1_0 = unitI (r1_0.length : Int))))), (14, .c (ci (rkE r1_0))), (15, .c (cb (isRk r1_1 && decide (diag r1_1 = unitI (r1_1.length : Int))))), (16, .c (ci (rkE r1_1))), (17, .c (cb (isRk (ProT r1_0 r1_1) && decide (diag (ProT r1_0 r1_1) = unitI ((ProT r1_0 r1_1).length : Int))))), (18, .c (ci (rkE (ProT r1_0 r1_1)))), (19, .c (cb (isRk (UniT r1_0 r1_1) && decide (diag (UniT r1_0 r1_1) = unitI ((UniT r1_0 r1_1).length : Int))))), (20, .c (ci (rkE (UniT r1_0 r1_1)))), (21, .c (.lst (ints (RorT r1_0)))), (22, .c (ci (rkE r1_0))), (23, .c (.lst (ints (RorT r1_1)))), (24, .c (ci (rkE r1_1)))]) rfl rfl ⟨rfl, rfl, rfl, rfl, rfl, rfl, rfl, rfl, rfl, rfl, rfl, rfl, rfl, rfl, rfl, rfl, trivial⟩) ?_
                refine aw_seq ?_
                refine aw_region ?_
                refine run_s (ss_loadS rfl rfl rfl rfl) rfl ?_
                obtain ⟨q38, h⟩ := h
                refine run_w (ws_call (xs := [.tmp 117]) (ids := [118]) rfl rfl rfl rfl (c_impl_RackOrbits (UniT r1_0 r1_1) q38) rfl ?_ )
                rintro _ rfl
                refine ⟨rfl, ?_⟩
                refine run_s (ss_move rfl) rfl ?_
                refine run_s (ss_extract rfl rfl) rfl ?_
                refine run_s (ss_extract rfl rfl) rfl ?_
                refine run_s (ss_assign rfl) rfl ?_
                refine run_s (ss_assign rfl) rfl ?_
                refine run_nil ?_
                refine aw_gh (gh_to (n := 192) (σ' := [(118, ⟨ints (RorT (UniT r1_0 r1_1)), []⟩), (11, ⟨[.lst (rows (UniT r1_0 r1_1))], []⟩), (9, ⟨[.lst (rows (UniT r1_0 r1_1))], []⟩), (7, ⟨[.lst (rows (ProT r1_0 r1_1))], []⟩), (5, ⟨[.lst (rows (ProT r1_0 r1_1))], []⟩), (4, ⟨[.lst (rows r1_1)], []⟩), (3, ⟨[.lst (rows r1_0)], []⟩)]) (env' := [(3, .cell 3 0), (4, .cell 4 0), (5, .cell 5 0), (9, .cell 9 0), (13, .c (cb (isRk r1_0 && decide (diag r1_0 = unitI (r1_0.length : Int))))), (14, .c (ci (rkE r1_0))), (15, .c (cb (isRk r1_1 && decide (diag r1_1 = unitI (r1_1.length : Int))))), (16, .c (ci (rkE r1_1))), (17, .c (cb (isRk (ProT r1_0 r1_1) && decide (diag (ProT r1_0 r1_1) = unitI ((ProT r1_0 r1_1).length : Int))))), (18, .c (ci (rkE (ProT r1_0 r1_1)))), (19, .c (cb (isRk (UniT r1_0 r1_1) && decide (diag (UniT r1_0 r1_1) = unitI ((UniT r1_0 r1_1).length : Int))))), (20, .c (ci (rkE (UniT r1_0 r1_1)))), (21, .c (.lst (ints (RorT r1_0)))), (22, .c (ci (rkE r1_0))), (23, .c (.lst (ints (RorT r1_1)))), (24, .c (ci (rkE r1_1))), (25, .ref 118), (26, .c (ci (rkE (UniT r1_0 r1_1))))]) rfl rfl ⟨rfl, rfl, rfl, rfl, rfl, rfl, rfl, rfl, rfl, rfl, rfl, rfl, rfl, rfl, rfl, rfl, rfl, rfl, trivial⟩) ?_
                refine aw_gh (gh_frzE (id := 118) ci rfl (fun _ => rfl)) ?_
                refine aw_gh (gh_to (n := 192) (σ' := [(11, ⟨[.lst (rows (UniT r1_0 r1_1))], []⟩), (9, ⟨[.lst (rows (UniT r1_0 r1_1))], []⟩), (7, ⟨[.lst (rows (ProT r1_0 r1_1))], []⟩), (5, ⟨[.lst (rows (ProT r1_0 r1_1))], []⟩), (4, ⟨[.lst (rows r1_1)], []⟩), (3, ⟨[.lst (rows r1_0)], []⟩)]) (env' := [(3, .cell 3 0), (4, .cell 4 0), (5, .cell 5 0), (9, .cell 9 0), (13, .c (cb (isRk r1_0 && decide (diag r1_0 = unitI (r1_0.length : Int))))), (14, .c (ci (rkE r1_0))), (15, .c (cb (isRk r1_1 && decide (diag r1_1 = unitI (r1_1.length : Int))))), (16, .c (ci (rkE r1_1))), (17, .c (cb (isRk (ProT r1_0 r1_1) && decide (diag (ProT r1_0 r1_1) = unitI ((ProT r1_0 r1_1).length : Int))))), (18, .c (ci (rkE (ProT r1_0 r1_1)))), (19, .c (cb (isRk (UniT r1_0 r1_1) && decide (diag (UniT r1_0 r1_1) = unitI ((UniT r1_0 r1_1).length : Int))))), (20, .c (ci (rkE (UniT r1_0 r1_1)))), (21, .c (.lst (ints (RorT r1_0)))), (22, .c (ci (rkE r1_0))), (23, .c (.lst (ints (RorT r1_1)))), (24, .c (ci (rkE r1_1))), (25, .c (.lst (ints (RorT (UniT r1_0 r1_1))))), (26, .c (ci (rkE (UniT r1_0 r1_1))))]) rfl rfl ⟨rfl, rfl, rfl, rfl, rfl, rfl, rfl, rfl, rfl, rfl, rfl, rfl, rfl, rfl, rfl, rfl, rfl, rfl, trivial⟩) ?_
                refine aw_seq ?_
                refine aw_seq ?_
                refine aw_region ?_
                refine run_s (ss_move rfl) rfl ?_
                refine run_s (ss_neq rfl rfl) rfl ?_
                refine run_s (ss_move rfl) rfl ?_
                refine run_split (s := 123) rfl (fun q40 => ?_) (fun q40 => ?_)
                · replace h := h.1 (of_decide_eq_false (bnot_t q40))
                  refine run_gf rfl rfl q40 rfl ?_
                  refine run_gf rfl rfl q40 rfl ?_
                  refine run_s (ss_pickT rfl q40 rfl) rfl ?_
                  refine run_s (ss_move rfl) rfl ?_
                  refine run_split (s := 127) rfl (fun q41 => ?_) (fun q41 => ?_)
                  · skip
                    refine run_gf rfl rfl q41 rfl ?_
                    refine run_gf rfl rfl q41 rfl ?_
                    refine run_s (ss_pickT rfl q41 rfl) rfl ?_
                    refine run_s (ss_move rfl) rfl ?_
                    refine run_split (s := 131) rfl (fun q42 => ?_) (fun q42 => ?_)
                    · skip
                      refine run_gf rfl rfl q42 rfl ?_
                      refine run_gf rfl rfl q42 rfl ?_
                      refine run_s (ss_pickT rfl q42 rfl) rfl ?_
                      refine run_s (ss_move rfl) rfl ?_
                      refine run_split (s := 135) rfl (fun q43 => ?_) (fun q43 => ?_)
                      · skip
                        refine run_gf rfl rfl q43 rfl ?_
                        refine run_gf rfl rfl q43 rfl ?_
                        refine run_s (ss_pickT rfl q43 rfl) rfl ?_
                        refine run_s (ss_move rfl) rfl ?_
                        refine run_split (s := 139) rfl (fun q44 => ?_) (fun q44 => ?_)
                        · skip
                          refine run_gf rfl rfl q44 rfl ?_
                          refine run_gf rfl rfl q44 rfl ?_
                          refine run_s (ss_pickT rfl q44 rfl) rfl ?_
                          refine run_s (ss_move rfl) rfl ?_
                          refine run_split (s := 143) rfl (fun q45 => ?_) (fun q45 => ?_)
                          · skip
                            refine run_gf rfl rfl q45 rfl ?_
                            refine run_gf rfl rfl q45 rfl ?_
                            refine run_s (ss_pickT rfl q45 rfl) rfl ?_
                            refine run_nil ?_
                            refine aw_cond rfl (fun q46 => ?_) (fun q46 => ?_)
                            · skip
                              refine aw_seq ?_
                              refine aw_gh (gh_to (n := 192) (σ' := [(11, ⟨[.lst (rows (UniT r1_0 r1_1))], []⟩), (9, ⟨[.lst (rows (UniT r1_0 r1_1))], []⟩), (7, ⟨[.lst (rows (ProT r1_0 r1_1))], []⟩), (5, ⟨[.lst (rows (ProT r1_0 r1_1))], []⟩), (4, ⟨[.lst (rows r1_1)], []⟩), (3, ⟨[.lst (rows r1_0)], []⟩)]) (env' := []) rfl rfl trivial) ?_
                              refine aw_region ?_
                              refine run_s (ss_assign rfl) rfl ?_
                              refine run_nil ?_
                              refine aw_ret ?_
                              exact retAF_mk (retv1 rfl (rv_tmp rfl)) rfl rfl ⟨_, (cle_refl _), _, h, rfl⟩
                            · cases q46
                          · cases q45
                        · cases q44
                      · cases q43
                    · cases q42
                  · cases q41
                · replace h := h.2 (of_decide_eq_true (bnot_f q40))
                  refine run_gt rfl rfl q40 ?_
                  refine run_s (ss_move rfl) rfl ?_
                  refine run_gt rfl rfl q40 ?_
                  refine run_s (ss_neq rfl rfl) rfl ?_
                  refine run_s (ss_pickF rfl q40 rfl) rfl ?_
                  refine run_s (ss_move rfl) rfl ?_
                  refine run_split (s := 127) rfl (fun q47 => ?_) (fun q47 => ?_)
                  · replace h := h.1 (of_decide_eq_false (bnot_t q47))
                    refine run_gf rfl rfl q47 rfl ?_
                    refine run_gf rfl rfl q47 rfl ?_
                    refine run_s (ss_pickT rfl q47 rfl) rfl ?_
                    refine run_s (ss_move rfl) rfl ?_
                    refine run_split (s := 131) rfl (fun q48 => ?_) (fun q48 => ?_)
                    · skip
                      refine run_gf rfl rfl q48 rfl ?_
                      refine run_gf rfl rfl q48 rfl ?_
                      refine run_s (ss_pickT rfl q48 rfl) rfl ?_
                      refine run_s (ss_move rfl) rfl ?_
                      refine run_split (s := 135) rfl (fun q49 => ?_) (fun q49 => ?_)
                      · skip
                        refine run_gf rfl rfl q49 rfl ?_
                        refine run_gf rfl rfl q49 rfl ?_
                        refine run_s (ss_pickT rfl q49 rfl) rfl ?_
                        refine run_s (ss_move rfl) rfl ?_
                        refine run_split (s := 139) rfl (fun q50 => ?_) (fun q50 => ?_)
                        · skip
                          refine run_gf rfl rfl q50 rfl ?_
                          refine run_gf rfl rfl q50 rfl ?_
                          refine run_s (ss_pickT rfl q50 rfl) rfl ?_
                          refine run_s (ss_move rfl) rfl ?_
                          refine run_split (s := 143) rfl (fun q51 => ?_) (fun q51 => ?_)
                          · skip
                            refine run_gf rfl rfl q51 rfl ?_
                            refine run_gf rfl rfl q51 rfl ?_
                            refine run_s (ss_pickT rfl q51 rfl) rfl ?_
                            refine run_nil ?_
                            refine aw_cond rfl (fun q52 => ?_) (fun q52 => ?_)
                            · skip
                              refine aw_seq ?_
                              refine aw_gh (gh_to (n := 192) (σ' := [(11, ⟨[.lst (rows (UniT r1_0 r1_1))], []⟩), (9, ⟨[.lst (rows (UniT r1_0 r1_1))], []⟩), (7, ⟨[.lst (rows (ProT r1_0 r1_1))], []⟩), (5, ⟨[.lst (rows (ProT r1_0 r1_1))], []⟩), (4, ⟨[.lst (rows r1_1)], []⟩), (3, ⟨[.lst (rows r1_0)], []⟩)]) (env' := []) rfl rfl trivial) ?_
                              refine aw_region ?_
                              refine run_s (ss_assign rfl) rfl ?_
                              refine run_nil ?_
                              refine aw_ret ?_
                              exact retAF_mk (retv1 rfl (rv_tmp rfl)) rfl rfl ⟨_, (cle_refl _), _, h, rfl⟩
                            · cases q52
                          · cases q51
                        · cases q50
                      · cases q49
                    · cases q48
                  · replace h := h.2 (of_decide_eq_true (bnot_f q47))
                    refine run_gt rfl rfl q47 ?_
                    refine run_s (ss_move rfl) rfl ?_
                    refine run_gt rfl rfl q47 ?_
                    refine run_s (ss_neq rfl rfl) rfl ?_
                    refine run_s (ss_pickF rfl q47 rfl) rfl ?_
                    refine run_s (ss_move rfl) rfl ?_
                    refine run_split (s := 131) rfl (fun q53 => ?_) (fun q53 => ?_)
                    · replace h := h.1 (of_decide_eq_false (bnot_t q53))
                      refine run_gf rfl rfl q53 rfl ?_
                      refine run_gf rfl rfl q53 rfl ?_
                      refine run_s (ss_pickT rfl q53 rfl) rfl ?_
                      refine run_s (ss_move rfl) rfl ?_
                      refine run_split (s := 135) rfl (fun q54 => ?_) (fun q54 => ?_)
                      · skip
                        refine run_gf rfl rfl q54 rfl ?_
                        refine run_gf rfl rfl q54 rfl ?_
                        refine run_s (ss_pickT rfl q54 rfl) rfl ?_
                        refine run_s (ss_move rfl) rfl ?_
                        refine run_split (s := 139) rfl (fun q55 => ?_) (fun q55 => ?_)
                        · skip
                          refine run_gf rfl rfl q55 rfl ?_
                          refine run_gf rfl rfl q55 rfl ?_
                          refine run_s (ss_pickT rfl q55 rfl) rfl ?_
                          refine run_s (ss_move rfl) rfl ?_
                          refine run_split (s := 143) rfl (fun q56 => ?_) (fun q56 => ?_)
                          · skip
                            refine run_gf rfl rfl q56 rfl ?_
                            refine run_gf rfl rfl q56 rfl ?_
                            refine run_s (ss_pickT rfl q56 rfl) rfl ?_
                            refine run_nil ?_
                            refine aw_cond rfl (fun q57 => ?_) (fun q57 => ?_)
                            · skip
                              refine aw_seq ?_
                              refine aw_gh (gh_to (n := 192) (σ' := [(11, ⟨[.lst (rows (UniT r1_0 r1_1))], []⟩), (9, ⟨[.lst (rows (UniT r1_0 r1_1))], []⟩), (7, ⟨[.lst (rows (ProT r1_0 r1_1))], []⟩), (5, ⟨[.lst (rows (ProT r1_0 r1_1))], []⟩), (4, ⟨[.lst (rows r1_1)], []⟩), (3, ⟨[.lst (rows r1_0)], []⟩)]) (env' := []) rfl rfl trivial) ?_
                              refine aw_region ?_
                              refine run_s (ss_assign rfl) rfl ?_
                              refine run_nil ?_
                              refine aw_ret ?_
                              exact retAF_mk (retv1 rfl (rv_tmp rfl)) rfl rfl ⟨_, (cle_refl _), _, h, rfl⟩
                            · cases q57
                          · cases q56
                        · cases q55
                      · cases q54
                    · replace h := h.2 (of_decide_eq_true (bnot_f q53))
                      refine run_gt rfl rfl q53 ?_
                      refine run_s (ss_move rfl) rfl ?_
                      refine run_gt rfl rfl q53 ?_
                      refine run_s (ss_neq rfl rfl) rfl ?_
                      refine run_s (ss_pickF rfl q53 rfl) rfl ?_
                      refine run_s (ss_move rfl) rfl ?_
                      refine run_split (s := 135) rfl (fun q58 => ?_) (fun q58 => ?_)
                      · replace h := h.1 (of_decide_eq_false (bnot_t q58))
                        refine run_gf rfl rfl q58 rfl ?_
                        refine run_gf rfl rfl q58 rfl ?_
                        refine run_s (ss_pickT rfl q58 rfl) rfl ?_
                        refine run_s (ss_move rfl) rfl ?_
                        refine run_split (s := 139) rfl (fun q59 => ?_) (fun q59 => ?_)
                        · skip
                          refine run_gf rfl rfl q59 rfl ?_
                          refine run_gf rfl rfl q59 rfl ?_
                          refine run_s (ss_pickT rfl q59 rfl) rfl ?_
                          refine run_s (ss_move rfl) rfl ?_
                          refine run_split (s := 143) rfl (fun q60 => ?_) (fun q60 => ?_)
                          · skip
                            refine run_gf rfl rfl q60 rfl ?_
                            refine run_gf rfl rfl q60 rfl ?_
                            refine run_s (ss_pickT rfl q60 rfl) rfl ?_
                            refine run_nil ?_
                            refine aw_cond rfl (fun q61 => ?_) (fun q61 => ?_)
                            · skip
                              refine aw_seq ?_
                              refine aw_gh (gh_to (n := 192) (σ' := [(11, ⟨[.lst (rows (UniT r1_0 r1_1))], []⟩), (9, ⟨[.lst (rows (UniT r1_0 r1_1))], []⟩), (7, ⟨[.lst (rows (ProT r1_0 r1_1))], []⟩), (5, ⟨[.lst (rows (ProT r1_0 r1_1))], []⟩), (4, ⟨[.lst (rows r1_1)], []⟩), (3, ⟨[.lst (rows r1_0)], []⟩)]) (env' := []) rfl rfl trivial) ?_
                              refine aw_region ?_
                              refine run_s (ss_assign rfl) rfl ?_
                              refine run_nil ?_
                              refine aw_ret ?_
                              exact retAF_mk (retv1 rfl (rv_tmp rfl)) rfl rfl ⟨_, (cle_refl _), _, h, rfl⟩
                            · cases q61
                          · cases q60
                        · cases q59
                      · replace h := h.2 (of_decide_eq_true (bnot_f q58))
                        refine run_gt rfl rfl q58 ?_
                        refine run_s (ss_move rfl) rfl ?_
                        refine run_gt rfl rfl q58 ?_
                        refine run_s (ss_neq rfl rfl) rfl ?_
                        refine run_s (ss_pickF rfl q58 rfl) rfl ?_
                        refine run_s (ss_move rfl) rfl ?_
                        refine run_split (s := 139) rfl (fun q62 => ?_) (fun q62 => ?_)
                        · replace h := h.1 (of_decide_eq_false (bnot_t q62))
                          refine run_gf rfl rfl q62 rfl ?_
                          refine run_gf rfl rfl q62 rfl ?_
                          refine run_s (ss_pickT rfl q62 rfl) rfl ?_
                          refine run_s (ss_move rfl) rfl ?_
                          refine run_split (s := 143) rfl (fun q63 => ?_) (fun q63 => ?_)
                          · skip
                            refine run_gf rfl rfl q63 rfl ?_
                            refine run_gf rfl rfl q63 rfl ?_
                            refine run_s (ss_pickT rfl q63 rfl) rfl ?_
                            refine run_nil ?_
                            refine aw_cond rfl (fun q64 => ?_) (fun q64 => ?_)
                            · skip
                              refine aw_seq ?_
                              refine aw_gh (gh_to (n := 192) (σ' := [(11, ⟨[.lst (rows (UniT r1_0 r1_1))], []⟩), (9, ⟨[.lst (rows (UniT r1_0 r1_1))], []⟩), (7, ⟨[.lst (rows (ProT r1_0 r1_1))], []⟩), (5, ⟨[.lst (rows (ProT r1_0 r1_1))], []⟩), (4, ⟨[.lst (rows r1_1)], []⟩), (3, ⟨[.lst (rows r1_0)], []⟩)]) (env' := []) rfl rfl trivial) ?_
                              refine aw_region ?_
                              refine run_s (ss_assign rfl) rfl ?_
                              refine run_nil ?_
                              refine aw_ret ?_
                              exact retAF_mk (retv1 rfl (rv_tmp rfl)) rfl rfl ⟨_, (cle_refl _), _, h, rfl⟩
                            · cases q64
                          · cases q63
                        · replace h := h.2 (of_decide_eq_true (bnot_f q62))
                          refine run_gt rfl rfl q62 ?_
                          refine run_s (ss_move rfl) rfl ?_
                          refine run_gt rfl rfl q62 ?_
                          refine run_s (ss_neq rfl rfl) rfl ?_
                          refine run_s (ss_pickF rfl q62 rfl) rfl ?_
                          refine run_s (ss_move rfl) rfl ?_
                          refine run_split (s := 143) rfl (fun q65 => ?_) (fun q65 => ?_)
                          · replace h := h.1 (of_decide_eq_false (bnot_t q65))
                            refine run_gf rfl rfl q65 rfl ?_
                            refine run_gf rfl rfl q65 rfl ?_
                            refine run_s (ss_pickT rfl q65 rfl) rfl ?_
                            refine run_nil ?_
                            refine aw_cond rfl (fun q66 => ?_) (fun q66 => ?_)
                            · skip
                              refine aw_seq ?_
                              refine aw_gh (gh_to (n := 192) (σ' := [(11, ⟨[.lst (rows (UniT r1_0 r1_1))], []⟩), (9, ⟨[.lst (rows (UniT r1_0 r1_1))], []⟩), (7, ⟨[.lst (rows (ProT r1_0 r1_1))], []⟩), (5, ⟨[.lst (rows (ProT r1_0 r1_1))], []⟩), (4, ⟨[.lst (rows r1_1)], []⟩), (3, ⟨[.lst (rows r1_0)], []⟩)]) (env' := []) rfl rfl trivial) ?_
                              refine aw_region ?_
                              refine run_s (ss_assign rfl) rfl ?_
                              refine run_nil ?_
                              refine aw_ret ?_
                              exact retAF_mk (retv1 rfl (rv_tmp rfl)) rfl rfl ⟨_, (cle_refl _), _, h, rfl⟩
                            · cases q66
                          · replace h := h.2 (of_decide_eq_true (bnot_f q65))
                            refine run_gt rfl rfl q65 ?_
                            refine run_s (ss_move rfl) rfl ?_
                            refine run_gt rfl rfl q65 ?_
                            refine run_s (ss_neq rfl rfl) rfl ?_
                            refine run_s (ss_pickF rfl q65 rfl) rfl ?_
                            refine run_nil ?_
                            refine aw_cond rfl (fun q67 => ?_) (fun q67 => ?_)
                            · replace h := h.1 (of_decide_eq_false (bnot_t q67))
                              refine aw_seq ?_
                              refine aw_gh (gh_to (n := 192) (σ' := [(11, ⟨[.lst (rows (UniT r1_0 r1_1))], []⟩), (9, ⟨[.lst (rows (UniT r1_0 r1_1))], []⟩), (7, ⟨[.lst (rows (ProT r1_0 r1_1))], []⟩), (5, ⟨[.lst (rows (ProT r1_0 r1_1))], []⟩), (4, ⟨[.lst (rows r1_1)], []⟩), (3, ⟨[.lst (rows r1_0)], []⟩)]) (env' := []) rfl rfl trivial) ?_
                              refine aw_region ?_
                              refine run_s (ss_assign rfl) rfl ?_
                              refine run_nil ?_
                              refine aw_ret ?_
                              exact retAF_mk (retv1 rfl (rv_tmp rfl)) rfl rfl ⟨_, (cle_refl _), _, h, rfl⟩
                            · replace h := h.2 (of_decide_eq_true (bnot_f q67))
                              refine aw_skip ?_
                              refine aw_seq ?_
                              refine aw_region ?_
                              refine run_s (ss_loadS rfl rfl rfl rfl) rfl ?_
                              obtain ⟨q68, h⟩ := h
                              refine run_w (ws_call (xs := [.tmp 147]) (ids := []) rfl rfl rfl rfl (c_impl_IsRack (ProT r1_0 r1_1) q68) rfl ?_ )
                              rintro _ rfl
                              refine ⟨rfl, ?_⟩
                              refine run_s (ss_move rfl) rfl ?_
                              refine run_split (s := 149) rfl (fun q70 => ?_) (fun q70 => ?_)
                              · replace h := h.1 (q70)
                                refine run_gt rfl rfl q70 ?_
                                refine run_s (ss_loadS rfl rfl rfl rfl) rfl ?_
                                refine run_gt rfl rfl q70 ?_
                                obtain ⟨q71, h⟩ := h
                                refine run_w (ws_call (xs := [.tmp 150]) (ids := []) rfl rfl rfl rfl (c_impl_IsRack (UniT r1_0 r1_1) q71) rfl ?_ )
                                rintro _ rfl
                                refine ⟨rfl, ?_⟩
                                refine run_s (ss_pickT rfl q70 rfl) rfl ?_
                                refine run_s (ss_move rfl) rfl ?_
                                refine run_split (s := 153) rfl (fun q73 => ?_) (fun q73 => ?_)
                                · replace h := h.1 (q73)
                                  refine run_gt rfl rfl q73 ?_
                                  refine run_s (ss_move rfl) rfl ?_
                                  refine run_gt rfl rfl q73 ?_
                                  refine run_s (ss_move rfl) rfl ?_
                                  refine run_gt rfl rfl q73 ?_
                                  refine run_s (ss_move rfl) rfl ?_
                                  refine run_split (s := 156) rfl (fun q74 => ?_) (fun q74 => ?_)
                                  · replace h := h.1 (q74)
                                    refine run_gt rfl rfl q74 ?_
                                    refine run_s (ss_move rfl) rfl ?_
                                    refine run_gt rfl rfl q73 ?_
                                    refine run_s (ss_pickT rfl q74 rfl) rfl ?_
                                    refine run_gt rfl rfl q73 ?_
                                    refine run_s (ss_eqlB rfl rfl) rfl ?_
                                    refine run_s (ss_pickT rfl q73 rfl) rfl ?_
                                    refine run_s (ss_move rfl) rfl ?_
                                    refine run_split (s := 161) rfl (fun q75 => ?_) (fun q75 => ?_)
                                    · replace h := h.1 (q75)
                                      refine run_gt rfl rfl q75 ?_
                                      refine run_s (ss_move rfl) rfl ?_
                                      refine run_gt rfl rfl q75 ?_
                                      refine run_s (ss_move rfl) rfl ?_
                                      refine run_gt rfl rfl q75 ?_
                                      refine run_s (ss_move rfl) rfl ?_
                                      refine run_gt rfl rfl q74 ?_
                                      refine run_s (ss_move rfl) rfl ?_
                                      refine run_gt rfl rfl q75 ?_
                                      refine run_s (ss_pickT rfl q74 rfl) rfl ?_
                                      refine run_gt rfl rfl q75 ?_
                                      refine run_s (ss_eqlB rfl rfl) rfl ?_
                                      refine run_s (ss_pickT rfl q75 rfl) rfl ?_
                                      refine run_s (ss_move rfl) rfl ?_
                                      refine run_split (s := 169) rfl (fun q76 => ?_) (fun q76 => ?_)
                                      · replace h := h.1 (q76)
                                        refine run_gt rfl rfl q76 ?_
                                        refine run_s (ss_move rfl) rfl ?_
                                        refine run_gt rfl rfl q76 ?_
                                        obtain ⟨q77, h⟩ := h
                                        refine run_w (ws_call (xs := [.tmp 170]) (ids := []) rfl rfl rfl rfl (c_laws_most9 (RorT (UniT r1_0 r1_1)) q77) rfl ?_ )
                                        rintro _ rfl
                                        refine ⟨rfl, ?_⟩
                                        refine run_gt rfl rfl q76 ?_
                                        refine run_s (ss_move rfl) rfl ?_
                                        refine run_gt rfl rfl q76 ?_
                                        obtain ⟨q79, h⟩ := h
                                        refine run_w (ws_call (xs := [.tmp 172]) (ids := []) rfl rfl rfl rfl (c_laws_most9 (RorT r1_0) q79) rfl ?_ )
                                        rintro _ rfl
                                        refine ⟨rfl, ?_⟩
                                        refine run_gt rfl rfl q76 ?_
                                        refine run_s (ss_move rfl) rfl ?_
                                        refine run_gt rfl rfl q76 ?_
                                        obtain ⟨q81, h⟩ := h
                                        refine run_w (ws_call (xs := [.tmp 174]) (ids := []) rfl rfl rfl rfl (c_laws_most9 (RorT r1_1) q81) rfl ?_ )
                                        rintro _ rfl
                                        refine ⟨rfl, ?_⟩
                                        refine run_gt rfl rfl q76 ?_
                                        obtain ⟨q83, h⟩ := h
                                        refine run_s (ss_add rfl rfl q83) rfl ?_
                                        refine run_gt rfl rfl q76 ?_
                                        refine run_s (ss_eql rfl rfl) rfl ?_
                                        refine run_s (ss_pickT rfl q76 rfl) rfl ?_
                                        refine run_s (ss_move rfl) rfl ?_
                                        refine run_split (s := 179) rfl (fun q84 => ?_) (fun q84 => ?_)
                                        · replace h := h.1 (of_decide_eq_true q84)
                                          refine run_gt rfl rfl q84 ?_
                                          refine run_s (ss_field_cell rfl) rfl ?_
                                          refine run_gt rfl rfl q84 ?_
                                          refine run_s (ss_loadC rfl rfl rfl rfl rfl) rfl ?_
                                          refine run_gt rfl rfl q84 ?_
                                          refine run_s (ss_lenL (f := (fun r => C.lst (ints r))) rfl) rfl ?_
                                          refine run_gt rfl rfl q84 ?_
                                          refine run_s (ss_field_cell rfl) rfl ?_
                                          refine run_gt rfl rfl q84 ?_
                                          refine run_s (ss_loadC rfl rfl rfl rfl rfl) rfl ?_
                                          refine run_gt rfl rfl q84 ?_
                                          refine run_s (ss_lenL (f := (fun r => C.lst (ints r))) rfl) rfl ?_
                                          refine run_gt rfl rfl q84 ?_
                                          refine run_s (ss_field_cell rfl) rfl ?_
                                          refine run_gt rfl rfl q84 ?_
                                          refine run_s (ss_loadC rfl rfl rfl rfl rfl) rfl ?_
                                          refine run_gt rfl rfl q84 ?_
                                          refine run_s (ss_lenL (f := (fun r => C.lst (ints r))) rfl) rfl ?_
                                          refine run_gt rfl rfl q84 ?_
                                          obtain ⟨q85, h⟩ := h
                                          refine run_s (ss_mul rfl rfl q85) rfl ?_
                                          refine run_gt rfl rfl q84 ?_
                                          refine run_s (ss_eql rfl rfl) rfl ?_
                                          refine run_s (ss_pickT rfl q84 rfl) rfl ?_
                                          refine run_s (ss_assign rfl) rfl ?_
                                          refine run_nil ?_
                                          refine aw_ret ?_
                                          exact retAF_mk (retv1 rfl (rv_tmp rfl)) rfl rfl ⟨_, (cle_refl _), _, h, rfl⟩
                                        · replace h := h.2 (of_decide_eq_false q84)
                                          refine run_gf rfl rfl q84 rfl ?_
                                          refine run_gf rfl rfl q84 rfl ?_
                                          refine run_gf rfl rfl q84 rfl ?_
                                          refine run_gf rfl rfl q84 rfl ?_
                                          refine run_gf rfl rfl q84 rfl ?_
                                          refine run_gf rfl rfl q84 rfl ?_
                                          refine run_gf rfl rfl q84 rfl ?_
                                          refine run_gf rfl rfl q84 rfl ?_
                                          refine run_gf rfl rfl q84 rfl ?_
                                          refine run_gf rfl rfl q84 rfl ?_
                                          refine run_gf rfl rfl q84 rfl ?_
                                          refine run_s (ss_pickF rfl q84 rfl) rfl ?_
                                          refine run_s (ss_assign rfl) rfl ?_
                                          refine run_nil ?_
                                          refine aw_ret ?_
                                          exact retAF_mk (retv1 rfl (rv_tmp rfl)) rfl rfl ⟨_, (cle_refl _), _, h, rfl⟩
                                      · replace h := h.2 (q76)
                                        refine run_gf rfl rfl q76 rfl ?_
                                        refine run_gf rfl rfl q76 rfl ?_
                                        refine run_gf rfl rfl q76 rfl ?_
                                        refine run_gf rfl rfl q76 rfl ?_
                                        refine run_gf rfl rfl q76 rfl ?_
                                        refine run_gf rfl rfl q76 rfl ?_
                                        refine run_gf rfl rfl q76 rfl ?_
                                        refine run_gf rfl rfl q76 rfl ?_
                                        refine run_s (ss_pickF rfl q76 rfl) rfl ?_
                                        refine run_s (ss_move rfl) rfl ?_
                                        refine run_split (s := 179) rfl (fun q86 => ?_) (fun q86 => ?_)
                                        · cases q86
                                        · skip
                                          refine run_gf rfl rfl q86 rfl ?_
                                          refine run_gf rfl rfl q86 rfl ?_
                                          refine run_gf rfl rfl q86 rfl ?_
                                          refine run_gf rfl rfl q86 rfl ?_
                                          refine run_gf rfl rfl q86 rfl ?_
                                          refine run_gf rfl rfl q86 rfl ?_
                                          refine run_gf rfl rfl q86 rfl ?_
                                          refine run_gf rfl rfl q86 rfl ?_
                                          refine run_gf rfl rfl q86 rfl ?_
                                          refine run_gf rfl rfl q86 rfl ?_
                                          refine run_gf rfl rfl q86 rfl ?_
                                          refine run_s (ss_pickF rfl q86 rfl) rfl ?_
                                          refine run_s (ss_assign rfl) rfl ?_
                                          refine run_nil ?_
                                          refine aw_ret ?_
                                          exact retAF_mk (retv1 rfl (rv_tmp rfl)) rfl rfl ⟨_, (cle_refl _), _, h, rfl⟩
                                    · replace h := h.2 (q75)
                                      refine run_gf rfl rfl q75 rfl ?_
                                      refine run_gf rfl rfl q75 rfl ?_
                                      refine run_gfu rfl rfl q75 rfl ?_
                                      refine run_gu rfl rfl rfl ?_
                                      refine run_gf rfl rfl q75 rfl ?_
                                      refine run_gf rfl rfl q75 rfl ?_
                                      refine run_s (ss_pickF rfl q75 rfl) rfl ?_
                                      refine run_s (ss_move rfl) rfl ?_
                                      refine run_split (s := 169) rfl (fun q87 => ?_) (fun q87 => ?_)
                                      · cases q87
                                      · skip
                                        refine run_gf rfl rfl q87 rfl ?_
                                        refine run_gf rfl rfl q87 rfl ?_
                                        refine run_gf rfl rfl q87 rfl ?_
                                        refine run_gf rfl rfl q87 rfl ?_
                                        refine run_gf rfl rfl q87 rfl ?_
                                        refine run_gf rfl rfl q87 rfl ?_
                                        refine run_gf rfl rfl q87 rfl ?_
                                        refine run_gf rfl rfl q87 rfl ?_
                                        refine run_s (ss_pickF rfl q87 rfl) rfl ?_
                                        refine run_s (ss_move rfl) rfl ?_
                                        refine run_split (s := 179) rfl (fun q88 => ?_) (fun q88 => ?_)
                                        · cases q88
                                        · skip
                                          refine run_gf rfl rfl q88 rfl ?_
                                          refine run_gf rfl rfl q88 rfl ?_
                                          refine run_gf rfl rfl q88 rfl ?_
                                          refine run_gf rfl rfl q88 rfl ?_
                                          refine run_gf rfl rfl q88 rfl ?_
                                          refine run_gf rfl rfl q88 rfl ?_
                                          refine run_gf rfl rfl q88 rfl ?_
                                          refine run_gf rfl rfl q88 rfl ?_
                                          refine run_gf rfl rfl q88 rfl ?_
                                          refine run_gf rfl rfl q88 rfl ?_
                                          refine run_gf rfl rfl q88 rfl ?_
                                          refine run_s (ss_pickF rfl q88 rfl) rfl ?_
                                          refine run_s (ss_assign rfl) rfl ?_
                                          refine run_nil ?_
                                          refine aw_ret ?_
                                          exact retAF_mk (retv1 rfl (rv_tmp rfl)) rfl rfl ⟨_, (cle_refl _), _, h, rfl⟩
                                  · replace h := h.2 (q74)
                                    refine run_gf rfl rfl q74 rfl ?_
                                    refine run_gt rfl rfl q73 ?_
                                    refine run_s (ss_pickF rfl q74 rfl) rfl ?_
                                    refine run_gt rfl rfl q73 ?_
                                    refine run_s (ss_eqlB rfl rfl) rfl ?_
                                    refine run_s (ss_pickT rfl q73 rfl) rfl ?_
                                    refine run_s (ss_move rfl) rfl ?_
                                    refine run_split (s := 161) rfl (fun q89 => ?_) (fun q89 => ?_)
                                    · replace h := h.1 (q89)
                                      refine run_gt rfl rfl q89 ?_
                                      refine run_s (ss_move rfl) rfl ?_
                                      refine run_gt rfl rfl q89 ?_
                                      refine run_s (ss_move rfl) rfl ?_
                                      refine run_gt rfl rfl q89 ?_
                                      refine run_s (ss_move rfl) rfl ?_
                                      refine run_gf rfl rfl q74 rfl ?_
                                      refine run_gt rfl rfl q89 ?_
                                      refine run_s (ss_pickF rfl q74 rfl) rfl ?_
                                      refine run_gt rfl rfl q89 ?_
                                      refine run_s (ss_eqlB rfl rfl) rfl ?_
                                      refine run_s (ss_pickT rfl q89 rfl) rfl ?_
                                      refine run_s (ss_move rfl) rfl ?_
                                      refine run_split (s := 169) rfl (fun q90 => ?_) (fun q90 => ?_)
                                      · replace h := h.1 (q90)
                                        refine run_gt rfl rfl q90 ?_
                                        refine run_s (ss_move rfl) rfl ?_
                                        refine run_gt rfl rfl q90 ?_
                                        obtain ⟨q91, h⟩ := h
                                        refine run_w (ws_call (xs := [.tmp 170]) (ids := []) rfl rfl rfl rfl (c_laws_most9 (RorT (UniT r1_0 r1_1)) q91) rfl ?_ )
                                        rintro _ rfl
                                        refine ⟨rfl, ?_⟩
                                        refine run_gt rfl rfl q90 ?_
                                        refine run_s (ss_move rfl) rfl ?_
                                        refine run_gt rfl rfl q90 ?_
                                        obtain ⟨q93, h⟩ := h
                                        refine run_w (ws_call (xs := [.tmp 172]) (ids := []) rfl rfl rfl rfl (c_laws_most9 (RorT r1_0) q93) rfl ?_ )
                                        rintro _ rfl
                                        refine ⟨rfl, ?_⟩
                                        refine run_gt rfl rfl q90 ?_
                                        refine run_s (ss_move rfl) rfl ?_
                                        refine run_gt rfl rfl q90 ?_
                                        obtain ⟨q95, h⟩ := h
                                        refine run_w (ws_call (xs := [.tmp 174]) (ids := []) rfl rfl rfl rfl (c_laws_most9 (RorT r1_1) q95) rfl ?_ )
                                        rintro _ rfl
                                        refine ⟨rfl, ?_⟩
                                        refine run_gt rfl rfl q90 ?_
                                        obtain ⟨q97, h⟩ := h
                                        refine run_s (ss_add rfl rfl q97) rfl ?_
                                        refine run_gt rfl rfl q90 ?_
                                        refine run_s (ss_eql rfl rfl) rfl ?_
                                        refine run_s (ss_pickT rfl q90 rfl) rfl ?_
                                        refine run_s (ss_move rfl) rfl ?_
                                        refine run_split (s := 179) rfl (fun q98 => ?_) (fun q98 => ?_)
                                        · replace h := h.1 (of_decide_eq_true q98)
                                          refine run_gt rfl rfl q98 ?_
                                          refine run_s (ss_field_cell rfl) rfl ?_
                                          refine run_gt rfl rfl q98 ?_
                                          refine run_s (ss_loadC rfl rfl rfl rfl rfl) rfl ?_
                                          refine run_gt rfl rfl q98 ?_
                                          refine run_s (ss_lenL (f := (fun r => C.lst (ints r))) rfl) rfl ?_
                                          refine run_gt rfl rfl q98 ?_
                                          refine run_s (ss_field_cell rfl) rfl ?_
                                          refine run_gt rfl rfl q98 ?_
                                          refine run_s (ss_loadC rfl rfl rfl rfl rfl) rfl ?_
                                          refine run_gt rfl rfl q98 ?_
                                          refine run_s (ss_lenL (f := (fun r => C.lst (ints r))) rfl) rfl ?_
                                          refine run_gt rfl rfl q98 ?_
                                          refine run_s (ss_field_cell rfl) rfl ?_
                                          refine run_gt rfl rfl q98 ?_
                                          refine run_s (ss_loadC rfl rfl rfl rfl rfl) rfl ?_
                                          refine run_gt rfl rfl q98 ?_
                                          refine run_s (ss_lenL (f := (fun r => C.lst (ints r))) rfl) rfl ?_
                                          refine run_gt rfl rfl q98 ?_
                                          obtain ⟨q99, h⟩ := h
                                          refine run_s (ss_mul rfl rfl q99) rfl ?_
                                          refine run_gt rfl rfl q98 ?_
                                          refine run_s (ss_eql rfl rfl) rfl ?_
                                          refine run_s (ss_pickT rfl q98 rfl) rfl ?_
                                          refine run_s (ss_assign rfl) rfl ?_
                                          refine run_nil ?_
                                          refine aw_ret ?_
                                          exact retAF_mk (retv1 rfl (rv_tmp rfl)) rfl rfl ⟨_, (cle_refl _), _, h, rfl⟩
                                        · replace h := h.2 (of_decide_eq_false q98)
                                          refine run_gf rfl rfl q98 rfl ?_
                                          refine run_gf rfl rfl q98 rfl ?_
                                          refine run_gf rfl rfl q98 rfl ?_
                                          refine run_gf rfl rfl q98 rfl ?_
                                          refine run_gf rfl rfl q98 rfl ?_
                                          refine run_gf rfl rfl q98 rfl ?_
                                          refine run_gf rfl rfl q98 rfl ?_
                                          refine run_gf rfl rfl q98 rfl ?_
                                          refine run_gf rfl rfl q98 rfl ?_
                                          refine run_gf rfl rfl q98 rfl ?_
                                          refine run_gf rfl rfl q98 rfl ?_
                                          refine run_s (ss_pickF rfl q98 rfl) rfl ?_
                                          refine run_s (ss_assign rfl) rfl ?_
                                          refine run_nil ?_
                                          refine aw_ret ?_
                                          exact retAF_mk (retv1 rfl (rv_tmp rfl)) rfl rfl ⟨_, (cle_refl _), _, h, rfl⟩
                                      · replace h := h.2 (q90)
                                        refine run_gf rfl rfl q90 rfl ?_
                                        refine run_gf rfl rfl q90 rfl ?_
                                        refine run_gf rfl rfl q90 rfl ?_
                                        refine run_gf rfl rfl q90 rfl ?_
                                        refine run_gf rfl rfl q90 rfl ?_
                                        refine run_gf rfl rfl q90 rfl ?_
                                        refine run_gf rfl rfl q90 rfl ?_
                                        refine run_gf rfl rfl q90 rfl ?_
                                        refine run_s (ss_pickF rfl q90 rfl) rfl ?_
                                        refine run_s (ss_move rfl) rfl ?_
                                        refine run_split (s := 179) rfl (fun q100 => ?_) (fun q100 => ?_)
                                        · cases q100
                                        · skip
                                          refine run_gf rfl rfl q100 rfl ?_
                                          refine run_gf rfl rfl q100 rfl ?_
                                          refine run_gf rfl rfl q100 rfl ?_
                                          refine run_gf rfl rfl q100 rfl ?_
                                          refine run_gf rfl rfl q100 rfl ?_
                                          refine run_gf rfl rfl q100 rfl ?_
                                          refine run_gf rfl rfl q100 rfl ?_
                                          refine run_gf rfl rfl q100 rfl ?_
                                          refine run_gf rfl rfl q100 rfl ?_
                                          refine run_gf rfl rfl q100 rfl ?_
                                          refine run_gf rfl rfl q100 rfl ?_
                                          refine run_s (ss_pickF rfl q100 rfl) rfl ?_
                                          refine run_s (ss_assign rfl) rfl ?_
                                          refine run_nil ?_
                                          refine aw_ret ?_
                                          exact retAF_mk (retv1 rfl (rv_tmp rfl)) rfl rfl ⟨_, (cle_refl _), _, h, rfl⟩
                                    · replace h := h.2 (q89)
                                      refine run_gf rfl rfl q89 rfl ?_
                                      refine run_gf rfl rfl q89 rfl ?_
                                      refine run_gfu rfl rfl q89 rfl ?_
                                      refine run_gu rfl rfl rfl ?_
                                      refine run_gf rfl rfl q89 rfl ?_
                                      refine run_gf rfl rfl q89 rfl ?_
                                      refine run_s (ss_pickF rfl q89 rfl) rfl ?_
                                      refine run_s (ss_move rfl) rfl ?_
                                      refine run_split (s := 169) rfl (fun q101 => ?_) (fun q101 => ?_)
                                      · cases q101
                                      · skip
                                        refine run_gf rfl rfl q101 rfl ?_
                                        refine run_gf rfl rfl q101 rfl ?_
                                        refine run_gf rfl rfl q101 rfl ?_
                                        refine run_gf rfl rfl q101 rfl ?_
                                        refine run_gf rfl rfl q101 rfl ?_
                                        refine run_gf rfl rfl q101 rfl ?_
                                        refine run_gf rfl rfl q101 rfl ?_
                                        refine run_gf rfl rfl q101 rfl ?_
                                        refine run_s (ss_pickF rfl q101 rfl) rfl ?_
                                        refine run_s (ss_move rfl) rfl ?_
                                        refine run_split (s := 179) rfl (fun q102 => ?_) (fun q102 => ?_)
                                        · cases q102
                                        · skip
                                          refine run_gf rfl rfl q102 rfl ?_
                                          refine run_gf rfl rfl q102 rfl ?_
                                          refine run_gf rfl rfl q102 rfl ?_
                                          refine run_gf rfl rfl q102 rfl ?_
                                          refine run_gf rfl rfl q102 rfl ?_
                                          refine run_gf rfl rfl q102 rfl ?_
                                          refine run_gf rfl rfl q102 rfl ?_
                                          refine run_gf rfl rfl q102 rfl ?_
                                          refine run_gf rfl rfl q102 rfl ?_
                                          refine run_gf rfl rfl q102 rfl ?_
                                          refine run_gf rfl rfl q102 rfl ?_
                                          refine run_s (ss_pickF rfl q102 rfl) rfl ?_
                                          refine run_s (ss_assign rfl) rfl ?_
                                          refine run_nil ?_
                                          refine aw_ret ?_
                                          exact retAF_mk (retv1 rfl (rv_tmp rfl)) rfl rfl ⟨_, (cle_refl _), _, h, rfl⟩
                                · replace h := h.2 (q73)
                                  refine run_gf rfl rfl q73 rfl ?_
                                  refine run_gf rfl rfl q73 rfl ?_
                                  refine run_gfu rfl rfl q73 rfl ?_
                                  refine run_gu rfl rfl rfl ?_
                                  refine run_gf rfl rfl q73 rfl ?_
                                  refine run_gf rfl rfl q73 rfl ?_
                                  refine run_s (ss_pickF rfl q73 rfl) rfl ?_
                                  refine run_s (ss_move rfl) rfl ?_
                                  refine run_split (s := 161) rfl (fun q103 => ?_) (fun q103 => ?_)
                                  · cases q103
                                  · skip
                                    refine run_gf rfl rfl q103 rfl ?_
                                    refine run_gf rfl rfl q103 rfl ?_
                                    refine run_gfu rfl rfl q103 rfl ?_
                                    refine run_gu rfl rfl rfl ?_
                                    refine run_gf rfl rfl q103 rfl ?_
                                    refine run_gf rfl rfl q103 rfl ?_
                                    refine run_s (ss_pickF rfl q103 rfl) rfl ?_
                                    refine run_s (ss_move rfl) rfl ?_
                                    refine run_split (s := 169) rfl (fun q104 => ?_) (fun q104 => ?_)
                                    · cases q104
                                    · skip
                                      refine run_gf rfl rfl q104 rfl ?_
                                      refine run_gf rfl rfl q104 rfl ?_
                                      refine run_gf rfl rfl q104 rfl ?_
                                      refine run_gf rfl rfl q104 rfl ?_
                                      refine run_gf rfl rfl q104 rfl ?_
                                      refine run_gf rfl rfl q104 rfl ?_
                                      refine run_gf rfl rfl q104 rfl ?_
                                      refine run_gf rfl rfl q104 rfl ?_
                                      refine run_s (ss_pickF rfl q104 rfl) rfl ?_
                                      refine run_s (ss_move rfl) rfl ?_
                                      refine run_split (s := 179) rfl (fun q105 => ?_) (fun q105 => ?_)
                                      · cases q105
                                      · skip
                                        refine run_gf rfl rfl q105 rfl ?_
                                        refine run_gf rfl rfl q105 rfl ?_
                                        refine run_gf rfl rfl q105 rfl ?_
                                        refine run_gf rfl rfl q105 rfl ?_
                                        refine run_gf rfl rfl q105 rfl ?_
                                        refine run_gf rfl rfl q105 rfl ?_
                                        refine run_gf rfl rfl q105 rfl ?_
                                        refine run_gf rfl rfl q105 rfl ?_
                                        refine run_gf rfl rfl q105 rfl ?_
                                        refine run_gf rfl rfl q105 rfl ?_
                                        refine run_gf rfl rfl q105 rfl ?_
                                        refine run_s (ss_pickF rfl q105 rfl) rfl ?_
                                        refine run_s (ss_assign rfl) rfl ?_
                                        refine run_nil ?_
                                        refine aw_ret ?_
                                        exact retAF_mk (retv1 rfl (rv_tmp rfl)) rfl rfl ⟨_, (cle_refl _), _, h, rfl⟩
                              · replace h := h.2 (q70)
                                refine run_gf rfl rfl q70 rfl ?_
                                refine run_gf rfl rfl q70 rfl ?_
                                refine run_s (ss_pickF rfl q70 rfl) rfl ?_
                                refine run_s (ss_move rfl) rfl ?_
                                refine run_split (s := 153) rfl (fun q106 => ?_) (fun q106 => ?_)
                                · cases q106
                                · skip
                                  refine run_gf rfl rfl q106 rfl ?_
                                  refine run_gf rfl rfl q106 rfl ?_
                                  refine run_gfu rfl rfl q106 rfl ?_
                                  refine run_gu rfl rfl rfl ?_
                                  refine run_gf rfl rfl q106 rfl ?_
                                  refine run_gf rfl rfl q106 rfl ?_
                                  refine run_s (ss_pickF rfl q106 rfl) rfl ?_
                                  refine run_s (ss_move rfl) rfl ?_
                                  refine run_split (s := 161) rfl (fun q107 => ?_) (fun q107 => ?_)
                                  · cases q107
                                  · skip
                                    refine run_gf rfl rfl q107 rfl ?_
                                    refine run_gf rfl rfl q107 rfl ?_
                                    refine run_gfu rfl rfl q107 rfl ?_
                                    refine run_gu rfl rfl rfl ?_
                                    refine run_gf rfl rfl q107 rfl ?_
                                    refine run_gf rfl rfl q107 rfl ?_
                                    refine run_s (ss_pickF rfl q107 rfl) rfl ?_
                                    refine run_s (ss_move rfl) rfl ?_
                                    refine run_split (s := 169) rfl (fun q108 => ?_) (fun q108 => ?_)
                                    · cases q108
                                    · skip
                                      refine run_gf rfl rfl q108 rfl ?_
                                      refine run_gf rfl rfl q108 rfl ?_
                                      refine run_gf rfl rfl q108 rfl ?_
                                      refine run_gf rfl rfl q108 rfl ?_
                                      refine run_gf rfl rfl q108 rfl ?_
                                      refine run_gf rfl rfl q108 rfl ?_
                                      refine run_gf rfl rfl q108 rfl ?_
                                      refine run_gf rfl rfl q108 rfl ?_
                                      refine run_s (ss_pickF rfl q108 rfl) rfl ?_
                                      refine run_s (ss_move rfl) rfl ?_
                                      refine run_split (s := 179) rfl (fun q109 => ?_) (fun q109 => ?_)
                                      · cases q109
                                      · skip
                                        refine run_gf rfl rfl q109 rfl ?_
                                        refine run_gf rfl rfl q109 rfl ?_
                                        refine run_gf rfl rfl q109 rfl ?_
                                        refine run_gf rfl rfl q109 rfl ?_
                                        refine run_gf rfl rfl q109 rfl ?_
                                        refine run_gf rfl rfl q109 rfl ?_
                                        refine run_gf rfl rfl q109 rfl ?_
                                        refine run_gf rfl rfl q109 rfl ?_
                                        refine run_gf rfl rfl q109 rfl ?_
                                        refine run_gf rfl rfl q109 rfl ?_
                                        refine run_gf rfl rfl q109 rfl ?_
                                        refine run_s (ss_pickF rfl q109 rfl) rfl ?_
                                        refine run_s (ss_assign rfl) rfl ?_
                                        refine run_nil ?_
                                        refine aw_ret ?_
                                        exact retAF_mk (retv1 rfl (rv_tmp rfl)) rfl rfl ⟨_, (cle_refl _), _, h, rfl⟩

theorem c_laws_FnRackProducts (code : List Int) (hp : code.length ≤ 9223372036854775807 ∧ ∀ z_ ∈ code, 0 ≤ z_ ∧ z_ ≤ 255) : AF Try.prog 5 [.lst (bys code)] (fun R_ => R_ = cb true) :=
  (w_laws_FnRackProducts code (fun y0 => y0 = true) (p_laws_FnRackProducts code hp)).mono (by rintro r ⟨_, rfl, rfl⟩; rfl)

end Go.Proofs.Ytbodlnpmplcaoaa

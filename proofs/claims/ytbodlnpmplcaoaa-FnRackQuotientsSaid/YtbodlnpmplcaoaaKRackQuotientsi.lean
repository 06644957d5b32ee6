/- Contracts of functions that the law FnRackQuotients reaches: conditions, plain proofs, walks; no condition. -/
import Derived.Test.YtbodlnpmplcaoaaKRackQuotientsh
namespace Go.Proofs.Ytbodlnpmplcaoaa

def wp_laws_FnRackQuotients (code : List Int) (Q : Bool → Prop) : Prop :=
 ((4096 < (code.length : Int) →
 Q true) ∧
 (¬ (4096 < (code.length : Int)) →
 (small code ∧ bytes code) ∧
 ∀ (r1_0 : List (List Int)) (r1_1 : Int) (r1_2 : Int), (drT 10 r1_0 ∧ (-1 ≤ r1_1 ∧ r1_1 ≤ 12) ∧ 0 ≤ r1_2 ∧ r1_2 ≤ 12) →
 (small2 r1_0 ∧ InI r1_1 ∧ InI r1_2) ∧
 (small2 r1_0 ∧ InI r1_1 ∧ InI r1_2) ∧
 ((¬ (CgfE r1_0 r1_1 r1_2 = CgfE r1_0 r1_1 r1_2) →
 Q false) ∧
 (CgfE r1_0 r1_1 r1_2 = CgfE r1_0 r1_1 r1_2 →
 (small (CgfT r1_0 r1_1 r1_2) ∧ small (CgfT r1_0 r1_1 r1_2)) ∧
 ((¬ ((CgfT r1_0 r1_1 r1_2) = (CgfT r1_0 r1_1 r1_2)) →
 Q false) ∧
 ((CgfT r1_0 r1_1 r1_2) = (CgfT r1_0 r1_1 r1_2) →
 (small2 r1_0) ∧
 (small2 r1_0) ∧
 ((¬ (rkE r1_0 = rkE r1_0) →
 Q false) ∧
 (rkE r1_0 = rkE r1_0 →
 ((((SimB r1_0) == (SimB r1_0)) = false →
 Q false) ∧
 (((SimB r1_0) == (SimB r1_0)) = true →
 ((¬ (CgfE r1_0 r1_1 r1_2 = 0) →
 Q (decide (((CgfT r1_0 r1_1 r1_2).length : Int) = 0))) ∧
 (CgfE r1_0 r1_1 r1_2 = 0 →
 (small2 r1_0 ∧ small (CgfT r1_0 r1_1 r1_2)) ∧
 (small2 r1_0 ∧ small (CgfT r1_0 r1_1 r1_2)) ∧
 ((¬ (IcoE r1_0 (CgfT r1_0 r1_1 r1_2) = 0) →
 Q false) ∧
 (IcoE r1_0 (CgfT r1_0 r1_1 r1_2) = 0 →
 ((¬ (QuoE r1_0 (CgfT r1_0 r1_1 r1_2) = 0) →
 Q false) ∧
 (QuoE r1_0 (CgfT r1_0 r1_1 r1_2) = 0 →
 (((IcoV r1_0 (CgfT r1_0 r1_1 r1_2)) = false →
 Q false) ∧
 ((IcoV r1_0 (CgfT r1_0 r1_1 r1_2)) = true →
 (small2 (QuoT r1_0 (CgfT r1_0 r1_1 r1_2))) ∧
 (((isRk (QuoT r1_0 (CgfT r1_0 r1_1 r1_2))) = false →
 Q false) ∧
 ((isRk (QuoT r1_0 (CgfT r1_0 r1_1 r1_2))) = true →
 (small (CgfT r1_0 r1_1 r1_2) ∧ ∀ z_ ∈ (CgfT r1_0 r1_1 r1_2), z_ ≤ 1000000000) ∧
 ((¬ (((QuoT r1_0 (CgfT r1_0 r1_1 r1_2)).length : Int) = mostI (CgfT r1_0 r1_1 r1_2)) →
 Q false) ∧
 (((QuoT r1_0 (CgfT r1_0 r1_1 r1_2)).length : Int) = mostI (CgfT r1_0 r1_1 r1_2) →
 (0 ≤ r1_1 ∧ r1_1 < ((CgfT r1_0 r1_1 r1_2).length : Int)) ∧
 (0 ≤ r1_2 ∧ r1_2 < ((CgfT r1_0 r1_1 r1_2).length : Int)) ∧
 ((¬ (el (CgfT r1_0 r1_1 r1_2) r1_1 = el (CgfT r1_0 r1_1 r1_2) r1_2) →
 Q false) ∧
 (el (CgfT r1_0 r1_1 r1_2) r1_1 = el (CgfT r1_0 r1_1 r1_2) r1_2 →
 (((SimB r1_0) = true →
 ((¬ (r1_1 = r1_2) →
 (small (CgfT r1_0 r1_1 r1_2) ∧ ∀ z_ ∈ (CgfT r1_0 r1_1 r1_2), z_ ≤ 1000000000) ∧
 ((¬ (mostI (CgfT r1_0 r1_1 r1_2) = 1) →
 Q false) ∧
 (mostI (CgfT r1_0 r1_1 r1_2) = 1 →
 ∃ (H1 : Int → Prop) (m1 : Int → Nat),
 H1 0 ∧
 ∀ (v18_1 : Int), H1 v18_1 →
 ( ((v18_1 < (r1_0.length : Int) →
 ∃ (H2 : Int → Prop) (m2 : Int → Nat),
 H2 0 ∧
 ∀ (v19_2 : Int), H2 v19_2 →
 ( ((v19_2 < (r1_0.length : Int) →
 (0 ≤ v18_1 ∧ v18_1 < ((CgfT r1_0 r1_1 r1_2).length : Int)) ∧
 (0 ≤ v19_2 ∧ v19_2 < ((CgfT r1_0 r1_1 r1_2).length : Int)) ∧
 (0 ≤ el (CgfT r1_0 r1_1 r1_2) v18_1 ∧ el (CgfT r1_0 r1_1 r1_2) v18_1 < ((QuoT r1_0 (CgfT r1_0 r1_1 r1_2)).length : Int)) ∧
 (0 ≤ el (CgfT r1_0 r1_1 r1_2) v19_2 ∧ el (CgfT r1_0 r1_1 r1_2) v19_2 < ((el (QuoT r1_0 (CgfT r1_0 r1_1 r1_2)) (el (CgfT r1_0 r1_1 r1_2) v18_1)).length : Int)) ∧
 (0 ≤ v18_1 ∧ v18_1 < (r1_0.length : Int)) ∧
 (0 ≤ v19_2 ∧ v19_2 < ((el r1_0 v18_1).length : Int)) ∧
 (0 ≤ el (el r1_0 v18_1) v19_2 ∧ el (el r1_0 v18_1) v19_2 < ((CgfT r1_0 r1_1 r1_2).length : Int)) ∧
 ((¬ (el (el (QuoT r1_0 (CgfT r1_0 r1_1 r1_2)) (el (CgfT r1_0 r1_1 r1_2) v18_1)) (el (CgfT r1_0 r1_1 r1_2) v19_2) = el (CgfT r1_0 r1_1 r1_2) (el (el r1_0 v18_1) v19_2)) →
 Q false) ∧
 (el (el (QuoT r1_0 (CgfT r1_0 r1_1 r1_2)) (el (CgfT r1_0 r1_1 r1_2) v18_1)) (el (CgfT r1_0 r1_1 r1_2) v19_2) = el (CgfT r1_0 r1_1 r1_2) (el (el r1_0 v18_1) v19_2) →
 (InI (v19_2 + 1)) ∧
 (H2 (v19_2 + 1) ∧ m2 (v19_2 + 1) < m2 v19_2)))) ∧
 (¬ (v19_2 < (r1_0.length : Int)) →
 (InI (v18_1 + 1)) ∧
 (H1 (v18_1 + 1) ∧ m1 (v18_1 + 1) < m1 v18_1))))) ∧
 (¬ (v18_1 < (r1_0.length : Int)) →
 (small code ∧ bytes code) ∧
 ∀ (r2_0 : List (List Int)) (r2_1 : List Int), (drT 8 r2_0 ∧ (r2_1.length : Int) ≤ 12) →
 (small2 r2_0 ∧ small r2_1) ∧
 (small2 r2_0 ∧ small r2_1) ∧
 ((QuoE r2_0 r2_1 = QuoE r2_0 r2_1 →
 (small2 (QuoT r2_0 r2_1) ∧ small2 (QuoT r2_0 r2_1)) ∧
 Q (decide ((QuoT r2_0 r2_1) = (QuoT r2_0 r2_1)))) ∧
 (¬ (QuoE r2_0 r2_1 = QuoE r2_0 r2_1) →
 Q false)))))))) ∧
 (r1_1 = r1_2 →
 ∃ (H3 : Int → Prop) (m3 : Int → Nat),
 H3 0 ∧
 ∀ (v18_1 : Int), H3 v18_1 →
 ( ((v18_1 < (r1_0.length : Int) →
 ∃ (H4 : Int → Prop) (m4 : Int → Nat),
 H4 0 ∧
 ∀ (v19_2 : Int), H4 v19_2 →
 ( ((v19_2 < (r1_0.length : Int) →
 (0 ≤ v18_1 ∧ v18_1 < ((CgfT r1_0 r1_1 r1_2).length : Int)) ∧
 (0 ≤ v19_2 ∧ v19_2 < ((CgfT r1_0 r1_1 r1_2).length : Int)) ∧
 (0 ≤ el (CgfT r1_0 r1_1 r1_2) v18_1 ∧ el (CgfT r1_0 r1_1 r1_2) v18_1 < ((QuoT r1_0 (CgfT r1_0 r1_1 r1_2)).length : Int)) ∧
 (0 ≤ el (CgfT r1_0 r1_1 r1_2) v19_2 ∧ el (CgfT r1_0 r1_1 r1_2) v19_2 < ((el (QuoT r1_0 (CgfT r1_0 r1_1 r1_2)) (el (CgfT r1_0 r1_1 r1_2) v18_1)).length : Int)) ∧
 (0 ≤ v18_1 ∧ v18_1 < (r1_0.length : Int)) ∧
 (0 ≤ v19_2 ∧ v19_2 < ((el r1_0 v18_1).length : Int)) ∧
 (0 ≤ el (el r1_0 v18_1) v19_2 ∧ el (el r1_0 v18_1) v19_2 < ((CgfT r1_0 r1_1 r1_2).length : Int)) ∧
 ((¬ (el (el (QuoT r1_0 (CgfT r1_0 r1_1 r1_2)) (el (CgfT r1_0 r1_1 r1_2) v18_1)) (el (CgfT r1_0 r1_1 r1_2) v19_2) = el (CgfT r1_0 r1_1 r1_2) (el (el r1_0 v18_1) v19_2)) →
 Q false) ∧
 (el (el (QuoT r1_0 (CgfT r1_0 r1_1 r1_2)) (el (CgfT r1_0 r1_1 r1_2) v18_1)) (el (CgfT r1_0 r1_1 r1_2) v19_2) = el (CgfT r1_0 r1_1 r1_2) (el (el r1_0 v18_1) v19_2) →
 (InI (v19_2 + 1)) ∧
 (H4 (v19_2 + 1) ∧ m4 (v19_2 + 1) < m4 v19_2)))) ∧
 (¬ (v19_2 < (r1_0.length : Int)) →
 (InI (v18_1 + 1)) ∧
 (H3 (v18_1 + 1) ∧ m3 (v18_1 + 1) < m3 v18_1))))) ∧
 (¬ (v18_1 < (r1_0.length : Int)) →
 (small code ∧ bytes code) ∧
 ∀ (r3_0 : List (List Int)) (r3_1 : List Int), (drT 8 r3_0 ∧ (r3_1.length : Int) ≤ 12) →
 (small2 r3_0 ∧ small r3_1) ∧
 (small2 r3_0 ∧ small r3_1) ∧
 ((QuoE r3_0 r3_1 = QuoE r3_0 r3_1 →
 (small2 (QuoT r3_0 r3_1) ∧ small2 (QuoT r3_0 r3_1)) ∧
 Q (decide ((QuoT r3_0 r3_1) = (QuoT r3_0 r3_1)))) ∧
 (¬ (QuoE r3_0 r3_1 = QuoE r3_0 r3_1) →
 Q false)))))))) ∧
 ((SimB r1_0) = false →
 ∃ (H5 : Int → Prop) (m5 : Int → Nat),
 H5 0 ∧
 ∀ (v18_1 : Int), H5 v18_1 →
 ( ((v18_1 < (r1_0.length : Int) →
 ∃ (H6 : Int → Prop) (m6 : Int → Nat),
 H6 0 ∧
 ∀ (v19_2 : Int), H6 v19_2 →
 ( ((v19_2 < (r1_0.length : Int) →
 (0 ≤ v18_1 ∧ v18_1 < ((CgfT r1_0 r1_1 r1_2).length : Int)) ∧
 (0 ≤ v19_2 ∧ v19_2 < ((CgfT r1_0 r1_1 r1_2).length : Int)) ∧
 (0 ≤ el (CgfT r1_0 r1_1 r1_2) v18_1 ∧ el (CgfT r1_0 r1_1 r1_2) v18_1 < ((QuoT r1_0 (CgfT r1_0 r1_1 r1_2)).length : Int)) ∧
 (0 ≤ el (CgfT r1_0 r1_1 r1_2) v19_2 ∧ el (CgfT r1_0 r1_1 r1_2) v19_2 < ((el (QuoT r1_0 (CgfT r1_0 r1_1 r1_2)) (el (CgfT r1_0 r1_1 r1_2) v18_1)).length : Int)) ∧
 (0 ≤ v18_1 ∧ v18_1 < (r1_0.length : Int)) ∧
 (0 ≤ v19_2 ∧ v19_2 < ((el r1_0 v18_1).length : Int)) ∧
 (0 ≤ el (el r1_0 v18_1) v19_2 ∧ el (el r1_0 v18_1) v19_2 < ((CgfT r1_0 r1_1 r1_2).length : Int)) ∧
 ((¬ (el (el (QuoT r1_0 (CgfT r1_0 r1_1 r1_2)) (el (CgfT r1_0 r1_1 r1_2) v18_1)) (el (CgfT r1_0 r1_1 r1_2) v19_2) = el (CgfT r1_0 r1_1 r1_2) (el (el r1_0 v18_1) v19_2)) →
 Q false) ∧
 (el (el (QuoT r1_0 (CgfT r1_0 r1_1 r1_2)) (el (CgfT r1_0 r1_1 r1_2) v18_1)) (el (CgfT r1_0 r1_1 r1_2) v19_2) = el (CgfT r1_0 r1_1 r1_2) (el (el r1_0 v18_1) v19_2) →
 (InI (v19_2 + 1)) ∧
 (H6 (v19_2 + 1) ∧ m6 (v19_2 + 1) < m6 v19_2)))) ∧
 (¬ (v19_2 < (r1_0.length : Int)) →
 (InI (v18_1 + 1)) ∧
 (H5 (v18_1 + 1) ∧ m5 (v18_1 + 1) < m5 v18_1))))) ∧
 (¬ (v18_1 < (r1_0.length : Int)) →
 (small code ∧ bytes code) ∧
 ∀ (r4_0 : List (List Int)) (r4_1 : List Int), (drT 8 r4_0 ∧ (r4_1.length : Int) ≤ 12) →
 (small2 r4_0 ∧ small r4_1) ∧
 (small2 r4_0 ∧ small r4_1) ∧
 ((QuoE r4_0 r4_1 = QuoE r4_0 r4_1 →
 (small2 (QuoT r4_0 r4_1) ∧ small2 (QuoT r4_0 r4_1)) ∧
 Q (decide ((QuoT r4_0 r4_1) = (QuoT r4_0 r4_1)))) ∧
 (¬ (QuoE r4_0 r4_1 = QuoE r4_0 r4_1) →
 Q false)))))))))))))))))))))))))))))))

@[reducible] def fine2 (t : List (List Int)) : Prop := small2 t ∧ tot t ≤ 1000000000
theorem fine2_nil : fine2 [] := ⟨⟨by simp, by simp⟩, by simp [tot]⟩
theorem mem_ranf {α : Type} {n : Int} {f : Int → α} {r : α} (h : r ∈ ran n f) : ∃ i, (0 ≤ i ∧ i < n) ∧ r = f i := by
  unfold ran at h
  obtain ⟨k, hk, rfl⟩ := List.mem_map.1 h
  have := List.mem_range.1 hk
  exact ⟨k, ⟨by omega, by omega⟩, rfl⟩
theorem fine2_tab {n : Int} {f : Int → Int → Int} (h : n ≤ 1000) : fine2 (tab n f) := by
  refine ⟨⟨by simp [tab]; omega, fun r hr => ?_⟩, ?_⟩
  · obtain ⟨i, _, rfl⟩ := mem_ranf hr
    simp; omega
  · rw [tot_tab]
    have : n.toNat ≤ 1000 := by omega
    have : n.toNat * n.toNat ≤ 1000 * 1000 := Nat.mul_le_mul this this
    omega
theorem fine2_ite {c : Prop} [Decidable c] {t : List (List Int)} (h : c → fine2 t) : fine2 (if c then t else []) := by
  split
  · exact h (by assumption)
  · exact fine2_nil
theorem small_ite {c : Prop} [Decidable c] {t : List Int} (h : c → small t) : small (if c then t else []) := by
  split
  · exact h (by assumption)
  · simp
theorem fine_Quo (r : List (List Int)) (c : List Int) : fine2 (QuoT r c) := fine2_ite fun h => fine2_tab (by
  unfold QuoE at h
  split at h
  · rename_i h1
    simp only [Bool.and_eq_true] at h1
    have a := canN_le (partB_can h1.2)
    have b := partB_len h1.2
    have d := isTab_len (isRk_tab h1.1)
    omega
  · cases h)
theorem small_Cgf (r : List (List Int)) (x y : Int) : small (CgfT r x y) := small_ite fun h => by
  unfold CgfE at h
  split at h
  · rename_i h1
    split at h
    · rename_i h2
      simp only [inN, Bool.and_eq_true, decide_eq_true_eq] at h2
      have := (cgI_is (isRk_tab h1) ⟨h2.1.1, by omega⟩ ⟨h2.2.1, by omega⟩).1
      have := isTab_len (isRk_tab h1)
      show ((cgI r x y).length : Int) ≤ 1000000000
      omega
    · cases h
  · cases h
theorem drT_small {m : Int} {t : List (List Int)} (hm : m ≤ 1000) (h : drT m t) : small2 t := ⟨by show (_ : Int) ≤ _; have := h.1; omega, fun q hq => by show (_ : Int) ≤ _; have := (h.2 q hq).1; omega⟩
theorem bytes_of {code : List Int} (hp : code.length ≤ 9223372036854775807 ∧ ∀ z_ ∈ code, 0 ≤ z_ ∧ z_ ≤ 255) (h : ¬ (4096 < (code.length : Int))) : small code ∧ bytes code :=
  ⟨by show (_ : Int) ≤ _; omega, fun i i0 i1 => hp.2 _ (el_mem ⟨i0, i1⟩)⟩
def wtQ (code : List Int) (r : List (List Int)) (c : List Int) (Q : Bool → Prop) : Prop :=
              ∃ (H5 : Int → Prop) (m5 : Int → Nat),
              H5 0 ∧
              ∀ (v18_1 : Int), H5 v18_1 →
              ( ((v18_1 < (r.length : Int) →
                ∃ (H6 : Int → Prop) (m6 : Int → Nat),
                H6 0 ∧
                ∀ (v19_2 : Int), H6 v19_2 →
                ( ((v19_2 < (r.length : Int) →
                  (0 ≤ v18_1 ∧ v18_1 < (c.length : Int)) ∧
                  (0 ≤ v19_2 ∧ v19_2 < (c.length : Int)) ∧
                  (0 ≤ el c v18_1 ∧ el c v18_1 < ((QuoT r c).length : Int)) ∧
                  (0 ≤ el c v19_2 ∧ el c v19_2 < ((el (QuoT r c) (el c v18_1)).length : Int)) ∧
                  (0 ≤ v18_1 ∧ v18_1 < (r.length : Int)) ∧
                  (0 ≤ v19_2 ∧ v19_2 < ((el r v18_1).length : Int)) ∧
                  (0 ≤ el (el r v18_1) v19_2 ∧ el (el r v18_1) v19_2 < (c.length : Int)) ∧
                  ((¬ (el (el (QuoT r c) (el c v18_1)) (el c v19_2) = el c (el (el r v18_1) v19_2)) →
                   Q false) ∧
                  (el (el (QuoT r c) (el c v18_1)) (el c v19_2) = el c (el (el r v18_1) v19_2) →
                   (InI (v19_2 + 1)) ∧
                   (H6 (v19_2 + 1) ∧ m6 (v19_2 + 1) < m6 v19_2)))) ∧
                 (¬ (v19_2 < (r.length : Int)) →
                  (InI (v18_1 + 1)) ∧
                  (H5 (v18_1 + 1) ∧ m5 (v18_1 + 1) < m5 v18_1))))) ∧
               (¬ (v18_1 < (r.length : Int)) →
                (small code ∧ bytes code) ∧
                ∀ (r4_0 : List (List Int)) (r4_1 : List Int), (drT 8 r4_0 ∧ (r4_1.length : Int) ≤ 12) →
                (small2 r4_0 ∧ small r4_1) ∧
                (small2 r4_0 ∧ small r4_1) ∧
                ((QuoE r4_0 r4_1 = QuoE r4_0 r4_1 →
                 (small2 (QuoT r4_0 r4_1) ∧ small2 (QuoT r4_0 r4_1)) ∧
                 Q (decide ((QuoT r4_0 r4_1) = (QuoT r4_0 r4_1)))) ∧
                (¬ (QuoE r4_0 r4_1 = QuoE r4_0 r4_1) →
                 Q false)))))
theorem wtQ_ok {code : List Int} {r : List (List Int)} {c : List Int} (hs : small code ∧ bytes code) (h : isRk r = true) (hc : partB (r.length : Int) c = true) (hC : CongP r c) (hQ : QuoT r c = quoT r c) : wtQ code r c (fun y0 => y0 = true) := by
  unfold wtQ
  rw [hQ]
  have ht := isRk_tab h
  have hn := isTab_len ht
  have hl := partB_len hc
  have hk := partB_can hc
  have ql := quo_len h hc hC
  have tq := isTab_quo h hc hC
  refine ⟨fun a => 0 ≤ a ∧ a ≤ (r.length : Int), fun a => ((r.length : Int) - a).toNat, ⟨by omega, by omega⟩, ?_⟩
  rintro a ⟨a0, a1⟩
  dsimp only
  refine ⟨fun an => ?_, fun an => ⟨hs, ?_⟩⟩
  · refine ⟨fun b => 0 ≤ b ∧ b ≤ (r.length : Int), fun b => ((r.length : Int) - b).toNat, ⟨by omega, by omega⟩, ?_⟩
    rintro b ⟨b0, b1⟩
    dsimp only
    refine ⟨fun bn => ?_, fun bn => ⟨⟨by omega, by omega⟩, ⟨by omega, by omega⟩, by omega⟩⟩
    have ca := can_el hk (i := a) ⟨a0, by omega⟩
    have cb := can_el hk (i := b) ⟨b0, by omega⟩
    have v := rk_el ht ⟨a0, an⟩ ⟨b0, bn⟩
    have lr := rk_len ht ⟨a0, an⟩
    have lq := rk_len tq (x := el c a) ⟨ca.1, by omega⟩
    have q := quo_at h hc hC ⟨a0, an⟩ ⟨b0, bn⟩
    exact ⟨⟨a0, by omega⟩, ⟨b0, by omega⟩, ⟨ca.1, by omega⟩, ⟨cb.1, by omega⟩, ⟨a0, an⟩, ⟨b0, by omega⟩, ⟨v.1, by omega⟩, fun g => absurd q g, fun _ => ⟨⟨by omega, by omega⟩, ⟨by omega, by omega⟩, by omega⟩⟩
  · rintro z l ⟨hz, hll⟩
    have sz := drT_small (by omega) hz
    have sl : small l := by show (_ : Int) ≤ _; omega
    have sq := (fine_Quo z l).1
    exact ⟨⟨sz, sl⟩, ⟨sz, sl⟩, fun _ => ⟨⟨sq, sq⟩, by simp⟩, fun g => absurd rfl g⟩
theorem p_laws_FnRackQuotients (code : List Int) (hp : code.length ≤ 9223372036854775807 ∧ ∀ z_ ∈ code, 0 ≤ z_ ∧ z_ ≤ 255) : wp_laws_FnRackQuotients code (fun y0 => y0 = true) := by
  unfold wp_laws_FnRackQuotients
  refine ⟨fun _ => rfl, fun hb => ⟨bytes_of hp hb, ?_⟩⟩
  have hsb := bytes_of hp hb
  rintro r x y ⟨hr, hx, hy⟩
  have sr := drT_small (by omega) hr
  have ix : InI x := ⟨by omega, by omega⟩
  have iy : InI y := ⟨by omega, by omega⟩
  have sc := small_Cgf r x y
  refine ⟨⟨sr, ix, iy⟩, ⟨sr, ix, iy⟩, fun g => absurd rfl g, fun _ => ⟨⟨sc, sc⟩, fun g => absurd rfl g, fun _ => ⟨sr, sr, fun g => absurd rfl g, fun _ => ⟨fun g => (by simp at g), fun _ => ⟨fun g => ?_, fun e => ?_⟩⟩⟩⟩⟩
  · have : CgfT r x y = [] := by unfold CgfT; rw [if_neg g]
    rw [this]; rfl
  · have hE : isRk r = true ∧ (0 ≤ x ∧ x < (r.length : Int)) ∧ 0 ≤ y ∧ y < (r.length : Int) := by
      unfold CgfE at e
      split at e
      · rename_i h0
        split at e
        · rename_i h1
          simp only [inN, Bool.and_eq_true, decide_eq_true_eq] at h1
          exact ⟨h0, ⟨h1.1.1, by omega⟩, h1.2.1, by omega⟩
        · cases e
      · cases e
    obtain ⟨h, hx2, hy2⟩ := hE
    have hn := isTab_len (isRk_tab h)
    obtain ⟨hl, hc, hC, hxy, hN⟩ := cg_facts h hx2 hy2
    have eT : CgfT r x y = cgI r x y := by unfold CgfT; rw [if_pos e]
    have sim := fun hs hne => sim_one h hx2 hy2 hs hne
    rw [eT] at sc ⊢
    generalize cgI r x y = c at *
    have eI : IcoE r c = 0 := by unfold IcoE; rw [h, hc]; rfl
    have eQ : QuoE r c = 0 := by unfold QuoE; rw [h, hc, dec_t hC]; rfl
    have eV : IcoV r c = true := by unfold IcoV; rw [h, hc, dec_t hC]; rfl
    have qT : QuoT r c = quoT r c := by unfold QuoT; rw [if_pos eQ]
    have rq := isRk_quo h hc hC
    have lq := quo_len h hc hC
    have sq : small2 (QuoT r c) := (fine_Quo r c).1
    have cm := canN_le (partB_can hc)
    have hz : ∀ z_ ∈ c, z_ ≤ 1000000000 := fun z hz => by have := most_lt hz; omega
    have w := wtQ_ok hsb h hc hC qT
    refine ⟨⟨sr, sc⟩, ⟨sr, sc⟩, fun g => absurd eI g, fun _ => ⟨fun g => absurd eQ g, fun _ => ⟨fun g => (by rw [eV] at g; cases g), fun _ => ⟨sq, fun g => (by rw [qT, rq] at g; cases g), fun _ => ⟨⟨sc, hz⟩, fun g => absurd (by rw [qT, lq, hN]) g, fun _ => ⟨⟨hx2.1, by omega⟩, ⟨hy2.1, by omega⟩, fun g => absurd hxy g, fun _ => ⟨fun hs => ⟨fun hne => ⟨⟨sc, hz⟩, fun g => absurd (sim hs hne) g, fun _ => w⟩, fun _ => w⟩, fun _ => w⟩⟩⟩⟩⟩⟩⟩

set_option maxRecDepth 100000 in
set_option maxHeartbeats 4000000 in
theorem w_laws_FnRackQuotients (code : List Int) (Q : Bool → Prop) (h : wp_laws_FnRackQuotients code Q) : AF Try.prog 7 [.lst (bys code)] (fun R_ => ∃ y0, Q y0 ∧ R_ = cb y0) := by
  refine AF.ofWQ (af_enter (n := 206) Try.func7 rfl (by rfl) rfl (Nat.le_of_ble_eq_true rfl) ?_)
  unfold wp_laws_FnRackQuotients at h
  refine aw_seq ?_
  refine aw_gh (gh_to (n := 206) (σ' := []) (env' := [(0, .c (.lst (bys code)))]) rfl rfl ⟨rfl, trivial⟩) ?_
  refine aw_region ?_
  refine run_s (ss_assign rfl) rfl ?_
  refine run_nil ?_
  refine aw_seq ?_
  refine aw_seq ?_
  refine aw_region ?_
  refine run_s (ss_move rfl) rfl ?_
  refine run_w (ws_call (xs := [.tmp 26]) (ids := []) rfl rfl rfl rfl (c_laws_big code) rfl ?_ )
  rintro _ rfl
  refine ⟨rfl, ?_⟩
  refine run_nil ?_
  refine aw_cond rfl (fun q2 => ?_) (fun q2 => ?_)
  · replace h := h.1 (of_decide_eq_true q2)
    refine aw_seq ?_
    refine aw_gh (gh_to (n := 206) (σ' := []) (env' := [(2, .c (cb false))]) rfl rfl ⟨rfl, trivial⟩) ?_
    refine aw_region ?_
    refine run_s (ss_assign rfl) rfl ?_
    refine run_nil ?_
    refine aw_ret ?_
    exact retAF_mk (retv1 rfl (rv_tmp rfl)) rfl rfl ⟨_, (cle_refl _), _, h, rfl⟩
  · replace h := h.2 (of_decide_eq_false q2)
    refine aw_skip ?_
    refine aw_seq ?_
    refine aw_region ?_
    refine run_s (ss_move rfl) rfl ?_
    obtain ⟨q3, h⟩ := h
    refine run_w (ws_call (xs := [.tmp 29]) (ids := [30]) rfl rfl rfl rfl (c_spec_DrawCongruenceFrom code q3) rfl ?_ )
    rintro _ ⟨r1_0, r1_1, r1_2, q4, rfl⟩
    replace h := h r1_0 r1_1 r1_2 q4
    refine ⟨rfl, ?_⟩
    refine run_s (ss_move rfl) rfl ?_
    refine run_s (ss_extract rfl rfl) rfl ?_
    refine run_s (ss_extract rfl rfl) rfl ?_
    refine run_s (ss_extract rfl rfl) rfl ?_
    refine run_w (ws_alloc (id := 3) rfl (Nat.le_of_ble_eq_true rfl) ⟨rfl, ?_⟩)
    refine run_w (ws_storeS rfl rfl (Nat.le_of_ble_eq_true rfl) rfl rfl rfl ⟨rfl, ?_⟩)
    refine run_s (ss_assign rfl) rfl ?_
    refine run_s (ss_assign rfl) rfl ?_
    refine run_nil ?_
    refine aw_gh (gh_to (n := 206) (σ' := [(3, ⟨[.hole], [(0, .ref 30)]⟩), (30, ⟨orows r1_0, []⟩)]) (env' := [(0, .c (.lst (bys code))), (3, .cell 3 0), (4, .c (ci r1_1)), (5, .c (ci r1_2))]) rfl rfl ⟨rfl, rfl, rfl, rfl, trivial⟩) ?_
    refine aw_gh (gh_frzE (id := 30) (fun r => C.lst (ints r)) rfl (fun _ => (fz_own (fz_map (fun _ => rfl) _)))) ?_
    refine aw_gh (gh_fillc (id := 3) (j := 0) rfl rfl (Nat.le_of_ble_eq_true rfl)) ?_
    refine aw_gh (gh_to (n := 206) (σ' := [(3, ⟨[.lst (rows r1_0)], []⟩)]) (env' := [(0, .c (.lst (bys code))), (3, .cell 3 0), (4, .c (ci r1_1)), (5, .c (ci r1_2))]) rfl rfl ⟨rfl, rfl, rfl, rfl, trivial⟩) ?_
    refine aw_seq ?_
    refine aw_region ?_
    refine run_s (ss_loadS rfl rfl rfl rfl) rfl ?_
    refine run_s (ss_move rfl) rfl ?_
    refine run_s (ss_move rfl) rfl ?_
    obtain ⟨q5, h⟩ := h
    refine run_w (ws_call (xs := [.tmp 35, .tmp 36, .tmp 37]) (ids := [38]) rfl rfl rfl rfl (c_impl_CongruenceFrom r1_0 r1_1 r1_2 q5) rfl ?_ )
    rintro _ rfl
    refine ⟨rfl, ?_⟩
    refine run_s (ss_move rfl) rfl ?_
    refine run_s (ss_extract rfl rfl) rfl ?_
    refine run_s (ss_extract rfl rfl) rfl ?_
    refine run_s (ss_assign rfl) rfl ?_
    refine run_s (ss_assign rfl) rfl ?_
    refine run_nil ?_
    refine aw_gh (gh_to (n := 206) (σ' := [(38, ⟨ints (CgfT r1_0 r1_1 r1_2), []⟩), (3, ⟨[.lst (rows r1_0)], []⟩)]) (env' := [(0, .c (.lst (bys code))), (3, .cell 3 0), (4, .c (ci r1_1)), (5, .c (ci r1_2)), (6, .ref 38), (7, .c (ci (CgfE r1_0 r1_1 r1_2)))]) rfl rfl ⟨rfl, rfl, rfl, rfl, rfl, rfl, trivial⟩) ?_
    refine aw_gh (gh_frzE (id := 38) ci rfl (fun _ => rfl)) ?_
    refine aw_gh (gh_to (n := 206) (σ' := [(3, ⟨[.lst (rows r1_0)], []⟩)]) (env' := [(0, .c (.lst (bys code))), (3, .cell 3 0), (4, .c (ci r1_1)), (5, .c (ci r1_2)), (6, .c (.lst (ints (CgfT r1_0 r1_1 r1_2)))), (7, .c (ci (CgfE r1_0 r1_1 r1_2)))]) rfl rfl ⟨rfl, rfl, rfl, rfl, rfl, rfl, trivial⟩) ?_
    refine aw_seq ?_
    refine aw_seq ?_
    refine aw_region ?_
    refine run_s (ss_loadS rfl rfl rfl rfl) rfl ?_
    refine run_s (ss_move rfl) rfl ?_
    refine run_s (ss_move rfl) rfl ?_
    obtain ⟨q7, h⟩ := h
    refine run_w (ws_call (xs := [.tmp 42, .tmp 43, .tmp 44]) (ids := [45]) rfl rfl rfl rfl (c_spec_CongruenceFrom r1_0 r1_1 r1_2 q7) rfl ?_ )
    rintro _ rfl
    refine ⟨rfl, ?_⟩
    refine run_s (ss_move rfl) rfl ?_
    refine run_s (ss_extract rfl rfl) rfl ?_
    refine run_s (ss_extract rfl rfl) rfl ?_
    refine run_s (ss_assign rfl) rfl ?_
    refine run_s (ss_assign rfl) rfl ?_
    refine run_nil ?_
    refine aw_gh (gh_to (n := 206) (σ' := [(45, ⟨ints (CgfT r1_0 r1_1 r1_2), []⟩), (3, ⟨[.lst (rows r1_0)], []⟩)]) (env' := [(0, .c (.lst (bys code))), (3, .cell 3 0), (4, .c (ci r1_1)), (5, .c (ci r1_2)), (6, .c (.lst (ints (CgfT r1_0 r1_1 r1_2)))), (7, .c (ci (CgfE r1_0 r1_1 r1_2))), (8, .ref 45), (9, .c (ci (CgfE r1_0 r1_1 r1_2)))]) rfl rfl ⟨rfl, rfl, rfl, rfl, rfl, rfl, rfl, rfl, trivial⟩) ?_
    refine aw_gh (gh_frzE (id := 45) ci rfl (fun _ => rfl)) ?_
    refine aw_gh (gh_to (n := 206) (σ' := [(3, ⟨[.lst (rows r1_0)], []⟩)]) (env' := [(0, .c (.lst (bys code))), (3, .cell 3 0), (4, .c (ci r1_1)), (5, .c (ci r1_2)), (6, .c (.lst (ints (CgfT r1_0 r1_1 r1_2)))), (7, .c (ci (CgfE r1_0 r1_1 r1_2))), (8, .c (.lst (ints (CgfT r1_0 r1_1 r1_2)))), (9, .c (ci (CgfE r1_0 r1_1 r1_2)))]) rfl rfl ⟨rfl, rfl, rfl, rfl, rfl, rfl, rfl, rfl, trivial⟩) ?_
    refine aw_seq ?_
    refine aw_region ?_
    refine run_s (ss_move rfl) rfl ?_
    refine run_s (ss_move rfl) rfl ?_
    refine run_s (ss_neq rfl rfl) rfl ?_
    refine run_s (ss_move rfl) rfl ?_
    refine run_split (s := 51) rfl (fun q9 => ?_) (fun q9 => ?_)
    · replace h := h.1 (of_decide_eq_false (bnot_t q9))
      refine run_gf rfl rfl q9 rfl ?_
      refine run_gf rfl rfl q9 rfl ?_
      refine run_gf rfl rfl q9 rfl ?_
      refine run_gf rfl rfl q9 rfl ?_
      refine run_s (ss_pickT rfl q9 rfl) rfl ?_
      refine run_nil ?_
      refine aw_cond rfl (fun q10 => ?_) (fun q10 => ?_)
      · skip
        refine aw_seq ?_
        refine aw_gh (gh_to (n := 206) (σ' := [(3, ⟨[.lst (rows r1_0)], []⟩)]) (env' := []) rfl rfl trivial) ?_
        refine aw_region ?_
        refine run_s (ss_assign rfl) rfl ?_
        refine run_nil ?_
        refine aw_ret ?_
        exact retAF_mk (retv1 rfl (rv_tmp rfl)) rfl rfl ⟨_, (cle_refl _), _, h, rfl⟩
      · cases q10
    · replace h := h.2 (of_decide_eq_true (bnot_f q9))
      refine run_gt rfl rfl q9 ?_
      refine run_s (ss_move rfl) rfl ?_
      refine run_gt rfl rfl q9 ?_
      refine run_s (ss_move rfl) rfl ?_
      refine run_gt rfl rfl q9 ?_
      obtain ⟨q11, h⟩ := h
      refine run_w (ws_call (xs := [.tmp 52, .tmp 53]) (ids := []) rfl rfl rfl rfl (c_laws_likeInts (CgfT r1_0 r1_1 r1_2) (CgfT r1_0 r1_1 r1_2) q11) rfl ?_ )
      rintro _ rfl
      refine ⟨rfl, ?_⟩
      refine run_gt rfl rfl q9 ?_
      refine run_s (ss_not rfl) rfl ?_
      refine run_s (ss_pickF rfl q9 rfl) rfl ?_
      refine run_nil ?_
      refine aw_cond rfl (fun q13 => ?_) (fun q13 => ?_)
      · replace h := h.1 (of_decide_eq_false (bnot_t q13))
        refine aw_seq ?_
        refine aw_gh (gh_to (n := 206) (σ' := [(3, ⟨[.lst (rows r1_0)], []⟩)]) (env' := []) rfl rfl trivial) ?_
        refine aw_region ?_
        refine run_s (ss_assign rfl) rfl ?_
        refine run_nil ?_
        refine aw_ret ?_
        exact retAF_mk (retv1 rfl (rv_tmp rfl)) rfl rfl ⟨_, (cle_refl _), _, h, rfl⟩
      · replace h := h.2 (of_decide_eq_true (bnot_f q13))
        refine aw_skip ?_
        refine aw_seq ?_
        refine aw_region ?_
        refine run_s (ss_loadS rfl rfl rfl rfl) rfl ?_
        obtain ⟨q14, h⟩ := h
        refine run_w (ws_call (xs := [.tmp 58]) (ids := []) rfl rfl rfl rfl (c_impl_IsSimpleRack r1_0 q14) rfl ?_ )
        rintro _ rfl
        refine ⟨rfl, ?_⟩
        refine run_s (ss_move rfl) rfl ?_
        refine run_s (ss_extract rfl rfl) rfl ?_
        refine run_s (ss_extract rfl rfl) rfl ?_
        refine run_s (ss_assign rfl) rfl ?_
        refine run_s (ss_assign rfl) rfl ?_
        refine run_nil ?_
        refine aw_seq ?_
        refine aw_seq ?_
        refine aw_region ?_
        refine run_s (ss_loadS rfl rfl rfl rfl) rfl ?_
        obtain ⟨q16, h⟩ := h
        refine run_w (ws_call (xs := [.tmp 63]) (ids := []) rfl rfl rfl rfl (c_spec_IsSimpleRack r1_0 q16) rfl ?_ )
        rintro _ rfl
        refine ⟨rfl, ?_⟩
        refine run_s (ss_move rfl) rfl ?_
        refine run_s (ss_extract rfl rfl) rfl ?_
        refine run_s (ss_extract rfl rfl) rfl ?_
        refine run_s (ss_assign rfl) rfl ?_
        refine run_s (ss_assign rfl) rfl ?_
        refine run_nil ?_
        refine aw_seq ?_
        refine aw_region ?_
        refine run_s (ss_move rfl) rfl ?_
        refine run_s (ss_move rfl) rfl ?_
        refine run_s (ss_neq rfl rfl) rfl ?_
        refine run_s (ss_move rfl) rfl ?_
        refine run_split (s := 70) rfl (fun q18 => ?_) (fun q18 => ?_)
        · replace h := h.1 (of_decide_eq_false (bnot_t q18))
          refine run_gf rfl rfl q18 rfl ?_
          refine run_gf rfl rfl q18 rfl ?_
          refine run_gf rfl rfl q18 rfl ?_
          refine run_s (ss_pickT rfl q18 rfl) rfl ?_
          refine run_nil ?_
          refine aw_cond rfl (fun q19 => ?_) (fun q19 => ?_)
          · skip
            refine aw_seq ?_
            refine aw_gh (gh_to (n := 206) (σ' := [(3, ⟨[.lst (rows r1_0)], []⟩)]) (env' := []) rfl rfl trivial) ?_
            refine aw_region ?_
            refine run_s (ss_assign rfl) rfl ?_
            refine run_nil ?_
            refine aw_ret ?_
            exact retAF_mk (retv1 rfl (rv_tmp rfl)) rfl rfl ⟨_, (cle_refl _), _, h, rfl⟩
          · cases q19
        · replace h := h.2 (of_decide_eq_true (bnot_f q18))
          refine run_gt rfl rfl q18 ?_
          refine run_s (ss_move rfl) rfl ?_
          refine run_gt rfl rfl q18 ?_
          refine run_s (ss_move rfl) rfl ?_
          refine run_gt rfl rfl q18 ?_
          refine run_s (ss_neqB rfl rfl) rfl ?_
          refine run_s (ss_pickF rfl q18 rfl) rfl ?_
          refine run_nil ?_
          refine aw_cond rfl (fun q20 => ?_) (fun q20 => ?_)
          · replace h := h.1 ((bnot_t q20))
            refine aw_seq ?_
            refine aw_gh (gh_to (n := 206) (σ' := [(3, ⟨[.lst (rows r1_0)], []⟩)]) (env' := []) rfl rfl trivial) ?_
            refine aw_region ?_
            refine run_s (ss_assign rfl) rfl ?_
            refine run_nil ?_
            refine aw_ret ?_
            exact retAF_mk (retv1 rfl (rv_tmp rfl)) rfl rfl ⟨_, (cle_refl _), _, h, rfl⟩
          · replace h := h.2 ((bnot_f q20))
            refine aw_skip ?_
            refine aw_seq ?_
            refine aw_seq ?_
            refine aw_region ?_
            refine run_s (ss_move rfl) rfl ?_
            refine run_s (ss_neq rfl rfl) rfl ?_
            refine run_nil ?_
            refine aw_cond rfl (fun q21 => ?_) (fun q21 => ?_)
            · replace h := h.1 (of_decide_eq_false (bnot_t q21))
              refine aw_seq ?_
              refine aw_gh (gh_to (n := 206) (σ' := [(3, ⟨[.lst (rows r1_0)], []⟩)]) (env' := [(6, .c (.lst (ints (CgfT r1_0 r1_1 r1_2))))]) rfl rfl ⟨rfl, trivial⟩) ?_
              refine aw_region ?_
              refine run_s (ss_move rfl) rfl ?_
              refine run_s (ss_lenL (f := ci) rfl) rfl ?_
              refine run_s (ss_eql rfl rfl) rfl ?_
              refine run_s (ss_assign rfl) rfl ?_
              refine run_nil ?_
              refine aw_ret ?_
              exact retAF_mk (retv1 rfl (rv_tmp rfl)) rfl rfl ⟨_, (cle_refl _), _, h, rfl⟩
            · replace h := h.2 (of_decide_eq_true (bnot_f q21))
              refine aw_skip ?_
              refine aw_seq ?_
              refine aw_region ?_
              refine run_s (ss_loadS rfl rfl rfl rfl) rfl ?_
              refine run_s (ss_move rfl) rfl ?_
              obtain ⟨q22, h⟩ := h
              refine run_w (ws_call (xs := [.tmp 81, .tmp 82]) (ids := []) rfl rfl rfl rfl (c_impl_IsCongruence r1_0 (CgfT r1_0 r1_1 r1_2) q22) rfl ?_ )
              rintro _ rfl
              refine ⟨rfl, ?_⟩
              refine run_s (ss_move rfl) rfl ?_
              refine run_s (ss_extract rfl rfl) rfl ?_
              refine run_s (ss_extract rfl rfl) rfl ?_
              refine run_s (ss_assign rfl) rfl ?_
              refine run_s (ss_assign rfl) rfl ?_
              refine run_nil ?_
              refine aw_seq ?_
              refine aw_region ?_
              refine run_s (ss_loadS rfl rfl rfl rfl) rfl ?_
              refine run_s (ss_move rfl) rfl ?_
              obtain ⟨q24, h⟩ := h
              refine run_w (ws_call (xs := [.tmp 87, .tmp 88]) (ids := [89]) rfl rfl rfl rfl (c_impl_QuotientRack r1_0 (CgfT r1_0 r1_1 r1_2) q24) rfl ?_ )
              rintro _ rfl
              refine ⟨rfl, ?_⟩
              refine run_s (ss_move rfl) rfl ?_
              refine run_s (ss_extract rfl rfl) rfl ?_
              refine run_s (ss_extract rfl rfl) rfl ?_
              refine run_w (ws_alloc (id := 16) rfl (Nat.le_of_ble_eq_true rfl) ⟨rfl, ?_⟩)
              refine run_w (ws_storeS rfl rfl (Nat.le_of_ble_eq_true rfl) rfl rfl rfl ⟨rfl, ?_⟩)
              refine run_s (ss_assign rfl) rfl ?_
              refine run_nil ?_
              refine aw_gh (gh_to (n := 206) (σ' := [(16, ⟨[.hole], [(0, .ref 89)]⟩), (89, ⟨orows (QuoT r1_0 (CgfT r1_0 r1_1 r1_2)), []⟩), (3, ⟨[.lst (rows r1_0)], []⟩)]) (env' := [(0, .c (.lst (bys code))), (3, .cell 3 0), (4, .c (ci r1_1)), (5, .c (ci r1_2)), (6, .c (.lst (ints (CgfT r1_0 r1_1 r1_2)))), (10, .c (cb (SimB r1_0))), (14, .c (cb (IcoV r1_0 (CgfT r1_0 r1_1 r1_2)))), (15, .c (ci (IcoE r1_0 (CgfT r1_0 r1_1 r1_2)))), (16, .cell 16 0), (17, .c (ci (QuoE r1_0 (CgfT r1_0 r1_1 r1_2))))]) rfl rfl ⟨rfl, rfl, rfl, rfl, rfl, rfl, rfl, rfl, rfl, rfl, trivial⟩) ?_
              refine aw_gh (gh_frzE (id := 89) (fun r => C.lst (ints r)) rfl (fun _ => (fz_own (fz_map (fun _ => rfl) _)))) ?_
              refine aw_gh (gh_fillc (id := 16) (j := 0) rfl rfl (Nat.le_of_ble_eq_true rfl)) ?_
              refine aw_gh (gh_to (n := 206) (σ' := [(16, ⟨[.lst (rows (QuoT r1_0 (CgfT r1_0 r1_1 r1_2)))], []⟩), (3, ⟨[.lst (rows r1_0)], []⟩)]) (env' := [(0, .c (.lst (bys code))), (3, .cell 3 0), (4, .c (ci r1_1)), (5, .c (ci r1_2)), (6, .c (.lst (ints (CgfT r1_0 r1_1 r1_2)))), (10, .c (cb (SimB r1_0))), (14, .c (cb (IcoV r1_0 (CgfT r1_0 r1_1 r1_2)))), (15, .c (ci (IcoE r1_0 (CgfT r1_0 r1_1 r1_2)))), (16, .cell 16 0), (17, .c (ci (QuoE r1_0 (CgfT r1_0 r1_1 r1_2))))]) rfl rfl ⟨rfl, rfl, rfl, rfl, rfl, rfl, rfl, rfl, rfl, rfl, trivial⟩) ?_
              refine aw_seq ?_
              refine aw_seq ?_
              refine aw_gh (gh_to (n := 206) (σ' := [(16, ⟨[.lst (rows (QuoT r1_0 (CgfT r1_0 r1_1 r1_2)))], []⟩), (3, ⟨[.lst (rows r1_0)], []⟩)]) (env' := [(0, .c (.lst (bys code))), (3, .cell 3 0), (4, .c (ci r1_1)), (5, .c (ci r1_2)), (6, .c (.lst (ints (CgfT r1_0 r1_1 r1_2)))), (10, .c (cb (SimB r1_0))), (14, .c (cb (IcoV r1_0 (CgfT r1_0 r1_1 r1_2)))), (15, .c (ci (IcoE r1_0 (CgfT r1_0 r1_1 r1_2)))), (16, .cell 16 0), (17, .c (ci (QuoE r1_0 (CgfT r1_0 r1_1 r1_2))))]) rfl rfl ⟨rfl, rfl, rfl, rfl, rfl, rfl, rfl, rfl, rfl, rfl, trivial⟩) ?_
              refine aw_regionD (kd := kdl [0, 0, 0, 0, 0, 0, 0, 0, 0, 0, 0, 1, 2, 0, 0, 0, 0, 1, 0, 0, 2, 0, 0, 0, 0, 0, 0, 1, 0, 0, 0, 1, 0, 0, 0, 0, 0, 0, 0, 0, 0, 0, 0, 2, 0, 0, 0]) (ord := [0, 1, 2, 3, 4, 5, 6, 7, 8, 9, 10, 11, 12, 13, 14, 15, 16, 19, 17, 18, 20, 21, 22, 23, 24, 25, 26, 28, 29, 30, 27, 31, 32, 33, 34, 35, 36, 37, 38, 39, 40, 41, 42, 43, 44, 45, 46]) [] mixed (by kernel_rfl) ?_
              refine rd_s rfl rfl trivial (ss_move rfl) rfl ?_
              refine rd_s rfl rfl trivial (ss_neq rfl rfl) rfl ?_
              refine rd_s rfl rfl trivial (ss_move rfl) rfl ?_
              refine rd_split (s := 94) rfl (fun q26 => ?_) (fun q26 => ?_)
              · replace h := h.1 (of_decide_eq_false (bnot_t q26))
                refine rd_no rfl rfl rfl q26 rfl ?_
                refine rd_no rfl rfl rfl q26 rfl ?_
                refine rd_s rfl rfl trivial (ss_pickT rfl q26 rfl) rfl ?_
                refine rd_s rfl rfl trivial (ss_move rfl) rfl ?_
                refine rd_split (s := 98) rfl (fun q27 => ?_) (fun q27 => ?_)
                · skip
                  refine rd_no rfl rfl rfl q27 rfl ?_
                  refine rd_no rfl rfl rfl q27 rfl ?_
                  refine rd_s rfl rfl trivial (ss_pickT rfl q27 rfl) rfl ?_
                  refine rd_s rfl rfl trivial (ss_move rfl) rfl ?_
                  refine rd_split (s := 102) rfl (fun q28 => ?_) (fun q28 => ?_)
                  · skip
                    refine rd_no rfl rfl rfl q28 rfl ?_
                    refine rd_no rfl rfl rfl q28 rfl ?_
                    refine rd_no rfl rfl rfl q28 rfl ?_
                    refine rd_s rfl rfl trivial (ss_pickT rfl q28 rfl) rfl ?_
                    refine rd_s rfl rfl trivial (ss_move rfl) rfl ?_
                    refine rd_split (s := 107) rfl (fun q29 => ?_) (fun q29 => ?_)
                    · skip
                      refine rd_no rfl rfl rfl q29 rfl ?_
                      refine rd_no rfl rfl rfl q29 rfl ?_
                      refine rd_no rfl rfl rfl q29 rfl ?_
                      refine rd_no rfl rfl rfl q29 rfl ?_
                      refine rd_no rfl rfl rfl q29 rfl ?_
                      refine rd_no rfl rfl rfl q29 rfl ?_
                      refine rd_s rfl rfl trivial (ss_pickT rfl q29 rfl) rfl ?_
                      refine rd_s rfl rfl trivial (ss_move rfl) rfl ?_
                      refine rd_split (s := 115) rfl (fun q30 => ?_) (fun q30 => ?_)
                      · skip
                        refine rd_no rfl rfl rfl q30 rfl ?_
                        refine rd_no rfl rfl rfl q30 rfl ?_
                        refine rd_no rfl rfl rfl q30 rfl ?_
                        refine rd_no rfl rfl rfl q30 rfl ?_
                        refine rd_no rfl rfl rfl q30 rfl ?_
                        refine rd_no rfl rfl rfl q30 rfl ?_
                        refine rd_no rfl rfl rfl q30 rfl ?_
                        refine rd_no rfl rfl rfl q30 rfl ?_
                        refine rd_no rfl rfl rfl q30 rfl ?_
                        refine rd_s rfl rfl trivial (ss_pickT rfl q30 rfl) rfl ?_
                        refine rd_s rfl rfl trivial (ss_move rfl) rfl ?_
                        refine rd_split (s := 126) rfl (fun q31 => ?_) (fun q31 => ?_)
                        · skip
                          refine rd_no rfl rfl rfl q31 rfl ?_
                          refine rd_nou rfl rfl rfl q31 rfl ?_
                          refine rd_nu rfl rfl rfl rfl ?_
                          refine rd_nu rfl rfl rfl rfl ?_
                          refine rd_nu rfl rfl rfl rfl ?_
                          refine rd_no rfl rfl rfl q31 rfl ?_
                          refine rd_nou rfl rfl rfl q31 rfl ?_
                          refine rd_nu rfl rfl rfl rfl ?_
                          refine rd_nu rfl rfl rfl rfl ?_
                          refine rd_nu rfl rfl rfl rfl ?_
                          refine rd_no rfl rfl rfl q31 rfl ?_
                          refine rd_s rfl rfl trivial (ss_pickT rfl q31 rfl) rfl ?_
                          refine rd_nil ?_
                          refine aw_cond rfl (fun q32 => ?_) (fun q32 => ?_)
                          · skip
                            refine aw_seq ?_
                            refine aw_gh (gh_to (n := 206) (σ' := [(16, ⟨[.lst (rows (QuoT r1_0 (CgfT r1_0 r1_1 r1_2)))], []⟩), (3, ⟨[.lst (rows r1_0)], []⟩)]) (env' := []) rfl rfl trivial) ?_
                            refine aw_region ?_
                            refine run_s (ss_assign rfl) rfl ?_
                            refine run_nil ?_
                            refine aw_ret ?_
                            exact retAF_mk (retv1 rfl (rv_tmp rfl)) rfl rfl ⟨_, (cle_refl _), _, h, rfl⟩
                          · cases q32
                        · cases q31
                      · cases q30
                    · cases q29
                  · cases q28
                · cases q27
              · replace h := h.2 (of_decide_eq_true (bnot_f q26))
                refine rd_s rfl rfl ⟨_, _, rfl, rfl, q26⟩ (ss_move rfl) rfl ?_
                refine rd_s rfl rfl ⟨_, _, rfl, rfl, q26⟩ (ss_neq rfl rfl) rfl ?_
                refine rd_s rfl rfl trivial (ss_pickF rfl q26 rfl) rfl ?_
                refine rd_s rfl rfl trivial (ss_move rfl) rfl ?_
                refine rd_split (s := 98) rfl (fun q33 => ?_) (fun q33 => ?_)
                · replace h := h.1 (of_decide_eq_false (bnot_t q33))
                  refine rd_no rfl rfl rfl q33 rfl ?_
                  refine rd_no rfl rfl rfl q33 rfl ?_
                  refine rd_s rfl rfl trivial (ss_pickT rfl q33 rfl) rfl ?_
                  refine rd_s rfl rfl trivial (ss_move rfl) rfl ?_
                  refine rd_split (s := 102) rfl (fun q34 => ?_) (fun q34 => ?_)
                  · skip
                    refine rd_no rfl rfl rfl q34 rfl ?_
                    refine rd_no rfl rfl rfl q34 rfl ?_
                    refine rd_no rfl rfl rfl q34 rfl ?_
                    refine rd_s rfl rfl trivial (ss_pickT rfl q34 rfl) rfl ?_
                    refine rd_s rfl rfl trivial (ss_move rfl) rfl ?_
                    refine rd_split (s := 107) rfl (fun q35 => ?_) (fun q35 => ?_)
                    · skip
                      refine rd_no rfl rfl rfl q35 rfl ?_
                      refine rd_no rfl rfl rfl q35 rfl ?_
                      refine rd_no rfl rfl rfl q35 rfl ?_
                      refine rd_no rfl rfl rfl q35 rfl ?_
                      refine rd_no rfl rfl rfl q35 rfl ?_
                      refine rd_no rfl rfl rfl q35 rfl ?_
                      refine rd_s rfl rfl trivial (ss_pickT rfl q35 rfl) rfl ?_
                      refine rd_s rfl rfl trivial (ss_move rfl) rfl ?_
                      refine rd_split (s := 115) rfl (fun q36 => ?_) (fun q36 => ?_)
                      · skip
                        refine rd_no rfl rfl rfl q36 rfl ?_
                        refine rd_no rfl rfl rfl q36 rfl ?_
                        refine rd_no rfl rfl rfl q36 rfl ?_
                        refine rd_no rfl rfl rfl q36 rfl ?_
                        refine rd_no rfl rfl rfl q36 rfl ?_
                        refine rd_no rfl rfl rfl q36 rfl ?_
                        refine rd_no rfl rfl rfl q36 rfl ?_
                        refine rd_no rfl rfl rfl q36 rfl ?_
                        refine rd_no rfl rfl rfl q36 rfl ?_
                        refine rd_s rfl rfl trivial (ss_pickT rfl q36 rfl) rfl ?_
                        refine rd_s rfl rfl trivial (ss_move rfl) rfl ?_
                        refine rd_split (s := 126) rfl (fun q37 => ?_) (fun q37 => ?_)
                        · skip
                          refine rd_no rfl rfl rfl q37 rfl ?_
                          refine rd_nou rfl rfl rfl q37 rfl ?_
                          refine rd_nu rfl rfl rfl rfl ?_
                          refine rd_nu rfl rfl rfl rfl ?_
                          refine rd_nu rfl rfl rfl rfl ?_
                          refine rd_no rfl rfl rfl q37 rfl ?_
                          refine rd_nou rfl rfl rfl q37 rfl ?_
                          refine rd_nu rfl rfl rfl rfl ?_
                          refine rd_nu rfl rfl rfl rfl ?_
                          refine rd_nu rfl rfl rfl rfl ?_
                          refine rd_no rfl rfl rfl q37 rfl ?_
                          refine rd_s rfl rfl trivial (ss_pickT rfl q37 rfl) rfl ?_
                          refine rd_nil ?_
                          refine aw_cond rfl (fun q38 => ?_) (fun q38 => ?_)
                          · skip
                            refine aw_seq ?_
                            refine aw_gh (gh_to (n := 206) (σ' := [(16, ⟨[.lst (rows (QuoT r1_0 (CgfT r1_0 r1_1 r1_2)))], []⟩), (3, ⟨[.lst (rows r1_0)], []⟩)]) (env' := []) rfl rfl trivial) ?_
                            refine aw_region ?_
                            refine run_s (ss_assign rfl) rfl ?_
                            refine run_nil ?_
                            refine aw_ret ?_
                            exact retAF_mk (retv1 rfl (rv_tmp rfl)) rfl rfl ⟨_, (cle_refl _), _, h, rfl⟩
                          · cases q38
                        · cases q37
                      · cases q36
                    · cases q35
                  · cases q34
                · replace h := h.2 (of_decide_eq_true (bnot_f q33))
                  refine rd_s rfl rfl ⟨_, _, rfl, rfl, q33⟩ (ss_move rfl) rfl ?_
                  refine rd_s rfl rfl ⟨_, _, rfl, rfl, q33⟩ (ss_not rfl) rfl ?_
                  refine rd_s rfl rfl trivial (ss_pickF rfl q33 rfl) rfl ?_
                  refine rd_s rfl rfl trivial (ss_move rfl) rfl ?_
                  refine rd_split (s := 102) rfl (fun q39 => ?_) (fun q39 => ?_)
                  · replace h := h.1 ((bnot_t q39))
                    refine rd_no rfl rfl rfl q39 rfl ?_
                    refine rd_no rfl rfl rfl q39 rfl ?_
                    refine rd_no rfl rfl rfl q39 rfl ?_
                    refine rd_s rfl rfl trivial (ss_pickT rfl q39 rfl) rfl ?_
                    refine rd_s rfl rfl trivial (ss_move rfl) rfl ?_
                    refine rd_split (s := 107) rfl (fun q40 => ?_) (fun q40 => ?_)
                    · skip
                      refine rd_no rfl rfl rfl q40 rfl ?_
                      refine rd_no rfl rfl rfl q40 rfl ?_
                      refine rd_no rfl rfl rfl q40 rfl ?_
                      refine rd_no rfl rfl rfl q40 rfl ?_
                      refine rd_no rfl rfl rfl q40 rfl ?_
                      refine rd_no rfl rfl rfl q40 rfl ?_
                      refine rd_s rfl rfl trivial (ss_pickT rfl q40 rfl) rfl ?_
                      refine rd_s rfl rfl trivial (ss_move rfl) rfl ?_
                      refine rd_split (s := 115) rfl (fun q41 => ?_) (fun q41 => ?_)
                      · skip
                        refine rd_no rfl rfl rfl q41 rfl ?_
                        refine rd_no rfl rfl rfl q41 rfl ?_
                        refine rd_no rfl rfl rfl q41 rfl ?_
                        refine rd_no rfl rfl rfl q41 rfl ?_
                        refine rd_no rfl rfl rfl q41 rfl ?_
                        refine rd_no rfl rfl rfl q41 rfl ?_
                        refine rd_no rfl rfl rfl q41 rfl ?_
                        refine rd_no rfl rfl rfl q41 rfl ?_
                        refine rd_no rfl rfl rfl q41 rfl ?_
                        refine rd_s rfl rfl trivial (ss_pickT rfl q41 rfl) rfl ?_
                        refine rd_s rfl rfl trivial (ss_move rfl) rfl ?_
                        refine rd_split (s := 126) rfl (fun q42 => ?_) (fun q42 => ?_)
                        · skip
                          refine rd_no rfl rfl rfl q42 rfl ?_
                          refine rd_nou rfl rfl rfl q42 rfl ?_
                          refine rd_nu rfl rfl rfl rfl ?_
                          refine rd_nu rfl rfl rfl rfl ?_
                          refine rd_nu rfl rfl rfl rfl ?_
                          refine rd_no rfl rfl rfl q42 rfl ?_
                          refine rd_nou rfl rfl rfl q42 rfl ?_
                          refine rd_nu rfl rfl rfl rfl ?_
                          refine rd_nu rfl rfl rfl rfl ?_
                          refine rd_nu rfl rfl rfl rfl ?_
                          refine rd_no rfl rfl rfl q42 rfl ?_
                          refine rd_s rfl rfl trivial (ss_pickT rfl q42 rfl) rfl ?_
                          refine rd_nil ?_
                          refine aw_cond rfl (fun q43 => ?_) (fun q43 => ?_)
                          · skip
                            refine aw_seq ?_
                            refine aw_gh (gh_to (n := 206) (σ' := [(16, ⟨[.lst (rows (QuoT r1_0 (CgfT r1_0 r1_1 r1_2)))], []⟩), (3, ⟨[.lst (rows r1_0)], []⟩)]) (env' := []) rfl rfl trivial) ?_
                            refine aw_region ?_
                            refine run_s (ss_assign rfl) rfl ?_
                            refine run_nil ?_
                            refine aw_ret ?_
                            exact retAF_mk (retv1 rfl (rv_tmp rfl)) rfl rfl ⟨_, (cle_refl _), _, h, rfl⟩
                          · cases q43
                        · cases q42
                      · cases q41
                    · cases q40
                  · replace h := h.2 ((bnot_f q39))
                    refine rd_l rfl rfl ⟨_, _, rfl, rfl, q39⟩ (ss_loadS rfl rfl rfl rfl) rfl ?_
                    obtain ⟨q44, h⟩ := h
                    refine rd_w rfl rfl ⟨_, _, rfl, rfl, q39⟩ rfl rfl (ws_call (xs := [.tmp 103]) (ids := []) rfl rfl rfl rfl (c_impl_IsRack (QuoT r1_0 (CgfT r1_0 r1_1 r1_2)) q44) rfl ?_ )
                    rintro _ rfl
                    refine ⟨rfl, ?_⟩
                    refine rd_s rfl rfl ⟨_, _, rfl, rfl, q39⟩ (ss_not rfl) rfl ?_
                    refine rd_s rfl rfl trivial (ss_pickF rfl q39 rfl) rfl ?_
                    refine rd_s rfl rfl trivial (ss_move rfl) rfl ?_
                    refine rd_split (s := 107) rfl (fun q46 => ?_) (fun q46 => ?_)
                    · replace h := h.1 ((bnot_t q46))
                      refine rd_no rfl rfl rfl q46 rfl ?_
                      refine rd_no rfl rfl rfl q46 rfl ?_
                      refine rd_no rfl rfl rfl q46 rfl ?_
                      refine rd_no rfl rfl rfl q46 rfl ?_
                      refine rd_no rfl rfl rfl q46 rfl ?_
                      refine rd_no rfl rfl rfl q46 rfl ?_
                      refine rd_s rfl rfl trivial (ss_pickT rfl q46 rfl) rfl ?_
                      refine rd_s rfl rfl trivial (ss_move rfl) rfl ?_
                      refine rd_split (s := 115) rfl (fun q47 => ?_) (fun q47 => ?_)
                      · skip
                        refine rd_no rfl rfl rfl q47 rfl ?_
                        refine rd_no rfl rfl rfl q47 rfl ?_
                        refine rd_no rfl rfl rfl q47 rfl ?_
                        refine rd_no rfl rfl rfl q47 rfl ?_
                        refine rd_no rfl rfl rfl q47 rfl ?_
                        refine rd_no rfl rfl rfl q47 rfl ?_
                        refine rd_no rfl rfl rfl q47 rfl ?_
                        refine rd_no rfl rfl rfl q47 rfl ?_
                        refine rd_no rfl rfl rfl q47 rfl ?_
                        refine rd_s rfl rfl trivial (ss_pickT rfl q47 rfl) rfl ?_
                        refine rd_s rfl rfl trivial (ss_move rfl) rfl ?_
                        refine rd_split (s := 126) rfl (fun q48 => ?_) (fun q48 => ?_)
                        · skip
                          refine rd_no rfl rfl rfl q48 rfl ?_
                          refine rd_nou rfl rfl rfl q48 rfl ?_
                          refine rd_nu rfl rfl rfl rfl ?_
                          refine rd_nu rfl rfl rfl rfl ?_
                          refine rd_nu rfl rfl rfl rfl ?_
                          refine rd_no rfl rfl rfl q48 rfl ?_
                          refine rd_nou rfl rfl rfl q48 rfl ?_
                          refine rd_nu rfl rfl rfl rfl ?_
                          refine rd_nu rfl rfl rfl rfl ?_
                          refine rd_nu rfl rfl rfl rfl ?_
                          refine rd_no rfl rfl rfl q48 rfl ?_
                          refine rd_s rfl rfl trivial (ss_pickT rfl q48 rfl) rfl ?_
                          refine rd_nil ?_
                          refine aw_cond rfl (fun q49 => ?_) (fun q49 => ?_)
                          · skip
                            refine aw_seq ?_
                            refine aw_gh (gh_to (n := 206) (σ' := [(16, ⟨[.lst (rows (QuoT r1_0 (CgfT r1_0 r1_1 r1_2)))], []⟩), (3, ⟨[.lst (rows r1_0)], []⟩)]) (env' := []) rfl rfl trivial) ?_
                            refine aw_region ?_
                            refine run_s (ss_assign rfl) rfl ?_
                            refine run_nil ?_
                            refine aw_ret ?_
                            exact retAF_mk (retv1 rfl (rv_tmp rfl)) rfl rfl ⟨_, (cle_refl _), _, h, rfl⟩
                          · cases q49
                        · cases q48
                      · cases q47
                    · replace h := h.2 ((bnot_f q46))
                      refine rd_s rfl rfl ⟨_, _, rfl, rfl, q46⟩ (ss_field_cell rfl) rfl ?_
                      refine rd_s rfl rfl ⟨_, _, rfl, rfl, q46⟩ (ss_move rfl) rfl ?_
                      refine rd_l rfl rfl ⟨_, _, rfl, rfl, q46⟩ (ss_loadC rfl rfl rfl rfl rfl) rfl ?_
                      refine rd_s rfl rfl ⟨_, _, rfl, rfl, q46⟩ (ss_lenL (f := (fun r => C.lst (ints r))) rfl) rfl ?_
                      obtain ⟨q50, h⟩ := h
                      refine rd_w rfl rfl ⟨_, _, rfl, rfl, q46⟩ rfl rfl (ws_call (xs := [.tmp 111]) (ids := []) rfl rfl rfl rfl (c_laws_most9 (CgfT r1_0 r1_1 r1_2) q50) rfl ?_ )
                      rintro _ rfl
                      refine ⟨rfl, ?_⟩
                      refine rd_s rfl rfl ⟨_, _, rfl, rfl, q46⟩ (ss_neq rfl rfl) rfl ?_
                      refine rd_s rfl rfl trivial (ss_pickF rfl q46 rfl) rfl ?_
                      refine rd_s rfl rfl trivial (ss_move rfl) rfl ?_
                      refine rd_split (s := 115) rfl (fun q52 => ?_) (fun q52 => ?_)
                      · replace h := h.1 (of_decide_eq_false (bnot_t q52))
                        refine rd_no rfl rfl rfl q52 rfl ?_
                        refine rd_no rfl rfl rfl q52 rfl ?_
                        refine rd_no rfl rfl rfl q52 rfl ?_
                        refine rd_no rfl rfl rfl q52 rfl ?_
                        refine rd_no rfl rfl rfl q52 rfl ?_
                        refine rd_no rfl rfl rfl q52 rfl ?_
                        refine rd_no rfl rfl rfl q52 rfl ?_
                        refine rd_no rfl rfl rfl q52 rfl ?_
                        refine rd_no rfl rfl rfl q52 rfl ?_
                        refine rd_s rfl rfl trivial (ss_pickT rfl q52 rfl) rfl ?_
                        refine rd_s rfl rfl trivial (ss_move rfl) rfl ?_
                        refine rd_split (s := 126) rfl (fun q53 => ?_) (fun q53 => ?_)
                        · skip
                          refine rd_no rfl rfl rfl q53 rfl ?_
                          refine rd_nou rfl rfl rfl q53 rfl ?_
                          refine rd_nu rfl rfl rfl rfl ?_
                          refine rd_nu rfl rfl rfl rfl ?_
                          refine rd_nu rfl rfl rfl rfl ?_
                          refine rd_no rfl rfl rfl q53 rfl ?_
                          refine rd_nou rfl rfl rfl q53 rfl ?_
                          refine rd_nu rfl rfl rfl rfl ?_
                          refine rd_nu rfl rfl rfl rfl ?_
                          refine rd_nu rfl rfl rfl rfl ?_
                          refine rd_no rfl rfl rfl q53 rfl ?_
                          refine rd_s rfl rfl trivial (ss_pickT rfl q53 rfl) rfl ?_
                          refine rd_nil ?_
                          refine aw_cond rfl (fun q54 => ?_) (fun q54 => ?_)
                          · skip
                            refine aw_seq ?_
                            refine aw_gh (gh_to (n := 206) (σ' := [(16, ⟨[.lst (rows (QuoT r1_0 (CgfT r1_0 r1_1 r1_2)))], []⟩), (3, ⟨[.lst (rows r1_0)], []⟩)]) (env' := []) rfl rfl trivial) ?_
                            refine aw_region ?_
                            refine run_s (ss_assign rfl) rfl ?_
                            refine run_nil ?_
                            refine aw_ret ?_
                            exact retAF_mk (retv1 rfl (rv_tmp rfl)) rfl rfl ⟨_, (cle_refl _), _, h, rfl⟩
                          · cases q54
                        · cases q53
                      · replace h := h.2 (of_decide_eq_true (bnot_f q52))
                        refine rd_s rfl rfl ⟨_, _, rfl, rfl, q52⟩ (ss_move rfl) rfl ?_
                        refine rd_s rfl rfl ⟨_, _, rfl, rfl, q52⟩ (ss_move rfl) rfl ?_
                        obtain ⟨q55, h⟩ := h
                        refine rd_s rfl rfl ⟨_, _, rfl, rfl, q52⟩ (ss_idxL rfl rfl q55) rfl ?_
                        refine rd_s rfl rfl ⟨_, _, rfl, rfl, q52⟩ (ss_move rfl) rfl ?_
                        refine rd_s rfl rfl ⟨_, _, rfl, rfl, q52⟩ (ss_move rfl) rfl ?_
                        obtain ⟨q56, h⟩ := h
                        refine rd_s rfl rfl ⟨_, _, rfl, rfl, q52⟩ (ss_idxL rfl rfl q56) rfl ?_
                        refine rd_l rfl rfl ⟨_, _, rfl, rfl, q52⟩ (ss_loadL (f := ci) rfl q55) rfl ?_
                        refine rd_l rfl rfl ⟨_, _, rfl, rfl, q52⟩ (ss_loadL (f := ci) rfl q56) rfl ?_
                        refine rd_s rfl rfl ⟨_, _, rfl, rfl, q52⟩ (ss_neq rfl rfl) rfl ?_
                        refine rd_s rfl rfl trivial (ss_pickF rfl q52 rfl) rfl ?_
                        refine rd_s rfl rfl trivial (ss_move rfl) rfl ?_
                        refine rd_split (s := 126) rfl (fun q57 => ?_) (fun q57 => ?_)
                        · replace h := h.1 (of_decide_eq_false (bnot_t q57))
                          refine rd_no rfl rfl rfl q57 rfl ?_
                          refine rd_nou rfl rfl rfl q57 rfl ?_
                          refine rd_nu rfl rfl rfl rfl ?_
                          refine rd_nu rfl rfl rfl rfl ?_
                          refine rd_nu rfl rfl rfl rfl ?_
                          refine rd_no rfl rfl rfl q57 rfl ?_
                          refine rd_nou rfl rfl rfl q57 rfl ?_
                          refine rd_nu rfl rfl rfl rfl ?_
                          refine rd_nu rfl rfl rfl rfl ?_
                          refine rd_nu rfl rfl rfl rfl ?_
                          refine rd_no rfl rfl rfl q57 rfl ?_
                          refine rd_s rfl rfl trivial (ss_pickT rfl q57 rfl) rfl ?_
                          refine rd_nil ?_
                          refine aw_cond rfl (fun q58 => ?_) (fun q58 => ?_)
                          · skip
                            refine aw_seq ?_
                            refine aw_gh (gh_to (n := 206) (σ' := [(16, ⟨[.lst (rows (QuoT r1_0 (CgfT r1_0 r1_1 r1_2)))], []⟩), (3, ⟨[.lst (rows r1_0)], []⟩)]) (env' := []) rfl rfl trivial) ?_
                            refine aw_region ?_
                            refine run_s (ss_assign rfl) rfl ?_
                            refine run_nil ?_
                            refine aw_ret ?_
                            exact retAF_mk (retv1 rfl (rv_tmp rfl)) rfl rfl ⟨_, (cle_refl _), _, h, rfl⟩
                          · cases q58
                        · replace h := h.2 (of_decide_eq_true (bnot_f q57))
                          refine rd_s rfl rfl ⟨_, _, rfl, rfl, q57⟩ (ss_move rfl) rfl ?_
                          refine rd_s rfl rfl ⟨_, _, rfl, rfl, q57⟩ (ss_move rfl) rfl ?_
                          refine rd_split (s := 128) rfl (fun q59 => ?_) (fun q59 => ?_)
                          · replace h := h.1 (q59)
                            refine rd_s rfl rfl ⟨_, _, rfl, rfl, q59⟩ (ss_move rfl) rfl ?_
                            refine rd_s rfl rfl ⟨_, _, rfl, rfl, q59⟩ (ss_move rfl) rfl ?_
                            refine rd_s rfl rfl ⟨_, _, rfl, rfl, q59⟩ (ss_neq rfl rfl) rfl ?_
                            refine rd_s rfl rfl ⟨_, _, rfl, rfl, q57⟩ (ss_pickT rfl q59 rfl) rfl ?_
                            refine rd_s rfl rfl ⟨_, _, rfl, rfl, q57⟩ (ss_move rfl) rfl ?_
                            refine rd_split (s := 133) rfl (fun q60 => ?_) (fun q60 => ?_)
                            · replace h := h.1 (of_decide_eq_false (bnot_t q60))
                              refine rd_s rfl rfl ⟨_, _, rfl, rfl, q60⟩ (ss_move rfl) rfl ?_
                              obtain ⟨q61, h⟩ := h
                              refine rd_w rfl rfl ⟨_, _, rfl, rfl, q60⟩ rfl rfl (ws_call (xs := [.tmp 134]) (ids := []) rfl rfl rfl rfl (c_laws_most9 (CgfT r1_0 r1_1 r1_2) q61) rfl ?_ )
                              rintro _ rfl
                              refine ⟨rfl, ?_⟩
                              refine rd_s rfl rfl ⟨_, _, rfl, rfl, q60⟩ (ss_neq rfl rfl) rfl ?_
                              refine rd_s rfl rfl ⟨_, _, rfl, rfl, q57⟩ (ss_pickT rfl q60 rfl) rfl ?_
                              refine rd_s rfl rfl trivial (ss_pickF rfl q57 rfl) rfl ?_
                              refine rd_nil ?_
                              refine aw_cond rfl (fun q63 => ?_) (fun q63 => ?_)
                              · replace h := h.1 (of_decide_eq_false (bnot_t q63))
                                refine aw_seq ?_
                                refine aw_gh (gh_to (n := 206) (σ' := [(16, ⟨[.lst (rows (QuoT r1_0 (CgfT r1_0 r1_1 r1_2)))], []⟩), (3, ⟨[.lst (rows r1_0)], []⟩)]) (env' := []) rfl rfl trivial) ?_
                                refine aw_region ?_
                                refine run_s (ss_assign rfl) rfl ?_
                                refine run_nil ?_
                                refine aw_ret ?_
                                exact retAF_mk (retv1 rfl (rv_tmp rfl)) rfl rfl ⟨_, (cle_refl _), _, h, rfl⟩
                              · replace h := h.2 (of_decide_eq_true (bnot_f q63))
                                refine aw_skip ?_
                                refine aw_seq ?_
                                refine aw_seq ?_
                                refine aw_gh (gh_to (n := 206) (σ' := [(16, ⟨[.lst (rows (QuoT r1_0 (CgfT r1_0 r1_1 r1_2)))], []⟩), (3, ⟨[.lst (rows r1_0)], []⟩)]) (env' := [(0, .c (.lst (bys code))), (3, .cell 3 0), (6, .c (.lst (ints (CgfT r1_0 r1_1 r1_2)))), (16, .cell 16 0)]) rfl rfl ⟨rfl, rfl, rfl, rfl, trivial⟩) ?_
                                refine aw_region ?_
                                refine run_s (ss_assign rfl) rfl ?_
                                refine run_nil ?_
                                refine aw_block ?_
                                obtain ⟨H1, m1, q64, h⟩ := h
                                refine aw_loop1 (fun (v18_1 : Int) => ⟨[(16, ⟨[.lst (rows (QuoT r1_0 (CgfT r1_0 r1_1 r1_2)))], []⟩), (3, ⟨[.lst (rows r1_0)], []⟩)], [(0, .c (.lst (bys code))), (3, .cell 3 0), (6, .c (.lst (ints (CgfT r1_0 r1_1 r1_2)))), (16, .cell 16 0), (18, .c (ci v18_1))], 206⟩) H1 m1 ⟨0, ghe_to (n := 206) rfl rfl ⟨rfl, rfl, rfl, rfl, rfl, trivial⟩, q64⟩ ?_
                                rintro v18_1 q64
                                replace h := h v18_1 q64
                                refine aw_seq ?_
                                refine aw_seq ?_
                                refine aw_region ?_
                                refine run_s (ss_move rfl) rfl ?_
                                refine run_s (ss_field_cell rfl) rfl ?_
                                refine run_s (ss_loadC rfl rfl rfl rfl rfl) rfl ?_
                                refine run_s (ss_lenL (f := (fun r => C.lst (ints r))) rfl) rfl ?_
                                refine run_s (ss_lss rfl rfl) rfl ?_
                                refine run_nil ?_
                                refine aw_cond rfl (fun q65 => ?_) (fun q65 => ?_)
                                · replace h := h.1 (of_decide_eq_true q65)
                                  refine aw_skip ?_
                                  refine aw_seq ?_
                                  refine aw_block ?_
                                  refine aw_seq ?_
                                  refine aw_region ?_
                                  refine run_s (ss_assign rfl) rfl ?_
                                  refine run_nil ?_
                                  refine aw_block ?_
                                  obtain ⟨H2, m2, q66, h⟩ := h
                                  refine aw_loop1 (fun (v19_2 : Int) => ⟨[(16, ⟨[.lst (rows (QuoT r1_0 (CgfT r1_0 r1_1 r1_2)))], []⟩), (3, ⟨[.lst (rows r1_0)], []⟩)], [(0, .c (.lst (bys code))), (3, .cell 3 0), (6, .c (.lst (ints (CgfT r1_0 r1_1 r1_2)))), (16, .cell 16 0), (18, .c (ci v18_1)), (19, .c (ci v19_2))], 206⟩) H2 m2 ⟨0, ghe_to (n := 206) rfl rfl ⟨rfl, rfl, rfl, rfl, rfl, rfl, trivial⟩, q66⟩ ?_
                                  rintro v19_2 q66
                                  replace h := h v19_2 q66
                                  refine aw_seq ?_
                                  refine aw_seq ?_
                                  refine aw_region ?_
                                  refine run_s (ss_move rfl) rfl ?_
                                  refine run_s (ss_field_cell rfl) rfl ?_
                                  refine run_s (ss_loadC rfl rfl rfl rfl rfl) rfl ?_
                                  refine run_s (ss_lenL (f := (fun r => C.lst (ints r))) rfl) rfl ?_
                                  refine run_s (ss_lss rfl rfl) rfl ?_
                                  refine run_nil ?_
                                  refine aw_cond rfl (fun q67 => ?_) (fun q67 => ?_)
                                  · replace h := h.1 (of_decide_eq_true q67)
                                    refine aw_skip ?_
                                    refine aw_seq ?_
                                    refine aw_block ?_
                                    refine aw_seq ?_
                                    refine aw_gh (gh_to (n := 206) (σ' := [(16, ⟨[.lst (rows (QuoT r1_0 (CgfT r1_0 r1_1 r1_2)))], []⟩), (3, ⟨[.lst (rows r1_0)], []⟩)]) (env' := [(0, .c (.lst (bys code))), (3, .cell 3 0), (6, .c (.lst (ints (CgfT r1_0 r1_1 r1_2)))), (16, .cell 16 0), (18, .c (ci v18_1)), (19, .c (ci v19_2))]) rfl rfl ⟨rfl, rfl, rfl, rfl, rfl, rfl, trivial⟩) ?_
                                    refine aw_regionD (kd := kdl [0, 1, 0, 0, 0, 1, 0, 1, 0, 0, 0, 1, 0, 1, 0, 0, 1, 0, 0, 1, 0, 0, 1, 0, 1, 0]) (ord := [0, 2, 3, 4, 8, 9, 10, 14, 15, 17, 20, 1, 5, 6, 7, 11, 12, 13, 16, 18, 19, 21, 22, 23, 24, 25]) [] mixed (by kernel_rfl) ?_
                                    refine rd_s rfl rfl trivial (ss_field_cell rfl) rfl ?_
                                    refine rd_s rfl rfl trivial (ss_move rfl) rfl ?_
                                    refine rd_s rfl rfl trivial (ss_move rfl) rfl ?_
                                    obtain ⟨q68, h⟩ := h
                                    refine rd_s rfl rfl trivial (ss_idxL rfl rfl q68) rfl ?_
                                    refine rd_s rfl rfl trivial (ss_move rfl) rfl ?_
                                    refine rd_s rfl rfl trivial (ss_move rfl) rfl ?_
                                    obtain ⟨q69, h⟩ := h
                                    refine rd_s rfl rfl trivial (ss_idxL rfl rfl q69) rfl ?_
                                    refine rd_s rfl rfl trivial (ss_move rfl) rfl ?_
                                    refine rd_s rfl rfl trivial (ss_field_cell rfl) rfl ?_
                                    refine rd_s rfl rfl trivial (ss_move rfl) rfl ?_
                                    refine rd_s rfl rfl trivial (ss_move rfl) rfl ?_
                                    refine rd_l rfl rfl trivial (ss_loadC rfl rfl rfl rfl rfl) rfl ?_
                                    refine rd_l rfl rfl trivial (ss_loadL (f := ci) rfl q68) rfl ?_
                                    obtain ⟨q70, h⟩ := h
                                    refine rd_s rfl rfl trivial (ss_idxL rfl rfl q70) rfl ?_
                                    refine rd_l rfl rfl trivial (ss_loadL (f := (fun r => C.lst (ints r))) rfl q70) rfl ?_
                                    refine rd_l rfl rfl trivial (ss_loadL (f := ci) rfl q69) rfl ?_
                                    obtain ⟨q71, h⟩ := h
                                    refine rd_s rfl rfl trivial (ss_idxL rfl rfl q71) rfl ?_
                                    refine rd_l rfl rfl trivial (ss_loadL (f := ci) rfl q71) rfl ?_
                                    refine rd_l rfl rfl trivial (ss_loadC rfl rfl rfl rfl rfl) rfl ?_
                                    obtain ⟨q72, h⟩ := h
                                    refine rd_s rfl rfl trivial (ss_idxL rfl rfl q72) rfl ?_
                                    refine rd_l rfl rfl trivial (ss_loadL (f := (fun r => C.lst (ints r))) rfl q72) rfl ?_
                                    obtain ⟨q73, h⟩ := h
                                    refine rd_s rfl rfl trivial (ss_idxL rfl rfl q73) rfl ?_
                                    refine rd_l rfl rfl trivial (ss_loadL (f := ci) rfl q73) rfl ?_
                                    obtain ⟨q74, h⟩ := h
                                    refine rd_s rfl rfl trivial (ss_idxL rfl rfl q74) rfl ?_
                                    refine rd_l rfl rfl trivial (ss_loadL (f := ci) rfl q74) rfl ?_
                                    refine rd_s rfl rfl trivial (ss_neq rfl rfl) rfl ?_
                                    refine rd_nil ?_
                                    refine aw_cond rfl (fun q75 => ?_) (fun q75 => ?_)
                                    · replace h := h.1 (of_decide_eq_false (bnot_t q75))
                                      refine aw_seq ?_
                                      refine aw_gh (gh_to (n := 206) (σ' := [(16, ⟨[.lst (rows (QuoT r1_0 (CgfT r1_0 r1_1 r1_2)))], []⟩), (3, ⟨[.lst (rows r1_0)], []⟩)]) (env' := []) rfl rfl trivial) ?_
                                      refine aw_region ?_
                                      refine run_s (ss_assign rfl) rfl ?_
                                      refine run_nil ?_
                                      refine aw_ret ?_
                                      exact retAF_mk (retv1 rfl (rv_tmp rfl)) rfl rfl ⟨_, (cle_refl _), _, h, rfl⟩
                                    · replace h := h.2 (of_decide_eq_true (bnot_f q75))
                                      refine aw_skip ?_
                                      refine aw_gh (gh_to (n := 206) (σ' := [(16, ⟨[.lst (rows (QuoT r1_0 (CgfT r1_0 r1_1 r1_2)))], []⟩), (3, ⟨[.lst (rows r1_0)], []⟩)]) (env' := [(0, .c (.lst (bys code))), (3, .cell 3 0), (6, .c (.lst (ints (CgfT r1_0 r1_1 r1_2)))), (16, .cell 16 0), (18, .c (ci v18_1)), (19, .c (ci v19_2))]) rfl rfl ⟨rfl, rfl, rfl, rfl, rfl, rfl, trivial⟩) ?_
                                      refine aw_region ?_
                                      refine run_s (ss_move rfl) rfl ?_
                                      obtain ⟨q76, h⟩ := h
                                      refine run_s (ss_add rfl rfl q76) rfl ?_
                                      refine run_s (ss_assign rfl) rfl ?_
                                      refine run_nil ?_
                                      exact ⟨v19_2 + 1, ghe_to (n := 206) rfl rfl ⟨rfl, rfl, rfl, rfl, rfl, rfl, trivial⟩, h.1, h.2⟩
                                  · replace h := h.2 (of_decide_eq_false q67)
                                    refine aw_exit ?_
                                    refine aw_region ?_
                                    refine run_s (ss_move rfl) rfl ?_
                                    obtain ⟨q77, h⟩ := h
                                    refine run_s (ss_add rfl rfl q77) rfl ?_
                                    refine run_s (ss_assign rfl) rfl ?_
                                    refine run_nil ?_
                                    exact ⟨v18_1 + 1, ghe_to (n := 206) rfl rfl ⟨rfl, rfl, rfl, rfl, rfl, trivial⟩, h.1, h.2⟩
                                · replace h := h.2 (of_decide_eq_false q65)
                                  refine aw_exit ?_
                                  refine aw_seq ?_
                                  refine aw_region ?_
                                  refine run_s (ss_move rfl) rfl ?_
                                  obtain ⟨q78, h⟩ := h
                                  refine run_w (ws_call (xs := [.tmp 180]) (ids := [181, 1001]) rfl rfl rfl rfl (c_spec_DrawQuotientRack code q78) rfl ?_ )
                                  rintro _ ⟨r2_0, r2_1, q79, rfl⟩
                                  replace h := h r2_0 r2_1 q79
                                  refine ⟨rfl, ?_⟩
                                  refine run_s (ss_move rfl) rfl ?_
                                  refine run_s (ss_extract rfl rfl) rfl ?_
                                  refine run_s (ss_extract rfl rfl) rfl ?_
                                  refine run_w (ws_alloc (id := 20) rfl (Nat.le_of_ble_eq_true rfl) ⟨rfl, ?_⟩)
                                  refine run_w (ws_storeS rfl rfl (Nat.le_of_ble_eq_true rfl) rfl rfl rfl ⟨rfl, ?_⟩)
                                  refine run_s (ss_assign rfl) rfl ?_
                                  refine run_nil ?_
                                  refine aw_gh (gh_to (n := 206) (σ' := [(20, ⟨[.hole], [(0, .ref 181)]⟩), (181, ⟨orows r2_0, []⟩), (1001, ⟨ints r2_1, []⟩), (16, ⟨[.lst (rows (QuoT r1_0 (CgfT r1_0 r1_1 r1_2)))], []⟩), (3, ⟨[.lst (rows r1_0)], []⟩)]) (env' := [(20, .cell 20 0), (21, .ref 1001)]) rfl rfl ⟨rfl, rfl, trivial⟩) ?_
                                  refine aw_gh (gh_frzE (id := 181) (fun r => C.lst (ints r)) rfl (fun _ => (fz_own (fz_map (fun _ => rfl) _)))) ?_
                                  refine aw_gh (gh_fillc (id := 20) (j := 0) rfl rfl (Nat.le_of_ble_eq_true rfl)) ?_
                                  refine aw_gh (gh_to (n := 206) (σ' := [(20, ⟨[.lst (rows r2_0)], []⟩), (1001, ⟨ints r2_1, []⟩), (16, ⟨[.lst (rows (QuoT r1_0 (CgfT r1_0 r1_1 r1_2)))], []⟩), (3, ⟨[.lst (rows r1_0)], []⟩)]) (env' := [(20, .cell 20 0), (21, .ref 1001)]) rfl rfl ⟨rfl, rfl, trivial⟩) ?_
                                  refine aw_gh (gh_frzE (id := 1001) ci rfl (fun _ => rfl)) ?_
                                  refine aw_gh (gh_to (n := 206) (σ' := [(20, ⟨[.lst (rows r2_0)], []⟩), (16, ⟨[.lst (rows (QuoT r1_0 (CgfT r1_0 r1_1 r1_2)))], []⟩), (3, ⟨[.lst (rows r1_0)], []⟩)]) (env' := [(20, .cell 20 0), (21, .c (.lst (ints r2_1)))]) rfl rfl ⟨rfl, rfl, trivial⟩) ?_
                                  refine aw_seq ?_
                                  refine aw_region ?_
                                  refine run_s (ss_loadS rfl rfl rfl rfl) rfl ?_
                                  refine run_s (ss_move rfl) rfl ?_
                                  obtain ⟨q80, h⟩ := h
                                  refine run_w (ws_call (xs := [.tmp 185, .tmp 186]) (ids := [187]) rfl rfl rfl rfl (c_impl_QuotientRack r2_0 r2_1 q80) rfl ?_ )
                                  rintro _ rfl
                                  refine ⟨rfl, ?_⟩
                                  refine run_s (ss_move rfl) rfl ?_
                                  refine run_s (ss_extract rfl rfl) rfl ?_
                                  refine run_s (ss_extract rfl rfl) rfl ?_
                                  refine run_w (ws_alloc (id := 22) rfl (Nat.le_of_ble_eq_true rfl) ⟨rfl, ?_⟩)
                                  refine run_w (ws_storeS rfl rfl (Nat.le_of_ble_eq_true rfl) rfl rfl rfl ⟨rfl, ?_⟩)
                                  refine run_s (ss_assign rfl) rfl ?_
                                  refine run_nil ?_
                                  refine aw_gh (gh_to (n := 206) (σ' := [(22, ⟨[.hole], [(0, .ref 187)]⟩), (187, ⟨orows (QuoT r2_0 r2_1), []⟩), (20, ⟨[.lst (rows r2_0)], []⟩), (16, ⟨[.lst (rows (QuoT r1_0 (CgfT r1_0 r1_1 r1_2)))], []⟩), (3, ⟨[.lst (rows r1_0)], []⟩)]) (env' := [(20, .cell 20 0), (21, .c (.lst (ints r2_1))), (22, .cell 22 0), (23, .c (ci (QuoE r2_0 r2_1)))]) rfl rfl ⟨rfl, rfl, rfl, rfl, trivial⟩) ?_
                                  refine aw_gh (gh_frzE (id := 187) (fun r => C.lst (ints r)) rfl (fun _ => (fz_own (fz_map (fun _ => rfl) _)))) ?_
                                  refine aw_gh (gh_fillc (id := 22) (j := 0) rfl rfl (Nat.le_of_ble_eq_true rfl)) ?_
                                  refine aw_gh (gh_to (n := 206) (σ' := [(22, ⟨[.lst (rows (QuoT r2_0 r2_1))], []⟩), (20, ⟨[.lst (rows r2_0)], []⟩), (16, ⟨[.lst (rows (QuoT r1_0 (CgfT r1_0 r1_1 r1_2)))], []⟩), (3, ⟨[.lst (rows r1_0)], []⟩)]) (env' := [(20, .cell 20 0), (21, .c (.lst (ints r2_1))), (22, .cell 22 0), (23, .c (ci (QuoE r2_0 r2_1)))]) rfl rfl ⟨rfl, rfl, rfl, rfl, trivial⟩) ?_
                                  refine aw_seq ?_
                                  refine aw_region ?_
                                  refine run_s (ss_loadS rfl rfl rfl rfl) rfl ?_
                                  refine run_s (ss_move rfl) rfl ?_
                                  obtain ⟨q82, h⟩ := h
                                  refine run_w (ws_call (xs := [.tmp 191, .tmp 192]) (ids := [193]) rfl rfl rfl rfl (c_spec_QuotientRack r2_0 r2_1 q82) rfl ?_ )
                                  rintro _ rfl
                                  refine ⟨rfl, ?_⟩
                                  refine run_s (ss_move rfl) rfl ?_
                                  refine run_s (ss_extract rfl rfl) rfl ?_
                                  refine run_s (ss_extract rfl rfl) rfl ?_
                                  refine run_w (ws_alloc (id := 24) rfl (Nat.le_of_ble_eq_true rfl) ⟨rfl, ?_⟩)
                                  refine run_w (ws_storeS rfl rfl (Nat.le_of_ble_eq_true rfl) rfl rfl rfl ⟨rfl, ?_⟩)
                                  refine run_s (ss_assign rfl) rfl ?_
                                  refine run_nil ?_
                                  refine aw_gh (gh_to (n := 206) (σ' := [(24, ⟨[.hole], [(0, .ref 193)]⟩), (193, ⟨orows (QuoT r2_0 r2_1), []⟩), (22, ⟨[.lst (rows (QuoT r2_0 r2_1))], []⟩), (20, ⟨[.lst (rows r2_0)], []⟩), (16, ⟨[.lst (rows (QuoT r1_0 (CgfT r1_0 r1_1 r1_2)))], []⟩), (3, ⟨[.lst (rows r1_0)], []⟩)]) (env' := [(22, .cell 22 0), (23, .c (ci (QuoE r2_0 r2_1))), (24, .cell 24 0), (25, .c (ci (QuoE r2_0 r2_1)))]) rfl rfl ⟨rfl, rfl, rfl, rfl, trivial⟩) ?_
                                  refine aw_gh (gh_frzE (id := 193) (fun r => C.lst (ints r)) rfl (fun _ => (fz_own (fz_map (fun _ => rfl) _)))) ?_
                                  refine aw_gh (gh_fillc (id := 24) (j := 0) rfl rfl (Nat.le_of_ble_eq_true rfl)) ?_
                                  refine aw_gh (gh_to (n := 206) (σ' := [(24, ⟨[.lst (rows (QuoT r2_0 r2_1))], []⟩), (22, ⟨[.lst (rows (QuoT r2_0 r2_1))], []⟩), (20, ⟨[.lst (rows r2_0)], []⟩), (16, ⟨[.lst (rows (QuoT r1_0 (CgfT r1_0 r1_1 r1_2)))], []⟩), (3, ⟨[.lst (rows r1_0)], []⟩)]) (env' := [(22, .cell 22 0), (23, .c (ci (QuoE r2_0 r2_1))), (24, .cell 24 0), (25, .c (ci (QuoE r2_0 r2_1)))]) rfl rfl ⟨rfl, rfl, rfl, rfl, trivial⟩) ?_
                                  refine aw_seq ?_
                                  refine aw_region ?_
                                  refine run_s (ss_move rfl) rfl ?_
                                  refine run_s (ss_move rfl) rfl ?_
                                  refine run_s (ss_eql rfl rfl) rfl ?_
                                  refine run_s (ss_move rfl) rfl ?_
                                  refine run_split (s := 199) rfl (fun q84 => ?_) (fun q84 => ?_)
                                  · replace h := h.1 (of_decide_eq_true q84)
                                    refine run_gt rfl rfl q84 ?_
                                    refine run_s (ss_field_cell rfl) rfl ?_
                                    refine run_gt rfl rfl q84 ?_
                                    refine run_s (ss_loadC rfl rfl rfl rfl rfl) rfl ?_
                                    refine run_gt rfl rfl q84 ?_
                                    refine run_s (ss_field_cell rfl) rfl ?_
                                    refine run_gt rfl rfl q84 ?_
                                    refine run_s (ss_loadC rfl rfl rfl rfl rfl) rfl ?_
                                    refine run_gt rfl rfl q84 ?_
                                    obtain ⟨q85, h⟩ := h
                                    refine run_w (ws_call (xs := [.tmp 201, .tmp 203]) (ids := []) rfl rfl rfl rfl (c_laws_same9 (QuoT r2_0 r2_1) (QuoT r2_0 r2_1) q85) rfl ?_ )
                                    rintro _ rfl
                                    refine ⟨rfl, ?_⟩
                                    refine run_s (ss_pickT rfl q84 rfl) rfl ?_
                                    refine run_s (ss_assign rfl) rfl ?_
                                    refine run_nil ?_
                                    refine aw_ret ?_
                                    exact retAF_mk (retv1 rfl (rv_tmp rfl)) rfl rfl ⟨_, (cle_refl _), _, h, rfl⟩
                                  · replace h := h.2 (of_decide_eq_false q84)
                                    refine run_gf rfl rfl q84 rfl ?_
                                    refine run_gf rfl rfl q84 rfl ?_
                                    refine run_gf rfl rfl q84 rfl ?_
                                    refine run_gf rfl rfl q84 rfl ?_
                                    refine run_gf rfl rfl q84 rfl ?_
                                    refine run_s (ss_pickF rfl q84 rfl) rfl ?_
                                    refine run_s (ss_assign rfl) rfl ?_
                                    refine run_nil ?_
                                    refine aw_ret ?_
                                    exact retAF_mk (retv1 rfl (rv_tmp rfl)) rfl rfl ⟨_, (cle_refl _), _, h, rfl⟩
                            · replace h := h.2 (of_decide_eq_true (bnot_f q60))
                              refine rd_no rfl rfl rfl q60 rfl ?_
                              refine rd_no rfl rfl rfl q60 rfl ?_
                              refine rd_no rfl rfl rfl q60 rfl ?_
                              refine rd_s rfl rfl ⟨_, _, rfl, rfl, q57⟩ (ss_pickF rfl q60 rfl) rfl ?_
                              refine rd_s rfl rfl trivial (ss_pickF rfl q57 rfl) rfl ?_
                              refine rd_nil ?_
                              refine aw_cond rfl (fun q87 => ?_) (fun q87 => ?_)
                              · cases q87
                              · skip
                                refine aw_skip ?_
                                refine aw_seq ?_
                                refine aw_seq ?_
                                refine aw_gh (gh_to (n := 206) (σ' := [(16, ⟨[.lst (rows (QuoT r1_0 (CgfT r1_0 r1_1 r1_2)))], []⟩), (3, ⟨[.lst (rows r1_0)], []⟩)]) (env' := [(0, .c (.lst (bys code))), (3, .cell 3 0), (6, .c (.lst (ints (CgfT r1_0 r1_1 r1_2)))), (16, .cell 16 0)]) rfl rfl ⟨rfl, rfl, rfl, rfl, trivial⟩) ?_
                                refine aw_region ?_
                                refine run_s (ss_assign rfl) rfl ?_
                                refine run_nil ?_
                                refine aw_block ?_
                                obtain ⟨H3, m3, q88, h⟩ := h
                                refine aw_loop1 (fun (v18_1 : Int) => ⟨[(16, ⟨[.lst (rows (QuoT r1_0 (CgfT r1_0 r1_1 r1_2)))], []⟩), (3, ⟨[.lst (rows r1_0)], []⟩)], [(0, .c (.lst (bys code))), (3, .cell 3 0), (6, .c (.lst (ints (CgfT r1_0 r1_1 r1_2)))), (16, .cell 16 0), (18, .c (ci v18_1))], 206⟩) H3 m3 ⟨0, ghe_to (n := 206) rfl rfl ⟨rfl, rfl, rfl, rfl, rfl, trivial⟩, q88⟩ ?_
                                rintro v18_1 q88
                                replace h := h v18_1 q88
                                refine aw_seq ?_
                                refine aw_seq ?_
                                refine aw_region ?_
                                refine run_s (ss_move rfl) rfl ?_
                                refine run_s (ss_field_cell rfl) rfl ?_
                                refine run_s (ss_loadC rfl rfl rfl rfl rfl) rfl ?_
                                refine run_s (ss_lenL (f := (fun r => C.lst (ints r))) rfl) rfl ?_
                                refine run_s (ss_lss rfl rfl) rfl ?_
                                refine run_nil ?_
                                refine aw_cond rfl (fun q89 => ?_) (fun q89 => ?_)
                                · replace h := h.1 (of_decide_eq_true q89)
                                  refine aw_skip ?_
                                  refine aw_seq ?_
                                  refine aw_block ?_
                                  refine aw_seq ?_
                                  refine aw_region ?_
                                  refine run_s (ss_assign rfl) rfl ?_
                                  refine run_nil ?_
                                  refine aw_block ?_
                                  obtain ⟨H4, m4, q90, h⟩ := h
                                  refine aw_loop1 (fun (v19_2 : Int) => ⟨[(16, ⟨[.lst (rows (QuoT r1_0 (CgfT r1_0 r1_1 r1_2)))], []⟩), (3, ⟨[.lst (rows r1_0)], []⟩)], [(0, .c (.lst (bys code))), (3, .cell 3 0), (6, .c (.lst (ints (CgfT r1_0 r1_1 r1_2)))), (16, .cell 16 0), (18, .c (ci v18_1)), (19, .c (ci v19_2))], 206⟩) H4 m4 ⟨0, ghe_to (n := 206) rfl rfl ⟨rfl, rfl, rfl, rfl, rfl, rfl, trivial⟩, q90⟩ ?_
                                  rintro v19_2 q90
                                  replace h := h v19_2 q90
                                  refine aw_seq ?_
                                  refine aw_seq ?_
                                  refine aw_region ?_
                                  refine run_s (ss_move rfl) rfl ?_
                                  refine run_s (ss_field_cell rfl) rfl ?_
                                  refine run_s (ss_loadC rfl rfl rfl rfl rfl) rfl ?_
                                  refine run_s (ss_lenL (f := (fun r => C.lst (ints r))) rfl) rfl ?_
                                  refine run_s (ss_lss rfl rfl) rfl ?_
                                  refine run_nil ?_
                                  refine aw_cond rfl (fun q91 => ?_) (fun q91 => ?_)
                                  · replace h := h.1 (of_decide_eq_true q91)
                                    refine aw_skip ?_
                                    refine aw_seq ?_
                                    refine aw_block ?_
                                    refine aw_seq ?_
                                    refine aw_gh (gh_to (n := 206) (σ' := [(16, ⟨[.lst (rows (QuoT r1_0 (CgfT r1_0 r1_1 r1_2)))], []⟩), (3, ⟨[.lst (rows r1_0)], []⟩)]) (env' := [(0, .c (.lst (bys code))), (3, .cell 3 0), (6, .c (.lst (ints (CgfT r1_0 r1_1 r1_2)))), (16, .cell 16 0), (18, .c (ci v18_1)), (19, .c (ci v19_2))]) rfl rfl ⟨rfl, rfl, rfl, rfl, rfl, rfl, trivial⟩) ?_
                                    refine aw_regionD (kd := kdl [0, 1, 0, 0, 0, 1, 0, 1, 0, 0, 0, 1, 0, 1, 0, 0, 1, 0, 0, 1, 0, 0, 1, 0, 1, 0]) (ord := [0, 2, 3, 4, 8, 9, 10, 14, 15, 17, 20, 1, 5, 6, 7, 11, 12, 13, 16, 18, 19, 21, 22, 23, 24, 25]) [] mixed (by kernel_rfl) ?_
                                    refine rd_s rfl rfl trivial (ss_field_cell rfl) rfl ?_
                                    refine rd_s rfl rfl trivial (ss_move rfl) rfl ?_
                                    refine rd_s rfl rfl trivial (ss_move rfl) rfl ?_
                                    obtain ⟨q92, h⟩ := h
                                    refine rd_s rfl rfl trivial (ss_idxL rfl rfl q92) rfl ?_
                                    refine rd_s rfl rfl trivial (ss_move rfl) rfl ?_
                                    refine rd_s rfl rfl trivial (ss_move rfl) rfl ?_
                                    obtain ⟨q93, h⟩ := h
                                    refine rd_s rfl rfl trivial (ss_idxL rfl rfl q93) rfl ?_
                                    refine rd_s rfl rfl trivial (ss_move rfl) rfl ?_
                                    refine rd_s rfl rfl trivial (ss_field_cell rfl) rfl ?_
                                    refine rd_s rfl rfl trivial (ss_move rfl) rfl ?_
                                    refine rd_s rfl rfl trivial (ss_move rfl) rfl ?_
                                    refine rd_l rfl rfl trivial (ss_loadC rfl rfl rfl rfl rfl) rfl ?_
                                    refine rd_l rfl rfl trivial (ss_loadL (f := ci) rfl q92) rfl ?_
                                    obtain ⟨q94, h⟩ := h
                                    refine rd_s rfl rfl trivial (ss_idxL rfl rfl q94) rfl ?_
                                    refine rd_l rfl rfl trivial (ss_loadL (f := (fun r => C.lst (ints r))) rfl q94) rfl ?_
                                    refine rd_l rfl rfl trivial (ss_loadL (f := ci) rfl q93) rfl ?_
                                    obtain ⟨q95, h⟩ := h
                                    refine rd_s rfl rfl trivial (ss_idxL rfl rfl q95) rfl ?_
                                    refine rd_l rfl rfl trivial (ss_loadL (f := ci) rfl q95) rfl ?_
                                    refine rd_l rfl rfl trivial (ss_loadC rfl rfl rfl rfl rfl) rfl ?_
                                    obtain ⟨q96, h⟩ := h
                                    refine rd_s rfl rfl trivial (ss_idxL rfl rfl q96) rfl ?_
                                    refine rd_l rfl rfl trivial (ss_loadL (f := (fun r => C.lst (ints r))) rfl q96) rfl ?_
                                    obtain ⟨q97, h⟩ := h
                                    refine rd_s rfl rfl trivial (ss_idxL rfl rfl q97) rfl ?_
                                    refine rd_l rfl rfl trivial (ss_loadL (f := ci) rfl q97) rfl ?_
                                    obtain ⟨q98, h⟩ := h
                                    refine rd_s rfl rfl trivial (ss_idxL rfl rfl q98) rfl ?_
                                    refine rd_l rfl rfl trivial (ss_loadL (f := ci) rfl q98) rfl ?_
                                    refine rd_s rfl rfl trivial (ss_neq rfl rfl) rfl ?_
                                    refine rd_nil ?_
                                    refine aw_cond rfl (fun q99 => ?_) (fun q99 => ?_)
                                    · replace h := h.1 (of_decide_eq_false (bnot_t q99))
                                      refine aw_seq ?_
                                      refine aw_gh (gh_to (n := 206) (σ' := [(16, ⟨[.lst (rows (QuoT r1_0 (CgfT r1_0 r1_1 r1_2)))], []⟩), (3, ⟨[.lst (rows r1_0)], []⟩)]) (env' := []) rfl rfl trivial) ?_
                                      refine aw_region ?_
                                      refine run_s (ss_assign rfl) rfl ?_
                                      refine run_nil ?_
                                      refine aw_ret ?_
                                      exact retAF_mk (retv1 rfl (rv_tmp rfl)) rfl rfl ⟨_, (cle_refl _), _, h, rfl⟩
                                    · replace h := h.2 (of_decide_eq_true (bnot_f q99))
                                      refine aw_skip ?_
                                      refine aw_gh (gh_to (n := 206) (σ' := [(16, ⟨[.lst (rows (QuoT r1_0 (CgfT r1_0 r1_1 r1_2)))], []⟩), (3, ⟨[.lst (rows r1_0)], []⟩)]) (env' := [(0, .c (.lst (bys code))), (3, .cell 3 0), (6, .c (.lst (ints (CgfT r1_0 r1_1 r1_2)))), (16, .cell 16 0), (18, .c (ci v18_1)), (19, .c (ci v19_2))]) rfl rfl ⟨rfl, rfl, rfl, rfl, rfl, rfl, trivial⟩) ?_
                                      refine aw_region ?_
                                      refine run_s (ss_move rfl) rfl ?_
                                      obtain ⟨q100, h⟩ := h
                                      refine run_s (ss_add rfl rfl q100) rfl ?_
                                      refine run_s (ss_assign rfl) rfl ?_
                                      refine run_nil ?_
                                      exact ⟨v19_2 + 1, ghe_to (n := 206) rfl rfl ⟨rfl, rfl, rfl, rfl, rfl, rfl, trivial⟩, h.1, h.2⟩
                                  · replace h := h.2 (of_decide_eq_false q91)
                                    refine aw_exit ?_
                                    refine aw_region ?_
                                    refine run_s (ss_move rfl) rfl ?_
                                    obtain ⟨q101, h⟩ := h
                                    refine run_s (ss_add rfl rfl q101) rfl ?_
                                    refine run_s (ss_assign rfl) rfl ?_
                                    refine run_nil ?_
                                    exact ⟨v18_1 + 1, ghe_to (n := 206) rfl rfl ⟨rfl, rfl, rfl, rfl, rfl, trivial⟩, h.1, h.2⟩
                                · replace h := h.2 (of_decide_eq_false q89)
                                  refine aw_exit ?_
                                  refine aw_seq ?_
                                  refine aw_region ?_
                                  refine run_s (ss_move rfl) rfl ?_
                                  obtain ⟨q102, h⟩ := h
                                  refine run_w (ws_call (xs := [.tmp 180]) (ids := [181, 1002]) rfl rfl rfl rfl (c_spec_DrawQuotientRack code q102) rfl ?_ )
                                  rintro _ ⟨r3_0, r3_1, q103, rfl⟩
                                  replace h := h r3_0 r3_1 q103
                                  refine ⟨rfl, ?_⟩
                                  refine run_s (ss_move rfl) rfl ?_
                                  refine run_s (ss_extract rfl rfl) rfl ?_
                                  refine run_s (ss_extract rfl rfl) rfl ?_
                                  refine run_w (ws_alloc (id := 20) rfl (Nat.le_of_ble_eq_true rfl) ⟨rfl, ?_⟩)
                                  refine run_w (ws_storeS rfl rfl (Nat.le_of_ble_eq_true rfl) rfl rfl rfl ⟨rfl, ?_⟩)
                                  refine run_s (ss_assign rfl) rfl ?_
                                  refine run_nil ?_
                                  refine aw_gh (gh_to (n := 206) (σ' := [(20, ⟨[.hole], [(0, .ref 181)]⟩), (181, ⟨orows r3_0, []⟩), (1002, ⟨ints r3_1, []⟩), (16, ⟨[.lst (rows (QuoT r1_0 (CgfT r1_0 r1_1 r1_2)))], []⟩), (3, ⟨[.lst (rows r1_0)], []⟩)]) (env' := [(20, .cell 20 0), (21, .ref 1002)]) rfl rfl ⟨rfl, rfl, trivial⟩) ?_
                                  refine aw_gh (gh_frzE (id := 181) (fun r => C.lst (ints r)) rfl (fun _ => (fz_own (fz_map (fun _ => rfl) _)))) ?_
                                  refine aw_gh (gh_fillc (id := 20) (j := 0) rfl rfl (Nat.le_of_ble_eq_true rfl)) ?_
                                  refine aw_gh (gh_to (n := 206) (σ' := [(20, ⟨[.lst (rows r3_0)], []⟩), (1002, ⟨ints r3_1, []⟩), (16, ⟨[.lst (rows (QuoT r1_0 (CgfT r1_0 r1_1 r1_2)))], []⟩), (3, ⟨[.lst (rows r1_0)], []⟩)]) (env' := [(20, .cell 20 0), (21, .ref 1002)]) rfl rfl ⟨rfl, rfl, trivial⟩) ?_
                                  refine aw_gh (gh_frzE (id := 1002) ci rfl (fun _ => rfl)) ?_
                                  refine aw_gh (gh_to (n := 206) (σ' := [(20, ⟨[.lst (rows r3_0)], []⟩), (16, ⟨[.lst (rows (QuoT r1_0 (CgfT r1_0 r1_1 r1_2)))], []⟩), (3, ⟨[.lst (rows r1_0)], []⟩)]) (env' := [(20, .cell 20 0), (21, .c (.lst (ints r3_1)))]) rfl rfl ⟨rfl, rfl, trivial⟩) ?_
                                  refine aw_seq ?_
                                  refine aw_region ?_
                                  refine run_s (ss_loadS rfl rfl rfl rfl) rfl ?_
                                  refine run_s (ss_move rfl) rfl ?_
                                  obtain ⟨q104, h⟩ := h
                                  refine run_w (ws_call (xs := [.tmp 185, .tmp 186]) (ids := [187]) rfl rfl rfl rfl (c_impl_QuotientRack r3_0 r3_1 q104) rfl ?_ )
                                  rintro _ rfl
                                  refine ⟨rfl, ?_⟩
                                  refine run_s (ss_move rfl) rfl ?_
                                  refine run_s (ss_extract rfl rfl) rfl ?_
                                  refine run_s (ss_extract rfl rfl) rfl ?_
                                  refine run_w (ws_alloc (id := 22) rfl (Nat.le_of_ble_eq_true rfl) ⟨rfl, ?_⟩)
                                  refine run_w (ws_storeS rfl rfl (Nat.le_of_ble_eq_true rfl) rfl rfl rfl ⟨rfl, ?_⟩)
                                  refine run_s (ss_assign rfl) rfl ?_
                                  refine run_nil ?_
                                  refine aw_gh (gh_to (n := 206) (σ' := [(22, ⟨[.hole], [(0, .ref 187)]⟩), (187, ⟨orows (QuoT r3_0 r3_1), []⟩), (20, ⟨[.lst (rows r3_0)], []⟩), (16, ⟨[.lst (rows (QuoT r1_0 (CgfT r1_0 r1_1 r1_2)))], []⟩), (3, ⟨[.lst (rows r1_0)], []⟩)]) (env' := [(20, .cell 20 0), (21, .c (.lst (ints r3_1))), (22, .cell 22 0), (23, .c (ci (QuoE r3_0 r3_1)))]) rfl rfl ⟨rfl, rfl, rfl, rfl, trivial⟩) ?_
                                  refine aw_gh (gh_frzE (id := 187) (fun r => C.lst (ints r)) rfl (fun _ => (fz_own (fz_map (fun _ => rfl) _)))) ?_
                                  refine aw_gh (gh_fillc (id := 22) (j := 0) rfl rfl (Nat.le_of_ble_eq_true rfl)) ?_
                                  refine aw_gh (gh_to (n := 206) (σ' := [(22, ⟨[.lst (rows (QuoT r3_0 r3_1))], []⟩), (20, ⟨[.lst (rows r3_0)], []⟩), (16, ⟨[.lst (rows (QuoT r1_0 (CgfT r1_0 r1_1 r1_2)))], []⟩), (3, ⟨[.lst (rows r1_0)], []⟩)]) (env' := [(20, .cell 20 0), (21, .c (.lst (ints r3_1))), (22, .cell 22 0), (23, .c (ci (QuoE r3_0 r3_1)))]) rfl rfl ⟨rfl, rfl, rfl, rfl, trivial⟩) ?_
                                  refine aw_seq ?_
                                  refine aw_region ?_
                                  refine run_s (ss_loadS rfl rfl rfl rfl) rfl ?_
                                  refine run_s (ss_move rfl) rfl ?_
                                  obtain ⟨q106, h⟩ := h
                                  refine run_w (ws_call (xs := [.tmp 191, .tmp 192]) (ids := [193]) rfl rfl rfl rfl (c_spec_QuotientRack r3_0 r3_1 q106) rfl ?_ )
                                  rintro _ rfl
                                  refine ⟨rfl, ?_⟩
                                  refine run_s (ss_move rfl) rfl ?_
                                  refine run_s (ss_extract rfl rfl) rfl ?_
                                  refine run_s (ss_extract rfl rfl) rfl ?_
                                  refine run_w (ws_alloc (id := 24) rfl (Nat.le_of_ble_eq_true rfl) ⟨rfl, ?_⟩)
                                  refine run_w (ws_storeS rfl rfl (Nat.le_of_ble_eq_true rfl) rfl rfl rfl ⟨rfl, ?_⟩)
                                  refine run_s (ss_assign rfl) rfl ?_
                                  refine run_nil ?_
                                  refine aw_gh (gh_to (n := 206) (σ' := [(24, ⟨[.hole], [(0, .ref 193)]⟩), (193, ⟨orows (QuoT r3_0 r3_1), []⟩), (22, ⟨[.lst (rows (QuoT r3_0 r3_1))], []⟩), (20, ⟨[.lst (rows r3_0)], []⟩), (16, ⟨[.lst (rows (QuoT r1_0 (CgfT r1_0 r1_1 r1_2)))], []⟩), (3, ⟨[.lst (rows r1_0)], []⟩)]) (env' := [(22, .cell 22 0), (23, .c (ci (QuoE r3_0 r3_1))), (24, .cell 24 0), (25, .c (ci (QuoE r3_0 r3_1)))]) rfl rfl ⟨rfl, rfl, rfl, rfl, trivial⟩) ?_
                                  refine aw_gh (gh_frzE (id := 193) (fun r => C.lst (ints r)) rfl (fun _ => (fz_own (fz_map (fun _ => rfl) _)))) ?_
                                  refine aw_gh (gh_fillc (id := 24) (j := 0) rfl rfl (Nat.le_of_ble_eq_true rfl)) ?_
                                  refine aw_gh (gh_to (n := 206) (σ' := [(24, ⟨[.lst (rows (QuoT r3_0 r3_1))], []⟩), (22, ⟨[.lst (rows (QuoT r3_0 r3_1))], []⟩), (20, ⟨[.lst (rows r3_0)], []⟩), (16, ⟨[.lst (rows (QuoT r1_0 (CgfT r1_0 r1_1 r1_2)))], []⟩), (3, ⟨[.lst (rows r1_0)], []⟩)]) (env' := [(22, .cell 22 0), (23, .c (ci (QuoE r3_0 r3_1))), (24, .cell 24 0), (25, .c (ci (QuoE r3_0 r3_1)))]) rfl rfl ⟨rfl, rfl, rfl, rfl, trivial⟩) ?_
                                  refine aw_seq ?_
                                  refine aw_region ?_
                                  refine run_s (ss_move rfl) rfl ?_
                                  refine run_s (ss_move rfl) rfl ?_
                                  refine run_s (ss_eql rfl rfl) rfl ?_
                                  refine run_s (ss_move rfl) rfl ?_
                                  refine run_split (s := 199) rfl (fun q108 => ?_) (fun q108 => ?_)
                                  · replace h := h.1 (of_decide_eq_true q108)
                                    refine run_gt rfl rfl q108 ?_
                                    refine run_s (ss_field_cell rfl) rfl ?_
                                    refine run_gt rfl rfl q108 ?_
                                    refine run_s (ss_loadC rfl rfl rfl rfl rfl) rfl ?_
                                    refine run_gt rfl rfl q108 ?_
                                    refine run_s (ss_field_cell rfl) rfl ?_
                                    refine run_gt rfl rfl q108 ?_
                                    refine run_s (ss_loadC rfl rfl rfl rfl rfl) rfl ?_
                                    refine run_gt rfl rfl q108 ?_
                                    obtain ⟨q109, h⟩ := h
                                    refine run_w (ws_call (xs := [.tmp 201, .tmp 203]) (ids := []) rfl rfl rfl rfl (c_laws_same9 (QuoT r3_0 r3_1) (QuoT r3_0 r3_1) q109) rfl ?_ )
                                    rintro _ rfl
                                    refine ⟨rfl, ?_⟩
                                    refine run_s (ss_pickT rfl q108 rfl) rfl ?_
                                    refine run_s (ss_assign rfl) rfl ?_
                                    refine run_nil ?_
                                    refine aw_ret ?_
                                    exact retAF_mk (retv1 rfl (rv_tmp rfl)) rfl rfl ⟨_, (cle_refl _), _, h, rfl⟩
                                  · replace h := h.2 (of_decide_eq_false q108)
                                    refine run_gf rfl rfl q108 rfl ?_
                                    refine run_gf rfl rfl q108 rfl ?_
                                    refine run_gf rfl rfl q108 rfl ?_
                                    refine run_gf rfl rfl q108 rfl ?_
                                    refine run_gf rfl rfl q108 rfl ?_
                                    refine run_s (ss_pickF rfl q108 rfl) rfl ?_
                                    refine run_s (ss_assign rfl) rfl ?_
                                    refine run_nil ?_
                                    refine aw_ret ?_
                                    exact retAF_mk (retv1 rfl (rv_tmp rfl)) rfl rfl ⟨_, (cle_refl _), _, h, rfl⟩
                          · replace h := h.2 (q59)
                            refine rd_no rfl rfl rfl q59 rfl ?_
                            refine rd_no rfl rfl rfl q59 rfl ?_
                            refine rd_no rfl rfl rfl q59 rfl ?_
                            refine rd_s rfl rfl ⟨_, _, rfl, rfl, q57⟩ (ss_pickF rfl q59 rfl) rfl ?_
                            refine rd_s rfl rfl ⟨_, _, rfl, rfl, q57⟩ (ss_move rfl) rfl ?_
                            refine rd_split (s := 133) rfl (fun q111 => ?_) (fun q111 => ?_)
                            · cases q111
                            · skip
                              refine rd_no rfl rfl rfl q111 rfl ?_
                              refine rd_no rfl rfl rfl q111 rfl ?_
                              refine rd_no rfl rfl rfl q111 rfl ?_
                              refine rd_s rfl rfl ⟨_, _, rfl, rfl, q57⟩ (ss_pickF rfl q111 rfl) rfl ?_
                              refine rd_s rfl rfl trivial (ss_pickF rfl q57 rfl) rfl ?_
                              refine rd_nil ?_
                              refine aw_cond rfl (fun q112 => ?_) (fun q112 => ?_)
                              · cases q112
                              · skip
                                refine aw_skip ?_
                                refine aw_seq ?_
                                refine aw_seq ?_
                                refine aw_gh (gh_to (n := 206) (σ' := [(16, ⟨[.lst (rows (QuoT r1_0 (CgfT r1_0 r1_1 r1_2)))], []⟩), (3, ⟨[.lst (rows r1_0)], []⟩)]) (env' := [(0, .c (.lst (bys code))), (3, .cell 3 0), (6, .c (.lst (ints (CgfT r1_0 r1_1 r1_2)))), (16, .cell 16 0)]) rfl rfl ⟨rfl, rfl, rfl, rfl, trivial⟩) ?_
                                refine aw_region ?_
                                refine run_s (ss_assign rfl) rfl ?_
                                refine run_nil ?_
                                refine aw_block ?_
                                obtain ⟨H5, m5, q113, h⟩ := h
                                refine aw_loop1 (fun (v18_1 : Int) => ⟨[(16, ⟨[.lst (rows (QuoT r1_0 (CgfT r1_0 r1_1 r1_2)))], []⟩), (3, ⟨[.lst (rows r1_0)], []⟩)], [(0, .c (.lst (bys code))), (3, .cell 3 0), (6, .c (.lst (ints (CgfT r1_0 r1_1 r1_2)))), (16, .cell 16 0), (18, .c (ci v18_1))], 206⟩) H5 m5 ⟨0, ghe_to (n := 206) rfl rfl ⟨rfl, rfl, rfl, rfl, rfl, trivial⟩, q113⟩ ?_
                                rintro v18_1 q113
                                replace h := h v18_1 q113
                                refine aw_seq ?_
                                refine aw_seq ?_
                                refine aw_region ?_
                                refine run_s (ss_move rfl) rfl ?_
                                refine run_s (ss_field_cell rfl) rfl ?_
                                refine run_s (ss_loadC rfl rfl rfl rfl rfl) rfl ?_
                                refine run_s (ss_lenL (f := (fun r => C.lst (ints r))) rfl) rfl ?_
                                refine run_s (ss_lss rfl rfl) rfl ?_
                                refine run_nil ?_
                                refine aw_cond rfl (fun q114 => ?_) (fun q114 => ?_)
                                · replace h := h.1 (of_decide_eq_true q114)
                                  refine aw_skip ?_
                                  refine aw_seq ?_
                                  refine aw_block ?_
                                  refine aw_seq ?_
                                  refine aw_region ?_
                                  refine run_s (ss_assign rfl) rfl ?_
                                  refine run_nil ?_
                                  refine aw_block ?_
                                  obtain ⟨H6, m6, q115, h⟩ := h
                                  refine aw_loop1 (fun (v19_2 : Int) => ⟨[(16, ⟨[.lst (rows (QuoT r1_0 (CgfT r1_0 r1_1 r1_2)))], []⟩), (3, ⟨[.lst (rows r1_0)], []⟩)], [(0, .c (.lst (bys code))), (3, .cell 3 0), (6, .c (.lst (ints (CgfT r1_0 r1_1 r1_2)))), (16, .cell 16 0), (18, .c (ci v18_1)), (19, .c (ci v19_2))], 206⟩) H6 m6 ⟨0, ghe_to (n := 206) rfl rfl ⟨rfl, rfl, rfl, rfl, rfl, rfl, trivial⟩, q115⟩ ?_
                                  rintro v19_2 q115
                                  replace h := h v19_2 q115
                                  refine aw_seq ?_
                                  refine aw_seq ?_
                                  refine aw_region ?_
                                  refine run_s (ss_move rfl) rfl ?_
                                  refine run_s (ss_field_cell rfl) rfl ?_
                                  refine run_s (ss_loadC rfl rfl rfl rfl rfl) rfl ?_
                                  refine run_s (ss_lenL (f := (fun r => C.lst (ints r))) rfl) rfl ?_
                                  refine run_s (ss_lss rfl rfl) rfl ?_
                                  refine run_nil ?_
                                  refine aw_cond rfl (fun q116 => ?_) (fun q116 => ?_)
                                  · replace h := h.1 (of_decide_eq_true q116)
                                    refine aw_skip ?_
                                    refine aw_seq ?_
                                    refine aw_block ?_
                                    refine aw_seq ?_
                                    refine aw_gh (gh_to (n := 206) (σ' := [(16, ⟨[.lst (rows (QuoT r1_0 (CgfT r1_0 r1_1 r1_2)))], []⟩), (3, ⟨[.lst (rows r1_0)], []⟩)]) (env' := [(0, .c (.lst (bys code))), (3, .cell 3 0), (6, .c (.lst (ints (CgfT r1_0 r1_1 r1_2)))), (16, .cell 16 0), (18, .c (ci v18_1)), (19, .c (ci v19_2))]) rfl rfl ⟨rfl, rfl, rfl, rfl, rfl, rfl, trivial⟩) ?_
                                    refine aw_regionD (kd := kdl [0, 1, 0, 0, 0, 1, 0, 1, 0, 0, 0, 1, 0, 1, 0, 0, 1, 0, 0, 1, 0, 0, 1, 0, 1, 0]) (ord := [0, 2, 3, 4, 8, 9, 10, 14, 15, 17, 20, 1, 5, 6, 7, 11, 12, 13, 16, 18, 19, 21, 22, 23, 24, 25]) [] mixed (by kernel_rfl) ?_
                                    refine rd_s rfl rfl trivial (ss_field_cell rfl) rfl ?_
                                    refine rd_s rfl rfl trivial (ss_move rfl) rfl ?_
                                    refine rd_s rfl rfl trivial (ss_move rfl) rfl ?_
                                    obtain ⟨q117, h⟩ := h
                                    refine rd_s rfl rfl trivial (ss_idxL rfl rfl q117) rfl ?_
                                    refine rd_s rfl rfl trivial (ss_move rfl) rfl ?_
                                    refine rd_s rfl rfl trivial (ss_move rfl) rfl ?_
                                    obtain ⟨q118, h⟩ := h
                                    refine rd_s rfl rfl trivial (ss_idxL rfl rfl q118) rfl ?_
                                    refine rd_s rfl rfl trivial (ss_move rfl) rfl ?_
                                    refine rd_s rfl rfl trivial (ss_field_cell rfl) rfl ?_
                                    refine rd_s rfl rfl trivial (ss_move rfl) rfl ?_
                                    refine rd_s rfl rfl trivial (ss_move rfl) rfl ?_
                                    refine rd_l rfl rfl trivial (ss_loadC rfl rfl rfl rfl rfl) rfl ?_
                                    refine rd_l rfl rfl trivial (ss_loadL (f := ci) rfl q117) rfl ?_
                                    obtain ⟨q119, h⟩ := h
                                    refine rd_s rfl rfl trivial (ss_idxL rfl rfl q119) rfl ?_
                                    refine rd_l rfl rfl trivial (ss_loadL (f := (fun r => C.lst (ints r))) rfl q119) rfl ?_
                                    refine rd_l rfl rfl trivial (ss_loadL (f := ci) rfl q118) rfl ?_
                                    obtain ⟨q120, h⟩ := h
                                    refine rd_s rfl rfl trivial (ss_idxL rfl rfl q120) rfl ?_
                                    refine rd_l rfl rfl trivial (ss_loadL (f := ci) rfl q120) rfl ?_
                                    refine rd_l rfl rfl trivial (ss_loadC rfl rfl rfl rfl rfl) rfl ?_
                                    obtain ⟨q121, h⟩ := h
                                    refine rd_s rfl rfl trivial (ss_idxL rfl rfl q121) rfl ?_
                                    refine rd_l rfl rfl trivial (ss_loadL (f := (fun r => C.lst (ints r))) rfl q121) rfl ?_
                                    obtain ⟨q122, h⟩ := h
                                    refine rd_s rfl rfl trivial (ss_idxL rfl rfl q122) rfl ?_
                                    refine rd_l rfl rfl trivial (ss_loadL (f := ci) rfl q122) rfl ?_
                                    obtain ⟨q123, h⟩ := h
                                    refine rd_s rfl rfl trivial (ss_idxL rfl rfl q123) rfl ?_
                                    refine rd_l rfl rfl trivial (ss_loadL (f := ci) rfl q123) rfl ?_
                                    refine rd_s rfl rfl trivial (ss_neq rfl rfl) rfl ?_
                                    refine rd_nil ?_
                                    refine aw_cond rfl (fun q124 => ?_) (fun q124 => ?_)
                                    · replace h := h.1 (of_decide_eq_false (bnot_t q124))
                                      refine aw_seq ?_
                                      refine aw_gh (gh_to (n := 206) (σ' := [(16, ⟨[.lst (rows (QuoT r1_0 (CgfT r1_0 r1_1 r1_2)))], []⟩), (3, ⟨[.lst (rows r1_0)], []⟩)]) (env' := []) rfl rfl trivial) ?_
                                      refine aw_region ?_
                                      refine run_s (ss_assign rfl) rfl ?_
                                      refine run_nil ?_
                                      refine aw_ret ?_
                                      exact retAF_mk (retv1 rfl (rv_tmp rfl)) rfl rfl ⟨_, (cle_refl _), _, h, rfl⟩
                                    · replace h := h.2 (of_decide_eq_true (bnot_f q124))
                                      refine aw_skip ?_
                                      refine aw_gh (gh_to (n := 206) (σ' := [(16, ⟨[.lst (rows (QuoT r1_0 (CgfT r1_0 r1_1 r1_2)))], []⟩), (3, ⟨[.lst (rows r1_0)], []⟩)]) (env' := [(0, .c (.lst (bys code))), (3, .cell 3 0), (6, .c (.lst (ints (CgfT r1_0 r1_1 r1_2)))), (16, .cell 16 0), (18, .c (ci v18_1)), (19, .c (ci v19_2))]) rfl rfl ⟨rfl, rfl, rfl, rfl, rfl, rfl, trivial⟩) ?_
                                      refine aw_region ?_
                                      refine run_s (ss_move rfl) rfl ?_
                                      obtain ⟨q125, h⟩ := h
                                      refine run_s (ss_add rfl rfl q125) rfl ?_
                                      refine run_s (ss_assign rfl) rfl ?_
                                      refine run_nil ?_
                                      exact ⟨v19_2 + 1, ghe_to (n := 206) rfl rfl ⟨rfl, rfl, rfl, rfl, rfl, rfl, trivial⟩, h.1, h.2⟩
                                  · replace h := h.2 (of_decide_eq_false q116)
                                    refine aw_exit ?_
                                    refine aw_region ?_
                                    refine run_s (ss_move rfl) rfl ?_
                                    obtain ⟨q126, h⟩ := h
                                    refine run_s (ss_add rfl rfl q126) rfl ?_
                                    refine run_s (ss_assign rfl) rfl ?_
                                    refine run_nil ?_
                                    exact ⟨v18_1 + 1, ghe_to (n := 206) rfl rfl ⟨rfl, rfl, rfl, rfl, rfl, trivial⟩, h.1, h.2⟩
                                · replace h := h.2 (of_decide_eq_false q114)
                                  refine aw_exit ?_
                                  refine aw_seq ?_
                                  refine aw_region ?_
                                  refine run_s (ss_move rfl) rfl ?_
                                  obtain ⟨q127, h⟩ := h
                                  refine run_w (ws_call (xs := [.tmp 180]) (ids := [181, 1003]) rfl rfl rfl rfl (c_spec_DrawQuotientRack code q127) rfl ?_ )
                                  rintro _ ⟨r4_0, r4_1, q128, rfl⟩
                                  replace h := h r4_0 r4_1 q128
                                  refine ⟨rfl, ?_⟩
                                  refine run_s (ss_move rfl) rfl ?_
                                  refine run_s (ss_extract rfl rfl) rfl ?_
                                  refine run_s (ss_extract rfl rfl) rfl ?_
                                  refine run_w (ws_alloc (id := 20) rfl (Nat.le_of_ble_eq_true rfl) ⟨rfl, ?_⟩)
                                  refine run_w (ws_storeS rfl rfl (Nat.le_of_ble_eq_true rfl) rfl rfl rfl ⟨rfl, ?_⟩)
                                  refine run_s (ss_assign rfl) rfl ?_
                                  refine run_nil ?_
                                  refine aw_gh (gh_to (n := 206) (σ' := [(20, ⟨[.hole], [(0, .ref 181)]⟩), (181, ⟨orows r4_0, []⟩), (1003, ⟨ints r4_1, []⟩), (16, ⟨[.lst (rows (QuoT r1_0 (CgfT r1_0 r1_1 r1_2)))], []⟩), (3, ⟨[.lst (rows r1_0)], []⟩)]) (env' := [(20, .cell 20 0), (21, .ref 1003)]) rfl rfl ⟨rfl, rfl, trivial⟩) ?_
                                  refine aw_gh (gh_frzE (id := 181) (fun r => C.lst (ints r)) rfl (fun _ => (fz_own (fz_map (fun _ => rfl) _)))) ?_
                                  refine aw_gh (gh_fillc (id := 20) (j := 0) rfl rfl (Nat.le_of_ble_eq_true rfl)) ?_
                                  refine aw_gh (gh_to (n := 206) (σ' := [(20, ⟨[.lst (rows r4_0)], []⟩), (1003, ⟨ints r4_1, []⟩), (16, ⟨[.lst (rows (QuoT r1_0 (CgfT r1_0 r1_1 r1_2)))], []⟩), (3, ⟨[.lst (rows r1_0)], []⟩)]) (env' := [(20, .cell 20 0), (21, .ref 1003)]) rfl rfl ⟨rfl, rfl, trivial⟩) ?_
                                  refine aw_gh (gh_frzE (id := 1003) ci rfl (fun _ => rfl)) ?_
                                  refine aw_gh (gh_to (n := 206) (σ' := [(20, ⟨[.lst (rows r4_0)], []⟩), (16, ⟨[.lst (rows (QuoT r1_0 (CgfT r1_0 r1_1 r1_2)))], []⟩), (3, ⟨[.lst (rows r1_0)], []⟩)]) (env' := [(20, .cell 20 0), (21, .c (.lst (ints r4_1)))]) rfl rfl ⟨rfl, rfl, trivial⟩) ?_
                                  refine aw_seq ?_
                                  refine aw_region ?_
                                  refine run_s (ss_loadS rfl rfl rfl rfl) rfl ?_
                                  refine run_s (ss_move rfl) rfl ?_
                                  obtain ⟨q129, h⟩ := h
                                  refine run_w (ws_call (xs := [.tmp 185, .tmp 186]) (ids := [187]) rfl rfl rfl rfl (c_impl_QuotientRack r4_0 r4_1 q129) rfl ?_ )
                                  rintro _ rfl
                                  refine ⟨rfl, ?_⟩
                                  refine run_s (ss_move rfl) rfl ?_
                                  refine run_s (ss_extract rfl rfl) rfl ?_
                                  refine run_s (ss_extract rfl rfl) rfl ?_
                                  refine run_w (ws_alloc (id := 22) rfl (Nat.le_of_ble_eq_true rfl) ⟨rfl, ?_⟩)
                                  refine run_w (ws_storeS rfl rfl (Nat.le_of_ble_eq_true rfl) rfl rfl rfl ⟨rfl, ?_⟩)
                                  refine run_s (ss_assign rfl) rfl ?_
                                  refine run_nil ?_
                                  refine aw_gh (gh_to (n := 206) (σ' := [(22, ⟨[.hole], [(0, .ref 187)]⟩), (187, ⟨orows (QuoT r4_0 r4_1), []⟩), (20, ⟨[.lst (rows r4_0)], []⟩), (16, ⟨[.lst (rows (QuoT r1_0 (CgfT r1_0 r1_1 r1_2)))], []⟩), (3, ⟨[.lst (rows r1_0)], []⟩)]) (env' := [(20, .cell 20 0), (21, .c (.lst (ints r4_1))), (22, .cell 22 0), (23, .c (ci (QuoE r4_0 r4_1)))]) rfl rfl ⟨rfl, rfl, rfl, rfl, trivial⟩) ?_
                                  refine aw_gh (gh_frzE (id := 187) (fun r => C.lst (ints r)) rfl (fun _ => (fz_own (fz_map (fun _ => rfl) _)))) ?_
                                  refine aw_gh (gh_fillc (id := 22) (j := 0) rfl rfl (Nat.le_of_ble_eq_true rfl)) ?_
                                  refine aw_gh (gh_to (n := 206) (σ' := [(22, ⟨[.lst (rows (QuoT r4_0 r4_1))], []⟩), (20, ⟨[.lst (rows r4_0)], []⟩), (16, ⟨[.lst (rows (QuoT r1_0 (CgfT r1_0 r1_1 r1_2)))], []⟩), (3, ⟨[.lst (rows r1_0)], []⟩)]) (env' := [(20, .cell 20 0), (21, .c (.lst (ints r4_1))), (22, .cell 22 0), (23, .c (ci (QuoE r4_0 r4_1)))]) rfl rfl ⟨rfl, rfl, rfl, rfl, trivial⟩) ?_
                                  refine aw_seq ?_
                                  refine aw_region ?_
                                  refine run_s (ss_loadS rfl rfl rfl rfl) rfl ?_
                                  refine run_s (ss_move rfl) rfl ?_
                                  obtain ⟨q131, h⟩ := h
                                  refine run_w (ws_call (xs := [.tmp 191, .tmp 192]) (ids := [193]) rfl rfl rfl rfl (c_spec_QuotientRack r4_0 r4_1 q131) rfl ?_ )
                                  rintro _ rfl
                                  refine ⟨rfl, ?_⟩
                                  refine run_s (ss_move rfl) rfl ?_
                                  refine run_s (ss_extract rfl rfl) rfl ?_
                                  refine run_s (ss_extract rfl rfl) rfl ?_
                                  refine run_w (ws_alloc (id := 24) rfl (Nat.le_of_ble_eq_true rfl) ⟨rfl, ?_⟩)
                                  refine run_w (ws_storeS rfl rfl (Nat.le_of_ble_eq_true rfl) rfl rfl rfl ⟨rfl, ?_⟩)
                                  refine run_s (ss_assign rfl) rfl ?_
                                  refine run_nil ?_
                                  refine aw_gh (gh_to (n := 206) (σ' := [(24, ⟨[.hole], [(0, .ref 193)]⟩), (193, ⟨orows (QuoT r4_0 r4_1), []⟩), (22, ⟨[.lst (rows (QuoT r4_0 r4_1))], []⟩), (20, ⟨[.lst (rows r4_0)], []⟩), (16, ⟨[.lst (rows (QuoT r1_0 (CgfT r1_0 r1_1 r1_2)))], []⟩), (3, ⟨[.lst (rows r1_0)], []⟩)]) (env' := [(22, .cell 22 0), (23, .c (ci (QuoE r4_0 r4_1))), (24, .cell 24 0), (25, .c (ci (QuoE r4_0 r4_1)))]) rfl rfl ⟨rfl, rfl, rfl, rfl, trivial⟩) ?_
                                  refine aw_gh (gh_frzE (id := 193) (fun r => C.lst (ints r)) rfl (fun _ => (fz_own (fz_map (fun _ => rfl) _)))) ?_
                                  refine aw_gh (gh_fillc (id := 24) (j := 0) rfl rfl (Nat.le_of_ble_eq_true rfl)) ?_
                                  refine aw_gh (gh_to (n := 206) (σ' := [(24, ⟨[.lst (rows (QuoT r4_0 r4_1))], []⟩), (22, ⟨[.lst (rows (QuoT r4_0 r4_1))], []⟩), (20, ⟨[.lst (rows r4_0)], []⟩), (16, ⟨[.lst (rows (QuoT r1_0 (CgfT r1_0 r1_1 r1_2)))], []⟩), (3, ⟨[.lst (rows r1_0)], []⟩)]) (env' := [(22, .cell 22 0), (23, .c (ci (QuoE r4_0 r4_1))), (24, .cell 24 0), (25, .c (ci (QuoE r4_0 r4_1)))]) rfl rfl ⟨rfl, rfl, rfl, rfl, trivial⟩) ?_
                                  refine aw_seq ?_
                                  refine aw_region ?_
                                  refine run_s (ss_move rfl) rfl ?_
                                  refine run_s (ss_move rfl) rfl ?_
                                  refine run_s (ss_eql rfl rfl) rfl ?_
                                  refine run_s (ss_move rfl) rfl ?_
                                  refine run_split (s := 199) rfl (fun q133 => ?_) (fun q133 => ?_)
                                  · replace h := h.1 (of_decide_eq_true q133)
                                    refine run_gt rfl rfl q133 ?_
                                    refine run_s (ss_field_cell rfl) rfl ?_
                                    refine run_gt rfl rfl q133 ?_
                                    refine run_s (ss_loadC rfl rfl rfl rfl rfl) rfl ?_
                                    refine run_gt rfl rfl q133 ?_
                                    refine run_s (ss_field_cell rfl) rfl ?_
                                    refine run_gt rfl rfl q133 ?_
                                    refine run_s (ss_loadC rfl rfl rfl rfl rfl) rfl ?_
                                    refine run_gt rfl rfl q133 ?_
                                    obtain ⟨q134, h⟩ := h
                                    refine run_w (ws_call (xs := [.tmp 201, .tmp 203]) (ids := []) rfl rfl rfl rfl (c_laws_same9 (QuoT r4_0 r4_1) (QuoT r4_0 r4_1) q134) rfl ?_ )
                                    rintro _ rfl
                                    refine ⟨rfl, ?_⟩
                                    refine run_s (ss_pickT rfl q133 rfl) rfl ?_
                                    refine run_s (ss_assign rfl) rfl ?_
                                    refine run_nil ?_
                                    refine aw_ret ?_
                                    exact retAF_mk (retv1 rfl (rv_tmp rfl)) rfl rfl ⟨_, (cle_refl _), _, h, rfl⟩
                                  · replace h := h.2 (of_decide_eq_false q133)
                                    refine run_gf rfl rfl q133 rfl ?_
                                    refine run_gf rfl rfl q133 rfl ?_
                                    refine run_gf rfl rfl q133 rfl ?_
                                    refine run_gf rfl rfl q133 rfl ?_
                                    refine run_gf rfl rfl q133 rfl ?_
                                    refine run_s (ss_pickF rfl q133 rfl) rfl ?_
                                    refine run_s (ss_assign rfl) rfl ?_
                                    refine run_nil ?_
                                    refine aw_ret ?_
                                    exact retAF_mk (retv1 rfl (rv_tmp rfl)) rfl rfl ⟨_, (cle_refl _), _, h, rfl⟩

theorem c_laws_FnRackQuotients (code : List Int) (hp : code.length ≤ 9223372036854775807 ∧ ∀ z_ ∈ code, 0 ≤ z_ ∧ z_ ≤ 255) : AF Try.prog 7 [.lst (bys code)] (fun R_ => R_ = cb true) :=
  (w_laws_FnRackQuotients code (fun y0 => y0 = true) (p_laws_FnRackQuotients code hp)).mono (by rintro r ⟨_, rfl, rfl⟩; rfl)

end Go.Proofs.Ytbodlnpmplcaoaa

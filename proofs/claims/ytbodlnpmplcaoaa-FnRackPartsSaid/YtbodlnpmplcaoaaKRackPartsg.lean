/- Contracts of functions that the law FnRackParts reaches: conditions, plain proofs, walks; no condition. -/
import Derived.Test.YtbodlnpmplcaoaaKRackPartsf
namespace Go.Proofs.Ytbodlnpmplcaoaa

def wp_laws_FnRackParts (code : List Int) (Q : Bool → Prop) : Prop :=
 ((4096 < (code.length : Int) →
 Q true) ∧
 (¬ (4096 < (code.length : Int)) →
 (small code ∧ bytes code) ∧
 ∀ (r1_0 : List (List Int)) (r1_1 : List Int), (drT 12 r1_0 ∧ (r1_1.length : Int) ≤ 12 ∧ ∀ z_ ∈ r1_1, 0 ≤ z_ ∧ z_ ≤ 13) →
 (small2 r1_0 ∧ small r1_1) ∧
 (small2 r1_0 ∧ small r1_1) ∧
 ((¬ (SbfE r1_0 r1_1 = SbfE r1_0 r1_1) →
 Q false) ∧
 (SbfE r1_0 r1_1 = SbfE r1_0 r1_1 →
 (small (SbfT r1_0 r1_1) ∧ small (SbfT r1_0 r1_1)) ∧
 ((¬ ((SbfT r1_0 r1_1) = (SbfT r1_0 r1_1)) →
 Q false) ∧
 ((SbfT r1_0 r1_1) = (SbfT r1_0 r1_1) →
 ((SbfE r1_0 r1_1 = 0 →
 (small2 r1_0 ∧ small (SbfT r1_0 r1_1)) ∧
 ((¬ (ResE r1_0 (SbfT r1_0 r1_1) = 0) →
 Q false) ∧
 (ResE r1_0 (SbfT r1_0 r1_1) = 0 →
 (small2 (ResT r1_0 (SbfT r1_0 r1_1))) ∧
 (((isRk (ResT r1_0 (SbfT r1_0 r1_1))) = false →
 Q false) ∧
 ((isRk (ResT r1_0 (SbfT r1_0 r1_1))) = true →
 ((¬ (((ResT r1_0 (SbfT r1_0 r1_1)).length : Int) = ((SbfT r1_0 r1_1).length : Int)) →
 Q false) ∧
 (((ResT r1_0 (SbfT r1_0 r1_1)).length : Int) = ((SbfT r1_0 r1_1).length : Int) →
 ∃ (H1 : Int → Prop) (m1 : Int → Nat),
 H1 0 ∧
 ∀ (v11_1 : Int), H1 v11_1 →
 ( ((v11_1 < (r1_1.length : Int) →
 (0 ≤ v11_1 ∧ v11_1 < (r1_1.length : Int)) ∧
 (small (SbfT r1_0 r1_1)) ∧
 ((((SbfT r1_0 r1_1).contains (el r1_1 v11_1)) = false →
 Q false) ∧
 (((SbfT r1_0 r1_1).contains (el r1_1 v11_1)) = true →
 (InI (v11_1 + 1)) ∧
 (H1 (v11_1 + 1) ∧ m1 (v11_1 + 1) < m1 v11_1)))) ∧
 (¬ (v11_1 < (r1_1.length : Int)) →
 (small code ∧ bytes code) ∧
 ∀ (r2_0 : List (List Int)), (drT 9 r2_0) →
 (small2 r2_0) ∧
 (small2 r2_0) ∧
 ((¬ (rkE r2_0 = rkE r2_0) →
 Q false) ∧
 (rkE r2_0 = rkE r2_0 →
 (small (SubT r2_0) ∧ small (SubT r2_0)) ∧
 ((¬ ((SubT r2_0) = (SubT r2_0)) →
 Q false) ∧
 ((SubT r2_0) = (SubT r2_0) →
 ((¬ (rkE r2_0 = 0) →
 Q (decide (((SubT r2_0).length : Int) = 0))) ∧
 (rkE r2_0 = 0 →
 ((((SubT r2_0).length : Int) = 0 →
 Q false) ∧
 (¬ (((SubT r2_0).length : Int) = 0) →
 (InI (((SubT r2_0).length : Int) - 1)) ∧
 (0 ≤ ((SubT r2_0).length : Int) - 1 ∧ ((SubT r2_0).length : Int) - 1 < ((SubT r2_0).length : Int)) ∧
 ((0 : Int) ≤ (r2_0.length : Int) ∧ (r2_0.length : Int) ≤ 18446744073709551615) ∧
 ((0 : Int) ≤ (r2_0.length : Int) ∧ (r2_0.length : Int) ≤ 62 ∧ InI (1 * (2 : Int) ^ (r2_0.length : Int).toNat)) ∧
 (InI ((1 * (2 : Int) ^ (r2_0.length : Int).toNat) - 1)) ∧
 ((¬ (el (SubT r2_0) (((SubT r2_0).length : Int) - 1) = (1 * (2 : Int) ^ (r2_0.length : Int).toNat) - 1) →
 Q false) ∧
 (el (SubT r2_0) (((SubT r2_0).length : Int) - 1) = (1 * (2 : Int) ^ (r2_0.length : Int).toNat) - 1 →
 (small code ∧ bytes code ∧ 0 ≤ (1241 : Int) ∧ (1241 : Int) ≤ 18446744073709551615) ∧
 ∀ (r3_0 : List Int) (r3_1 : Int) (r3_2 : Int), (r3_0 = code ∧ okS code r3_1 r3_2) →
 (okS r3_0 r3_1 r3_2 ∧ InI (r2_0.length : Int)) ∧
 ∀ (r4_0 : Int) (o4_0 : List Int) (o4_1 : Int) (o4_2 : Int), (nxP (r2_0.length : Int) r4_0 ∧ o4_0 = r3_0 ∧ okS r3_0 o4_1 o4_2) →
 (okS o4_0 o4_1 o4_2 ∧ InI (r2_0.length : Int)) ∧
 ∀ (r5_0 : Int) (o5_0 : List Int) (o5_1 : Int) (o5_2 : Int), (nxP (r2_0.length : Int) r5_0 ∧ o5_0 = o4_0 ∧ okS o4_0 o5_1 o5_2) →
 (small2 r2_0 ∧ small ([r4_0, r5_0])) ∧
 ∃ (H2 : Int → Int → Prop) (m2 : Int → Int → Nat),
 H2 0 0 ∧
 ∀ (v23_2 : Int) (v24_2 : Int), H2 v23_2 v24_2 →
 ( ((v24_2 < ((SbfT r2_0 ([r4_0, r5_0])).length : Int) →
 (0 ≤ v24_2 ∧ v24_2 < ((SbfT r2_0 ([r4_0, r5_0])).length : Int)) ∧
 ((el (SbfT r2_0 ([r4_0, r5_0])) v24_2 < 0 →
 Q false) ∧
 (¬ (el (SbfT r2_0 ([r4_0, r5_0])) v24_2 < 0) →
 (0 ≤ v24_2 ∧ v24_2 < ((SbfT r2_0 ([r4_0, r5_0])).length : Int)) ∧
 (((r2_0.length : Int) ≤ el (SbfT r2_0 ([r4_0, r5_0])) v24_2 →
 Q false) ∧
 (¬ ((r2_0.length : Int) ≤ el (SbfT r2_0 ([r4_0, r5_0])) v24_2) →
 (0 ≤ v24_2 ∧ v24_2 < ((SbfT r2_0 ([r4_0, r5_0])).length : Int)) ∧
 ((0 : Int) ≤ el (SbfT r2_0 ([r4_0, r5_0])) v24_2 ∧ el (SbfT r2_0 ([r4_0, r5_0])) v24_2 ≤ 18446744073709551615) ∧
 ((0 : Int) ≤ el (SbfT r2_0 ([r4_0, r5_0])) v24_2 ∧ el (SbfT r2_0 ([r4_0, r5_0])) v24_2 ≤ 62 ∧ InI (1 * (2 : Int) ^ (el (SbfT r2_0 ([r4_0, r5_0])) v24_2).toNat)) ∧
 (((0 : Int) ≤ v23_2 ∧ v23_2 ≤ 9223372036854775807) ∧ (0 : Int) ≤ 1 * (2 : Int) ^ (el (SbfT r2_0 ([r4_0, r5_0])) v24_2).toNat ∧ 1 * (2 : Int) ^ (el (SbfT r2_0 ([r4_0, r5_0])) v24_2).toNat ≤ 9223372036854775807) ∧
 (InI (v24_2 + 1)) ∧
 (H2 ((v23_2.toNat ||| (1 * (2 : Int) ^ (el (SbfT r2_0 ([r4_0, r5_0])) v24_2).toNat).toNat : Nat) : Int) (v24_2 + 1) ∧ m2 ((v23_2.toNat ||| (1 * (2 : Int) ^ (el (SbfT r2_0 ([r4_0, r5_0])) v24_2).toNat).toNat : Nat) : Int) (v24_2 + 1) < m2 v23_2 v24_2)))))) ∧
 (¬ (v24_2 < ((SbfT r2_0 ([r4_0, r5_0])).length : Int)) →
 ((SbfE r2_0 ([r4_0, r5_0]) = 0 →
 (small (SubT r2_0)) ∧
 ((((SubT r2_0).contains v23_2) = true →
 ((0 : Int) ≤ r4_0 ∧ r4_0 ≤ 18446744073709551615) ∧
 ((0 : Int) ≤ r4_0 ∧ r4_0 ≤ 62 ∧ InI (1 * (2 : Int) ^ r4_0.toNat)) ∧
 (0 ≤ r4_0 ∧ r4_0 < (r2_0.length : Int)) ∧
 (0 ≤ r4_0 ∧ r4_0 < ((el r2_0 r4_0).length : Int)) ∧
 (small (SubT r2_0)) ∧
 Q (((SubT r2_0).contains (1 * (2 : Int) ^ r4_0.toNat)) == (decide (el (el r2_0 r4_0) r4_0 = r4_0)))) ∧
 (((SubT r2_0).contains v23_2) = false →
 Q false))) ∧
 (¬ (SbfE r2_0 ([r4_0, r5_0]) = 0) →
 Q false))))))))))))))))))))))))) ∧
 (¬ (SbfE r1_0 r1_1 = 0) →
 (small code ∧ bytes code) ∧
 ∀ (r6_0 : List (List Int)), (drT 9 r6_0) →
 (small2 r6_0) ∧
 (small2 r6_0) ∧
 ((¬ (rkE r6_0 = rkE r6_0) →
 Q false) ∧
 (rkE r6_0 = rkE r6_0 →
 (small (SubT r6_0) ∧ small (SubT r6_0)) ∧
 ((¬ ((SubT r6_0) = (SubT r6_0)) →
 Q false) ∧
 ((SubT r6_0) = (SubT r6_0) →
 ((¬ (rkE r6_0 = 0) →
 Q (decide (((SubT r6_0).length : Int) = 0))) ∧
 (rkE r6_0 = 0 →
 ((((SubT r6_0).length : Int) = 0 →
 Q false) ∧
 (¬ (((SubT r6_0).length : Int) = 0) →
 (InI (((SubT r6_0).length : Int) - 1)) ∧
 (0 ≤ ((SubT r6_0).length : Int) - 1 ∧ ((SubT r6_0).length : Int) - 1 < ((SubT r6_0).length : Int)) ∧
 ((0 : Int) ≤ (r6_0.length : Int) ∧ (r6_0.length : Int) ≤ 18446744073709551615) ∧
 ((0 : Int) ≤ (r6_0.length : Int) ∧ (r6_0.length : Int) ≤ 62 ∧ InI (1 * (2 : Int) ^ (r6_0.length : Int).toNat)) ∧
 (InI ((1 * (2 : Int) ^ (r6_0.length : Int).toNat) - 1)) ∧
 ((¬ (el (SubT r6_0) (((SubT r6_0).length : Int) - 1) = (1 * (2 : Int) ^ (r6_0.length : Int).toNat) - 1) →
 Q false) ∧
 (el (SubT r6_0) (((SubT r6_0).length : Int) - 1) = (1 * (2 : Int) ^ (r6_0.length : Int).toNat) - 1 →
 (small code ∧ bytes code ∧ 0 ≤ (1241 : Int) ∧ (1241 : Int) ≤ 18446744073709551615) ∧
 ∀ (r7_0 : List Int) (r7_1 : Int) (r7_2 : Int), (r7_0 = code ∧ okS code r7_1 r7_2) →
 (okS r7_0 r7_1 r7_2 ∧ InI (r6_0.length : Int)) ∧
 ∀ (r8_0 : Int) (o8_0 : List Int) (o8_1 : Int) (o8_2 : Int), (nxP (r6_0.length : Int) r8_0 ∧ o8_0 = r7_0 ∧ okS r7_0 o8_1 o8_2) →
 (okS o8_0 o8_1 o8_2 ∧ InI (r6_0.length : Int)) ∧
 ∀ (r9_0 : Int) (o9_0 : List Int) (o9_1 : Int) (o9_2 : Int), (nxP (r6_0.length : Int) r9_0 ∧ o9_0 = o8_0 ∧ okS o8_0 o9_1 o9_2) →
 (small2 r6_0 ∧ small ([r8_0, r9_0])) ∧
 ∃ (H3 : Int → Int → Prop) (m3 : Int → Int → Nat),
 H3 0 0 ∧
 ∀ (v23_1 : Int) (v24_1 : Int), H3 v23_1 v24_1 →
 ( ((v24_1 < ((SbfT r6_0 ([r8_0, r9_0])).length : Int) →
 (0 ≤ v24_1 ∧ v24_1 < ((SbfT r6_0 ([r8_0, r9_0])).length : Int)) ∧
 ((el (SbfT r6_0 ([r8_0, r9_0])) v24_1 < 0 →
 Q false) ∧
 (¬ (el (SbfT r6_0 ([r8_0, r9_0])) v24_1 < 0) →
 (0 ≤ v24_1 ∧ v24_1 < ((SbfT r6_0 ([r8_0, r9_0])).length : Int)) ∧
 (((r6_0.length : Int) ≤ el (SbfT r6_0 ([r8_0, r9_0])) v24_1 →
 Q false) ∧
 (¬ ((r6_0.length : Int) ≤ el (SbfT r6_0 ([r8_0, r9_0])) v24_1) →
 (0 ≤ v24_1 ∧ v24_1 < ((SbfT r6_0 ([r8_0, r9_0])).length : Int)) ∧
 ((0 : Int) ≤ el (SbfT r6_0 ([r8_0, r9_0])) v24_1 ∧ el (SbfT r6_0 ([r8_0, r9_0])) v24_1 ≤ 18446744073709551615) ∧
 ((0 : Int) ≤ el (SbfT r6_0 ([r8_0, r9_0])) v24_1 ∧ el (SbfT r6_0 ([r8_0, r9_0])) v24_1 ≤ 62 ∧ InI (1 * (2 : Int) ^ (el (SbfT r6_0 ([r8_0, r9_0])) v24_1).toNat)) ∧
 (((0 : Int) ≤ v23_1 ∧ v23_1 ≤ 9223372036854775807) ∧ (0 : Int) ≤ 1 * (2 : Int) ^ (el (SbfT r6_0 ([r8_0, r9_0])) v24_1).toNat ∧ 1 * (2 : Int) ^ (el (SbfT r6_0 ([r8_0, r9_0])) v24_1).toNat ≤ 9223372036854775807) ∧
 (InI (v24_1 + 1)) ∧
 (H3 ((v23_1.toNat ||| (1 * (2 : Int) ^ (el (SbfT r6_0 ([r8_0, r9_0])) v24_1).toNat).toNat : Nat) : Int) (v24_1 + 1) ∧ m3 ((v23_1.toNat ||| (1 * (2 : Int) ^ (el (SbfT r6_0 ([r8_0, r9_0])) v24_1).toNat).toNat : Nat) : Int) (v24_1 + 1) < m3 v23_1 v24_1)))))) ∧
 (¬ (v24_1 < ((SbfT r6_0 ([r8_0, r9_0])).length : Int)) →
 ((SbfE r6_0 ([r8_0, r9_0]) = 0 →
 (small (SubT r6_0)) ∧
 ((((SubT r6_0).contains v23_1) = true →
 ((0 : Int) ≤ r8_0 ∧ r8_0 ≤ 18446744073709551615) ∧
 ((0 : Int) ≤ r8_0 ∧ r8_0 ≤ 62 ∧ InI (1 * (2 : Int) ^ r8_0.toNat)) ∧
 (0 ≤ r8_0 ∧ r8_0 < (r6_0.length : Int)) ∧
 (0 ≤ r8_0 ∧ r8_0 < ((el r6_0 r8_0).length : Int)) ∧
 (small (SubT r6_0)) ∧
 Q (((SubT r6_0).contains (1 * (2 : Int) ^ r8_0.toNat)) == (decide (el (el r6_0 r8_0) r8_0 = r8_0)))) ∧
 (((SubT r6_0).contains v23_1) = false →
 Q false))) ∧
 (¬ (SbfE r6_0 ([r8_0, r9_0]) = 0) →
 Q false)))))))))))))))))))))))

@[reducible] def fine2 (t : List (List Int)) : Prop := small2 t ∧ tot t ≤ 1000000000
theorem fine2_nil : fine2 [] := ⟨⟨by simp, by simp⟩, by simp [tot]⟩
theorem mem_ranf {α : Type} {n : Int} {f : Int → α} {r : α} (h : r ∈ ran n f) : ∃ i, (0 ≤ i ∧ i < n) ∧ r = f i := by
  unfold ran at h
  obtain ⟨k, hk, rfl⟩ := List.mem_map.1 h
  have := List.mem_range.1 hk
  exact ⟨k, ⟨by omega, by omega⟩, rfl⟩
theorem fine2_tab {n : Int} {f : Int → Int → Int} (h : n ≤ 1000) : fine2 (tab n f) := by
  refine ⟨⟨by simp [tab]; omega, fun r hr => ?_⟩, ?_⟩
  · obtain ⟨i, _, rfl⟩ := mem_ranf hr
    simp; omega
  · rw [tot_tab]
    have : n.toNat ≤ 1000 := by omega
    have : n.toNat * n.toNat ≤ 1000 * 1000 := Nat.mul_le_mul this this
    omega
theorem fine2_ite {c : Prop} [Decidable c] {t : List (List Int)} (h : c → fine2 t) : fine2 (if c then t else []) := by
  split
  · exact h (by assumption)
  · exact fine2_nil
theorem small_ite {c : Prop} [Decidable c] {t : List Int} (h : c → small t) : small (if c then t else []) := by
  split
  · exact h (by assumption)
  · simp
theorem small_Sub (r : List (List Int)) : small (SubT r) := small_ite fun h => by
  have := isTab_len (isRk_tab h)
  have p2 := pow2_le (k := r.length) (by omega)
  have := subsI_len r ((2 : Int) ^ r.length)
  show _ ≤ (1000000000 : Int); omega
theorem fine_Res (r : List (List Int)) (l : List Int) : fine2 (ResT r l) := fine2_ite fun h => fine2_tab (by
  unfold ResE at h
  split at h
  · rename_i h1
    split at h
    · rename_i h2
      simp only [Bool.and_eq_true] at h2
      have := res_len (isRk_tab h1) (res_el h2.1) h2.2
      omega
    · cases h
  · cases h)
theorem small_Sbf (r : List (List Int)) (l : List Int) : small (SbfT r l) := small_ite fun h => by
  unfold SbfE at h
  split at h
  · rename_i h1
    have hn := isTab_len (isRk_tab h1)
    have := List.length_filter_le (fun x => dec (Sc r l x)) (ran (r.length : Int) id)
    have e : (ran (r.length : Int) id).length = r.length := by simp
    show ((sbI r l).length : Int) ≤ 1000000000
    unfold sbI
    omega
  · cases h
theorem drT_small {m : Int} {t : List (List Int)} (hm : m ≤ 1000) (h : drT m t) : small2 t := ⟨by show (_ : Int) ≤ _; have := h.1; omega, fun q hq => by show (_ : Int) ≤ _; have := (h.2 q hq).1; omega⟩
theorem bytes_of {code : List Int} (hp : code.length ≤ 9223372036854775807 ∧ ∀ z_ ∈ code, 0 ≤ z_ ∧ z_ ≤ 255) (h : ¬ (4096 < (code.length : Int))) : small code ∧ bytes code :=
  ⟨by show (_ : Int) ≤ _; omega, fun i i0 i1 => hp.2 _ (el_mem ⟨i0, i1⟩)⟩
theorem rkE_t {t : List (List Int)} (h : isRk t = true) : rkE t = 0 := by unfold rkE; rw [h]; rfl

def wtP (code : List Int) (Q : Bool → Prop) : Prop :=
     ∀ (r6_0 : List (List Int)), (drT 9 r6_0) →
     (small2 r6_0) ∧
     (small2 r6_0) ∧
     ((¬ (rkE r6_0 = rkE r6_0) →
      Q false) ∧
     (rkE r6_0 = rkE r6_0 →
      (small (SubT r6_0) ∧ small (SubT r6_0)) ∧
      ((¬ ((SubT r6_0) = (SubT r6_0)) →
       Q false) ∧
      ((SubT r6_0) = (SubT r6_0) →
       ((¬ (rkE r6_0 = 0) →
        Q (decide (((SubT r6_0).length : Int) = 0))) ∧
       (rkE r6_0 = 0 →
        ((((SubT r6_0).length : Int) = 0 →
         Q false) ∧
        (¬ (((SubT r6_0).length : Int) = 0) →
         (InI (((SubT r6_0).length : Int) - 1)) ∧
         (0 ≤ ((SubT r6_0).length : Int) - 1 ∧ ((SubT r6_0).length : Int) - 1 < ((SubT r6_0).length : Int)) ∧
         ((0 : Int) ≤ (r6_0.length : Int) ∧ (r6_0.length : Int) ≤ 18446744073709551615) ∧
         ((0 : Int) ≤ (r6_0.length : Int) ∧ (r6_0.length : Int) ≤ 62 ∧ InI (1 * (2 : Int) ^ (r6_0.length : Int).toNat)) ∧
         (InI ((1 * (2 : Int) ^ (r6_0.length : Int).toNat) - 1)) ∧
         ((¬ (el (SubT r6_0) (((SubT r6_0).length : Int) - 1) = (1 * (2 : Int) ^ (r6_0.length : Int).toNat) - 1) →
          Q false) ∧
         (el (SubT r6_0) (((SubT r6_0).length : Int) - 1) = (1 * (2 : Int) ^ (r6_0.length : Int).toNat) - 1 →
          (small code ∧ bytes code ∧ 0 ≤ (1241 : Int) ∧ (1241 : Int) ≤ 18446744073709551615) ∧
          ∀ (r7_0 : List Int) (r7_1 : Int) (r7_2 : Int), (r7_0 = code ∧ okS code r7_1 r7_2) →
          (okS r7_0 r7_1 r7_2 ∧ InI (r6_0.length : Int)) ∧
          ∀ (r8_0 : Int) (o8_0 : List Int) (o8_1 : Int) (o8_2 : Int), (nxP (r6_0.length : Int) r8_0 ∧ o8_0 = r7_0 ∧ okS r7_0 o8_1 o8_2) →
          (okS o8_0 o8_1 o8_2 ∧ InI (r6_0.length : Int)) ∧
          ∀ (r9_0 : Int) (o9_0 : List Int) (o9_1 : Int) (o9_2 : Int), (nxP (r6_0.length : Int) r9_0 ∧ o9_0 = o8_0 ∧ okS o8_0 o9_1 o9_2) →
          (small2 r6_0 ∧ small ([r8_0, r9_0])) ∧
          ∃ (H3 : Int → Int → Prop) (m3 : Int → Int → Nat),
          H3 0 0 ∧
          ∀ (v23_1 : Int) (v24_1 : Int), H3 v23_1 v24_1 →
          ( ((v24_1 < ((SbfT r6_0 ([r8_0, r9_0])).length : Int) →
            (0 ≤ v24_1 ∧ v24_1 < ((SbfT r6_0 ([r8_0, r9_0])).length : Int)) ∧
            ((el (SbfT r6_0 ([r8_0, r9_0])) v24_1 < 0 →
             Q false) ∧
            (¬ (el (SbfT r6_0 ([r8_0, r9_0])) v24_1 < 0) →
             (0 ≤ v24_1 ∧ v24_1 < ((SbfT r6_0 ([r8_0, r9_0])).length : Int)) ∧
             (((r6_0.length : Int) ≤ el (SbfT r6_0 ([r8_0, r9_0])) v24_1 →
              Q false) ∧
             (¬ ((r6_0.length : Int) ≤ el (SbfT r6_0 ([r8_0, r9_0])) v24_1) →
              (0 ≤ v24_1 ∧ v24_1 < ((SbfT r6_0 ([r8_0, r9_0])).length : Int)) ∧
              ((0 : Int) ≤ el (SbfT r6_0 ([r8_0, r9_0])) v24_1 ∧ el (SbfT r6_0 ([r8_0, r9_0])) v24_1 ≤ 18446744073709551615) ∧
              ((0 : Int) ≤ el (SbfT r6_0 ([r8_0, r9_0])) v24_1 ∧ el (SbfT r6_0 ([r8_0, r9_0])) v24_1 ≤ 62 ∧ InI (1 * (2 : Int) ^ (el (SbfT r6_0 ([r8_0, r9_0])) v24_1).toNat)) ∧
              (((0 : Int) ≤ v23_1 ∧ v23_1 ≤ 9223372036854775807) ∧ (0 : Int) ≤ 1 * (2 : Int) ^ (el (SbfT r6_0 ([r8_0, r9_0])) v24_1).toNat ∧ 1 * (2 : Int) ^ (el (SbfT r6_0 ([r8_0, r9_0])) v24_1).toNat ≤ 9223372036854775807) ∧
              (InI (v24_1 + 1)) ∧
              (H3 ((v23_1.toNat ||| (1 * (2 : Int) ^ (el (SbfT r6_0 ([r8_0, r9_0])) v24_1).toNat).toNat : Nat) : Int) (v24_1 + 1) ∧ m3 ((v23_1.toNat ||| (1 * (2 : Int) ^ (el (SbfT r6_0 ([r8_0, r9_0])) v24_1).toNat).toNat : Nat) : Int) (v24_1 + 1) < m3 v23_1 v24_1)))))) ∧
           (¬ (v24_1 < ((SbfT r6_0 ([r8_0, r9_0])).length : Int)) →
            ((SbfE r6_0 ([r8_0, r9_0]) = 0 →
             (small (SubT r6_0)) ∧
             ((((SubT r6_0).contains v23_1) = true →
              ((0 : Int) ≤ r8_0 ∧ r8_0 ≤ 18446744073709551615) ∧
              ((0 : Int) ≤ r8_0 ∧ r8_0 ≤ 62 ∧ InI (1 * (2 : Int) ^ r8_0.toNat)) ∧
              (0 ≤ r8_0 ∧ r8_0 < (r6_0.length : Int)) ∧
              (0 ≤ r8_0 ∧ r8_0 < ((el r6_0 r8_0).length : Int)) ∧
              (small (SubT r6_0)) ∧
              Q (((SubT r6_0).contains (1 * (2 : Int) ^ r8_0.toNat)) == (decide (el (el r6_0 r8_0) r8_0 = r8_0)))) ∧
             (((SubT r6_0).contains v23_1) = false →
              Q false))) ∧
            (¬ (SbfE r6_0 ([r8_0, r9_0]) = 0) →
             Q false)))))))))))))))
theorem wtP_ok {code : List Int} (hsb : small code ∧ bytes code) : wtP code (fun y0 => y0 = true) := by
  intro t ht
  have st := drT_small (by omega) ht
  have ss := small_Sub t
  refine ⟨st, st, fun g => absurd rfl g, fun _ => ⟨⟨ss, ss⟩, fun g => absurd rfl g, fun _ => ⟨fun g => ?_, fun e => ?_⟩⟩⟩
  · have : SubT t = [] := by
      unfold SubT; rw [if_neg fun h => g (rkE_t h)]
    rw [this]; rfl
  · have h : isRk t = true := by
      unfold rkE at e
      split at e
      · assumption
      · cases e
    have tt := isRk_tab h
    have hn := isTab_len tt
    have eS : SubT t = subsI t ((2 : Int) ^ t.length) := by unfold SubT; rw [if_pos h]
    have hl := subs_last tt
    have tn : ((t.length : Int)).toNat = t.length := by omega
    have p2 := pow2_le (k := t.length) (by omega)
    have el2 : el (SubT t) (((SubT t).length : Int) - 1) = 1 * (2 : Int) ^ (t.length : Int).toNat - 1 := by
      rw [eS, hl, el_append_last (by simp), tn]; omega
    have hne : ¬ (((SubT t).length : Int) = 0) := by rw [eS, hl]; simp; omega
    refine ⟨fun g => absurd g hne, fun _ => ⟨⟨by omega, by omega⟩, ⟨by omega, by omega⟩, ⟨by omega, by omega⟩, ⟨by omega, by omega, by rw [tn]; exact ⟨by omega, by omega⟩⟩, by rw [tn]; exact ⟨by omega, by omega⟩, fun g => absurd el2 g, fun _ => ⟨⟨hsb.1, hsb.2, by omega, by omega⟩, ?_⟩⟩⟩
    rintro c a b ⟨rfl, h1⟩
    refine ⟨⟨h1, by omega, by omega⟩, ?_⟩
    rintro y o0 o1 o2 ⟨hy, rfl, h2⟩
    refine ⟨⟨h2, by omega, by omega⟩, ?_⟩
    rintro z p0 p1 p2' ⟨hz, rfl, _⟩
    have hy2 := hy.2 (by omega)
    have hz2 := hz.2 (by omega)
    have hin : ∀ x ∈ [y, z], 0 ≤ x ∧ x < (t.length : Int) := fun x hx => by
      simp at hx; rcases hx with rfl | rfl <;> assumption
    have e0 : SbfE t [y, z] = 0 := by
      unfold SbfE
      rw [if_pos h, if_pos (List.all_eq_true.2 fun x hx => by have := hin x hx; simp; omega)]
      rfl
    have eB : SbfT t [y, z] = sbI t [y, z] := by unfold SbfT; rw [if_pos e0]
    rw [eB]
    have hrng : ∀ {i : Int}, 0 ≤ i → i < ((sbI t [y, z]).length : Int) → 0 ≤ el (sbI t [y, z]) i ∧ el (sbI t [y, z]) i < (t.length : Int) := fun i0 i1 => sb_rng (el_mem ⟨i0, i1⟩)
    have hsl : ((sbI t [y, z]).length : Int) ≤ (t.length : Int) := by
      have := List.length_filter_le (fun x => dec (Sc t [y, z] x)) (ran (t.length : Int) id)
      unfold sbI; simp at this; omega
    refine ⟨⟨st, by show (_ : Int) ≤ _; simp⟩, fun m i => ((0 ≤ m ∧ m < (2 : Int) ^ (t.length : Int).toNat) ∧ 0 ≤ i ∧ i ≤ ((sbI t [y, z]).length : Int)) ∧ ∀ v, 0 ≤ v → (bitP m v ↔ ∃ j, (0 ≤ j ∧ j < i) ∧ el (sbI t [y, z]) j = v), fun _ i => (((sbI t [y, z]).length : Int) - i).toNat, ⟨⟨⟨by omega, by rw [tn]; omega⟩, by omega, by omega⟩, fun v _ => ⟨fun g => absurd g bit_zero, fun ⟨j, hj, _⟩ => by omega⟩⟩, ?_⟩
    rintro m i ⟨⟨⟨m0, m1⟩, i0, i1⟩, hm⟩
    dsimp only
    have m2 : m ≤ 4096 := by rw [tn] at m1; omega
    refine ⟨fun ilt => ?_, fun ige => ⟨fun _ => ⟨ss, fun hcn => ⟨⟨by omega, by omega⟩, ⟨by omega, by omega, ?_⟩, hy2, ⟨hy2.1, by rw [rk_len tt hy2]; omega⟩, ss, ?_⟩, fun hcn => ?_⟩, fun g => absurd e0 g⟩⟩
    · have q := hrng i0 ilt
      have p3 := pow2_le (k := (el (sbI t [y, z]) i).toNat) (by omega)
      have o := or_lt2 (m := m) (k := el (sbI t [y, z]) i) (n := (t.length : Int)) ⟨m0, m1⟩ q
      refine ⟨⟨i0, ilt⟩, fun g => absurd g (by omega), fun _ => ⟨⟨i0, ilt⟩, fun g => absurd g (by omega), fun _ => ⟨⟨i0, ilt⟩, ⟨q.1, by omega⟩, ⟨q.1, by omega, by omega, by omega⟩, ⟨⟨m0, by omega⟩, by omega, by omega⟩, ⟨by omega, by omega⟩, ⟨⟨o, by omega, by omega⟩, fun v v0 => ?_⟩, by omega⟩⟩⟩
      rw [bit_or m0 q.1 v0, hm v v0]
      constructor
      · rintro (⟨j, hj, e⟩ | e)
        · exact ⟨j, ⟨hj.1, by omega⟩, e⟩
        · exact ⟨i, ⟨i0, by omega⟩, e.symm⟩
      · rintro ⟨j, hj, e⟩
        by_cases hji : j = i
        · subst hji; exact .inr e.symm
        · exact .inl ⟨j, ⟨hj.1, by omega⟩, e⟩
    · have := pow2_le (k := y.toNat) (by omega); exact ⟨by omega, by omega⟩
    · rw [eS]
      have p3 := pow2_le (k := y.toNat) (by omega)
      have lt : 1 * (2 : Int) ^ y.toNat < (2 : Int) ^ t.length := by
        have := or_lt2 (m := 0) (k := y) (n := (t.length : Int)) ⟨by omega, by rw [tn]; omega⟩ hy2
        rw [tn] at this
        have e1 : (((0 : Int).toNat ||| (1 * (2 : Int) ^ y.toNat).toNat : Nat) : Int) = 1 * (2 : Int) ^ y.toNat := by
          rw [show (0 : Int).toNat = 0 from rfl, Nat.zero_or]; exact Int.toNat_of_nonneg (by omega)
        rw [e1] at this; exact this.2
      have key : (subsI t ((2 : Int) ^ t.length)).contains (1 * (2 : Int) ^ y.toNat) = decide (el (el t y) y = y) := by
        rw [Bool.eq_iff_iff, List.contains_iff_mem, mem_subsI, decide_eq_true_eq, clo_one tt hy2]
        exact ⟨fun g => g.2.2, fun g => ⟨⟨by omega, lt⟩, by omega, g⟩⟩
      rw [key]; simp
    · have hmem : ∀ v, 0 ≤ v → (bitP m v ↔ v ∈ sbI t [y, z]) := fun v v0 => by
        rw [hm v v0]
        constructor
        · rintro ⟨j, hj, rfl⟩; exact el_mem ⟨hj.1, by omega⟩
        · intro g
          obtain ⟨j, hj, e⟩ := mem_el g
          exact ⟨j, ⟨hj.1, by omega⟩, e⟩
      have hcl : CloM t m := fun u v u0 u1 v0 v1 hu hv => (hmem _ (rk_el tt ⟨u0, u1⟩ ⟨v0, v1⟩).1).2 (sb_sub h hin u ((hmem u u0).1 hu) v ((hmem v v0).1 hv))
      have hy3 : y ∈ sbI t [y, z] := (sb_mem h hin).2 (.base (by simp))
      have mne : m ≠ 0 := fun g => by
        have := (hmem y hy2.1).2 hy3
        rw [g] at this; exact bit_zero this
      have : (SubT t).contains m = true := by
        rw [eS, List.contains_iff_mem, mem_subsI]
        exact ⟨⟨m0, by rw [tn] at m1; exact m1⟩, by omega, hcl⟩
      rw [this] at hcn; cases hcn
theorem p_laws_FnRackParts (code : List Int) (hp : code.length ≤ 9223372036854775807 ∧ ∀ z_ ∈ code, 0 ≤ z_ ∧ z_ ≤ 255) : wp_laws_FnRackParts code (fun y0 => y0 = true) := by
  unfold wp_laws_FnRackParts
  refine ⟨fun _ => rfl, fun hb => ⟨bytes_of hp hb, ?_⟩⟩
  have hsb := bytes_of hp hb
  rintro r l ⟨hr, ll, lz⟩
  have sr := drT_small (by omega) hr
  have sl : small l := by show (_ : Int) ≤ _; omega
  have sb := small_Sbf r l
  refine ⟨⟨sr, sl⟩, ⟨sr, sl⟩, fun g => absurd rfl g, fun _ => ⟨⟨sb, sb⟩, fun g => absurd rfl g, fun _ => ⟨fun e => ?_, fun _ => ⟨hsb, wtP_ok hsb⟩⟩⟩⟩
  have hE : isRk r = true ∧ (∀ x ∈ l, 0 ≤ x ∧ x < (r.length : Int)) ∧ 1 ≤ (l.length : Int) := by
    unfold SbfE at e
    split at e
    · rename_i h0
      split at e
      · rename_i h1
        split at e
        · cases e
        · exact ⟨h0, fun x hx => by have := List.all_eq_true.1 h1 x hx; simp at this; omega, by omega⟩
      · cases e
    · cases e
  obtain ⟨h, hin, h1⟩ := hE
  have hn := isTab_len (isRk_tab h)
  have eB : SbfT r l = sbI r l := by unfold SbfT; rw [if_pos e]
  rw [eB] at sb ⊢
  have hlt := sb_lt r l
  have hsub := sb_sub h hin
  have hmem : ∀ x ∈ l, x ∈ sbI r l := fun x hx => (sb_mem h hin).2 (.base hx)
  have hlen : 1 ≤ ((sbI r l).length : Int) ∧ ((sbI r l).length : Int) ≤ 12 := by
    have a := List.length_pos_of_mem (hmem _ (el_mem (i := 0) ⟨by omega, by omega⟩))
    have b := List.length_filter_le (fun x => dec (Sc r l x)) (ran (r.length : Int) id)
    have : (sbI r l).length ≤ (ran (r.length : Int) id).length := b
    simp at this
    omega
  have eR : ResE r (sbI r l) = 0 := by
    unfold ResE
    rw [if_pos h, if_pos, if_pos]
    · simp only [Bool.and_eq_true, decide_eq_true_eq, dec_iff]; exact ⟨hlen.1, hsub⟩
    · simp only [Bool.and_eq_true]
      exact ⟨List.all_eq_true.2 fun x hx => by have := sb_rng hx; simp; omega, inc_of_lt hlt⟩
  have eT : ResT r (sbI r l) = tab ((sbI r l).length : Int) (resV r (sbI r l)) := by unfold ResT; rw [if_pos eR]
  have rk := isRk_res h (hlt.imp fun g => by omega) hlen (fun x hx => sb_rng hx) hsub
  have lt : ((tab ((sbI r l).length : Int) (resV r (sbI r l))).length : Int) = ((sbI r l).length : Int) := len_tab (by omega)
  have sR := (fine_Res r (sbI r l)).1
  rw [eT] at sR ⊢
  refine ⟨⟨sr, sb⟩, fun g => absurd eR g, fun _ => ⟨sR, fun g => (by rw [rk] at g; cases g), fun _ => ⟨fun g => absurd lt g, fun _ => ?_⟩⟩⟩
  refine ⟨fun i => 0 ≤ i ∧ i ≤ (l.length : Int), fun i => ((l.length : Int) - i).toNat, ⟨by omega, by omega⟩, ?_⟩
  rintro i ⟨i0, i1⟩
  dsimp only
  refine ⟨fun ilt => ⟨⟨i0, ilt⟩, sb, fun g => ?_, fun _ => ⟨⟨by omega, by omega⟩, ⟨by omega, by omega⟩, by omega⟩⟩, fun _ => ⟨hsb, wtP_ok hsb⟩⟩
  rw [List.contains_iff_mem.2 (hmem _ (el_mem ⟨i0, ilt⟩))] at g; cases g

set_option maxRecDepth 100000 in
set_option maxHeartbeats 4000000 in
theorem w_laws_FnRackParts (code : List Int) (Q : Bool → Prop) (h : wp_laws_FnRackParts code Q) : AF Try.prog 3 [.lst (bys code)] (fun R_ => ∃ y0, Q y0 ∧ R_ = cb y0) := by
  refine AF.ofWQ (af_enter (n := 202) Try.func3 rfl (by rfl) rfl (Nat.le_of_ble_eq_true rfl) ?_)
  unfold wp_laws_FnRackParts at h
  refine aw_seq ?_
  refine aw_gh (gh_to (n := 202) (σ' := []) (env' := [(0, .c (.lst (bys code)))]) rfl rfl ⟨rfl, trivial⟩) ?_
  refine aw_region ?_
  refine run_s (ss_assign rfl) rfl ?_
  refine run_nil ?_
  refine aw_seq ?_
  refine aw_seq ?_
  refine aw_region ?_
  refine run_s (ss_move rfl) rfl ?_
  refine run_w (ws_call (xs := [.tmp 25]) (ids := []) rfl rfl rfl rfl (c_laws_big code) rfl ?_ )
  rintro _ rfl
  refine ⟨rfl, ?_⟩
  refine run_nil ?_
  refine aw_cond rfl (fun q2 => ?_) (fun q2 => ?_)
  · replace h := h.1 (of_decide_eq_true q2)
    refine aw_seq ?_
    refine aw_gh (gh_to (n := 202) (σ' := []) (env' := [(2, .c (cb false))]) rfl rfl ⟨rfl, trivial⟩) ?_
    refine aw_region ?_
    refine run_s (ss_assign rfl) rfl ?_
    refine run_nil ?_
    refine aw_ret ?_
    exact retAF_mk (retv1 rfl (rv_tmp rfl)) rfl rfl ⟨_, (cle_refl _), _, h, rfl⟩
  · replace h := h.2 (of_decide_eq_false q2)
    refine aw_skip ?_
    refine aw_seq ?_
    refine aw_region ?_
    refine run_s (ss_move rfl) rfl ?_
    obtain ⟨q3, h⟩ := h
    refine run_w (ws_call (xs := [.tmp 28]) (ids := [29, 1001]) rfl rfl rfl rfl (c_spec_DrawSubrackFrom code q3) rfl ?_ )
    rintro _ ⟨r1_0, r1_1, q4, rfl⟩
    replace h := h r1_0 r1_1 q4
    refine ⟨rfl, ?_⟩
    refine run_s (ss_move rfl) rfl ?_
    refine run_s (ss_extract rfl rfl) rfl ?_
    refine run_s (ss_extract rfl rfl) rfl ?_
    refine run_w (ws_alloc (id := 3) rfl (Nat.le_of_ble_eq_true rfl) ⟨rfl, ?_⟩)
    refine run_w (ws_storeS rfl rfl (Nat.le_of_ble_eq_true rfl) rfl rfl rfl ⟨rfl, ?_⟩)
    refine run_s (ss_assign rfl) rfl ?_
    refine run_nil ?_
    refine aw_gh (gh_to (n := 202) (σ' := [(3, ⟨[.hole], [(0, .ref 29)]⟩), (29, ⟨orows r1_0, []⟩), (1001, ⟨ints r1_1, []⟩)]) (env' := [(0, .c (.lst (bys code))), (3, .cell 3 0), (4, .ref 1001)]) rfl rfl ⟨rfl, rfl, rfl, trivial⟩) ?_
    refine aw_gh (gh_frzE (id := 29) (fun r => C.lst (ints r)) rfl (fun _ => (fz_own (fz_map (fun _ => rfl) _)))) ?_
    refine aw_gh (gh_fillc (id := 3) (j := 0) rfl rfl (Nat.le_of_ble_eq_true rfl)) ?_
    refine aw_gh (gh_to (n := 202) (σ' := [(3, ⟨[.lst (rows r1_0)], []⟩), (1001, ⟨ints r1_1, []⟩)]) (env' := [(0, .c (.lst (bys code))), (3, .cell 3 0), (4, .ref 1001)]) rfl rfl ⟨rfl, rfl, rfl, trivial⟩) ?_
    refine aw_gh (gh_frzE (id := 1001) ci rfl (fun _ => rfl)) ?_
    refine aw_gh (gh_to (n := 202) (σ' := [(3, ⟨[.lst (rows r1_0)], []⟩)]) (env' := [(0, .c (.lst (bys code))), (3, .cell 3 0), (4, .c (.lst (ints r1_1)))]) rfl rfl ⟨rfl, rfl, rfl, trivial⟩) ?_
    refine aw_seq ?_
    refine aw_region ?_
    refine run_s (ss_loadS rfl rfl rfl rfl) rfl ?_
    refine run_s (ss_move rfl) rfl ?_
    obtain ⟨q5, h⟩ := h
    refine run_w (ws_call (xs := [.tmp 33, .tmp 34]) (ids := [35]) rfl rfl rfl rfl (c_impl_SubrackFrom r1_0 r1_1 q5) rfl ?_ )
    rintro _ rfl
    refine ⟨rfl, ?_⟩
    refine run_s (ss_move rfl) rfl ?_
    refine run_s (ss_extract rfl rfl) rfl ?_
    refine run_s (ss_extract rfl rfl) rfl ?_
    refine run_s (ss_assign rfl) rfl ?_
    refine run_s (ss_assign rfl) rfl ?_
    refine run_nil ?_
    refine aw_gh (gh_to (n := 202) (σ' := [(35, ⟨ints (SbfT r1_0 r1_1), []⟩), (3, ⟨[.lst (rows r1_0)], []⟩)]) (env' := [(0, .c (.lst (bys code))), (3, .cell 3 0), (4, .c (.lst (ints r1_1))), (5, .ref 35), (6, .c (ci (SbfE r1_0 r1_1)))]) rfl rfl ⟨rfl, rfl, rfl, rfl, rfl, trivial⟩) ?_
    refine aw_gh (gh_frzE (id := 35) ci rfl (fun _ => rfl)) ?_
    refine aw_gh (gh_to (n := 202) (σ' := [(3, ⟨[.lst (rows r1_0)], []⟩)]) (env' := [(0, .c (.lst (bys code))), (3, .cell 3 0), (4, .c (.lst (ints r1_1))), (5, .c (.lst (ints (SbfT r1_0 r1_1)))), (6, .c (ci (SbfE r1_0 r1_1)))]) rfl rfl ⟨rfl, rfl, rfl, rfl, rfl, trivial⟩) ?_
    refine aw_seq ?_
    refine aw_seq ?_
    refine aw_region ?_
    refine run_s (ss_loadS rfl rfl rfl rfl) rfl ?_
    refine run_s (ss_move rfl) rfl ?_
    obtain ⟨q7, h⟩ := h
    refine run_w (ws_call (xs := [.tmp 39, .tmp 40]) (ids := [41]) rfl rfl rfl rfl (c_spec_SubrackFrom r1_0 r1_1 q7) rfl ?_ )
    rintro _ rfl
    refine ⟨rfl, ?_⟩
    refine run_s (ss_move rfl) rfl ?_
    refine run_s (ss_extract rfl rfl) rfl ?_
    refine run_s (ss_extract rfl rfl) rfl ?_
    refine run_s (ss_assign rfl) rfl ?_
    refine run_s (ss_assign rfl) rfl ?_
    refine run_nil ?_
    refine aw_gh (gh_to (n := 202) (σ' := [(41, ⟨ints (SbfT r1_0 r1_1), []⟩), (3, ⟨[.lst (rows r1_0)], []⟩)]) (env' := [(0, .c (.lst (bys code))), (3, .cell 3 0), (4, .c (.lst (ints r1_1))), (5, .c (.lst (ints (SbfT r1_0 r1_1)))), (6, .c (ci (SbfE r1_0 r1_1))), (7, .ref 41), (8, .c (ci (SbfE r1_0 r1_1)))]) rfl rfl ⟨rfl, rfl, rfl, rfl, rfl, rfl, rfl, trivial⟩) ?_
    refine aw_gh (gh_frzE (id := 41) ci rfl (fun _ => rfl)) ?_
    refine aw_gh (gh_to (n := 202) (σ' := [(3, ⟨[.lst (rows r1_0)], []⟩)]) (env' := [(0, .c (.lst (bys code))), (3, .cell 3 0), (4, .c (.lst (ints r1_1))), (5, .c (.lst (ints (SbfT r1_0 r1_1)))), (6, .c (ci (SbfE r1_0 r1_1))), (7, .c (.lst (ints (SbfT r1_0 r1_1)))), (8, .c (ci (SbfE r1_0 r1_1)))]) rfl rfl ⟨rfl, rfl, rfl, rfl, rfl, rfl, rfl, trivial⟩) ?_
    refine aw_seq ?_
    refine aw_region ?_
    refine run_s (ss_move rfl) rfl ?_
    refine run_s (ss_move rfl) rfl ?_
    refine run_s (ss_neq rfl rfl) rfl ?_
    refine run_s (ss_move rfl) rfl ?_
    refine run_split (s := 47) rfl (fun q9 => ?_) (fun q9 => ?_)
    · replace h := h.1 (of_decide_eq_false (bnot_t q9))
      refine run_gf rfl rfl q9 rfl ?_
      refine run_gf rfl rfl q9 rfl ?_
      refine run_gf rfl rfl q9 rfl ?_
      refine run_gf rfl rfl q9 rfl ?_
      refine run_s (ss_pickT rfl q9 rfl) rfl ?_
      refine run_nil ?_
      refine aw_cond rfl (fun q10 => ?_) (fun q10 => ?_)
      · skip
        refine aw_seq ?_
        refine aw_gh (gh_to (n := 202) (σ' := [(3, ⟨[.lst (rows r1_0)], []⟩)]) (env' := []) rfl rfl trivial) ?_
        refine aw_region ?_
        refine run_s (ss_assign rfl) rfl ?_
        refine run_nil ?_
        refine aw_ret ?_
        exact retAF_mk (retv1 rfl (rv_tmp rfl)) rfl rfl ⟨_, (cle_refl _), _, h, rfl⟩
      · cases q10
    · replace h := h.2 (of_decide_eq_true (bnot_f q9))
      refine run_gt rfl rfl q9 ?_
      refine run_s (ss_move rfl) rfl ?_
      refine run_gt rfl rfl q9 ?_
      refine run_s (ss_move rfl) rfl ?_
      refine run_gt rfl rfl q9 ?_
      obtain ⟨q11, h⟩ := h
      refine run_w (ws_call (xs := [.tmp 48, .tmp 49]) (ids := []) rfl rfl rfl rfl (c_laws_likeInts (SbfT r1_0 r1_1) (SbfT r1_0 r1_1) q11) rfl ?_ )
      rintro _ rfl
      refine ⟨rfl, ?_⟩
      refine run_gt rfl rfl q9 ?_
      refine run_s (ss_not rfl) rfl ?_
      refine run_s (ss_pickF rfl q9 rfl) rfl ?_
      refine run_nil ?_
      refine aw_cond rfl (fun q13 => ?_) (fun q13 => ?_)
      · replace h := h.1 (of_decide_eq_false (bnot_t q13))
        refine aw_seq ?_
        refine aw_gh (gh_to (n := 202) (σ' := [(3, ⟨[.lst (rows r1_0)], []⟩)]) (env' := []) rfl rfl trivial) ?_
        refine aw_region ?_
        refine run_s (ss_assign rfl) rfl ?_
        refine run_nil ?_
        refine aw_ret ?_
        exact retAF_mk (retv1 rfl (rv_tmp rfl)) rfl rfl ⟨_, (cle_refl _), _, h, rfl⟩
      · replace h := h.2 (of_decide_eq_true (bnot_f q13))
        refine aw_skip ?_
        refine aw_seq ?_
        refine aw_seq ?_
        refine aw_region ?_
        refine run_s (ss_move rfl) rfl ?_
        refine run_s (ss_eql rfl rfl) rfl ?_
        refine run_nil ?_
        refine aw_cond rfl (fun q14 => ?_) (fun q14 => ?_)
        · replace h := h.1 (of_decide_eq_true q14)
          refine aw_seq ?_
          refine aw_region ?_
          refine run_s (ss_loadS rfl rfl rfl rfl) rfl ?_
          refine run_s (ss_move rfl) rfl ?_
          obtain ⟨q15, h⟩ := h
          refine run_w (ws_call (xs := [.tmp 56, .tmp 57]) (ids := [58]) rfl rfl rfl rfl (c_impl_RestrictRack r1_0 (SbfT r1_0 r1_1) q15) rfl ?_ )
          rintro _ rfl
          refine ⟨rfl, ?_⟩
          refine run_s (ss_move rfl) rfl ?_
          refine run_s (ss_extract rfl rfl) rfl ?_
          refine run_s (ss_extract rfl rfl) rfl ?_
          refine run_w (ws_alloc (id := 9) rfl (Nat.le_of_ble_eq_true rfl) ⟨rfl, ?_⟩)
          refine run_w (ws_storeS rfl rfl (Nat.le_of_ble_eq_true rfl) rfl rfl rfl ⟨rfl, ?_⟩)
          refine run_s (ss_assign rfl) rfl ?_
          refine run_nil ?_
          refine aw_gh (gh_to (n := 202) (σ' := [(9, ⟨[.hole], [(0, .ref 58)]⟩), (58, ⟨orows (ResT r1_0 (SbfT r1_0 r1_1)), []⟩), (3, ⟨[.lst (rows r1_0)], []⟩)]) (env' := [(0, .c (.lst (bys code))), (4, .c (.lst (ints r1_1))), (5, .c (.lst (ints (SbfT r1_0 r1_1)))), (9, .cell 9 0), (10, .c (ci (ResE r1_0 (SbfT r1_0 r1_1))))]) rfl rfl ⟨rfl, rfl, rfl, rfl, rfl, trivial⟩) ?_
          refine aw_gh (gh_frzE (id := 58) (fun r => C.lst (ints r)) rfl (fun _ => (fz_own (fz_map (fun _ => rfl) _)))) ?_
          refine aw_gh (gh_fillc (id := 9) (j := 0) rfl rfl (Nat.le_of_ble_eq_true rfl)) ?_
          refine aw_gh (gh_to (n := 202) (σ' := [(9, ⟨[.lst (rows (ResT r1_0 (SbfT r1_0 r1_1)))], []⟩), (3, ⟨[.lst (rows r1_0)], []⟩)]) (env' := [(0, .c (.lst (bys code))), (4, .c (.lst (ints r1_1))), (5, .c (.lst (ints (SbfT r1_0 r1_1)))), (9, .cell 9 0), (10, .c (ci (ResE r1_0 (SbfT r1_0 r1_1))))]) rfl rfl ⟨rfl, rfl, rfl, rfl, rfl, trivial⟩) ?_
          refine aw_seq ?_
          refine aw_seq ?_
          refine aw_region ?_
          refine run_s (ss_move rfl) rfl ?_
          refine run_s (ss_neq rfl rfl) rfl ?_
          refine run_s (ss_move rfl) rfl ?_
          refine run_split (s := 63) rfl (fun q17 => ?_) (fun q17 => ?_)
          · replace h := h.1 (of_decide_eq_false (bnot_t q17))
            refine run_gf rfl rfl q17 rfl ?_
            refine run_gf rfl rfl q17 rfl ?_
            refine run_gf rfl rfl q17 rfl ?_
            refine run_s (ss_pickT rfl q17 rfl) rfl ?_
            refine run_s (ss_move rfl) rfl ?_
            refine run_split (s := 68) rfl (fun q18 => ?_) (fun q18 => ?_)
            · skip
              refine run_gf rfl rfl q18 rfl ?_
              refine run_gf rfl rfl q18 rfl ?_
              refine run_gf rfl rfl q18 rfl ?_
              refine run_gf rfl rfl q18 rfl ?_
              refine run_gf rfl rfl q18 rfl ?_
              refine run_gf rfl rfl q18 rfl ?_
              refine run_s (ss_pickT rfl q18 rfl) rfl ?_
              refine run_nil ?_
              refine aw_cond rfl (fun q19 => ?_) (fun q19 => ?_)
              · skip
                refine aw_seq ?_
                refine aw_gh (gh_to (n := 202) (σ' := [(9, ⟨[.lst (rows (ResT r1_0 (SbfT r1_0 r1_1)))], []⟩), (3, ⟨[.lst (rows r1_0)], []⟩)]) (env' := []) rfl rfl trivial) ?_
                refine aw_region ?_
                refine run_s (ss_assign rfl) rfl ?_
                refine run_nil ?_
                refine aw_ret ?_
                exact retAF_mk (retv1 rfl (rv_tmp rfl)) rfl rfl ⟨_, (cle_refl _), _, h, rfl⟩
              · cases q19
            · cases q18
          · replace h := h.2 (of_decide_eq_true (bnot_f q17))
            refine run_gt rfl rfl q17 ?_
            refine run_s (ss_loadS rfl rfl rfl rfl) rfl ?_
            refine run_gt rfl rfl q17 ?_
            obtain ⟨q20, h⟩ := h
            refine run_w (ws_call (xs := [.tmp 64]) (ids := []) rfl rfl rfl rfl (c_impl_IsRack (ResT r1_0 (SbfT r1_0 r1_1)) q20) rfl ?_ )
            rintro _ rfl
            refine ⟨rfl, ?_⟩
            refine run_gt rfl rfl q17 ?_
            refine run_s (ss_not rfl) rfl ?_
            refine run_s (ss_pickF rfl q17 rfl) rfl ?_
            refine run_s (ss_move rfl) rfl ?_
            refine run_split (s := 68) rfl (fun q22 => ?_) (fun q22 => ?_)
            · replace h := h.1 ((bnot_t q22))
              refine run_gf rfl rfl q22 rfl ?_
              refine run_gf rfl rfl q22 rfl ?_
              refine run_gf rfl rfl q22 rfl ?_
              refine run_gf rfl rfl q22 rfl ?_
              refine run_gf rfl rfl q22 rfl ?_
              refine run_gf rfl rfl q22 rfl ?_
              refine run_s (ss_pickT rfl q22 rfl) rfl ?_
              refine run_nil ?_
              refine aw_cond rfl (fun q23 => ?_) (fun q23 => ?_)
              · skip
                refine aw_seq ?_
                refine aw_gh (gh_to (n := 202) (σ' := [(9, ⟨[.lst (rows (ResT r1_0 (SbfT r1_0 r1_1)))], []⟩), (3, ⟨[.lst (rows r1_0)], []⟩)]) (env' := []) rfl rfl trivial) ?_
                refine aw_region ?_
                refine run_s (ss_assign rfl) rfl ?_
                refine run_nil ?_
                refine aw_ret ?_
                exact retAF_mk (retv1 rfl (rv_tmp rfl)) rfl rfl ⟨_, (cle_refl _), _, h, rfl⟩
              · cases q23
            · replace h := h.2 ((bnot_f q22))
              refine run_gt rfl rfl q22 ?_
              refine run_s (ss_field_cell rfl) rfl ?_
              refine run_gt rfl rfl q22 ?_
              refine run_s (ss_loadC rfl rfl rfl rfl rfl) rfl ?_
              refine run_gt rfl rfl q22 ?_
              refine run_s (ss_lenL (f := (fun r => C.lst (ints r))) rfl) rfl ?_
              refine run_gt rfl rfl q22 ?_
              refine run_s (ss_move rfl) rfl ?_
              refine run_gt rfl rfl q22 ?_
              refine run_s (ss_lenL (f := ci) rfl) rfl ?_
              refine run_gt rfl rfl q22 ?_
              refine run_s (ss_neq rfl rfl) rfl ?_
              refine run_s (ss_pickF rfl q22 rfl) rfl ?_
              refine run_nil ?_
              refine aw_cond rfl (fun q24 => ?_) (fun q24 => ?_)
              · replace h := h.1 (of_decide_eq_false (bnot_t q24))
                refine aw_seq ?_
                refine aw_gh (gh_to (n := 202) (σ' := [(9, ⟨[.lst (rows (ResT r1_0 (SbfT r1_0 r1_1)))], []⟩), (3, ⟨[.lst (rows r1_0)], []⟩)]) (env' := []) rfl rfl trivial) ?_
                refine aw_region ?_
                refine run_s (ss_assign rfl) rfl ?_
                refine run_nil ?_
                refine aw_ret ?_
                exact retAF_mk (retv1 rfl (rv_tmp rfl)) rfl rfl ⟨_, (cle_refl _), _, h, rfl⟩
              · replace h := h.2 (of_decide_eq_true (bnot_f q24))
                refine aw_skip ?_
                refine aw_seq ?_
                refine aw_region ?_
                refine run_s (ss_assign rfl) rfl ?_
                refine run_nil ?_
                refine aw_block ?_
                refine aw_gh (gh_freeze (id := 9) rfl rfl) ?_
                refine aw_gh (gh_freeze (id := 3) rfl rfl) ?_
                obtain ⟨H1, m1, q25, h⟩ := h
                refine aw_loop1 (fun (v11_1 : Int) => ⟨[], [(0, .c (.lst (bys code))), (4, .c (.lst (ints r1_1))), (5, .c (.lst (ints (SbfT r1_0 r1_1)))), (11, .c (ci v11_1))], 202⟩) H1 m1 ⟨0, ghe_to (n := 202) rfl rfl ⟨rfl, rfl, rfl, rfl, trivial⟩, q25⟩ ?_
                rintro v11_1 q25
                replace h := h v11_1 q25
                refine aw_seq ?_
                refine aw_seq ?_
                refine aw_region ?_
                refine run_s (ss_move rfl) rfl ?_
                refine run_s (ss_move rfl) rfl ?_
                refine run_s (ss_lenL (f := ci) rfl) rfl ?_
                refine run_s (ss_lss rfl rfl) rfl ?_
                refine run_nil ?_
                refine aw_cond rfl (fun q26 => ?_) (fun q26 => ?_)
                · replace h := h.1 (of_decide_eq_true q26)
                  refine aw_skip ?_
                  refine aw_seq ?_
                  refine aw_block ?_
                  refine aw_seq ?_
                  refine aw_region ?_
                  refine run_s (ss_move rfl) rfl ?_
                  refine run_s (ss_move rfl) rfl ?_
                  refine run_s (ss_move rfl) rfl ?_
                  obtain ⟨q27, h⟩ := h
                  refine run_s (ss_idxL rfl rfl q27) rfl ?_
                  refine run_s (ss_loadL (f := ci) rfl q27) rfl ?_
                  obtain ⟨q28, h⟩ := h
                  refine run_w (ws_call (xs := [.tmp 82, .tmp 86]) (ids := []) rfl rfl rfl rfl (c_laws_hasInt (SbfT r1_0 r1_1) (el r1_1 v11_1) q28) rfl ?_ )
                  rintro _ rfl
                  refine ⟨rfl, ?_⟩
                  refine run_s (ss_not rfl) rfl ?_
                  refine run_nil ?_
                  refine aw_cond rfl (fun q30 => ?_) (fun q30 => ?_)
                  · replace h := h.1 ((bnot_t q30))
                    refine aw_seq ?_
                    refine aw_gh (gh_to (n := 202) (σ' := []) (env' := []) rfl rfl trivial) ?_
                    refine aw_region ?_
                    refine run_s (ss_assign rfl) rfl ?_
                    refine run_nil ?_
                    refine aw_ret ?_
                    exact retAF_mk (retv1 rfl (rv_tmp rfl)) rfl rfl ⟨_, (cle_refl _), _, h, rfl⟩
                  · replace h := h.2 ((bnot_f q30))
                    refine aw_skip ?_
                    refine aw_region ?_
                    refine run_s (ss_move rfl) rfl ?_
                    obtain ⟨q31, h⟩ := h
                    refine run_s (ss_add rfl rfl q31) rfl ?_
                    refine run_s (ss_assign rfl) rfl ?_
                    refine run_nil ?_
                    exact ⟨v11_1 + 1, ghe_to (n := 202) rfl rfl ⟨rfl, rfl, rfl, rfl, trivial⟩, h.1, h.2⟩
                · replace h := h.2 (of_decide_eq_false q26)
                  refine aw_exit ?_
                  refine aw_seq ?_
                  refine aw_region ?_
                  refine run_s (ss_move rfl) rfl ?_
                  obtain ⟨q32, h⟩ := h
                  refine run_w (ws_call (xs := [.tmp 89]) (ids := [90]) rfl rfl rfl rfl (c_spec_DrawSubracksOf code q32) rfl ?_ )
                  rintro _ ⟨r2_0, q33, rfl⟩
                  replace h := h r2_0 q33
                  refine ⟨rfl, ?_⟩
                  refine run_w (ws_alloc (id := 12) rfl (Nat.le_of_ble_eq_true rfl) ⟨rfl, ?_⟩)
                  refine run_w (ws_storeS rfl rfl (Nat.le_of_ble_eq_true rfl) rfl rfl rfl ⟨rfl, ?_⟩)
                  refine run_nil ?_
                  refine aw_gh (gh_to (n := 202) (σ' := [(12, ⟨[.hole], [(0, .ref 90)]⟩), (90, ⟨orows r2_0, []⟩)]) (env' := [(0, .c (.lst (bys code))), (12, .cell 12 0)]) rfl rfl ⟨rfl, rfl, trivial⟩) ?_
                  refine aw_gh (gh_frzE (id := 90) (fun r => C.lst (ints r)) rfl (fun _ => (fz_own (fz_map (fun _ => rfl) _)))) ?_
                  refine aw_gh (gh_fillc (id := 12) (j := 0) rfl rfl (Nat.le_of_ble_eq_true rfl)) ?_
                  refine aw_gh (gh_to (n := 202) (σ' := [(12, ⟨[.lst (rows r2_0)], []⟩)]) (env' := [(0, .c (.lst (bys code))), (12, .cell 12 0)]) rfl rfl ⟨rfl, rfl, trivial⟩) ?_
                  refine aw_seq ?_
                  refine aw_region ?_
                  refine run_s (ss_loadS rfl rfl rfl rfl) rfl ?_
                  obtain ⟨q34, h⟩ := h
                  refine run_w (ws_call (xs := [.tmp 92]) (ids := [93]) rfl rfl rfl rfl (c_impl_SubracksOf r2_0 q34) rfl ?_ )
                  rintro _ rfl
                  refine ⟨rfl, ?_⟩
                  refine run_s (ss_move rfl) rfl ?_
                  refine run_s (ss_extract rfl rfl) rfl ?_
                  refine run_s (ss_extract rfl rfl) rfl ?_
                  refine run_s (ss_assign rfl) rfl ?_
                  refine run_s (ss_assign rfl) rfl ?_
                  refine run_nil ?_
                  refine aw_gh (gh_to (n := 202) (σ' := [(93, ⟨ints (SubT r2_0), []⟩), (12, ⟨[.lst (rows r2_0)], []⟩)]) (env' := [(0, .c (.lst (bys code))), (12, .cell 12 0), (13, .ref 93), (14, .c (ci (rkE r2_0)))]) rfl rfl ⟨rfl, rfl, rfl, rfl, trivial⟩) ?_
                  refine aw_gh (gh_frzE (id := 93) ci rfl (fun _ => rfl)) ?_
                  refine aw_gh (gh_to (n := 202) (σ' := [(12, ⟨[.lst (rows r2_0)], []⟩)]) (env' := [(0, .c (.lst (bys code))), (12, .cell 12 0), (13, .c (.lst (ints (SubT r2_0)))), (14, .c (ci (rkE r2_0)))]) rfl rfl ⟨rfl, rfl, rfl, rfl, trivial⟩) ?_
                  refine aw_seq ?_
                  refine aw_seq ?_
                  refine aw_region ?_
                  refine run_s (ss_loadS rfl rfl rfl rfl) rfl ?_
                  obtain ⟨q36, h⟩ := h
                  refine run_w (ws_call (xs := [.tmp 97]) (ids := [98]) rfl rfl rfl rfl (c_spec_SubracksOf r2_0 q36) rfl ?_ )
                  rintro _ rfl
                  refine ⟨rfl, ?_⟩
                  refine run_s (ss_move rfl) rfl ?_
                  refine run_s (ss_extract rfl rfl) rfl ?_
                  refine run_s (ss_extract rfl rfl) rfl ?_
                  refine run_s (ss_assign rfl) rfl ?_
                  refine run_s (ss_assign rfl) rfl ?_
                  refine run_nil ?_
                  refine aw_gh (gh_to (n := 202) (σ' := [(98, ⟨ints (SubT r2_0), []⟩), (12, ⟨[.lst (rows r2_0)], []⟩)]) (env' := [(0, .c (.lst (bys code))), (12, .cell 12 0), (13, .c (.lst (ints (SubT r2_0)))), (14, .c (ci (rkE r2_0))), (15, .ref 98), (16, .c (ci (rkE r2_0)))]) rfl rfl ⟨rfl, rfl, rfl, rfl, rfl, rfl, trivial⟩) ?_
                  refine aw_gh (gh_frzE (id := 98) ci rfl (fun _ => rfl)) ?_
                  refine aw_gh (gh_to (n := 202) (σ' := [(12, ⟨[.lst (rows r2_0)], []⟩)]) (env' := [(0, .c (.lst (bys code))), (12, .cell 12 0), (13, .c (.lst (ints (SubT r2_0)))), (14, .c (ci (rkE r2_0))), (15, .c (.lst (ints (SubT r2_0)))), (16, .c (ci (rkE r2_0)))]) rfl rfl ⟨rfl, rfl, rfl, rfl, rfl, rfl, trivial⟩) ?_
                  refine aw_seq ?_
                  refine aw_region ?_
                  refine run_s (ss_move rfl) rfl ?_
                  refine run_s (ss_move rfl) rfl ?_
                  refine run_s (ss_neq rfl rfl) rfl ?_
                  refine run_s (ss_move rfl) rfl ?_
                  refine run_split (s := 104) rfl (fun q38 => ?_) (fun q38 => ?_)
                  · replace h := h.1 (of_decide_eq_false (bnot_t q38))
                    refine run_gf rfl rfl q38 rfl ?_
                    refine run_gf rfl rfl q38 rfl ?_
                    refine run_gf rfl rfl q38 rfl ?_
                    refine run_gf rfl rfl q38 rfl ?_
                    refine run_s (ss_pickT rfl q38 rfl) rfl ?_
                    refine run_nil ?_
                    refine aw_cond rfl (fun q39 => ?_) (fun q39 => ?_)
                    · skip
                      refine aw_seq ?_
                      refine aw_gh (gh_to (n := 202) (σ' := [(12, ⟨[.lst (rows r2_0)], []⟩)]) (env' := []) rfl rfl trivial) ?_
                      refine aw_region ?_
                      refine run_s (ss_assign rfl) rfl ?_
                      refine run_nil ?_
                      refine aw_ret ?_
                      exact retAF_mk (retv1 rfl (rv_tmp rfl)) rfl rfl ⟨_, (cle_refl _), _, h, rfl⟩
                    · cases q39
                  · replace h := h.2 (of_decide_eq_true (bnot_f q38))
                    refine run_gt rfl rfl q38 ?_
                    refine run_s (ss_move rfl) rfl ?_
                    refine run_gt rfl rfl q38 ?_
                    refine run_s (ss_move rfl) rfl ?_
                    refine run_gt rfl rfl q38 ?_
                    obtain ⟨q40, h⟩ := h
                    refine run_w (ws_call (xs := [.tmp 105, .tmp 106]) (ids := []) rfl rfl rfl rfl (c_laws_likeInts (SubT r2_0) (SubT r2_0) q40) rfl ?_ )
                    rintro _ rfl
                    refine ⟨rfl, ?_⟩
                    refine run_gt rfl rfl q38 ?_
                    refine run_s (ss_not rfl) rfl ?_
                    refine run_s (ss_pickF rfl q38 rfl) rfl ?_
                    refine run_nil ?_
                    refine aw_cond rfl (fun q42 => ?_) (fun q42 => ?_)
                    · replace h := h.1 (of_decide_eq_false (bnot_t q42))
                      refine aw_seq ?_
                      refine aw_gh (gh_to (n := 202) (σ' := [(12, ⟨[.lst (rows r2_0)], []⟩)]) (env' := []) rfl rfl trivial) ?_
                      refine aw_region ?_
                      refine run_s (ss_assign rfl) rfl ?_
                      refine run_nil ?_
                      refine aw_ret ?_
                      exact retAF_mk (retv1 rfl (rv_tmp rfl)) rfl rfl ⟨_, (cle_refl _), _, h, rfl⟩
                    · replace h := h.2 (of_decide_eq_true (bnot_f q42))
                      refine aw_skip ?_
                      refine aw_seq ?_
                      refine aw_seq ?_
                      refine aw_region ?_
                      refine run_s (ss_move rfl) rfl ?_
                      refine run_s (ss_neq rfl rfl) rfl ?_
                      refine run_nil ?_
                      refine aw_cond rfl (fun q43 => ?_) (fun q43 => ?_)
                      · replace h := h.1 (of_decide_eq_false (bnot_t q43))
                        refine aw_seq ?_
                        refine aw_gh (gh_to (n := 202) (σ' := [(12, ⟨[.lst (rows r2_0)], []⟩)]) (env' := [(13, .c (.lst (ints (SubT r2_0))))]) rfl rfl ⟨rfl, trivial⟩) ?_
                        refine aw_region ?_
                        refine run_s (ss_move rfl) rfl ?_
                        refine run_s (ss_lenL (f := ci) rfl) rfl ?_
                        refine run_s (ss_eql rfl rfl) rfl ?_
                        refine run_s (ss_assign rfl) rfl ?_
                        refine run_nil ?_
                        refine aw_ret ?_
                        exact retAF_mk (retv1 rfl (rv_tmp rfl)) rfl rfl ⟨_, (cle_refl _), _, h, rfl⟩
                      · replace h := h.2 (of_decide_eq_true (bnot_f q43))
                        refine aw_skip ?_
                        refine aw_seq ?_
                        refine aw_region ?_
                        refine run_s (ss_field_cell rfl) rfl ?_
                        refine run_s (ss_loadC rfl rfl rfl rfl rfl) rfl ?_
                        refine run_s (ss_lenL (f := (fun r => C.lst (ints r))) rfl) rfl ?_
                        refine run_s (ss_assign rfl) rfl ?_
                        refine run_nil ?_
                        refine aw_seq ?_
                        refine aw_seq ?_
                        refine aw_region ?_
                        refine run_s (ss_move rfl) rfl ?_
                        refine run_s (ss_lenL (f := ci) rfl) rfl ?_
                        refine run_s (ss_eql rfl rfl) rfl ?_
                        refine run_s (ss_move rfl) rfl ?_
                        refine run_split (s := 121) rfl (fun q44 => ?_) (fun q44 => ?_)
                        · replace h := h.1 (of_decide_eq_true q44)
                          refine run_gf rfl rfl q44 rfl ?_
                          refine run_gf rfl rfl q44 rfl ?_
                          refine run_gf rfl rfl q44 rfl ?_
                          refine run_gf rfl rfl q44 rfl ?_
                          refine run_gf rfl rfl q44 rfl ?_
                          refine run_gf rfl rfl q44 rfl ?_
                          refine run_gf rfl rfl q44 rfl ?_
                          refine run_gf rfl rfl q44 rfl ?_
                          refine run_gf rfl rfl q44 rfl ?_
                          refine run_gf rfl rfl q44 rfl ?_
                          refine run_gf rfl rfl q44 rfl ?_
                          refine run_s (ss_pickT rfl q44 rfl) rfl ?_
                          refine run_nil ?_
                          refine aw_cond rfl (fun q45 => ?_) (fun q45 => ?_)
                          · skip
                            refine aw_seq ?_
                            refine aw_gh (gh_to (n := 202) (σ' := [(12, ⟨[.lst (rows r2_0)], []⟩)]) (env' := []) rfl rfl trivial) ?_
                            refine aw_region ?_
                            refine run_s (ss_assign rfl) rfl ?_
                            refine run_nil ?_
                            refine aw_ret ?_
                            exact retAF_mk (retv1 rfl (rv_tmp rfl)) rfl rfl ⟨_, (cle_refl _), _, h, rfl⟩
                          · cases q45
                        · replace h := h.2 (of_decide_eq_false q44)
                          refine run_gt rfl rfl q44 ?_
                          refine run_s (ss_move rfl) rfl ?_
                          refine run_gt rfl rfl q44 ?_
                          refine run_s (ss_move rfl) rfl ?_
                          refine run_gt rfl rfl q44 ?_
                          refine run_s (ss_lenL (f := ci) rfl) rfl ?_
                          refine run_gt rfl rfl q44 ?_
                          obtain ⟨q46, h⟩ := h
                          refine run_s (ss_sub rfl rfl q46) rfl ?_
                          refine run_gt rfl rfl q44 ?_
                          obtain ⟨q47, h⟩ := h
                          refine run_s (ss_idxL rfl rfl q47) rfl ?_
                          refine run_gt rfl rfl q44 ?_
                          refine run_s (ss_loadL (f := ci) rfl q47) rfl ?_
                          refine run_gt rfl rfl q44 ?_
                          refine run_s (ss_move rfl) rfl ?_
                          refine run_gt rfl rfl q44 ?_
                          obtain ⟨q48, h⟩ := h
                          refine run_s (ss_convert rfl (IntWalk.u64_in _ q48)) rfl ?_
                          refine run_gt rfl rfl q44 ?_
                          obtain ⟨q49, h⟩ := h
                          refine run_s (ss_shl rfl rfl q49) rfl ?_
                          refine run_gt rfl rfl q44 ?_
                          obtain ⟨q50, h⟩ := h
                          refine run_s (ss_sub rfl rfl q50) rfl ?_
                          refine run_gt rfl rfl q44 ?_
                          refine run_s (ss_neq rfl rfl) rfl ?_
                          refine run_s (ss_pickF rfl q44 rfl) rfl ?_
                          refine run_nil ?_
                          refine aw_cond rfl (fun q51 => ?_) (fun q51 => ?_)
                          · replace h := h.1 (of_decide_eq_false (bnot_t q51))
                            refine aw_seq ?_
                            refine aw_gh (gh_to (n := 202) (σ' := [(12, ⟨[.lst (rows r2_0)], []⟩)]) (env' := []) rfl rfl trivial) ?_
                            refine aw_region ?_
                            refine run_s (ss_assign rfl) rfl ?_
                            refine run_nil ?_
                            refine aw_ret ?_
                            exact retAF_mk (retv1 rfl (rv_tmp rfl)) rfl rfl ⟨_, (cle_refl _), _, h, rfl⟩
                          · replace h := h.2 (of_decide_eq_true (bnot_f q51))
                            refine aw_skip ?_
                            refine aw_seq ?_
                            refine aw_gh (gh_to (n := 202) (σ' := [(12, ⟨[.lst (rows r2_0)], []⟩)]) (env' := [(0, .c (.lst (bys code))), (12, .cell 12 0), (13, .c (.lst (ints (SubT r2_0)))), (17, .c (ci (r2_0.length : Int)))]) rfl rfl ⟨rfl, rfl, rfl, rfl, trivial⟩) ?_
                            refine aw_region ?_
                            refine run_s (ss_move rfl) rfl ?_
                            obtain ⟨q52, h⟩ := h
                            refine run_w (ws_call (xs := [.tmp 134, .const (.int .u64 (1241))]) (ids := [135]) rfl rfl rfl rfl (c_laws_roll code 1241 q52) rfl ?_ )
                            rintro _ ⟨r3_0, r3_1, r3_2, q53, rfl⟩
                            replace h := h r3_0 r3_1 r3_2 q53
                            refine ⟨rfl, ?_⟩
                            refine run_s (ss_assign rfl) rfl ?_
                            refine run_nil ?_
                            refine aw_seq ?_
                            refine aw_region ?_
                            refine run_s (ss_move rfl) rfl ?_
                            refine run_s (ss_move rfl) rfl ?_
                            obtain ⟨q54, h⟩ := h
                            refine run_w (ws_callM (xs := [.tmp 136, .tmp 137]) (cs := [.obox [.lst (bys r3_0), ci r3_1, cu r3_2], ci (r2_0.length : Int)]) (ids := []) rfl (.inr ⟨rfl, rfl⟩) rfl rfl rfl (c_dice_below r3_0 r3_1 r3_2 (r2_0.length : Int) q54) rfl rfl ?_ )
                            rintro _ _ ⟨r4_0, o4_0, o4_1, o4_2, q55, rfl, rfl⟩
                            replace h := h r4_0 o4_0 o4_1 o4_2 q55
                            refine ⟨rfl, rfl, ?_⟩
                            refine run_s (ss_move rfl) rfl ?_
                            refine run_s (ss_move rfl) rfl ?_
                            obtain ⟨q56, h⟩ := h
                            refine run_w (ws_callM (xs := [.tmp 139, .tmp 140]) (cs := [.obox [.lst (bys o4_0), ci o4_1, cu o4_2], ci (r2_0.length : Int)]) (ids := []) rfl (.inr ⟨rfl, rfl⟩) rfl rfl rfl (c_dice_below o4_0 o4_1 o4_2 (r2_0.length : Int) q56) rfl rfl ?_ )
                            rintro _ _ ⟨r5_0, o5_0, o5_1, o5_2, q57, rfl, rfl⟩
                            replace h := h r5_0 o5_0 o5_1 o5_2 q57
                            refine ⟨rfl, rfl, ?_⟩
                            refine run_s (ss_assign rfl) rfl ?_
                            refine run_s (ss_assign rfl) rfl ?_
                            refine run_nil ?_
                            refine aw_seq ?_
                            refine aw_region ?_
                            refine run_s (ss_loadS rfl rfl rfl rfl) rfl ?_
                            refine run_s (ss_move rfl) rfl ?_
                            refine run_s (ss_move rfl) rfl ?_
                            refine run_w (ws_buildSlice (id := 146) (ps := [(0, .tmp 144), (1, .tmp 145)]) rfl rfl (Nat.le_of_ble_eq_true rfl) rfl ⟨rfl, ?_⟩)
                            obtain ⟨q58, h⟩ := h
                            refine run_w (ws_callR (xs := [.tmp 143, .tmp 146]) (cs := [.agg [.lst (rows r2_0)], .own (ints ([r4_0, r5_0]))]) (ids := [147]) rfl (.inr ⟨rfl, rfl⟩) rfl rfl (fz_cons rfl (fz_cons (fz_own (fz_map (fun _ => rfl) _)) fz_nil)) (c_impl_SubrackFrom r2_0 ([r4_0, r5_0]) q58) rfl ?_ )
                            rintro _ rfl
                            refine ⟨(slf_tup (slf_cons (slf_own (slfL_map (f := ci) (fun _ => rfl) _)) (slf_cons rfl slf_nil))), rfl, ?_⟩
                            refine run_s (ss_move rfl) rfl ?_
                            refine run_s (ss_extract rfl rfl) rfl ?_
                            refine run_s (ss_extract rfl rfl) rfl ?_
                            refine run_s (ss_assign rfl) rfl ?_
                            refine run_s (ss_assign rfl) rfl ?_
                            refine run_nil ?_
                            refine aw_gh (gh_to (n := 202) (σ' := [(147, ⟨ints (SbfT r2_0 ([r4_0, r5_0])), []⟩), (146, ⟨ints ([r4_0, r5_0]), []⟩), (135, ⟨[.lst (bys o5_0), ci o5_1, cu o5_2], []⟩), (12, ⟨[.lst (rows r2_0)], []⟩)]) (env' := [(12, .cell 12 0), (13, .c (.lst (ints (SubT r2_0)))), (17, .c (ci (r2_0.length : Int))), (19, .c (ci r4_0)), (21, .ref 147), (22, .c (ci (SbfE r2_0 ([r4_0, r5_0]))))]) rfl rfl ⟨rfl, rfl, rfl, rfl, rfl, rfl, trivial⟩) ?_
                            refine aw_gh (gh_frzE (id := 147) ci rfl (fun _ => rfl)) ?_
                            refine aw_gh (gh_to (n := 202) (σ' := [(146, ⟨ints ([r4_0, r5_0]), []⟩), (135, ⟨[.lst (bys o5_0), ci o5_1, cu o5_2], []⟩), (12, ⟨[.lst (rows r2_0)], []⟩)]) (env' := [(12, .cell 12 0), (13, .c (.lst (ints (SubT r2_0)))), (17, .c (ci (r2_0.length : Int))), (19, .c (ci r4_0)), (21, .c (.lst (ints (SbfT r2_0 ([r4_0, r5_0]))))), (22, .c (ci (SbfE r2_0 ([r4_0, r5_0]))))]) rfl rfl ⟨rfl, rfl, rfl, rfl, rfl, rfl, trivial⟩) ?_
                            refine aw_gh (gh_frzE (id := 146) ci rfl (fun _ => rfl)) ?_
                            refine aw_gh (gh_to (n := 202) (σ' := [(135, ⟨[.lst (bys o5_0), ci o5_1, cu o5_2], []⟩), (12, ⟨[.lst (rows r2_0)], []⟩)]) (env' := [(12, .cell 12 0), (13, .c (.lst (ints (SubT r2_0)))), (17, .c (ci (r2_0.length : Int))), (19, .c (ci r4_0)), (21, .c (.lst (ints (SbfT r2_0 ([r4_0, r5_0]))))), (22, .c (ci (SbfE r2_0 ([r4_0, r5_0]))))]) rfl rfl ⟨rfl, rfl, rfl, rfl, rfl, rfl, trivial⟩) ?_
                            refine aw_seq ?_
                            refine aw_gh (gh_to (n := 202) (σ' := [(135, ⟨[.lst (bys o5_0), ci o5_1, cu o5_2], []⟩), (12, ⟨[.lst (rows r2_0)], []⟩)]) (env' := [(12, .cell 12 0), (13, .c (.lst (ints (SubT r2_0)))), (17, .c (ci (r2_0.length : Int))), (19, .c (ci r4_0)), (21, .c (.lst (ints (SbfT r2_0 ([r4_0, r5_0]))))), (22, .c (ci (SbfE r2_0 ([r4_0, r5_0]))))]) rfl rfl ⟨rfl, rfl, rfl, rfl, rfl, rfl, trivial⟩) ?_
                            refine aw_region ?_
                            refine run_s (ss_assign rfl) rfl ?_
                            refine run_nil ?_
                            refine aw_seq ?_
                            refine aw_seq ?_
                            refine aw_region ?_
                            refine run_s (ss_assign rfl) rfl ?_
                            refine run_nil ?_
                            refine aw_block ?_
                            refine aw_gh (gh_freeze (id := 135) rfl rfl) ?_
                            obtain ⟨H2, m2, q60, h⟩ := h
                            refine aw_loop2 (fun (v23_2 : Int) (v24_2 : Int) => ⟨[(12, ⟨[.lst (rows r2_0)], []⟩)], [(12, .cell 12 0), (13, .c (.lst (ints (SubT r2_0)))), (17, .c (ci (r2_0.length : Int))), (19, .c (ci r4_0)), (21, .c (.lst (ints (SbfT r2_0 ([r4_0, r5_0]))))), (22, .c (ci (SbfE r2_0 ([r4_0, r5_0])))), (23, .c (ci v23_2)), (24, .c (ci v24_2))], 202⟩) H2 m2 ⟨0, 0, ghe_to (n := 202) rfl rfl ⟨rfl, rfl, rfl, rfl, rfl, rfl, rfl, rfl, trivial⟩, q60⟩ ?_
                            rintro v23_2 v24_2 q60
                            replace h := h v23_2 v24_2 q60
                            refine aw_seq ?_
                            refine aw_seq ?_
                            refine aw_region ?_
                            refine run_s (ss_move rfl) rfl ?_
                            refine run_s (ss_move rfl) rfl ?_
                            refine run_s (ss_lenL (f := ci) rfl) rfl ?_
                            refine run_s (ss_lss rfl rfl) rfl ?_
                            refine run_nil ?_
                            refine aw_cond rfl (fun q61 => ?_) (fun q61 => ?_)
                            · replace h := h.1 (of_decide_eq_true q61)
                              refine aw_skip ?_
                              refine aw_seq ?_
                              refine aw_block ?_
                              refine aw_seq ?_
                              refine aw_seq ?_
                              refine aw_region ?_
                              refine run_s (ss_move rfl) rfl ?_
                              refine run_s (ss_move rfl) rfl ?_
                              obtain ⟨q62, h⟩ := h
                              refine run_s (ss_idxL rfl rfl q62) rfl ?_
                              refine run_s (ss_loadL (f := ci) rfl q62) rfl ?_
                              refine run_s (ss_lss rfl rfl) rfl ?_
                              refine run_s (ss_move rfl) rfl ?_
                              refine run_split (s := 161) rfl (fun q63 => ?_) (fun q63 => ?_)
                              · replace h := h.1 (of_decide_eq_true q63)
                                refine run_gf rfl rfl q63 rfl ?_
                                refine run_gf rfl rfl q63 rfl ?_
                                refine run_gf rfl rfl q63 rfl ?_
                                refine run_gf rfl rfl q63 rfl ?_
                                refine run_gf rfl rfl q63 rfl ?_
                                refine run_gf rfl rfl q63 rfl ?_
                                refine run_s (ss_pickT rfl q63 rfl) rfl ?_
                                refine run_nil ?_
                                refine aw_cond rfl (fun q64 => ?_) (fun q64 => ?_)
                                · skip
                                  refine aw_seq ?_
                                  refine aw_gh (gh_to (n := 202) (σ' := [(12, ⟨[.lst (rows r2_0)], []⟩)]) (env' := []) rfl rfl trivial) ?_
                                  refine aw_region ?_
                                  refine run_s (ss_assign rfl) rfl ?_
                                  refine run_nil ?_
                                  refine aw_ret ?_
                                  exact retAF_mk (retv1 rfl (rv_tmp rfl)) rfl rfl ⟨_, (cle_refl _), _, h, rfl⟩
                                · cases q64
                              · replace h := h.2 (of_decide_eq_false q63)
                                refine run_gt rfl rfl q63 ?_
                                refine run_s (ss_move rfl) rfl ?_
                                refine run_gt rfl rfl q63 ?_
                                refine run_s (ss_move rfl) rfl ?_
                                refine run_gt rfl rfl q63 ?_
                                obtain ⟨q65, h⟩ := h
                                refine run_s (ss_idxL rfl rfl q65) rfl ?_
                                refine run_gt rfl rfl q63 ?_
                                refine run_s (ss_loadL (f := ci) rfl q65) rfl ?_
                                refine run_gt rfl rfl q63 ?_
                                refine run_s (ss_move rfl) rfl ?_
                                refine run_gt rfl rfl q63 ?_
                                refine run_s (ss_geq rfl rfl) rfl ?_
                                refine run_s (ss_pickF rfl q63 rfl) rfl ?_
                                refine run_nil ?_
                                refine aw_cond rfl (fun q66 => ?_) (fun q66 => ?_)
                                · replace h := h.1 (of_decide_eq_true q66)
                                  refine aw_seq ?_
                                  refine aw_gh (gh_to (n := 202) (σ' := [(12, ⟨[.lst (rows r2_0)], []⟩)]) (env' := []) rfl rfl trivial) ?_
                                  refine aw_region ?_
                                  refine run_s (ss_assign rfl) rfl ?_
                                  refine run_nil ?_
                                  refine aw_ret ?_
                                  exact retAF_mk (retv1 rfl (rv_tmp rfl)) rfl rfl ⟨_, (cle_refl _), _, h, rfl⟩
                                · replace h := h.2 (of_decide_eq_false q66)
                                  refine aw_skip ?_
                                  refine aw_region ?_
                                  refine run_s (ss_move rfl) rfl ?_
                                  refine run_s (ss_move rfl) rfl ?_
                                  refine run_s (ss_move rfl) rfl ?_
                                  obtain ⟨q67, h⟩ := h
                                  refine run_s (ss_idxL rfl rfl q67) rfl ?_
                                  refine run_s (ss_loadL (f := ci) rfl q67) rfl ?_
                                  obtain ⟨q68, h⟩ := h
                                  refine run_s (ss_convert rfl (IntWalk.u64_in _ q68)) rfl ?_
                                  obtain ⟨q69, h⟩ := h
                                  refine run_s (ss_shl rfl rfl q69) rfl ?_
                                  obtain ⟨q70, h⟩ := h
                                  refine run_s (ss_or rfl rfl q70) rfl ?_
                                  refine run_s (ss_assign rfl) rfl ?_
                                  refine run_nil ?_
                                  refine aw_region ?_
                                  refine run_s (ss_move rfl) rfl ?_
                                  obtain ⟨q71, h⟩ := h
                                  refine run_s (ss_add rfl rfl q71) rfl ?_
                                  refine run_s (ss_assign rfl) rfl ?_
                                  refine run_nil ?_
                                  exact ⟨((v23_2.toNat ||| (1 * (2 : Int) ^ (el (SbfT r2_0 ([r4_0, r5_0])) v24_2).toNat).toNat : Nat) : Int), v24_2 + 1, ghe_to (n := 202) rfl rfl ⟨rfl, rfl, rfl, rfl, rfl, rfl, rfl, rfl, trivial⟩, h.1, h.2⟩
                            · replace h := h.2 (of_decide_eq_false q61)
                              refine aw_exit ?_
                              refine aw_seq ?_
                              refine aw_gh (gh_to (n := 202) (σ' := [(12, ⟨[.lst (rows r2_0)], []⟩)]) (env' := [(12, .cell 12 0), (13, .c (.lst (ints (SubT r2_0)))), (19, .c (ci r4_0)), (22, .c (ci (SbfE r2_0 ([r4_0, r5_0])))), (23, .c (ci v23_2))]) rfl rfl ⟨rfl, rfl, rfl, rfl, rfl, trivial⟩) ?_
                              refine aw_regionD (kd := kdl [0, 0, 0, 0, 0, 2, 0, 0, 0, 0, 0, 0, 2, 0, 1, 0, 0, 1, 0, 0, 1, 0, 0, 0, 0, 0]) (ord := [0, 1, 2, 3, 4, 5, 6, 7, 8, 9, 10, 11, 13, 15, 18, 21, 14, 16, 17, 19, 20, 22, 12, 23, 24, 25]) [] mixed (by kernel_rfl) ?_
                              refine rd_s rfl rfl trivial (ss_move rfl) rfl ?_
                              refine rd_s rfl rfl trivial (ss_eql rfl rfl) rfl ?_
                              refine rd_s rfl rfl trivial (ss_move rfl) rfl ?_
                              refine rd_split (s := 179) rfl (fun q72 => ?_) (fun q72 => ?_)
                              · replace h := h.1 (of_decide_eq_true q72)
                                refine rd_s rfl rfl ⟨_, _, rfl, rfl, q72⟩ (ss_move rfl) rfl ?_
                                refine rd_s rfl rfl ⟨_, _, rfl, rfl, q72⟩ (ss_move rfl) rfl ?_
                                obtain ⟨q73, h⟩ := h
                                refine rd_w rfl rfl ⟨_, _, rfl, rfl, q72⟩ rfl rfl (ws_call (xs := [.tmp 180, .tmp 181]) (ids := []) rfl rfl rfl rfl (c_laws_hasInt (SubT r2_0) v23_2 q73) rfl ?_ )
                                rintro _ rfl
                                refine ⟨rfl, ?_⟩
                                refine rd_s rfl rfl trivial (ss_pickT rfl q72 rfl) rfl ?_
                                refine rd_s rfl rfl trivial (ss_move rfl) rfl ?_
                                refine rd_split (s := 184) rfl (fun q75 => ?_) (fun q75 => ?_)
                                · replace h := h.1 (q75)
                                  refine rd_s rfl rfl ⟨_, _, rfl, rfl, q75⟩ (ss_move rfl) rfl ?_
                                  refine rd_s rfl rfl ⟨_, _, rfl, rfl, q75⟩ (ss_move rfl) rfl ?_
                                  obtain ⟨q76, h⟩ := h
                                  refine rd_s rfl rfl ⟨_, _, rfl, rfl, q75⟩ (ss_convert rfl (IntWalk.u64_in _ q76)) rfl ?_
                                  obtain ⟨q77, h⟩ := h
                                  refine rd_s rfl rfl ⟨_, _, rfl, rfl, q75⟩ (ss_shl rfl rfl q77) rfl ?_
                                  refine rd_s rfl rfl ⟨_, _, rfl, rfl, q75⟩ (ss_field_cell rfl) rfl ?_
                                  refine rd_s rfl rfl ⟨_, _, rfl, rfl, q75⟩ (ss_move rfl) rfl ?_
                                  refine rd_s rfl rfl ⟨_, _, rfl, rfl, q75⟩ (ss_move rfl) rfl ?_
                                  refine rd_s rfl rfl ⟨_, _, rfl, rfl, q75⟩ (ss_move rfl) rfl ?_
                                  refine rd_l rfl rfl ⟨_, _, rfl, rfl, q75⟩ (ss_loadC rfl rfl rfl rfl rfl) rfl ?_
                                  obtain ⟨q78, h⟩ := h
                                  refine rd_s rfl rfl ⟨_, _, rfl, rfl, q75⟩ (ss_idxL rfl rfl q78) rfl ?_
                                  refine rd_l rfl rfl ⟨_, _, rfl, rfl, q75⟩ (ss_loadL (f := (fun r => C.lst (ints r))) rfl q78) rfl ?_
                                  obtain ⟨q79, h⟩ := h
                                  refine rd_s rfl rfl ⟨_, _, rfl, rfl, q75⟩ (ss_idxL rfl rfl q79) rfl ?_
                                  refine rd_l rfl rfl ⟨_, _, rfl, rfl, q75⟩ (ss_loadL (f := ci) rfl q79) rfl ?_
                                  refine rd_s rfl rfl ⟨_, _, rfl, rfl, q75⟩ (ss_eql rfl rfl) rfl ?_
                                  obtain ⟨q80, h⟩ := h
                                  refine rd_w rfl rfl ⟨_, _, rfl, rfl, q75⟩ rfl rfl (ws_call (xs := [.tmp 185, .tmp 188]) (ids := []) rfl rfl rfl rfl (c_laws_hasInt (SubT r2_0) (1 * (2 : Int) ^ r4_0.toNat) q80) rfl ?_ )
                                  rintro _ rfl
                                  refine ⟨rfl, ?_⟩
                                  refine rd_s rfl rfl ⟨_, _, rfl, rfl, q75⟩ (ss_eqlB rfl rfl) rfl ?_
                                  refine rd_s rfl rfl trivial (ss_pickT rfl q75 rfl) rfl ?_
                                  refine rd_s rfl rfl trivial (ss_assign rfl) rfl ?_
                                  refine rd_nil ?_
                                  refine aw_ret ?_
                                  exact retAF_mk (retv1 rfl (rv_tmp rfl)) rfl rfl ⟨_, (cle_refl _), _, h, rfl⟩
                                · replace h := h.2 (q75)
                                  refine rd_no rfl rfl rfl q75 rfl ?_
                                  refine rd_no rfl rfl rfl q75 rfl ?_
                                  refine rd_no rfl rfl rfl q75 rfl ?_
                                  refine rd_no rfl rfl rfl q75 rfl ?_
                                  refine rd_no rfl rfl rfl q75 rfl ?_
                                  refine rd_no rfl rfl rfl q75 rfl ?_
                                  refine rd_no rfl rfl rfl q75 rfl ?_
                                  refine rd_no rfl rfl rfl q75 rfl ?_
                                  refine rd_no rfl rfl rfl q75 rfl ?_
                                  refine rd_no rfl rfl rfl q75 rfl ?_
                                  refine rd_no rfl rfl rfl q75 rfl ?_
                                  refine rd_no rfl rfl rfl q75 rfl ?_
                                  refine rd_no rfl rfl rfl q75 rfl ?_
                                  refine rd_no rfl rfl rfl q75 rfl ?_
                                  refine rd_no rfl rfl rfl q75 rfl ?_
                                  refine rd_no rfl rfl rfl q75 rfl ?_
                                  refine rd_s rfl rfl trivial (ss_pickF rfl q75 rfl) rfl ?_
                                  refine rd_s rfl rfl trivial (ss_assign rfl) rfl ?_
                                  refine rd_nil ?_
                                  refine aw_ret ?_
                                  exact retAF_mk (retv1 rfl (rv_tmp rfl)) rfl rfl ⟨_, (cle_refl _), _, h, rfl⟩
                              · replace h := h.2 (of_decide_eq_false q72)
                                refine rd_no rfl rfl rfl q72 rfl ?_
                                refine rd_no rfl rfl rfl q72 rfl ?_
                                refine rd_no rfl rfl rfl q72 rfl ?_
                                refine rd_s rfl rfl trivial (ss_pickF rfl q72 rfl) rfl ?_
                                refine rd_s rfl rfl trivial (ss_move rfl) rfl ?_
                                refine rd_split (s := 184) rfl (fun q82 => ?_) (fun q82 => ?_)
                                · cases q82
                                · skip
                                  refine rd_no rfl rfl rfl q82 rfl ?_
                                  refine rd_no rfl rfl rfl q82 rfl ?_
                                  refine rd_no rfl rfl rfl q82 rfl ?_
                                  refine rd_no rfl rfl rfl q82 rfl ?_
                                  refine rd_no rfl rfl rfl q82 rfl ?_
                                  refine rd_no rfl rfl rfl q82 rfl ?_
                                  refine rd_no rfl rfl rfl q82 rfl ?_
                                  refine rd_no rfl rfl rfl q82 rfl ?_
                                  refine rd_no rfl rfl rfl q82 rfl ?_
                                  refine rd_no rfl rfl rfl q82 rfl ?_
                                  refine rd_no rfl rfl rfl q82 rfl ?_
                                  refine rd_no rfl rfl rfl q82 rfl ?_
                                  refine rd_no rfl rfl rfl q82 rfl ?_
                                  refine rd_no rfl rfl rfl q82 rfl ?_
                                  refine rd_no rfl rfl rfl q82 rfl ?_
                                  refine rd_no rfl rfl rfl q82 rfl ?_
                                  refine rd_s rfl rfl trivial (ss_pickF rfl q82 rfl) rfl ?_
                                  refine rd_s rfl rfl trivial (ss_assign rfl) rfl ?_
                                  refine rd_nil ?_
                                  refine aw_ret ?_
                                  exact retAF_mk (retv1 rfl (rv_tmp rfl)) rfl rfl ⟨_, (cle_refl _), _, h, rfl⟩
        · replace h := h.2 (of_decide_eq_false q14)
          refine aw_skip ?_
          refine aw_seq ?_
          refine aw_region ?_
          refine run_s (ss_move rfl) rfl ?_
          obtain ⟨q83, h⟩ := h
          refine run_w (ws_call (xs := [.tmp 89]) (ids := [90]) rfl rfl rfl rfl (c_spec_DrawSubracksOf code q83) rfl ?_ )
          rintro _ ⟨r6_0, q84, rfl⟩
          replace h := h r6_0 q84
          refine ⟨rfl, ?_⟩
          refine run_w (ws_alloc (id := 12) rfl (Nat.le_of_ble_eq_true rfl) ⟨rfl, ?_⟩)
          refine run_w (ws_storeS rfl rfl (Nat.le_of_ble_eq_true rfl) rfl rfl rfl ⟨rfl, ?_⟩)
          refine run_nil ?_
          refine aw_gh (gh_to (n := 202) (σ' := [(12, ⟨[.hole], [(0, .ref 90)]⟩), (90, ⟨orows r6_0, []⟩), (3, ⟨[.lst (rows r1_0)], []⟩)]) (env' := [(0, .c (.lst (bys code))), (12, .cell 12 0)]) rfl rfl ⟨rfl, rfl, trivial⟩) ?_
          refine aw_gh (gh_frzE (id := 90) (fun r => C.lst (ints r)) rfl (fun _ => (fz_own (fz_map (fun _ => rfl) _)))) ?_
          refine aw_gh (gh_fillc (id := 12) (j := 0) rfl rfl (Nat.le_of_ble_eq_true rfl)) ?_
          refine aw_gh (gh_to (n := 202) (σ' := [(12, ⟨[.lst (rows r6_0)], []⟩), (3, ⟨[.lst (rows r1_0)], []⟩)]) (env' := [(0, .c (.lst (bys code))), (12, .cell 12 0)]) rfl rfl ⟨rfl, rfl, trivial⟩) ?_
          refine aw_seq ?_
          refine aw_region ?_
          refine run_s (ss_loadS rfl rfl rfl rfl) rfl ?_
          obtain ⟨q85, h⟩ := h
          refine run_w (ws_call (xs := [.tmp 92]) (ids := [93]) rfl rfl rfl rfl (c_impl_SubracksOf r6_0 q85) rfl ?_ )
          rintro _ rfl
          refine ⟨rfl, ?_⟩
          refine run_s (ss_move rfl) rfl ?_
          refine run_s (ss_extract rfl rfl) rfl ?_
          refine run_s (ss_extract rfl rfl) rfl ?_
          refine run_s (ss_assign rfl) rfl ?_
          refine run_s (ss_assign rfl) rfl ?_
          refine run_nil ?_
          refine aw_gh (gh_to (n := 202) (σ' := [(93, ⟨ints (SubT r6_0), []⟩), (12, ⟨[.lst (rows r6_0)], []⟩), (3, ⟨[.lst (rows r1_0)], []⟩)]) (env' := [(0, .c (.lst (bys code))), (12, .cell 12 0), (13, .ref 93), (14, .c (ci (rkE r6_0)))]) rfl rfl ⟨rfl, rfl, rfl, rfl, trivial⟩) ?_
          refine aw_gh (gh_frzE (id := 93) ci rfl (fun _ => rfl)) ?_
          refine aw_gh (gh_to (n := 202) (σ' := [(12, ⟨[.lst (rows r6_0)], []⟩), (3, ⟨[.lst (rows r1_0)], []⟩)]) (env' := [(0, .c (.lst (bys code))), (12, .cell 12 0), (13, .c (.lst (ints (SubT r6_0)))), (14, .c (ci (rkE r6_0)))]) rfl rfl ⟨rfl, rfl, rfl, rfl, trivial⟩) ?_
          refine aw_seq ?_
          refine aw_seq ?_
          refine aw_region ?_
          refine run_s (ss_loadS rfl rfl rfl rfl) rfl ?_
          obtain ⟨q87, h⟩ := h
          refine run_w (ws_call (xs := [.tmp 97]) (ids := [98]) rfl rfl rfl rfl (c_spec_SubracksOf r6_0 q87) rfl ?_ )
          rintro _ rfl
          refine ⟨rfl, ?_⟩
          refine run_s (ss_move rfl) rfl ?_
          refine run_s (ss_extract rfl rfl) rfl ?_
          refine run_s (ss_extract rfl rfl) rfl ?_
          refine run_s (ss_assign rfl) rfl ?_
          refine run_s (ss_assign rfl) rfl ?_
          refine run_nil ?_
          refine aw_gh (gh_to (n := 202) (σ' := [(98, ⟨ints (SubT r6_0), []⟩), (12, ⟨[.lst (rows r6_0)], []⟩), (3, ⟨[.lst (rows r1_0)], []⟩)]) (env' := [(0, .c (.lst (bys code))), (12, .cell 12 0), (13, .c (.lst (ints (SubT r6_0)))), (14, .c (ci (rkE r6_0))), (15, .ref 98), (16, .c (ci (rkE r6_0)))]) rfl rfl ⟨rfl, rfl, rfl, rfl, rfl, rfl, trivial⟩) ?_
          refine aw_gh (gh_frzE (id := 98) ci rfl (fun _ => rfl)) ?_
          refine aw_gh (gh_to (n := 202) (σ' := [(12, ⟨[.lst (rows r6_0)], []⟩), (3, ⟨[.lst (rows r1_0)], []⟩)]) (env' := [(0, .c (.lst (bys code))), (12, .cell 12 0), (13, .c (.lst (ints (SubT r6_0)))), (14, .c (ci (rkE r6_0))), (15, .c (.lst (ints (SubT r6_0)))), (16, .c (ci (rkE r6_0)))]) rfl rfl ⟨rfl, rfl, rfl, rfl, rfl, rfl, trivial⟩) ?_
          refine aw_seq ?_
          refine aw_region ?_
          refine run_s (ss_move rfl) rfl ?_
          refine run_s (ss_move rfl) rfl ?_
          refine run_s (ss_neq rfl rfl) rfl ?_
          refine run_s (ss_move rfl) rfl ?_
          refine run_split (s := 104) rfl (fun q89 => ?_) (fun q89 => ?_)
          · replace h := h.1 (of_decide_eq_false (bnot_t q89))
            refine run_gf rfl rfl q89 rfl ?_
            refine run_gf rfl rfl q89 rfl ?_
            refine run_gf rfl rfl q89 rfl ?_
            refine run_gf rfl rfl q89 rfl ?_
            refine run_s (ss_pickT rfl q89 rfl) rfl ?_
            refine run_nil ?_
            refine aw_cond rfl (fun q90 => ?_) (fun q90 => ?_)
            · skip
              refine aw_seq ?_
              refine aw_gh (gh_to (n := 202) (σ' := [(12, ⟨[.lst (rows r6_0)], []⟩), (3, ⟨[.lst (rows r1_0)], []⟩)]) (env' := []) rfl rfl trivial) ?_
              refine aw_region ?_
              refine run_s (ss_assign rfl) rfl ?_
              refine run_nil ?_
              refine aw_ret ?_
              exact retAF_mk (retv1 rfl (rv_tmp rfl)) rfl rfl ⟨_, (cle_refl _), _, h, rfl⟩
            · cases q90
          · replace h := h.2 (of_decide_eq_true (bnot_f q89))
            refine run_gt rfl rfl q89 ?_
            refine run_s (ss_move rfl) rfl ?_
            refine run_gt rfl rfl q89 ?_
            refine run_s (ss_move rfl) rfl ?_
            refine run_gt rfl rfl q89 ?_
            obtain ⟨q91, h⟩ := h
            refine run_w (ws_call (xs := [.tmp 105, .tmp 106]) (ids := []) rfl rfl rfl rfl (c_laws_likeInts (SubT r6_0) (SubT r6_0) q91) rfl ?_ )
            rintro _ rfl
            refine ⟨rfl, ?_⟩
            refine run_gt rfl rfl q89 ?_
            refine run_s (ss_not rfl) rfl ?_
            refine run_s (ss_pickF rfl q89 rfl) rfl ?_
            refine run_nil ?_
            refine aw_cond rfl (fun q93 => ?_) (fun q93 => ?_)
            · replace h := h.1 (of_decide_eq_false (bnot_t q93))
              refine aw_seq ?_
              refine aw_gh (gh_to (n := 202) (σ' := [(12, ⟨[.lst (rows r6_0)], []⟩), (3, ⟨[.lst (rows r1_0)], []⟩)]) (env' := []) rfl rfl trivial) ?_
              refine aw_region ?_
              refine run_s (ss_assign rfl) rfl ?_
              refine run_nil ?_
              refine aw_ret ?_
              exact retAF_mk (retv1 rfl (rv_tmp rfl)) rfl rfl ⟨_, (cle_refl _), _, h, rfl⟩
            · replace h := h.2 (of_decide_eq_true (bnot_f q93))
              refine aw_skip ?_
              refine aw_seq ?_
              refine aw_seq ?_
              refine aw_region ?_
              refine run_s (ss_move rfl) rfl ?_
              refine run_s (ss_neq rfl rfl) rfl ?_
              refine run_nil ?_
              refine aw_cond rfl (fun q94 => ?_) (fun q94 => ?_)
              · replace h := h.1 (of_decide_eq_false (bnot_t q94))
                refine aw_seq ?_
                refine aw_gh (gh_to (n := 202) (σ' := [(12, ⟨[.lst (rows r6_0)], []⟩), (3, ⟨[.lst (rows r1_0)], []⟩)]) (env' := [(13, .c (.lst (ints (SubT r6_0))))]) rfl rfl ⟨rfl, trivial⟩) ?_
                refine aw_region ?_
                refine run_s (ss_move rfl) rfl ?_
                refine run_s (ss_lenL (f := ci) rfl) rfl ?_
                refine run_s (ss_eql rfl rfl) rfl ?_
                refine run_s (ss_assign rfl) rfl ?_
                refine run_nil ?_
                refine aw_ret ?_
                exact retAF_mk (retv1 rfl (rv_tmp rfl)) rfl rfl ⟨_, (cle_refl _), _, h, rfl⟩
              · replace h := h.2 (of_decide_eq_true (bnot_f q94))
                refine aw_skip ?_
                refine aw_seq ?_
                refine aw_region ?_
                refine run_s (ss_field_cell rfl) rfl ?_
                refine run_s (ss_loadC rfl rfl rfl rfl rfl) rfl ?_
                refine run_s (ss_lenL (f := (fun r => C.lst (ints r))) rfl) rfl ?_
                refine run_s (ss_assign rfl) rfl ?_
                refine run_nil ?_
                refine aw_seq ?_
                refine aw_seq ?_
                refine aw_region ?_
                refine run_s (ss_move rfl) rfl ?_
                refine run_s (ss_lenL (f := ci) rfl) rfl ?_
                refine run_s (ss_eql rfl rfl) rfl ?_
                refine run_s (ss_move rfl) rfl ?_
                refine run_split (s := 121) rfl (fun q95 => ?_) (fun q95 => ?_)
                · replace h := h.1 (of_decide_eq_true q95)
                  refine run_gf rfl rfl q95 rfl ?_
                  refine run_gf rfl rfl q95 rfl ?_
                  refine run_gf rfl rfl q95 rfl ?_
                  refine run_gf rfl rfl q95 rfl ?_
                  refine run_gf rfl rfl q95 rfl ?_
                  refine run_gf rfl rfl q95 rfl ?_
                  refine run_gf rfl rfl q95 rfl ?_
                  refine run_gf rfl rfl q95 rfl ?_
                  refine run_gf rfl rfl q95 rfl ?_
                  refine run_gf rfl rfl q95 rfl ?_
                  refine run_gf rfl rfl q95 rfl ?_
                  refine run_s (ss_pickT rfl q95 rfl) rfl ?_
                  refine run_nil ?_
                  refine aw_cond rfl (fun q96 => ?_) (fun q96 => ?_)
                  · skip
                    refine aw_seq ?_
                    refine aw_gh (gh_to (n := 202) (σ' := [(12, ⟨[.lst (rows r6_0)], []⟩), (3, ⟨[.lst (rows r1_0)], []⟩)]) (env' := []) rfl rfl trivial) ?_
                    refine aw_region ?_
                    refine run_s (ss_assign rfl) rfl ?_
                    refine run_nil ?_
                    refine aw_ret ?_
                    exact retAF_mk (retv1 rfl (rv_tmp rfl)) rfl rfl ⟨_, (cle_refl _), _, h, rfl⟩
                  · cases q96
                · replace h := h.2 (of_decide_eq_false q95)
                  refine run_gt rfl rfl q95 ?_
                  refine run_s (ss_move rfl) rfl ?_
                  refine run_gt rfl rfl q95 ?_
                  refine run_s (ss_move rfl) rfl ?_
                  refine run_gt rfl rfl q95 ?_
                  refine run_s (ss_lenL (f := ci) rfl) rfl ?_
                  refine run_gt rfl rfl q95 ?_
                  obtain ⟨q97, h⟩ := h
                  refine run_s (ss_sub rfl rfl q97) rfl ?_
                  refine run_gt rfl rfl q95 ?_
                  obtain ⟨q98, h⟩ := h
                  refine run_s (ss_idxL rfl rfl q98) rfl ?_
                  refine run_gt rfl rfl q95 ?_
                  refine run_s (ss_loadL (f := ci) rfl q98) rfl ?_
                  refine run_gt rfl rfl q95 ?_
                  refine run_s (ss_move rfl) rfl ?_
                  refine run_gt rfl rfl q95 ?_
                  obtain ⟨q99, h⟩ := h
                  refine run_s (ss_convert rfl (IntWalk.u64_in _ q99)) rfl ?_
                  refine run_gt rfl rfl q95 ?_
                  obtain ⟨q100, h⟩ := h
                  refine run_s (ss_shl rfl rfl q100) rfl ?_
                  refine run_gt rfl rfl q95 ?_
                  obtain ⟨q101, h⟩ := h
                  refine run_s (ss_sub rfl rfl q101) rfl ?_
                  refine run_gt rfl rfl q95 ?_
                  refine run_s (ss_neq rfl rfl) rfl ?_
                  refine run_s (ss_pickF rfl q95 rfl) rfl ?_
                  refine run_nil ?_
                  refine aw_cond rfl (fun q102 => ?_) (fun q102 => ?_)
                  · replace h := h.1 (of_decide_eq_false (bnot_t q102))
                    refine aw_seq ?_
                    refine aw_gh (gh_to (n := 202) (σ' := [(12, ⟨[.lst (rows r6_0)], []⟩), (3, ⟨[.lst (rows r1_0)], []⟩)]) (env' := []) rfl rfl trivial) ?_
                    refine aw_region ?_
                    refine run_s (ss_assign rfl) rfl ?_
                    refine run_nil ?_
                    refine aw_ret ?_
                    exact retAF_mk (retv1 rfl (rv_tmp rfl)) rfl rfl ⟨_, (cle_refl _), _, h, rfl⟩
                  · replace h := h.2 (of_decide_eq_true (bnot_f q102))
                    refine aw_skip ?_
                    refine aw_seq ?_
                    refine aw_gh (gh_to (n := 202) (σ' := [(12, ⟨[.lst (rows r6_0)], []⟩), (3, ⟨[.lst (rows r1_0)], []⟩)]) (env' := [(0, .c (.lst (bys code))), (12, .cell 12 0), (13, .c (.lst (ints (SubT r6_0)))), (17, .c (ci (r6_0.length : Int)))]) rfl rfl ⟨rfl, rfl, rfl, rfl, trivial⟩) ?_
                    refine aw_region ?_
                    refine run_s (ss_move rfl) rfl ?_
                    obtain ⟨q103, h⟩ := h
                    refine run_w (ws_call (xs := [.tmp 134, .const (.int .u64 (1241))]) (ids := [135]) rfl rfl rfl rfl (c_laws_roll code 1241 q103) rfl ?_ )
                    rintro _ ⟨r7_0, r7_1, r7_2, q104, rfl⟩
                    replace h := h r7_0 r7_1 r7_2 q104
                    refine ⟨rfl, ?_⟩
                    refine run_s (ss_assign rfl) rfl ?_
                    refine run_nil ?_
                    refine aw_seq ?_
                    refine aw_region ?_
                    refine run_s (ss_move rfl) rfl ?_
                    refine run_s (ss_move rfl) rfl ?_
                    obtain ⟨q105, h⟩ := h
                    refine run_w (ws_callM (xs := [.tmp 136, .tmp 137]) (cs := [.obox [.lst (bys r7_0), ci r7_1, cu r7_2], ci (r6_0.length : Int)]) (ids := []) rfl (.inr ⟨rfl, rfl⟩) rfl rfl rfl (c_dice_below r7_0 r7_1 r7_2 (r6_0.length : Int) q105) rfl rfl ?_ )
                    rintro _ _ ⟨r8_0, o8_0, o8_1, o8_2, q106, rfl, rfl⟩
                    replace h := h r8_0 o8_0 o8_1 o8_2 q106
                    refine ⟨rfl, rfl, ?_⟩
                    refine run_s (ss_move rfl) rfl ?_
                    refine run_s (ss_move rfl) rfl ?_
                    obtain ⟨q107, h⟩ := h
                    refine run_w (ws_callM (xs := [.tmp 139, .tmp 140]) (cs := [.obox [.lst (bys o8_0), ci o8_1, cu o8_2], ci (r6_0.length : Int)]) (ids := []) rfl (.inr ⟨rfl, rfl⟩) rfl rfl rfl (c_dice_below o8_0 o8_1 o8_2 (r6_0.length : Int) q107) rfl rfl ?_ )
                    rintro _ _ ⟨r9_0, o9_0, o9_1, o9_2, q108, rfl, rfl⟩
                    replace h := h r9_0 o9_0 o9_1 o9_2 q108
                    refine ⟨rfl, rfl, ?_⟩
                    refine run_s (ss_assign rfl) rfl ?_
                    refine run_s (ss_assign rfl) rfl ?_
                    refine run_nil ?_
                    refine aw_seq ?_
                    refine aw_region ?_
                    refine run_s (ss_loadS rfl rfl rfl rfl) rfl ?_
                    refine run_s (ss_move rfl) rfl ?_
                    refine run_s (ss_move rfl) rfl ?_
                    refine run_w (ws_buildSlice (id := 146) (ps := [(0, .tmp 144), (1, .tmp 145)]) rfl rfl (Nat.le_of_ble_eq_true rfl) rfl ⟨rfl, ?_⟩)
                    obtain ⟨q109, h⟩ := h
                    refine run_w (ws_callR (xs := [.tmp 143, .tmp 146]) (cs := [.agg [.lst (rows r6_0)], .own (ints ([r8_0, r9_0]))]) (ids := [147]) rfl (.inr ⟨rfl, rfl⟩) rfl rfl (fz_cons rfl (fz_cons (fz_own (fz_map (fun _ => rfl) _)) fz_nil)) (c_impl_SubrackFrom r6_0 ([r8_0, r9_0]) q109) rfl ?_ )
                    rintro _ rfl
                    refine ⟨(slf_tup (slf_cons (slf_own (slfL_map (f := ci) (fun _ => rfl) _)) (slf_cons rfl slf_nil))), rfl, ?_⟩
                    refine run_s (ss_move rfl) rfl ?_
                    refine run_s (ss_extract rfl rfl) rfl ?_
                    refine run_s (ss_extract rfl rfl) rfl ?_
                    refine run_s (ss_assign rfl) rfl ?_
                    refine run_s (ss_assign rfl) rfl ?_
                    refine run_nil ?_
                    refine aw_gh (gh_to (n := 202) (σ' := [(147, ⟨ints (SbfT r6_0 ([r8_0, r9_0])), []⟩), (146, ⟨ints ([r8_0, r9_0]), []⟩), (135, ⟨[.lst (bys o9_0), ci o9_1, cu o9_2], []⟩), (12, ⟨[.lst (rows r6_0)], []⟩), (3, ⟨[.lst (rows r1_0)], []⟩)]) (env' := [(12, .cell 12 0), (13, .c (.lst (ints (SubT r6_0)))), (17, .c (ci (r6_0.length : Int))), (19, .c (ci r8_0)), (21, .ref 147), (22, .c (ci (SbfE r6_0 ([r8_0, r9_0]))))]) rfl rfl ⟨rfl, rfl, rfl, rfl, rfl, rfl, trivial⟩) ?_
                    refine aw_gh (gh_frzE (id := 147) ci rfl (fun _ => rfl)) ?_
                    refine aw_gh (gh_to (n := 202) (σ' := [(146, ⟨ints ([r8_0, r9_0]), []⟩), (135, ⟨[.lst (bys o9_0), ci o9_1, cu o9_2], []⟩), (12, ⟨[.lst (rows r6_0)], []⟩), (3, ⟨[.lst (rows r1_0)], []⟩)]) (env' := [(12, .cell 12 0), (13, .c (.lst (ints (SubT r6_0)))), (17, .c (ci (r6_0.length : Int))), (19, .c (ci r8_0)), (21, .c (.lst (ints (SbfT r6_0 ([r8_0, r9_0]))))), (22, .c (ci (SbfE r6_0 ([r8_0, r9_0]))))]) rfl rfl ⟨rfl, rfl, rfl, rfl, rfl, rfl, trivial⟩) ?_
                    refine aw_gh (gh_frzE (id := 146) ci rfl (fun _ => rfl)) ?_
                    refine aw_gh (gh_to (n := 202) (σ' := [(135, ⟨[.lst (bys o9_0), ci o9_1, cu o9_2], []⟩), (12, ⟨[.lst (rows r6_0)], []⟩), (3, ⟨[.lst (rows r1_0)], []⟩)]) (env' := [(12, .cell 12 0), (13, .c (.lst (ints (SubT r6_0)))), (17, .c (ci (r6_0.length : Int))), (19, .c (ci r8_0)), (21, .c (.lst (ints (SbfT r6_0 ([r8_0, r9_0]))))), (22, .c (ci (SbfE r6_0 ([r8_0, r9_0]))))]) rfl rfl ⟨rfl, rfl, rfl, rfl, rfl, rfl, trivial⟩) ?_
                    refine aw_seq ?_
                    refine aw_gh (gh_to (n := 202) (σ' := [(135, ⟨[.lst (bys o9_0), ci o9_1, cu o9_2], []⟩), (12, ⟨[.lst (rows r6_0)], []⟩), (3, ⟨[.lst (rows r1_0)], []⟩)]) (env' := [(12, .cell 12 0), (13, .c (.lst (ints (SubT r6_0)))), (17, .c (ci (r6_0.length : Int))), (19, .c (ci r8_0)), (21, .c (.lst (ints (SbfT r6_0 ([r8_0, r9_0]))))), (22, .c (ci (SbfE r6_0 ([r8_0, r9_0]))))]) rfl rfl ⟨rfl, rfl, rfl, rfl, rfl, rfl, trivial⟩) ?_
                    refine aw_region ?_
                    refine run_s (ss_assign rfl) rfl ?_
                    refine run_nil ?_
                    refine aw_seq ?_
                    refine aw_seq ?_
                    refine aw_region ?_
                    refine run_s (ss_assign rfl) rfl ?_
                    refine run_nil ?_
                    refine aw_block ?_
                    refine aw_gh (gh_freeze (id := 135) rfl rfl) ?_
                    refine aw_gh (gh_freeze (id := 3) rfl rfl) ?_
                    obtain ⟨H3, m3, q111, h⟩ := h
                    refine aw_loop2 (fun (v23_1 : Int) (v24_1 : Int) => ⟨[(12, ⟨[.lst (rows r6_0)], []⟩)], [(12, .cell 12 0), (13, .c (.lst (ints (SubT r6_0)))), (17, .c (ci (r6_0.length : Int))), (19, .c (ci r8_0)), (21, .c (.lst (ints (SbfT r6_0 ([r8_0, r9_0]))))), (22, .c (ci (SbfE r6_0 ([r8_0, r9_0])))), (23, .c (ci v23_1)), (24, .c (ci v24_1))], 202⟩) H3 m3 ⟨0, 0, ghe_to (n := 202) rfl rfl ⟨rfl, rfl, rfl, rfl, rfl, rfl, rfl, rfl, trivial⟩, q111⟩ ?_
                    rintro v23_1 v24_1 q111
                    replace h := h v23_1 v24_1 q111
                    refine aw_seq ?_
                    refine aw_seq ?_
                    refine aw_region ?_
                    refine run_s (ss_move rfl) rfl ?_
                    refine run_s (ss_move rfl) rfl ?_
                    refine run_s (ss_lenL (f := ci) rfl) rfl ?_
                    refine run_s (ss_lss rfl rfl) rfl ?_
                    refine run_nil ?_
                    refine aw_cond rfl (fun q112 => ?_) (fun q112 => ?_)
                    · replace h := h.1 (of_decide_eq_true q112)
                      refine aw_skip ?_
                      refine aw_seq ?_
                      refine aw_block ?_
                      refine aw_seq ?_
                      refine aw_seq ?_
                      refine aw_region ?_
                      refine run_s (ss_move rfl) rfl ?_
                      refine run_s (ss_move rfl) rfl ?_
                      obtain ⟨q113, h⟩ := h
                      refine run_s (ss_idxL rfl rfl q113) rfl ?_
                      refine run_s (ss_loadL (f := ci) rfl q113) rfl ?_
                      refine run_s (ss_lss rfl rfl) rfl ?_
                      refine run_s (ss_move rfl) rfl ?_
                      refine run_split (s := 161) rfl (fun q114 => ?_) (fun q114 => ?_)
                      · replace h := h.1 (of_decide_eq_true q114)
                        refine run_gf rfl rfl q114 rfl ?_
                        refine run_gf rfl rfl q114 rfl ?_
                        refine run_gf rfl rfl q114 rfl ?_
                        refine run_gf rfl rfl q114 rfl ?_
                        refine run_gf rfl rfl q114 rfl ?_
                        refine run_gf rfl rfl q114 rfl ?_
                        refine run_s (ss_pickT rfl q114 rfl) rfl ?_
                        refine run_nil ?_
                        refine aw_cond rfl (fun q115 => ?_) (fun q115 => ?_)
                        · skip
                          refine aw_seq ?_
                          refine aw_gh (gh_to (n := 202) (σ' := [(12, ⟨[.lst (rows r6_0)], []⟩)]) (env' := []) rfl rfl trivial) ?_
                          refine aw_region ?_
                          refine run_s (ss_assign rfl) rfl ?_
                          refine run_nil ?_
                          refine aw_ret ?_
                          exact retAF_mk (retv1 rfl (rv_tmp rfl)) rfl rfl ⟨_, (cle_refl _), _, h, rfl⟩
                        · cases q115
                      · replace h := h.2 (of_decide_eq_false q114)
                        refine run_gt rfl rfl q114 ?_
                        refine run_s (ss_move rfl) rfl ?_
                        refine run_gt rfl rfl q114 ?_
                        refine run_s (ss_move rfl) rfl ?_
                        refine run_gt rfl rfl q114 ?_
                        obtain ⟨q116, h⟩ := h
                        refine run_s (ss_idxL rfl rfl q116) rfl ?_
                        refine run_gt rfl rfl q114 ?_
                        refine run_s (ss_loadL (f := ci) rfl q116) rfl ?_
                        refine run_gt rfl rfl q114 ?_
                        refine run_s (ss_move rfl) rfl ?_
                        refine run_gt rfl rfl q114 ?_
                        refine run_s (ss_geq rfl rfl) rfl ?_
                        refine run_s (ss_pickF rfl q114 rfl) rfl ?_
                        refine run_nil ?_
                        refine aw_cond rfl (fun q117 => ?_) (fun q117 => ?_)
                        · replace h := h.1 (of_decide_eq_true q117)
                          refine aw_seq ?_
                          refine aw_gh (gh_to (n := 202) (σ' := [(12, ⟨[.lst (rows r6_0)], []⟩)]) (env' := []) rfl rfl trivial) ?_
                          refine aw_region ?_
                          refine run_s (ss_assign rfl) rfl ?_
                          refine run_nil ?_
                          refine aw_ret ?_
                          exact retAF_mk (retv1 rfl (rv_tmp rfl)) rfl rfl ⟨_, (cle_refl _), _, h, rfl⟩
                        · replace h := h.2 (of_decide_eq_false q117)
                          refine aw_skip ?_
                          refine aw_region ?_
                          refine run_s (ss_move rfl) rfl ?_
                          refine run_s (ss_move rfl) rfl ?_
                          refine run_s (ss_move rfl) rfl ?_
                          obtain ⟨q118, h⟩ := h
                          refine run_s (ss_idxL rfl rfl q118) rfl ?_
                          refine run_s (ss_loadL (f := ci) rfl q118) rfl ?_
                          obtain ⟨q119, h⟩ := h
                          refine run_s (ss_convert rfl (IntWalk.u64_in _ q119)) rfl ?_
                          obtain ⟨q120, h⟩ := h
                          refine run_s (ss_shl rfl rfl q120) rfl ?_
                          obtain ⟨q121, h⟩ := h
                          refine run_s (ss_or rfl rfl q121) rfl ?_
                          refine run_s (ss_assign rfl) rfl ?_
                          refine run_nil ?_
                          refine aw_region ?_
                          refine run_s (ss_move rfl) rfl ?_
                          obtain ⟨q122, h⟩ := h
                          refine run_s (ss_add rfl rfl q122) rfl ?_
                          refine run_s (ss_assign rfl) rfl ?_
                          refine run_nil ?_
                          exact ⟨((v23_1.toNat ||| (1 * (2 : Int) ^ (el (SbfT r6_0 ([r8_0, r9_0])) v24_1).toNat).toNat : Nat) : Int), v24_1 + 1, ghe_to (n := 202) rfl rfl ⟨rfl, rfl, rfl, rfl, rfl, rfl, rfl, rfl, trivial⟩, h.1, h.2⟩
                    · replace h := h.2 (of_decide_eq_false q112)
                      refine aw_exit ?_
                      refine aw_seq ?_
                      refine aw_gh (gh_to (n := 202) (σ' := [(12, ⟨[.lst (rows r6_0)], []⟩)]) (env' := [(12, .cell 12 0), (13, .c (.lst (ints (SubT r6_0)))), (19, .c (ci r8_0)), (22, .c (ci (SbfE r6_0 ([r8_0, r9_0])))), (23, .c (ci v23_1))]) rfl rfl ⟨rfl, rfl, rfl, rfl, rfl, trivial⟩) ?_
                      refine aw_regionD (kd := kdl [0, 0, 0, 0, 0, 2, 0, 0, 0, 0, 0, 0, 2, 0, 1, 0, 0, 1, 0, 0, 1, 0, 0, 0, 0, 0]) (ord := [0, 1, 2, 3, 4, 5, 6, 7, 8, 9, 10, 11, 13, 15, 18, 21, 14, 16, 17, 19, 20, 22, 12, 23, 24, 25]) [] mixed (by kernel_rfl) ?_
                      refine rd_s rfl rfl trivial (ss_move rfl) rfl ?_
                      refine rd_s rfl rfl trivial (ss_eql rfl rfl) rfl ?_
                      refine rd_s rfl rfl trivial (ss_move rfl) rfl ?_
                      refine rd_split (s := 179) rfl (fun q123 => ?_) (fun q123 => ?_)
                      · replace h := h.1 (of_decide_eq_true q123)
                        refine rd_s rfl rfl ⟨_, _, rfl, rfl, q123⟩ (ss_move rfl) rfl ?_
                        refine rd_s rfl rfl ⟨_, _, rfl, rfl, q123⟩ (ss_move rfl) rfl ?_
                        obtain ⟨q124, h⟩ := h
                        refine rd_w rfl rfl ⟨_, _, rfl, rfl, q123⟩ rfl rfl (ws_call (xs := [.tmp 180, .tmp 181]) (ids := []) rfl rfl rfl rfl (c_laws_hasInt (SubT r6_0) v23_1 q124) rfl ?_ )
                        rintro _ rfl
                        refine ⟨rfl, ?_⟩
                        refine rd_s rfl rfl trivial (ss_pickT rfl q123 rfl) rfl ?_
                        refine rd_s rfl rfl trivial (ss_move rfl) rfl ?_
                        refine rd_split (s := 184) rfl (fun q126 => ?_) (fun q126 => ?_)
                        · replace h := h.1 (q126)
                          refine rd_s rfl rfl ⟨_, _, rfl, rfl, q126⟩ (ss_move rfl) rfl ?_
                          refine rd_s rfl rfl ⟨_, _, rfl, rfl, q126⟩ (ss_move rfl) rfl ?_
                          obtain ⟨q127, h⟩ := h
                          refine rd_s rfl rfl ⟨_, _, rfl, rfl, q126⟩ (ss_convert rfl (IntWalk.u64_in _ q127)) rfl ?_
                          obtain ⟨q128, h⟩ := h
                          refine rd_s rfl rfl ⟨_, _, rfl, rfl, q126⟩ (ss_shl rfl rfl q128) rfl ?_
                          refine rd_s rfl rfl ⟨_, _, rfl, rfl, q126⟩ (ss_field_cell rfl) rfl ?_
                          refine rd_s rfl rfl ⟨_, _, rfl, rfl, q126⟩ (ss_move rfl) rfl ?_
                          refine rd_s rfl rfl ⟨_, _, rfl, rfl, q126⟩ (ss_move rfl) rfl ?_
                          refine rd_s rfl rfl ⟨_, _, rfl, rfl, q126⟩ (ss_move rfl) rfl ?_
                          refine rd_l rfl rfl ⟨_, _, rfl, rfl, q126⟩ (ss_loadC rfl rfl rfl rfl rfl) rfl ?_
                          obtain ⟨q129, h⟩ := h
                          refine rd_s rfl rfl ⟨_, _, rfl, rfl, q126⟩ (ss_idxL rfl rfl q129) rfl ?_
                          refine rd_l rfl rfl ⟨_, _, rfl, rfl, q126⟩ (ss_loadL (f := (fun r => C.lst (ints r))) rfl q129) rfl ?_
                          obtain ⟨q130, h⟩ := h
                          refine rd_s rfl rfl ⟨_, _, rfl, rfl, q126⟩ (ss_idxL rfl rfl q130) rfl ?_
                          refine rd_l rfl rfl ⟨_, _, rfl, rfl, q126⟩ (ss_loadL (f := ci) rfl q130) rfl ?_
                          refine rd_s rfl rfl ⟨_, _, rfl, rfl, q126⟩ (ss_eql rfl rfl) rfl ?_
                          obtain ⟨q131, h⟩ := h
                          refine rd_w rfl rfl ⟨_, _, rfl, rfl, q126⟩ rfl rfl (ws_call (xs := [.tmp 185, .tmp 188]) (ids := []) rfl rfl rfl rfl (c_laws_hasInt (SubT r6_0) (1 * (2 : Int) ^ r8_0.toNat) q131) rfl ?_ )
                          rintro _ rfl
                          refine ⟨rfl, ?_⟩
                          refine rd_s rfl rfl ⟨_, _, rfl, rfl, q126⟩ (ss_eqlB rfl rfl) rfl ?_
                          refine rd_s rfl rfl trivial (ss_pickT rfl q126 rfl) rfl ?_
                          refine rd_s rfl rfl trivial (ss_assign rfl) rfl ?_
                          refine rd_nil ?_
                          refine aw_ret ?_
                          exact retAF_mk (retv1 rfl (rv_tmp rfl)) rfl rfl ⟨_, (cle_refl _), _, h, rfl⟩
                        · replace h := h.2 (q126)
                          refine rd_no rfl rfl rfl q126 rfl ?_
                          refine rd_no rfl rfl rfl q126 rfl ?_
                          refine rd_no rfl rfl rfl q126 rfl ?_
                          refine rd_no rfl rfl rfl q126 rfl ?_
                          refine rd_no rfl rfl rfl q126 rfl ?_
                          refine rd_no rfl rfl rfl q126 rfl ?_
                          refine rd_no rfl rfl rfl q126 rfl ?_
                          refine rd_no rfl rfl rfl q126 rfl ?_
                          refine rd_no rfl rfl rfl q126 rfl ?_
                          refine rd_no rfl rfl rfl q126 rfl ?_
                          refine rd_no rfl rfl rfl q126 rfl ?_
                          refine rd_no rfl rfl rfl q126 rfl ?_
                          refine rd_no rfl rfl rfl q126 rfl ?_
                          refine rd_no rfl rfl rfl q126 rfl ?_
                          refine rd_no rfl rfl rfl q126 rfl ?_
                          refine rd_no rfl rfl rfl q126 rfl ?_
                          refine rd_s rfl rfl trivial (ss_pickF rfl q126 rfl) rfl ?_
                          refine rd_s rfl rfl trivial (ss_assign rfl) rfl ?_
                          refine rd_nil ?_
                          refine aw_ret ?_
                          exact retAF_mk (retv1 rfl (rv_tmp rfl)) rfl rfl ⟨_, (cle_refl _), _, h, rfl⟩
                      · replace h := h.2 (of_decide_eq_false q123)
                        refine rd_no rfl rfl rfl q123 rfl ?_
                        refine rd_no rfl rfl rfl q123 rfl ?_
                        refine rd_no rfl rfl rfl q123 rfl ?_
                        refine rd_s rfl rfl trivial (ss_pickF rfl q123 rfl) rfl ?_
                        refine rd_s rfl rfl trivial (ss_move rfl) rfl ?_
                        refine rd_split (s := 184) rfl (fun q133 => ?_) (fun q133 => ?_)
                        · cases q133
                        · skip
                          refine rd_no rfl rfl rfl q133 rfl ?_
                          refine rd_no rfl rfl rfl q133 rfl ?_
                          refine rd_no rfl rfl rfl q133 rfl ?_
                          refine rd_no rfl rfl rfl q133 rfl ?_
                          refine rd_no rfl rfl rfl q133 rfl ?_
                          refine rd_no rfl rfl rfl q133 rfl ?_
                          refine rd_no rfl rfl rfl q133 rfl ?_
                          refine rd_no rfl rfl rfl q133 rfl ?_
                          refine rd_no rfl rfl rfl q133 rfl ?_
                          refine rd_no rfl rfl rfl q133 rfl ?_
                          refine rd_no rfl rfl rfl q133 rfl ?_
                          refine rd_no rfl rfl rfl q133 rfl ?_
                          refine rd_no rfl rfl rfl q133 rfl ?_
                          refine rd_no rfl rfl rfl q133 rfl ?_
                          refine rd_no rfl rfl rfl q133 rfl ?_
                          refine rd_no rfl rfl rfl q133 rfl ?_
                          refine rd_s rfl rfl trivial (ss_pickF rfl q133 rfl) rfl ?_
                          refine rd_s rfl rfl trivial (ss_assign rfl) rfl ?_
                          refine rd_nil ?_
                          refine aw_ret ?_
                          exact retAF_mk (retv1 rfl (rv_tmp rfl)) rfl rfl ⟨_, (cle_refl _), _, h, rfl⟩

theorem c_laws_FnRackParts (code : List Int) (hp : code.length ≤ 9223372036854775807 ∧ ∀ z_ ∈ code, 0 ≤ z_ ∧ z_ ≤ 255) : AF Try.prog 3 [.lst (bys code)] (fun R_ => R_ = cb true) :=
  (w_laws_FnRackParts code (fun y0 => y0 = true) (p_laws_FnRackParts code hp)).mono (by rintro r ⟨_, rfl, rfl⟩; rfl)

end Go.Proofs.Ytbodlnpmplcaoaa

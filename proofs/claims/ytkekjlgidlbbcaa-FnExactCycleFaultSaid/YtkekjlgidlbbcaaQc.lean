/- Laws: the conditions hold; no condition. -/
import Derived.Test.YtkekjlgidlbbcaaDc
namespace Go.Proofs.Ytkekjlgidlbbcaa

@[reducible] def fine2 (t : List (List Int)) : Prop := small2 t ∧ tot t ≤ 1000000000
theorem fine2_nil : fine2 [] := ⟨⟨by simp, by simp⟩, by simp [tot]⟩
theorem mem_ranf {α : Type} {n : Int} {f : Int → α} {r : α} (h : r ∈ ran n f) : ∃ i, (0 ≤ i ∧ i < n) ∧ r = f i := by
  unfold ran at h
  obtain ⟨k, hk, rfl⟩ := List.mem_map.1 h
  have := List.mem_range.1 hk
  exact ⟨k, ⟨by omega, by omega⟩, rfl⟩
theorem fine2_tab {n : Int} {f : Int → Int → Int} (h : n ≤ 1000) : fine2 (tab n f) := by
  refine ⟨⟨by simp [tab]; omega, fun r hr => ?_⟩, ?_⟩
  · obtain ⟨i, _, rfl⟩ := mem_ranf hr
    simp; omega
  · rw [tot_tab]
    have : n.toNat ≤ 1000 := by omega
    have : n.toNat * n.toNat ≤ 1000 * 1000 := Nat.mul_le_mul this this
    omega
theorem fine2_ite {c : Prop} [Decidable c] {t : List (List Int)} (h : c → fine2 t) : fine2 (if c then t else []) := by
  split
  · exact h (by assumption)
  · exact fine2_nil
theorem small_ite {c : Prop} [Decidable c] {t : List Int} (h : c → small t) : small (if c then t else []) := by
  split
  · exact h (by assumption)
  · simp
theorem fine_mk {T : List (List Int)} (h : fine2 T) : okKT 1 T ∧ small2 (mkII 1 T) ∧ okKT 1 (mkII 1 T) ∧ heII 1 (mkII 1 T) = 1 + tot T ∧ 0 ≤ tot T := by
  have := tot_nonneg T
  have h2 := h.2
  exact ⟨⟨by omega, by omega⟩, small2_mkII h.1, ⟨by omega, by rw [tot_mkII]; omega⟩, heII_mkII 1 T, this⟩
theorem fine_mk1 {l : List Int} (h : small l) : small (mkI 1 l) ∧ heI 1 (mkI 1 l) = 1 + (l.length : Int) := ⟨by simpa using h, heI_mkI 1 l⟩
/-- What is not too large. -/
theorem sz_fine {a : List (List Int)} {left : Int} (hl : left ≤ 1000000000) (h : ¬ szII a left < 0) : fine2 a := by
  unfold szII at h
  split at h
  · omega
  · have tn := tot_nonneg a
    refine ⟨⟨by show (a.length : Int) ≤ 1000000000; omega, fun r hr => ?_⟩, by omega⟩
    obtain ⟨i, hi, rfl⟩ := mem_el hr
    have := tt_row hi
    have := (tt_le a i).1
    show ((el a i).length : Int) ≤ 1000000000; omega
theorem sz_in {a : List (List Int)} {left : Int} (hl : left ≤ 1000000000) (h : ¬ szII a left < 0) : InS (szII a left) := by
  refine ⟨by omega, ?_⟩
  unfold szII
  have := tot_nonneg a
  split <;> omega
theorem InS20 : InS 1048576 := ⟨by omega, by omega⟩
theorem fine_mkk {T : List (List Int)} {k : Int} (h : fine2 T) (hk : 0 ≤ k ∧ k ≤ 100000000000) : okKT k T ∧ ¬ (k + tot T < 0) := by
  have := tot_nonneg T
  have h2 := h.2
  exact ⟨⟨by omega, by omega⟩, by omega⟩
theorem fine_TrivT (n : Int) : fine2 (TrivT n) := fine2_ite fun h => fine2_tab (by omega)
theorem fine_DiheT (n : Int) : fine2 (DiheT n) := fine2_ite fun h => fine2_tab (by omega)
theorem fine_AlexT (n a : Int) : fine2 (AlexT n a) := fine2_ite fun h => fine2_tab (by
  unfold AlexE at h
  split at h
  · cases h
  · rename_i h2; have := Classical.not_not.1 h2; omega)
theorem fine_PermT (p : List Int) : fine2 (PermT p) := fine2_ite fun h => fine2_tab (by have := permB_len h; omega)
theorem small_SquaT (c : List (List Int)) : small (SquaT c) := small_ite fun h => by have := isTab_len h; simp [diag]; omega
theorem first3_len (n : Int) (f : Int → Int → Int → Bool) : ((first3 n f).length : Int) ≤ 3 := by
  unfold first3
  split
  · rename_i l h
    obtain ⟨x, hx, h⟩ := List.exists_of_findSome?_eq_some h
    obtain ⟨y, hy, h⟩ := List.exists_of_findSome?_eq_some h
    obtain ⟨z, hz, h⟩ := List.exists_of_findSome?_eq_some h
    split at h
    · cases h; simp
    · cases h
  · simp
theorem small_CycfT (c : List (List Int)) : small (CycfT c) := small_ite fun h => by have := first3_len (c.length : Int) (cycB c); unfold cycF; show _ ≤ (1000000000 : Int); omega

theorem p_laws_FnExactTrivialRack (a0 : Int) (hp : InI a0) : wp_laws_FnExactTrivialRack a0 (fun y0 => y0 = true) := by
  unfold wp_laws_FnExactTrivialRack
  have ha0 := hp
  have j0 : 0 ≤ (1 : Int) ∧ (1 : Int) ≤ 100000000000 := ⟨by omega, by omega⟩
  have k1 : okK 1 := ⟨by omega, by omega⟩
  have r0 := fine_TrivT a0
  generalize TrivT a0 = T0 at *
  have q0 := fine_mk r0
  have p0 : ¬ (1 + tot T0 < 0) := by have := q0.2.2.2.2; omega
  simp [eq_true InS20, eq_true ha0, eq_true k1, eq_true r0.1, eq_true q0.1, eq_true q0.2.1, eq_true q0.2.2.1, q0.2.2.2.1, p0]
theorem p_laws_FnExactDihedralQuandle (a0 : Int) (hp : InI a0) : wp_laws_FnExactDihedralQuandle a0 (fun y0 => y0 = true) := by
  unfold wp_laws_FnExactDihedralQuandle
  have ha0 := hp
  have j0 : 0 ≤ (1 : Int) ∧ (1 : Int) ≤ 100000000000 := ⟨by omega, by omega⟩
  have k1 : okK 1 := ⟨by omega, by omega⟩
  have r0 := fine_DiheT a0
  generalize DiheT a0 = T0 at *
  have q0 := fine_mk r0
  have p0 : ¬ (1 + tot T0 < 0) := by have := q0.2.2.2.2; omega
  simp [eq_true InS20, eq_true ha0, eq_true k1, eq_true r0.1, eq_true q0.1, eq_true q0.2.1, eq_true q0.2.2.1, q0.2.2.2.1, p0]
theorem p_laws_FnExactAlexanderQuandle (a0 : Int) (a1 : Int) (hp : InI a0 ∧ InI a1) : wp_laws_FnExactAlexanderQuandle a0 a1 (fun y0 => y0 = true) := by
  unfold wp_laws_FnExactAlexanderQuandle
  obtain ⟨ha0, ha1⟩ := hp
  have j0 : 0 ≤ (1 : Int) ∧ (1 : Int) ≤ 100000000000 := ⟨by omega, by omega⟩
  have k1 : okK 1 := ⟨by omega, by omega⟩
  have r0 := fine_AlexT a0 a1
  generalize AlexT a0 a1 = T0 at *
  have q0 := fine_mk r0
  have p0 : ¬ (1 + tot T0 < 0) := by have := q0.2.2.2.2; omega
  simp [eq_true InS20, eq_true ha0, eq_true ha1, eq_true k1, eq_true r0.1, eq_true q0.1, eq_true q0.2.1, eq_true q0.2.2.1, q0.2.2.2.1, p0]
theorem p_laws_FnExactPermutationRack (a0 : List Int) (hp : a0.length ≤ 9223372036854775807) : wp_laws_FnExactPermutationRack a0 (fun y0 => y0 = true) := by
  unfold wp_laws_FnExactPermutationRack
  have ha0 := hp
  by_cases za0 : 1048576 < (a0.length : Int)
  · simp [eq_true InS20, eq_true ha0, za0]
  have fa0 : small a0 := by show (a0.length : Int) ≤ 1000000000; omega
  have j0 : 0 ≤ (1 : Int) ∧ (1 : Int) ≤ 100000000000 := ⟨by omega, by omega⟩
  have ma0 : okK (1) := ⟨by omega, by omega⟩
  have j1 : 0 ≤ 1 + (a0.length : Int) ∧ 1 + (a0.length : Int) ≤ 100000000000 := ⟨by omega, by omega⟩
  have na0 : ¬ (1 + (a0.length : Int) < 0) := by omega
  have k1 : okK 1 := ⟨by omega, by omega⟩
  have r0 := fine_PermT a0
  generalize PermT a0 = T0 at *
  have q0 := fine_mk r0
  have p0 : ¬ (1 + tot T0 < 0) := by have := q0.2.2.2.2; omega
  simp [eq_true InS20, eq_true ha0, za0, eq_true fa0, eq_true ma0, na0, eq_true k1, eq_true r0.1, eq_true q0.1, eq_true q0.2.1, eq_true q0.2.2.1, q0.2.2.2.1, p0]
theorem p_laws_FnExactSquaresOf (a0 : List (List Int)) (hp : huge2 a0) : wp_laws_FnExactSquaresOf a0 (fun y0 => y0 = true) := by
  unfold wp_laws_FnExactSquaresOf
  have ha0 := hp
  by_cases za0 : szII a0 1048576 < 0
  · simp [eq_true InS20, eq_true ha0, za0]
  have fa0 := sz_fine (by omega) za0
  have ia0 := sz_in (by omega) za0
  have j0 : 0 ≤ (1 : Int) ∧ (1 : Int) ≤ 100000000000 := ⟨by omega, by omega⟩
  have ma0 := fine_mkk fa0 j0
  have ta0 := tot_nonneg a0
  have j1 : 0 ≤ 1 + tot a0 ∧ 1 + tot a0 ≤ 100000000000 := ⟨by omega, by have := fa0.2; omega⟩
  have k1 : okK 1 := ⟨by omega, by omega⟩
  have r0 := small_SquaT a0
  generalize SquaT a0 = T0 at *
  have q0 := fine_mk1 r0
  have p0 : ¬ (1 + (T0.length : Int) < 0) := by omega
  simp [eq_true InS20, eq_true ha0, za0, eq_true fa0.1, eq_true ia0, eq_true ma0.1, ma0.2, eq_true k1, eq_true r0, eq_true q0.1, q0.2, p0]
theorem p_laws_FnExactCycleFault (a0 : List (List Int)) (hp : huge2 a0) : wp_laws_FnExactCycleFault a0 (fun y0 => y0 = true) := by
  unfold wp_laws_FnExactCycleFault
  have ha0 := hp
  by_cases za0 : szII a0 1048576 < 0
  · simp [eq_true InS20, eq_true ha0, za0]
  have fa0 := sz_fine (by omega) za0
  have ia0 := sz_in (by omega) za0
  have j0 : 0 ≤ (1 : Int) ∧ (1 : Int) ≤ 100000000000 := ⟨by omega, by omega⟩
  have ma0 := fine_mkk fa0 j0
  have ta0 := tot_nonneg a0
  have j1 : 0 ≤ 1 + tot a0 ∧ 1 + tot a0 ≤ 100000000000 := ⟨by omega, by have := fa0.2; omega⟩
  have k1 : okK 1 := ⟨by omega, by omega⟩
  have r0 := small_CycfT a0
  generalize CycfT a0 = T0 at *
  have q0 := fine_mk1 r0
  have p0 : ¬ (1 + (T0.length : Int) < 0) := by omega
  simp [eq_true InS20, eq_true ha0, za0, eq_true fa0.1, eq_true ia0, eq_true ma0.1, ma0.2, eq_true k1, eq_true r0, eq_true q0.1, q0.2, p0]
end Go.Proofs.Ytkekjlgidlbbcaa

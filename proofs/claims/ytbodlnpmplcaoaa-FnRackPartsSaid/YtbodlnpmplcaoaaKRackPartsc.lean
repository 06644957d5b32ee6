/- Contracts of functions that the law FnRackParts reaches: conditions, plain proofs, walks; no condition. -/
import Derived.Test.YtbodlnpmplcaoaaKRackPartsb
import Derived.Test.YtbodlnpmplcaoaaPl
namespace Go.Proofs.Ytbodlnpmplcaoaa

def wp_spec_l04Members (n : Int) (mask : Int) (Q : List Int → Prop) : Prop :=
 ∃ (H1 : Int → List Int → Prop) (m1 : Int → List Int → Nat),
 H1 0 ([] : List Int) ∧
 ∀ (v6_1 : Int) (o7_1 : List Int), H1 v6_1 o7_1 →
 ( ((v6_1 < n →
 ((0 : Int) ≤ v6_1 ∧ v6_1 ≤ 18446744073709551615) ∧
 ((0 : Int) ≤ mask ∧ (0 : Int) ≤ v6_1 ∧ v6_1 ≤ 62) ∧
 ((0 : Int) ≤ mask / (2 : Int) ^ v6_1.toNat ∧ mask / (2 : Int) ^ v6_1.toNat ≤ 9223372036854775807) ∧
 (((mask / (2 : Int) ^ v6_1.toNat) % 2 = 1 →
 ((o7_1.length : Int) + (([v6_1]).length : Int) ≤ 1000000000) ∧
 (InI (v6_1 + 1)) ∧
 (H1 (v6_1 + 1) (o7_1 ++ ([v6_1])) ∧ m1 (v6_1 + 1) (o7_1 ++ ([v6_1])) < m1 v6_1 o7_1)) ∧
 (¬ ((mask / (2 : Int) ^ v6_1.toNat) % 2 = 1) →
 (InI (v6_1 + 1)) ∧
 (H1 (v6_1 + 1) o7_1 ∧ m1 (v6_1 + 1) o7_1 < m1 v6_1 o7_1)))) ∧
 (¬ (v6_1 < n) →
 Q o7_1)))

def wp_spec_SubrackFrom (r : List (List Int)) (list : List Int) (Q : List Int → Int → Prop) : Prop :=
 (small2 r) ∧
 (((isRk r) = false →
 Q ([]) 1) ∧
 ((isRk r) = true →
 (small list ∧ 0 ≤ (r.length : Int) ∧ (r.length : Int) ≤ 1000000000) ∧
 (((list.all (fun z_ => decide (0 ≤ z_) && decide (z_ ≤ (r.length : Int) - 1))) = false →
 Q ([]) 2) ∧
 ((list.all (fun z_ => decide (0 ≤ z_) && decide (z_ ≤ (r.length : Int) - 1))) = true →
 (((list.length : Int) = 0 →
 Q ([]) 5) ∧
 (¬ ((list.length : Int) = 0) →
 ∃ (H1 : Int → Int → Prop) (m1 : Int → Int → Nat),
 H1 0 0 ∧
 ∀ (v6_1 : Int) (v7_1 : Int), H1 v6_1 v7_1 →
 ( ((v7_1 < (list.length : Int) →
 (0 ≤ v7_1 ∧ v7_1 < (list.length : Int)) ∧
 ((0 : Int) ≤ el list v7_1 ∧ el list v7_1 ≤ 18446744073709551615) ∧
 ((0 : Int) ≤ el list v7_1 ∧ el list v7_1 ≤ 62 ∧ InI (1 * (2 : Int) ^ (el list v7_1).toNat)) ∧
 (((0 : Int) ≤ v6_1 ∧ v6_1 ≤ 9223372036854775807) ∧ (0 : Int) ≤ 1 * (2 : Int) ^ (el list v7_1).toNat ∧ 1 * (2 : Int) ^ (el list v7_1).toNat ≤ 9223372036854775807) ∧
 (InI (v7_1 + 1)) ∧
 (H1 ((v6_1.toNat ||| (1 * (2 : Int) ^ (el list v7_1).toNat).toNat : Nat) : Int) (v7_1 + 1) ∧ m1 ((v6_1.toNat ||| (1 * (2 : Int) ^ (el list v7_1).toNat).toNat : Nat) : Int) (v7_1 + 1) < m1 v6_1 v7_1)) ∧
 (¬ (v7_1 < (list.length : Int)) →
 ∃ (H2 : Int → Prop) (m2 : Int → Nat),
 H2 v6_1 ∧
 ∀ (v6_2 : Int), H2 v6_2 →
 ( (isTab r = true ∧ 0 ≤ v6_2 ∧ v6_2 ≤ 9223372036854775807) ∧
 (((dec (CloM r v6_2)) = false →
 ∃ (H3 : Int → Int → Prop) (m3 : Int → Int → Nat),
 H3 v6_2 0 ∧
 ∀ (v6_3 : Int) (v8_3 : Int), H3 v6_3 v8_3 →
 ( ((v8_3 < (r.length : Int) →
 ∃ (H4 : Int → Int → Prop) (m4 : Int → Int → Nat),
 H4 v6_3 0 ∧
 ∀ (v6_4 : Int) (v9_4 : Int), H4 v6_4 v9_4 →
 ( ((v9_4 < (r.length : Int) →
 ((0 : Int) ≤ v8_3 ∧ v8_3 ≤ 18446744073709551615) ∧
 ((0 : Int) ≤ v6_4 ∧ (0 : Int) ≤ v8_3 ∧ v8_3 ≤ 62) ∧
 ((0 : Int) ≤ v6_4 / (2 : Int) ^ v8_3.toNat ∧ v6_4 / (2 : Int) ^ v8_3.toNat ≤ 9223372036854775807) ∧
 (((v6_4 / (2 : Int) ^ v8_3.toNat) % 2 = 1 →
 ((0 : Int) ≤ v9_4 ∧ v9_4 ≤ 18446744073709551615) ∧
 ((0 : Int) ≤ v6_4 ∧ (0 : Int) ≤ v9_4 ∧ v9_4 ≤ 62) ∧
 ((0 : Int) ≤ v6_4 / (2 : Int) ^ v9_4.toNat ∧ v6_4 / (2 : Int) ^ v9_4.toNat ≤ 9223372036854775807) ∧
 (((v6_4 / (2 : Int) ^ v9_4.toNat) % 2 = 1 →
 (0 ≤ v8_3 ∧ v8_3 < (r.length : Int)) ∧
 (0 ≤ v9_4 ∧ v9_4 < ((el r v8_3).length : Int)) ∧
 ((0 : Int) ≤ el (el r v8_3) v9_4 ∧ el (el r v8_3) v9_4 ≤ 18446744073709551615) ∧
 ((0 : Int) ≤ el (el r v8_3) v9_4 ∧ el (el r v8_3) v9_4 ≤ 62 ∧ InI (1 * (2 : Int) ^ (el (el r v8_3) v9_4).toNat)) ∧
 (((0 : Int) ≤ v6_4 ∧ v6_4 ≤ 9223372036854775807) ∧ (0 : Int) ≤ 1 * (2 : Int) ^ (el (el r v8_3) v9_4).toNat ∧ 1 * (2 : Int) ^ (el (el r v8_3) v9_4).toNat ≤ 9223372036854775807) ∧
 (InI (v9_4 + 1)) ∧
 (H4 ((v6_4.toNat ||| (1 * (2 : Int) ^ (el (el r v8_3) v9_4).toNat).toNat : Nat) : Int) (v9_4 + 1) ∧ m4 ((v6_4.toNat ||| (1 * (2 : Int) ^ (el (el r v8_3) v9_4).toNat).toNat : Nat) : Int) (v9_4 + 1) < m4 v6_4 v9_4)) ∧
 (¬ ((v6_4 / (2 : Int) ^ v9_4.toNat) % 2 = 1) →
 (InI (v9_4 + 1)) ∧
 (H4 v6_4 (v9_4 + 1) ∧ m4 v6_4 (v9_4 + 1) < m4 v6_4 v9_4)))) ∧
 (¬ ((v6_4 / (2 : Int) ^ v8_3.toNat) % 2 = 1) →
 (InI (v9_4 + 1)) ∧
 (H4 v6_4 (v9_4 + 1) ∧ m4 v6_4 (v9_4 + 1) < m4 v6_4 v9_4)))) ∧
 (¬ (v9_4 < (r.length : Int)) →
 (InI (v8_3 + 1)) ∧
 (H3 v6_4 (v8_3 + 1) ∧ m3 v6_4 (v8_3 + 1) < m3 v6_3 v8_3))))) ∧
 (¬ (v8_3 < (r.length : Int)) →
 (H2 v6_3 ∧ m2 v6_3 < m2 v6_2))))) ∧
 ((dec (CloM r v6_2)) = true →
 (0 ≤ (r.length : Int) ∧ (r.length : Int) ≤ 12 ∧ 0 ≤ v6_2 ∧ v6_2 ≤ 9223372036854775807) ∧
 Q (memI (r.length : Int) v6_2) 0))))))))))))

def wp_impl_SubrackFrom (r : List (List Int)) (list : List Int) (Q : List Int → Int → Prop) : Prop :=
 (small2 r) ∧
 (((isRk r) = false →
 Q ([]) 1) ∧
 ((isRk r) = true →
 (small list ∧ 0 ≤ (r.length : Int) ∧ (r.length : Int) ≤ 1000000000) ∧
 (((list.all (fun z_ => decide (0 ≤ z_) && decide (z_ ≤ (r.length : Int) - 1))) = false →
 Q ([]) 2) ∧
 ((list.all (fun z_ => decide (0 ≤ z_) && decide (z_ ≤ (r.length : Int) - 1))) = true →
 (((list.length : Int) = 0 →
 Q ([]) 5) ∧
 (¬ ((list.length : Int) = 0) →
 (small list) ∧
 (small list) ∧
 (small (srtI list)) ∧
 ∃ (H1 : Int → List Int → Prop) (m1 : Int → List Int → Nat),
 H1 0 (cpI (srtI list)) ∧
 ∀ (v7_1 : Int) (o24_1 : List Int), H1 v7_1 o24_1 →
 ( ((v7_1 < (o24_1.length : Int) →
 ∃ (H2 : Int → List Int → Prop) (m2 : Int → List Int → Nat),
 H2 0 o24_1 ∧
 ∀ (v8_2 : Int) (o24_2 : List Int), H2 v8_2 o24_2 →
 ( ((v8_2 ≤ v7_1 →
 (0 ≤ v7_1 ∧ v7_1 < (o24_2.length : Int)) ∧
 (0 ≤ v8_2 ∧ v8_2 < (o24_2.length : Int)) ∧
 (0 ≤ v8_2 ∧ v8_2 < (o24_2.length : Int)) ∧
 (0 ≤ v7_1 ∧ v7_1 < (o24_2.length : Int)) ∧
 (0 ≤ el o24_2 v7_1 ∧ el o24_2 v7_1 < (r.length : Int)) ∧
 (0 ≤ el o24_2 v8_2 ∧ el o24_2 v8_2 < ((el r (el o24_2 v7_1)).length : Int)) ∧
 (0 ≤ el o24_2 v8_2 ∧ el o24_2 v8_2 < (r.length : Int)) ∧
 (0 ≤ el o24_2 v7_1 ∧ el o24_2 v7_1 < ((el r (el o24_2 v8_2)).length : Int)) ∧
 ∃ (H3 : Int → List Int → Prop) (m3 : Int → List Int → Nat),
 H3 0 o24_2 ∧
 ∀ (v69_3 : Int) (o24_3 : List Int), H3 v69_3 o24_3 →
 ( ((v69_3 < 2 →
 (0 ≤ v69_3 ∧ v69_3 < ((([el (el r (el o24_2 v7_1)) (el o24_2 v8_2), el (el r (el o24_2 v8_2)) (el o24_2 v7_1)] : List Int)).length : Int)) ∧
 (small o24_3) ∧
 (((o24_3.contains (el ([el (el r (el o24_2 v7_1)) (el o24_2 v8_2), el (el r (el o24_2 v8_2)) (el o24_2 v7_1)] : List Int) v69_3)) = false →
 ((o24_3.length : Int) + (([el ([el (el r (el o24_2 v7_1)) (el o24_2 v8_2), el (el r (el o24_2 v8_2)) (el o24_2 v7_1)] : List Int) v69_3]).length : Int) ≤ 1000000000) ∧
 (InI (v69_3 + 1)) ∧
 (H3 (v69_3 + 1) (o24_3 ++ ([el ([el (el r (el o24_2 v7_1)) (el o24_2 v8_2), el (el r (el o24_2 v8_2)) (el o24_2 v7_1)] : List Int) v69_3])) ∧ m3 (v69_3 + 1) (o24_3 ++ ([el ([el (el r (el o24_2 v7_1)) (el o24_2 v8_2), el (el r (el o24_2 v8_2)) (el o24_2 v7_1)] : List Int) v69_3])) < m3 v69_3 o24_3)) ∧
 ((o24_3.contains (el ([el (el r (el o24_2 v7_1)) (el o24_2 v8_2), el (el r (el o24_2 v8_2)) (el o24_2 v7_1)] : List Int) v69_3)) = true →
 (InI (v69_3 + 1)) ∧
 (H3 (v69_3 + 1) o24_3 ∧ m3 (v69_3 + 1) o24_3 < m3 v69_3 o24_3)))) ∧
 (¬ (v69_3 < 2) →
 (InI (v8_2 + 1)) ∧
 (H2 (v8_2 + 1) o24_3 ∧ m2 (v8_2 + 1) o24_3 < m2 v8_2 o24_2))))) ∧
 (¬ (v8_2 ≤ v7_1) →
 (InI (v7_1 + 1)) ∧
 (H1 (v7_1 + 1) o24_2 ∧ m1 (v7_1 + 1) o24_2 < m1 v7_1 o24_1))))) ∧
 (¬ (v7_1 < (o24_1.length : Int)) →
 (small o24_1) ∧
 Q (srtI o24_1) 0)))))))))

theorem p_spec_l04Members (n mask : Int) (hp : 0 ≤ n ∧ n ≤ 12 ∧ 0 ≤ mask ∧ mask ≤ 9223372036854775807) : wp_spec_l04Members n mask (fun y0 => y0 = memI n mask) := by
  obtain ⟨n0, n1, hm⟩ := hp
  refine ⟨fun x o => 0 ≤ x ∧ x ≤ n ∧ o = memI x mask, fun x _ => (n - x).toNat, ⟨by omega, by omega, rfl⟩, ?_⟩
  rintro x o ⟨x0, x1, rfl⟩
  dsimp only
  have ml := memI_len x mask
  refine ⟨fun xlt => ⟨⟨by omega, by omega⟩, ⟨hm.1, x0, by omega⟩, dv2 hm, fun h1 => ⟨by simp; omega, ⟨by omega, by omega⟩, ⟨by omega, by omega, by rw [memI_succ x0, dec_t (P := bitP mask x) h1]; rfl⟩, by omega⟩, fun h1 => ⟨⟨by omega, by omega⟩, ⟨by omega, by omega, by rw [memI_succ x0, dec_f (P := bitP mask x) h1]; simp⟩, by omega⟩⟩, fun xge => ?_⟩
  rw [show x = n by omega]
theorem pow_bd {n : Int} (h : 0 ≤ n ∧ n ≤ 12) : 1 ≤ (2 : Int) ^ n.toNat ∧ (2 : Int) ^ n.toNat ≤ 4096 := by
  have e : (2 : Int) ^ n.toNat = ((2 ^ n.toNat : Nat) : Int) := by simp
  have h1 : 2 ^ n.toNat ≤ 2 ^ 12 := Nat.pow_le_pow_right (by omega) (by omega)
  have h2 : 0 < 2 ^ n.toNat := Nat.pow_pos (by omega)
  rw [e]; omega
theorem sc_in {t : List (List Int)} (ht : isTab t = true) {l : List Int} (hl : ∀ z ∈ l, 0 ≤ z ∧ z < (t.length : Int)) {a : Int} (h : Sc t l a) : 0 ≤ a ∧ a < (t.length : Int) := by
  induction h with
  | base h => exact hl _ h
  | step _ _ h1 h2 => exact rk_el ht h1 h2
structure MI (r : List (List Int)) (l : List Int) (m m' : Int) : Prop where
  rng : 0 ≤ m' ∧ m' < (2 : Int) ^ (r.length : Int).toNat
  le : m ≤ m'
  sup : ∀ z, 0 ≤ z → bitP m z → bitP m' z
  sc : ∀ z, 0 ≤ z → bitP m' z → Sc r l z
theorem MI.step {r : List (List Int)} {l : List Int} {m m' k : Int} (h : MI r l m m') (hk : 0 ≤ k ∧ k < (r.length : Int)) (hs : Sc r l k) : MI r l m (((m'.toNat ||| (1 * (2 : Int) ^ k.toNat).toNat : Nat) : Int)) :=
  ⟨or_lt2 h.rng hk, by
    have h1 : m'.toNat ≤ (m'.toNat ||| (1 * (2 : Int) ^ k.toNat).toNat) := Nat.left_le_or
    have := h.le; have := h.rng.1; omega, fun z z0 hz => (bit_or h.rng.1 hk.1 z0).2 (.inl (h.sup z z0 hz)), fun z z0 hz => by
    rcases (bit_or h.rng.1 hk.1 z0).1 hz with h1 | h1
    · exact h.sc z z0 h1
    · rw [h1]; exact hs⟩
theorem elem_all {n : Int} {l : List Int} (h : (l.all fun z_ => decide (0 ≤ z_) && decide (z_ ≤ n - 1)) = true) : ∀ z ∈ l, 0 ≤ z ∧ z < n := fun z hz => by
  have := List.all_eq_true.1 h z hz
  simp only [Bool.and_eq_true, decide_eq_true_eq] at this
  omega
theorem p_spec_SubrackFrom (r : List (List Int)) (list : List Int) (hp : small2 r ∧ small list) : wp_spec_SubrackFrom r list (fun y0 y1 => y0 = SbfT r list ∧ y1 = SbfE r list) := by
  refine ⟨hp.1, fun h => by simp [SbfT, SbfE, h], fun h => ?_⟩
  have ht := isRk_tab h
  have hn := isTab_len ht
  refine ⟨⟨hp.2, by omega, by omega⟩, fun h2 => by simp [SbfT, SbfE, h, h2], fun h2 => ⟨fun h3 => by simp [SbfT, SbfE, h, h2, h3], fun h3 => ?_⟩⟩
  have hr := elem_all h2
  have hE : SbfE r list = 0 := by simp only [SbfE, h, h2, if_true]; rw [if_neg h3]
  have hT : SbfT r list = sbI r list := by rw [SbfT, if_pos hE]
  rw [hE, hT]
  clear hE hT
  have hsm : (list.length : Int) ≤ 1000000000 := hp.2
  have hpw := pow_bd (n := (r.length : Int)) ⟨by omega, hn.2⟩
  have one : ∀ {m k : Int}, (0 ≤ m ∧ m < (2 : Int) ^ (r.length : Int).toNat) → (0 ≤ k ∧ k < (r.length : Int)) → ((0 : Int) ≤ k ∧ k ≤ 62 ∧ InI (1 * (2 : Int) ^ k.toNat)) ∧ (((0 : Int) ≤ m ∧ m ≤ 9223372036854775807) ∧ (0 : Int) ≤ 1 * (2 : Int) ^ k.toNat ∧ 1 * (2 : Int) ^ k.toNat ≤ 9223372036854775807) := fun {m k} hm hk => by
    have := pow_bd (n := k) ⟨hk.1, by omega⟩
    exact ⟨⟨hk.1, by omega, by omega, by omega⟩, ⟨hm.1, by omega⟩, by omega, by omega⟩
  refine ⟨fun m i => 0 ≤ i ∧ i ≤ (list.length : Int) ∧ MI r list 0 m ∧ ∀ j, 0 ≤ j → j < i → bitP m (el list j), fun _ i => ((list.length : Int) - i).toNat, ⟨by omega, by omega, ⟨⟨by omega, by omega⟩, by omega, fun _ _ h => h, fun z _ h => by simp [bitP] at h⟩, fun j h1 h2 => by omega⟩, ?_⟩
  rintro m i ⟨i0, i1, hM, hB⟩
  dsimp only
  refine ⟨fun ilt => ?_, fun ige => ?_⟩
  · have hk := hr _ (el_mem ⟨i0, ilt⟩)
    obtain ⟨o1, o2⟩ := one hM.rng hk
    refine ⟨⟨i0, ilt⟩, ⟨hk.1, by omega⟩, o1, o2, ⟨by omega, by omega⟩, ⟨by omega, by omega, hM.step hk (.base (el_mem ⟨i0, ilt⟩)), fun j h1 h4 => ?_⟩, by omega⟩
    have hj := hr _ (el_mem (l := list) (i := j) ⟨h1, by omega⟩)
    by_cases he : j = i
    · subst he; exact (bit_or hM.rng.1 hk.1 hk.1).2 (.inr rfl)
    · exact (bit_or hM.rng.1 hk.1 hj.1).2 (.inl (hB j h1 (by omega)))
  have hB' : ∀ z ∈ list, bitP m z := fun z hz => by
    obtain ⟨j, hj, rfl⟩ := mem_el hz
    exact hB j hj.1 (by omega)
  refine ⟨fun m => MI r list 0 m ∧ ∀ z ∈ list, bitP m z, fun m => ((2 : Int) ^ (r.length : Int).toNat - m).toNat, ⟨hM, hB'⟩, ?_⟩
  rintro m ⟨hM, hB⟩
  dsimp only
  refine ⟨⟨ht, hM.rng.1, by have := hM.rng.2; omega⟩, fun hc => ?_, fun hc => ?_⟩
  · have hc' : ¬ CloM r m := fun hk => by rw [dec_t hk] at hc; cases hc
    refine ⟨fun m' x => 0 ≤ x ∧ x ≤ (r.length : Int) ∧ MI r list m m' ∧ ∀ a, 0 ≤ a → a < x → ∀ b, 0 ≤ b → b < (r.length : Int) → bitP m a → bitP m b → bitP m' (el (el r a) b), fun _ x => ((r.length : Int) - x).toNat, ⟨by omega, by omega, ⟨hM.rng, by omega, fun _ _ h => h, hM.sc⟩, fun a h1 h4 => by omega⟩, ?_⟩
    rintro m1 x ⟨x0, x1, hM1, hC1⟩
    dsimp only
    refine ⟨fun xlt => ?_, fun xge => ?_⟩
    · refine ⟨fun m' y => 0 ≤ y ∧ y ≤ (r.length : Int) ∧ MI r list m m' ∧ (∀ a, 0 ≤ a → a < x → ∀ b, 0 ≤ b → b < (r.length : Int) → bitP m a → bitP m b → bitP m' (el (el r a) b)) ∧ ∀ b, 0 ≤ b → b < y → bitP m x → bitP m b → bitP m' (el (el r x) b), fun _ y => ((r.length : Int) - y).toNat, ⟨by omega, by omega, hM1, hC1, fun b h1 h4 => by omega⟩, ?_⟩
      rintro m2 y ⟨y0, y1, hM2, hC2, hD2⟩
      dsimp only
      refine ⟨fun ylt => ?_, fun yge => ⟨⟨by omega, by omega⟩, ⟨by omega, by omega, hM2, fun a h1 h4 b h5 h6 h7 h8 => ?_⟩, by omega⟩⟩
      · have hR := hM2.rng
        have skip : (bitP m x → bitP m y → bitP m2 (el (el r x) y)) → InI (y + 1) ∧ (0 ≤ y + 1 ∧ y + 1 ≤ (r.length : Int) ∧ MI r list m m2 ∧ (∀ a, 0 ≤ a → a < x → ∀ b, 0 ≤ b → b < (r.length : Int) → bitP m a → bitP m b → bitP m2 (el (el r a) b)) ∧ ∀ b, 0 ≤ b → b < y + 1 → bitP m x → bitP m b → bitP m2 (el (el r x) b)) ∧ ((r.length : Int) - (y + 1)).toNat < ((r.length : Int) - y).toNat := fun hh =>
          ⟨⟨by omega, by omega⟩, ⟨by omega, by omega, hM2, hC2, fun b h1 h4 h5 h6 => by
            by_cases he : b = y
            · subst he; exact hh h5 h6
            · exact hD2 b h1 (by omega) h5 h6⟩, by omega⟩
        refine ⟨⟨x0, by omega⟩, ⟨hR.1, x0, by omega⟩, dv2 ⟨hR.1, by omega⟩, fun g1 => ⟨⟨y0, by omega⟩, ⟨hR.1, y0, by omega⟩, dv2 ⟨hR.1, by omega⟩, fun g2 => ?_, fun g2 => skip fun _ q2 => absurd (hM2.sup y y0 q2) g2⟩, fun g1 => skip fun q1 _ => absurd (hM2.sup x x0 q1) g1⟩
        have hlx := rk_len ht ⟨x0, xlt⟩
        have hk := rk_el ht (x := x) (y := y) ⟨x0, xlt⟩ ⟨y0, ylt⟩
        obtain ⟨o1, o2⟩ := one hR hk
        refine ⟨⟨x0, xlt⟩, ⟨y0, by omega⟩, ⟨hk.1, by omega⟩, o1, o2, ⟨by omega, by omega⟩, ⟨by omega, by omega, hM2.step hk (.step (hM2.sc x x0 g1) (hM2.sc y y0 g2)), fun a h1 h4 b h5 h6 h7 h8 => ?_, fun b h1 h4 h5 h6 => ?_⟩, by omega⟩
        · have hk2 := rk_el ht (x := a) (y := b) ⟨h1, by omega⟩ ⟨h5, h6⟩
          exact (bit_or hR.1 hk.1 hk2.1).2 (.inl (hC2 a h1 h4 b h5 h6 h7 h8))
        · have hk2 := rk_el ht (x := x) (y := b) ⟨x0, xlt⟩ ⟨h1, by omega⟩
          by_cases he : b = y
          · subst he; exact (bit_or hR.1 hk.1 hk.1).2 (.inr rfl)
          · exact (bit_or hR.1 hk.1 hk2.1).2 (.inl (hD2 b h1 (by omega) h5 h6))
      · by_cases he : a = x
        · subst he; exact hD2 b h5 (by omega) h7 h8
        · exact hC2 a h1 (by omega) b h5 h6 h7 h8
    · refine ⟨⟨⟨hM1.rng, hM1.rng.1, fun z _ hz => by simp [bitP] at hz, hM1.sc⟩, fun z hz => hM1.sup z (hr z hz).1 (hB z hz)⟩, ?_⟩
      have hne : m ≠ m1 := fun he => hc' fun a b a0 a1 b0 b1 ha hb => by
        have := hC1 a a0 (by omega) b b0 b1 ha hb
        rw [← he] at this; exact this
      have := hM1.le
      have := hM1.rng
      omega
  · have hcl : CloM r m := dec_iff.1 hc
    have key : memI (r.length : Int) m = sbI r list := by
      unfold memI sbI
      refine List.filter_congr fun a ha => ?_
      have hin := mem_ran.1 ha
      have : bitP m a ↔ Sc r list a := ⟨hM.sc a hin.1, fun h => by
        clear hin ha
        induction h with
        | base h => exact hB _ h
        | step h1 h2 i1 i2 =>
          have k1 := sc_in ht hr h1
          have k2 := sc_in ht hr h2
          exact hcl _ _ k1.1 k1.2 k2.1 k2.2 i1 i2⟩
      rw [dec_congr this]
    exact ⟨⟨by omega, hn.2, hM.rng.1, by have := hM.rng.2; omega⟩, key, rfl⟩
structure SI (r : List (List Int)) (l s : List Int) : Prop where
  nd : s.Nodup
  sc : ∀ z ∈ s, Sc r l z
  sup : ∀ z ∈ l, z ∈ s
theorem SI.app {r : List (List Int)} {l s : List Int} {z : Int} (h : SI r l s) (hz : z ∉ s) (hs : Sc r l z) : SI r l (s ++ [z]) :=
  ⟨List.nodup_append.2 ⟨h.nd, by simp, fun a ha b hb e => by obtain rfl := List.mem_singleton.1 hb; exact hz (e ▸ ha)⟩, fun a ha => by
    rcases List.mem_append.1 ha with ha | ha
    · exact h.sc a ha
    · rw [List.mem_singleton.1 ha]; exact hs, fun a ha => List.mem_append_left _ (h.sup a ha)⟩
theorem p_impl_SubrackFrom (r : List (List Int)) (list : List Int) (hp : small2 r ∧ small list) : wp_impl_SubrackFrom r list (fun y0 y1 => y0 = SbfT r list ∧ y1 = SbfE r list) := by
  refine ⟨hp.1, fun h => by simp [SbfT, SbfE, h], fun h => ?_⟩
  have ht := isRk_tab h
  have hn := isTab_len ht
  refine ⟨⟨hp.2, by omega, by omega⟩, fun h2 => by simp [SbfT, SbfE, h, h2], fun h2 => ⟨fun h3 => by simp [SbfT, SbfE, h, h2, h3], fun h3 => ?_⟩⟩
  have hr := elem_all h2
  have hE : SbfE r list = 0 := by simp only [SbfE, h, h2, if_true]; rw [if_neg h3]
  have hT : SbfT r list = sbI r list := by rw [SbfT, if_pos hE]
  rw [hE, hT]
  clear hE hT
  have hlen : ∀ s, SI r list s → (s.length : Int) ≤ (r.length : Int) := fun s hs => nodup_len_ran (by omega) hs.nd fun z hz => sc_in ht hr (hs.sc z hz)
  have h0 : SI r list (cpI (srtI list)) := ⟨(cp_lt (srt_le list)).imp fun h => by omega, fun z hz => .base (srt_mem.1 ((cp_mem (srt_le list)).1 hz)), fun z hz => (cp_mem (srt_le list)).2 (srt_mem.2 hz)⟩
  refine ⟨hp.2, hp.2, by show ((srtI list).length : Int) ≤ 1000000000; rw [srt_len]; exact hp.2, ?_⟩
  refine ⟨fun i s => 0 ≤ i ∧ i ≤ (s.length : Int) ∧ SI r list s ∧ ∀ a b, 0 ≤ a → a < i → 0 ≤ b → b < i → el (el r (el s a)) (el s b) ∈ s, fun i _ => ((r.length : Int) - i).toNat, ⟨by omega, by omega, h0, fun a b h1 h4 => by omega⟩, ?_⟩
  rintro i s ⟨i0, i1, hS, hC⟩
  dsimp only
  have hls := hlen s hS
  refine ⟨fun ilt => ?_, fun ige => ?_⟩
  · refine ⟨fun k o => 0 ≤ k ∧ k ≤ i + 1 ∧ i < (o.length : Int) ∧ SI r list o ∧ (∀ a b, 0 ≤ a → a < i → 0 ≤ b → b < i → el (el r (el o a)) (el o b) ∈ o) ∧ ∀ b, 0 ≤ b → b < k → el (el r (el o i)) (el o b) ∈ o ∧ el (el r (el o b)) (el o i) ∈ o, fun k _ => (i + 1 - k).toNat, ⟨by omega, by omega, ilt, hS, hC, fun b h1 h4 => by omega⟩, ?_⟩
    rintro k o ⟨k0, k1, hio, hO, hC2, hD2⟩
    dsimp only
    have hlo := hlen o hO
    refine ⟨fun klt => ?_, fun kge => ⟨⟨by omega, by omega⟩, ⟨by omega, by omega, hO, fun a b a0 a1 b0 b1 => ?_⟩, by omega⟩⟩
    · have hi := sc_in ht hr (hO.sc _ (el_mem (l := o) (i := i) ⟨i0, hio⟩))
      have hk := sc_in ht hr (hO.sc _ (el_mem (l := o) (i := k) ⟨k0, by omega⟩))
      have li := rk_len ht hi
      have lk := rk_len ht hk
      have s1 : Sc r list (el (el r (el o i)) (el o k)) := .step (hO.sc _ (el_mem ⟨i0, hio⟩)) (hO.sc _ (el_mem ⟨k0, by omega⟩))
      have s2 : Sc r list (el (el r (el o k)) (el o i)) := .step (hO.sc _ (el_mem ⟨k0, by omega⟩)) (hO.sc _ (el_mem ⟨i0, hio⟩))
      refine ⟨⟨i0, hio⟩, ⟨k0, by omega⟩, ⟨k0, by omega⟩, ⟨i0, hio⟩, hi, ⟨hk.1, by omega⟩, hk, ⟨hi.1, by omega⟩, ?_⟩
      generalize hv0 : el (el r (el o i)) (el o k) = v0 at *
      generalize hv1 : el (el r (el o k)) (el o i) = v1 at *
      refine ⟨fun q w => 0 ≤ q ∧ q ≤ 2 ∧ SI r list w ∧ (∃ x, w = o ++ x) ∧ ∀ j, 0 ≤ j → j < q → el [v0, v1] j ∈ w, fun q _ => (2 - q).toNat, ⟨by omega, by omega, hO, ⟨[], by simp⟩, fun j h1 h4 => by omega⟩, ?_⟩
      rintro q w ⟨q0, q1, hW, ⟨x, rfl⟩, hV⟩
      dsimp only
      have hlw := hlen _ hW
      have hpre : ∀ a, 0 ≤ a → a < (o.length : Int) → el (o ++ x) a = el o a := fun a a0 a1 => el_append_l ⟨a0, a1⟩
      refine ⟨fun qlt => ?_, fun qge => ?_⟩
      · have sv : Sc r list (el [v0, v1] q) := by
          have : q = 0 ∨ q = 1 := by omega
          rcases this with rfl | rfl
          · exact s1
          · exact s2
        refine ⟨⟨q0, by simpa using qlt⟩, by show (_ : Int) ≤ 1000000000; omega, fun hc => ?_, fun hc => ⟨⟨by omega, by omega⟩, ⟨by omega, by omega, hW, ⟨x, rfl⟩, fun j h1 h4 => ?_⟩, by omega⟩⟩
        · have hnot : el [v0, v1] q ∉ o ++ x := fun hm => by rw [List.contains_iff_mem.2 hm] at hc; cases hc
          refine ⟨by rw [List.length_singleton]; omega, ⟨by omega, by omega⟩, ⟨by omega, by omega, hW.app hnot sv, ⟨x ++ [el [v0, v1] q], by rw [List.append_assoc]⟩, fun j h1 h4 => ?_⟩, by omega⟩
          by_cases he : j = q
          · subst he; exact List.mem_append_right _ (by simp)
          · exact List.mem_append_left _ (hV j h1 (by omega))
        · by_cases he : j = q
          · subst he; exact List.contains_iff_mem.1 hc
          · exact hV j h1 (by omega)
      · have e0 : v0 ∈ o ++ x := hV 0 (by omega) (by omega)
        have e1 : v1 ∈ o ++ x := hV 1 (by omega) (by omega)
        refine ⟨⟨by omega, by omega⟩, ⟨by omega, by omega, by simp; omega, hW, fun a b a0 a1 b0 b1 => ?_, fun b b0 b1 => ?_⟩, by omega⟩
        · rw [hpre a a0 (by omega), hpre b b0 (by omega)]; exact List.mem_append_left _ (hC2 a b a0 a1 b0 b1)
        · rw [hpre i i0 hio, hpre b b0 (by omega)]
          by_cases he : b = k
          · subst he; rw [hv0, hv1]; exact ⟨e0, e1⟩
          · have := hD2 b b0 (by omega)
            exact ⟨List.mem_append_left _ this.1, List.mem_append_left _ this.2⟩
    · by_cases ha : a = i
      · subst ha; exact (hD2 b b0 (by omega)).1
      · by_cases hb : b = i
        · subst hb; exact (hD2 a a0 (by omega)).2
        · exact hC2 a b a0 (by omega) b0 (by omega)
  · have hcl : ∀ a ∈ s, ∀ b ∈ s, el (el r a) b ∈ s := fun a ha b hb => by
      obtain ⟨u, hu, rfl⟩ := mem_el ha
      obtain ⟨v, hv, rfl⟩ := mem_el hb
      exact hC u v hu.1 (by omega) hv.1 (by omega)
    refine ⟨by show (s.length : Int) ≤ 1000000000; omega, ?_, rfl⟩
    have key : ∀ a, Sc r list a → a ∈ s := fun a ha => by
      induction ha with
      | base h => exact hS.sup _ h
      | step _ _ h1 h2 => exact hcl _ h1 _ h2
    refine lt_uniq (srt_lt hS.nd) ((ran_lt _).filter _) fun a => ?_
    rw [srt_mem, sbI, List.mem_filter, mem_ran, dec_iff]
    exact ⟨fun ha => ⟨sc_in ht hr (hS.sc a ha), hS.sc a ha⟩, fun h => key a h.2⟩

set_option maxRecDepth 100000 in
set_option maxHeartbeats 4000000 in
theorem w_spec_l04Members (n : Int) (mask : Int) (Q : List Int → Prop) (h : wp_spec_l04Members n mask Q) : AF Try.prog 85 [ci n, ci mask] (fun R_ => ∃ y0, Q y0 ∧ R_ = .own (ints y0)) := by
  refine AF.ofWQ (af_enter (n := 24) Try.func85 rfl (by rfl) rfl (Nat.le_of_ble_eq_true rfl) ?_)
  unfold wp_spec_l04Members at h
  refine aw_seq ?_
  refine aw_gh (gh_to (n := 24) (σ' := []) (env' := [(0, .c (ci n)), (1, .c (ci mask))]) rfl rfl ⟨rfl, rfl, trivial⟩) ?_
  refine aw_region ?_
  refine run_s (ss_assign rfl) rfl ?_
  refine run_nil ?_
  refine aw_seq ?_
  refine aw_region ?_
  refine run_w (ws_buildSlice (id := 7) (ps := []) rfl rfl (Nat.le_of_ble_eq_true rfl) rfl ⟨rfl, ?_⟩)
  refine run_s (ss_assign rfl) rfl ?_
  refine run_nil ?_
  refine aw_seq ?_
  refine aw_seq ?_
  refine aw_region ?_
  refine run_s (ss_assign rfl) rfl ?_
  refine run_nil ?_
  refine aw_block ?_
  obtain ⟨H1, m1, q1, h⟩ := h
  refine aw_loop2 (fun (v6_1 : Int) (o7_1 : List Int) => ⟨[(7, ⟨ints o7_1, []⟩)], [(0, .c (ci n)), (1, .c (ci mask)), (5, .ref 7), (6, .c (ci v6_1))], 24⟩) H1 m1 ⟨0, ([] : List Int), ghe_to (n := 24) rfl rfl ⟨rfl, rfl, rfl, rfl, trivial⟩, q1⟩ ?_
  rintro v6_1 o7_1 q1
  replace h := h v6_1 o7_1 q1
  refine aw_seq ?_
  refine aw_seq ?_
  refine aw_region ?_
  refine run_s (ss_move rfl) rfl ?_
  refine run_s (ss_move rfl) rfl ?_
  refine run_s (ss_lss rfl rfl) rfl ?_
  refine run_nil ?_
  refine aw_cond rfl (fun q2 => ?_) (fun q2 => ?_)
  · replace h := h.1 (of_decide_eq_true q2)
    refine aw_skip ?_
    refine aw_seq ?_
    refine aw_block ?_
    refine aw_seq ?_
    refine aw_region ?_
    refine run_s (ss_move rfl) rfl ?_
    refine run_s (ss_move rfl) rfl ?_
    obtain ⟨q3, h⟩ := h
    refine run_s (ss_convert rfl (IntWalk.u64_in _ q3)) rfl ?_
    obtain ⟨q4, h⟩ := h
    refine run_s (ss_shr rfl rfl q4) rfl ?_
    obtain ⟨q5, h⟩ := h
    refine run_s (ss_and1 rfl rfl q5) rfl ?_
    refine run_s (ss_eql rfl rfl) rfl ?_
    refine run_nil ?_
    refine aw_cond rfl (fun q6 => ?_) (fun q6 => ?_)
    · replace h := h.1 (of_decide_eq_true q6)
      refine aw_gh (gh_to (n := 24) (σ' := [(7, ⟨ints o7_1, []⟩)]) (env' := [(0, .c (ci n)), (1, .c (ci mask)), (5, .ref 7), (6, .c (ci v6_1))]) rfl rfl ⟨rfl, rfl, rfl, rfl, trivial⟩) ?_
      refine aw_region ?_
      refine run_s (ss_move rfl) rfl ?_
      refine run_s (ss_move rfl) rfl ?_
      refine run_w (ws_buildSlice (id := 21) (ps := [(0, .tmp 20)]) rfl rfl (Nat.le_of_ble_eq_true rfl) rfl ⟨rfl, ?_⟩)
      obtain ⟨q7, h⟩ := h
      refine run_w (ws_app1 ci (l := o7_1) (m := [v6_1]) rfl rfl rfl rfl rfl (Nat.le_of_ble_eq_true rfl) q7 ⟨rfl, ?_⟩)
      refine run_s (ss_assign rfl) rfl ?_
      refine run_nil ?_
      refine aw_region ?_
      refine run_s (ss_move rfl) rfl ?_
      obtain ⟨q8, h⟩ := h
      refine run_s (ss_add rfl rfl q8) rfl ?_
      refine run_s (ss_assign rfl) rfl ?_
      refine run_nil ?_
      exact ⟨v6_1 + 1, o7_1 ++ ([v6_1]), ghe_to (n := 24) rfl rfl ⟨rfl, rfl, rfl, rfl, trivial⟩, h.1, h.2⟩
    · replace h := h.2 (of_decide_eq_false q6)
      refine aw_skip ?_
      refine aw_gh (gh_to (n := 24) (σ' := [(7, ⟨ints o7_1, []⟩)]) (env' := [(0, .c (ci n)), (1, .c (ci mask)), (5, .ref 7), (6, .c (ci v6_1))]) rfl rfl ⟨rfl, rfl, rfl, rfl, trivial⟩) ?_
      refine aw_region ?_
      refine run_s (ss_move rfl) rfl ?_
      obtain ⟨q9, h⟩ := h
      refine run_s (ss_add rfl rfl q9) rfl ?_
      refine run_s (ss_assign rfl) rfl ?_
      refine run_nil ?_
      exact ⟨v6_1 + 1, o7_1, ghe_to (n := 24) rfl rfl ⟨rfl, rfl, rfl, rfl, trivial⟩, h.1, h.2⟩
  · replace h := h.2 (of_decide_eq_false q2)
    refine aw_exit ?_
    refine aw_seq ?_
    refine aw_gh (gh_to (n := 24) (σ' := [(7, ⟨ints o7_1, []⟩)]) (env' := [(5, .ref 7)]) rfl rfl ⟨rfl, trivial⟩) ?_
    refine aw_region ?_
    refine run_s (ss_move rfl) rfl ?_
    refine run_s (ss_assign rfl) rfl ?_
    refine run_nil ?_
    refine aw_ret ?_
    exact retAF_mk (retv1 rfl (rv_tmp rfl)) rfl rfl ⟨_, (cle_refl _), _, h, rfl⟩

theorem c_spec_l04Members (n : Int) (mask : Int) (hp : 0 ≤ n ∧ n ≤ 12 ∧ 0 ≤ mask ∧ mask ≤ 9223372036854775807) : AF Try.prog 85 [ci n, ci mask] (fun R_ => R_ = .own (ints (memI n mask))) :=
  (w_spec_l04Members n mask (fun y0 => y0 = memI n mask) (p_spec_l04Members n mask hp)).mono (by rintro r ⟨_, rfl, rfl⟩; rfl)

set_option maxRecDepth 100000 in
set_option maxHeartbeats 4000000 in
theorem w_spec_SubrackFrom (r : List (List Int)) (list : List Int) (Q : List Int → Int → Prop) (h : wp_spec_SubrackFrom r list Q) : AF Try.prog 12 [.agg [.lst (rows r)], .lst (ints list)] (fun R_ => ∃ y0 y1, Q y0 y1 ∧ R_ = .tup [.own (ints y0), ci y1]) := by
  refine AF.ofWQ (af_enter (n := 89) Try.func12 rfl (by rfl) rfl (Nat.le_of_ble_eq_true rfl) ?_)
  unfold wp_spec_SubrackFrom at h
  refine aw_seq ?_
  refine aw_gh (gh_to (n := 89) (σ' := []) (env' := [(0, .c (.agg [.lst (rows r)])), (1, .c (.lst (ints list)))]) rfl rfl ⟨rfl, rfl, trivial⟩) ?_
  refine aw_region ?_
  refine run_w (ws_boxR rfl (.inl rfl) rfl ⟨rfl, ?_⟩)
  refine run_s (ss_assign rfl) rfl ?_
  refine run_s (ss_assign rfl) rfl ?_
  refine run_nil ?_
  refine aw_seq ?_
  refine aw_block ?_
  refine aw_seq ?_
  refine aw_region ?_
  refine run_s (ss_load_struct rfl (Nat.le_of_ble_eq_true rfl)) rfl ?_
  obtain ⟨q1, h⟩ := h
  refine run_w (ws_call (xs := [.tmp 11]) (ids := []) rfl rfl rfl rfl (c_spec_l03Is r q1) rfl ?_ )
  rintro _ rfl
  refine ⟨rfl, ?_⟩
  refine run_s (ss_not rfl) rfl ?_
  refine run_s (ss_assign rfl) rfl ?_
  refine run_nil ?_
  refine aw_cond rfl (fun q3 => ?_) (fun q3 => ?_)
  · replace h := h.1 ((bnot_t q3))
    refine aw_seq ?_
    refine aw_gh (gh_to (n := 89) (σ' := []) (env' := [(4, .c (cnil)), (5, .c (ci 0))]) rfl rfl ⟨rfl, rfl, trivial⟩) ?_
    refine aw_region ?_
    refine run_s (ss_assign rfl) rfl ?_
    refine run_s (ss_assign rfl) rfl ?_
    refine run_nil ?_
    refine aw_ret ?_
    exact retAF_mk (retv2 rfl (rv_tmp rfl) (rv_tmp rfl)) rfl rfl ⟨_, (cle_tup (cleL_cons cle_nilO (cleL_cons (cle_refl _) cleL_nil))), _, _, h, rfl⟩
  · replace h := h.2 ((bnot_f q3))
    refine aw_seq ?_
    refine aw_region ?_
    refine run_s (ss_field_ptr rfl) rfl ?_
    refine run_s (ss_load_ptr rfl rfl) rfl ?_
    refine run_s (ss_lenL (f := (fun r => C.lst (ints r))) rfl) rfl ?_
    refine run_s (ss_move rfl) rfl ?_
    obtain ⟨q4, h⟩ := h
    refine run_w (ws_call (xs := [.tmp 17, .tmp 18]) (ids := []) rfl rfl rfl rfl (c_spec_l04Elements (r.length : Int) list q4) rfl ?_ )
    rintro _ rfl
    refine ⟨rfl, ?_⟩
    refine run_s (ss_not rfl) rfl ?_
    refine run_s (ss_assign rfl) rfl ?_
    refine run_nil ?_
    refine aw_cond rfl (fun q6 => ?_) (fun q6 => ?_)
    · replace h := h.1 ((bnot_t q6))
      refine aw_seq ?_
      refine aw_gh (gh_to (n := 89) (σ' := []) (env' := [(4, .c (cnil)), (5, .c (ci 0))]) rfl rfl ⟨rfl, rfl, trivial⟩) ?_
      refine aw_region ?_
      refine run_s (ss_assign rfl) rfl ?_
      refine run_s (ss_assign rfl) rfl ?_
      refine run_nil ?_
      refine aw_ret ?_
      exact retAF_mk (retv2 rfl (rv_tmp rfl) (rv_tmp rfl)) rfl rfl ⟨_, (cle_tup (cleL_cons cle_nilO (cleL_cons (cle_refl _) cleL_nil))), _, _, h, rfl⟩
    · replace h := h.2 ((bnot_f q6))
      refine aw_seq ?_
      refine aw_gh (gh_to (n := 89) (σ' := []) (env' := [(1, .c (.lst (ints list))), (2, .c (.ptr [.lst (rows r)]))]) rfl rfl ⟨rfl, rfl, trivial⟩) ?_
      refine aw_region ?_
      refine run_s (ss_move rfl) rfl ?_
      refine run_s (ss_lenL (f := ci) rfl) rfl ?_
      refine run_s (ss_eql rfl rfl) rfl ?_
      refine run_s (ss_assign rfl) rfl ?_
      refine run_nil ?_
      refine aw_cond rfl (fun q7 => ?_) (fun q7 => ?_)
      · replace h := h.1 (of_decide_eq_true q7)
        refine aw_seq ?_
        refine aw_gh (gh_to (n := 89) (σ' := []) (env' := []) rfl rfl trivial) ?_
        refine aw_region ?_
        refine run_s (ss_assign rfl) rfl ?_
        refine run_s (ss_assign rfl) rfl ?_
        refine run_nil ?_
        refine aw_ret ?_
        exact retAF_mk (retv2 rfl (rv_tmp rfl) (rv_tmp rfl)) rfl rfl ⟨_, (cle_tup (cleL_cons cle_nilO (cleL_cons (cle_refl _) cleL_nil))), _, _, h, rfl⟩
      · replace h := h.2 (of_decide_eq_false q7)
        refine aw_skip ?_
        refine aw_seq ?_
        refine aw_region ?_
        refine run_s (ss_assign rfl) rfl ?_
        refine run_nil ?_
        refine aw_seq ?_
        refine aw_seq ?_
        refine aw_region ?_
        refine run_s (ss_assign rfl) rfl ?_
        refine run_nil ?_
        refine aw_block ?_
        obtain ⟨H1, m1, q8, h⟩ := h
        refine aw_loop2 (fun (v6_1 : Int) (v7_1 : Int) => ⟨[], [(1, .c (.lst (ints list))), (2, .c (.ptr [.lst (rows r)])), (6, .c (ci v6_1)), (7, .c (ci v7_1))], 89⟩) H1 m1 ⟨0, 0, ghe_to (n := 89) rfl rfl ⟨rfl, rfl, rfl, rfl, trivial⟩, q8⟩ ?_
        rintro v6_1 v7_1 q8
        replace h := h v6_1 v7_1 q8
        refine aw_seq ?_
        refine aw_seq ?_
        refine aw_region ?_
        refine run_s (ss_move rfl) rfl ?_
        refine run_s (ss_move rfl) rfl ?_
        refine run_s (ss_lenL (f := ci) rfl) rfl ?_
        refine run_s (ss_lss rfl rfl) rfl ?_
        refine run_nil ?_
        refine aw_cond rfl (fun q9 => ?_) (fun q9 => ?_)
        · replace h := h.1 (of_decide_eq_true q9)
          refine aw_skip ?_
          refine aw_seq ?_
          refine aw_block ?_
          refine aw_region ?_
          refine run_s (ss_move rfl) rfl ?_
          refine run_s (ss_move rfl) rfl ?_
          refine run_s (ss_move rfl) rfl ?_
          obtain ⟨q10, h⟩ := h
          refine run_s (ss_idxL rfl rfl q10) rfl ?_
          refine run_s (ss_loadL (f := ci) rfl q10) rfl ?_
          obtain ⟨q11, h⟩ := h
          refine run_s (ss_convert rfl (IntWalk.u64_in _ q11)) rfl ?_
          obtain ⟨q12, h⟩ := h
          refine run_s (ss_shl rfl rfl q12) rfl ?_
          obtain ⟨q13, h⟩ := h
          refine run_s (ss_or rfl rfl q13) rfl ?_
          refine run_s (ss_assign rfl) rfl ?_
          refine run_nil ?_
          refine aw_gh (gh_to (n := 89) (σ' := []) (env' := [(1, .c (.lst (ints list))), (2, .c (.ptr [.lst (rows r)])), (6, .c (ci ((v6_1.toNat ||| (1 * (2 : Int) ^ (el list v7_1).toNat).toNat : Nat) : Int))), (7, .c (ci v7_1))]) rfl rfl ⟨rfl, rfl, rfl, rfl, trivial⟩) ?_
          refine aw_region ?_
          refine run_s (ss_move rfl) rfl ?_
          obtain ⟨q14, h⟩ := h
          refine run_s (ss_add rfl rfl q14) rfl ?_
          refine run_s (ss_assign rfl) rfl ?_
          refine run_nil ?_
          exact ⟨((v6_1.toNat ||| (1 * (2 : Int) ^ (el list v7_1).toNat).toNat : Nat) : Int), v7_1 + 1, ghe_to (n := 89) rfl rfl ⟨rfl, rfl, rfl, rfl, trivial⟩, h.1, h.2⟩
        · replace h := h.2 (of_decide_eq_false q9)
          refine aw_exit ?_
          refine aw_seq ?_
          refine aw_block ?_
          obtain ⟨H2, m2, q15, h⟩ := h
          refine aw_loop1 (fun (v6_2 : Int) => ⟨[], [(2, .c (.ptr [.lst (rows r)])), (6, .c (ci v6_2))], 89⟩) H2 m2 ⟨v6_1, ghe_to (n := 89) rfl rfl ⟨rfl, rfl, trivial⟩, q15⟩ ?_
          rintro v6_2 q15
          replace h := h v6_2 q15
          refine aw_seq ?_
          refine aw_seq ?_
          refine aw_region ?_
          refine run_s (ss_field_ptr rfl) rfl ?_
          refine run_s (ss_load_ptr rfl rfl) rfl ?_
          refine run_s (ss_move rfl) rfl ?_
          obtain ⟨q16, h⟩ := h
          refine run_w (ws_call (xs := [.tmp 40, .tmp 41]) (ids := []) rfl rfl rfl rfl (c_spec_l04Closed r v6_2 q16) rfl ?_ )
          rintro _ rfl
          refine ⟨rfl, ?_⟩
          refine run_s (ss_not rfl) rfl ?_
          refine run_nil ?_
          refine aw_cond rfl (fun q18 => ?_) (fun q18 => ?_)
          · replace h := h.1 ((bnot_t q18))
            refine aw_skip ?_
            refine aw_block ?_
            refine aw_seq ?_
            refine aw_region ?_
            refine run_s (ss_assign rfl) rfl ?_
            refine run_nil ?_
            refine aw_block ?_
            obtain ⟨H3, m3, q19, h⟩ := h
            refine aw_loop2 (fun (v6_3 : Int) (v8_3 : Int) => ⟨[], [(2, .c (.ptr [.lst (rows r)])), (6, .c (ci v6_3)), (8, .c (ci v8_3))], 89⟩) H3 m3 ⟨v6_2, 0, ghe_to (n := 89) rfl rfl ⟨rfl, rfl, rfl, trivial⟩, q19⟩ ?_
            rintro v6_3 v8_3 q19
            replace h := h v6_3 v8_3 q19
            refine aw_seq ?_
            refine aw_seq ?_
            refine aw_region ?_
            refine run_s (ss_move rfl) rfl ?_
            refine run_s (ss_field_ptr rfl) rfl ?_
            refine run_s (ss_load_ptr rfl rfl) rfl ?_
            refine run_s (ss_lenL (f := (fun r => C.lst (ints r))) rfl) rfl ?_
            refine run_s (ss_lss rfl rfl) rfl ?_
            refine run_nil ?_
            refine aw_cond rfl (fun q20 => ?_) (fun q20 => ?_)
            · replace h := h.1 (of_decide_eq_true q20)
              refine aw_skip ?_
              refine aw_seq ?_
              refine aw_block ?_
              refine aw_seq ?_
              refine aw_region ?_
              refine run_s (ss_assign rfl) rfl ?_
              refine run_nil ?_
              refine aw_block ?_
              obtain ⟨H4, m4, q21, h⟩ := h
              refine aw_loop2 (fun (v6_4 : Int) (v9_4 : Int) => ⟨[], [(2, .c (.ptr [.lst (rows r)])), (6, .c (ci v6_4)), (8, .c (ci v8_3)), (9, .c (ci v9_4))], 89⟩) H4 m4 ⟨v6_3, 0, ghe_to (n := 89) rfl rfl ⟨rfl, rfl, rfl, rfl, trivial⟩, q21⟩ ?_
              rintro v6_4 v9_4 q21
              replace h := h v6_4 v9_4 q21
              refine aw_seq ?_
              refine aw_seq ?_
              refine aw_region ?_
              refine run_s (ss_move rfl) rfl ?_
              refine run_s (ss_field_ptr rfl) rfl ?_
              refine run_s (ss_load_ptr rfl rfl) rfl ?_
              refine run_s (ss_lenL (f := (fun r => C.lst (ints r))) rfl) rfl ?_
              refine run_s (ss_lss rfl rfl) rfl ?_
              refine run_nil ?_
              refine aw_cond rfl (fun q22 => ?_) (fun q22 => ?_)
              · replace h := h.1 (of_decide_eq_true q22)
                refine aw_skip ?_
                refine aw_seq ?_
                refine aw_block ?_
                refine aw_seq ?_
                refine aw_region ?_
                refine run_s (ss_move rfl) rfl ?_
                refine run_s (ss_move rfl) rfl ?_
                obtain ⟨q23, h⟩ := h
                refine run_s (ss_convert rfl (IntWalk.u64_in _ q23)) rfl ?_
                obtain ⟨q24, h⟩ := h
                refine run_s (ss_shr rfl rfl q24) rfl ?_
                obtain ⟨q25, h⟩ := h
                refine run_s (ss_and1 rfl rfl q25) rfl ?_
                refine run_s (ss_eql rfl rfl) rfl ?_
                refine run_s (ss_move rfl) rfl ?_
                refine run_split (s := 64) rfl (fun q26 => ?_) (fun q26 => ?_)
                · replace h := h.1 (of_decide_eq_true q26)
                  refine run_gt rfl rfl q26 ?_
                  refine run_s (ss_move rfl) rfl ?_
                  refine run_gt rfl rfl q26 ?_
                  refine run_s (ss_move rfl) rfl ?_
                  refine run_gt rfl rfl q26 ?_
                  obtain ⟨q27, h⟩ := h
                  refine run_s (ss_convert rfl (IntWalk.u64_in _ q27)) rfl ?_
                  refine run_gt rfl rfl q26 ?_
                  obtain ⟨q28, h⟩ := h
                  refine run_s (ss_shr rfl rfl q28) rfl ?_
                  refine run_gt rfl rfl q26 ?_
                  obtain ⟨q29, h⟩ := h
                  refine run_s (ss_and1 rfl rfl q29) rfl ?_
                  refine run_gt rfl rfl q26 ?_
                  refine run_s (ss_eql rfl rfl) rfl ?_
                  refine run_s (ss_pickT rfl q26 rfl) rfl ?_
                  refine run_nil ?_
                  refine aw_cond rfl (fun q30 => ?_) (fun q30 => ?_)
                  · replace h := h.1 (of_decide_eq_true q30)
                    refine aw_region ?_
                    refine run_s (ss_move rfl) rfl ?_
                    refine run_s (ss_field_ptr rfl) rfl ?_
                    refine run_s (ss_load_ptr rfl rfl) rfl ?_
                    refine run_s (ss_move rfl) rfl ?_
                    obtain ⟨q31, h⟩ := h
                    refine run_s (ss_idxL rfl rfl q31) rfl ?_
                    refine run_s (ss_loadL (f := (fun r => C.lst (ints r))) rfl q31) rfl ?_
                    refine run_s (ss_move rfl) rfl ?_
                    obtain ⟨q32, h⟩ := h
                    refine run_s (ss_idxL rfl rfl q32) rfl ?_
                    refine run_s (ss_loadL (f := ci) rfl q32) rfl ?_
                    obtain ⟨q33, h⟩ := h
                    refine run_s (ss_convert rfl (IntWalk.u64_in _ q33)) rfl ?_
                    obtain ⟨q34, h⟩ := h
                    refine run_s (ss_shl rfl rfl q34) rfl ?_
                    obtain ⟨q35, h⟩ := h
                    refine run_s (ss_or rfl rfl q35) rfl ?_
                    refine run_s (ss_assign rfl) rfl ?_
                    refine run_nil ?_
                    refine aw_gh (gh_to (n := 89) (σ' := []) (env' := [(2, .c (.ptr [.lst (rows r)])), (6, .c (ci ((v6_4.toNat ||| (1 * (2 : Int) ^ (el (el r v8_3) v9_4).toNat).toNat : Nat) : Int))), (8, .c (ci v8_3)), (9, .c (ci v9_4)), (65, .c (ci v6_4)), (66, .c (ci v9_4)), (67, .c (cu v9_4)), (68, .c (ci (v6_4 / (2 : Int) ^ v9_4.toNat))), (69, .c (ci ((v6_4 / (2 : Int) ^ v9_4.toNat) % 2))), (70, .c (cb (decide ((v6_4 / (2 : Int) ^ v9_4.toNat) % 2 = 1))))]) rfl rfl ⟨rfl, rfl, rfl, rfl, rfl, rfl, rfl, rfl, rfl, rfl, trivial⟩) ?_
                    refine aw_region ?_
                    refine run_s (ss_move rfl) rfl ?_
                    obtain ⟨q36, h⟩ := h
                    refine run_s (ss_add rfl rfl q36) rfl ?_
                    refine run_s (ss_assign rfl) rfl ?_
                    refine run_nil ?_
                    exact ⟨((v6_4.toNat ||| (1 * (2 : Int) ^ (el (el r v8_3) v9_4).toNat).toNat : Nat) : Int), v9_4 + 1, ghe_to (n := 89) rfl rfl ⟨rfl, rfl, rfl, rfl, trivial⟩, h.1, h.2⟩
                  · replace h := h.2 (of_decide_eq_false q30)
                    refine aw_skip ?_
                    refine aw_gh (gh_to (n := 89) (σ' := []) (env' := [(2, .c (.ptr [.lst (rows r)])), (6, .c (ci v6_4)), (8, .c (ci v8_3)), (9, .c (ci v9_4)), (65, .c (ci v6_4)), (66, .c (ci v9_4)), (67, .c (cu v9_4)), (68, .c (ci (v6_4 / (2 : Int) ^ v9_4.toNat))), (69, .c (ci ((v6_4 / (2 : Int) ^ v9_4.toNat) % 2))), (70, .c (cb (decide ((v6_4 / (2 : Int) ^ v9_4.toNat) % 2 = 1))))]) rfl rfl ⟨rfl, rfl, rfl, rfl, rfl, rfl, rfl, rfl, rfl, rfl, trivial⟩) ?_
                    refine aw_region ?_
                    refine run_s (ss_move rfl) rfl ?_
                    obtain ⟨q37, h⟩ := h
                    refine run_s (ss_add rfl rfl q37) rfl ?_
                    refine run_s (ss_assign rfl) rfl ?_
                    refine run_nil ?_
                    exact ⟨v6_4, v9_4 + 1, ghe_to (n := 89) rfl rfl ⟨rfl, rfl, rfl, rfl, trivial⟩, h.1, h.2⟩
                · replace h := h.2 (of_decide_eq_false q26)
                  refine run_gf rfl rfl q26 rfl ?_
                  refine run_gf rfl rfl q26 rfl ?_
                  refine run_gf rfl rfl q26 rfl ?_
                  refine run_gf rfl rfl q26 rfl ?_
                  refine run_gf rfl rfl q26 rfl ?_
                  refine run_gf rfl rfl q26 rfl ?_
                  refine run_s (ss_pickF rfl q26 rfl) rfl ?_
                  refine run_nil ?_
                  refine aw_cond rfl (fun q38 => ?_) (fun q38 => ?_)
                  · cases q38
                  · skip
                    refine aw_skip ?_
                    refine aw_gh (gh_to (n := 89) (σ' := []) (env' := [(2, .c (.ptr [.lst (rows r)])), (6, .c (ci v6_4)), (8, .c (ci v8_3)), (9, .c (ci v9_4))]) rfl rfl ⟨rfl, rfl, rfl, rfl, trivial⟩) ?_
                    refine aw_region ?_
                    refine run_s (ss_move rfl) rfl ?_
                    obtain ⟨q39, h⟩ := h
                    refine run_s (ss_add rfl rfl q39) rfl ?_
                    refine run_s (ss_assign rfl) rfl ?_
                    refine run_nil ?_
                    exact ⟨v6_4, v9_4 + 1, ghe_to (n := 89) rfl rfl ⟨rfl, rfl, rfl, rfl, trivial⟩, h.1, h.2⟩
              · replace h := h.2 (of_decide_eq_false q22)
                refine aw_exit ?_
                refine aw_region ?_
                refine run_s (ss_move rfl) rfl ?_
                obtain ⟨q40, h⟩ := h
                refine run_s (ss_add rfl rfl q40) rfl ?_
                refine run_s (ss_assign rfl) rfl ?_
                refine run_nil ?_
                exact ⟨v6_4, v8_3 + 1, ghe_to (n := 89) rfl rfl ⟨rfl, rfl, rfl, trivial⟩, h.1, h.2⟩
            · replace h := h.2 (of_decide_eq_false q20)
              refine aw_exit ?_
              exact ⟨v6_3, ghe_to (n := 89) rfl rfl ⟨rfl, rfl, trivial⟩, h.1, h.2⟩
          · replace h := h.2 ((bnot_f q18))
            refine aw_exit ?_
            refine aw_seq ?_
            refine aw_region ?_
            refine run_s (ss_field_ptr rfl) rfl ?_
            refine run_s (ss_load_ptr rfl rfl) rfl ?_
            refine run_s (ss_lenL (f := (fun r => C.lst (ints r))) rfl) rfl ?_
            refine run_s (ss_move rfl) rfl ?_
            obtain ⟨q41, h⟩ := h
            refine run_w (ws_call (xs := [.tmp 86, .tmp 87]) (ids := [88]) rfl rfl rfl rfl (c_spec_l04Members (r.length : Int) v6_2 q41) rfl ?_ )
            rintro _ rfl
            refine ⟨rfl, ?_⟩
            refine run_s (ss_assign rfl) rfl ?_
            refine run_s (ss_assign rfl) rfl ?_
            refine run_nil ?_
            refine aw_ret ?_
            exact retAF_mk (retv2 rfl (rv_tmp rfl) (rv_tmp rfl)) rfl rfl ⟨_, (cle_refl _), _, _, h, rfl⟩

theorem c_spec_SubrackFrom (r : List (List Int)) (list : List Int) (hp : small2 r ∧ small list) : AF Try.prog 12 [.agg [.lst (rows r)], .lst (ints list)] (fun R_ => R_ = .tup [.own (ints (SbfT r list)), ci (SbfE r list)]) :=
  (w_spec_SubrackFrom r list (fun y0 y1 => y0 = SbfT r list ∧ y1 = SbfE r list) (p_spec_SubrackFrom r list hp)).mono (by rintro r ⟨_, _, ⟨rfl, rfl⟩, rfl⟩; rfl)

set_option maxRecDepth 100000 in
set_option maxHeartbeats 4000000 in
theorem w_impl_SubrackFrom (r : List (List Int)) (list : List Int) (Q : List Int → Int → Prop) (h : wp_impl_SubrackFrom r list Q) : AF Try.prog 11 [.agg [.lst (rows r)], .lst (ints list)] (fun R_ => ∃ y0 y1, Q y0 y1 ∧ R_ = .tup [.own (ints y0), ci y1]) := by
  refine AF.ofWQ (af_enter (n := 84) Try.func11 rfl (by rfl) rfl (Nat.le_of_ble_eq_true rfl) ?_)
  unfold wp_impl_SubrackFrom at h
  refine aw_seq ?_
  refine aw_gh (gh_to (n := 84) (σ' := []) (env' := [(0, .c (.agg [.lst (rows r)])), (1, .c (.lst (ints list)))]) rfl rfl ⟨rfl, rfl, trivial⟩) ?_
  refine aw_region ?_
  refine run_w (ws_boxR rfl (.inl rfl) rfl ⟨rfl, ?_⟩)
  refine run_s (ss_assign rfl) rfl ?_
  refine run_s (ss_assign rfl) rfl ?_
  refine run_nil ?_
  refine aw_seq ?_
  refine aw_seq ?_
  refine aw_region ?_
  refine run_s (ss_load_struct rfl (Nat.le_of_ble_eq_true rfl)) rfl ?_
  obtain ⟨q1, h⟩ := h
  refine run_w (ws_call (xs := [.tmp 11]) (ids := []) rfl rfl rfl rfl (c_impl_IsRack r q1) rfl ?_ )
  rintro _ rfl
  refine ⟨rfl, ?_⟩
  refine run_s (ss_not rfl) rfl ?_
  refine run_nil ?_
  refine aw_cond rfl (fun q3 => ?_) (fun q3 => ?_)
  · replace h := h.1 ((bnot_t q3))
    refine aw_seq ?_
    refine aw_gh (gh_to (n := 84) (σ' := []) (env' := [(4, .c (cnil)), (5, .c (ci 0))]) rfl rfl ⟨rfl, rfl, trivial⟩) ?_
    refine aw_region ?_
    refine run_s (ss_assign rfl) rfl ?_
    refine run_s (ss_assign rfl) rfl ?_
    refine run_nil ?_
    refine aw_ret ?_
    exact retAF_mk (retv2 rfl (rv_tmp rfl) (rv_tmp rfl)) rfl rfl ⟨_, (cle_tup (cleL_cons cle_nilO (cleL_cons (cle_refl _) cleL_nil))), _, _, h, rfl⟩
  · replace h := h.2 ((bnot_f q3))
    refine aw_skip ?_
    refine aw_seq ?_
    refine aw_seq ?_
    refine aw_region ?_
    refine run_s (ss_field_ptr rfl) rfl ?_
    refine run_s (ss_load_ptr rfl rfl) rfl ?_
    refine run_s (ss_lenL (f := (fun r => C.lst (ints r))) rfl) rfl ?_
    refine run_s (ss_move rfl) rfl ?_
    obtain ⟨q4, h⟩ := h
    refine run_w (ws_call (xs := [.tmp 16, .tmp 17]) (ids := []) rfl rfl rfl rfl (c_impl_areElements (r.length : Int) list q4) rfl ?_ )
    rintro _ rfl
    refine ⟨rfl, ?_⟩
    refine run_s (ss_not rfl) rfl ?_
    refine run_nil ?_
    refine aw_cond rfl (fun q6 => ?_) (fun q6 => ?_)
    · replace h := h.1 ((bnot_t q6))
      refine aw_seq ?_
      refine aw_gh (gh_to (n := 84) (σ' := []) (env' := [(4, .c (cnil)), (5, .c (ci 0))]) rfl rfl ⟨rfl, rfl, trivial⟩) ?_
      refine aw_region ?_
      refine run_s (ss_assign rfl) rfl ?_
      refine run_s (ss_assign rfl) rfl ?_
      refine run_nil ?_
      refine aw_ret ?_
      exact retAF_mk (retv2 rfl (rv_tmp rfl) (rv_tmp rfl)) rfl rfl ⟨_, (cle_tup (cleL_cons cle_nilO (cleL_cons (cle_refl _) cleL_nil))), _, _, h, rfl⟩
    · replace h := h.2 ((bnot_f q6))
      refine aw_skip ?_
      refine aw_seq ?_
      refine aw_seq ?_
      refine aw_gh (gh_to (n := 84) (σ' := []) (env' := [(1, .c (.lst (ints list))), (2, .c (.ptr [.lst (rows r)]))]) rfl rfl ⟨rfl, rfl, trivial⟩) ?_
      refine aw_region ?_
      refine run_s (ss_move rfl) rfl ?_
      refine run_s (ss_lenL (f := ci) rfl) rfl ?_
      refine run_s (ss_eql rfl rfl) rfl ?_
      refine run_nil ?_
      refine aw_cond rfl (fun q7 => ?_) (fun q7 => ?_)
      · replace h := h.1 (of_decide_eq_true q7)
        refine aw_seq ?_
        refine aw_gh (gh_to (n := 84) (σ' := []) (env' := []) rfl rfl trivial) ?_
        refine aw_region ?_
        refine run_s (ss_assign rfl) rfl ?_
        refine run_s (ss_assign rfl) rfl ?_
        refine run_nil ?_
        refine aw_ret ?_
        exact retAF_mk (retv2 rfl (rv_tmp rfl) (rv_tmp rfl)) rfl rfl ⟨_, (cle_tup (cleL_cons cle_nilO (cleL_cons (cle_refl _) cleL_nil))), _, _, h, rfl⟩
      · replace h := h.2 (of_decide_eq_false q7)
        refine aw_skip ?_
        refine aw_seq ?_
        refine aw_region ?_
        refine run_s (ss_move rfl) rfl ?_
        obtain ⟨q8, h⟩ := h
        refine run_w (ws_call (xs := [.tmp 23]) (ids := [24]) rfl rfl rfl rfl (c_k_Clone list q8) rfl ?_ )
        rintro _ rfl
        refine ⟨rfl, ?_⟩
        refine run_s (ss_assign rfl) rfl ?_
        refine run_nil ?_
        refine aw_seq ?_
        refine aw_gh (gh_to (n := 84) (σ' := [(24, ⟨ints list, []⟩)]) (env' := [(2, .c (.ptr [.lst (rows r)])), (6, .ref 24)]) rfl rfl ⟨rfl, rfl, trivial⟩) ?_
        refine aw_region ?_
        refine run_s (ss_move rfl) rfl ?_
        obtain ⟨q10, h⟩ := h
        refine run_w (ws_callM (xs := [.tmp 25]) (cs := [.own (ints list)]) (ids := []) rfl (.inr ⟨rfl, rfl⟩) rfl rfl rfl (c_k_Sort list q10) rfl rfl ?_ )
        rintro _ _ ⟨rfl, rfl⟩
        refine ⟨rfl, rfl, ?_⟩
        refine run_nil ?_
        refine aw_seq ?_
        refine aw_region ?_
        refine run_s (ss_move rfl) rfl ?_
        obtain ⟨q12, h⟩ := h
        refine run_w (ws_callK (l := srtI list) rfl rfl rfl (c_k_Compact (srtI list) q12) ⟨rfl, ?_⟩)
        refine run_s (ss_assign rfl) rfl ?_
        refine run_nil ?_
        refine aw_seq ?_
        refine aw_seq ?_
        refine aw_gh (gh_to (n := 84) (σ' := [(24, ⟨ints (cpI (srtI list)), []⟩)]) (env' := [(2, .c (.ptr [.lst (rows r)])), (6, .ref 24)]) rfl rfl ⟨rfl, rfl, trivial⟩) ?_
        refine aw_region ?_
        refine run_s (ss_assign rfl) rfl ?_
        refine run_nil ?_
        refine aw_block ?_
        obtain ⟨H1, m1, q13, h⟩ := h
        refine aw_loop2 (fun (v7_1 : Int) (o24_1 : List Int) => ⟨[(24, ⟨ints o24_1, []⟩)], [(2, .c (.ptr [.lst (rows r)])), (6, .ref 24), (7, .c (ci v7_1))], 84⟩) H1 m1 ⟨0, cpI (srtI list), ghe_to (n := 84) rfl rfl ⟨rfl, rfl, rfl, trivial⟩, q13⟩ ?_
        rintro v7_1 o24_1 q13
        replace h := h v7_1 o24_1 q13
        refine aw_seq ?_
        refine aw_seq ?_
        refine aw_region ?_
        refine run_s (ss_move rfl) rfl ?_
        refine run_s (ss_move rfl) rfl ?_
        refine run_s (ss_lenR (f := ci) rfl rfl) rfl ?_
        refine run_s (ss_lss rfl rfl) rfl ?_
        refine run_nil ?_
        refine aw_cond rfl (fun q14 => ?_) (fun q14 => ?_)
        · replace h := h.1 (of_decide_eq_true q14)
          refine aw_skip ?_
          refine aw_seq ?_
          refine aw_block ?_
          refine aw_seq ?_
          refine aw_gh (gh_to (n := 84) (σ' := [(24, ⟨ints o24_1, []⟩)]) (env' := [(2, .c (.ptr [.lst (rows r)])), (6, .ref 24), (7, .c (ci v7_1))]) rfl rfl ⟨rfl, rfl, rfl, trivial⟩) ?_
          refine aw_region ?_
          refine run_s (ss_assign rfl) rfl ?_
          refine run_nil ?_
          refine aw_block ?_
          obtain ⟨H2, m2, q15, h⟩ := h
          refine aw_loop2 (fun (v8_2 : Int) (o24_2 : List Int) => ⟨[(24, ⟨ints o24_2, []⟩)], [(2, .c (.ptr [.lst (rows r)])), (6, .ref 24), (7, .c (ci v7_1)), (8, .c (ci v8_2))], 84⟩) H2 m2 ⟨0, o24_1, ghe_to (n := 84) rfl rfl ⟨rfl, rfl, rfl, rfl, trivial⟩, q15⟩ ?_
          rintro v8_2 o24_2 q15
          replace h := h v8_2 o24_2 q15
          refine aw_seq ?_
          refine aw_seq ?_
          refine aw_region ?_
          refine run_s (ss_move rfl) rfl ?_
          refine run_s (ss_move rfl) rfl ?_
          refine run_s (ss_leq rfl rfl) rfl ?_
          refine run_nil ?_
          refine aw_cond rfl (fun q16 => ?_) (fun q16 => ?_)
          · replace h := h.1 (of_decide_eq_true q16)
            refine aw_skip ?_
            refine aw_seq ?_
            refine aw_block ?_
            refine aw_seq ?_
            refine aw_gh (gh_to (n := 84) (σ' := [(24, ⟨ints o24_2, []⟩)]) (env' := [(2, .c (.ptr [.lst (rows r)])), (6, .ref 24), (7, .c (ci v7_1)), (8, .c (ci v8_2))]) rfl rfl ⟨rfl, rfl, rfl, rfl, trivial⟩) ?_
            refine aw_regionD (kd := kdl [0, 1, 0, 0, 0, 1, 0, 1, 0, 0, 0, 1, 0, 1, 0, 1, 0, 0, 0, 1, 0, 1, 0, 0, 0, 1, 0, 1, 0, 0]) (ord := [0, 2, 3, 4, 8, 9, 10, 14, 16, 17, 18, 22, 23, 24, 29, 1, 5, 6, 7, 11, 12, 13, 15, 19, 20, 21, 25, 26, 27, 28]) [] mixed (by kernel_rfl) ?_
            refine rd_s rfl rfl trivial (ss_field_ptr rfl) rfl ?_
            refine rd_s rfl rfl trivial (ss_move rfl) rfl ?_
            refine rd_s rfl rfl trivial (ss_move rfl) rfl ?_
            obtain ⟨q17, h⟩ := h
            refine rd_s rfl rfl trivial (ss_idxR (f := ci) rfl rfl rfl q17) rfl ?_
            refine rd_s rfl rfl trivial (ss_move rfl) rfl ?_
            refine rd_s rfl rfl trivial (ss_move rfl) rfl ?_
            obtain ⟨q18, h⟩ := h
            refine rd_s rfl rfl trivial (ss_idxR (f := ci) rfl rfl rfl q18) rfl ?_
            refine rd_s rfl rfl trivial (ss_field_ptr rfl) rfl ?_
            refine rd_s rfl rfl trivial (ss_move rfl) rfl ?_
            refine rd_s rfl rfl trivial (ss_move rfl) rfl ?_
            obtain ⟨q19, h⟩ := h
            refine rd_s rfl rfl trivial (ss_idxR (f := ci) rfl rfl rfl q19) rfl ?_
            refine rd_s rfl rfl trivial (ss_move rfl) rfl ?_
            refine rd_s rfl rfl trivial (ss_move rfl) rfl ?_
            obtain ⟨q20, h⟩ := h
            refine rd_s rfl rfl trivial (ss_idxR (f := ci) rfl rfl rfl q20) rfl ?_
            refine rd_s rfl rfl trivial (ss_move rfl) rfl ?_
            refine rd_l rfl rfl trivial (ss_load_ptr rfl rfl) rfl ?_
            refine rd_l rfl rfl trivial (ss_loadR (f := ci) rfl rfl q20 rfl rfl) rfl ?_
            obtain ⟨q21, h⟩ := h
            refine rd_s rfl rfl trivial (ss_idxL rfl rfl q21) rfl ?_
            refine rd_l rfl rfl trivial (ss_loadL (f := (fun r => C.lst (ints r))) rfl q21) rfl ?_
            refine rd_l rfl rfl trivial (ss_loadR (f := ci) rfl rfl q19 rfl rfl) rfl ?_
            obtain ⟨q22, h⟩ := h
            refine rd_s rfl rfl trivial (ss_idxL rfl rfl q22) rfl ?_
            refine rd_l rfl rfl trivial (ss_loadL (f := ci) rfl q22) rfl ?_
            refine rd_l rfl rfl trivial (ss_load_ptr rfl rfl) rfl ?_
            refine rd_l rfl rfl trivial (ss_loadR (f := ci) rfl rfl q19 rfl rfl) rfl ?_
            obtain ⟨q23, h⟩ := h
            refine rd_s rfl rfl trivial (ss_idxL rfl rfl q23) rfl ?_
            refine rd_l rfl rfl trivial (ss_loadL (f := (fun r => C.lst (ints r))) rfl q23) rfl ?_
            refine rd_l rfl rfl trivial (ss_loadR (f := ci) rfl rfl q20 rfl rfl) rfl ?_
            obtain ⟨q24, h⟩ := h
            refine rd_s rfl rfl trivial (ss_idxL rfl rfl q24) rfl ?_
            refine rd_l rfl rfl trivial (ss_loadL (f := ci) rfl q24) rfl ?_
            refine rd_s rfl rfl trivial (ss_buildA (ps := [(0, .tmp 53), (1, .tmp 67)]) rfl rfl) rfl ?_
            refine rd_nil ?_
            refine aw_block ?_
            obtain ⟨H3, m3, q25, h⟩ := h
            refine aw_loop2 (fun (v69_3 : Int) (o24_3 : List Int) => ⟨[(24, ⟨ints o24_3, []⟩)], [(2, .c (.ptr [.lst (rows r)])), (6, .ref 24), (7, .c (ci v7_1)), (8, .c (ci v8_2)), (68, .agg [.c (ci (el (el r (el o24_2 v7_1)) (el o24_2 v8_2))), .c (ci (el (el r (el o24_2 v8_2)) (el o24_2 v7_1)))]), (69, .c (ci v69_3))], 84⟩) H3 m3 ⟨0, o24_2, ghe_to (n := 84) rfl rfl ⟨rfl, rfl, rfl, rfl, rfl, rfl, trivial⟩, q25⟩ ?_
            rintro v69_3 o24_3 q25
            replace h := h v69_3 o24_3 q25
            refine aw_seq ?_
            refine aw_region ?_
            refine run_s (ss_lss rfl rfl) rfl ?_
            refine run_nil ?_
            refine aw_seq ?_
            refine aw_cond rfl (fun q26 => ?_) (fun q26 => ?_)
            · replace h := h.1 (of_decide_eq_true q26)
              refine aw_skip ?_
              refine aw_seq ?_
              refine aw_block ?_
              refine aw_seq ?_
              refine aw_region ?_
              obtain ⟨q27, h⟩ := h
              refine run_s (ss_indexA (l := [el (el r (el o24_2 v7_1)) (el o24_2 v8_2), el (el r (el o24_2 v8_2)) (el o24_2 v7_1)]) rfl rfl rfl q27) rfl ?_
              refine run_s (ss_assign rfl) rfl ?_
              refine run_nil ?_
              refine aw_seq ?_
              refine aw_region ?_
              refine run_s (ss_move rfl) rfl ?_
              refine run_s (ss_move rfl) rfl ?_
              obtain ⟨q28, h⟩ := h
              refine run_w (ws_callR (xs := [.tmp 72, .tmp 73]) (cs := [.own (ints o24_3), ci (el ([el (el r (el o24_2 v7_1)) (el o24_2 v8_2), el (el r (el o24_2 v8_2)) (el o24_2 v7_1)] : List Int) v69_3)]) (ids := []) rfl (.inr ⟨rfl, rfl⟩) rfl rfl (fz_cons (fz_own (fz_map (fun _ => rfl) _)) (fz_cons rfl fz_nil)) (c_k_Contains o24_3 (el ([el (el r (el o24_2 v7_1)) (el o24_2 v8_2), el (el r (el o24_2 v8_2)) (el o24_2 v7_1)] : List Int) v69_3) q28) rfl ?_ )
              rintro _ rfl
              refine ⟨rfl, rfl, ?_⟩
              refine run_s (ss_not rfl) rfl ?_
              refine run_nil ?_
              refine aw_cond rfl (fun q30 => ?_) (fun q30 => ?_)
              · replace h := h.1 ((bnot_t q30))
                refine aw_gh (gh_to (n := 84) (σ' := [(24, ⟨ints o24_3, []⟩)]) (env' := [(2, .c (.ptr [.lst (rows r)])), (6, .ref 24), (7, .c (ci v7_1)), (8, .c (ci v8_2)), (10, .c (ci (el ([el (el r (el o24_2 v7_1)) (el o24_2 v8_2), el (el r (el o24_2 v8_2)) (el o24_2 v7_1)] : List Int) v69_3))), (68, .agg [.c (ci (el (el r (el o24_2 v7_1)) (el o24_2 v8_2))), .c (ci (el (el r (el o24_2 v8_2)) (el o24_2 v7_1)))]), (69, .c (ci v69_3))]) rfl rfl ⟨rfl, rfl, rfl, rfl, rfl, rfl, rfl, trivial⟩) ?_
                refine aw_region ?_
                refine run_s (ss_move rfl) rfl ?_
                refine run_s (ss_move rfl) rfl ?_
                refine run_w (ws_buildSlice (id := 78) (ps := [(0, .tmp 77)]) rfl rfl (Nat.le_of_ble_eq_true rfl) rfl ⟨rfl, ?_⟩)
                obtain ⟨q31, h⟩ := h
                refine run_w (ws_app1 ci (l := o24_3) (m := [el ([el (el r (el o24_2 v7_1)) (el o24_2 v8_2), el (el r (el o24_2 v8_2)) (el o24_2 v7_1)] : List Int) v69_3]) rfl rfl rfl rfl rfl (Nat.le_of_ble_eq_true rfl) q31 ⟨rfl, ?_⟩)
                refine run_s (ss_assign rfl) rfl ?_
                refine run_nil ?_
                refine aw_gh (gh_to (n := 84) (σ' := [(24, ⟨ints (o24_3 ++ ([el ([el (el r (el o24_2 v7_1)) (el o24_2 v8_2), el (el r (el o24_2 v8_2)) (el o24_2 v7_1)] : List Int) v69_3])), []⟩)]) (env' := [(2, .c (.ptr [.lst (rows r)])), (6, .ref 24), (7, .c (ci v7_1)), (8, .c (ci v8_2)), (68, .agg [.c (ci (el (el r (el o24_2 v7_1)) (el o24_2 v8_2))), .c (ci (el (el r (el o24_2 v8_2)) (el o24_2 v7_1)))]), (69, .c (ci v69_3))]) rfl rfl ⟨rfl, rfl, rfl, rfl, rfl, rfl, trivial⟩) ?_
                refine aw_region ?_
                obtain ⟨q32, h⟩ := h
                refine run_s (ss_add rfl rfl q32) rfl ?_
                refine run_s (ss_move rfl) rfl ?_
                refine run_nil ?_
                exact ⟨v69_3 + 1, o24_3 ++ ([el ([el (el r (el o24_2 v7_1)) (el o24_2 v8_2), el (el r (el o24_2 v8_2)) (el o24_2 v7_1)] : List Int) v69_3]), ghe_to (n := 84) rfl rfl ⟨rfl, rfl, rfl, rfl, rfl, rfl, trivial⟩, h.1, h.2⟩
              · replace h := h.2 ((bnot_f q30))
                refine aw_skip ?_
                refine aw_gh (gh_to (n := 84) (σ' := [(24, ⟨ints o24_3, []⟩)]) (env' := [(2, .c (.ptr [.lst (rows r)])), (6, .ref 24), (7, .c (ci v7_1)), (8, .c (ci v8_2)), (68, .agg [.c (ci (el (el r (el o24_2 v7_1)) (el o24_2 v8_2))), .c (ci (el (el r (el o24_2 v8_2)) (el o24_2 v7_1)))]), (69, .c (ci v69_3))]) rfl rfl ⟨rfl, rfl, rfl, rfl, rfl, rfl, trivial⟩) ?_
                refine aw_region ?_
                obtain ⟨q33, h⟩ := h
                refine run_s (ss_add rfl rfl q33) rfl ?_
                refine run_s (ss_move rfl) rfl ?_
                refine run_nil ?_
                exact ⟨v69_3 + 1, o24_3, ghe_to (n := 84) rfl rfl ⟨rfl, rfl, rfl, rfl, rfl, rfl, trivial⟩, h.1, h.2⟩
            · replace h := h.2 (of_decide_eq_false q26)
              refine aw_exit ?_
              refine aw_region ?_
              refine run_s (ss_move rfl) rfl ?_
              obtain ⟨q34, h⟩ := h
              refine run_s (ss_add rfl rfl q34) rfl ?_
              refine run_s (ss_assign rfl) rfl ?_
              refine run_nil ?_
              exact ⟨v8_2 + 1, o24_3, ghe_to (n := 84) rfl rfl ⟨rfl, rfl, rfl, rfl, trivial⟩, h.1, h.2⟩
          · replace h := h.2 (of_decide_eq_false q16)
            refine aw_exit ?_
            refine aw_region ?_
            refine run_s (ss_move rfl) rfl ?_
            obtain ⟨q35, h⟩ := h
            refine run_s (ss_add rfl rfl q35) rfl ?_
            refine run_s (ss_assign rfl) rfl ?_
            refine run_nil ?_
            exact ⟨v7_1 + 1, o24_2, ghe_to (n := 84) rfl rfl ⟨rfl, rfl, rfl, trivial⟩, h.1, h.2⟩
        · replace h := h.2 (of_decide_eq_false q14)
          refine aw_exit ?_
          refine aw_seq ?_
          refine aw_gh (gh_to (n := 84) (σ' := [(24, ⟨ints o24_1, []⟩)]) (env' := [(6, .ref 24)]) rfl rfl ⟨rfl, trivial⟩) ?_
          refine aw_region ?_
          refine run_s (ss_move rfl) rfl ?_
          obtain ⟨q36, h⟩ := h
          refine run_w (ws_callM (xs := [.tmp 81]) (cs := [.own (ints o24_1)]) (ids := []) rfl (.inr ⟨rfl, rfl⟩) rfl rfl rfl (c_k_Sort o24_1 q36) rfl rfl ?_ )
          rintro _ _ ⟨rfl, rfl⟩
          refine ⟨rfl, rfl, ?_⟩
          refine run_nil ?_
          refine aw_seq ?_
          refine aw_region ?_
          refine run_s (ss_move rfl) rfl ?_
          refine run_s (ss_assign rfl) rfl ?_
          refine run_s (ss_assign rfl) rfl ?_
          refine run_nil ?_
          refine aw_ret ?_
          exact retAF_mk (retv2 rfl (rv_tmp rfl) (rv_tmp rfl)) rfl rfl ⟨_, (cle_refl _), _, _, h, rfl⟩

theorem c_impl_SubrackFrom (r : List (List Int)) (list : List Int) (hp : small2 r ∧ small list) : AF Try.prog 11 [.agg [.lst (rows r)], .lst (ints list)] (fun R_ => R_ = .tup [.own (ints (SbfT r list)), ci (SbfE r list)]) :=
  (w_impl_SubrackFrom r list (fun y0 y1 => y0 = SbfT r list ∧ y1 = SbfE r list) (p_impl_SubrackFrom r list hp)).mono (by rintro r ⟨_, _, ⟨rfl, rfl⟩, rfl⟩; rfl)

def wp_spec_l01From (code : List Int) (Q : List Int → Int → Int → Prop) : Prop :=
 ((0 : Int) ≤ (code.length : Int) ∧ (code.length : Int) ≤ 18446744073709551615) ∧
 ∃ (H1 : Int → Int → Prop) (m1 : Int → Int → Nat),
 H1 0 (w64 ((6553 : Int) + (code.length : Int))) ∧
 ∀ (v4_1 : Int) (f11_2_1 : Int), H1 v4_1 f11_2_1 →
 ( ((v4_1 < (code.length : Int) →
 ((v4_1 < 4096 →
 (0 ≤ v4_1 ∧ v4_1 < (code.length : Int)) ∧
 ((0 : Int) ≤ el code v4_1 ∧ el code v4_1 ≤ 18446744073709551615) ∧
 (InI (v4_1 + 1)) ∧
 (H1 (v4_1 + 1) (w64 ((w64 ((w64 (f11_2_1 * (1099511628211 : Int))) + (el code v4_1))) + (11 : Int))) ∧ m1 (v4_1 + 1) (w64 ((w64 ((w64 (f11_2_1 * (1099511628211 : Int))) + (el code v4_1))) + (11 : Int))) < m1 v4_1 f11_2_1)) ∧
 (¬ (v4_1 < 4096) →
 Q code 0 f11_2_1))) ∧
 (¬ (v4_1 < (code.length : Int)) →
 Q code 0 f11_2_1)))

def wp_spec_l01Next (s1 : List Int) (s2 : Int) (s3 : Int) (n : Int) (Q : Int → List Int → Int → Int → Prop) : Prop :=
 ((n < 1 →
 Q 0 s1 s2 s3) ∧
 (¬ (n < 1) →
 ((0 : Int) ≤ w64 ((w64 (s3 * (6364136223846793005 : Int))) + (1442695040888963407 : Int)) ∧ (0 : Int) ≤ (33 : Int) ∧ (33 : Int) ≤ 62) ∧
 (((0 : Int) ≤ (w64 ((w64 (s3 * (6364136223846793005 : Int))) + (1442695040888963407 : Int))) / (2 : Int) ^ (33 : Int).toNat ∧ (w64 ((w64 (s3 * (6364136223846793005 : Int))) + (1442695040888963407 : Int))) / (2 : Int) ^ (33 : Int).toNat ≤ 18446744073709551615) ∧ (0 : Int) ≤ (16777215 : Int) ∧ (16777215 : Int) ≤ 18446744073709551615) ∧
 (InI ((((w64 ((w64 (s3 * (6364136223846793005 : Int))) + (1442695040888963407 : Int))) / (2 : Int) ^ (33 : Int).toNat).toNat &&& (16777215 : Int).toNat : Nat) : Int)) ∧
 ((s2 < (s1.length : Int) →
 (0 ≤ s2 ∧ s2 < (s1.length : Int)) ∧
 (InI (el s1 s2)) ∧
 (InI (((((w64 ((w64 (s3 * (6364136223846793005 : Int))) + (1442695040888963407 : Int))) / (2 : Int) ^ (33 : Int).toNat).toNat &&& (16777215 : Int).toNat : Nat) : Int) + (el s1 s2))) ∧
 (InI (s2 + 1)) ∧
 ((0 : Int) ≤ ((((w64 ((w64 (s3 * (6364136223846793005 : Int))) + (1442695040888963407 : Int))) / (2 : Int) ^ (33 : Int).toNat).toNat &&& (16777215 : Int).toNat : Nat) : Int) + (el s1 s2) ∧ (0 : Int) < n) ∧
 Q ((((((w64 ((w64 (s3 * (6364136223846793005 : Int))) + (1442695040888963407 : Int))) / (2 : Int) ^ (33 : Int).toNat).toNat &&& (16777215 : Int).toNat : Nat) : Int) + (el s1 s2)) % n) s1 (s2 + 1) (w64 ((w64 (s3 * (6364136223846793005 : Int))) + (1442695040888963407 : Int)))) ∧
 (¬ (s2 < (s1.length : Int)) →
 ((0 : Int) ≤ ((((w64 ((w64 (s3 * (6364136223846793005 : Int))) + (1442695040888963407 : Int))) / (2 : Int) ^ (33 : Int).toNat).toNat &&& (16777215 : Int).toNat : Nat) : Int) ∧ (0 : Int) < n) ∧
 Q (((((w64 ((w64 (s3 * (6364136223846793005 : Int))) + (1442695040888963407 : Int))) / (2 : Int) ^ (33 : Int).toNat).toNat &&& (16777215 : Int).toNat : Nat) : Int) % n) s1 s2 (w64 ((w64 (s3 * (6364136223846793005 : Int))) + (1442695040888963407 : Int)))))))

def wp_spec_l03DrawPerm (s1 : List Int) (s2 : Int) (s3 : Int) (n : Int) (Q : List Int → List Int → Int → Int → Prop) : Prop :=
 ∃ (H1 : Int → List Int → List Int → Int → Int → Prop) (m1 : Int → List Int → List Int → Int → Int → Nat),
 H1 0 ([] : List Int) s1 s2 s3 ∧
 ∀ (v6_1 : Int) (o9_1 : List Int) (f800_0_1 : List Int) (f800_1_1 : Int) (f800_2_1 : Int), H1 v6_1 o9_1 f800_0_1 f800_1_1 f800_2_1 →
 ( ((v6_1 < n →
 (InI (v6_1 + 1)) ∧
 (okS f800_0_1 f800_1_1 f800_2_1 ∧ InI (v6_1 + 1)) ∧
 ∀ (r1_0 : Int) (o1_0 : List Int) (o1_1 : Int) (o1_2 : Int), (nxP (v6_1 + 1) r1_0 ∧ o1_0 = f800_0_1 ∧ okS f800_0_1 o1_1 o1_2) →
 (0 ≤ r1_0 ∧ r1_0 ≤ (o9_1.length : Int) ∧ (o9_1.length : Int) ≤ (o9_1.length : Int)) ∧
 ((([v6_1]).length : Int) + ((sl o9_1 r1_0 (o9_1.length : Int)).length : Int) ≤ 1000000000) ∧
 ((0 : Int) ≤ 0 ∧ 0 ≤ r1_0 ∧ r1_0 ≤ (o9_1.length : Int)) ∧
 ((([] : List Int).length : Int) + ((sl o9_1 0 r1_0).length : Int) ≤ 1000000000) ∧
 (((([] : List Int) ++ (sl o9_1 0 r1_0)).length : Int) + ((([v6_1]) ++ (sl o9_1 r1_0 (o9_1.length : Int))).length : Int) ≤ 1000000000) ∧
 (InI (v6_1 + 1)) ∧
 (H1 (v6_1 + 1) ((([] : List Int) ++ (sl o9_1 0 r1_0)) ++ (([v6_1]) ++ (sl o9_1 r1_0 (o9_1.length : Int)))) o1_0 o1_1 o1_2 ∧ m1 (v6_1 + 1) ((([] : List Int) ++ (sl o9_1 0 r1_0)) ++ (([v6_1]) ++ (sl o9_1 r1_0 (o9_1.length : Int)))) o1_0 o1_1 o1_2 < m1 v6_1 o9_1 f800_0_1 f800_1_1 f800_2_1)) ∧
 (¬ (v6_1 < n) →
 Q o9_1 f800_0_1 f800_1_1 f800_2_1)))

theorem p_spec_l01From (code : List Int) (hp : small code ∧ bytes code) : wp_spec_l01From code (fun y0 y1 y2 => y0 = code ∧ okS code y1 y2) := by
  have hs : (code.length : Int) ≤ 1000000000 := hp.1
  refine ⟨⟨by omega, by omega⟩, fun i h => (0 ≤ i ∧ i ≤ (code.length : Int)) ∧ 0 ≤ h ∧ h ≤ 18446744073709551615, fun i _ => ((code.length : Int) - i).toNat, ⟨⟨by omega, by omega⟩, w64_in _⟩, ?_⟩
  rintro i h ⟨⟨i0, i1⟩, hh⟩
  dsimp only
  have fin : code = code ∧ okS code 0 h := ⟨rfl, hp, ⟨by omega, by omega⟩, hh⟩
  refine ⟨fun ilt => ⟨fun _ => ?_, fun _ => fin⟩, fun _ => fin⟩
  have hb := hp.2 i i0 ilt
  exact ⟨⟨i0, ilt⟩, ⟨hb.1, by omega⟩, ⟨by omega, by omega⟩, ⟨⟨by omega, by omega⟩, w64_in _⟩, by omega⟩
theorem p_spec_l01Next (s1 : List Int) (s2 s3 n : Int) (hp : okS s1 s2 s3 ∧ InI n) : wp_spec_l01Next s1 s2 s3 n (fun y0 w0 w1 w2 => nxP n y0 ∧ w0 = s1 ∧ okS s1 w1 w2) := by
  obtain ⟨⟨⟨hs, hb⟩, ha, hh⟩, hn⟩ := hp
  have hs' : (s1.length : Int) ≤ 1000000000 := hs
  unfold wp_spec_l01Next
  refine ⟨fun h => ⟨⟨fun _ => rfl, fun g => absurd h g⟩, rfl, ⟨hs, hb⟩, ha, hh⟩, fun h => ?_⟩
  generalize hH : w64 (w64 (s3 * (6364136223846793005 : Int)) + (1442695040888963407 : Int)) = H
  have hw : 0 ≤ H ∧ H ≤ 18446744073709551615 := by rw [← hH]; exact w64_in _
  have hd := shr_bd hw (33 : Int).toNat
  have hx := and_bd (H / (2 : Int) ^ (33 : Int).toNat).toNat
  generalize (((H / (2 : Int) ^ (33 : Int).toNat).toNat &&& (16777215 : Int).toNat : Nat) : Int) = B at hx ⊢
  have hn1 : 0 < n := by omega
  have md : ∀ z : Int, 0 ≤ z → nxP n (z % n) := fun z _ => ⟨fun g => absurd g h, fun _ => ⟨Int.emod_nonneg _ (by omega), Int.emod_lt_of_pos _ hn1⟩⟩
  refine ⟨⟨hw.1, by omega, by omega⟩, ⟨hd, by omega, by omega⟩, ⟨by omega, by omega⟩, fun g => ?_, fun g => ?_⟩
  · have hbb := hb s2 ha.1 g
    exact ⟨⟨ha.1, g⟩, ⟨by omega, by omega⟩, ⟨by omega, by omega⟩, ⟨by omega, by omega⟩, ⟨by omega, hn1⟩, md _ (by omega), rfl, ⟨hs, hb⟩, ⟨by omega, by omega⟩, hw⟩
  · exact ⟨⟨by omega, hn1⟩, md _ hx.1, rfl, ⟨hs, hb⟩, ha, hw⟩
theorem mem_sl {l : List Int} {a b z : Int} (h : z ∈ sl l a b) : z ∈ l := List.mem_of_mem_take (List.mem_of_mem_drop h)
theorem sl_len2 {l : List Int} {a b : Int} (h : 0 ≤ a ∧ a ≤ b ∧ b ≤ (l.length : Int)) : ((sl l a b).length : Int) = b - a := by simp [sl]; omega
theorem p_spec_l03DrawPerm (s1 : List Int) (s2 s3 n : Int) (hp : okS s1 s2 s3 ∧ n ≤ 1000) : wp_spec_l03DrawPerm s1 s2 s3 n (fun y0 w0 w1 w2 => ((y0.length : Int) = max n 0 ∧ ∀ z_ ∈ y0, 0 ≤ z_ ∧ z_ < n) ∧ w0 = s1 ∧ okS s1 w1 w2) := by
  obtain ⟨hs, hn⟩ := hp
  refine ⟨fun i v c a h => (0 ≤ i ∧ i ≤ max n 0) ∧ (v.length : Int) = i ∧ (∀ z ∈ v, 0 ≤ z ∧ z < n) ∧ c = s1 ∧ okS s1 a h, fun i _ _ _ _ => (n - i).toNat, ⟨⟨by omega, by omega⟩, rfl, by simp, rfl, hs⟩, ?_⟩
  rintro i v c a h ⟨⟨i0, i1⟩, hl, hv, rfl, hS⟩
  dsimp only
  refine ⟨fun ilt => ⟨⟨by omega, by omega⟩, ⟨hS, by omega, by omega⟩, ?_⟩, fun ige => ⟨⟨by omega, hv⟩, rfl, hS⟩⟩
  rintro r o0 o1 o2 ⟨hr, rfl, hS2⟩
  have hr2 := hr.2 (by omega)
  have l1 := sl_len2 (l := v) (a := r) (b := (v.length : Int)) ⟨hr2.1, by omega, by omega⟩
  have l2 := sl_len2 (l := v) (a := 0) (b := r) ⟨by omega, hr2.1, by omega⟩
  refine ⟨⟨hr2.1, by omega, by omega⟩, by rw [List.length_singleton]; omega, ⟨by omega, hr2.1, by omega⟩, by rw [List.length_nil]; omega, by simp only [List.nil_append, List.length_append, List.length_singleton]; omega, ⟨by omega, by omega⟩, ⟨⟨by omega, by omega⟩, ?_, ?_, rfl, hS2⟩, by omega⟩
  · simp only [List.nil_append, List.length_append, List.length_singleton]; omega
  · intro z hz
    rcases List.mem_append.1 hz with h1 | h1
    · rw [List.nil_append] at h1; exact hv z (mem_sl h1)
    · rcases List.mem_append.1 h1 with h2 | h2
      · obtain rfl := List.mem_singleton.1 h2; omega
      · exact hv z (mem_sl h2)

set_option maxRecDepth 100000 in
set_option maxHeartbeats 4000000 in
theorem w_spec_l01From (code : List Int) (Q : List Int → Int → Int → Prop) (h : wp_spec_l01From code Q) : AF Try.prog 74 [.lst (bys code)] (fun R_ => ∃ y0 y1 y2, Q y0 y1 y2 ∧ R_ = .obox [.lst (bys y0), ci y1, cu y2]) := by
  refine AF.ofWQ (af_enter (n := 38) Try.func74 rfl (by rfl) rfl (Nat.le_of_ble_eq_true rfl) ?_)
  unfold wp_spec_l01From at h
  refine aw_seq ?_
  refine aw_gh (gh_to (n := 38) (σ' := []) (env' := [(0, .c (.lst (bys code)))]) rfl rfl ⟨rfl, trivial⟩) ?_
  refine aw_region ?_
  refine run_s (ss_assign rfl) rfl ?_
  refine run_nil ?_
  refine aw_seq ?_
  refine aw_region ?_
  refine run_s (ss_move rfl) rfl ?_
  refine run_s (ss_move rfl) rfl ?_
  refine run_s (ss_lenL (f := cy) rfl) rfl ?_
  obtain ⟨q1, h⟩ := h
  refine run_s (ss_convert rfl (IntWalk.u64_in _ q1)) rfl ?_
  refine run_s (ss_addU rfl rfl) rfl ?_
  refine run_s (ss_buildG (ps := [(0, .tmp 5), (2, .tmp 9)]) rfl) rfl ?_
  refine run_w (ws_boxS (id := 11) rfl rfl rfl (Nat.le_of_ble_eq_true rfl) rfl ⟨rfl, ?_⟩)
  refine run_s (ss_assign rfl) rfl ?_
  refine run_nil ?_
  refine aw_seq ?_
  refine aw_seq ?_
  refine aw_gh (gh_to (n := 38) (σ' := [(11, ⟨[.lst (bys code), ci 0, cu (w64 ((6553 : Int) + (code.length : Int)))], []⟩)]) (env' := [(0, .c (.lst (bys code))), (3, .cell 11 0)]) rfl rfl ⟨rfl, rfl, trivial⟩) ?_
  refine aw_region ?_
  refine run_s (ss_assign rfl) rfl ?_
  refine run_nil ?_
  refine aw_block ?_
  obtain ⟨H1, m1, q2, h⟩ := h
  refine aw_loop2 (fun (v4_1 : Int) (f11_2_1 : Int) => ⟨[(11, ⟨[.lst (bys code), ci 0, cu f11_2_1], []⟩)], [(0, .c (.lst (bys code))), (3, .cell 11 0), (4, .c (ci v4_1))], 38⟩) H1 m1 ⟨0, w64 ((6553 : Int) + (code.length : Int)), ghe_to (n := 38) rfl rfl ⟨rfl, rfl, rfl, trivial⟩, q2⟩ ?_
  rintro v4_1 f11_2_1 q2
  replace h := h v4_1 f11_2_1 q2
  refine aw_seq ?_
  refine aw_seq ?_
  refine aw_region ?_
  refine run_s (ss_move rfl) rfl ?_
  refine run_s (ss_move rfl) rfl ?_
  refine run_s (ss_lenL (f := cy) rfl) rfl ?_
  refine run_s (ss_lss rfl rfl) rfl ?_
  refine run_s (ss_move rfl) rfl ?_
  refine run_split (s := 16) rfl (fun q3 => ?_) (fun q3 => ?_)
  · replace h := h.1 (of_decide_eq_true q3)
    refine run_gt rfl rfl q3 ?_
    refine run_s (ss_move rfl) rfl ?_
    refine run_gt rfl rfl q3 ?_
    refine run_s (ss_lss rfl rfl) rfl ?_
    refine run_s (ss_pickT rfl q3 rfl) rfl ?_
    refine run_nil ?_
    refine aw_cond rfl (fun q4 => ?_) (fun q4 => ?_)
    · replace h := h.1 (of_decide_eq_true q4)
      refine aw_skip ?_
      refine aw_seq ?_
      refine aw_block ?_
      refine aw_gh (gh_to (n := 38) (σ' := [(11, ⟨[.lst (bys code), ci 0, cu f11_2_1], []⟩)]) (env' := [(0, .c (.lst (bys code))), (3, .cell 11 0), (4, .c (ci v4_1)), (17, .c (ci v4_1)), (18, .c (cb (decide (v4_1 < 4096))))]) rfl rfl ⟨rfl, rfl, rfl, rfl, rfl, trivial⟩) ?_
      refine aw_regionD (kd := kdl [0, 0, 0, 0, 1, 0, 0, 0, 0, 1, 0, 0, 0, 0, 0, 3]) (ord := [0, 1, 2, 3, 6, 7, 8, 4, 5, 9, 10, 11, 12, 13, 14, 15]) [] mixed (by kernel_rfl) ?_
      refine rd_s rfl rfl trivial (ss_move rfl) rfl ?_
      refine rd_s rfl rfl trivial (ss_move rfl) rfl ?_
      refine rd_s rfl rfl trivial (ss_nilCheck_cell rfl) rfl ?_
      refine rd_s rfl rfl trivial (ss_field_cell rfl) rfl ?_
      refine rd_s rfl rfl trivial (ss_move rfl) rfl ?_
      refine rd_s rfl rfl trivial (ss_move rfl) rfl ?_
      obtain ⟨q5, h⟩ := h
      refine rd_s rfl rfl trivial (ss_idxL rfl rfl q5) rfl ?_
      refine rd_l rfl rfl trivial (ss_loadC rfl rfl rfl rfl rfl) rfl ?_
      refine rd_s rfl rfl trivial (ss_mulU rfl rfl) rfl ?_
      refine rd_l rfl rfl trivial (ss_loadL (f := cy) rfl q5) rfl ?_
      obtain ⟨q6, h⟩ := h
      refine rd_s rfl rfl trivial (ss_convert rfl (IntWalk.u64_in _ q6)) rfl ?_
      refine rd_s rfl rfl trivial (ss_addU rfl rfl) rfl ?_
      refine rd_s rfl rfl trivial (ss_addU rfl rfl) rfl ?_
      refine rd_s rfl rfl trivial (ss_nilCheck_cell rfl) rfl ?_
      refine rd_s rfl rfl trivial (ss_field_cell rfl) rfl ?_
      refine rd_f rfl rfl trivial (ws_store rfl rfl (Nat.le_of_ble_eq_true rfl) rfl rfl ⟨rfl, ?_⟩)
      refine rd_nil ?_
      refine aw_gh (gh_to (n := 38) (σ' := [(11, ⟨[.lst (bys code), ci 0, cu (w64 ((w64 ((w64 (f11_2_1 * (1099511628211 : Int))) + (el code v4_1))) + (11 : Int)))], []⟩)]) (env' := [(0, .c (.lst (bys code))), (3, .cell 11 0), (4, .c (ci v4_1)), (17, .c (ci v4_1)), (18, .c (cb (decide (v4_1 < 4096))))]) rfl rfl ⟨rfl, rfl, rfl, rfl, rfl, trivial⟩) ?_
      refine aw_region ?_
      refine run_s (ss_move rfl) rfl ?_
      obtain ⟨q7, h⟩ := h
      refine run_s (ss_add rfl rfl q7) rfl ?_
      refine run_s (ss_assign rfl) rfl ?_
      refine run_nil ?_
      exact ⟨v4_1 + 1, w64 ((w64 ((w64 (f11_2_1 * (1099511628211 : Int))) + (el code v4_1))) + (11 : Int)), ghe_to (n := 38) rfl rfl ⟨rfl, rfl, rfl, trivial⟩, h.1, h.2⟩
    · replace h := h.2 (of_decide_eq_false q4)
      refine aw_exit ?_
      refine aw_seq ?_
      refine aw_gh (gh_to (n := 38) (σ' := [(11, ⟨[.lst (bys code), ci 0, cu f11_2_1], []⟩)]) (env' := [(3, .cell 11 0)]) rfl rfl ⟨rfl, trivial⟩) ?_
      refine aw_region ?_
      refine run_s (ss_move rfl) rfl ?_
      refine run_s (ss_assign rfl) rfl ?_
      refine run_nil ?_
      refine aw_ret ?_
      exact retAF_mk (retv1 rfl (rv_tmp rfl)) rfl rfl ⟨_, (cle_refl _), _, _, _, h, rfl⟩
  · replace h := h.2 (of_decide_eq_false q3)
    refine run_gf rfl rfl q3 rfl ?_
    refine run_gf rfl rfl q3 rfl ?_
    refine run_s (ss_pickF rfl q3 rfl) rfl ?_
    refine run_nil ?_
    refine aw_cond rfl (fun q8 => ?_) (fun q8 => ?_)
    · cases q8
    · skip
      refine aw_exit ?_
      refine aw_seq ?_
      refine aw_gh (gh_to (n := 38) (σ' := [(11, ⟨[.lst (bys code), ci 0, cu f11_2_1], []⟩)]) (env' := [(3, .cell 11 0)]) rfl rfl ⟨rfl, trivial⟩) ?_
      refine aw_region ?_
      refine run_s (ss_move rfl) rfl ?_
      refine run_s (ss_assign rfl) rfl ?_
      refine run_nil ?_
      refine aw_ret ?_
      exact retAF_mk (retv1 rfl (rv_tmp rfl)) rfl rfl ⟨_, (cle_refl _), _, _, _, h, rfl⟩

theorem c_spec_l01From (code : List Int) (hp : small code ∧ bytes code) : AF Try.prog 74 [.lst (bys code)] (fun R_ => ∃ y0 y1 y2, (y0 = code ∧ okS code y1 y2) ∧ R_ = .obox [.lst (bys y0), ci y1, cu y2]) :=
  w_spec_l01From code (fun y0 y1 y2 => y0 = code ∧ okS code y1 y2) (p_spec_l01From code hp)

set_option maxRecDepth 100000 in
set_option maxHeartbeats 4000000 in
theorem w_spec_l01Next (s1 : List Int) (s2 : Int) (s3 : Int) (n : Int) (Q : Int → List Int → Int → Int → Prop) (h : wp_spec_l01Next s1 s2 s3 n Q) : AM Try.prog 76 [.obox [.lst (bys s1), ci s2, cu s3], ci n] (fun R_ O_ => ∃ y0 w0 w1 w2, Q y0 w0 w1 w2 ∧ R_ = ci y0 ∧ O_ = [.obox [.lst (bys w0), ci w1, cu w2], ci n]) := by
  refine am_enter (n := 58) (m := 2) Try.func76 rfl (by rfl) rfl rfl (Nat.le_of_ble_eq_true rfl) [800] rfl ?_
  unfold wp_spec_l01Next at h
  refine aw_seq ?_
  refine aw_gh (gh_to (n := 58) (σ' := [(800, ⟨[.lst (bys s1), ci s2, cu s3], []⟩)]) (env' := [(0, .cell 800 0), (1, .c (ci n)), (58, .cell 800 0), (59, .c (ci n))]) rfl rfl ⟨rfl, rfl, rfl, rfl, trivial⟩) ?_
  refine aw_region ?_
  refine run_s (ss_assign rfl) rfl ?_
  refine run_nil ?_
  refine aw_seq ?_
  refine aw_seq ?_
  refine aw_region ?_
  refine run_s (ss_move rfl) rfl ?_
  refine run_s (ss_lss rfl rfl) rfl ?_
  refine run_nil ?_
  refine aw_cond rfl (fun q1 => ?_) (fun q1 => ?_)
  · replace h := h.1 (of_decide_eq_true q1)
    refine aw_seq ?_
    refine aw_gh (gh_to (n := 58) (σ' := [(800, ⟨[.lst (bys s1), ci s2, cu s3], []⟩)]) (env' := [(4, .c (ci 0)), (58, .cell 800 0), (59, .c (ci n))]) rfl rfl ⟨rfl, rfl, rfl, trivial⟩) ?_
    refine aw_region ?_
    refine run_s (ss_assign rfl) rfl ?_
    refine run_nil ?_
    refine aw_ret ?_
    exact retAM_mk (retv1 rfl (rv_tmp rfl)) rfl rfl rfl ⟨_, _, _, _, h, rfl, rfl⟩
  · replace h := h.2 (of_decide_eq_false q1)
    refine aw_skip ?_
    refine aw_seq ?_
    refine aw_region ?_
    refine run_s (ss_move rfl) rfl ?_
    refine run_s (ss_move rfl) rfl ?_
    refine run_s (ss_nilCheck_cell rfl) rfl ?_
    refine run_s (ss_field_cell rfl) rfl ?_
    refine run_s (ss_loadC rfl rfl rfl rfl rfl) rfl ?_
    refine run_s (ss_mulU rfl rfl) rfl ?_
    refine run_s (ss_addU rfl rfl) rfl ?_
    refine run_s (ss_nilCheck_cell rfl) rfl ?_
    refine run_s (ss_field_cell rfl) rfl ?_
    refine run_w (ws_store rfl rfl (Nat.le_of_ble_eq_true rfl) rfl rfl ⟨rfl, ?_⟩)
    refine run_nil ?_
    refine aw_seq ?_
    refine aw_gh (gh_to (n := 58) (σ' := [(800, ⟨[.lst (bys s1), ci s2, cu (w64 ((w64 (s3 * (6364136223846793005 : Int))) + (1442695040888963407 : Int)))], []⟩)]) (env' := [(0, .cell 800 0), (1, .c (ci n)), (58, .cell 800 0), (59, .c (ci n))]) rfl rfl ⟨rfl, rfl, rfl, rfl, trivial⟩) ?_
    refine aw_region ?_
    refine run_s (ss_move rfl) rfl ?_
    refine run_s (ss_nilCheck_cell rfl) rfl ?_
    refine run_s (ss_field_cell rfl) rfl ?_
    refine run_s (ss_loadC rfl rfl rfl rfl rfl) rfl ?_
    obtain ⟨q2, h⟩ := h
    refine run_s (ss_shrU rfl rfl q2) rfl ?_
    obtain ⟨q3, h⟩ := h
    refine run_s (ss_andU rfl rfl q3) rfl ?_
    obtain ⟨q4, h⟩ := h
    refine run_s (ss_convert rfl (wrap_in q4.1 q4.2)) rfl ?_
    refine run_s (ss_assign rfl) rfl ?_
    refine run_nil ?_
    refine aw_seq ?_
    refine aw_seq ?_
    refine aw_gh (gh_to (n := 58) (σ' := [(800, ⟨[.lst (bys s1), ci s2, cu (w64 ((w64 (s3 * (6364136223846793005 : Int))) + (1442695040888963407 : Int)))], []⟩)]) (env' := [(0, .cell 800 0), (1, .c (ci n)), (5, .c (ci ((((w64 ((w64 (s3 * (6364136223846793005 : Int))) + (1442695040888963407 : Int))) / (2 : Int) ^ (33 : Int).toNat).toNat &&& (16777215 : Int).toNat : Nat) : Int))), (58, .cell 800 0), (59, .c (ci n))]) rfl rfl ⟨rfl, rfl, rfl, rfl, rfl, trivial⟩) ?_
    refine aw_regionD (kd := kdl [0, 0, 0, 1, 0, 0, 0, 1, 0, 0]) (ord := [0, 1, 2, 4, 5, 6, 3, 7, 8, 9]) [] mixed (by kernel_rfl) ?_
    refine rd_s rfl rfl trivial (ss_move rfl) rfl ?_
    refine rd_s rfl rfl trivial (ss_nilCheck_cell rfl) rfl ?_
    refine rd_s rfl rfl trivial (ss_field_cell rfl) rfl ?_
    refine rd_s rfl rfl trivial (ss_move rfl) rfl ?_
    refine rd_s rfl rfl trivial (ss_nilCheck_cell rfl) rfl ?_
    refine rd_s rfl rfl trivial (ss_field_cell rfl) rfl ?_
    refine rd_l rfl rfl trivial (ss_loadC rfl rfl rfl rfl rfl) rfl ?_
    refine rd_l rfl rfl trivial (ss_loadC rfl rfl rfl rfl rfl) rfl ?_
    refine rd_s rfl rfl trivial (ss_lenL (f := cy) rfl) rfl ?_
    refine rd_s rfl rfl trivial (ss_lss rfl rfl) rfl ?_
    refine rd_nil ?_
    refine aw_cond rfl (fun q5 => ?_) (fun q5 => ?_)
    · replace h := h.1 (of_decide_eq_true q5)
      refine aw_seq ?_
      refine aw_gh (gh_to (n := 58) (σ' := [(800, ⟨[.lst (bys s1), ci s2, cu (w64 ((w64 (s3 * (6364136223846793005 : Int))) + (1442695040888963407 : Int)))], []⟩)]) (env' := [(0, .cell 800 0), (1, .c (ci n)), (5, .c (ci ((((w64 ((w64 (s3 * (6364136223846793005 : Int))) + (1442695040888963407 : Int))) / (2 : Int) ^ (33 : Int).toNat).toNat &&& (16777215 : Int).toNat : Nat) : Int))), (58, .cell 800 0), (59, .c (ci n))]) rfl rfl ⟨rfl, rfl, rfl, rfl, rfl, trivial⟩) ?_
      refine aw_regionD (kd := kdl [0, 0, 0, 0, 1, 0, 0, 0, 1, 0, 1, 0, 0, 0]) (ord := [0, 1, 2, 3, 5, 6, 7, 4, 8, 9, 10, 11, 12, 13]) [] mixed (by kernel_rfl) ?_
      refine rd_s rfl rfl trivial (ss_move rfl) rfl ?_
      refine rd_s rfl rfl trivial (ss_move rfl) rfl ?_
      refine rd_s rfl rfl trivial (ss_nilCheck_cell rfl) rfl ?_
      refine rd_s rfl rfl trivial (ss_field_cell rfl) rfl ?_
      refine rd_s rfl rfl trivial (ss_move rfl) rfl ?_
      refine rd_s rfl rfl trivial (ss_nilCheck_cell rfl) rfl ?_
      refine rd_s rfl rfl trivial (ss_field_cell rfl) rfl ?_
      refine rd_l rfl rfl trivial (ss_loadC rfl rfl rfl rfl rfl) rfl ?_
      refine rd_l rfl rfl trivial (ss_loadC rfl rfl rfl rfl rfl) rfl ?_
      obtain ⟨q6, h⟩ := h
      refine rd_s rfl rfl trivial (ss_idxL rfl rfl q6) rfl ?_
      refine rd_l rfl rfl trivial (ss_loadL (f := cy) rfl q6) rfl ?_
      obtain ⟨q7, h⟩ := h
      refine rd_s rfl rfl trivial (ss_convert rfl (wrap_in q7.1 q7.2)) rfl ?_
      obtain ⟨q8, h⟩ := h
      refine rd_s rfl rfl trivial (ss_add rfl rfl q8) rfl ?_
      refine rd_s rfl rfl trivial (ss_assign rfl) rfl ?_
      refine rd_nil ?_
      refine aw_gh (gh_to (n := 58) (σ' := [(800, ⟨[.lst (bys s1), ci s2, cu (w64 ((w64 (s3 * (6364136223846793005 : Int))) + (1442695040888963407 : Int)))], []⟩)]) (env' := [(0, .cell 800 0), (1, .c (ci n)), (5, .c (ci (((((w64 ((w64 (s3 * (6364136223846793005 : Int))) + (1442695040888963407 : Int))) / (2 : Int) ^ (33 : Int).toNat).toNat &&& (16777215 : Int).toNat : Nat) : Int) + (el s1 s2)))), (58, .cell 800 0), (59, .c (ci n))]) rfl rfl ⟨rfl, rfl, rfl, rfl, rfl, trivial⟩) ?_
      refine aw_region ?_
      refine run_s (ss_move rfl) rfl ?_
      refine run_s (ss_move rfl) rfl ?_
      refine run_s (ss_nilCheck_cell rfl) rfl ?_
      refine run_s (ss_field_cell rfl) rfl ?_
      refine run_s (ss_loadC rfl rfl rfl rfl rfl) rfl ?_
      obtain ⟨q9, h⟩ := h
      refine run_s (ss_add rfl rfl q9) rfl ?_
      refine run_s (ss_nilCheck_cell rfl) rfl ?_
      refine run_s (ss_field_cell rfl) rfl ?_
      refine run_w (ws_store rfl rfl (Nat.le_of_ble_eq_true rfl) rfl rfl ⟨rfl, ?_⟩)
      refine run_nil ?_
      refine aw_seq ?_
      refine aw_gh (gh_to (n := 58) (σ' := [(800, ⟨[.lst (bys s1), ci (s2 + 1), cu (w64 ((w64 (s3 * (6364136223846793005 : Int))) + (1442695040888963407 : Int)))], []⟩)]) (env' := [(1, .c (ci n)), (5, .c (ci (((((w64 ((w64 (s3 * (6364136223846793005 : Int))) + (1442695040888963407 : Int))) / (2 : Int) ^ (33 : Int).toNat).toNat &&& (16777215 : Int).toNat : Nat) : Int) + (el s1 s2)))), (58, .cell 800 0), (59, .c (ci n))]) rfl rfl ⟨rfl, rfl, rfl, rfl, trivial⟩) ?_
      refine aw_region ?_
      refine run_s (ss_move rfl) rfl ?_
      refine run_s (ss_move rfl) rfl ?_
      obtain ⟨q10, h⟩ := h
      refine run_s (ss_rem rfl rfl q10) rfl ?_
      refine run_s (ss_assign rfl) rfl ?_
      refine run_nil ?_
      refine aw_ret ?_
      exact retAM_mk (retv1 rfl (rv_tmp rfl)) rfl rfl rfl ⟨_, _, _, _, h, rfl, rfl⟩
    · replace h := h.2 (of_decide_eq_false q5)
      refine aw_skip ?_
      refine aw_seq ?_
      refine aw_gh (gh_to (n := 58) (σ' := [(800, ⟨[.lst (bys s1), ci s2, cu (w64 ((w64 (s3 * (6364136223846793005 : Int))) + (1442695040888963407 : Int)))], []⟩)]) (env' := [(1, .c (ci n)), (5, .c (ci ((((w64 ((w64 (s3 * (6364136223846793005 : Int))) + (1442695040888963407 : Int))) / (2 : Int) ^ (33 : Int).toNat).toNat &&& (16777215 : Int).toNat : Nat) : Int))), (58, .cell 800 0), (59, .c (ci n))]) rfl rfl ⟨rfl, rfl, rfl, rfl, trivial⟩) ?_
      refine aw_region ?_
      refine run_s (ss_move rfl) rfl ?_
      refine run_s (ss_move rfl) rfl ?_
      obtain ⟨q11, h⟩ := h
      refine run_s (ss_rem rfl rfl q11) rfl ?_
      refine run_s (ss_assign rfl) rfl ?_
      refine run_nil ?_
      refine aw_ret ?_
      exact retAM_mk (retv1 rfl (rv_tmp rfl)) rfl rfl rfl ⟨_, _, _, _, h, rfl, rfl⟩

theorem c_spec_l01Next (s1 : List Int) (s2 : Int) (s3 : Int) (n : Int) (hp : okS s1 s2 s3 ∧ InI n) : AM Try.prog 76 [.obox [.lst (bys s1), ci s2, cu s3], ci n] (fun R_ O_ => ∃ y0 w0 w1 w2, (nxP n y0 ∧ w0 = s1 ∧ okS s1 w1 w2) ∧ R_ = ci y0 ∧ O_ = [.obox [.lst (bys w0), ci w1, cu w2], ci n]) :=
  w_spec_l01Next s1 s2 s3 n (fun y0 w0 w1 w2 => nxP n y0 ∧ w0 = s1 ∧ okS s1 w1 w2) (p_spec_l01Next s1 s2 s3 n hp)

set_option maxRecDepth 100000 in
set_option maxHeartbeats 4000000 in
theorem w_spec_l03DrawPerm (s1 : List Int) (s2 : Int) (s3 : Int) (n : Int) (Q : List Int → List Int → Int → Int → Prop) (h : wp_spec_l03DrawPerm s1 s2 s3 n Q) : AM Try.prog 94 [.obox [.lst (bys s1), ci s2, cu s3], ci n] (fun R_ O_ => ∃ y0 w0 w1 w2, Q y0 w0 w1 w2 ∧ R_ = .own (ints y0) ∧ O_ = [.obox [.lst (bys w0), ci w1, cu w2], ci n]) := by
  refine am_enter (n := 33) (m := 2) Try.func94 rfl (by rfl) rfl rfl (Nat.le_of_ble_eq_true rfl) [800] rfl ?_
  unfold wp_spec_l03DrawPerm at h
  refine aw_seq ?_
  refine aw_gh (gh_to (n := 33) (σ' := [(800, ⟨[.lst (bys s1), ci s2, cu s3], []⟩)]) (env' := [(0, .cell 800 0), (1, .c (ci n)), (33, .cell 800 0), (34, .c (ci n))]) rfl rfl ⟨rfl, rfl, rfl, rfl, trivial⟩) ?_
  refine aw_region ?_
  refine run_s (ss_assign rfl) rfl ?_
  refine run_nil ?_
  refine aw_seq ?_
  refine aw_region ?_
  refine run_w (ws_buildSlice (id := 9) (ps := []) rfl rfl (Nat.le_of_ble_eq_true rfl) rfl ⟨rfl, ?_⟩)
  refine run_s (ss_assign rfl) rfl ?_
  refine run_nil ?_
  refine aw_seq ?_
  refine aw_seq ?_
  refine aw_gh (gh_to (n := 33) (σ' := [(9, ⟨ints ([] : List Int), []⟩), (800, ⟨[.lst (bys s1), ci s2, cu s3], []⟩)]) (env' := [(0, .cell 800 0), (1, .c (ci n)), (5, .ref 9), (33, .cell 800 0), (34, .c (ci n))]) rfl rfl ⟨rfl, rfl, rfl, rfl, rfl, trivial⟩) ?_
  refine aw_region ?_
  refine run_s (ss_assign rfl) rfl ?_
  refine run_nil ?_
  refine aw_block ?_
  obtain ⟨H1, m1, q1, h⟩ := h
  refine aw_loop5 (fun (v6_1 : Int) (o9_1 : List Int) (f800_0_1 : List Int) (f800_1_1 : Int) (f800_2_1 : Int) => ⟨[(9, ⟨ints o9_1, []⟩), (800, ⟨[.lst (bys f800_0_1), ci f800_1_1, cu f800_2_1], []⟩)], [(0, .cell 800 0), (1, .c (ci n)), (5, .ref 9), (6, .c (ci v6_1)), (33, .cell 800 0), (34, .c (ci n))], 33⟩) H1 m1 ⟨0, ([] : List Int), s1, s2, s3, ghe_to (n := 33) rfl rfl ⟨rfl, rfl, rfl, rfl, rfl, rfl, trivial⟩, q1⟩ ?_
  rintro v6_1 o9_1 f800_0_1 f800_1_1 f800_2_1 q1
  replace h := h v6_1 o9_1 f800_0_1 f800_1_1 f800_2_1 q1
  refine aw_seq ?_
  refine aw_seq ?_
  refine aw_region ?_
  refine run_s (ss_move rfl) rfl ?_
  refine run_s (ss_move rfl) rfl ?_
  refine run_s (ss_lss rfl rfl) rfl ?_
  refine run_nil ?_
  refine aw_cond rfl (fun q2 => ?_) (fun q2 => ?_)
  · replace h := h.1 (of_decide_eq_true q2)
    refine aw_skip ?_
    refine aw_seq ?_
    refine aw_block ?_
    refine aw_seq ?_
    refine aw_region ?_
    refine run_s (ss_move rfl) rfl ?_
    refine run_s (ss_move rfl) rfl ?_
    obtain ⟨q3, h⟩ := h
    refine run_s (ss_add rfl rfl q3) rfl ?_
    obtain ⟨q4, h⟩ := h
    refine run_w (ws_callM (xs := [.tmp 15, .tmp 17]) (cs := [.obox [.lst (bys f800_0_1), ci f800_1_1, cu f800_2_1], ci (v6_1 + 1)]) (ids := []) rfl (.inr ⟨rfl, rfl⟩) rfl rfl rfl (c_spec_l01Next f800_0_1 f800_1_1 f800_2_1 (v6_1 + 1) q4) rfl rfl ?_ )
    rintro _ _ ⟨r1_0, o1_0, o1_1, o1_2, q5, rfl, rfl⟩
    replace h := h r1_0 o1_0 o1_1 o1_2 q5
    refine ⟨rfl, rfl, ?_⟩
    refine run_s (ss_assign rfl) rfl ?_
    refine run_nil ?_
    refine aw_seq ?_
    refine aw_region ?_
    refine run_s (ss_move rfl) rfl ?_
    refine run_w (ws_buildSlice (id := 20) (ps := [(0, .tmp 19)]) rfl rfl (Nat.le_of_ble_eq_true rfl) rfl ⟨rfl, ?_⟩)
    refine run_s (ss_move rfl) rfl ?_
    refine run_s (ss_move rfl) rfl ?_
    refine run_gh (gh_frzE (id := 9) ci rfl (fun _ => rfl)) ?_
    obtain ⟨q6, h⟩ := h
    refine run_s (ss_slL (f := ci) rfl ⟨_, rfl⟩ rfl q6) rfl ?_
    obtain ⟨q7, h⟩ := h
    refine run_w (ws_appL ci (l := [v6_1]) (m := sl o9_1 r1_0 (o9_1.length : Int)) rfl rfl rfl (Nat.le_of_ble_eq_true rfl) q7 ⟨rfl, ?_⟩)
    refine run_s (ss_assign rfl) rfl ?_
    refine run_nil ?_
    refine aw_gh (gh_to (n := 33) (σ' := [(20, ⟨ints (([v6_1]) ++ (sl o9_1 r1_0 (o9_1.length : Int))), []⟩), (800, ⟨[.lst (bys o1_0), ci o1_1, cu o1_2], []⟩)]) (env' := [(0, .cell 800 0), (1, .c (ci n)), (5, .c (.lst (ints o9_1))), (6, .c (ci v6_1)), (7, .c (ci r1_0)), (8, .ref 20), (33, .cell 800 0), (34, .c (ci n))]) rfl rfl ⟨rfl, rfl, rfl, rfl, rfl, rfl, rfl, rfl, trivial⟩) ?_
    refine aw_region ?_
    refine run_w (ws_buildSlice (id := 25) (ps := []) rfl rfl (Nat.le_of_ble_eq_true rfl) rfl ⟨rfl, ?_⟩)
    refine run_s (ss_move rfl) rfl ?_
    refine run_s (ss_move rfl) rfl ?_
    obtain ⟨q8, h⟩ := h
    refine run_s (ss_slL (f := ci) rfl rfl ⟨_, rfl⟩ q8) rfl ?_
    obtain ⟨q9, h⟩ := h
    refine run_w (ws_appL ci (l := ([] : List Int)) (m := sl o9_1 0 r1_0) rfl rfl rfl (Nat.le_of_ble_eq_true rfl) q9 ⟨rfl, ?_⟩)
    refine run_s (ss_move rfl) rfl ?_
    obtain ⟨q10, h⟩ := h
    refine run_w (ws_app1 ci (l := ([] : List Int) ++ (sl o9_1 0 r1_0)) (m := ([v6_1]) ++ (sl o9_1 r1_0 (o9_1.length : Int))) rfl rfl rfl rfl rfl (Nat.le_of_ble_eq_true rfl) q10 ⟨rfl, ?_⟩)
    refine run_s (ss_assign rfl) rfl ?_
    refine run_nil ?_
    refine aw_gh (gh_to (n := 33) (σ' := [(25, ⟨ints ((([] : List Int) ++ (sl o9_1 0 r1_0)) ++ (([v6_1]) ++ (sl o9_1 r1_0 (o9_1.length : Int)))), []⟩), (800, ⟨[.lst (bys o1_0), ci o1_1, cu o1_2], []⟩)]) (env' := [(0, .cell 800 0), (1, .c (ci n)), (5, .ref 25), (6, .c (ci v6_1)), (33, .cell 800 0), (34, .c (ci n))]) rfl rfl ⟨rfl, rfl, rfl, rfl, rfl, rfl, trivial⟩) ?_
    refine aw_region ?_
    refine run_s (ss_move rfl) rfl ?_
    obtain ⟨q11, h⟩ := h
    refine run_s (ss_add rfl rfl q11) rfl ?_
    refine run_s (ss_assign rfl) rfl ?_
    refine run_nil ?_
    exact ⟨v6_1 + 1, (([] : List Int) ++ (sl o9_1 0 r1_0)) ++ (([v6_1]) ++ (sl o9_1 r1_0 (o9_1.length : Int))), o1_0, o1_1, o1_2, ghe_step (gh_ren (a := 25) (b := 9) rfl rfl) (ghe_to (n := 33) rfl rfl ⟨rfl, rfl, rfl, rfl, rfl, rfl, trivial⟩), h.1, h.2⟩
  · replace h := h.2 (of_decide_eq_false q2)
    refine aw_exit ?_
    refine aw_seq ?_
    refine aw_gh (gh_to (n := 33) (σ' := [(9, ⟨ints o9_1, []⟩), (800, ⟨[.lst (bys f800_0_1), ci f800_1_1, cu f800_2_1], []⟩)]) (env' := [(5, .ref 9), (33, .cell 800 0), (34, .c (ci n))]) rfl rfl ⟨rfl, rfl, rfl, trivial⟩) ?_
    refine aw_region ?_
    refine run_s (ss_move rfl) rfl ?_
    refine run_s (ss_assign rfl) rfl ?_
    refine run_nil ?_
    refine aw_ret ?_
    exact retAM_mk (retv1 rfl (rv_tmp rfl)) rfl rfl rfl ⟨_, _, _, _, h, rfl, rfl⟩

theorem c_spec_l03DrawPerm (s1 : List Int) (s2 : Int) (s3 : Int) (n : Int) (hp : okS s1 s2 s3 ∧ n ≤ 1000) : AM Try.prog 94 [.obox [.lst (bys s1), ci s2, cu s3], ci n] (fun R_ O_ => ∃ y0 w0 w1 w2, (((y0.length : Int) = max n 0 ∧ ∀ z_ ∈ y0, 0 ≤ z_ ∧ z_ < n) ∧ w0 = s1 ∧ okS s1 w1 w2) ∧ R_ = .own (ints y0) ∧ O_ = [.obox [.lst (bys w0), ci w1, cu w2], ci n]) :=
  w_spec_l03DrawPerm s1 s2 s3 n (fun y0 w0 w1 w2 => ((y0.length : Int) = max n 0 ∧ ∀ z_ ∈ y0, 0 ≤ z_ ∧ z_ < n) ∧ w0 = s1 ∧ okS s1 w1 w2) (p_spec_l03DrawPerm s1 s2 s3 n hp)

end Go.Proofs.Ytbodlnpmplcaoaa

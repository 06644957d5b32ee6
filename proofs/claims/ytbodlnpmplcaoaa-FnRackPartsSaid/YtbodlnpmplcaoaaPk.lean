/- Plain definitions, the eleventh part: sorted lists, masks, least subracks; no condition. -/
import Derived.Test.YtbodlnpmplcaoaaPj
import Derived.Lib.SlicesCompact
namespace Go.Proofs.Ytbodlnpmplcaoaa
def srtI (l : List Int) : List Int := l.mergeSort fun x y => decide (x ≤ y)
def cpI (l : List Int) : List Int := Lib.compact l
inductive Sc (t : List (List Int)) (l : List Int) : Int → Prop
  | base {a : Int} : a ∈ l → Sc t l a
  | step {a b : Int} : Sc t l a → Sc t l b → Sc t l (el (el t a) b)
noncomputable def sbI (t : List (List Int)) (l : List Int) : List Int := (ran (t.length : Int) id).filter fun x => dec (Sc t l x)
noncomputable def SbfE (r : List (List Int)) (l : List Int) : Int :=
  if isRk r then (if l.all (fun z_ => decide (0 ≤ z_) && decide (z_ ≤ (r.length : Int) - 1)) then (if (l.length : Int) = 0 then 5 else 0) else 2) else 1
noncomputable def SbfT (r : List (List Int)) (l : List Int) : List Int := if SbfE r l = 0 then sbI r l else []

theorem lt_uniq : ∀ {a b : List Int}, a.Pairwise (· < ·) → b.Pairwise (· < ·) → (∀ x, x ∈ a ↔ x ∈ b) → a = b
  | [], [], _, _, _ => rfl
  | [], y :: b, _, _, h => by have := (h y).2 (by simp); cases this
  | x :: a, [], _, _, h => by have := (h x).1 (by simp); cases this
  | x :: a, y :: b, ha, hb, h => by
    obtain ⟨ha1, ha2⟩ := List.pairwise_cons.1 ha
    obtain ⟨hb1, hb2⟩ := List.pairwise_cons.1 hb
    have e : x = y := by
      have h1 := (h x).1 (by simp)
      have h2 := (h y).2 (by simp)
      rcases List.mem_cons.1 h1 with h1 | h1
      · exact h1
      · rcases List.mem_cons.1 h2 with h2 | h2
        · exact h2.symm
        · have := hb1 x h1; have := ha1 y h2; omega
    subst e
    rw [lt_uniq ha2 hb2 fun z => ⟨fun hz => by
      have := ha1 z hz
      rcases List.mem_cons.1 ((h z).1 (List.mem_cons_of_mem _ hz)) with e | e
      · omega
      · exact e, fun hz => by
      have := hb1 z hz
      rcases List.mem_cons.1 ((h z).2 (List.mem_cons_of_mem _ hz)) with e | e
      · omega
      · exact e⟩]
theorem ran_lt (n : Int) : (ran n id).Pairwise (· < ·) := by
  unfold ran
  rw [List.pairwise_map]
  exact (List.pairwise_lt_range).imp fun h => by simp; omega
theorem srt_mem {l : List Int} {a : Int} : a ∈ srtI l ↔ a ∈ l := (List.mergeSort_perm l _).mem_iff
theorem srt_len (l : List Int) : (srtI l).length = l.length := (List.mergeSort_perm l _).length_eq
theorem srt_le (l : List Int) : (srtI l).Pairwise (· ≤ ·) := by
  have := List.pairwise_mergeSort (le := fun x y : Int => decide (x ≤ y)) (fun a b c h1 h2 => by simp only [decide_eq_true_eq] at *; omega) (fun a b => by simp only [Bool.or_eq_true, decide_eq_true_eq]; omega) l
  exact this.imp fun h => by simpa using h
theorem srt_lt {l : List Int} (h : l.Nodup) : (srtI l).Pairwise (· < ·) := by
  have hn : (srtI l).Nodup := (List.mergeSort_perm l _).nodup_iff.2 h
  have hl := srt_le l
  exact (hl.and hn).imp fun ⟨h1, h2⟩ => by omega
theorem cp_spec {l : List Int} (hl : l.Pairwise (· ≤ ·)) : ∀ m, m ≤ l.length → (Lib.compactUpTo l.toArray m).Pairwise (· < ·) ∧ (∀ a, a ∈ Lib.compactUpTo l.toArray m ↔ ∃ j, j < m ∧ l.toArray[j]! = a)
  | 0, _ => by simp [Lib.compactUpTo]
  | m + 1, hm => by
    obtain ⟨h1, h2⟩ := cp_spec hl m (by omega)
    have hle : ∀ j, j < m → l.toArray[j]! ≤ l.toArray[m]! := fun j hj => by
      have := List.pairwise_iff_getElem.1 hl j m (by omega) (by omega) hj
      simpa [getElem!_pos l.toArray j (by simp; omega), getElem!_pos l.toArray m (by simp; omega)] using this
    have hle2 : ∀ j, j < m → l.toArray[j]! ≤ l.toArray[m - 1]! := fun j hj => by
      by_cases he : j = m - 1
      · rw [he]; omega
      · have := List.pairwise_iff_getElem.1 hl j (m - 1) (by omega) (by omega) (by omega)
        simpa [getElem!_pos l.toArray j (by simp; omega), getElem!_pos l.toArray (m - 1) (by simp; omega)] using this
    rw [Lib.compactUpTo_succ]
    by_cases hk : Lib.keeps l.toArray m = true
    · rw [if_pos hk]
      have hk' : m = 0 ∨ l.toArray[m]! ≠ l.toArray[m - 1]! := by simpa only [Lib.keeps, decide_eq_true_eq] using hk
      refine ⟨List.pairwise_append.2 ⟨h1, by simp, fun a ha b hb => ?_⟩, fun a => ?_⟩
      · obtain ⟨j, hj, rfl⟩ := (h2 a).1 ha
        obtain rfl := List.mem_singleton.1 hb
        rcases hk' with h0 | h0
        · omega
        · have := hle2 j hj
          have := hle (m - 1) (by omega)
          omega
      · rw [List.mem_append, h2, List.mem_singleton]
        constructor
        · rintro (⟨j, hj, e⟩ | rfl)
          · exact ⟨j, by omega, e⟩
          · exact ⟨m, by omega, rfl⟩
        · rintro ⟨j, hj, e⟩
          by_cases hjm : j = m
          · subst hjm; exact .inr e.symm
          · exact .inl ⟨j, by omega, e⟩
    · rw [if_neg hk, List.append_nil]
      have hk' : ¬ (m = 0 ∨ l.toArray[m]! ≠ l.toArray[m - 1]!) := by simpa only [Lib.keeps, decide_eq_true_eq] using hk
      have hm0 : m ≠ 0 := fun h => hk' (.inl h)
      have he : l.toArray[m]! = l.toArray[m - 1]! := Classical.byContradiction fun h => hk' (.inr h)
      refine ⟨h1, fun a => ?_⟩
      rw [h2]
      constructor
      · rintro ⟨j, hj, e⟩; exact ⟨j, by omega, e⟩
      · rintro ⟨j, hj, e⟩
        by_cases hjm : j = m
        · subst hjm; exact ⟨j - 1, by omega, by rw [← he]; exact e⟩
        · exact ⟨j, by omega, e⟩
theorem cp_lt {l : List Int} (hl : l.Pairwise (· ≤ ·)) : (cpI l).Pairwise (· < ·) := (cp_spec hl l.length (Nat.le_refl _)).1
theorem cp_mem {l : List Int} (hl : l.Pairwise (· ≤ ·)) {a : Int} : a ∈ cpI l ↔ a ∈ l := by
  have := (cp_spec hl l.length (Nat.le_refl _)).2 a
  unfold cpI Lib.compact
  rw [this]
  constructor
  · rintro ⟨j, hj, e⟩
    rw [getElem!_pos l.toArray j (by simpa using hj)] at e
    rw [← e]; simp
  · intro h
    obtain ⟨j, hj, e⟩ := List.getElem_of_mem h
    exact ⟨j, hj, by rw [getElem!_pos l.toArray j (by simpa using hj)]; simpa using e⟩
/-! Masks. -/
theorem bit_nat {m x : Int} (hm : 0 ≤ m) : bitP m x ↔ m.toNat.testBit x.toNat = true := by
  unfold bitP
  obtain ⟨k, rfl⟩ := Int.eq_ofNat_of_zero_le hm
  rw [Nat.testBit_eq_decide_div_mod_eq, decide_eq_true_eq, Int.toNat_natCast]
  have e : ((k : Int) / (2 : Int) ^ x.toNat) % 2 = (((k / 2 ^ x.toNat) % 2 : Nat) : Int) := by simp
  rw [e]; omega
theorem pow_cast (k : Nat) : (1 * (2 : Int) ^ k).toNat = 2 ^ k := by
  have : (1 * (2 : Int) ^ k) = ((2 ^ k : Nat) : Int) := by simp
  rw [this, Int.toNat_natCast]
theorem bit_or {m k x : Int} (hm : 0 ≤ m) (hk : 0 ≤ k) (hx : 0 ≤ x) : bitP (((m.toNat ||| (1 * (2 : Int) ^ k.toNat).toNat : Nat) : Int)) x ↔ bitP m x ∨ x = k := by
  rw [bit_nat (by omega), bit_nat hm, Int.toNat_natCast, pow_cast, Nat.testBit_or, Nat.testBit_two_pow, Bool.or_eq_true, decide_eq_true_eq]
  constructor
  · rintro (h | h)
    · exact .inl h
    · exact .inr (by omega)
  · rintro (h | h)
    · exact .inl h
    · exact .inr (by omega)
theorem or_lt2 {m k n : Int} (hm : 0 ≤ m ∧ m < (2 : Int) ^ n.toNat) (hk : 0 ≤ k ∧ k < n) : 0 ≤ (((m.toNat ||| (1 * (2 : Int) ^ k.toNat).toNat : Nat) : Int)) ∧ (((m.toNat ||| (1 * (2 : Int) ^ k.toNat).toNat : Nat) : Int)) < (2 : Int) ^ n.toNat := by
  refine ⟨by omega, ?_⟩
  rw [pow_cast]
  have e : (2 : Int) ^ n.toNat = ((2 ^ n.toNat : Nat) : Int) := by simp
  rw [e] at hm ⊢
  have h1 : m.toNat < 2 ^ n.toNat := by omega
  have h2 : 2 ^ k.toNat < 2 ^ n.toNat := Nat.pow_lt_pow_right (by omega) (by omega)
  exact_mod_cast Nat.or_lt_two_pow h1 h2

end Go.Proofs.Ytbodlnpmplcaoaa

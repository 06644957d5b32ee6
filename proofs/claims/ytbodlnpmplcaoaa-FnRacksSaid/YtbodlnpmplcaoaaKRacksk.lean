/- Contracts of functions that the law FnRacks reaches: conditions, plain proofs, walks; no condition. -/
import Derived.Test.YtbodlnpmplcaoaaKRacksj
import Derived.Test.YtbodlnpmplcaoaaPk
namespace Go.Proofs.Ytbodlnpmplcaoaa

theorem pow_bd {n : Int} (h : 0 ≤ n ∧ n ≤ 12) : 1 ≤ (2 : Int) ^ n.toNat ∧ (2 : Int) ^ n.toNat ≤ 4096 := by
  have e : (2 : Int) ^ n.toNat = ((2 ^ n.toNat : Nat) : Int) := by simp
  have h1 : 2 ^ n.toNat ≤ 2 ^ 12 := Nat.pow_le_pow_right (by omega) (by omega)
  have h2 : 0 < 2 ^ n.toNat := Nat.pow_pos (by omega)
  rw [e]; omega
theorem sc_in {t : List (List Int)} (ht : isTab t = true) {l : List Int} (hl : ∀ z ∈ l, 0 ≤ z ∧ z < (t.length : Int)) {a : Int} (h : Sc t l a) : 0 ≤ a ∧ a < (t.length : Int) := by
  induction h with
  | base h => exact hl _ h
  | step _ _ h1 h2 => exact rk_el ht h1 h2
/-- A mask on the way. -/
structure MI (r : List (List Int)) (l : List Int) (m m' : Int) : Prop where
  rng : 0 ≤ m' ∧ m' < (2 : Int) ^ (r.length : Int).toNat
  le : m ≤ m'
  sup : ∀ z, 0 ≤ z → bitP m z → bitP m' z
  sc : ∀ z, 0 ≤ z → bitP m' z → Sc r l z
theorem MI.step {r : List (List Int)} {l : List Int} {m m' k : Int} (h : MI r l m m') (hk : 0 ≤ k ∧ k < (r.length : Int)) (hs : Sc r l k) : MI r l m (((m'.toNat ||| (1 * (2 : Int) ^ k.toNat).toNat : Nat) : Int)) :=
  ⟨or_lt2 h.rng hk, by
    have h1 : m'.toNat ≤ (m'.toNat ||| (1 * (2 : Int) ^ k.toNat).toNat) := Nat.left_le_or
    have := h.le; have := h.rng.1; omega, fun z z0 hz => (bit_or h.rng.1 hk.1 z0).2 (.inl (h.sup z z0 hz)), fun z z0 hz => by
    rcases (bit_or h.rng.1 hk.1 z0).1 hz with h1 | h1
    · exact h.sc z z0 h1
    · rw [h1]; exact hs⟩
theorem elem_all {n : Int} {l : List Int} (h : (l.all fun z_ => decide (0 ≤ z_) && decide (z_ ≤ n - 1)) = true) : ∀ z ∈ l, 0 ≤ z ∧ z < n := fun z hz => by
  have := List.all_eq_true.1 h z hz
  simp only [Bool.and_eq_true, decide_eq_true_eq] at this
  omega
/-- The elements so far. -/
structure SI (r : List (List Int)) (l s : List Int) : Prop where
  nd : s.Nodup
  sc : ∀ z ∈ s, Sc r l z
  sup : ∀ z ∈ l, z ∈ s
theorem SI.app {r : List (List Int)} {l s : List Int} {z : Int} (h : SI r l s) (hz : z ∉ s) (hs : Sc r l z) : SI r l (s ++ [z]) :=
  ⟨List.nodup_append.2 ⟨h.nd, by simp, fun a ha b hb e => by obtain rfl := List.mem_singleton.1 hb; exact hz (e ▸ ha)⟩, fun a ha => by
    rcases List.mem_append.1 ha with ha | ha
    · exact h.sc a ha
    · rw [List.mem_singleton.1 ha]; exact hs, fun a ha => List.mem_append_left _ (h.sup a ha)⟩
end Go.Proofs.Ytbodlnpmplcaoaa

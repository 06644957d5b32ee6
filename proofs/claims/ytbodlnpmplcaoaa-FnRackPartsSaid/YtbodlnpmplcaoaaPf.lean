/- Plain definitions, the sixth part: subracks, sums of powers of two; no condition. -/
import Derived.Test.YtbodlnpmplcaoaaPe
namespace Go.Proofs.Ytbodlnpmplcaoaa
def SubP (r : List (List Int)) (list : List Int) : Prop := ∀ x ∈ list, ∀ y ∈ list, el (el r x) y ∈ list
def bitP (m x : Int) : Prop := (m / (2 : Int) ^ x.toNat) % 2 = 1
def CloM (t : List (List Int)) (m : Int) : Prop := ∀ x y, 0 ≤ x → x < (t.length : Int) → 0 ≤ y → y < (t.length : Int) → bitP m x → bitP m y → bitP m (el (el t x) y)
noncomputable def memI (n m : Int) : List Int := (ran n id).filter fun x => dec (bitP m x)
noncomputable def subsI (t : List (List Int)) (s : Int) : List Int := (ran s id).filter fun m => decide (1 ≤ m) && dec (CloM t m)
noncomputable def SubT (r : List (List Int)) : List Int := if isRk r then subsI r ((2 : Int) ^ r.length) else []
theorem ran_snoc {α : Type} {n : Int} {f : Int → α} (h : 0 ≤ n) : ran (n + 1) f = ran n f ++ [f n] := by
  unfold ran
  rw [show (n + 1).toNat = n.toNat + 1 by omega, List.range_succ, List.map_append]
  simp only [List.map_cons, List.map_nil]
  rw [show ((n.toNat : Nat) : Int) = n by omega]
theorem memI_succ {x m : Int} (h : 0 ≤ x) : memI (x + 1) m = memI x m ++ (if dec (bitP m x) then [x] else []) := by
  unfold memI
  rw [ran_snoc h, List.filter_append]
  congr 1
  simp only [id]
  cases hb : dec (bitP m x) <;> simp [hb]
theorem subsI_succ {t : List (List Int)} {s : Int} (h : 1 ≤ s) : subsI t (s + 1) = subsI t s ++ (if dec (CloM t s) then [s] else []) := by
  unfold subsI
  rw [ran_snoc (by omega), List.filter_append]
  congr 1
  simp only [id]
  cases hb : dec (CloM t s) <;> simp [hb, h]
theorem mem_memI {n m x : Int} : x ∈ memI n m ↔ (0 ≤ x ∧ x < n) ∧ bitP m x := by
  unfold memI
  rw [List.mem_filter, mem_ran, dec_iff]
theorem memI_len (n m : Int) : (memI n m).length ≤ n.toNat := by
  have := List.length_filter_le (fun x => dec (bitP m x)) (ran n id)
  simpa [memI] using this
theorem subsI_len (t : List (List Int)) (s : Int) : (subsI t s).length ≤ s.toNat := by
  have := List.length_filter_le (fun m => decide (1 ≤ m) && dec (CloM t m)) (ran s id)
  simpa [subsI] using this
theorem clo_sub {r : List (List Int)} (hr : isTab r = true) (m : Int) : SubP r (memI (r.length : Int) m) ↔ CloM r m := by
  constructor
  · intro h x y x0 x1 y0 y1 hx hy
    exact (mem_memI.1 (h x (mem_memI.2 ⟨⟨x0, x1⟩, hx⟩) y (mem_memI.2 ⟨⟨y0, y1⟩, hy⟩))).2
  · intro h x hx y hy
    obtain ⟨rx, bx⟩ := mem_memI.1 hx
    obtain ⟨ry, by'⟩ := mem_memI.1 hy
    exact mem_memI.2 ⟨rk_el hr rx ry, h x y rx.1 rx.2 ry.1 ry.2 bx by'⟩
theorem pow2_le {k : Nat} (hk : k ≤ 12) : 1 ≤ (2 : Int) ^ k ∧ (2 : Int) ^ k ≤ 4096 := by
  have h : ∀ k, k < 13 → 1 ≤ (2 : Int) ^ k ∧ (2 : Int) ^ k ≤ 4096 := by decide
  exact h k (by omega)
theorem dv2 {m x : Int} (h : 0 ≤ m ∧ m ≤ 9223372036854775807) : 0 ≤ m / (2 : Int) ^ x.toNat ∧ m / (2 : Int) ^ x.toNat ≤ 9223372036854775807 := by
  have a : 0 ≤ m / (2 : Int) ^ x.toNat := Int.ediv_nonneg h.1 (Int.pow_nonneg (by omega))
  have b : m / (2 : Int) ^ x.toNat ≤ m := Int.ediv_le_self _ h.1
  exact ⟨a, by omega⟩

end Go.Proofs.Ytbodlnpmplcaoaa

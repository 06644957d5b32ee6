/- Plain definitions, the thirteenth part: lists of permutations, drawn tables; no condition. -/
import Derived.Test.YtfpkpefokcphpaaPl
namespace Go.Proofs.Ytfpkpefokcphpaa
def growF : Nat → Int → List Int → List (List Int)
  | 0, _, s => [s]
  | k + 1, n, s => (unitI n).flatMap fun x => if s.contains x then [] else growF k n (s ++ [x])
def growL (n : Int) (s : List Int) : List (List Int) := growF (n - (s.length : Int)).toNat n s
theorem growL_end {n : Int} {s : List Int} (h : (s.length : Int) = n) : growL n s = [s] := by
  unfold growL; rw [show (n - (s.length : Int)).toNat = 0 by omega]; rfl
def growT (n : Int) (s : List Int) (x : Int) : List (List Int) := (unitI x).flatMap fun x => if s.contains x then [] else growL n (s ++ [x])
theorem growL_step {n : Int} {s : List Int} (h : (s.length : Int) < n) : growL n s = growT n s n := by
  unfold growL growT
  obtain ⟨k, hk⟩ : ∃ k, (n - (s.length : Int)).toNat = k + 1 := ⟨(n - (s.length : Int)).toNat - 1, by omega⟩
  rw [hk]
  show ((unitI n).flatMap fun x => if s.contains x then [] else growF k n (s ++ [x])) = _
  congr 1; funext x
  unfold growL
  rw [show (n - ((s ++ [x]).length : Int)).toNat = k by simp; omega]
theorem growT_succ {n : Int} {s : List Int} {x : Int} (h : 0 ≤ x) : growT n s (x + 1) = growT n s x ++ (if s.contains x then [] else growL n (s ++ [x])) := by
  unfold growT unitI
  rw [ran_succ _ h]
  simp
theorem growT_zero {n : Int} {s : List Int} : growT n s 0 = [] := rfl
theorem growT_len {n : Int} {s : List Int} {x y : Int} (h : 0 ≤ x ∧ x ≤ y) : (growT n s x).length ≤ (growT n s y).length := by
  obtain ⟨k, rfl⟩ : ∃ k : Nat, y = x + k := ⟨(y - x).toNat, by omega⟩
  induction k with
  | zero => simp
  | succ k ih =>
    have := ih ⟨h.1, by omega⟩
    rw [show x + ((k + 1 : Nat) : Int) = (x + (k : Int)) + 1 by omega, growT_succ (by omega)]
    simp; omega
theorem growF_len (n : Int) : ∀ (k : Nat) (s : List Int), (growF k n s).length ≤ n.toNat ^ k
  | 0, s => by simp [growF]
  | k + 1, s => by
    have key : ∀ l : List Int, (l.flatMap fun x => if s.contains x then [] else growF k n (s ++ [x])).length ≤ l.length * n.toNat ^ k := by
      intro l
      induction l with
      | nil => simp
      | cons a l ih =>
        rw [List.flatMap_cons, List.length_append, List.length_cons, Nat.succ_mul]
        have h1 : (if s.contains a then ([] : List (List Int)) else growF k n (s ++ [a])).length ≤ n.toNat ^ k := by
          split
          · simp
          · exact growF_len n k _
        omega
    have := key (unitI n)
    rw [length_unitI] at this
    show ((unitI n).flatMap fun x => if s.contains x then [] else growF k n (s ++ [x])).length ≤ _
    rw [Nat.pow_succ, Nat.mul_comm]; exact this
theorem growL_len8 {n : Int} (h : 0 ≤ n ∧ n ≤ 8) : ((growL n []).length : Int) ≤ 16777216 := by
  have h1 := growF_len n (n - (([] : List Int).length : Int)).toNat []
  have h2 : n.toNat ^ (n - (([] : List Int).length : Int)).toNat ≤ 8 ^ 8 :=
    Nat.le_trans (Nat.pow_le_pow_left (show n.toNat ≤ 8 by omega) _) (Nat.pow_le_pow_right (by omega) (by simp; omega))
  have h3 : (8 : Nat) ^ 8 = 16777216 := by decide
  unfold growL
  omega
theorem mem_app {α : Type} {l : List α} {x : α} {P : α → Prop} (h : ∀ z ∈ l, P z) (hx : P x) : ∀ z ∈ l ++ [x], P z := fun z hz => by
  rcases List.mem_append.1 hz with h1 | h1
  · exact h z h1
  · rw [List.mem_singleton.1 h1]; exact hx
end Go.Proofs.Ytfpkpefokcphpaa

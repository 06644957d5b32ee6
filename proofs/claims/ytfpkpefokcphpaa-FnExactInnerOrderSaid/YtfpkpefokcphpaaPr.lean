/- Plain definitions, the eighteenth part: lists in order, least tables; no condition. -/
import Derived.Test.YtfpkpefokcphpaaPq
namespace Go.Proofs.Ytfpkpefokcphpaa
def cmp1 (x y : Int) : Int := if x < y then -1 else if y < x then 1 else 0
def cmpG {α : Type} (f : α → α → Int) : List α → List α → Int
  | [], [] => 0
  | [], _ :: _ => -1
  | _ :: _, [] => 1
  | x :: xs, y :: ys => if f x y = 0 then cmpG f xs ys else f x y
theorem cmp1_zero {x y : Int} : cmp1 x y = 0 ↔ x = y := by unfold cmp1; split <;> (try split) <;> omega
theorem cmpG_run {α : Type} [Inhabited α] {f : α → α → Int} : ∀ (i : Nat) (a b : List α), (∀ j : Int, 0 ≤ j → j < (i : Int) → f (el a j) (el b j) = 0) → i ≤ a.length → i ≤ b.length → cmpG f a b = cmpG f (a.drop i) (b.drop i)
  | 0, _, _, _, _, _ => rfl
  | i + 1, [], _, _, h, _ => by simp at h
  | i + 1, _ :: _, [], _, _, h => by simp at h
  | i + 1, x :: xs, y :: ys, h, h1, h2 => by
    have h0 : f x y = 0 := h 0 (by omega) (by omega)
    show cmpG f (x :: xs) (y :: ys) = cmpG f (xs.drop i) (ys.drop i)
    rw [← cmpG_run i xs ys (fun j j0 j1 => by
      have := h (j + 1) (by omega) (by omega)
      simpa [el, show (j + 1).toNat = j.toNat + 1 by omega] using this) (by simpa using h1) (by simpa using h2)]
    simp [cmpG, h0]
theorem drop_el {α : Type} [Inhabited α] {l : List α} {i : Int} (h : 0 ≤ i ∧ i < (l.length : Int)) : l.drop i.toNat = el l i :: l.drop (i.toNat + 1) := by
  have hi : i.toNat < l.length := by omega
  rw [List.drop_eq_getElem_cons hi]
  simp [el, List.getD_eq_getElem?_getD, List.getElem?_eq_getElem hi]
section
variable {α : Type} [Inhabited α] {f : α → α → Int} {a b : List α} {i : Int}
theorem cmpG_ne (hu : Upto i fun j => f (el a j) (el b j) = 0) (ha : 0 ≤ i ∧ i < (a.length : Int)) (hb : i < (b.length : Int)) (h : ¬ f (el a i) (el b i) = 0) : cmpG f a b = f (el a i) (el b i) := by
  rw [cmpG_run i.toNat a b (fun j j0 j1 => hu j j0 (by omega)) (by omega) (by omega), drop_el ha, drop_el ⟨ha.1, hb⟩]
  simp [cmpG, h]
theorem cmpG_long (hu : Upto i fun j => f (el a j) (el b j) = 0) (ha : 0 ≤ i ∧ i < (a.length : Int)) (hb : i = (b.length : Int)) : cmpG f a b = 1 := by
  rw [cmpG_run i.toNat a b (fun j j0 j1 => hu j j0 (by omega)) (by omega) (by omega), drop_el ha, show b.drop i.toNat = [] from List.drop_eq_nil_of_le (by omega)]
  rfl
theorem cmpG_short (hu : Upto i fun j => f (el a j) (el b j) = 0) (ha : 0 ≤ i ∧ i = (a.length : Int)) (hb : i < (b.length : Int)) : cmpG f a b = -1 := by
  rw [cmpG_run i.toNat a b (fun j j0 j1 => hu j j0 (by omega)) (by omega) (by omega), drop_el (l := b) ⟨ha.1, hb⟩, show a.drop i.toNat = [] from List.drop_eq_nil_of_le (by omega)]
  rfl
theorem cmpG_same (hu : Upto i fun j => f (el a j) (el b j) = 0) (ha : 0 ≤ i ∧ i = (a.length : Int)) (hb : i = (b.length : Int)) : cmpG f a b = 0 := by
  rw [cmpG_run i.toNat a b (fun j j0 j1 => hu j j0 (by omega)) (by omega) (by omega), show a.drop i.toNat = [] from List.drop_eq_nil_of_le (by omega), show b.drop i.toNat = [] from List.drop_eq_nil_of_le (by omega)]
  rfl
end
theorem growF_mem {n : Int} : ∀ (k : Nat) (s e : List Int), s.Nodup → (∀ x ∈ s, 0 ≤ x ∧ x < n) → e ∈ growF k n s → e.length = s.length + k ∧ e.Nodup ∧ ∀ x ∈ e, 0 ≤ x ∧ x < n
  | 0, s, e, h1, h2, h => by
    simp only [growF, List.mem_singleton] at h
    subst h; exact ⟨rfl, h1, h2⟩
  | k + 1, s, e, h1, h2, h => by
    simp only [growF, List.mem_flatMap] at h
    obtain ⟨x, hx, h⟩ := h
    have hx2 := mem_ran.1 (show x ∈ ran n id from hx)
    split at h
    · cases h
    · rename_i hc
      have hc' : ¬ x ∈ s := fun g => hc (List.contains_iff_mem.2 g)
      have := growF_mem k (s ++ [x]) e (List.nodup_append.2 ⟨h1, by simp, fun a ha b hb => by simp at hb; subst hb; intro g; subst g; exact hc' ha⟩) (mem_app h2 hx2) h
      refine ⟨by have := this.1; simp at this; omega, this.2⟩
theorem growL_perm {n : Int} (hn : 0 ≤ n) {e : List Int} (h : e ∈ growL n []) : (e.length : Int) = n ∧ isPerm e = true := by
  obtain ⟨h1, h2, h3⟩ := growF_mem _ [] e List.nodup_nil (by simp) h
  have hl : (e.length : Int) = n := by simp at h1; omega
  exact ⟨hl, isPerm_iff.2 ⟨h2, fun x hx => by have := h3 x hx; omega⟩⟩
end Go.Proofs.Ytfpkpefokcphpaa

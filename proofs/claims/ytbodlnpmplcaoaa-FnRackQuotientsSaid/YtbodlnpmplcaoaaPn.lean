/- Plain definitions, the fourteenth part: products and unions of racks are racks, duals, quandles of racks; no condition. -/
import Derived.Test.YtbodlnpmplcaoaaPm
namespace Go.Proofs.Ytbodlnpmplcaoaa
def mostI (l : List Int) : Int := l.foldl (fun n x => if n ≤ x then x + 1 else n) 0
theorem most_fold : ∀ (l : List Int) (n : Int), n ≤ l.foldl (fun n x => if n ≤ x then x + 1 else n) n ∧ (∀ x ∈ l, x < l.foldl (fun n x => if n ≤ x then x + 1 else n) n) ∧ (l.foldl (fun n x => if n ≤ x then x + 1 else n) n = n ∨ l.foldl (fun n x => if n ≤ x then x + 1 else n) n - 1 ∈ l)
  | [], n => ⟨Int.le_refl _, by simp, .inl rfl⟩
  | y :: l, n => by
    obtain ⟨h1, h2, h3⟩ := most_fold l (if n ≤ y then y + 1 else n)
    have hc : n ≤ (if n ≤ y then y + 1 else n) ∧ y < (if n ≤ y then y + 1 else n) ∧ ((if n ≤ y then y + 1 else n) = n ∨ (if n ≤ y then y + 1 else n) = y + 1) := by split <;> omega
    simp only [List.foldl_cons]
    generalize (if n ≤ y then y + 1 else n) = m at *
    refine ⟨by omega, fun x hx => ?_, ?_⟩
    · rcases List.mem_cons.1 hx with rfl | hx
      · omega
      · exact h2 x hx
    · rcases h3 with h3 | h3
      · rw [h3]
        rcases hc.2.2 with h4 | h4
        · exact .inl h4
        · exact .inr (by rw [h4]; simp)
      · exact .inr (List.mem_cons_of_mem _ h3)
theorem most_nonneg (l : List Int) : 0 ≤ mostI l := (most_fold l 0).1
theorem most_lt {l : List Int} {x : Int} (h : x ∈ l) : x < mostI l := (most_fold l 0).2.1 x h
theorem most_mem (l : List Int) : mostI l = 0 ∨ mostI l - 1 ∈ l := (most_fold l 0).2.2
theorem most_le {l : List Int} {n : Int} (h0 : 0 ≤ n) (h : ∀ x ∈ l, x < n) : mostI l ≤ n := by
  rcases most_mem l with h1 | h1
  · omega
  · have := h _ h1; omega
theorem most_step {l : List Int} {i : Int} (hi : 0 ≤ i ∧ i < (l.length : Int)) : mostI (l.take (i + 1).toNat) = if mostI (l.take i.toNat) ≤ el l i then el l i + 1 else mostI (l.take i.toNat) := by
  have e := el_get hi
  rw [List.getElem?_eq_getElem (by omega), Option.some.injEq] at e
  rw [show (i + 1).toNat = i.toNat + 1 by omega, List.take_succ_eq_append_getElem (by omega), e]
  unfold mostI
  rw [List.foldl_append]
  rfl
theorem isRk_mk {t : List (List Int)} (ht : isTab t = true) (hp : t.all isPerm = true) (h : ∀ x y z : Int, (0 ≤ x ∧ x < (t.length : Int)) → (0 ≤ y ∧ y < (t.length : Int)) → (0 ≤ z ∧ z < (t.length : Int)) → el (el t x) (el (el t y) z) = el (el t (el (el t x) y)) (el (el t x) z)) : isRk t = true := by
  have : rackF t = [] := first3_none fun a a0 a1 b b0 b1 c c0 c1 => by simp [rackB, h a b c ⟨a0, a1⟩ ⟨b0, b1⟩ ⟨c0, c1⟩]
  simp [isRk, ht, hp, this]
section
variable {a b : List (List Int)}
end
end Go.Proofs.Ytbodlnpmplcaoaa

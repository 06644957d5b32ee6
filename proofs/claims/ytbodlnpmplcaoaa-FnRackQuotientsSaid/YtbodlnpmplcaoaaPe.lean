/- Plain definitions, the fifth part: orbits, labels in the order in which they come first; no condition. -/
import Derived.Test.YtbodlnpmplcaoaaPd
namespace Go.Proofs.Ytbodlnpmplcaoaa
def CanP (l : List Int) : Prop := ∀ i, 0 ≤ i → i < (l.length : Int) → 0 ≤ el l i ∧ ∀ c, 0 ≤ c → c < el l i → ∃ j, (0 ≤ j ∧ j < i) ∧ el l j = c
theorem canP_uniq {l m : List Int} (hl : l.length = m.length) (h1 : CanP l) (h2 : CanP m) (hk : ∀ x y, (0 ≤ x ∧ x < (l.length : Int)) → (0 ≤ y ∧ y < (l.length : Int)) → (el l x = el l y ↔ el m x = el m y)) : l = m := by
  have key : ∀ (k : Nat) (i : Int), 0 ≤ i → i < (l.length : Int) → i < k → el l i = el m i := by
    intro k
    induction k with
    | zero => intro i h0 _ h; omega
    | succ k ih =>
      intro i h0 h3 h4
      rcases Int.lt_trichotomy (el l i) (el m i) with h | h | h
      · obtain ⟨j, hj, e⟩ := (h2 i h0 (by omega)).2 (el l i) (h1 i h0 h3).1 h
        have e1 := ih j hj.1 (by omega) (by omega)
        have e2 := (hk j i ⟨hj.1, by omega⟩ ⟨h0, h3⟩).1 (by omega)
        omega
      · exact h
      · obtain ⟨j, hj, e⟩ := (h1 i h0 h3).2 (el m i) (h2 i h0 (by omega)).1 h
        have e1 := ih j hj.1 (by omega) (by omega)
        have e2 := (hk j i ⟨hj.1, by omega⟩ ⟨h0, h3⟩).2 (by omega)
        omega
  exact ext_el hl fun i a b => key (i.toNat + 1) i a b (by omega)
theorem foldl_max : ∀ (l : List Int) (a : Int), a ≤ l.foldl (fun a b => if a < b then b else a) a ∧ (∀ x ∈ l, x ≤ l.foldl (fun a b => if a < b then b else a) a) ∧ (l.foldl (fun a b => if a < b then b else a) a = a ∨ l.foldl (fun a b => if a < b then b else a) a ∈ l)
  | [], a => ⟨Int.le_refl _, ⟨fun x hx => (List.not_mem_nil hx).elim, .inl rfl⟩⟩
  | y :: l, a => by
    obtain ⟨h1, h2, h3⟩ := foldl_max l (if a < y then y else a)
    have ka : a ≤ (if a < y then y else a) := by split <;> omega
    have ky : y ≤ (if a < y then y else a) := by split <;> omega
    have km : (if a < y then y else a) = a ∨ (if a < y then y else a) = y := by split <;> simp
    simp only [List.foldl_cons]
    generalize (if a < y then y else a) = b at *
    refine ⟨by omega, fun x hx => ?_, ?_⟩
    · rcases List.mem_cons.1 hx with hx | hx
      · rw [hx]; omega
      · exact h2 x hx
    · rcases h3 with h3 | h3
      · rw [h3]
        rcases km with km | km
        · exact .inl km
        · exact .inr (by rw [km]; exact List.mem_cons_self)
      · exact .inr (List.mem_cons_of_mem _ h3)
theorem maxI_ge {l : List Int} {i : Int} (hi : 0 ≤ i ∧ i < (l.length : Int)) : el l i ≤ maxI l := (foldl_max l (el l 0)).2.1 _ (el_mem hi)
theorem maxI_mem {l : List Int} (h : 1 ≤ (l.length : Int)) : maxI l ∈ l := by
  rcases (foldl_max l (el l 0)).2.2 with h1 | h1
  · unfold maxI; rw [h1]; exact el_mem ⟨by omega, by omega⟩
  · exact h1

end Go.Proofs.Ytbodlnpmplcaoaa

/- Plain definitions, the fourth part: truth of propositions, the one thing with a property, partitions, congruences, products; no condition. -/
import Derived.Test.YtbodlnpmplcaoaaPc
namespace Go.Proofs.Ytbodlnpmplcaoaa
noncomputable def dec (P : Prop) : Bool := @decide P (Classical.propDecidable P)
theorem dec_t {P : Prop} (h : P) : dec P = true := @decide_eq_true P (Classical.propDecidable P) h
theorem dec_f {P : Prop} (h : ¬ P) : dec P = false := @decide_eq_false P (Classical.propDecidable P) h
theorem dec_iff {P : Prop} : dec P = true ↔ P := @decide_eq_true_iff P (Classical.propDecidable P)
theorem dec_congr {P Q : Prop} (h : P ↔ Q) : dec P = dec Q := by rw [propext h]
noncomputable def the {α : Type} [Inhabited α] (P : α → Prop) : α := Classical.epsilon P
theorem the_eq {α : Type} [Inhabited α] {P : α → Prop} {a : α} (h : P a) (hu : ∀ x y, P x → P y → x = y) : a = the P := hu _ _ h (Classical.epsilon_spec ⟨a, h⟩)
theorem the_spec {α : Type} [Inhabited α] {P : α → Prop} {a : α} (h : P a) : P (the P) := Classical.epsilon_spec ⟨a, h⟩
def dr {α : Type} (l : List α) (i : Int) : List α := l.drop i.toNat
theorem dr0 {α : Type} (l : List α) : dr l 0 = l := rfl
theorem dr_cons {α : Type} [Inhabited α] {l : List α} {i : Int} (h : 0 ≤ i ∧ i < (l.length : Int)) : dr l i = el l i :: dr l (i + 1) := by
  have e := el_get h
  rw [List.getElem?_eq_getElem (by omega), Option.some.injEq] at e
  unfold dr
  rw [List.drop_eq_getElem_cons (by omega), e, show (i + 1).toNat = i.toNat + 1 by omega]
theorem dr_nil {α : Type} {l : List α} {i : Int} (h : (l.length : Int) ≤ i) : dr l i = [] := List.drop_of_length_le (by omega)
def canB : Int → List Int → Bool
  | _, [] => true
  | k, c :: l => decide (0 ≤ c) && decide (c ≤ k) && canB (if c = k then k + 1 else k) l
def canN : Int → List Int → Int
  | k, [] => k
  | k, c :: l => canN (if c = k then k + 1 else k) l
def partB (n : Int) (l : List Int) : Bool := canB 0 l && decide ((l.length : Int) = n)
def firI (l : List Int) : List Int := ran (canN 0 l) (idxI l)
theorem canB_facts : ∀ (l : List Int) (k : Int), 0 ≤ k → canB k l = true → k ≤ canN k l ∧ canN k l ≤ k + (l.length : Int) ∧ (∀ c ∈ l, 0 ≤ c ∧ c < canN k l) ∧ ∀ q, k ≤ q → q < canN k l → q ∈ l
  | [], k, _, _ => ⟨Int.le_refl _, by simp [canN], ⟨fun c hc => (List.not_mem_nil hc).elim, fun q h1 h2 => by simp [canN] at h2; omega⟩⟩
  | c :: l, k, hk, h => by
    simp only [canB, Bool.and_eq_true, decide_eq_true_eq] at h
    obtain ⟨⟨h1, h2⟩, h3⟩ := h
    simp only [canN]
    by_cases e : c = k
    · rw [if_pos e] at h3 ⊢
      obtain ⟨a, b, d, f⟩ := canB_facts l (k + 1) (by omega) h3
      refine ⟨by omega, by simp; omega, fun x hx => ?_, fun q h4 h5 => ?_⟩
      · rcases List.mem_cons.1 hx with rfl | hx
        · omega
        · exact d x hx
      · by_cases e2 : q = c
        · subst e2; exact List.mem_cons_self
        · exact List.mem_cons_of_mem _ (f q (by omega) h5)
    · rw [if_neg e] at h3 ⊢
      obtain ⟨a, b, d, f⟩ := canB_facts l k hk h3
      refine ⟨by omega, by simp; omega, fun x hx => ?_, fun q h4 h5 => List.mem_cons_of_mem _ (f q h4 h5)⟩
      rcases List.mem_cons.1 hx with rfl | hx
      · omega
      · exact d x hx
theorem partB_can {n : Int} {l : List Int} (h : partB n l = true) : canB 0 l = true := by simp only [partB, Bool.and_eq_true] at h; exact h.1
theorem partB_len {n : Int} {l : List Int} (h : partB n l = true) : (l.length : Int) = n := by simp only [partB, Bool.and_eq_true, decide_eq_true_eq] at h; exact h.2
theorem can_el {l : List Int} (h : canB 0 l = true) {i : Int} (hi : 0 ≤ i ∧ i < (l.length : Int)) : 0 ≤ el l i ∧ el l i < canN 0 l := (canB_facts l 0 (by omega) h).2.2.1 _ (el_mem hi)
theorem can_fir {l : List Int} (h : canB 0 l = true) {k : Int} (hk : 0 ≤ k ∧ k < canN 0 l) : (0 ≤ idxI l k ∧ idxI l k < (l.length : Int)) ∧ el l (idxI l k) = k := idxI_spec ((canB_facts l 0 (by omega) h).2.2.2 k hk.1 hk.2)
theorem canN_le {l : List Int} (h : canB 0 l = true) : 0 ≤ canN 0 l ∧ canN 0 l ≤ (l.length : Int) := by
  have := canB_facts l 0 (by omega) h; omega
def CongP (t : List (List Int)) (c : List Int) : Prop := ∀ x y u v : Int, (0 ≤ x ∧ x < (t.length : Int)) → (0 ≤ y ∧ y < (t.length : Int)) → (0 ≤ u ∧ u < (t.length : Int)) → (0 ≤ v ∧ v < (t.length : Int)) → el c x = el c u → el c y = el c v → el c (el (el t x) y) = el c (el (el t u) v)
noncomputable def IcoV (r : List (List Int)) (c : List Int) : Bool := isRk r && partB (r.length : Int) c && dec (CongP r c)
def IcoE (r : List (List Int)) (c : List Int) : Int := if isRk r && partB (r.length : Int) c then 0 else 1
end Go.Proofs.Ytbodlnpmplcaoaa

/- Plain definitions, the twenty-first part: lists of lists in order, classes of conjugates; no condition. -/
import Derived.Test.YtfpkpefokcphpaaPs
namespace Go.Proofs.Ytfpkpefokcphpaa
theorem upto_cons {α : Type} [Inhabited α] {x y : α} {a b : List α} {j : Int} (hj : 0 ≤ j) : Upto (j + 1) (fun m => el (x :: a) m = el (y :: b) m) ↔ x = y ∧ Upto j (fun m => el a m = el b m) := by
  constructor
  · intro h
    refine ⟨by have := h 0 (by omega) (by omega); simpa [el_cons_0] using this, fun m m0 m1 => ?_⟩
    have : el (x :: a) (m + 1) = el (y :: b) (m + 1) := h (m + 1) (by omega) (by omega)
    rw [el_cons_s (by omega), el_cons_s (by omega), Int.add_sub_cancel] at this
    exact this
  · rintro ⟨rfl, h⟩ m m0 m1
    show el (x :: a) m = el (x :: b) m
    by_cases e : m = 0
    · subst e; rw [el_cons_0, el_cons_0]
    · rw [el_cons_s (by omega), el_cons_s (by omega)]; exact h _ (by omega) (by omega)
theorem lex_cons {x y : Int} {a b : List Int} : lexL (x :: a) (y :: b) ↔ x < y ∨ (x = y ∧ lexL a b) := by
  constructor
  · rintro ⟨j, hj, hu, hlt⟩
    by_cases e : j = 0
    · subst e; left; simpa [el_cons_0] using hlt
    · right
      obtain ⟨i, rfl⟩ : ∃ i, j = i + 1 := ⟨j - 1, by omega⟩
      obtain ⟨h1, h2⟩ := (upto_cons (by omega)).1 hu
      rw [el_cons_s (by omega), el_cons_s (by omega), Int.add_sub_cancel] at hlt
      exact ⟨h1, i, ⟨by omega, by have := hj.2; simp at this; omega⟩, h2, hlt⟩
  · rintro (h | ⟨rfl, j, hj, hu, hlt⟩)
    · exact ⟨0, ⟨by omega, by simp⟩, fun m _ _ => by omega, by rw [el_cons_0, el_cons_0]; exact h⟩
    · exact ⟨j + 1, ⟨by omega, by simp; omega⟩, (upto_cons hj.1).2 ⟨rfl, hu⟩, by rw [el_cons_s (by omega), el_cons_s (by omega), Int.add_sub_cancel]; exact hlt⟩
theorem lexL_total : ∀ {a b : List Int}, a.length = b.length → a ≠ b → lexL a b ∨ lexL b a
  | [], [], _, h => absurd rfl h
  | [], _ :: _, h, _ => by cases h
  | _ :: _, [], h, _ => by cases h
  | x :: a, y :: b, hl, h => by
    rcases Int.lt_trichotomy x y with g | rfl | g
    · exact .inl (lex_cons.2 (.inl g))
    · rcases lexL_total (a := a) (b := b) (by simpa using hl) (fun e => h (by rw [e])) with k | k
      · exact .inl (lex_cons.2 (.inr ⟨rfl, k⟩))
      · exact .inr (lex_cons.2 (.inr ⟨rfl, k⟩))
    · exact .inr (lex_cons.2 (.inl g))
theorem cmp_lex : ∀ {a b : List Int}, a.length = b.length → (cmpG cmp1 a b < 0 ↔ lexL a b)
  | [], [], _ => by simp only [cmpG]; exact ⟨fun h => by omega, fun h => absurd h lexL_irrefl⟩
  | [], _ :: _, h => by cases h
  | _ :: _, [], h => by cases h
  | x :: a, y :: b, hl => by
    rw [lex_cons, ← cmp_lex (a := a) (b := b) (by simpa using hl)]
    simp only [cmpG, cmp1_zero]
    split
    · rename_i h; subst h; exact ⟨fun h => .inr ⟨rfl, h⟩, fun h => h.elim (fun h => by omega) fun h => h.2⟩
    · rename_i h
      unfold cmp1
      split
      · exact ⟨fun _ => .inl (by assumption), fun _ => by omega⟩
      · split
        · exact ⟨fun _ => by omega, fun k => k.elim (fun _ => by omega) fun k => absurd k.1 h⟩
        · exact ⟨fun _ => by omega, fun k => k.elim (fun _ => by omega) fun k => absurd k.1 h⟩
def LexS (n : Nat) (l : List (List Int)) : Prop := l.Pairwise lexL ∧ ∀ x ∈ l, x.length = n
theorem LexS.nodup {n : Nat} {l : List (List Int)} (h : LexS n l) : l.Nodup := h.1.imp fun h e => by subst e; exact lexL_irrefl h
theorem el_takeG {α : Type} [Inhabited α] {l : List α} {j m : Int} (hj : 0 ≤ j ∧ j < m) : el (l.take m.toNat) j = el l j := by
  unfold el
  simp only [List.getD_eq_getElem?_getD, List.getElem?_take]
  rw [if_pos (by omega)]
theorem lexS_put {n : Nat} {s : List (List Int)} {x : List Int} {k : Int} (hs : LexS n s) (hx : x.length = n) (hk : 0 ≤ k ∧ k ≤ (s.length : Int)) (h1 : 0 < k → lexL (el s (k - 1)) x) (h2 : k < (s.length : Int) → lexL x (el s k)) :
    LexS n (sl s 0 k ++ x :: sl s k (s.length : Int)) ∧ ∀ z, z ∈ sl s 0 k ++ x :: sl s k (s.length : Int) ↔ z = x ∨ z ∈ s := by
  have e : s = s.take k.toNat ++ s.drop k.toNat := (List.take_append_drop _ _).symm
  have e1 : sl s 0 k = s.take k.toNat := by simp [sl]
  have e2 : sl s k (s.length : Int) = s.drop k.toNat := by simp [sl]
  rw [e1, e2]
  have hp := hs.1
  rw [e] at hp
  obtain ⟨p1, p2, p3⟩ := List.pairwise_append.1 hp
  have hlen : ∀ z ∈ s, z.length = x.length := fun z hz => by rw [hs.2 z hz, hx]
  have lo : ∀ z ∈ s.take k.toNat, lexL z x := fun z hz => by
    obtain ⟨i, hi, rfl⟩ := mem_el hz
    have hi2 : i < k := by have := hi.2; simp at this; omega
    rw [el_takeG ⟨hi.1, hi2⟩]
    have hkp := h1 (by omega)
    by_cases hik : i = k - 1
    · subst hik; exact hkp
    · have := sort_at (a := i.toNat) (b := (k - 1).toNat) (x := el s i) (y := el s (k - 1)) hs.1 (by unfold el; rw [List.getD_eq_getElem?_getD, List.getElem?_eq_getElem (by omega)]; rfl) (by unfold el; rw [List.getD_eq_getElem?_getD, List.getElem?_eq_getElem (by omega)]; rfl) (by omega)
      exact lexL_trans (by rw [hs.2 _ (el_mem ⟨hi.1, by omega⟩), hs.2 _ (el_mem ⟨by omega, by omega⟩)]) this hkp
  have hi : ∀ z ∈ s.drop k.toNat, lexL x z := fun z hz => by
    by_cases hkl : k < (s.length : Int)
    · rw [drop_el ⟨hk.1, hkl⟩] at hz p2
      rcases List.mem_cons.1 hz with rfl | hz
      · exact h2 hkl
      · exact lexL_trans (by rw [hx, hs.2 _ (el_mem ⟨hk.1, hkl⟩)]) (h2 hkl) ((List.pairwise_cons.1 p2).1 z hz)
    · rw [List.drop_of_length_le (by omega)] at hz; cases hz
  have hmem : ∀ z, z ∈ s.take k.toNat ++ x :: s.drop k.toNat ↔ z = x ∨ z ∈ s := fun z => by
    rw [show (z ∈ s) = (z ∈ s.take k.toNat ++ s.drop k.toNat) by rw [← e]]
    simp only [List.mem_append, List.mem_cons]
    constructor
    · rintro (h | h | h) <;> simp [h]
    · rintro (h | h | h) <;> simp [h]
  refine ⟨⟨List.pairwise_append.2 ⟨p1, List.pairwise_cons.2 ⟨hi, p2⟩, fun a ha b hb => ?_⟩, fun z hz => ?_⟩, hmem⟩
  · rcases List.mem_cons.1 hb with rfl | hb
    · exact lo a ha
    · exact p3 a ha b hb
  · rcases (hmem z).1 hz with rfl | hz
    · exact hx
    · exact hs.2 z hz
def thnI (p q : List Int) : List Int := p.map (el q)
theorem thn_len (p q : List Int) : (thnI p q).length = p.length := by simp [thnI]
theorem thn_el {p q : List Int} {i : Int} (hi : 0 ≤ i ∧ i < (p.length : Int)) : el (thnI p q) i = el q (el p i) := el_map hi
theorem perm_mk {p : List Int} (h : ∀ i, 0 ≤ i → i < (p.length : Int) → 0 ≤ el p i ∧ el p i < (p.length : Int)) (hi : ∀ i j, 0 ≤ i → i < j → j < (p.length : Int) → el p i ≠ el p j) : isPerm p = true :=
  isPerm_iff.2 ⟨nodup_el.2 hi, fun x hx => by obtain ⟨i, hi, rfl⟩ := mem_el hx; exact h i hi.1 hi.2⟩
theorem thn_perm {p q : List Int} (hp : isPerm p = true) (hq : isPerm q = true) (hl : p.length = q.length) : isPerm (thnI p q) = true := by
  have e := thn_len p q
  refine perm_mk (fun i i0 i1 => ?_) fun i j i0 ij j1 => ?_
  · rw [e] at i1 ⊢
    rw [thn_el ⟨i0, i1⟩]
    have h1 := isPerm_el hp ⟨i0, i1⟩
    have h2 := isPerm_el hq (i := el p i) ⟨h1.1, by omega⟩
    omega
  · rw [e] at j1
    rw [thn_el ⟨i0, by omega⟩, thn_el ⟨by omega, j1⟩]
    intro h
    have a1 := isPerm_el hp (i := i) ⟨i0, by omega⟩
    have a2 := isPerm_el hp (i := j) ⟨by omega, j1⟩
    have := isPerm_inj hq ⟨a1.1, by omega⟩ ⟨a2.1, by omega⟩ h
    have := isPerm_inj hp ⟨i0, by omega⟩ ⟨by omega, j1⟩ this
    omega
section
variable {x y : List Int}
end
theorem grow_iff {n : Int} (hn : 0 ≤ n) {q : List Int} : q ∈ growL n [] ↔ (q.length : Int) = n ∧ isPerm q = true := ⟨growL_perm hn, fun h => growL_all hn h.2 h.1⟩
section
variable {p : List Int} (hp : permB p = true)
include hp
end
end Go.Proofs.Ytfpkpefokcphpaa

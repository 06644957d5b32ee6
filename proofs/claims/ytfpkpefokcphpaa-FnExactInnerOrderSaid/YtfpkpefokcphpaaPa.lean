/- Plain definitions that the contracts name, and plain laws on lists by index; no condition. -/
import Derived.Test.YtfpkpefokcphpaaWc
namespace Go.Proofs.Ytfpkpefokcphpaa
theorem el_se_same {α : Type} [Inhabited α] {l : List α} {i : Int} {v : α} (h : 0 ≤ i ∧ i < (l.length : Int)) : el (se l i v) i = v := by
  have : i.toNat < l.length := by omega
  simp [el, se, List.getD_eq_getElem?_getD, this]
theorem el_se_ne {α : Type} [Inhabited α] {l : List α} {i j : Int} {v : α} (hi : 0 ≤ i) (hj : 0 ≤ j) (h : i ≠ j) : el (se l i v) j = el l j := by
  have : i.toNat ≠ j.toNat := by omega
  simp [el, se, List.getD_eq_getElem?_getD, this]
theorem ext_el {α : Type} [Inhabited α] {a b : List α} (hl : a.length = b.length) (h : ∀ i : Int, 0 ≤ i → i < (a.length : Int) → el a i = el b i) : a = b := by
  apply List.ext_getElem hl
  intro n h1 h2
  have := h n (by omega) (by omega)
  simpa [el, List.getD_eq_getElem?_getD, List.getElem?_eq_getElem h1, List.getElem?_eq_getElem h2] using this
theorem el_mem {α : Type} [Inhabited α] {l : List α} {i : Int} (h : 0 ≤ i ∧ i < (l.length : Int)) : el l i ∈ l := by
  have := el_get h
  exact List.mem_of_getElem? this
theorem mem_el {α : Type} [Inhabited α] {l : List α} {x : α} (h : x ∈ l) : ∃ i : Int, (0 ≤ i ∧ i < (l.length : Int)) ∧ el l i = x := by
  obtain ⟨n, hn, rfl⟩ := List.getElem_of_mem h
  exact ⟨n, ⟨by omega, by omega⟩, by simp [el, List.getD_eq_getElem?_getD, List.getElem?_eq_getElem hn]⟩
theorem el_map {α β : Type} [Inhabited α] [Inhabited β] {f : α → β} {l : List α} {i : Int} (h : 0 ≤ i ∧ i < (l.length : Int)) : el (l.map f) i = f (el l i) := by
  have := el_get h
  simp only [el, List.getD_eq_getElem?_getD, List.getElem?_map] at this ⊢
  rw [this]; rfl
theorem el_append_l {α : Type} [Inhabited α] {a b : List α} {i : Int} (h : 0 ≤ i ∧ i < (a.length : Int)) : el (a ++ b) i = el a i := by
  have : i.toNat < a.length := by omega
  simp [el, List.getD_eq_getElem?_getD, List.getElem?_append_left this]
theorem el_append_r {α : Type} [Inhabited α] {a b : List α} {i : Int} (h : (a.length : Int) ≤ i) : el (a ++ b) i = el b (i - (a.length : Int)) := by
  have h1 : a.length ≤ i.toNat := by omega
  have h2 : (i - (a.length : Int)).toNat = i.toNat - a.length := by omega
  unfold el
  rw [h2, List.getD_eq_getElem?_getD, List.getD_eq_getElem?_getD, List.getElem?_append_right h1]
theorem el_append_last {α : Type} [Inhabited α] {a : List α} {x : α} {i : Int} (h : i = (a.length : Int)) : el (a ++ [x]) i = x := by
  subst h; rw [el_append_r (by omega)]; simp [el]
theorem el_ran {α : Type} [Inhabited α] {n i : Int} {f : Int → α} (h : 0 ≤ i ∧ i < n) : el (ran n f) i = f i := by
  have h2 := get_ran f (i := i.toNat) (by omega : ((i.toNat : Nat) : Int) < n)
  have h3 : ((i.toNat : Nat) : Int) = i := by omega
  rw [h3] at h2
  simp [el, List.getD_eq_getElem?_getD, h2]
theorem el_rep {α : Type} [Inhabited α] {n : Nat} {v : α} {i : Int} (h : 0 ≤ i ∧ i < (n : Int)) : el (List.replicate n v) i = v := by
  have : i.toNat < n := by omega
  simp [el, List.getD_eq_getElem?_getD, this]
theorem el_sl {α : Type} [Inhabited α] {l : List α} {a b i : Int} (ha : 0 ≤ a) (hi : 0 ≤ i) (h : a + i < b) : el (sl l a b) i = el l (a + i) := by
  have h1 : a.toNat + i.toNat < b.toNat := by omega
  have h2 : (a + i).toNat = a.toNat + i.toNat := by omega
  simp [el, sl, List.getD_eq_getElem?_getD, List.getElem?_drop, h1, h2]
theorem length_sl {α : Type} {l : List α} {a b : Int} (h : 0 ≤ a ∧ a ≤ b ∧ b ≤ (l.length : Int)) : ((sl l a b).length : Int) = b - a := by
  simp [sl]; omega
theorem eq_ran {α : Type} [Inhabited α] {n : Int} {f : Int → α} {l : List α} (hl : l.length = n.toNat) (h : ∀ i, 0 ≤ i → i < n → el l i = f i) : l = ran n f :=
  ext_el (by simp [hl]) fun i h0 h1 => by rw [el_ran ⟨h0, by omega⟩]; exact h i h0 (by omega)
theorem all_el {α : Type} [Inhabited α] {l : List α} {p : α → Bool} : l.all p = true ↔ ∀ i : Int, 0 ≤ i → i < (l.length : Int) → p (el l i) = true := by
  rw [List.all_eq_true]
  exact ⟨fun h i h0 h1 => h _ (el_mem ⟨h0, h1⟩), fun h x hx => by obtain ⟨i, hi, rfl⟩ := mem_el hx; exact h i hi.1 hi.2⟩
theorem any_el {α : Type} [Inhabited α] {l : List α} {p : α → Bool} : l.any p = true ↔ ∃ i : Int, (0 ≤ i ∧ i < (l.length : Int)) ∧ p (el l i) = true := by
  rw [List.any_eq_true]
  exact ⟨fun ⟨x, hx, h⟩ => by obtain ⟨i, hi, rfl⟩ := mem_el hx; exact ⟨i, hi, h⟩, fun ⟨i, hi, h⟩ => ⟨_, el_mem hi, h⟩⟩
theorem nodup_el {α : Type} [Inhabited α] {l : List α} : l.Nodup ↔ ∀ i j : Int, 0 ≤ i → i < j → j < (l.length : Int) → el l i ≠ el l j := by
  unfold List.Nodup
  rw [List.pairwise_iff_getElem]
  constructor
  · intro h i j h0 h1 h2
    have e1 := el_get (l := l) (i := i) ⟨h0, by omega⟩
    have e2 := el_get (l := l) (i := j) ⟨by omega, h2⟩
    rw [List.getElem?_eq_getElem (by omega), Option.some.injEq] at e1 e2
    rw [← e1, ← e2]
    exact h _ _ _ _ (by omega)
  · intro h i j hi hj hij
    have := h i j (by omega) (by omega) (by omega)
    have e1 := el_get (l := l) (i := i) ⟨by omega, by omega⟩
    have e2 := el_get (l := l) (i := j) ⟨by omega, by omega⟩
    simp only [Int.toNat_natCast] at e1 e2
    rw [List.getElem?_eq_getElem (by omega), Option.some.injEq] at e1 e2
    rw [e1, e2]; exact this
@[reducible] def small {α : Type} (l : List α) : Prop := (l.length : Int) ≤ 1000000000
@[reducible] def small2 {α : Type} (t : List (List α)) : Prop := small t ∧ ∀ r ∈ t, small r
@[reducible] def InS (n : Int) : Prop := -1 ≤ n ∧ n ≤ 1000000000
@[reducible] def huge2 (t : List (List Int)) : Prop := t.length ≤ 9223372036854775807 ∧ ∀ r ∈ t, r.length ≤ 9223372036854775807
@[reducible] def okK (k : Int) : Prop := 0 ≤ k ∧ k ≤ 1000000000000
@[reducible] def okKT (k : Int) (t : List (List Int)) : Prop := 0 ≤ k ∧ k + tot t ≤ 1000000000000
def isPerm (p : List Int) : Bool := decide (p.Nodup ∧ ∀ x ∈ p, 0 ≤ x ∧ x < (p.length : Int))
def szI (a : List Int) (left : Int) : Int := if left < (a.length : Int) then -1 else left - (a.length : Int)
def szII (a : List (List Int)) (left : Int) : Int := if left < (a.length : Int) + tot a then -1 else left - ((a.length : Int) + tot a)
def mkI : Int → List Int → List Int
  | _, [] => []
  | k, _ :: l => k :: mkI (k + 1) l
def mkII : Int → List (List Int) → List (List Int)
  | _, [] => []
  | k, r :: t => mkI k r :: mkII (k + (r.length : Int)) t
def idxF {α : Type} (t : List α) (f : α → Bool) : Int := if t.any f then (t.findIdx f : Int) else -1
def badRow (n : Int) (row : List Int) : Bool := !(decide ((row.length : Int) = n) && row.all (fun x => decide (0 ≤ x) && decide (x ≤ n - 1)))
def isTab (t : List (List Int)) : Bool := decide (1 ≤ (t.length : Int)) && decide ((t.length : Int) ≤ 12) && !t.any (badRow (t.length : Int))
def diag (t : List (List Int)) : List Int := ran (t.length : Int) fun x => el (el t x) x
def first3 (n : Int) (f : Int → Int → Int → Bool) : List Int :=
  match (ran n id).findSome? (fun x => (ran n id).findSome? fun y => (ran n id).findSome? fun z => if f x y z then some [x, y, z] else none) with
  | some l => l
  | none => []

theorem isTab_len {t : List (List Int)} (h : isTab t = true) : 1 ≤ (t.length : Int) ∧ (t.length : Int) ≤ 12 := by
  simp only [isTab, Bool.and_eq_true, decide_eq_true_eq] at h; exact h.1
theorem isTab_row {t : List (List Int)} (h : isTab t = true) {i : Int} (hi : 0 ≤ i ∧ i < (t.length : Int)) : ((el t i).length : Int) = (t.length : Int) ∧ ∀ j, 0 ≤ j → j < (t.length : Int) → 0 ≤ el (el t i) j ∧ el (el t i) j < (t.length : Int) := by
  simp only [isTab, Bool.and_eq_true, Bool.not_eq_true'] at h
  have h1 := h.2
  rw [List.any_eq_false] at h1
  have h2 := h1 _ (el_mem hi)
  simp only [badRow, Bool.not_eq_true', Bool.and_eq_true, decide_eq_true_eq, Bool.and_eq_false_iff, not_or, Bool.not_eq_false, all_el] at h2
  refine ⟨h2.1, fun j h0 h3 => ?_⟩
  have := h2.2 j h0 (by omega)
  omega
theorem isTab_mk {t : List (List Int)} (h1 : 1 ≤ (t.length : Int) ∧ (t.length : Int) ≤ 12) (h : ∀ i, 0 ≤ i → i < (t.length : Int) → ((el t i).length : Int) = (t.length : Int) ∧ ∀ j, 0 ≤ j → j < (t.length : Int) → 0 ≤ el (el t i) j ∧ el (el t i) j < (t.length : Int)) : isTab t = true := by
  simp only [isTab, Bool.and_eq_true, decide_eq_true_eq, Bool.not_eq_true', List.any_eq_false]
  refine ⟨h1, fun r hr => ?_⟩
  obtain ⟨i, hi, rfl⟩ := mem_el hr
  obtain ⟨h2, h3⟩ := h i hi.1 hi.2
  simp only [badRow, Bool.not_eq_true', Bool.and_eq_true, decide_eq_true_eq, Bool.and_eq_false_iff, not_or, Bool.not_eq_false, all_el]
  exact ⟨h2, fun j h0 h4 => by have := h3 j h0 (by omega); omega⟩
@[reducible] def Upto (i : Int) (P : Int → Prop) : Prop := ∀ j, 0 ≤ j → j < i → P j
theorem upto0 {P : Int → Prop} : Upto 0 P := fun j _ _ => by omega
theorem upto1 {P : Int → Prop} {i : Int} (h : Upto i P) (hi : P i) : Upto (i + 1) P := fun j h0 h1 => by
  by_cases e : j = i
  · subst e; exact hi
  · exact h j h0 (by omega)
theorem all_t {α : Type} [Inhabited α] {l : List α} {p : α → Bool} (h : Upto (l.length : Int) fun j => p (el l j) = true) : l.all p = true := all_el.2 h
theorem all_f {α : Type} [Inhabited α] {l : List α} {p : α → Bool} {i : Int} (hi : 0 ≤ i ∧ i < (l.length : Int)) (h : p (el l i) = false) : l.all p = false := by
  rw [Bool.eq_false_iff]
  intro h2
  rw [all_el.1 h2 i hi.1 hi.2] at h; cases h
theorem any_f {α : Type} [Inhabited α] {l : List α} {p : α → Bool} (h : Upto (l.length : Int) fun j => p (el l j) = false) : l.any p = false := by
  rw [Bool.eq_false_iff]
  intro h2
  obtain ⟨i, hi, h3⟩ := any_el.1 h2
  rw [h i hi.1 hi.2] at h3; cases h3
theorem any_t {α : Type} [Inhabited α] {l : List α} {p : α → Bool} {i : Int} (hi : 0 ≤ i ∧ i < (l.length : Int)) (h : p (el l i) = true) : l.any p = true := any_el.2 ⟨i, hi, h⟩
theorem idxF_found {α : Type} [Inhabited α] {t : List α} {f : α → Bool} {i : Int} (hi : 0 ≤ i ∧ i < (t.length : Int)) (h : Upto i fun j => f (el t j) = false) (h1 : f (el t i) = true) : idxF t f = i := by
  unfold idxF
  rw [if_pos (any_t hi h1)]
  have : t.findIdx f = i.toNat := by
    rw [List.findIdx_eq (by omega)]
    refine ⟨?_, fun k hk => ?_⟩
    · have := el_get hi
      rw [List.getElem?_eq_getElem (by omega), Option.some.injEq] at this
      rw [this]; exact h1
    · have e := el_get (l := t) (i := (k : Int)) ⟨by omega, by omega⟩
      simp only [Int.toNat_natCast] at e
      rw [List.getElem?_eq_getElem (by omega), Option.some.injEq] at e
      rw [e]; exact h k (by omega) (by omega)
  omega
theorem idxF_none {α : Type} [Inhabited α] {t : List α} {f : α → Bool} (h : Upto (t.length : Int) fun j => f (el t j) = false) : idxF t f = -1 := by
  unfold idxF
  rw [any_f h]; rfl
theorem idxF_nonneg {α : Type} {t : List α} {f : α → Bool} : decide (0 ≤ idxF t f) = t.any f := by
  unfold idxF
  cases h : t.any f <;> simp
theorem fill1 {α : Type} [Inhabited α] {o : List α} {f : Int → α} {i : Int} {v : α} (hi : 0 ≤ i ∧ i < (o.length : Int)) (h : Upto i fun j => el o j = f j) (hv : v = f i) : Upto (i + 1) fun j => el (se o i v) j = f j :=
  upto1 (fun j h0 h1 => by show el (se o i v) j = f j; rw [el_se_ne hi.1 h0 (by omega)]; exact h j h0 h1) (by show el (se o i v) i = f i; rw [el_se_same hi]; exact hv)
theorem app1 {α : Type} [Inhabited α] {o : List α} {f : Int → α} {i : Int} {v : α} (hi : i = (o.length : Int)) (h : Upto i fun j => el o j = f j) (hv : v = f i) : Upto (i + 1) fun j => el (o ++ [v]) j = f j :=
  upto1 (fun j h0 h1 => by show el (o ++ [v]) j = f j; rw [el_append_l ⟨h0, by omega⟩]; exact h j h0 h1) (by show el (o ++ [v]) i = f i; rw [el_append_last hi]; exact hv)
@[simp] theorem length_mkI : ∀ (k : Int) (l : List Int), (mkI k l).length = l.length
  | _, [] => rfl
  | k, _ :: l => by simp [mkI, length_mkI (k + 1) l]
@[simp] theorem length_mkII : ∀ (k : Int) (t : List (List Int)), (mkII k t).length = t.length
  | _, [] => rfl
  | k, r :: t => by simp [mkII, length_mkII _ t]
theorem el_cons_0 {α : Type} [Inhabited α] {x : α} {l : List α} : el (x :: l) 0 = x := by simp [el]
theorem el_cons_s {α : Type} [Inhabited α] {x : α} {l : List α} {i : Int} (h : 0 < i) : el (x :: l) i = el l (i - 1) := by
  have : i.toNat = (i - 1).toNat + 1 := by omega
  unfold el; rw [this]; rfl
def tt (t : List (List Int)) (i : Int) : Int := tot (t.take i.toNat)
theorem tt0 (t : List (List Int)) : tt t 0 = 0 := by simp [tt, tot]
theorem tt1 {t : List (List Int)} {i : Int} (h : 0 ≤ i ∧ i < (t.length : Int)) : tt t (i + 1) = tt t i + ((el t i).length : Int) := tot_take_succ t i h.1 h.2
theorem tt_full {t : List (List Int)} {i : Int} (h : i = (t.length : Int)) : tt t i = tot t := by subst h; simp [tt]
theorem tt_le (t : List (List Int)) (i : Int) : 0 ≤ tt t i ∧ tt t i ≤ tot t := ⟨tot_nonneg _, tot_take_le _ _⟩
theorem tt_row {t : List (List Int)} {i : Int} (h : 0 ≤ i ∧ i < (t.length : Int)) : tt t i + ((el t i).length : Int) ≤ tot t := by rw [← tt1 h]; exact (tt_le _ _).2
end Go.Proofs.Ytfpkpefokcphpaa

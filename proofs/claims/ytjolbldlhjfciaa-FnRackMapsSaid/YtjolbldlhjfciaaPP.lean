/- Plain definitions and what holds of them, all in one; no condition. -/
import Derived.Test.YtjolbldlhjfciaaWe
import Derived.Lib.SlicesCompact
import Derived.Lib.Join
import Derived.Test.YtjolbldlhjfciaaWc
namespace Go.Proofs.Ytjolbldlhjfciaa
section
theorem el_se_same {α : Type} [Inhabited α] {l : List α} {i : Int} {v : α} (h : 0 ≤ i ∧ i < (l.length : Int)) : el (se l i v) i = v := by
  have : i.toNat < l.length := by omega
  simp [el, se, List.getD_eq_getElem?_getD, this]
theorem el_se_ne {α : Type} [Inhabited α] {l : List α} {i j : Int} {v : α} (hi : 0 ≤ i) (hj : 0 ≤ j) (h : i ≠ j) : el (se l i v) j = el l j := by
  have : i.toNat ≠ j.toNat := by omega
  simp [el, se, List.getD_eq_getElem?_getD, this]
theorem ext_el {α : Type} [Inhabited α] {a b : List α} (hl : a.length = b.length) (h : ∀ i : Int, 0 ≤ i → i < (a.length : Int) → el a i = el b i) : a = b := by
  apply List.ext_getElem hl
  intro n h1 h2
  have := h n (by omega) (by omega)
  simpa [el, List.getD_eq_getElem?_getD, List.getElem?_eq_getElem h1, List.getElem?_eq_getElem h2] using this
theorem el_mem {α : Type} [Inhabited α] {l : List α} {i : Int} (h : 0 ≤ i ∧ i < (l.length : Int)) : el l i ∈ l := by
  have := el_get h
  exact List.mem_of_getElem? this
theorem mem_el {α : Type} [Inhabited α] {l : List α} {x : α} (h : x ∈ l) : ∃ i : Int, (0 ≤ i ∧ i < (l.length : Int)) ∧ el l i = x := by
  obtain ⟨n, hn, rfl⟩ := List.getElem_of_mem h
  exact ⟨n, ⟨by omega, by omega⟩, by simp [el, List.getD_eq_getElem?_getD, List.getElem?_eq_getElem hn]⟩
theorem el_map {α β : Type} [Inhabited α] [Inhabited β] {f : α → β} {l : List α} {i : Int} (h : 0 ≤ i ∧ i < (l.length : Int)) : el (l.map f) i = f (el l i) := by
  have := el_get h
  simp only [el, List.getD_eq_getElem?_getD, List.getElem?_map] at this ⊢
  rw [this]; rfl
theorem el_append_l {α : Type} [Inhabited α] {a b : List α} {i : Int} (h : 0 ≤ i ∧ i < (a.length : Int)) : el (a ++ b) i = el a i := by
  have : i.toNat < a.length := by omega
  simp [el, List.getD_eq_getElem?_getD, List.getElem?_append_left this]
theorem el_append_r {α : Type} [Inhabited α] {a b : List α} {i : Int} (h : (a.length : Int) ≤ i) : el (a ++ b) i = el b (i - (a.length : Int)) := by
  have h1 : a.length ≤ i.toNat := by omega
  have h2 : (i - (a.length : Int)).toNat = i.toNat - a.length := by omega
  unfold el
  rw [h2, List.getD_eq_getElem?_getD, List.getD_eq_getElem?_getD, List.getElem?_append_right h1]
theorem el_append_last {α : Type} [Inhabited α] {a : List α} {x : α} {i : Int} (h : i = (a.length : Int)) : el (a ++ [x]) i = x := by
  subst h; rw [el_append_r (by omega)]; simp [el]
theorem el_ran {α : Type} [Inhabited α] {n i : Int} {f : Int → α} (h : 0 ≤ i ∧ i < n) : el (ran n f) i = f i := by
  have h2 := get_ran f (i := i.toNat) (by omega : ((i.toNat : Nat) : Int) < n)
  have h3 : ((i.toNat : Nat) : Int) = i := by omega
  rw [h3] at h2
  simp [el, List.getD_eq_getElem?_getD, h2]
theorem el_rep {α : Type} [Inhabited α] {n : Nat} {v : α} {i : Int} (h : 0 ≤ i ∧ i < (n : Int)) : el (List.replicate n v) i = v := by
  have : i.toNat < n := by omega
  simp [el, List.getD_eq_getElem?_getD, this]
theorem el_sl {α : Type} [Inhabited α] {l : List α} {a b i : Int} (ha : 0 ≤ a) (hi : 0 ≤ i) (h : a + i < b) : el (sl l a b) i = el l (a + i) := by
  have h1 : a.toNat + i.toNat < b.toNat := by omega
  have h2 : (a + i).toNat = a.toNat + i.toNat := by omega
  simp [el, sl, List.getD_eq_getElem?_getD, List.getElem?_drop, h1, h2]
theorem eq_ran {α : Type} [Inhabited α] {n : Int} {f : Int → α} {l : List α} (hl : l.length = n.toNat) (h : ∀ i, 0 ≤ i → i < n → el l i = f i) : l = ran n f :=
  ext_el (by simp [hl]) fun i h0 h1 => by rw [el_ran ⟨h0, by omega⟩]; exact h i h0 (by omega)
theorem all_el {α : Type} [Inhabited α] {l : List α} {p : α → Bool} : l.all p = true ↔ ∀ i : Int, 0 ≤ i → i < (l.length : Int) → p (el l i) = true := by
  rw [List.all_eq_true]
  exact ⟨fun h i h0 h1 => h _ (el_mem ⟨h0, h1⟩), fun h x hx => by obtain ⟨i, hi, rfl⟩ := mem_el hx; exact h i hi.1 hi.2⟩
theorem any_el {α : Type} [Inhabited α] {l : List α} {p : α → Bool} : l.any p = true ↔ ∃ i : Int, (0 ≤ i ∧ i < (l.length : Int)) ∧ p (el l i) = true := by
  rw [List.any_eq_true]
  exact ⟨fun ⟨x, hx, h⟩ => by obtain ⟨i, hi, rfl⟩ := mem_el hx; exact ⟨i, hi, h⟩, fun ⟨i, hi, h⟩ => ⟨_, el_mem hi, h⟩⟩
theorem nodup_el {α : Type} [Inhabited α] {l : List α} : l.Nodup ↔ ∀ i j : Int, 0 ≤ i → i < j → j < (l.length : Int) → el l i ≠ el l j := by
  unfold List.Nodup
  rw [List.pairwise_iff_getElem]
  constructor
  · intro h i j h0 h1 h2
    have e1 := el_get (l := l) (i := i) ⟨h0, by omega⟩
    have e2 := el_get (l := l) (i := j) ⟨by omega, h2⟩
    rw [List.getElem?_eq_getElem (by omega), Option.some.injEq] at e1 e2
    rw [← e1, ← e2]
    exact h _ _ _ _ (by omega)
  · intro h i j hi hj hij
    have := h i j (by omega) (by omega) (by omega)
    have e1 := el_get (l := l) (i := i) ⟨by omega, by omega⟩
    have e2 := el_get (l := l) (i := j) ⟨by omega, by omega⟩
    simp only [Int.toNat_natCast] at e1 e2
    rw [List.getElem?_eq_getElem (by omega), Option.some.injEq] at e1 e2
    rw [e1, e2]; exact this
@[reducible] def small {α : Type} (l : List α) : Prop := (l.length : Int) ≤ 1000000000
@[reducible] def small2 {α : Type} (t : List (List α)) : Prop := small t ∧ ∀ r ∈ t, small r
@[reducible] def InS (n : Int) : Prop := -1 ≤ n ∧ n ≤ 1000000000
@[reducible] def huge2 (t : List (List Int)) : Prop := t.length ≤ 9223372036854775807 ∧ ∀ r ∈ t, r.length ≤ 9223372036854775807
@[reducible] def okK (k : Int) : Prop := 0 ≤ k ∧ k ≤ 1000000000000
@[reducible] def okKT (k : Int) (t : List (List Int)) : Prop := 0 ≤ k ∧ k + tot t ≤ 1000000000000
def isPerm (p : List Int) : Bool := decide (p.Nodup ∧ ∀ x ∈ p, 0 ≤ x ∧ x < (p.length : Int))
def mkI : Int → List Int → List Int
  | _, [] => []
  | k, _ :: l => k :: mkI (k + 1) l
def mkII : Int → List (List Int) → List (List Int)
  | _, [] => []
  | k, r :: t => mkI k r :: mkII (k + (r.length : Int)) t
def idxF {α : Type} (t : List α) (f : α → Bool) : Int := if t.any f then (t.findIdx f : Int) else -1
def badRow (n : Int) (row : List Int) : Bool := !(decide ((row.length : Int) = n) && row.all (fun x => decide (0 ≤ x) && decide (x ≤ n - 1)))
def isTab (t : List (List Int)) : Bool := decide (1 ≤ (t.length : Int)) && decide ((t.length : Int) ≤ 12) && !t.any (badRow (t.length : Int))
def diag (t : List (List Int)) : List Int := ran (t.length : Int) fun x => el (el t x) x
def first3 (n : Int) (f : Int → Int → Int → Bool) : List Int :=
  match (ran n id).findSome? (fun x => (ran n id).findSome? fun y => (ran n id).findSome? fun z => if f x y z then some [x, y, z] else none) with
  | some l => l
  | none => []

theorem isTab_len {t : List (List Int)} (h : isTab t = true) : 1 ≤ (t.length : Int) ∧ (t.length : Int) ≤ 12 := by
  simp only [isTab, Bool.and_eq_true, decide_eq_true_eq] at h; exact h.1
theorem isTab_row {t : List (List Int)} (h : isTab t = true) {i : Int} (hi : 0 ≤ i ∧ i < (t.length : Int)) : ((el t i).length : Int) = (t.length : Int) ∧ ∀ j, 0 ≤ j → j < (t.length : Int) → 0 ≤ el (el t i) j ∧ el (el t i) j < (t.length : Int) := by
  simp only [isTab, Bool.and_eq_true, Bool.not_eq_true'] at h
  have h1 := h.2
  rw [List.any_eq_false] at h1
  have h2 := h1 _ (el_mem hi)
  simp only [badRow, Bool.not_eq_true', Bool.and_eq_true, decide_eq_true_eq, Bool.and_eq_false_iff, not_or, Bool.not_eq_false, all_el] at h2
  refine ⟨h2.1, fun j h0 h3 => ?_⟩
  have := h2.2 j h0 (by omega)
  omega
theorem isTab_mk {t : List (List Int)} (h1 : 1 ≤ (t.length : Int) ∧ (t.length : Int) ≤ 12) (h : ∀ i, 0 ≤ i → i < (t.length : Int) → ((el t i).length : Int) = (t.length : Int) ∧ ∀ j, 0 ≤ j → j < (t.length : Int) → 0 ≤ el (el t i) j ∧ el (el t i) j < (t.length : Int)) : isTab t = true := by
  simp only [isTab, Bool.and_eq_true, decide_eq_true_eq, Bool.not_eq_true', List.any_eq_false]
  refine ⟨h1, fun r hr => ?_⟩
  obtain ⟨i, hi, rfl⟩ := mem_el hr
  obtain ⟨h2, h3⟩ := h i hi.1 hi.2
  simp only [badRow, Bool.not_eq_true', Bool.and_eq_true, decide_eq_true_eq, Bool.and_eq_false_iff, not_or, Bool.not_eq_false, all_el]
  exact ⟨h2, fun j h0 h4 => by have := h3 j h0 (by omega); omega⟩
theorem isTab_small {t : List (List Int)} (h : isTab t = true) : small2 t := ⟨by have := isTab_len h; show (t.length : Int) ≤ 1000000000; omega, fun r hr => by
  obtain ⟨i, hi, rfl⟩ := mem_el hr
  have h1 := (isTab_row h hi).1; have h2 := isTab_len h
  show ((el t i).length : Int) ≤ 1000000000; omega⟩

@[reducible] def Upto (i : Int) (P : Int → Prop) : Prop := ∀ j, 0 ≤ j → j < i → P j
theorem upto0 {P : Int → Prop} : Upto 0 P := fun j _ _ => by omega
theorem upto1 {P : Int → Prop} {i : Int} (h : Upto i P) (hi : P i) : Upto (i + 1) P := fun j h0 h1 => by
  by_cases e : j = i
  · subst e; exact hi
  · exact h j h0 (by omega)
theorem all_t {α : Type} [Inhabited α] {l : List α} {p : α → Bool} (h : Upto (l.length : Int) fun j => p (el l j) = true) : l.all p = true := all_el.2 h
theorem all_f {α : Type} [Inhabited α] {l : List α} {p : α → Bool} {i : Int} (hi : 0 ≤ i ∧ i < (l.length : Int)) (h : p (el l i) = false) : l.all p = false := by
  rw [Bool.eq_false_iff]
  intro h2
  rw [all_el.1 h2 i hi.1 hi.2] at h; cases h
theorem any_f {α : Type} [Inhabited α] {l : List α} {p : α → Bool} (h : Upto (l.length : Int) fun j => p (el l j) = false) : l.any p = false := by
  rw [Bool.eq_false_iff]
  intro h2
  obtain ⟨i, hi, h3⟩ := any_el.1 h2
  rw [h i hi.1 hi.2] at h3; cases h3
theorem any_t {α : Type} [Inhabited α] {l : List α} {p : α → Bool} {i : Int} (hi : 0 ≤ i ∧ i < (l.length : Int)) (h : p (el l i) = true) : l.any p = true := any_el.2 ⟨i, hi, h⟩
theorem idxF_found {α : Type} [Inhabited α] {t : List α} {f : α → Bool} {i : Int} (hi : 0 ≤ i ∧ i < (t.length : Int)) (h : Upto i fun j => f (el t j) = false) (h1 : f (el t i) = true) : idxF t f = i := by
  unfold idxF
  rw [if_pos (any_t hi h1)]
  have : t.findIdx f = i.toNat := by
    rw [List.findIdx_eq (by omega)]
    refine ⟨?_, fun k hk => ?_⟩
    · have := el_get hi
      rw [List.getElem?_eq_getElem (by omega), Option.some.injEq] at this
      rw [this]; exact h1
    · have e := el_get (l := t) (i := (k : Int)) ⟨by omega, by omega⟩
      simp only [Int.toNat_natCast] at e
      rw [List.getElem?_eq_getElem (by omega), Option.some.injEq] at e
      rw [e]; exact h k (by omega) (by omega)
  omega
theorem idxF_none {α : Type} [Inhabited α] {t : List α} {f : α → Bool} (h : Upto (t.length : Int) fun j => f (el t j) = false) : idxF t f = -1 := by
  unfold idxF
  rw [any_f h]; rfl
theorem idxF_nonneg {α : Type} {t : List α} {f : α → Bool} : decide (0 ≤ idxF t f) = t.any f := by
  unfold idxF
  cases h : t.any f <;> simp
theorem fill1 {α : Type} [Inhabited α] {o : List α} {f : Int → α} {i : Int} {v : α} (hi : 0 ≤ i ∧ i < (o.length : Int)) (h : Upto i fun j => el o j = f j) (hv : v = f i) : Upto (i + 1) fun j => el (se o i v) j = f j :=
  upto1 (fun j h0 h1 => by show el (se o i v) j = f j; rw [el_se_ne hi.1 h0 (by omega)]; exact h j h0 h1) (by show el (se o i v) i = f i; rw [el_se_same hi]; exact hv)
theorem app1 {α : Type} [Inhabited α] {o : List α} {f : Int → α} {i : Int} {v : α} (hi : i = (o.length : Int)) (h : Upto i fun j => el o j = f j) (hv : v = f i) : Upto (i + 1) fun j => el (o ++ [v]) j = f j :=
  upto1 (fun j h0 h1 => by show el (o ++ [v]) j = f j; rw [el_append_l ⟨h0, by omega⟩]; exact h j h0 h1) (by show el (o ++ [v]) i = f i; rw [el_append_last hi]; exact hv)
@[simp] theorem length_mkI : ∀ (k : Int) (l : List Int), (mkI k l).length = l.length
  | _, [] => rfl
  | k, _ :: l => by simp [mkI, length_mkI (k + 1) l]
@[simp] theorem length_mkII : ∀ (k : Int) (t : List (List Int)), (mkII k t).length = t.length
  | _, [] => rfl
  | k, r :: t => by simp [mkII, length_mkII _ t]
def tt (t : List (List Int)) (i : Int) : Int := tot (t.take i.toNat)
end
section
def idxI (l : List Int) (n : Int) : Int := idxF l (fun x => x == n)
def permB (p : List Int) : Bool := decide (1 ≤ (p.length : Int)) && decide ((p.length : Int) ≤ 12) && isPerm p
theorem nodup_perm {α : Type} [DecidableEq α] : ∀ (l p : List α), l.Nodup → (∀ x ∈ l, x ∈ p) → l.length = p.length → p.Perm l
  | [], p, _, _, h => by
    have : p = [] := List.eq_nil_of_length_eq_zero h.symm
    subst this; exact List.Perm.refl _
  | a :: l, p, hn, hs, h => by
    have ha := hs a List.mem_cons_self
    have hn' := List.nodup_cons.1 hn
    have ih := nodup_perm l (p.erase a) hn'.2 (fun x hx => by
      have hne : x ≠ a := fun e => hn'.1 (e ▸ hx)
      exact (List.mem_erase_of_ne hne).2 (hs x (List.mem_cons_of_mem _ hx))) (by rw [List.length_erase_of_mem ha]; simp at h; omega)
    exact (List.perm_cons_erase ha).trans (ih.cons a)
theorem mem_ran {n x : Int} : x ∈ ran n id ↔ 0 ≤ x ∧ x < n := by
  unfold ran
  simp only [List.mem_map, List.mem_range, id]
  exact ⟨fun ⟨k, hk, e⟩ => by omega, fun h => ⟨x.toNat, by omega, by omega⟩⟩
theorem nodup_ran (n : Int) : (ran n id).Nodup := nodup_el.2 fun i j h0 h1 h2 => by
  simp at h2
  rw [el_ran ⟨h0, by omega⟩, el_ran ⟨by omega, by omega⟩]; simp [id]; omega
theorem isPerm_iff {p : List Int} : isPerm p = true ↔ p.Nodup ∧ ∀ x ∈ p, 0 ≤ x ∧ x < (p.length : Int) := by simp [isPerm]
theorem isPerm_of_all {p : List Int} (h : ∀ x, 0 ≤ x → x < (p.length : Int) → x ∈ p) : isPerm p = true := by
  have := nodup_perm (ran (p.length : Int) id) p (nodup_ran _) (fun x hx => by have := mem_ran.1 hx; exact h x this.1 this.2) (by simp)
  exact isPerm_iff.2 ⟨this.nodup_iff.2 (nodup_ran _), fun x hx => mem_ran.1 (this.mem_iff.1 hx)⟩
theorem isPerm_all {p : List Int} (h : isPerm p = true) {x : Int} (hx : 0 ≤ x ∧ x < (p.length : Int)) : x ∈ p := by
  obtain ⟨h1, h2⟩ := isPerm_iff.1 h
  have := nodup_perm p (ran (p.length : Int) id) h1 (fun x hx => mem_ran.2 (h2 x hx)) (by simp)
  exact this.mem_iff.1 (mem_ran.2 hx)
theorem idxI_has {l : List Int} {n : Int} : decide (0 ≤ idxI l n) = l.contains n := by
  unfold idxI
  rw [idxF_nonneg, Bool.eq_iff_iff, List.contains_iff_mem, List.any_eq_true]
  simp
theorem fs_none {α : Type} {n : Int} {g : Int → Option α} (h : ∀ i, 0 ≤ i → i < n → g i = none) : (ran n id).findSome? g = none := by
  rw [List.findSome?_eq_none_iff]
  intro x hx
  have := mem_ran.1 hx
  exact h x this.1 this.2
theorem fs_some {α : Type} {n i : Int} {g : Int → Option α} {v : α} (hi : 0 ≤ i ∧ i < n) (h : g i = some v) (h0 : Upto i fun j => g j = none) : (ran n id).findSome? g = some v := by
  have e : ran n id = ran i id ++ (ran n id).drop i.toNat := by
    rw [← List.take_append_drop i.toNat (ran n id)]
    congr 1
    · refine (eq_ran (f := id) (by simp; omega) fun j h1 h2 => ?_)
      have := el_sl (l := ran n id) (a := 0) (b := i) (i := j) (by omega) h1 (by omega)
      simp only [sl, Int.toNat_zero, List.drop_zero, Int.zero_add] at this
      rw [this, el_ran ⟨h1, by omega⟩]
    · simp
  have e2 : (ran n id).drop i.toNat = i :: (ran n id).drop (i.toNat + 1) := by
    have := el_get (l := ran n id) (i := i) ⟨hi.1, by simp; omega⟩
    rw [el_ran hi] at this
    rw [List.drop_eq_getElem_cons (by simp; omega)]
    rw [List.getElem?_eq_getElem (by simp; omega), Option.some.injEq] at this
    rw [this]; rfl
  rw [e, List.findSome?_append, fs_none h0, e2, List.findSome?_cons, h]; rfl
theorem first3_found {n : Int} {f : Int → Int → Int → Bool} {x y z : Int} (hx : 0 ≤ x ∧ x < n) (hy : 0 ≤ y ∧ y < n) (hz : 0 ≤ z ∧ z < n) (h : f x y z = true)
    (h1 : Upto x fun a => ∀ b, 0 ≤ b → b < n → ∀ c, 0 ≤ c → c < n → f a b c = false) (h2 : Upto y fun b => ∀ c, 0 ≤ c → c < n → f x b c = false) (h3 : Upto z fun c => f x y c = false) : first3 n f = [x, y, z] := by
  unfold first3
  rw [fs_some hx (v := [x, y, z]) (fs_some hy (fs_some hz (by simp [h]) fun c a b => by simp [h3 c a b]) fun b a c => fs_none fun d e g => by simp [h2 b a c d e g]) fun a b c => fs_none fun d e g => fs_none fun k l m => by simp [h1 a b c d e g k l m]]
theorem first3_none {n : Int} {f : Int → Int → Int → Bool} (h : ∀ a, 0 ≤ a → a < n → ∀ b, 0 ≤ b → b < n → ∀ c, 0 ≤ c → c < n → f a b c = false) : first3 n f = [] := by
  unfold first3
  rw [fs_none fun a b c => fs_none fun d e g => fs_none fun k l m => by simp [h a b c d e g k l m]]
def gcdI (a b : Int) : Int := ((Int.gcd a b : Nat) : Int)
def cycB (t : List (List Int)) (x y z : Int) : Bool := !decide (el (el t (el (el t x) y)) (el (el t x) z) = el (el t (el (el t y) x)) (el (el t y) z))
def cycF (t : List (List Int)) : List Int := first3 (t.length : Int) (cycB t)
@[reducible] def inR (n : Int) : Prop := 1 ≤ n ∧ n ≤ 12
def TrivT (n : Int) : List (List Int) := if inR n then tab n (fun _ j => j) else []
def TrivE (n : Int) : Int := if inR n then 0 else 2
theorem mulA {a i : Int} (ha : 0 ≤ a ∧ a ≤ 1000) (hi : 0 ≤ i ∧ i ≤ 1000) : 0 ≤ a * i ∧ a * i ≤ 1000000 := by
  have := mulB (a := a) (i := i) (A := 1000) (B := 1000) ⟨ha.1, ha.2, hi.1, hi.2⟩
  omega
end
section
def unitI (n : Int) : List Int := ran n id
def backI (p : List Int) : List Int := ran (p.length : Int) fun x => idxI p x
def rackB (t : List (List Int)) (x y z : Int) : Bool := !decide (el (el t x) (el (el t y) z) = el (el t (el (el t x) y)) (el (el t x) z))
def rackF (t : List (List Int)) : List Int := first3 (t.length : Int) (rackB t)
def isRk (t : List (List Int)) : Bool := isTab t && t.all isPerm && (rackF t).isEmpty
def isCyc (t : List (List Int)) : Bool := isTab t && t.all isPerm && isPerm (diag t) && (cycF t).isEmpty
theorem isRk_tab {t : List (List Int)} (h : isRk t = true) : isTab t = true := by simp only [isRk, Bool.and_eq_true] at h; exact h.1.1
theorem isPerm_el {p : List Int} (h : isPerm p = true) {i : Int} (hi : 0 ≤ i ∧ i < (p.length : Int)) : 0 ≤ el p i ∧ el p i < (p.length : Int) := (isPerm_iff.1 h).2 _ (el_mem hi)
theorem isPerm_inj {p : List Int} (h : isPerm p = true) {i j : Int} (hi : 0 ≤ i ∧ i < (p.length : Int)) (hj : 0 ≤ j ∧ j < (p.length : Int)) (e : el p i = el p j) : i = j := by
  have hn := nodup_el.1 (isPerm_iff.1 h).1
  rcases Int.lt_trichotomy i j with h1 | h1 | h1
  · exact absurd e (hn i j hi.1 h1 hj.2)
  · exact h1
  · exact absurd e.symm (hn j i hj.1 h1 hi.2)
theorem isPerm_surj {p : List Int} (h : isPerm p = true) {x : Int} (hx : 0 ≤ x ∧ x < (p.length : Int)) : ∃ i, (0 ≤ i ∧ i < (p.length : Int)) ∧ el p i = x := mem_el (isPerm_all h hx)
theorem idxI_el {p : List Int} (h : isPerm p = true) {i : Int} (hi : 0 ≤ i ∧ i < (p.length : Int)) : idxI p (el p i) = i :=
  idxF_found hi (fun j h0 h1 => by
    show (el p j == el p i) = false
    rw [beq_eq_false_iff_ne]
    intro e
    have := isPerm_inj h ⟨h0, by omega⟩ hi e
    omega) (by simp)
theorem idxI_spec {l : List Int} {x : Int} (h : x ∈ l) : (0 ≤ idxI l x ∧ idxI l x < (l.length : Int)) ∧ el l (idxI l x) = x := by
  have hc : l.any (fun y => y == x) = true := by simp [h]
  have hlt : l.findIdx (fun y => y == x) < l.length := List.findIdx_lt_length_of_exists ⟨x, h, by simp⟩
  have e : idxI l x = (l.findIdx (fun y => y == x) : Int) := by unfold idxI idxF; rw [if_pos hc]
  rw [e]
  refine ⟨⟨by omega, by omega⟩, ?_⟩
  have := List.findIdx_getElem (w := hlt)
  simp only [beq_iff_eq] at this
  simp [el, List.getD_eq_getElem?_getD, List.getElem?_eq_getElem hlt, this]
@[simp] theorem length_backI (p : List Int) : (backI p).length = p.length := by simp [backI]
theorem el_backI {p : List Int} (h : isPerm p = true) {i : Int} (hi : 0 ≤ i ∧ i < (p.length : Int)) : el (backI p) (el p i) = i := by
  have := isPerm_el h hi
  rw [backI, el_ran this, idxI_el h hi]
theorem el_backI' {p : List Int} (h : isPerm p = true) {x : Int} (hx : 0 ≤ x ∧ x < (p.length : Int)) : (0 ≤ el (backI p) x ∧ el (backI p) x < (p.length : Int)) ∧ el p (el (backI p) x) = x := by
  rw [backI, el_ran hx]
  exact idxI_spec (isPerm_all h hx)
theorem backI_uniq {p q : List Int} (h : isPerm p = true) (hl : q.length = p.length) (hq : ∀ i, 0 ≤ i → i < (p.length : Int) → el q (el p i) = i) : q = backI p :=
  ext_el (by simp [hl]) fun x h0 h1 => by
    obtain ⟨i, hi, rfl⟩ := isPerm_surj h (x := x) ⟨h0, by omega⟩
    rw [hq i hi.1 hi.2, el_backI h hi]
theorem isPerm_backI {p : List Int} (h : isPerm p = true) : isPerm (backI p) = true := by
  refine isPerm_iff.2 ⟨nodup_el.2 fun i j h0 h1 h2 e => ?_, fun x hx => ?_⟩
  · simp at h2
    have a := (el_backI' h (x := i) ⟨h0, by omega⟩).2
    have b := (el_backI' h (x := j) ⟨by omega, by omega⟩).2
    rw [e] at a; omega
  · obtain ⟨i, hi, rfl⟩ := mem_el hx
    simp at hi ⊢
    exact (el_backI' h hi).1
@[simp] theorem length_unitI (n : Int) : (unitI n).length = n.toNat := by simp [unitI]
theorem el_unitI {n i : Int} (h : 0 ≤ i ∧ i < n) : el (unitI n) i = i := by simp [unitI, el_ran h]
theorem isTab_perm {t : List (List Int)} (h : isTab t = true) : t.all permB = t.all isPerm := by
  have key : ∀ r ∈ t, permB r = isPerm r := fun r hr => by
    obtain ⟨i, hi, rfl⟩ := mem_el hr
    have a := (isTab_row h hi).1
    have b := isTab_len h
    unfold permB
    have e1 : decide (1 ≤ ((el t i).length : Int)) = true := decide_eq_true (by omega)
    have e2 : decide (((el t i).length : Int) ≤ 12) = true := decide_eq_true (by omega)
    rw [e1, e2]; rfl
  rw [Bool.eq_iff_iff, List.all_eq_true, List.all_eq_true]
  exact ⟨fun h r hr => by rw [← key r hr]; exact h r hr, fun h r hr => by rw [key r hr]; exact h r hr⟩
@[simp] theorem length_diag (t : List (List Int)) : (diag t).length = t.length := by simp [diag]
theorem rk_el {t : List (List Int)} (h : isTab t = true) {x y : Int} (hx : 0 ≤ x ∧ x < (t.length : Int)) (hy : 0 ≤ y ∧ y < (t.length : Int)) : 0 ≤ el (el t x) y ∧ el (el t x) y < (t.length : Int) := (isTab_row h hx).2 y hy.1 hy.2
theorem rk_len {t : List (List Int)} (h : isTab t = true) {x : Int} (hx : 0 ≤ x ∧ x < (t.length : Int)) : ((el t x).length : Int) = (t.length : Int) := (isTab_row h hx).1
end
section
noncomputable def dec (P : Prop) : Bool := @decide P (Classical.propDecidable P)
theorem dec_t {P : Prop} (h : P) : dec P = true := @decide_eq_true P (Classical.propDecidable P) h
theorem dec_f {P : Prop} (h : ¬ P) : dec P = false := @decide_eq_false P (Classical.propDecidable P) h
theorem dec_iff {P : Prop} : dec P = true ↔ P := @decide_eq_true_iff P (Classical.propDecidable P)
theorem dec_iff_f {P : Prop} : dec P = false ↔ ¬ P := @decide_eq_false_iff_not P (Classical.propDecidable P)
theorem dec_congr {P Q : Prop} (h : P ↔ Q) : dec P = dec Q := by rw [propext h]
noncomputable def the {α : Type} [Inhabited α] (P : α → Prop) : α := Classical.epsilon P
def proT (a b : List (List Int)) : List (List Int) := tab ((a.length : Int) * (b.length : Int)) fun x y => el (el a (x / (b.length : Int))) (y / (b.length : Int)) * (b.length : Int) + el (el b (x % (b.length : Int))) (y % (b.length : Int))
def ProE (a b : List (List Int)) : Int := if isRk a && isRk b then (if (12 : Int) < (a.length : Int) * (b.length : Int) then 3 else 0) else 1
def ProT (a b : List (List Int)) : List (List Int) := if ProE a b = 0 then proT a b else []
def sumN (g : Int → Int) : Nat → Int
  | 0 => 0
  | k + 1 => sumN g k + g k
def sumI (n : Int) (g : Int → Int) : Int := sumN g n.toNat
theorem sumI_succ {g : Int → Int} {v : Int} (h : 0 ≤ v) : sumI (v + 1) g = sumI v g + g v := by
  unfold sumI
  rw [show (v + 1).toNat = v.toNat + 1 by omega, sumN, show ((v.toNat : Nat) : Int) = v by omega]
theorem sumN_le {g : Int → Int} {m : Int} (h : ∀ i, 0 ≤ g i ∧ g i ≤ m) : ∀ k : Nat, 0 ≤ sumN g k ∧ sumN g k ≤ (k : Int) * m
  | 0 => by simp [sumN]
  | k + 1 => by
    have a := sumN_le h k
    have b := h k
    simp only [sumN, Int.natCast_add, Int.add_mul]
    omega
def conP (r s : List (List Int)) (f : List Int) : Prop := ∀ x y, 0 ≤ x → x < (f.length : Int) → 0 ≤ y → y < (f.length : Int) → el (el r x) y < (f.length : Int) → el f (el (el r x) y) = el (el s (el f x)) (el f y)
noncomputable def cntN (r s : List (List Int)) : Nat → List Int → Int
  | 0, f => if dec (conP r s f) then 1 else 0
  | k + 1, f => if dec (conP r s f) then sumI (s.length : Int) (fun v => cntN r s k (f ++ [v])) else 0
noncomputable def cntI (r s : List (List Int)) (f : List Int) : Int := cntN r s ((r.length : Int) - (f.length : Int)).toNat f
theorem cntN_le {r s : List (List Int)} (hs : (s.length : Int) ≤ 12) : ∀ (k : Nat) (f : List Int), 0 ≤ cntN r s k f ∧ cntN r s k f ≤ (12 : Int) ^ k
  | 0, f => by
    unfold cntN
    split <;> simp
  | k + 1, f => by
    unfold cntN
    have hp : (0 : Int) ≤ 12 ^ k := Int.pow_nonneg (by omega)
    have e : (12 : Int) ^ (k + 1) = 12 * 12 ^ k := by rw [Int.pow_succ, Int.mul_comm]
    rw [e]
    split
    · have := sumN_le (g := fun v => cntN r s k (f ++ [v])) (fun i => cntN_le hs k (f ++ [i])) (s.length : Int).toNat
      have e2 : (((s.length : Int).toNat : Nat) : Int) * 12 ^ k ≤ 12 * 12 ^ k := Int.mul_le_mul_of_nonneg_right (by omega) hp
      unfold sumI
      omega
    · omega
theorem pow12_le : ∀ k : Nat, k ≤ 12 → (12 : Int) ^ k ≤ 8916100448256 := fun k hk => by
  have h : ∀ k, k < 13 → (12 : Int) ^ k ≤ 8916100448256 := by decide
  exact h k (by omega)
def CrmE (r s : List (List Int)) : Int := if isRk r && isRk s then (if (1000000 : Int) < (s.length : Int) ^ r.length then 3 else 0) else 1
noncomputable def CrmV (r s : List (List Int)) : Int := if CrmE r s = 0 then cntI r s [] else 0
def conA (a b : List (List (List Int))) (f : List Int) : Prop := ∀ k, 0 ≤ k → k < (a.length : Int) → conP (el a k) (el b k) f
def fitD (a b : List (List (List Int))) (f : List Int) : Prop := small a ∧ small f ∧ b.length = a.length ∧ ∀ k, 0 ≤ k → k < (a.length : Int) → isTab (el a k) = true ∧ isTab (el b k) = true ∧ (f.length : Int) ≤ ((el a k).length : Int) ∧ (∀ x ∈ f, 0 ≤ x ∧ x < ((el b k).length : Int)) ∧
  ∀ x y, 0 ≤ x → x < (f.length : Int) - 1 → 0 ≤ y → y < (f.length : Int) - 1 → el (el (el a k) x) y < (f.length : Int) - 1 → el f (el (el (el a k) x) y) = el (el (el b k) (el f x)) (el f y)
def cntD (a b : List (List (List Int))) (f : List Int) : Prop := a.length = 1 ∧ b.length = 1 ∧ isTab (el a 0) = true ∧ isTab (el b 0) = true ∧ (f.length : Int) ≤ ((el a 0).length : Int) ∧ (∀ x ∈ f, 0 ≤ x ∧ x < ((el b 0).length : Int)) ∧ conP (el a 0) (el b 0) f
theorem cntI_no {r s : List (List Int)} {f : List Int} (h : ¬ conP r s f) : cntI r s f = 0 := by
  unfold cntI
  cases ((r.length : Int) - (f.length : Int)).toNat <;> simp [cntN, dec_f h]
theorem cntI_full {r s : List (List Int)} {f : List Int} (h : conP r s f) (hl : (f.length : Int) = (r.length : Int)) : cntI r s f = 1 := by
  unfold cntI
  rw [show ((r.length : Int) - (f.length : Int)).toNat = 0 by omega]
  simp [cntN, dec_t h]
theorem cntI_step {r s : List (List Int)} {f : List Int} (h : conP r s f) (hl : (f.length : Int) < (r.length : Int)) : cntI r s f = sumI (s.length : Int) (fun v => cntI r s (f ++ [v])) := by
  unfold cntI
  have e : ((r.length : Int) - (f.length : Int)).toNat = ((r.length : Int) - ((f.length : Int) + 1)).toNat + 1 := by omega
  rw [e, cntN, dec_t h, if_pos rfl]
  congr 1
  funext v
  rw [show ((f ++ [v]).length : Int) = (f.length : Int) + 1 by simp]
theorem cntI_le {r s : List (List Int)} {f : List Int} (hr : isTab r = true) (hs : isTab s = true) : 0 ≤ cntI r s f ∧ cntI r s f ≤ 8916100448256 := by
  have h1 := isTab_len hr
  have h2 := isTab_len hs
  have h3 := cntN_le (r := r) (s := s) h2.2 ((r.length : Int) - (f.length : Int)).toNat f
  have h4 := pow12_le ((r.length : Int) - (f.length : Int)).toNat (by omega)
  unfold cntI
  omega
theorem sumI_le {g : Int → Int} {v m M : Int} (h : ∀ i, 0 ≤ g i ∧ g i ≤ M) (hv : v ≤ m) (hm : 0 ≤ m) : 0 ≤ sumI v g ∧ sumI v g ≤ m * M := by
  have a := sumN_le h v.toNat
  have b : ((v.toNat : Nat) : Int) * M ≤ m * M := Int.mul_le_mul_of_nonneg_right (by omega) (by have := h 0; omega)
  unfold sumI
  omega
theorem el_single {α : Type} [Inhabited α] {x : α} : el [x] 0 = x := by simp [el]
theorem conP_app {r s : List (List Int)} {f : List Int} {v : Int} (h : conP r s f) {x y : Int} (x0 : 0 ≤ x) (x1 : x < (f.length : Int)) (y0 : 0 ≤ y) (y1 : y < (f.length : Int)) (z0 : 0 ≤ el (el r x) y) (z1 : el (el r x) y < (f.length : Int)) :
    el (f ++ [v]) (el (el r x) y) = el (el s (el (f ++ [v]) x)) (el (f ++ [v]) y) := by
  rw [el_append_l ⟨z0, z1⟩, el_append_l ⟨x0, x1⟩, el_append_l ⟨y0, y1⟩]
  exact h x y x0 x1 y0 y1 z1
theorem conP_nil (r s : List (List Int)) : conP r s [] := fun x y h0 h1 => by simp at h1; omega
theorem pow_mono {m : Int} (hm : 1 ≤ m) : ∀ (k n : Nat), k ≤ n → m ^ k ≤ m ^ n := fun k n h => by
  induction n with
  | zero => rw [show k = 0 by omega]; exact Int.le_refl _
  | succ n ih =>
    by_cases e : k = n + 1
    · subst e; exact Int.le_refl _
    · have h1 := ih (by omega)
      have h2 : (0 : Int) ≤ m ^ n := Int.pow_nonneg (by omega)
      rw [Int.pow_succ]
      have h3 : m ^ n * 1 ≤ m ^ n * m := Int.mul_le_mul_of_nonneg_left hm h2
      omega

end
section
def permsN (n : Int) (list : List (List Int)) : Prop := ∀ p ∈ list, (p.length : Int) = n ∧ isPerm p = true
theorem nodup_len {α : Type} [DecidableEq α] : ∀ (l p : List α), l.Nodup → (∀ x ∈ l, x ∈ p) → l.length ≤ p.length
  | [], p, _, _ => Nat.zero_le _
  | a :: l, p, hn, hs => by
    have ha := hs a List.mem_cons_self
    have hn' := List.nodup_cons.1 hn
    have ih := nodup_len l (p.erase a) hn'.2 (fun x hx => by
      have hne : x ≠ a := fun e => hn'.1 (e ▸ hx)
      exact (List.mem_erase_of_ne hne).2 (hs x (List.mem_cons_of_mem _ hx)))
    rw [List.length_erase_of_mem ha] at ih
    have := List.length_pos_of_mem ha
    simp; omega
theorem nodup_len_ran {l : List Int} {n : Int} (hn : 0 ≤ n) (h : l.Nodup) (hr : ∀ x ∈ l, 0 ≤ x ∧ x < n) : (l.length : Int) ≤ n := by
  have := nodup_len l (ran n id) h fun x hx => mem_ran.2 (hr x hx)
  simp at this; omega
end
section
def bitP (m x : Int) : Prop := (m / (2 : Int) ^ x.toNat) % 2 = 1
end
section
theorem el_tab {n : Int} {f : Int → Int → Int} {x y : Int} (hx : 0 ≤ x ∧ x < n) (hy : 0 ≤ y ∧ y < n) : el (el (tab n f) x) y = f x y := by
  unfold tab; rw [el_ran hx, el_ran hy]
theorem len_tab {n : Int} {f : Int → Int → Int} (hn : 0 ≤ n) : ((tab n f).length : Int) = n := by simp; omega
theorem tab_rowlen {n : Int} {f : Int → Int → Int} {x : Int} (hx : 0 ≤ x ∧ x < n) : ((el (tab n f) x).length : Int) = n := by
  unfold tab; rw [el_ran hx]; simp; omega
theorem isTab_tab {n : Int} {f : Int → Int → Int} (hn : 1 ≤ n ∧ n ≤ 12) (h : ∀ x y, 0 ≤ x → x < n → 0 ≤ y → y < n → 0 ≤ f x y ∧ f x y < n) : isTab (tab n f) = true := by
  have hl : ((tab n f).length : Int) = n := len_tab (by omega)
  refine isTab_mk (by omega) fun i i0 i1 => ⟨by rw [tab_rowlen ⟨i0, by omega⟩, hl], fun j j0 j1 => ?_⟩
  rw [el_tab ⟨i0, by omega⟩ ⟨j0, by omega⟩, hl]
  exact h i j i0 (by omega) j0 (by omega)
theorem tab_el {t : List (List Int)} (h : isTab t = true) : t = tab (t.length : Int) fun x y => el (el t x) y := by
  refine eq_ran (by omega) fun i i0 i1 => ?_
  have := rk_len h ⟨i0, i1⟩
  exact eq_ran (by omega) fun j _ _ => rfl
def idxL (lists : List (List Int)) (list : List Int) : Int := idxF lists (fun own => decide (own = list))
def conjI (x y : List Int) : List Int := ((backI x).map (el y)).map (el x)
def GoodL (list : List (List Int)) : Prop := 1 ≤ (list.length : Int) ∧ ∀ i, 0 ≤ i → i < (list.length : Int) → permB (el list i) = true ∧ ((el list i).length : Int) = ((el list 0).length : Int) ∧ ∀ j, 0 ≤ j → j < i → el list j ≠ el list i
def cjV (list : List (List Int)) (x y : Int) : Int := idxL list (conjI (el list x) (el list y))
def cjT (list : List (List Int)) : List (List Int) := tab (list.length : Int) (cjV list)
noncomputable def CjqE (list : List (List Int)) : Int := if dec (GoodL list) then (if (12 : Int) < (list.length : Int) then 3 else if isTab (cjT list) then 0 else 5) else 1
end
section
inductive Eqv (R : Int → Int → Prop) : Int → Int → Prop
  | refl (a : Int) : Eqv R a a
  | step {a b : Int} (h : R a b) : Eqv R a b
  | symm {a b : Int} (h : Eqv R a b) : Eqv R b a
  | trans {a b c : Int} (h : Eqv R a b) (k : Eqv R b c) : Eqv R a c
theorem Eqv.mono {R S : Int → Int → Prop} (h : ∀ a b, R a b → S a b) {a b : Int} (k : Eqv R a b) : Eqv S a b := by
  induction k with
  | refl a => exact .refl a
  | step k => exact .step (h _ _ k)
  | symm _ ih => exact .symm ih
  | trans _ _ ih1 ih2 => exact .trans ih1 ih2
end
section
def dgt (x : Int) : UInt8 := UInt8.ofNat (if x < 10 then 48 + x else 97 + x - 10).toNat
def digI (l : List Int) : List UInt8 := l.map dgt
@[simp] theorem digI_len (l : List Int) : (digI l).length = l.length := by simp [digI]
end
section

end
section
inductive Sc (t : List (List Int)) (l : List Int) : Int → Prop
  | base {a : Int} : a ∈ l → Sc t l a
  | step {a b : Int} : Sc t l a → Sc t l b → Sc t l (el (el t a) b)
theorem ran_lt (n : Int) : (ran n id).Pairwise (· < ·) := by
  unfold ran
  rw [List.pairwise_map]
  exact (List.pairwise_lt_range).imp fun h => by simp; omega
theorem bit_nat {m x : Int} (hm : 0 ≤ m) : bitP m x ↔ m.toNat.testBit x.toNat = true := by
  unfold bitP
  obtain ⟨k, rfl⟩ := Int.eq_ofNat_of_zero_le hm
  rw [Nat.testBit_eq_decide_div_mod_eq, decide_eq_true_eq, Int.toNat_natCast]
  have e : ((k : Int) / (2 : Int) ^ x.toNat) % 2 = (((k / 2 ^ x.toNat) % 2 : Nat) : Int) := by simp
  rw [e]; omega
theorem pow_cast (k : Nat) : (1 * (2 : Int) ^ k).toNat = 2 ^ k := by
  have : (1 * (2 : Int) ^ k) = ((2 ^ k : Nat) : Int) := by simp
  rw [this, Int.toNat_natCast]
theorem bit_or {m k x : Int} (hm : 0 ≤ m) (hk : 0 ≤ k) (hx : 0 ≤ x) : bitP (((m.toNat ||| (1 * (2 : Int) ^ k.toNat).toNat : Nat) : Int)) x ↔ bitP m x ∨ x = k := by
  rw [bit_nat (by omega), bit_nat hm, Int.toNat_natCast, pow_cast, Nat.testBit_or, Nat.testBit_two_pow, Bool.or_eq_true, decide_eq_true_eq]
  constructor
  · rintro (h | h)
    · exact .inl h
    · exact .inr (by omega)
  · rintro (h | h)
    · exact .inl h
    · exact .inr (by omega)
theorem or_lt2 {m k n : Int} (hm : 0 ≤ m ∧ m < (2 : Int) ^ n.toNat) (hk : 0 ≤ k ∧ k < n) : 0 ≤ (((m.toNat ||| (1 * (2 : Int) ^ k.toNat).toNat : Nat) : Int)) ∧ (((m.toNat ||| (1 * (2 : Int) ^ k.toNat).toNat : Nat) : Int)) < (2 : Int) ^ n.toNat := by
  refine ⟨by omega, ?_⟩
  rw [pow_cast]
  have e : (2 : Int) ^ n.toNat = ((2 ^ n.toNat : Nat) : Int) := by simp
  rw [e] at hm ⊢
  have h1 : m.toNat < 2 ^ n.toNat := by omega
  have h2 : 2 ^ k.toNat < 2 ^ n.toNat := Nat.pow_lt_pow_right (by omega) (by omega)
  exact_mod_cast Nat.or_lt_two_pow h1 h2

end
section
def bytes (l : List Int) : Prop := ∀ i, 0 ≤ i → i < (l.length : Int) → 0 ≤ el l i ∧ el l i ≤ 255
def okS (c : List Int) (a h : Int) : Prop := (small c ∧ bytes c) ∧ (0 ≤ a ∧ a ≤ (c.length : Int)) ∧ 0 ≤ h ∧ h ≤ 18446744073709551615
def nxP (n r : Int) : Prop := (n < 1 → r = 0) ∧ (¬ n < 1 → 0 ≤ r ∧ r < n)
theorem and_bd (x : Nat) : 0 ≤ ((x &&& (16777215 : Int).toNat : Nat) : Int) ∧ ((x &&& (16777215 : Int).toNat : Nat) : Int) ≤ 16777215 := by
  have : x &&& (16777215 : Int).toNat ≤ (16777215 : Int).toNat := Nat.and_le_right
  omega
theorem shr_bd {u : Int} (h : 0 ≤ u ∧ u ≤ 18446744073709551615) (k : Nat) : 0 ≤ u / (2 : Int) ^ k ∧ u / (2 : Int) ^ k ≤ 18446744073709551615 := by
  have a : 0 ≤ u / (2 : Int) ^ k := Int.ediv_nonneg h.1 (Int.pow_nonneg (by omega))
  have b : u / (2 : Int) ^ k ≤ u := Int.ediv_le_self _ h.1
  omega
def drT (most : Int) (t : List (List Int)) : Prop := (t.length : Int) ≤ most ∧ ∀ r ∈ t, (r.length : Int) ≤ 12 ∧ ∀ z ∈ r, 0 ≤ z ∧ z ≤ 12
theorem isTab_se {o : List (List Int)} (h : isTab o = true) {i j v : Int} (hi : 0 ≤ i ∧ i < (o.length : Int)) (hj : 0 ≤ j ∧ j < (o.length : Int)) (hv : 0 ≤ v ∧ v < (o.length : Int)) : isTab (se o i (se (el o i) j v)) = true := by
  have hl := isTab_len h
  have hlen : ((se o i (se (el o i) j v)).length : Int) = (o.length : Int) := by simp
  refine isTab_mk (by omega) fun x x0 x1 => ?_
  rw [hlen] at x1 ⊢
  by_cases hx : x = i
  · subst hx
    rw [el_se_same hi]
    refine ⟨by simpa using rk_len h hi, fun y y0 y1 => ?_⟩
    have lr := rk_len h hi
    by_cases hy : y = j
    · subst hy; rw [el_se_same (by omega)]; exact hv
    · rw [el_se_ne hj.1 y0 (Ne.symm hy)]; exact rk_el h hi ⟨y0, y1⟩
  · rw [el_se_ne hi.1 x0 (Ne.symm hx)]
    exact ⟨rk_len h ⟨x0, x1⟩, fun y y0 y1 => rk_el h ⟨x0, x1⟩ ⟨y0, y1⟩⟩

end
section
def growF : Nat → Int → List Int → List (List Int)
  | 0, _, s => [s]
  | k + 1, n, s => (unitI n).flatMap fun x => if s.contains x then [] else growF k n (s ++ [x])
def growL (n : Int) (s : List Int) : List (List Int) := growF (n - (s.length : Int)).toNat n s
theorem growL_end {n : Int} {s : List Int} (h : (s.length : Int) = n) : growL n s = [s] := by
  unfold growL; rw [show (n - (s.length : Int)).toNat = 0 by omega]; rfl
def growT (n : Int) (s : List Int) (x : Int) : List (List Int) := (unitI x).flatMap fun x => if s.contains x then [] else growL n (s ++ [x])
theorem growL_step {n : Int} {s : List Int} (h : (s.length : Int) < n) : growL n s = growT n s n := by
  unfold growL growT
  obtain ⟨k, hk⟩ : ∃ k, (n - (s.length : Int)).toNat = k + 1 := ⟨(n - (s.length : Int)).toNat - 1, by omega⟩
  rw [hk]
  show ((unitI n).flatMap fun x => if s.contains x then [] else growF k n (s ++ [x])) = _
  congr 1; funext x
  unfold growL
  rw [show (n - ((s ++ [x]).length : Int)).toNat = k by simp; omega]
theorem growT_succ {n : Int} {s : List Int} {x : Int} (h : 0 ≤ x) : growT n s (x + 1) = growT n s x ++ (if s.contains x then [] else growL n (s ++ [x])) := by
  unfold growT unitI
  rw [ran_succ _ h]
  simp
theorem growT_zero {n : Int} {s : List Int} : growT n s 0 = [] := rfl
theorem growT_len {n : Int} {s : List Int} {x y : Int} (h : 0 ≤ x ∧ x ≤ y) : (growT n s x).length ≤ (growT n s y).length := by
  obtain ⟨k, rfl⟩ : ∃ k : Nat, y = x + k := ⟨(y - x).toNat, by omega⟩
  induction k with
  | zero => simp
  | succ k ih =>
    have := ih ⟨h.1, by omega⟩
    rw [show x + ((k + 1 : Nat) : Int) = (x + (k : Int)) + 1 by omega, growT_succ (by omega)]
    simp; omega
theorem growF_len (n : Int) : ∀ (k : Nat) (s : List Int), (growF k n s).length ≤ n.toNat ^ k
  | 0, s => by simp [growF]
  | k + 1, s => by
    have key : ∀ l : List Int, (l.flatMap fun x => if s.contains x then [] else growF k n (s ++ [x])).length ≤ l.length * n.toNat ^ k := by
      intro l
      induction l with
      | nil => simp
      | cons a l ih =>
        rw [List.flatMap_cons, List.length_append, List.length_cons, Nat.succ_mul]
        have h1 : (if s.contains a then ([] : List (List Int)) else growF k n (s ++ [a])).length ≤ n.toNat ^ k := by
          split
          · simp
          · exact growF_len n k _
        omega
    have := key (unitI n)
    rw [length_unitI] at this
    show ((unitI n).flatMap fun x => if s.contains x then [] else growF k n (s ++ [x])).length ≤ _
    rw [Nat.pow_succ, Nat.mul_comm]; exact this
theorem growL_len8 {n : Int} (h : 0 ≤ n ∧ n ≤ 8) : ((growL n []).length : Int) ≤ 16777216 := by
  have h1 := growF_len n (n - (([] : List Int).length : Int)).toNat []
  have h2 : n.toNat ^ (n - (([] : List Int).length : Int)).toNat ≤ 8 ^ 8 :=
    Nat.le_trans (Nat.pow_le_pow_left (show n.toNat ≤ 8 by omega) _) (Nat.pow_le_pow_right (by omega) (by simp; omega))
  have h3 : (8 : Nat) ^ 8 = 16777216 := by decide
  unfold growL
  omega
def cj3 (A : List (List Int)) : Bool := decide (1 ≤ A.length) && decide (A.length ≤ 6) && A.all (fun p => decide (p.length = 3) && isPerm p && A.all fun q => A.contains (((backI p).map (el q)).map (el p)))
theorem isTab_rows {o : List (List Int)} {n : Int} (hn : 1 ≤ n ∧ n ≤ 12) (hl : (o.length : Int) = n) (h : ∀ r ∈ o, (r.length : Int) = n ∧ ∀ z ∈ r, 0 ≤ z ∧ z < n) : isTab o = true :=
  isTab_mk (by omega) fun i i0 i1 => by
    have hr := h _ (el_mem ⟨i0, i1⟩)
    exact ⟨by omega, fun j j0 j1 => by have := hr.2 _ (el_mem (i := j) ⟨j0, by omega⟩); omega⟩
theorem mem_app {α : Type} {l : List α} {x : α} {P : α → Prop} (h : ∀ z ∈ l, P z) (hx : P x) : ∀ z ∈ l ++ [x], P z := fun z hz => by
  rcases List.mem_append.1 hz with h1 | h1
  · exact h z h1
  · rw [List.mem_singleton.1 h1]; exact hx
end
section
section
variable {a b : List (List Int)}
end
end
section
def renT (t : List (List Int)) (p : List Int) : List (List Int) := tab (t.length : Int) fun u v => el p (el (el t (idxI p u)) (idxI p v))
section
variable {t : List (List Int)} {p : List Int} {x y : Int} {o : List (List Int)}
theorem renT_el (hp : isPerm p = true) (hl : (p.length : Int) = (t.length : Int)) (hx : 0 ≤ x ∧ x < (t.length : Int)) (hy : 0 ≤ y ∧ y < (t.length : Int)) : el (el (renT t p) (el p x)) (el p y) = el p (el (el t x) y) := by
  have px := isPerm_el hp (i := x) ⟨hx.1, by omega⟩
  have py := isPerm_el hp (i := y) ⟨hy.1, by omega⟩
  unfold renT
  rw [el_tab ⟨px.1, by omega⟩ ⟨py.1, by omega⟩, idxI_el hp ⟨hx.1, by omega⟩, idxI_el hp ⟨hy.1, by omega⟩]
theorem isTab_ren (ht : isTab t = true) (hp : isPerm p = true) (hl : (p.length : Int) = (t.length : Int)) : isTab (renT t p) = true :=
  isTab_tab (isTab_len ht) fun u v u0 u1 v0 v1 => by
    have a := (idxI_spec (isPerm_all hp (x := u) ⟨u0, by omega⟩)).1
    have b := (idxI_spec (isPerm_all hp (x := v) ⟨v0, by omega⟩)).1
    have c := rk_el ht (x := idxI p u) (y := idxI p v) ⟨a.1, by omega⟩ ⟨b.1, by omega⟩
    have := isPerm_el hp (i := el (el t (idxI p u)) (idxI p v)) ⟨c.1, by omega⟩
    omega
theorem renT_auto (ht : isTab t = true) (hp : isPerm p = true) (hl : (p.length : Int) = (t.length : Int)) (h : ∀ u v : Int, (0 ≤ u ∧ u < (t.length : Int)) → (0 ≤ v ∧ v < (t.length : Int)) → el p (el (el t u) v) = el (el t (el p u)) (el p v)) : renT t p = t := by
  have : renT t p = tab (t.length : Int) fun u v => el (el t u) v := by
    unfold renT tab
    refine ran_congr fun u u0 u1 => ran_congr fun v v0 v1 => ?_
    have a := idxI_spec (isPerm_all hp (x := u) ⟨u0, by omega⟩)
    have b := idxI_spec (isPerm_all hp (x := v) ⟨v0, by omega⟩)
    show el p (el (el t (idxI p u)) (idxI p v)) = el (el t u) v
    rw [h _ _ ⟨a.1.1, by omega⟩ ⟨b.1.1, by omega⟩, a.2, b.2]
  rw [this, ← tab_el ht]
end
section
variable {r : List (List Int)} (h : isRk r = true)
include h
end

end
section
/-! Least congruences. -/
section
variable {r : List (List Int)} (h : isRk r = true) {x y : Int} (hx : 0 ≤ x ∧ x < (r.length : Int)) (hy : 0 ≤ y ∧ y < (r.length : Int))
include h hx hy
end
/-! Least subracks. -/
section
variable {r : List (List Int)} (h : isRk r = true) {l : List Int} (hl : ∀ x ∈ l, 0 ≤ x ∧ x < (r.length : Int))
include h hl
end
end
section
section
variable {c : List (List Int)} (h : isCyc c = true)
include h
end
end
section
theorem drop_el {α : Type} [Inhabited α] {l : List α} {i : Int} (h : 0 ≤ i ∧ i < (l.length : Int)) : l.drop i.toNat = el l i :: l.drop (i.toNat + 1) := by
  have hi : i.toNat < l.length := by omega
  rw [List.drop_eq_getElem_cons hi]
  simp [el, List.getD_eq_getElem?_getD, List.getElem?_eq_getElem hi]
section
variable {α : Type} [Inhabited α] {f : α → α → Int} {a b : List α} {i : Int}
end
theorem growF_mem {n : Int} : ∀ (k : Nat) (s e : List Int), s.Nodup → (∀ x ∈ s, 0 ≤ x ∧ x < n) → e ∈ growF k n s → e.length = s.length + k ∧ e.Nodup ∧ ∀ x ∈ e, 0 ≤ x ∧ x < n
  | 0, s, e, h1, h2, h => by
    simp only [growF, List.mem_singleton] at h
    subst h; exact ⟨rfl, h1, h2⟩
  | k + 1, s, e, h1, h2, h => by
    simp only [growF, List.mem_flatMap] at h
    obtain ⟨x, hx, h⟩ := h
    have hx2 := mem_ran.1 (show x ∈ ran n id from hx)
    split at h
    · cases h
    · rename_i hc
      have hc' : ¬ x ∈ s := fun g => hc (List.contains_iff_mem.2 g)
      have := growF_mem k (s ++ [x]) e (List.nodup_append.2 ⟨h1, by simp, fun a ha b hb => by simp at hb; subst hb; intro g; subst g; exact hc' ha⟩) (mem_app h2 hx2) h
      refine ⟨by have := this.1; simp at this; omega, this.2⟩
theorem growL_perm {n : Int} (hn : 0 ≤ n) {e : List Int} (h : e ∈ growL n []) : (e.length : Int) = n ∧ isPerm e = true := by
  obtain ⟨h1, h2, h3⟩ := growF_mem _ [] e List.nodup_nil (by simp) h
  have hl : (e.length : Int) = n := by simp at h1; omega
  exact ⟨hl, isPerm_iff.2 ⟨h2, fun x hx => by have := h3 x hx; omega⟩⟩
end
section
def lexL (a b : List Int) : Prop := ∃ j, (0 ≤ j ∧ j < (a.length : Int)) ∧ Upto j (fun m => el a m = el b m) ∧ el a j < el b j
theorem lexL_trans {a b c : List Int} (hl : a.length = b.length) (h1 : lexL a b) (h2 : lexL b c) : lexL a c := by
  obtain ⟨j, hj, hu, hlt⟩ := h1
  obtain ⟨k, hk, hv, hlt2⟩ := h2
  rcases Int.lt_trichotomy j k with h | h | h
  · exact ⟨j, hj, fun m m0 m1 => (hu m m0 m1).trans (hv m m0 (by omega)), by rw [← hv j hj.1 h]; exact hlt⟩
  · subst h; exact ⟨j, hj, fun m m0 m1 => (hu m m0 m1).trans (hv m m0 m1), by omega⟩
  · exact ⟨k, ⟨hk.1, by omega⟩, fun m m0 m1 => (hu m m0 (by omega)).trans (hv m m0 m1), by rw [hu k hk.1 h]; exact hlt2⟩
theorem lexL_irrefl {a : List Int} : ¬ lexL a a := fun ⟨_, _, _, h⟩ => by omega
section
variable {p : List Int} {i k : Int}
end
theorem growF_pre {n : Int} : ∀ (k : Nat) (s e : List Int), e ∈ growF k n s → ∃ u, e = s ++ u
  | 0, s, e, h => by simp only [growF, List.mem_singleton] at h; exact ⟨[], by simp [h]⟩
  | k + 1, s, e, h => by
    simp only [growF, List.mem_flatMap] at h
    obtain ⟨x, _, h⟩ := h
    split at h
    · cases h
    · obtain ⟨u, rfl⟩ := growF_pre k _ e h; exact ⟨[x] ++ u, by simp⟩
theorem growF_sort {n : Int} : ∀ (k : Nat) (s : List Int), (growF k n s).Pairwise lexL
  | 0, s => by simp [growF]
  | k + 1, s => by
    simp only [growF]
    rw [List.pairwise_flatMap]
    refine ⟨fun x _ => ?_, ?_⟩
    · split
      · exact List.Pairwise.nil
      · exact growF_sort k _
    · refine (ran_lt n).imp ?_
      intro x y hxy a ha b hb
      split at ha
      · cases ha
      · split at hb
        · cases hb
        · obtain ⟨u, rfl⟩ := growF_pre k _ a ha
          obtain ⟨v, rfl⟩ := growF_pre k _ b hb
          have e1 : el (s ++ [x] ++ u) (s.length : Int) = x := by simp [el]
          have e2 : el (s ++ [y] ++ v) (s.length : Int) = y := by simp [el]
          refine ⟨(s.length : Int), ⟨by omega, by simp; omega⟩, fun m m0 m1 => ?_, by rw [e1, e2]; exact hxy⟩
          show el (s ++ [x] ++ u) m = el (s ++ [y] ++ v) m
          rw [List.append_assoc, List.append_assoc, el_append_l ⟨m0, m1⟩, el_append_l ⟨m0, m1⟩]
theorem growF_all {n : Int} : ∀ (k : Nat) (s u : List Int), (s ++ u).Nodup → (∀ x ∈ u, 0 ≤ x ∧ x < n) → u.length = k → s ++ u ∈ growF k n s
  | 0, s, u, _, _, h => by have := List.eq_nil_of_length_eq_zero h; subst this; simp [growF]
  | k + 1, s, [], _, _, h => by simp at h
  | k + 1, s, x :: u, hn, hr, h => by
    simp only [growF, List.mem_flatMap]
    refine ⟨x, mem_ran.2 (hr x (by simp)), ?_⟩
    have hx : ¬ x ∈ s := fun g => (List.nodup_append.1 hn).2.2 x g x (by simp) rfl
    rw [if_neg (by rw [List.contains_iff_mem]; exact hx)]
    have := growF_all k (s ++ [x]) u (by simpa using hn) (fun y hy => hr y (by simp [hy])) (by simpa using h)
    simpa using this
section
variable {n : Int}
theorem growL_all (hn : 0 ≤ n) {q : List Int} (hq : isPerm q = true) (hl : (q.length : Int) = n) : q ∈ growL n [] := by
  obtain ⟨h1, h2⟩ := isPerm_iff.1 hq
  exact growF_all _ [] q h1 (fun x hx => by have := h2 x hx; omega) (by simp; omega)
theorem growL_sort : (growL n []).Pairwise lexL := growF_sort _ _
end

end
section
theorem img_ren {t r : List (List Int)} {p : List Int} (ht : isTab t = true) (hP : isPerm p = true) (hl : (p.length : Int) = (t.length : Int)) (h1 : isTab r = true) (h2 : r.length = t.length)
    (h3 : ∀ u v : Int, (0 ≤ u ∧ u < (t.length : Int)) → (0 ≤ v ∧ v < (t.length : Int)) → el (el r (el p u)) (el p v) = el p (el (el t u) v)) : r = renT t p := by
  have hr := isTab_ren ht hP hl
  have hn := isTab_len ht
  have lr : ((renT t p).length : Int) = (t.length : Int) := len_tab (by omega)
  rw [tab_el h1, tab_el hr, show (r.length : Int) = (t.length : Int) by omega, lr]
  refine tab_congr fun x y x0 x1 y0 y1 => ?_
  obtain ⟨u, hu, rfl⟩ := isPerm_surj hP (x := x) ⟨x0, by omega⟩
  obtain ⟨v, hv, rfl⟩ := isPerm_surj hP (x := y) ⟨y0, by omega⟩
  rw [h3 u v ⟨hu.1, by omega⟩ ⟨hv.1, by omega⟩, renT_el hP hl ⟨hu.1, by omega⟩ ⟨hv.1, by omega⟩]

end
section
def LexS (n : Nat) (l : List (List Int)) : Prop := l.Pairwise lexL ∧ ∀ x ∈ l, x.length = n
theorem LexS.tail {n : Nat} {a : List Int} {l : List (List Int)} (h : LexS n (a :: l)) : LexS n l := ⟨(List.pairwise_cons.1 h.1).2, fun x hx => h.2 x (List.mem_cons_of_mem _ hx)⟩
theorem lexS_uniq {n : Nat} : ∀ {a b : List (List Int)}, LexS n a → LexS n b → (∀ x, x ∈ a ↔ x ∈ b) → a = b
  | [], [], _, _, _ => rfl
  | [], y :: b, _, _, h => by have := (h y).2 List.mem_cons_self; cases this
  | x :: a, [], _, _, h => by have := (h x).1 List.mem_cons_self; cases this
  | x :: a, y :: b, ha, hb, h => by
    have pa := List.pairwise_cons.1 ha.1
    have pb := List.pairwise_cons.1 hb.1
    have e : x = y := by
      rcases List.mem_cons.1 ((h x).1 List.mem_cons_self) with e | h1
      · exact e
      · rcases List.mem_cons.1 ((h y).2 List.mem_cons_self) with e | h2
        · exact e.symm
        · exact absurd (lexL_trans (by rw [ha.2 x List.mem_cons_self, hb.2 y List.mem_cons_self]) (pa.1 y h2) (pb.1 x h1)) lexL_irrefl
    subst e
    rw [lexS_uniq ha.tail hb.tail fun z => ?_]
    constructor
    · intro hz
      rcases List.mem_cons.1 ((h z).1 (List.mem_cons_of_mem _ hz)) with e | h1
      · subst e; exact absurd (pa.1 z hz) lexL_irrefl
      · exact h1
    · intro hz
      rcases List.mem_cons.1 ((h z).2 (List.mem_cons_of_mem _ hz)) with e | h1
      · subst e; exact absurd (pb.1 z hz) lexL_irrefl
      · exact h1
def thnI (p q : List Int) : List Int := p.map (el q)
theorem thn_len (p q : List Int) : (thnI p q).length = p.length := by simp [thnI]
theorem thn_el {p q : List Int} {i : Int} (hi : 0 ≤ i ∧ i < (p.length : Int)) : el (thnI p q) i = el q (el p i) := el_map hi
theorem perm_mk {p : List Int} (h : ∀ i, 0 ≤ i → i < (p.length : Int) → 0 ≤ el p i ∧ el p i < (p.length : Int)) (hi : ∀ i j, 0 ≤ i → i < j → j < (p.length : Int) → el p i ≠ el p j) : isPerm p = true :=
  isPerm_iff.2 ⟨nodup_el.2 hi, fun x hx => by obtain ⟨i, hi, rfl⟩ := mem_el hx; exact h i hi.1 hi.2⟩
theorem thn_perm {p q : List Int} (hp : isPerm p = true) (hq : isPerm q = true) (hl : p.length = q.length) : isPerm (thnI p q) = true := by
  have e := thn_len p q
  refine perm_mk (fun i i0 i1 => ?_) fun i j i0 ij j1 => ?_
  · rw [e] at i1 ⊢
    rw [thn_el ⟨i0, i1⟩]
    have h1 := isPerm_el hp ⟨i0, i1⟩
    have h2 := isPerm_el hq (i := el p i) ⟨h1.1, by omega⟩
    omega
  · rw [e] at j1
    rw [thn_el ⟨i0, by omega⟩, thn_el ⟨by omega, j1⟩]
    intro h
    have a1 := isPerm_el hp (i := i) ⟨i0, by omega⟩
    have a2 := isPerm_el hp (i := j) ⟨by omega, j1⟩
    have := isPerm_inj hq ⟨a1.1, by omega⟩ ⟨a2.1, by omega⟩ h
    have := isPerm_inj hp ⟨i0, by omega⟩ ⟨by omega, j1⟩ this
    omega
section
variable {x y : List Int}
end
theorem grow_iff {n : Int} (hn : 0 ≤ n) {q : List Int} : q ∈ growL n [] ↔ (q.length : Int) = n ∧ isPerm q = true := ⟨growL_perm hn, fun h => growL_all hn h.2 h.1⟩
section
variable {p : List Int} (hp : permB p = true)
include hp
end
end
section
theorem unit_perm {n : Int} (_hn : 0 ≤ n) : isPerm (unitI n) = true := isPerm_iff.2 ⟨nodup_ran n, fun x hx => by
  have := mem_ran.1 hx
  have hl : ((unitI n).length : Int) = n := by simp [unitI]; omega
  omega⟩
theorem unit_len {n : Int} (_hn : 0 ≤ n) : ((unitI n).length : Int) = n := by simp [unitI]; omega
section
variable {n : Int} {list : List (List Int)} (hn : 1 ≤ n ∧ n ≤ 12) (hP : permsN n list)
include hn hP
end
section
variable {n : Int} {list q : List (List Int)} {i k : Int}
end
end
section
structure OkM (a b : List (List (List Int))) (f : List Int) (u : List Bool) (s : List Int) : Prop where
  la : a.length = b.length
  ha : ∀ k, 0 ≤ k → k < (a.length : Int) → isTab (el a k) = true ∧ (el a k).length = f.length
  hb : ∀ k, 0 ≤ k → k < (b.length : Int) → isTab (el b k) = true ∧ (el b k).length = f.length
  sm : (a.length : Int) ≤ 1000
  lu : u.length = f.length
  n12 : 1 ≤ (f.length : Int) ∧ (f.length : Int) ≤ 12
  nd : s.Nodup
  mem : ∀ x, x ∈ s ↔ (0 ≤ x ∧ x < (f.length : Int)) ∧ 0 ≤ el f x
  val : ∀ x, 0 ≤ x → x < (f.length : Int) → el f x = -1 ∨ (0 ≤ el f x ∧ el f x < (f.length : Int))
  use : ∀ v, 0 ≤ v → v < (f.length : Int) → (el u v = true ↔ ∃ x, x ∈ s ∧ el f x = v)
  inj : ∀ x ∈ s, ∀ y ∈ s, el f x = el f y → x = y
def el3 (a : List (List (List Int))) (k x y : Int) : Int := el (el (el a k) x) y
def IsoP (a b : List (List (List Int))) (p : List Int) : Prop := isPerm p = true ∧ ∀ k, 0 ≤ k → k < (a.length : Int) → ∀ x y, (0 ≤ x ∧ x < (p.length : Int)) → (0 ≤ y ∧ y < (p.length : Int)) → el p (el3 a k x y) = el3 b k (el p x) (el p y)
def ExtI (f p : List Int) : Prop := ∀ x, 0 ≤ x → x < (f.length : Int) → 0 ≤ el f x → el p x = el f x
def Ck1 (a b : List (List (List Int))) (f : List Int) (k x y : Int) : Prop := el f (el3 a k x y) = el3 b k (el f x) (el f y)
def Ck (a b : List (List (List Int))) (f : List Int) (x y : Int) : Prop := ∀ k, 0 ≤ k → k < (a.length : Int) → Ck1 a b f k x y ∧ Ck1 a b f k y x
def Dn (a b : List (List (List Int))) (f s : List Int) (c : Int) : Prop := ∀ j i, c ≤ j → j < (s.length : Int) → 0 ≤ i → i ≤ j → Ck a b f (el s j) (el s i)
def AsgP (a b : List (List (List Int))) (f : List Int) (_u : List Bool) (s : List Int) (x v : Int) (r : Bool) (f' : List Int) (u' : List Bool) (s' : List Int) : Prop :=
  OkM a b f' u' s' ∧ f'.length = f.length ∧ (∃ t, s' = s ++ t) ∧ (∀ y ∈ s, el f' y = el f y) ∧ (r = true → el f' x = v ∧ Dn a b f' s' (s.length : Int)) ∧
  ∀ p, p.length = f.length → IsoP a b p → ExtI f p → el p x = v → r = true ∧ ExtI f' p
section
variable {a b : List (List (List Int))} {f f' : List Int} {u u' : List Bool} {s s' : List Int}
theorem OkM.a_in (h : OkM a b f u s) {k x y : Int} (hk : 0 ≤ k ∧ k < (a.length : Int)) (hx : 0 ≤ x ∧ x < (f.length : Int)) (hy : 0 ≤ y ∧ y < (f.length : Int)) :
    (x < ((el a k).length : Int)) ∧ (y < ((el (el a k) x).length : Int)) ∧ 0 ≤ el3 a k x y ∧ el3 a k x y < (f.length : Int) := by
  obtain ⟨h1, h2⟩ := h.ha k hk.1 hk.2
  have := isTab_row h1 (i := x) ⟨hx.1, by omega⟩
  have h3 := this.2 y hy.1 (by omega)
  exact ⟨by omega, by omega, h3.1, by have := h3.2; show el (el (el a k) x) y < _; omega⟩
theorem OkM.b_in (h : OkM a b f u s) {k x y : Int} (hk : 0 ≤ k ∧ k < (a.length : Int)) (hx : 0 ≤ x ∧ x < (f.length : Int)) (hy : 0 ≤ y ∧ y < (f.length : Int)) :
    (k < (b.length : Int)) ∧ (x < ((el b k).length : Int)) ∧ (y < ((el (el b k) x).length : Int)) ∧ 0 ≤ el3 b k x y ∧ el3 b k x y < (f.length : Int) := by
  have hl := h.la
  obtain ⟨h1, h2⟩ := h.hb k hk.1 (by omega)
  have := isTab_row h1 (i := x) ⟨hx.1, by omega⟩
  have h3 := this.2 y hy.1 (by omega)
  exact ⟨by omega, by omega, by omega, h3.1, by have := h3.2; show el (el (el b k) x) y < _; omega⟩
theorem OkM.in_s (h : OkM a b f u s) {x : Int} (hx : x ∈ s) : (0 ≤ x ∧ x < (f.length : Int)) ∧ 0 ≤ el f x ∧ el f x < (f.length : Int) := by
  have h1 := (h.mem x).1 hx
  have := h.val x h1.1.1 h1.1.2
  exact ⟨h1.1, h1.2, by omega⟩
theorem OkM.len (h : OkM a b f u s) : (s.length : Int) ≤ (f.length : Int) := nodup_len_ran (by omega) h.nd fun x hx => (h.in_s hx).1
theorem OkM.room (h : OkM a b f u s) {x : Int} (hx : 0 ≤ x ∧ x < (f.length : Int)) (hn : ¬ 0 ≤ el f x) : (s.length : Int) + 1 ≤ (f.length : Int) := by
  have hx2 : x ∉ s := fun hm => hn ((h.mem x).1 hm).2
  have : ((x :: s).length : Int) ≤ (f.length : Int) := nodup_len_ran (by omega) (List.nodup_cons.2 ⟨hx2, h.nd⟩) fun z hz => by
    rcases List.mem_cons.1 hz with rfl | hz
    · exact hx
    · exact (h.in_s hz).1
  simp at this; omega
theorem OkM.add (h : OkM a b f u s) {x v : Int} (hx : 0 ≤ x ∧ x < (f.length : Int)) (hn : ¬ 0 ≤ el f x) (hv : 0 ≤ v ∧ v < (f.length : Int)) (hu : el u v = false) : OkM a b (se f x v) (se u v true) (s ++ [x]) := by
  have hl : (se f x v).length = f.length := by simp
  have hx2 : x ∉ s := fun hm => hn ((h.mem x).1 hm).2
  have same : ∀ y, 0 ≤ y → y ≠ x → el (se f x v) y = el f y := fun y y0 hy => el_se_ne hx.1 y0 (Ne.symm hy)
  have here : el (se f x v) x = v := el_se_same hx
  have old : ∀ y ∈ s, el (se f x v) y = el f y := fun y hy => same y (h.in_s hy).1.1 fun e => hx2 (e ▸ hy)
  refine ⟨h.la, fun k a b => by rw [hl]; exact h.ha k a b, fun k a b => by rw [hl]; exact h.hb k a b, h.sm, by simp [h.lu], by rw [hl]; exact h.n12, List.nodup_append.2 ⟨h.nd, by simp, fun y hy z hz e => by rw [List.mem_singleton.1 hz] at e; exact hx2 (e ▸ hy)⟩, fun y => ?_, fun y y0 y1 => ?_, fun w w0 w1 => ?_, fun y hy z hz e => ?_⟩
  · rw [hl, List.mem_append, List.mem_singleton, h.mem]
    by_cases e : y = x
    · subst e; rw [here]; exact ⟨fun _ => ⟨hx, hv.1⟩, fun _ => .inr rfl⟩
    · constructor
      · rintro (k | k)
        · exact ⟨k.1, by rw [same y k.1.1 e]; exact k.2⟩
        · exact absurd k e
      · rintro ⟨k1, k2⟩; exact .inl ⟨k1, by rwa [same y k1.1 e] at k2⟩
  · rw [hl] at y1 ⊢
    by_cases e : y = x
    · subst e; rw [here]; exact .inr hv
    · rw [same y y0 e]; exact h.val y y0 y1
  · rw [hl] at w1
    by_cases e : w = v
    · subst e; rw [el_se_same ⟨w0, by rw [h.lu]; exact w1⟩]; exact ⟨fun _ => ⟨x, by simp, here⟩, fun _ => rfl⟩
    · rw [el_se_ne hv.1 w0 (Ne.symm e), h.use w w0 w1]
      constructor
      · rintro ⟨y, hy, e2⟩; exact ⟨y, List.mem_append_left _ hy, by rw [old y hy]; exact e2⟩
      · rintro ⟨y, hy, e2⟩
        rcases List.mem_append.1 hy with hy | hy
        · exact ⟨y, hy, by rw [← old y hy]; exact e2⟩
        · rw [List.mem_singleton.1 hy, here] at e2; exact absurd e2.symm e
  · have nov : ∀ y ∈ s, el f y ≠ v := fun y hy e => by
      have := (h.use v hv.1 hv.2).2 ⟨y, hy, e⟩
      rw [hu] at this; cases this
    rcases List.mem_append.1 hy with hy | hy <;> rcases List.mem_append.1 hz with hz | hz
    · rw [old y hy, old z hz] at e; exact h.inj y hy z hz e
    · rw [List.mem_singleton.1 hz, here, old y hy] at e; exact absurd e (nov y hy)
    · rw [List.mem_singleton.1 hy, here, old z hz] at e; exact absurd e.symm (nov z hz)
    · rw [List.mem_singleton.1 hy, List.mem_singleton.1 hz]
theorem OkM.del {A B : List Int} {z : Int} (h : OkM a b f u (A ++ z :: B)) : OkM a b (se f z (-1)) (se u (el f z) false) (A ++ B) ∧ ∀ y ∈ A ++ B, el (se f z (-1)) y = el f y := by
  have hl : (se f z (-1)).length = f.length := by simp
  have hz := h.in_s (x := z) (by simp)
  have nd := h.nd
  have hzn : z ∉ A ++ B := fun hm => by
    obtain ⟨n1, n2, n3⟩ := List.nodup_append.1 nd
    rcases List.mem_append.1 hm with hm | hm
    · exact n3 z hm z (by simp) rfl
    · exact (List.nodup_cons.1 n2).1 hm
  have sub : ∀ y, y ∈ A ++ z :: B ↔ y = z ∨ y ∈ A ++ B := fun y => by
    simp only [List.mem_append, List.mem_cons]
    constructor
    · rintro (k | k | k) <;> simp [k]
    · rintro (k | k | k) <;> simp [k]
  have same : ∀ y, 0 ≤ y → y ≠ z → el (se f z (-1)) y = el f y := fun y y0 hy => el_se_ne hz.1.1 y0 (Ne.symm hy)
  have here : el (se f z (-1)) z = -1 := el_se_same hz.1
  have old : ∀ y ∈ A ++ B, el (se f z (-1)) y = el f y := fun y hy => same y (h.in_s ((sub y).2 (.inr hy))).1.1 fun e => hzn (e ▸ hy)
  refine ⟨⟨h.la, fun k a b => by rw [hl]; exact h.ha k a b, fun k a b => by rw [hl]; exact h.hb k a b, h.sm, by simp [h.lu], by rw [hl]; exact h.n12, ?_, fun y => ?_, fun y y0 y1 => ?_, fun w w0 w1 => ?_, fun y hy y' hy' e => ?_⟩, old⟩
  · obtain ⟨n1, n2, n3⟩ := List.nodup_append.1 nd
    exact List.nodup_append.2 ⟨n1, (List.nodup_cons.1 n2).2, fun p hp q hq => n3 p hp q (List.mem_cons_of_mem _ hq)⟩
  · rw [hl]
    by_cases e : y = z
    · subst e; rw [here]; exact ⟨fun k => absurd k hzn, fun k => by omega⟩
    · have : y ∈ A ++ B ↔ y ∈ A ++ z :: B := ⟨fun k => (sub y).2 (.inr k), fun k => ((sub y).1 k).resolve_left e⟩
      rw [this, h.mem]
      constructor
      · rintro ⟨k1, k2⟩; exact ⟨k1, by rw [same y k1.1 e]; exact k2⟩
      · rintro ⟨k1, k2⟩; exact ⟨k1, by rwa [same y k1.1 e] at k2⟩
  · rw [hl] at y1 ⊢
    by_cases e : y = z
    · subst e; rw [here]; exact .inl rfl
    · rw [same y y0 e]; exact h.val y y0 y1
  · rw [hl] at w1
    by_cases e : w = el f z
    · subst e
      rw [el_se_same ⟨w0, by rw [h.lu]; exact w1⟩]
      refine ⟨fun k => absurd k (by simp), fun ⟨y, hy, e2⟩ => ?_⟩
      rw [old y hy] at e2
      have := h.inj y ((sub y).2 (.inr hy)) z (by simp) e2
      exact absurd (this ▸ hy) hzn
    · rw [el_se_ne hz.2.1 w0 (Ne.symm e), h.use w w0 w1]
      constructor
      · rintro ⟨y, hy, e2⟩
        rcases (sub y).1 hy with rfl | hy
        · exact absurd e2.symm e
        · exact ⟨y, hy, by rw [old y hy]; exact e2⟩
      · rintro ⟨y, hy, e2⟩; exact ⟨y, (sub y).2 (.inr hy), by rw [← old y hy]; exact e2⟩
  · rw [old y hy, old y' hy'] at e
    exact h.inj y ((sub y).2 (.inr hy)) y' ((sub y').2 (.inr hy')) e
theorem ck1_mono (h : OkM a b f u s) (_h' : OkM a b f' u' s') (_hl : f'.length = f.length) (hag : ∀ y ∈ s, el f' y = el f y) {k x y : Int} (hk : 0 ≤ k ∧ k < (a.length : Int)) (hx : x ∈ s) (hy : y ∈ s) (hc : Ck1 a b f k x y) : Ck1 a b f' k x y := by
  have gx := h.in_s hx
  have gy := h.in_s hy
  have h1 := h.a_in hk gx.1 gy.1
  have h2 := h.b_in hk gx.2 gy.2
  unfold Ck1 at hc ⊢
  have hm : el3 a k x y ∈ s := (h.mem _).2 ⟨h1.2.2, by rw [hc]; exact h2.2.2.2.1⟩
  rw [hag x hx, hag y hy, hag _ hm, hc]
theorem ck_mono (h : OkM a b f u s) (h' : OkM a b f' u' s') (hl : f'.length = f.length) (hag : ∀ y ∈ s, el f' y = el f y) {x y : Int} (hx : x ∈ s) (hy : y ∈ s) (hc : Ck a b f x y) : Ck a b f' x y := fun k k0 k1 =>
  ⟨ck1_mono h h' hl hag ⟨k0, k1⟩ hx hy (hc k k0 k1).1, ck1_mono h h' hl hag ⟨k0, k1⟩ hy hx (hc k k0 k1).2⟩
theorem dn_mono (h : OkM a b f u s) (h' : OkM a b f' u' s') (hl : f'.length = f.length) (hag : ∀ y ∈ s, el f' y = el f y) (hp : ∃ t, s' = s ++ t) {c : Int} (hc0 : 0 ≤ c) (hd : Dn a b f s c) (hd' : Dn a b f' s' (s.length : Int)) : Dn a b f' s' c := fun j i h1 h2 h3 h4 => by
  obtain ⟨t, rfl⟩ := hp
  by_cases hj : j < (s.length : Int)
  · rw [el_append_l ⟨by omega, hj⟩, el_append_l ⟨h3, by omega⟩]
    exact ck_mono h h' hl hag (el_mem ⟨by omega, hj⟩) (el_mem ⟨h3, by omega⟩) (hd j i h1 hj h3 h4)
  · exact hd' j i (by omega) h2 h3 h4
theorem okM_uniq (h : OkM a b f u s) (h' : OkM a b f' u' s) (hl : f'.length = f.length) (hag : ∀ y ∈ s, el f' y = el f y) : f' = f ∧ u' = u := by
  have e : f' = f := ext_el hl fun i i0 i1 => by
    by_cases hi : i ∈ s
    · exact hag i hi
    · have g1 := h.val i i0 (by omega)
      have g2 := h'.val i i0 i1
      have k1 := mt (h.mem i).2 hi
      have k2 := mt (h'.mem i).2 hi
      have : ¬ 0 ≤ el f i := fun k => k1 ⟨⟨i0, by omega⟩, k⟩
      have : ¬ 0 ≤ el f' i := fun k => k2 ⟨⟨i0, i1⟩, k⟩
      omega
  subst e
  refine ⟨rfl, ext_el (by rw [h'.lu, h.lu]) fun i i0 i1 => ?_⟩
  have := (h'.use i i0 (by rw [← h'.lu]; exact i1)).trans (h.use i i0 (by rw [← h'.lu]; exact i1)).symm
  rwa [Bool.eq_iff_iff]
end

end
section
noncomputable def extL (a b : List (List (List Int))) (f : List Int) : List (List Int) := (growL (f.length : Int) []).filter fun p => dec (IsoP a b p ∧ ExtI f p)
noncomputable def isoL (a b : List (List (List Int))) : List (List Int) := if (el a 0).length = (el b 0).length then (growL ((el a 0).length : Int) []).filter fun p => dec (IsoP a b p) else []
def TabsP (t : List (List (List Int))) : Prop := 1 ≤ (t.length : Int) ∧ (t.length : Int) ≤ 1000 ∧ ∀ k, 0 ≤ k → k < (t.length : Int) → isTab (el t k) = true ∧ (el t k).length = (el t 0).length
def SubL (L E : List (List Int)) (k : Nat) : Prop := ∀ (i : Nat) (e : List Int), E[i]? = some e → L[k + i]? = some e
def ExPre (L : List (List Int)) (z : Option Nat) (a b : List (List (List Int))) (f : List Int) (u : List Bool) (s : List Int) : Prop := ∃ k, z = some k ∧ OkM a b f u s ∧ Dn a b f s 0 ∧ SubL L (extL a b f) k
def ExPost (z : Option Nat) (a b : List (List (List Int))) (f : List Int) (r : Bool) (z' : Option Nat) : Prop := ∃ k, z = some k ∧ ((r = true ∧ z' = some (k + (extL a b f).length)) ∨ (r = false ∧ z' = none))
section
variable {a b : List (List (List Int))} {f : List Int}
theorem mem_ext {p : List Int} : p ∈ extL a b f ↔ p.length = f.length ∧ IsoP a b p ∧ ExtI f p := by
  unfold extL
  rw [List.mem_filter, dec_iff, grow_iff (by omega)]
  exact ⟨fun h => ⟨by have := h.1.1; omega, h.2⟩, fun h => ⟨⟨by have := h.1; omega, h.2.1.1⟩, h.2⟩⟩
theorem ext_lex : LexS f.length (extL a b f) := ⟨List.Pairwise.filter _ growL_sort, fun _ hp => (mem_ext.1 hp).1⟩
theorem LexS.filter {n : Nat} {l : List (List Int)} (h : LexS n l) (q : List Int → Bool) : LexS n (l.filter q) := ⟨List.Pairwise.filter _ h.1, fun x hx => h.2 x (List.mem_filter.1 hx).1⟩
theorem ext_whole {u : List Bool} {s : List Int} (h : OkM a b f u s) (hd : Dn a b f s 0) (hall : ∀ x, 0 ≤ x → x < (f.length : Int) → 0 ≤ el f x) : extL a b f = [f] := by
  have hs : ∀ x, 0 ≤ x → x < (f.length : Int) → x ∈ s := fun x x0 x1 => (h.mem x).2 ⟨⟨x0, x1⟩, hall x x0 x1⟩
  have hp : isPerm f = true := perm_mk (fun i i0 i1 => ⟨hall i i0 i1, (h.in_s (hs i i0 i1)).2.2⟩) fun i j i0 ij j1 e => by
    have := h.inj i (hs i i0 (by omega)) j (hs j (by omega) j1) e; omega
  have hi : IsoP a b f := ⟨hp, fun k k0 k1 x y hx hy => by
    obtain ⟨j, hj, ej⟩ := mem_el (hs x hx.1 hx.2)
    obtain ⟨i, hi, ei⟩ := mem_el (hs y hy.1 hy.2)
    rcases Int.lt_or_le i j with g | g
    · have := (hd j i (by omega) hj.2 hi.1 (by omega) k k0 k1).1
      rw [ej, ei] at this; exact this
    · have := (hd i j (by omega) hi.2 hj.1 g k k0 k1).2
      rw [ej, ei] at this; exact this⟩
  refine lexS_uniq ext_lex (b := [f]) ⟨List.pairwise_singleton _ _, fun x hx => by rw [List.mem_singleton.1 hx]⟩ fun p => ?_
  rw [mem_ext, List.mem_singleton]
  constructor
  · rintro ⟨h1, _, h3⟩; exact ext_el h1 fun i i0 i1 => h3 i i0 (by omega) (hall i i0 (by omega))
  · rintro rfl; exact ⟨rfl, hi, fun _ _ _ _ => rfl⟩
noncomputable def exA (a b : List (List (List Int))) (f : List Int) (x v : Int) : List (List Int) := (extL a b f).filter fun p => decide (el p x < v)
noncomputable def exB (a b : List (List (List Int))) (f : List Int) (x v : Int) : List (List Int) := (extL a b f).filter fun p => decide (el p x = v)
theorem mem_exA {x v : Int} {p : List Int} : p ∈ exA a b f x v ↔ p ∈ extL a b f ∧ el p x < v := by unfold exA; rw [List.mem_filter, decide_eq_true_eq]
theorem mem_exB {x v : Int} {p : List Int} : p ∈ exB a b f x v ↔ p ∈ extL a b f ∧ el p x = v := by unfold exB; rw [List.mem_filter, decide_eq_true_eq]
theorem ext_lt {x : Int} (hx : 0 ≤ x ∧ x < (f.length : Int)) (hb : ∀ y, 0 ≤ y → y < x → 0 ≤ el f y) {p q : List Int} (hp : p ∈ extL a b f) (hq : q ∈ extL a b f) (h : el p x < el q x) : lexL p q := by
  obtain ⟨p1, _, p3⟩ := mem_ext.1 hp
  obtain ⟨q1, _, q3⟩ := mem_ext.1 hq
  exact ⟨x, ⟨hx.1, by omega⟩, fun y y0 y1 => by show el p y = el q y; rw [p3 y y0 (by omega) (hb y y0 y1), q3 y y0 (by omega) (hb y y0 y1)], h⟩
theorem exA_succ {x v : Int} (hx : 0 ≤ x ∧ x < (f.length : Int)) (hb : ∀ y, 0 ≤ y → y < x → 0 ≤ el f y) : exA a b f x (v + 1) = exA a b f x v ++ exB a b f x v := by
  refine lexS_uniq (ext_lex.filter _) ⟨List.pairwise_append.2 ⟨(ext_lex.filter _).1, (ext_lex.filter _).1, fun p hp q hq => ?_⟩, fun z hz => ?_⟩ fun p => ?_
  · have h1 := mem_exA.1 hp
    have h2 := mem_exB.1 hq
    exact ext_lt hx hb h1.1 h2.1 (by omega)
  · rcases List.mem_append.1 hz with hz | hz
    · exact (mem_ext.1 (mem_exA.1 hz).1).1
    · exact (mem_ext.1 (mem_exB.1 hz).1).1
  · show p ∈ exA a b f x (v + 1) ↔ _
    rw [List.mem_append, mem_exA, mem_exA, mem_exB]
    constructor
    · rintro ⟨h1, h2⟩
      by_cases e : el p x = v
      · exact .inr ⟨h1, e⟩
      · exact .inl ⟨h1, by omega⟩
    · rintro (⟨h1, h2⟩ | ⟨h1, h2⟩) <;> exact ⟨h1, by omega⟩
theorem exA_pre {x v : Int} (hx : 0 ≤ x ∧ x < (f.length : Int)) (hb : ∀ y, 0 ≤ y → y < x → 0 ≤ el f y) : ∃ R, extL a b f = exA a b f x v ++ R := by
  refine ⟨(extL a b f).filter fun p => decide (v ≤ el p x), lexS_uniq ext_lex ⟨List.pairwise_append.2 ⟨(ext_lex.filter _).1, (ext_lex.filter _).1, fun p hp q hq => ?_⟩, fun z hz => ?_⟩ fun p => ?_⟩
  · have h1 := mem_exA.1 hp
    have h2 := List.mem_filter.1 hq
    exact ext_lt hx hb h1.1 h2.1 (by have := of_decide_eq_true h2.2; omega)
  · rcases List.mem_append.1 hz with hz | hz
    · exact (mem_ext.1 (mem_exA.1 hz).1).1
    · exact (mem_ext.1 (List.mem_filter.1 hz).1).1
  · rw [List.mem_append, mem_exA, List.mem_filter, decide_eq_true_eq]
    constructor
    · intro h
      by_cases e : el p x < v
      · exact .inl ⟨h, e⟩
      · exact .inr ⟨h, by omega⟩
    · rintro (⟨h, _⟩ | ⟨h, _⟩) <;> exact h
theorem exA_zero {x : Int} (hx : 0 ≤ x ∧ x < (f.length : Int)) : exA a b f x 0 = [] := by
  refine List.eq_nil_iff_forall_not_mem.2 fun p hp => ?_
  obtain ⟨h1, h2⟩ := mem_exA.1 hp
  obtain ⟨p1, p2, _⟩ := mem_ext.1 h1
  have := isPerm_el p2.1 (i := x) ⟨hx.1, by omega⟩
  omega
theorem exA_all {x : Int} (hx : 0 ≤ x ∧ x < (f.length : Int)) : exA a b f x (f.length : Int) = extL a b f := by
  unfold exA
  refine List.filter_eq_self.2 fun p hp => decide_eq_true ?_
  obtain ⟨p1, p2, _⟩ := mem_ext.1 hp
  have := isPerm_el p2.1 (i := x) ⟨hx.1, by omega⟩
  omega
theorem exB_asg {u u' : List Bool} {s s' f' : List Int} {x v : Int} (hx : 0 ≤ x ∧ x < (f.length : Int)) (hv0 : 0 ≤ v) (h : OkM a b f u s) (hr : AsgP a b f u s x v true f' u' s') : extL a b f' = exB a b f x v := by
  obtain ⟨g1, g2, _, g4, g5, g6⟩ := hr
  have hlx : LexS f.length (extL a b f') := by have := ext_lex (a := a) (b := b) (f := f'); rwa [g2] at this
  refine lexS_uniq hlx (ext_lex.filter _) fun p => ?_
  show _ ↔ p ∈ exB a b f x v
  rw [mem_exB, mem_ext, mem_ext]
  constructor
  · rintro ⟨h1, h2, h3⟩
    refine ⟨⟨by omega, h2, fun y y0 y1 y2 => ?_⟩, ?_⟩
    · have hy : y ∈ s := (h.mem y).2 ⟨⟨y0, y1⟩, y2⟩
      have := g4 y hy
      rw [h3 y y0 (by omega) (by omega), this]
    · have hv := (g5 rfl).1
      rw [h3 x hx.1 (by omega) (by omega)]; exact hv
  · rintro ⟨⟨h1, h2, h3⟩, h4⟩
    exact ⟨by omega, h2, (g6 p h1 h2 h3 h4).2⟩
end

end
section
theorem len_ran {α : Type} {n : Int} {f : Int → α} (h : 0 ≤ n) : ((ran n f).length : Int) = n := by unfold ran; simp; omega
section
variable {a b : List (List (List Int))} {p c d : List Int}
end
end
section
def AutE (r : List (List Int)) : Int := if isRk r = true then (if 7 < (r.length : Int) then 3 else 0) else 1
noncomputable def AutV (r : List (List Int)) : Int := if AutE r = 0 then ((isoL [r] [r]).length : Int) else 0
theorem iso1 {r s : List (List Int)} {p : List Int} : IsoP [r] [s] p ↔ isPerm p = true ∧ ∀ x y, (0 ≤ x ∧ x < (p.length : Int)) → (0 ≤ y ∧ y < (p.length : Int)) → el p (el (el r x) y) = el (el s (el p x)) (el p y) :=
  ⟨fun h => ⟨h.1, fun x y hx hy => h.2 0 (by omega) (by simp) x y hx hy⟩, fun h => ⟨h.1, fun k k0 k1 x y hx hy => by
    have hk : k = 0 := by simp at k1; omega
    subst hk; exact h.2 x y hx hy⟩⟩
theorem isoL_few {a b : List (List (List Int))} (h : ((el a 0).length : Int) ≤ 7) : ((isoL a b).length : Int) ≤ 823543 := by
  unfold isoL
  split
  · have h1 := List.length_filter_le (fun p => dec (IsoP a b p)) (growL ((el a 0).length : Int) [])
    have h2 := growF_len ((el a 0).length : Int) (((el a 0).length : Int) - (([] : List Int).length : Int)).toNat []
    have h3 : ∀ k : Nat, k ≤ 7 → k ^ k ≤ 823543 := by decide
    have h4 := h3 ((el a 0).length) (by omega)
    have e : (((el a 0).length : Int) - (([] : List Int).length : Int)).toNat = (el a 0).length := by simp
    rw [e] at h2
    have h5 : (growL ((el a 0).length : Int) []).length ≤ 823543 := by
      unfold growL; rw [e]
      refine Nat.le_trans h2 ?_
      simpa using h4
    omega
  · simp
end
section
theorem filter_parts {α : Type} (p : α → Bool) : ∀ l : List α, l.length = (l.filter p).length + (l.filter fun a => !p a).length
  | [] => rfl
  | a :: l => by
    have := filter_parts p l
    cases h : p a
    · rw [List.filter_cons_of_neg (by simp [h]), List.filter_cons_of_pos (by simp [h])]; simp; omega
    · rw [List.filter_cons_of_pos (by simp [h]), List.filter_cons_of_neg (by simp [h])]; simp; omega
theorem fib_mul {α β : Type} [DecidableEq β] (f : α → β) (c : Nat) : ∀ (X : List β) (L : List α), X.Nodup → (∀ a ∈ L, f a ∈ X) → (∀ x ∈ X, (L.filter fun a => decide (f a = x)).length = c) → L.length = X.length * c
  | [], L, _, h, _ => by
    have : L = [] := List.eq_nil_iff_forall_not_mem.2 fun a ha => by have := h a ha; cases this
    subst this; simp
  | x :: X, L, hn, h, hc => by
    have hx := List.nodup_cons.1 hn
    have h1 := filter_parts (fun a => decide (f a = x)) L
    have h2 := fib_mul f c X (L.filter fun a => !decide (f a = x)) hx.2 (fun a ha => by
        have ha := List.mem_filter.1 ha
        rcases List.mem_cons.1 (h a ha.1) with e | e
        · simp [e] at ha
        · exact e) fun y hy => by
        have e : (L.filter fun a => !decide (f a = x)).filter (fun a => decide (f a = y)) = L.filter fun a => decide (f a = y) := by
          rw [List.filter_filter]
          refine List.filter_congr fun a _ => ?_
          by_cases g : f a = y
          · have : f a ≠ x := fun k => hx.1 (by rw [← k, g]; exact hy)
            simp [g]
            rw [g] at this; exact this
          · simp [g]
        rw [e]; exact hc y (List.mem_cons_of_mem _ hy)
    rw [h1, h2, hc x List.mem_cons_self, List.length_cons, Nat.add_mul, Nat.one_mul]; omega
theorem inj_len {α β : Type} [DecidableEq β] {φ : α → β} {A : List α} {B : List β} (hA : A.Nodup) (h : ∀ a ∈ A, φ a ∈ B) (hi : ∀ a ∈ A, ∀ b ∈ A, φ a = φ b → a = b) : A.length ≤ B.length := by
  have hn : (A.map φ).Nodup := by
    rw [List.Nodup, List.pairwise_map]
    exact List.Pairwise.imp_of_mem (fun {a b} ha hb hne e => hne (hi a ha b hb e)) hA
  have := nodup_len (A.map φ) B hn fun z hz => by
    obtain ⟨a, ha, rfl⟩ := List.mem_map.1 hz
    exact h a ha
  rwa [List.length_map] at this
theorem orb_mul {α β : Type} [DecidableEq α] [DecidableEq β] {L : List α} {f : α → β} {X : List β} (hL : L.Nodup) (hX : X.Nodup) (hm : ∀ x, x ∈ X ↔ ∃ a ∈ L, f a = x)
    (mv : ∀ a ∈ L, ∀ b ∈ L, ∃ φ : α → α, (∀ q ∈ L, f q = f a → φ q ∈ L ∧ f (φ q) = f b) ∧ ∀ q ∈ L, ∀ r ∈ L, φ q = φ r → q = r) {e : α} (he : e ∈ L) : L.length = X.length * (L.filter fun a => decide (f a = f e)).length := by
  refine fib_mul f _ X L hX (fun a ha => (hm _).2 ⟨a, ha, rfl⟩) fun x hx => ?_
  obtain ⟨b, hb, rfl⟩ := (hm _).1 hx
  have key : ∀ a ∈ L, ∀ b ∈ L, (L.filter fun q => decide (f q = f a)).length ≤ (L.filter fun q => decide (f q = f b)).length := fun a ha b hb => by
    obtain ⟨φ, h1, h2⟩ := mv a ha b hb
    refine inj_len (φ := φ) (hL.filter _) (fun q hq => ?_) fun q hq r hr => h2 q (List.mem_filter.1 hq).1 r (List.mem_filter.1 hr).1
    have hq := List.mem_filter.1 hq
    have := h1 q hq.1 (of_decide_eq_true hq.2)
    exact List.mem_filter.2 ⟨this.1, decide_eq_true this.2⟩
  exact Nat.le_antisymm (key b hb e he) (key e he b hb)
theorem nub_ex {β : Type} [DecidableEq β] : ∀ l : List β, ∃ X : List β, X.Nodup ∧ ∀ x, x ∈ X ↔ x ∈ l
  | [] => ⟨[], List.nodup_nil, fun _ => Iff.rfl⟩
  | a :: l => by
    obtain ⟨X, h1, h2⟩ := nub_ex l
    by_cases h : a ∈ l
    · exact ⟨X, h1, fun x => by rw [h2, List.mem_cons]; exact ⟨.inr, fun k => k.elim (fun e => e ▸ h) id⟩⟩
    · exact ⟨a :: X, List.nodup_cons.2 ⟨fun k => h ((h2 a).1 k), h1⟩, fun x => by rw [List.mem_cons, List.mem_cons, h2]⟩
def facN : Nat → Nat
  | 0 => 1
  | n + 1 => (n + 1) * facN n
def facI (n : Int) : Int := (facN n.toNat : Int)
theorem growF_fac {n : Int} : ∀ (k : Nat) (s : List Int), s.Nodup → (∀ x ∈ s, 0 ≤ x ∧ x < n) → (s.length : Int) + k = n → (growF k n s).length = facN k
  | 0, s, _, _, _ => rfl
  | k + 1, s, hn, hr, hl => by
    have key : ∀ l : List Int, (∀ x ∈ l, 0 ≤ x ∧ x < n) → (l.flatMap fun x => if s.contains x then [] else growF k n (s ++ [x])).length = (l.filter fun x => !s.contains x).length * facN k := by
      intro l
      induction l with
      | nil => intro _; simp
      | cons a l ih =>
        intro h
        rw [List.flatMap_cons, List.length_append, ih fun x hx => h x (List.mem_cons_of_mem _ hx)]
        by_cases g : a ∈ s
        · have g2 := List.contains_iff_mem.2 g
          rw [if_pos g2, List.filter_cons_of_neg (by simp [g])]
          simp
        · have g2 : ¬ s.contains a = true := fun k => g (List.contains_iff_mem.1 k)
          rw [if_neg g2, List.filter_cons_of_pos (by simp [g]), List.length_cons, Nat.add_mul, Nat.one_mul,
            growF_fac k (s ++ [a]) (List.nodup_append.2 ⟨hn, by simp, fun y hy z hz e => by rw [List.mem_singleton.1 hz] at e; exact g (e ▸ hy)⟩)
              (fun x hx => (List.mem_append.1 hx).elim (hr x) fun k => by rw [List.mem_singleton.1 k]; exact h a (by simp)) (by simp; omega)]
          omega
    show ((unitI n).flatMap fun x => if s.contains x then [] else growF k n (s ++ [x])).length = _
    rw [key (unitI n) fun x hx => mem_ran.1 hx]
    have h1 := filter_parts (fun x => s.contains x) (unitI n)
    have h2 : ((unitI n).filter fun x => s.contains x).length = s.length := by
      refine Nat.le_antisymm (nodup_len _ _ ((nodup_ran n).filter _) fun x hx => List.contains_iff_mem.1 (List.mem_filter.1 hx).2) (nodup_len _ _ hn fun x hx => List.mem_filter.2 ⟨mem_ran.2 (hr x hx), List.contains_iff_mem.2 hx⟩)
    have h3 : (unitI n).length = n.toNat := by simp
    rw [show ((unitI n).filter fun x => !s.contains x).length = k + 1 by omega]
    rfl
theorem growL_fac {n : Int} (hn : 0 ≤ n) : (growL n []).length = facN n.toNat := by
  unfold growL
  rw [show (n - (([] : List Int).length : Int)).toNat = n.toNat by simp]
  exact growF_fac _ _ List.nodup_nil (fun x hx => by cases hx) (by simp; omega)
theorem growL_nodup {n : Int} : (growL n []).Nodup := growL_sort.imp fun h e => by subst e; exact lexL_irrefl h
theorem thn_right {p q g : List Int} (hg : isPerm g = true) (hp : isPerm p = true) (hq : isPerm q = true) (h1 : p.length = g.length) (h2 : q.length = g.length) (h : thnI p g = thnI q g) : p = q :=
  ext_el (by omega) fun i i0 i1 => by
    have e : el (thnI p g) i = el (thnI q g) i := by rw [h]
    rw [thn_el ⟨i0, i1⟩, thn_el ⟨i0, by omega⟩] at e
    have a1 := isPerm_el hp ⟨i0, i1⟩
    have a2 := isPerm_el hq (i := i) ⟨i0, by omega⟩
    exact isPerm_inj hg ⟨a1.1, by omega⟩ ⟨a2.1, by omega⟩ e
theorem thn_back {a b : List Int} (ha : isPerm a = true) (hl : a.length = b.length) : thnI a (thnI (backI a) b) = b :=
  ext_el (by rw [thn_len]; exact hl) fun i i0 i1 => by
    rw [thn_len] at i1
    have h1 := isPerm_el ha ⟨i0, i1⟩
    rw [thn_el ⟨i0, i1⟩, thn_el ⟨h1.1, by rw [length_backI]; exact h1.2⟩, el_backI ha ⟨i0, i1⟩]
section
variable {l : List (List Int)} (h : CjqE l = 0)
include h
end
end
section
section
variable {n : Int} {list : List (List Int)} (hn : 1 ≤ n ∧ n ≤ 12) (hP : permsN n list)
include hn hP
end
section
variable {r : List (List Int)} (h : isRk r = true)
include h
end

end
section
def allL (m : Int) : Nat → List (List Int)
  | 0 => [[]]
  | k + 1 => (ran m id).flatMap fun v => (allL m k).map (v :: ·)
theorem mem_allL {m : Int} : ∀ {k : Nat} {u : List Int}, u ∈ allL m k ↔ u.length = k ∧ ∀ z ∈ u, 0 ≤ z ∧ z < m
  | 0, u => by
    simp only [allL, List.mem_singleton]
    constructor
    · rintro rfl; exact ⟨rfl, fun z hz => by cases hz⟩
    · rintro ⟨h, _⟩; exact List.eq_nil_of_length_eq_zero h
  | k + 1, u => by
    simp only [allL, List.mem_flatMap, List.mem_map]
    constructor
    · rintro ⟨v, hv, w, hw, rfl⟩
      have h := mem_allL.1 hw
      have hv := mem_ran.1 hv
      exact ⟨by simp [h.1], fun z hz => (List.mem_cons.1 hz).elim (fun e => by rw [e]; exact hv) (h.2 z)⟩
    · rintro ⟨h1, h2⟩
      cases u with
      | nil => simp at h1
      | cons v w => exact ⟨v, mem_ran.2 (h2 v (by simp)), w, mem_allL.2 ⟨by simpa using h1, fun z hz => h2 z (List.mem_cons_of_mem _ hz)⟩, rfl⟩
theorem allL_nodup {m : Int} : ∀ k : Nat, (allL m k).Nodup
  | 0 => by simp [allL]
  | k + 1 => by
    simp only [allL]
    rw [List.Nodup, List.pairwise_flatMap]
    refine ⟨fun v _ => ?_, (nodup_ran m).imp fun {v w} hne x hx y hy e => ?_⟩
    · rw [List.pairwise_map]
      exact (allL_nodup k).imp fun hne e => hne (List.cons.inj e).2
    · obtain ⟨a, _, rfl⟩ := List.mem_map.1 hx
      obtain ⟨b, _, rfl⟩ := List.mem_map.1 hy
      exact hne (List.cons.inj e).1
theorem allL_len {m : Int} : ∀ k : Nat, (allL m k).length = m.toNat ^ k
  | 0 => rfl
  | k + 1 => by
    simp only [allL]
    have key : ∀ l : List Int, (l.flatMap fun v => (allL m k).map (v :: ·)).length = l.length * m.toNat ^ k := by
      intro l
      induction l with
      | nil => simp
      | cons a l ih => rw [List.flatMap_cons, List.length_append, ih, List.length_map, allL_len k, List.length_cons, Nat.add_mul, Nat.one_mul]; omega
    rw [key, length_ran, Nat.pow_succ, Nat.mul_comm]
theorem el_pre {f u : List Int} {z : Int} (h : z < (f.length : Int)) (h0 : 0 < (f.length : Int)) : el (f ++ u) z = el f z := by
  unfold el
  rw [List.getD_eq_getElem?_getD, List.getD_eq_getElem?_getD, List.getElem?_append_left (by omega)]
theorem conP_pre {r s : List (List Int)} {f u : List Int} (h : conP r s (f ++ u)) : conP r s f := fun x y x0 x1 y0 y1 z1 => by
  have hl : (f.length : Int) ≤ ((f ++ u).length : Int) := by simp; omega
  have := h x y x0 (by omega) y0 (by omega) (by omega)
  rw [el_pre z1 (by omega), el_pre x1 (by omega), el_pre y1 (by omega)] at this
  exact this
theorem flat_count {g : Int → List (List Int)} {P : List Int → Bool} {m : Int} (hm : 0 ≤ m) : ((((ran m id).flatMap g).filter P).length : Int) = sumI m fun v => (((g v).filter P).length : Int) := by
  obtain ⟨k, rfl⟩ : ∃ k : Nat, m = k := ⟨m.toNat, by omega⟩
  clear hm
  induction k with
  | zero => simp [ran, sumI, sumN]
  | succ k ih =>
    rw [show ((k + 1 : Nat) : Int) = (k : Int) + 1 by omega, ran_succ _ (by omega), sumI_succ (by omega), ← ih]
    simp
theorem cntN_all {r s : List (List Int)} : ∀ (k : Nat) (f : List Int), cntN r s k f = (((allL (s.length : Int) k).filter fun u => dec (conP r s (f ++ u))).length : Int)
  | 0, f => by
    simp only [cntN, allL]
    by_cases h : conP r s f
    · rw [if_pos (dec_t h), List.filter_cons_of_pos (by rw [List.append_nil]; exact dec_t h)]; rfl
    · rw [dec_f h, List.filter_cons_of_neg (by rw [List.append_nil, dec_f h]; simp)]; rfl
  | k + 1, f => by
    simp only [cntN]
    by_cases h : conP r s f
    · rw [if_pos (dec_t h)]
      simp only [allL]
      rw [flat_count (by omega)]
      congr 1
      funext v
      rw [cntN_all k (f ++ [v]), List.filter_map, List.length_map]
      congr 2
      refine List.filter_congr fun u _ => ?_
      show dec (conP r s (f ++ [v] ++ u)) = dec (conP r s (f ++ v :: u))
      rw [List.append_assoc]; rfl
    · rw [dec_f h]
      have : ((allL (s.length : Int) (k + 1)).filter fun u => dec (conP r s (f ++ u))) = [] := List.filter_eq_nil_iff.2 fun u _ => by rw [dec_f fun g => h (conP_pre g)]; simp
      rw [this]; rfl
noncomputable def homL (r s : List (List Int)) : List (List Int) := (allL (s.length : Int) r.length).filter fun f => dec (conP r s f)
theorem hom_cnt {r s : List (List Int)} : cntI r s [] = ((homL r s).length : Int) := by
  unfold cntI homL
  rw [cntN_all, show ((r.length : Int) - (([] : List Int).length : Int)).toNat = r.length by simp]
  rfl
theorem mem_hom {r s : List (List Int)} {f : List Int} : f ∈ homL r s ↔ (f.length = r.length ∧ ∀ z ∈ f, 0 ≤ z ∧ z < (s.length : Int)) ∧ conP r s f := by
  unfold homL
  rw [List.mem_filter, mem_allL, dec_iff]
theorem hom_nodup {r s : List (List Int)} : (homL r s).Nodup := (allL_nodup _).filter _
theorem hom_le {r s : List (List Int)} (hr : (r.length : Int) ≤ 5) (hs : (s.length : Int) ≤ 5) : ((homL r s).length : Int) ≤ 3125 := by
  have h1 : (homL r s).length ≤ (allL (s.length : Int) r.length).length := List.length_filter_le _ _
  rw [allL_len] at h1
  have h2 : (s.length : Int).toNat ^ r.length ≤ 5 ^ 5 := by
    by_cases e : s.length = 0
    · rw [e]
      cases r.length <;> simp
    · exact Nat.le_trans (Nat.pow_le_pow_left (show (s.length : Int).toNat ≤ 5 by omega) _) (Nat.pow_le_pow_right (by omega) (by omega))
  have h3 : (5 : Nat) ^ 5 = 3125 := by decide
  omega
def pairL (A B : List (List Int)) : List (List Int × List Int) := A.flatMap fun g => B.map fun h => (g, h)
theorem pair_len (A B : List (List Int)) : (pairL A B).length = A.length * B.length := by
  unfold pairL
  induction A with
  | nil => simp
  | cons a A ih => rw [List.flatMap_cons, List.length_append, ih, List.length_map, List.length_cons, Nat.add_mul, Nat.one_mul]; omega
theorem mem_pair {A B : List (List Int)} {x : List Int × List Int} : x ∈ pairL A B ↔ x.1 ∈ A ∧ x.2 ∈ B := by
  unfold pairL
  simp only [List.mem_flatMap, List.mem_map]
  constructor
  · rintro ⟨g, hg, h, hh, rfl⟩; exact ⟨hg, hh⟩
  · rintro ⟨h1, h2⟩; exact ⟨x.1, h1, x.2, h2, rfl⟩
theorem pair_nodup {A B : List (List Int)} (hA : A.Nodup) (hB : B.Nodup) : (pairL A B).Nodup := by
  unfold pairL
  rw [List.Nodup, List.pairwise_flatMap]
  refine ⟨fun v _ => ?_, hA.imp fun {v w} hne x hx y hy e => ?_⟩
  · rw [List.pairwise_map]
    exact hB.imp fun hne e => hne (Prod.mk.inj e).2
  · obtain ⟨a, _, rfl⟩ := List.mem_map.1 hx
    obtain ⟨b, _, rfl⟩ := List.mem_map.1 hy
    exact hne (Prod.mk.inj e).1
section
variable {r s b : List (List Int)} (hr : isTab r = true) (hs : isTab s = true) (hb : isTab b = true)
include hs hb
theorem pro_in {x : Int} (hx : 0 ≤ x ∧ x < (s.length : Int) * (b.length : Int)) : (0 ≤ x / (b.length : Int) ∧ x / (b.length : Int) < (s.length : Int)) ∧ 0 ≤ x % (b.length : Int) ∧ x % (b.length : Int) < (b.length : Int) := by
  have _ := hs
  have nb := isTab_len hb
  exact ⟨⟨Int.ediv_nonneg hx.1 (by omega), Int.ediv_lt_of_lt_mul (by omega) hx.2⟩, Int.emod_nonneg _ (by omega), Int.emod_lt_of_pos _ (by omega)⟩
omit hs in
theorem pro_mk {u v : Int} (_hu : 0 ≤ u ∧ u < (s.length : Int)) (hv : 0 ≤ v ∧ v < (b.length : Int)) : (u * (b.length : Int) + v) / (b.length : Int) = u ∧ (u * (b.length : Int) + v) % (b.length : Int) = v := by
  have nb := isTab_len hb
  constructor
  · rw [Int.add_comm, Int.add_mul_ediv_right _ _ (by omega), Int.ediv_eq_zero_of_lt hv.1 hv.2, Int.zero_add]
  · rw [Int.add_comm, Int.add_mul_emod_self_right, Int.emod_eq_of_lt hv.1 hv.2]
theorem pro_rng {u v : Int} (hu : 0 ≤ u ∧ u < (s.length : Int)) (hv : 0 ≤ v ∧ v < (b.length : Int)) : 0 ≤ u * (b.length : Int) + v ∧ u * (b.length : Int) + v < (s.length : Int) * (b.length : Int) := by
  have _ := hs
  have _ := hb
  have h1 : u * (b.length : Int) ≤ ((s.length : Int) - 1) * (b.length : Int) := Int.mul_le_mul_of_nonneg_right (by omega) (by omega)
  have h2 : 0 ≤ u * (b.length : Int) := Int.mul_nonneg hu.1 (by omega)
  rw [Int.sub_mul, Int.one_mul] at h1
  omega
include hr
theorem hom_pro : (homL r (proT s b)).length = (homL r s).length * (homL r b).length := by
  have nr := isTab_len hr
  have ns := isTab_len hs
  have nb := isTab_len hb
  have hL : ((proT s b).length : Int) = (s.length : Int) * (b.length : Int) := len_tab (Int.mul_nonneg (by omega) (by omega))
  have zin : ∀ {x y : Int}, (0 ≤ x ∧ x < (r.length : Int)) → (0 ≤ y ∧ y < (r.length : Int)) → 0 ≤ el (el r x) y ∧ el (el r x) y < (r.length : Int) := fun hx hy => (isTab_row hr hx).2 _ hy.1 hy.2
  have pe : ∀ {x y : Int}, (0 ≤ x ∧ x < (s.length : Int) * (b.length : Int)) → (0 ≤ y ∧ y < (s.length : Int) * (b.length : Int)) →
      el (el (proT s b) x) y = el (el s (x / (b.length : Int))) (y / (b.length : Int)) * (b.length : Int) + el (el b (x % (b.length : Int))) (y % (b.length : Int)) := fun hx hy => el_tab hx hy
  rw [← pair_len]
  refine Nat.le_antisymm ?_ ?_
  · refine inj_len (φ := fun f => (f.map (· / (b.length : Int)), f.map (· % (b.length : Int)))) hom_nodup (fun f hf => ?_) fun f hf g hg e => ?_
    · obtain ⟨⟨f1, f2⟩, f3⟩ := mem_hom.1 hf
      rw [hL] at f2
      have fin : ∀ {x : Int}, (0 ≤ x ∧ x < (f.length : Int)) → 0 ≤ el f x ∧ el f x < (s.length : Int) * (b.length : Int) := fun hx => f2 _ (el_mem hx)
      have law : ∀ x y, (0 ≤ x ∧ x < (f.length : Int)) → (0 ≤ y ∧ y < (f.length : Int)) → el f (el (el r x) y) = el (el s (el f x / (b.length : Int))) (el f y / (b.length : Int)) * (b.length : Int) + el (el b (el f x % (b.length : Int))) (el f y % (b.length : Int)) := fun x y hx hy => by
        have hz := zin (x := x) (y := y) ⟨hx.1, by omega⟩ ⟨hy.1, by omega⟩
        rw [f3 x y hx.1 hx.2 hy.1 hy.2 (by omega), pe (fin hx) (fin hy)]
      have sin : ∀ {x y : Int}, (0 ≤ x ∧ x < (f.length : Int)) → (0 ≤ y ∧ y < (f.length : Int)) → (0 ≤ el (el s (el f x / (b.length : Int))) (el f y / (b.length : Int)) ∧ el (el s (el f x / (b.length : Int))) (el f y / (b.length : Int)) < (s.length : Int)) ∧
          0 ≤ el (el b (el f x % (b.length : Int))) (el f y % (b.length : Int)) ∧ el (el b (el f x % (b.length : Int))) (el f y % (b.length : Int)) < (b.length : Int) := fun hx hy => by
        have a1 := pro_in hs hb (fin hx)
        have a2 := pro_in hs hb (fin hy)
        exact ⟨(isTab_row hs a1.1).2 _ a2.1.1 a2.1.2, (isTab_row hb a1.2).2 _ a2.2.1 a2.2.2⟩
      refine mem_pair.2 ⟨mem_hom.2 ⟨⟨by rw [List.length_map]; exact f1, fun z hz => ?_⟩, fun x y x0 x1 y0 y1 z1 => ?_⟩, mem_hom.2 ⟨⟨by rw [List.length_map]; exact f1, fun z hz => ?_⟩, fun x y x0 x1 y0 y1 z1 => ?_⟩⟩
      · obtain ⟨w, hw, rfl⟩ := List.mem_map.1 hz
        exact (pro_in hs hb (f2 w hw)).1
      · simp only [List.length_map] at x1 y1 z1
        have hz := zin (x := x) (y := y) ⟨x0, by omega⟩ ⟨y0, by omega⟩
        rw [el_map ⟨hz.1, by omega⟩, el_map ⟨x0, x1⟩, el_map ⟨y0, y1⟩, law x y ⟨x0, x1⟩ ⟨y0, y1⟩]
        have g := sin ⟨x0, x1⟩ ⟨y0, y1⟩
        exact (pro_mk hb g.1 g.2).1
      · obtain ⟨w, hw, rfl⟩ := List.mem_map.1 hz
        exact (pro_in hs hb (f2 w hw)).2
      · simp only [List.length_map] at x1 y1 z1
        have hz := zin (x := x) (y := y) ⟨x0, by omega⟩ ⟨y0, by omega⟩
        rw [el_map ⟨hz.1, by omega⟩, el_map ⟨x0, x1⟩, el_map ⟨y0, y1⟩, law x y ⟨x0, x1⟩ ⟨y0, y1⟩]
        have g := sin ⟨x0, x1⟩ ⟨y0, y1⟩
        exact (pro_mk hb g.1 g.2).2
    · have f1 := (mem_hom.1 hf).1.1
      have g1 := (mem_hom.1 hg).1.1
      have e1 := (Prod.mk.inj e).1
      have e2 := (Prod.mk.inj e).2
      refine ext_el (by omega) fun i i0 i1 => ?_
      have a1 : el f i / (b.length : Int) = el g i / (b.length : Int) := by
        have := congrArg (fun l => el l i) e1
        simpa only [el_map (l := f) (f := (· / (b.length : Int))) ⟨i0, i1⟩, el_map (l := g) (f := (· / (b.length : Int))) (i := i) ⟨i0, by omega⟩] using this
      have a2 : el f i % (b.length : Int) = el g i % (b.length : Int) := by
        have := congrArg (fun l => el l i) e2
        simpa only [el_map (l := f) (f := (· % (b.length : Int))) ⟨i0, i1⟩, el_map (l := g) (f := (· % (b.length : Int))) (i := i) ⟨i0, by omega⟩] using this
      rw [← Int.mul_ediv_add_emod (el f i) (b.length : Int), ← Int.mul_ediv_add_emod (el g i) (b.length : Int), a1, a2]
  · refine inj_len (φ := fun x => ran (r.length : Int) fun i => el x.1 i * (b.length : Int) + el x.2 i) (pair_nodup hom_nodup hom_nodup) (fun x hx => ?_) fun x hx y hy e => ?_
    · obtain ⟨h1, h2⟩ := mem_pair.1 hx
      obtain ⟨⟨f1, f2⟩, f3⟩ := mem_hom.1 h1
      obtain ⟨⟨g1, g2⟩, g3⟩ := mem_hom.1 h2
      have fin : ∀ {i : Int}, (0 ≤ i ∧ i < (r.length : Int)) → 0 ≤ el x.1 i ∧ el x.1 i < (s.length : Int) := fun hi => f2 _ (el_mem ⟨hi.1, by omega⟩)
      have gin : ∀ {i : Int}, (0 ≤ i ∧ i < (r.length : Int)) → 0 ≤ el x.2 i ∧ el x.2 i < (b.length : Int) := fun hi => g2 _ (el_mem ⟨hi.1, by omega⟩)
      refine mem_hom.2 ⟨⟨by rw [length_ran]; omega, fun z hz => ?_⟩, fun u v u0 u1 v0 v1 z1 => ?_⟩
      · rw [hL]
        obtain ⟨k, hk, rfl⟩ := List.mem_map.1 hz
        have hk := List.mem_range.1 hk
        exact pro_rng hs hb (fin ⟨by omega, by omega⟩) (gin ⟨by omega, by omega⟩)
      · rw [len_ran (by omega)] at u1 v1 z1
        have hz := zin ⟨u0, u1⟩ ⟨v0, v1⟩
        have p1 := pro_rng hs hb (fin ⟨u0, u1⟩) (gin ⟨u0, u1⟩)
        have p2 := pro_rng hs hb (fin ⟨v0, v1⟩) (gin ⟨v0, v1⟩)
        have q1 := pro_mk hb (fin ⟨u0, u1⟩) (gin ⟨u0, u1⟩)
        have q2 := pro_mk hb (fin ⟨v0, v1⟩) (gin ⟨v0, v1⟩)
        rw [el_ran hz, el_ran ⟨u0, u1⟩, el_ran ⟨v0, v1⟩, pe p1 p2, q1.1, q1.2, q2.1, q2.2, ← f3 u v u0 (by omega) v0 (by omega) (by omega), ← g3 u v u0 (by omega) v0 (by omega) (by omega)]
    · obtain ⟨h1, h2⟩ := mem_pair.1 hx
      obtain ⟨k1, k2⟩ := mem_pair.1 hy
      obtain ⟨⟨f1, f2⟩, _⟩ := mem_hom.1 h1
      obtain ⟨⟨g1, g2⟩, _⟩ := mem_hom.1 h2
      obtain ⟨⟨f1', f2'⟩, _⟩ := mem_hom.1 k1
      obtain ⟨⟨g1', g2'⟩, _⟩ := mem_hom.1 k2
      have at_ : ∀ i, 0 ≤ i → i < (r.length : Int) → el x.1 i = el y.1 i ∧ el x.2 i = el y.2 i := fun i i0 i1 => by
        have e3 : el (ran (r.length : Int) fun i => el x.1 i * (b.length : Int) + el x.2 i) i = el (ran (r.length : Int) fun i => el y.1 i * (b.length : Int) + el y.2 i) i := congrArg (fun l => el l i) e
        rw [el_ran ⟨i0, i1⟩, el_ran ⟨i0, i1⟩] at e3
        have a1 := f2 _ (el_mem (l := x.1) (i := i) ⟨i0, by omega⟩)
        have a2 := g2 _ (el_mem (l := x.2) (i := i) ⟨i0, by omega⟩)
        have b1 := f2' _ (el_mem (l := y.1) (i := i) ⟨i0, by omega⟩)
        have b2 := g2' _ (el_mem (l := y.2) (i := i) ⟨i0, by omega⟩)
        have q1 := pro_mk hb a1 a2
        have q2 := pro_mk hb b1 b2
        rw [e3] at q1
        exact ⟨q1.1.symm.trans q2.1, q1.2.symm.trans q2.2⟩
      refine Prod.ext (ext_el (by omega) fun i i0 i1 => (at_ i i0 (by omega)).1) (ext_el (by omega) fun i i0 i1 => (at_ i i0 (by omega)).2)
end
section
variable {r : List (List Int)} (ht : isTab r = true)
include ht
theorem mem_aut {p : List Int} : p ∈ isoL [r] [r] ↔ p.length = r.length ∧ IsoP [r] [r] p := by
  have _ := ht
  have e : el [r] 0 = r := rfl
  unfold isoL
  rw [if_pos rfl, List.mem_filter, dec_iff, e, grow_iff (by omega)]
  exact ⟨fun h => ⟨by have := h.1.1; omega, h.2⟩, fun h => ⟨⟨by omega, h.2.1⟩, h.2⟩⟩
theorem aut_nodup : (isoL [r] [r]).Nodup := by
  have _ := ht
  unfold isoL
  rw [if_pos rfl]
  exact growL_nodup.filter _
theorem aut_hom {p : List Int} (h : p ∈ isoL [r] [r]) : p ∈ homL r r := by
  obtain ⟨h1, h2⟩ := (mem_aut ht).1 h
  have h2 := iso1.1 h2
  refine mem_hom.2 ⟨⟨h1, fun z hz => by have := (isPerm_iff.1 h2.1).2 z hz; omega⟩, fun x y x0 x1 y0 y1 _ => h2.2 x y ⟨x0, x1⟩ ⟨y0, y1⟩⟩
theorem ren_iff {p : List Int} (hp : isPerm p = true) (hl : p.length = r.length) : renT r p = r ↔ IsoP [r] [r] p := by
  rw [iso1]
  constructor
  · intro h
    refine ⟨hp, fun x y hx hy => ?_⟩
    have := renT_el (t := r) hp (by omega) (x := x) (y := y) ⟨hx.1, by omega⟩ ⟨hy.1, by omega⟩
    rw [h] at this; exact this.symm
  · rintro ⟨_, h⟩
    exact renT_auto ht hp (by omega) fun u v hu hv => h u v ⟨hu.1, by omega⟩ ⟨hv.1, by omega⟩
theorem ren_thn {p q : List Int} (hp : isPerm p = true) (hq : isPerm q = true) (h1 : p.length = r.length) (h2 : q.length = r.length) : renT (renT r p) q = renT r (thnI p q) := by
  have t1 := isTab_ren ht hp (by omega)
  have l1 : ((renT r p).length : Int) = (r.length : Int) := len_tab (by omega)
  have l2 : ((renT (renT r p) q).length : Int) = ((renT r p).length : Int) := len_tab (by omega)
  refine img_ren ht (thn_perm hp hq (by omega)) (by rw [thn_len]; omega) (isTab_ren t1 hq (by omega)) (by omega) fun u v hu hv => ?_
  have b1 := isPerm_el hp (i := u) ⟨hu.1, by omega⟩
  have b2 := isPerm_el hp (i := v) ⟨hv.1, by omega⟩
  have hz := (isTab_row ht hu).2 v hv.1 hv.2
  rw [thn_el ⟨hu.1, by omega⟩, thn_el ⟨hv.1, by omega⟩, thn_el ⟨hz.1, by omega⟩, renT_el hq (by omega) ⟨b1.1, by omega⟩ ⟨b2.1, by omega⟩, renT_el hp (by omega) hu hv]
theorem aut_one : 1 ≤ ((isoL [r] [r]).length : Int) := by
  have hu : ((unitI (r.length : Int)).length : Int) = (r.length : Int) := unit_len (by omega)
  have : unitI (r.length : Int) ∈ isoL [r] [r] := (mem_aut ht).2 ⟨by omega, iso1.2 ⟨unit_perm (by omega), fun x y hx hy => by
    rw [hu] at hx hy
    rw [el_unitI ((isTab_row ht hx).2 y hy.1 hy.2), el_unitI hx, el_unitI hy]⟩⟩
  have := List.length_pos_of_mem this
  omega
theorem aut_div : facI (r.length : Int) % ((isoL [r] [r]).length : Int) = 0 := by
  have hL : ∀ {q : List Int}, q ∈ growL (r.length : Int) [] ↔ q.length = r.length ∧ isPerm q = true := fun {q} => by rw [grow_iff (by omega)]; exact and_congr_left fun _ => by omega
  obtain ⟨X, hX, hm⟩ := nub_ex ((growL (r.length : Int) []).map fun q => renT r q)
  have hu : (unitI (r.length : Int)).length = r.length := by have : ((unitI (r.length : Int)).length : Int) = (r.length : Int) := unit_len (by omega); omega
  have up : isPerm (unitI (r.length : Int)) = true := unit_perm (by omega)
  have := orb_mul (L := growL (r.length : Int) []) (f := fun q => renT r q) (X := X) growL_nodup hX (fun z => by rw [hm, List.mem_map])
    (fun a ha b hb => by
      obtain ⟨a1, a2⟩ := hL.1 ha
      obtain ⟨b1, b2⟩ := hL.1 hb
      have gB : isPerm (backI a) = true := isPerm_backI a2
      have gl : (thnI (backI a) b).length = r.length := by rw [thn_len, length_backI]; exact a1
      have gP : isPerm (thnI (backI a) b) = true := thn_perm gB b2 (by rw [length_backI]; omega)
      refine ⟨fun q => thnI q (thnI (backI a) b), fun q hq e => ?_, fun q hq q2 hq2 e => thn_right gP (hL.1 hq).2 (hL.1 hq2).2 (by rw [gl]; exact (hL.1 hq).1) (by rw [gl]; exact (hL.1 hq2).1) e⟩
      obtain ⟨q1, q2⟩ := hL.1 hq
      refine ⟨hL.2 ⟨by rw [thn_len]; exact q1, thn_perm q2 gP (by omega)⟩, ?_⟩
      show renT r (thnI q (thnI (backI a) b)) = renT r b
      rw [← ren_thn ht q2 gP q1 gl, show renT r q = renT r a from e, ren_thn ht a2 gP a1 gl, thn_back a2 (by omega)])
    (e := unitI (r.length : Int)) (hL.2 ⟨hu, up⟩)
  rw [growL_fac (by omega)] at this
  have ef : ((growL (r.length : Int) []).filter fun a => decide (renT r a = renT r (unitI (r.length : Int)))) = isoL [r] [r] := by
    have e : el [r] 0 = r := rfl
    have ru : renT r (unitI (r.length : Int)) = r := (ren_iff ht up hu).2 ((mem_aut ht).1 (by
      refine (mem_aut ht).2 ⟨hu, iso1.2 ⟨up, fun x y hx hy => ?_⟩⟩
      rw [hu] at hx hy
      rw [el_unitI ((isTab_row ht hx).2 y hy.1 hy.2), el_unitI hx, el_unitI hy])).2
    unfold isoL
    rw [if_pos rfl, e, ru]
    refine List.filter_congr fun p hp => ?_
    obtain ⟨p1, p2⟩ := hL.1 hp
    rw [Bool.eq_iff_iff, decide_eq_true_eq, dec_iff]
    exact ren_iff ht p2 p1
  rw [ef] at this
  unfold facI
  rw [this, Int.natCast_mul]
  exact Int.mul_emod_left _ _
end

end
section
def digV (b : Int) : Int := if 48 ≤ b ∧ b ≤ 57 then b - 48 else if 97 ≤ b ∧ b ≤ 98 then b - 87 else -1
def rdgV (s : List UInt8) : List Int := s.map fun b => digV (b.toNat : Int)
@[simp] theorem rdgV_len (s : List UInt8) : (rdgV s).length = s.length := by simp [rdgV]
end
section
section
variable {r s : List (List Int)}
end

end
end Go.Proofs.Ytjolbldlhjfciaa

/- Plain definitions and what holds of them, all in one; no condition. -/
import Derived.Test.YtjolbldlhjfciaaDoorWe
import Derived.Lib.SlicesCompact
import Derived.Lib.Join
import Derived.Test.YtjolbldlhjfciaaDoorWc
namespace Go.Proofs.YtjolbldlhjfciaaDoor
section
theorem el_se_same {α : Type} [Inhabited α] {l : List α} {i : Int} {v : α} (h : 0 ≤ i ∧ i < (l.length : Int)) : el (se l i v) i = v := by
  have : i.toNat < l.length := by omega
  simp [el, se, List.getD_eq_getElem?_getD, this]
theorem el_se_ne {α : Type} [Inhabited α] {l : List α} {i j : Int} {v : α} (hi : 0 ≤ i) (hj : 0 ≤ j) (h : i ≠ j) : el (se l i v) j = el l j := by
  have : i.toNat ≠ j.toNat := by omega
  simp [el, se, List.getD_eq_getElem?_getD, this]
theorem ext_el {α : Type} [Inhabited α] {a b : List α} (hl : a.length = b.length) (h : ∀ i : Int, 0 ≤ i → i < (a.length : Int) → el a i = el b i) : a = b := by
  apply List.ext_getElem hl
  intro n h1 h2
  have := h n (by omega) (by omega)
  simpa [el, List.getD_eq_getElem?_getD, List.getElem?_eq_getElem h1, List.getElem?_eq_getElem h2] using this
theorem el_mem {α : Type} [Inhabited α] {l : List α} {i : Int} (h : 0 ≤ i ∧ i < (l.length : Int)) : el l i ∈ l := by
  have := el_get h
  exact List.mem_of_getElem? this
theorem mem_el {α : Type} [Inhabited α] {l : List α} {x : α} (h : x ∈ l) : ∃ i : Int, (0 ≤ i ∧ i < (l.length : Int)) ∧ el l i = x := by
  obtain ⟨n, hn, rfl⟩ := List.getElem_of_mem h
  exact ⟨n, ⟨by omega, by omega⟩, by simp [el, List.getD_eq_getElem?_getD, List.getElem?_eq_getElem hn]⟩
theorem el_map {α β : Type} [Inhabited α] [Inhabited β] {f : α → β} {l : List α} {i : Int} (h : 0 ≤ i ∧ i < (l.length : Int)) : el (l.map f) i = f (el l i) := by
  have := el_get h
  simp only [el, List.getD_eq_getElem?_getD, List.getElem?_map] at this ⊢
  rw [this]; rfl
theorem el_append_l {α : Type} [Inhabited α] {a b : List α} {i : Int} (h : 0 ≤ i ∧ i < (a.length : Int)) : el (a ++ b) i = el a i := by
  have : i.toNat < a.length := by omega
  simp [el, List.getD_eq_getElem?_getD, List.getElem?_append_left this]
theorem el_append_r {α : Type} [Inhabited α] {a b : List α} {i : Int} (h : (a.length : Int) ≤ i) : el (a ++ b) i = el b (i - (a.length : Int)) := by
  have h1 : a.length ≤ i.toNat := by omega
  have h2 : (i - (a.length : Int)).toNat = i.toNat - a.length := by omega
  unfold el
  rw [h2, List.getD_eq_getElem?_getD, List.getD_eq_getElem?_getD, List.getElem?_append_right h1]
theorem el_append_last {α : Type} [Inhabited α] {a : List α} {x : α} {i : Int} (h : i = (a.length : Int)) : el (a ++ [x]) i = x := by
  subst h; rw [el_append_r (by omega)]; simp [el]
theorem el_ran {α : Type} [Inhabited α] {n i : Int} {f : Int → α} (h : 0 ≤ i ∧ i < n) : el (ran n f) i = f i := by
  have h2 := get_ran f (i := i.toNat) (by omega : ((i.toNat : Nat) : Int) < n)
  have h3 : ((i.toNat : Nat) : Int) = i := by omega
  rw [h3] at h2
  simp [el, List.getD_eq_getElem?_getD, h2]
theorem el_rep {α : Type} [Inhabited α] {n : Nat} {v : α} {i : Int} (h : 0 ≤ i ∧ i < (n : Int)) : el (List.replicate n v) i = v := by
  have : i.toNat < n := by omega
  simp [el, List.getD_eq_getElem?_getD, this]
theorem el_sl {α : Type} [Inhabited α] {l : List α} {a b i : Int} (ha : 0 ≤ a) (hi : 0 ≤ i) (h : a + i < b) : el (sl l a b) i = el l (a + i) := by
  have h1 : a.toNat + i.toNat < b.toNat := by omega
  have h2 : (a + i).toNat = a.toNat + i.toNat := by omega
  simp [el, sl, List.getD_eq_getElem?_getD, List.getElem?_drop, h1, h2]
theorem eq_ran {α : Type} [Inhabited α] {n : Int} {f : Int → α} {l : List α} (hl : l.length = n.toNat) (h : ∀ i, 0 ≤ i → i < n → el l i = f i) : l = ran n f :=
  ext_el (by simp [hl]) fun i h0 h1 => by rw [el_ran ⟨h0, by omega⟩]; exact h i h0 (by omega)
theorem all_el {α : Type} [Inhabited α] {l : List α} {p : α → Bool} : l.all p = true ↔ ∀ i : Int, 0 ≤ i → i < (l.length : Int) → p (el l i) = true := by
  rw [List.all_eq_true]
  exact ⟨fun h i h0 h1 => h _ (el_mem ⟨h0, h1⟩), fun h x hx => by obtain ⟨i, hi, rfl⟩ := mem_el hx; exact h i hi.1 hi.2⟩
theorem any_el {α : Type} [Inhabited α] {l : List α} {p : α → Bool} : l.any p = true ↔ ∃ i : Int, (0 ≤ i ∧ i < (l.length : Int)) ∧ p (el l i) = true := by
  rw [List.any_eq_true]
  exact ⟨fun ⟨x, hx, h⟩ => by obtain ⟨i, hi, rfl⟩ := mem_el hx; exact ⟨i, hi, h⟩, fun ⟨i, hi, h⟩ => ⟨_, el_mem hi, h⟩⟩
theorem nodup_el {α : Type} [Inhabited α] {l : List α} : l.Nodup ↔ ∀ i j : Int, 0 ≤ i → i < j → j < (l.length : Int) → el l i ≠ el l j := by
  unfold List.Nodup
  rw [List.pairwise_iff_getElem]
  constructor
  · intro h i j h0 h1 h2
    have e1 := el_get (l := l) (i := i) ⟨h0, by omega⟩
    have e2 := el_get (l := l) (i := j) ⟨by omega, h2⟩
    rw [List.getElem?_eq_getElem (by omega), Option.some.injEq] at e1 e2
    rw [← e1, ← e2]
    exact h _ _ _ _ (by omega)
  · intro h i j hi hj hij
    have := h i j (by omega) (by omega) (by omega)
    have e1 := el_get (l := l) (i := i) ⟨by omega, by omega⟩
    have e2 := el_get (l := l) (i := j) ⟨by omega, by omega⟩
    simp only [Int.toNat_natCast] at e1 e2
    rw [List.getElem?_eq_getElem (by omega), Option.some.injEq] at e1 e2
    rw [e1, e2]; exact this
@[reducible] def small {α : Type} (l : List α) : Prop := (l.length : Int) ≤ 1000000000
@[reducible] def small2 {α : Type} (t : List (List α)) : Prop := small t ∧ ∀ r ∈ t, small r
@[reducible] def InS (n : Int) : Prop := -1 ≤ n ∧ n ≤ 1000000000
@[reducible] def huge2 (t : List (List Int)) : Prop := t.length ≤ 9223372036854775807 ∧ ∀ r ∈ t, r.length ≤ 9223372036854775807
@[reducible] def okK (k : Int) : Prop := 0 ≤ k ∧ k ≤ 1000000000000
@[reducible] def okKT (k : Int) (t : List (List Int)) : Prop := 0 ≤ k ∧ k + tot t ≤ 1000000000000
def isPerm (p : List Int) : Bool := decide (p.Nodup ∧ ∀ x ∈ p, 0 ≤ x ∧ x < (p.length : Int))
def mkI : Int → List Int → List Int
  | _, [] => []
  | k, _ :: l => k :: mkI (k + 1) l
def mkII : Int → List (List Int) → List (List Int)
  | _, [] => []
  | k, r :: t => mkI k r :: mkII (k + (r.length : Int)) t
def idxF {α : Type} (t : List α) (f : α → Bool) : Int := if t.any f then (t.findIdx f : Int) else -1
def badRow (n : Int) (row : List Int) : Bool := !(decide ((row.length : Int) = n) && row.all (fun x => decide (0 ≤ x) && decide (x ≤ n - 1)))
def isTab (t : List (List Int)) : Bool := decide (1 ≤ (t.length : Int)) && decide ((t.length : Int) ≤ 12) && !t.any (badRow (t.length : Int))
def diag (t : List (List Int)) : List Int := ran (t.length : Int) fun x => el (el t x) x
def first3 (n : Int) (f : Int → Int → Int → Bool) : List Int :=
  match (ran n id).findSome? (fun x => (ran n id).findSome? fun y => (ran n id).findSome? fun z => if f x y z then some [x, y, z] else none) with
  | some l => l
  | none => []

theorem isTab_len {t : List (List Int)} (h : isTab t = true) : 1 ≤ (t.length : Int) ∧ (t.length : Int) ≤ 12 := by
  simp only [isTab, Bool.and_eq_true, decide_eq_true_eq] at h; exact h.1
theorem isTab_row {t : List (List Int)} (h : isTab t = true) {i : Int} (hi : 0 ≤ i ∧ i < (t.length : Int)) : ((el t i).length : Int) = (t.length : Int) ∧ ∀ j, 0 ≤ j → j < (t.length : Int) → 0 ≤ el (el t i) j ∧ el (el t i) j < (t.length : Int) := by
  simp only [isTab, Bool.and_eq_true, Bool.not_eq_true'] at h
  have h1 := h.2
  rw [List.any_eq_false] at h1
  have h2 := h1 _ (el_mem hi)
  simp only [badRow, Bool.not_eq_true', Bool.and_eq_true, decide_eq_true_eq, Bool.and_eq_false_iff, not_or, Bool.not_eq_false, all_el] at h2
  refine ⟨h2.1, fun j h0 h3 => ?_⟩
  have := h2.2 j h0 (by omega)
  omega
theorem isTab_mk {t : List (List Int)} (h1 : 1 ≤ (t.length : Int) ∧ (t.length : Int) ≤ 12) (h : ∀ i, 0 ≤ i → i < (t.length : Int) → ((el t i).length : Int) = (t.length : Int) ∧ ∀ j, 0 ≤ j → j < (t.length : Int) → 0 ≤ el (el t i) j ∧ el (el t i) j < (t.length : Int)) : isTab t = true := by
  simp only [isTab, Bool.and_eq_true, decide_eq_true_eq, Bool.not_eq_true', List.any_eq_false]
  refine ⟨h1, fun r hr => ?_⟩
  obtain ⟨i, hi, rfl⟩ := mem_el hr
  obtain ⟨h2, h3⟩ := h i hi.1 hi.2
  simp only [badRow, Bool.not_eq_true', Bool.and_eq_true, decide_eq_true_eq, Bool.and_eq_false_iff, not_or, Bool.not_eq_false, all_el]
  exact ⟨h2, fun j h0 h4 => by have := h3 j h0 (by omega); omega⟩
@[reducible] def Upto (i : Int) (P : Int → Prop) : Prop := ∀ j, 0 ≤ j → j < i → P j
theorem upto0 {P : Int → Prop} : Upto 0 P := fun j _ _ => by omega
theorem upto1 {P : Int → Prop} {i : Int} (h : Upto i P) (hi : P i) : Upto (i + 1) P := fun j h0 h1 => by
  by_cases e : j = i
  · subst e; exact hi
  · exact h j h0 (by omega)
theorem all_t {α : Type} [Inhabited α] {l : List α} {p : α → Bool} (h : Upto (l.length : Int) fun j => p (el l j) = true) : l.all p = true := all_el.2 h
theorem all_f {α : Type} [Inhabited α] {l : List α} {p : α → Bool} {i : Int} (hi : 0 ≤ i ∧ i < (l.length : Int)) (h : p (el l i) = false) : l.all p = false := by
  rw [Bool.eq_false_iff]
  intro h2
  rw [all_el.1 h2 i hi.1 hi.2] at h; cases h
theorem any_f {α : Type} [Inhabited α] {l : List α} {p : α → Bool} (h : Upto (l.length : Int) fun j => p (el l j) = false) : l.any p = false := by
  rw [Bool.eq_false_iff]
  intro h2
  obtain ⟨i, hi, h3⟩ := any_el.1 h2
  rw [h i hi.1 hi.2] at h3; cases h3
theorem any_t {α : Type} [Inhabited α] {l : List α} {p : α → Bool} {i : Int} (hi : 0 ≤ i ∧ i < (l.length : Int)) (h : p (el l i) = true) : l.any p = true := any_el.2 ⟨i, hi, h⟩
theorem idxF_found {α : Type} [Inhabited α] {t : List α} {f : α → Bool} {i : Int} (hi : 0 ≤ i ∧ i < (t.length : Int)) (h : Upto i fun j => f (el t j) = false) (h1 : f (el t i) = true) : idxF t f = i := by
  unfold idxF
  rw [if_pos (any_t hi h1)]
  have : t.findIdx f = i.toNat := by
    rw [List.findIdx_eq (by omega)]
    refine ⟨?_, fun k hk => ?_⟩
    · have := el_get hi
      rw [List.getElem?_eq_getElem (by omega), Option.some.injEq] at this
      rw [this]; exact h1
    · have e := el_get (l := t) (i := (k : Int)) ⟨by omega, by omega⟩
      simp only [Int.toNat_natCast] at e
      rw [List.getElem?_eq_getElem (by omega), Option.some.injEq] at e
      rw [e]; exact h k (by omega) (by omega)
  omega
theorem idxF_none {α : Type} [Inhabited α] {t : List α} {f : α → Bool} (h : Upto (t.length : Int) fun j => f (el t j) = false) : idxF t f = -1 := by
  unfold idxF
  rw [any_f h]; rfl
theorem idxF_nonneg {α : Type} {t : List α} {f : α → Bool} : decide (0 ≤ idxF t f) = t.any f := by
  unfold idxF
  cases h : t.any f <;> simp
theorem fill1 {α : Type} [Inhabited α] {o : List α} {f : Int → α} {i : Int} {v : α} (hi : 0 ≤ i ∧ i < (o.length : Int)) (h : Upto i fun j => el o j = f j) (hv : v = f i) : Upto (i + 1) fun j => el (se o i v) j = f j :=
  upto1 (fun j h0 h1 => by show el (se o i v) j = f j; rw [el_se_ne hi.1 h0 (by omega)]; exact h j h0 h1) (by show el (se o i v) i = f i; rw [el_se_same hi]; exact hv)
theorem app1 {α : Type} [Inhabited α] {o : List α} {f : Int → α} {i : Int} {v : α} (hi : i = (o.length : Int)) (h : Upto i fun j => el o j = f j) (hv : v = f i) : Upto (i + 1) fun j => el (o ++ [v]) j = f j :=
  upto1 (fun j h0 h1 => by show el (o ++ [v]) j = f j; rw [el_append_l ⟨h0, by omega⟩]; exact h j h0 h1) (by show el (o ++ [v]) i = f i; rw [el_append_last hi]; exact hv)
@[simp] theorem length_mkI : ∀ (k : Int) (l : List Int), (mkI k l).length = l.length
  | _, [] => rfl
  | k, _ :: l => by simp [mkI, length_mkI (k + 1) l]
@[simp] theorem length_mkII : ∀ (k : Int) (t : List (List Int)), (mkII k t).length = t.length
  | _, [] => rfl
  | k, r :: t => by simp [mkII, length_mkII _ t]
end
section
def idxI (l : List Int) (n : Int) : Int := idxF l (fun x => x == n)
def permB (p : List Int) : Bool := decide (1 ≤ (p.length : Int)) && decide ((p.length : Int) ≤ 12) && isPerm p
theorem nodup_perm {α : Type} [DecidableEq α] : ∀ (l p : List α), l.Nodup → (∀ x ∈ l, x ∈ p) → l.length = p.length → p.Perm l
  | [], p, _, _, h => by
    have : p = [] := List.eq_nil_of_length_eq_zero h.symm
    subst this; exact List.Perm.refl _
  | a :: l, p, hn, hs, h => by
    have ha := hs a List.mem_cons_self
    have hn' := List.nodup_cons.1 hn
    have ih := nodup_perm l (p.erase a) hn'.2 (fun x hx => by
      have hne : x ≠ a := fun e => hn'.1 (e ▸ hx)
      exact (List.mem_erase_of_ne hne).2 (hs x (List.mem_cons_of_mem _ hx))) (by rw [List.length_erase_of_mem ha]; simp at h; omega)
    exact (List.perm_cons_erase ha).trans (ih.cons a)
theorem mem_ran {n x : Int} : x ∈ ran n id ↔ 0 ≤ x ∧ x < n := by
  unfold ran
  simp only [List.mem_map, List.mem_range, id]
  exact ⟨fun ⟨k, hk, e⟩ => by omega, fun h => ⟨x.toNat, by omega, by omega⟩⟩
theorem nodup_ran (n : Int) : (ran n id).Nodup := nodup_el.2 fun i j h0 h1 h2 => by
  simp at h2
  rw [el_ran ⟨h0, by omega⟩, el_ran ⟨by omega, by omega⟩]; simp [id]; omega
theorem isPerm_iff {p : List Int} : isPerm p = true ↔ p.Nodup ∧ ∀ x ∈ p, 0 ≤ x ∧ x < (p.length : Int) := by simp [isPerm]
theorem isPerm_of_all {p : List Int} (h : ∀ x, 0 ≤ x → x < (p.length : Int) → x ∈ p) : isPerm p = true := by
  have := nodup_perm (ran (p.length : Int) id) p (nodup_ran _) (fun x hx => by have := mem_ran.1 hx; exact h x this.1 this.2) (by simp)
  exact isPerm_iff.2 ⟨this.nodup_iff.2 (nodup_ran _), fun x hx => mem_ran.1 (this.mem_iff.1 hx)⟩
theorem isPerm_all {p : List Int} (h : isPerm p = true) {x : Int} (hx : 0 ≤ x ∧ x < (p.length : Int)) : x ∈ p := by
  obtain ⟨h1, h2⟩ := isPerm_iff.1 h
  have := nodup_perm p (ran (p.length : Int) id) h1 (fun x hx => mem_ran.2 (h2 x hx)) (by simp)
  exact this.mem_iff.1 (mem_ran.2 hx)
theorem idxI_has {l : List Int} {n : Int} : decide (0 ≤ idxI l n) = l.contains n := by
  unfold idxI
  rw [idxF_nonneg, Bool.eq_iff_iff, List.contains_iff_mem, List.any_eq_true]
  simp
theorem fs_none {α : Type} {n : Int} {g : Int → Option α} (h : ∀ i, 0 ≤ i → i < n → g i = none) : (ran n id).findSome? g = none := by
  rw [List.findSome?_eq_none_iff]
  intro x hx
  have := mem_ran.1 hx
  exact h x this.1 this.2
theorem fs_some {α : Type} {n i : Int} {g : Int → Option α} {v : α} (hi : 0 ≤ i ∧ i < n) (h : g i = some v) (h0 : Upto i fun j => g j = none) : (ran n id).findSome? g = some v := by
  have e : ran n id = ran i id ++ (ran n id).drop i.toNat := by
    rw [← List.take_append_drop i.toNat (ran n id)]
    congr 1
    · refine (eq_ran (f := id) (by simp; omega) fun j h1 h2 => ?_)
      have := el_sl (l := ran n id) (a := 0) (b := i) (i := j) (by omega) h1 (by omega)
      simp only [sl, Int.toNat_zero, List.drop_zero, Int.zero_add] at this
      rw [this, el_ran ⟨h1, by omega⟩]
    · simp
  have e2 : (ran n id).drop i.toNat = i :: (ran n id).drop (i.toNat + 1) := by
    have := el_get (l := ran n id) (i := i) ⟨hi.1, by simp; omega⟩
    rw [el_ran hi] at this
    rw [List.drop_eq_getElem_cons (by simp; omega)]
    rw [List.getElem?_eq_getElem (by simp; omega), Option.some.injEq] at this
    rw [this]; rfl
  rw [e, List.findSome?_append, fs_none h0, e2, List.findSome?_cons, h]; rfl
theorem first3_found {n : Int} {f : Int → Int → Int → Bool} {x y z : Int} (hx : 0 ≤ x ∧ x < n) (hy : 0 ≤ y ∧ y < n) (hz : 0 ≤ z ∧ z < n) (h : f x y z = true)
    (h1 : Upto x fun a => ∀ b, 0 ≤ b → b < n → ∀ c, 0 ≤ c → c < n → f a b c = false) (h2 : Upto y fun b => ∀ c, 0 ≤ c → c < n → f x b c = false) (h3 : Upto z fun c => f x y c = false) : first3 n f = [x, y, z] := by
  unfold first3
  rw [fs_some hx (v := [x, y, z]) (fs_some hy (fs_some hz (by simp [h]) fun c a b => by simp [h3 c a b]) fun b a c => fs_none fun d e g => by simp [h2 b a c d e g]) fun a b c => fs_none fun d e g => fs_none fun k l m => by simp [h1 a b c d e g k l m]]
theorem first3_none {n : Int} {f : Int → Int → Int → Bool} (h : ∀ a, 0 ≤ a → a < n → ∀ b, 0 ≤ b → b < n → ∀ c, 0 ≤ c → c < n → f a b c = false) : first3 n f = [] := by
  unfold first3
  rw [fs_none fun a b c => fs_none fun d e g => fs_none fun k l m => by simp [h a b c d e g k l m]]
def cycB (t : List (List Int)) (x y z : Int) : Bool := !decide (el (el t (el (el t x) y)) (el (el t x) z) = el (el t (el (el t y) x)) (el (el t y) z))
def cycF (t : List (List Int)) : List Int := first3 (t.length : Int) (cycB t)
@[reducible] def inR (n : Int) : Prop := 1 ≤ n ∧ n ≤ 12
theorem mulA {a i : Int} (ha : 0 ≤ a ∧ a ≤ 1000) (hi : 0 ≤ i ∧ i ≤ 1000) : 0 ≤ a * i ∧ a * i ≤ 1000000 := by
  have := mulB (a := a) (i := i) (A := 1000) (B := 1000) ⟨ha.1, ha.2, hi.1, hi.2⟩
  omega
end
section
def unitI (n : Int) : List Int := ran n id
def backI (p : List Int) : List Int := ran (p.length : Int) fun x => idxI p x
def rackB (t : List (List Int)) (x y z : Int) : Bool := !decide (el (el t x) (el (el t y) z) = el (el t (el (el t x) y)) (el (el t x) z))
def rackF (t : List (List Int)) : List Int := first3 (t.length : Int) (rackB t)
def isRk (t : List (List Int)) : Bool := isTab t && t.all isPerm && (rackF t).isEmpty
def isCyc (t : List (List Int)) : Bool := isTab t && t.all isPerm && isPerm (diag t) && (cycF t).isEmpty
def inN (n x : Int) : Bool := decide (0 ≤ x) && decide (x ≤ n - 1)
def affT (n a b c : Int) : List (List Int) := tab n (fun x y => (a * x + b * y + c) % n)
def AffE (n a b c : Int) : Int := if inN 12 (n - 1) && inN n a && inN n b && inN n c then (if isCyc (affT n a b c) then 0 else 5) else 2
def AffT (n a b c : Int) : List (List Int) := if AffE n a b c = 0 then affT n a b c else []
theorem isCyc_tab {t : List (List Int)} (h : isCyc t = true) : isTab t = true := by simp only [isCyc, Bool.and_eq_true] at h; exact h.1.1.1
@[simp] theorem length_backI (p : List Int) : (backI p).length = p.length := by simp [backI]
@[simp] theorem length_unitI (n : Int) : (unitI n).length = n.toNat := by simp [unitI]
theorem isTab_perm {t : List (List Int)} (h : isTab t = true) : t.all permB = t.all isPerm := by
  have key : ∀ r ∈ t, permB r = isPerm r := fun r hr => by
    obtain ⟨i, hi, rfl⟩ := mem_el hr
    have a := (isTab_row h hi).1
    have b := isTab_len h
    unfold permB
    have e1 : decide (1 ≤ ((el t i).length : Int)) = true := decide_eq_true (by omega)
    have e2 : decide (((el t i).length : Int) ≤ 12) = true := decide_eq_true (by omega)
    rw [e1, e2]; rfl
  rw [Bool.eq_iff_iff, List.all_eq_true, List.all_eq_true]
  exact ⟨fun h r hr => by rw [← key r hr]; exact h r hr, fun h r hr => by rw [key r hr]; exact h r hr⟩
@[simp] theorem length_diag (t : List (List Int)) : (diag t).length = t.length := by simp [diag]
theorem rk_el {t : List (List Int)} (h : isTab t = true) {x y : Int} (hx : 0 ≤ x ∧ x < (t.length : Int)) (hy : 0 ≤ y ∧ y < (t.length : Int)) : 0 ≤ el (el t x) y ∧ el (el t x) y < (t.length : Int) := (isTab_row h hx).2 y hy.1 hy.2
theorem rk_len {t : List (List Int)} (h : isTab t = true) {x : Int} (hx : 0 ≤ x ∧ x < (t.length : Int)) : ((el t x).length : Int) = (t.length : Int) := (isTab_row h hx).1
end
section
noncomputable def dec (P : Prop) : Bool := @decide P (Classical.propDecidable P)
noncomputable def the {α : Type} [Inhabited α] (P : α → Prop) : α := Classical.epsilon P
end
section
def permsN (n : Int) (list : List (List Int)) : Prop := ∀ p ∈ list, (p.length : Int) = n ∧ isPerm p = true
theorem nodup_len {α : Type} [DecidableEq α] : ∀ (l p : List α), l.Nodup → (∀ x ∈ l, x ∈ p) → l.length ≤ p.length
  | [], p, _, _ => Nat.zero_le _
  | a :: l, p, hn, hs => by
    have ha := hs a List.mem_cons_self
    have hn' := List.nodup_cons.1 hn
    have ih := nodup_len l (p.erase a) hn'.2 (fun x hx => by
      have hne : x ≠ a := fun e => hn'.1 (e ▸ hx)
      exact (List.mem_erase_of_ne hne).2 (hs x (List.mem_cons_of_mem _ hx)))
    rw [List.length_erase_of_mem ha] at ih
    have := List.length_pos_of_mem ha
    simp; omega
theorem nodup_len_ran {l : List Int} {n : Int} (hn : 0 ≤ n) (h : l.Nodup) (hr : ∀ x ∈ l, 0 ≤ x ∧ x < n) : (l.length : Int) ≤ n := by
  have := nodup_len l (ran n id) h fun x hx => mem_ran.2 (hr x hx)
  simp at this; omega
end
section

end
section
theorem el_tab {n : Int} {f : Int → Int → Int} {x y : Int} (hx : 0 ≤ x ∧ x < n) (hy : 0 ≤ y ∧ y < n) : el (el (tab n f) x) y = f x y := by
  unfold tab; rw [el_ran hx, el_ran hy]
theorem len_tab {n : Int} {f : Int → Int → Int} (hn : 0 ≤ n) : ((tab n f).length : Int) = n := by simp; omega
def idxL (lists : List (List Int)) (list : List Int) : Int := idxF lists (fun own => decide (own = list))
def conjI (x y : List Int) : List Int := ((backI x).map (el y)).map (el x)
def GoodL (list : List (List Int)) : Prop := 1 ≤ (list.length : Int) ∧ ∀ i, 0 ≤ i → i < (list.length : Int) → permB (el list i) = true ∧ ((el list i).length : Int) = ((el list 0).length : Int) ∧ ∀ j, 0 ≤ j → j < i → el list j ≠ el list i
def cjV (list : List (List Int)) (x y : Int) : Int := idxL list (conjI (el list x) (el list y))
def cjT (list : List (List Int)) : List (List Int) := tab (list.length : Int) (cjV list)
noncomputable def CjqE (list : List (List Int)) : Int := if dec (GoodL list) then (if (12 : Int) < (list.length : Int) then 3 else if isTab (cjT list) then 0 else 5) else 1
end
section
inductive Eqv (R : Int → Int → Prop) : Int → Int → Prop
  | refl (a : Int) : Eqv R a a
  | step {a b : Int} (h : R a b) : Eqv R a b
  | symm {a b : Int} (h : Eqv R a b) : Eqv R b a
  | trans {a b c : Int} (h : Eqv R a b) (k : Eqv R b c) : Eqv R a c
theorem Eqv.mono {R S : Int → Int → Prop} (h : ∀ a b, R a b → S a b) {a b : Int} (k : Eqv R a b) : Eqv S a b := by
  induction k with
  | refl a => exact .refl a
  | step k => exact .step (h _ _ k)
  | symm _ ih => exact .symm ih
  | trans _ _ ih1 ih2 => exact .trans ih1 ih2
end
section
def digs (l : List Int) : Prop := ∀ i, 0 ≤ i → i < (l.length : Int) → 0 ≤ el l i ∧ el l i < 12
def dgt (x : Int) : UInt8 := UInt8.ofNat (if x < 10 then 48 + x else 97 + x - 10).toNat
def digI (l : List Int) : List UInt8 := l.map dgt
def joinI (xs : List (List UInt8)) (s : List UInt8) : List UInt8 := Lib.join xs s
def txtI (t : List (List Int)) : List UInt8 := joinI (t.map digI) [47]
def JoinPre (xs : List (List UInt8)) (s : List UInt8) : Prop := (joinI xs s).length ≤ 140737488355328 ∧ xs.length ≤ 1000000000
@[simp] theorem digI_len (l : List Int) : (digI l).length = l.length := by simp [digI]
theorem digs_row {t : List (List Int)} (ht : isTab t = true) {z : Int} (hz : 0 ≤ z ∧ z < (t.length : Int)) : small (el t z) ∧ digs (el t z) := by
  have hl := rk_len ht hz
  have hn := isTab_len ht
  refine ⟨by show ((el t z).length : Int) ≤ 1000000000; omega, fun i i0 i1 => ?_⟩
  have : 0 ≤ el (el t z) i ∧ el (el t z) i < (t.length : Int) := rk_el ht hz ⟨i0, by omega⟩
  omega
theorem joinI_one (y s : List UInt8) : joinI [y] s = y := Lib.join_one y s
theorem take_el {α : Type} [Inhabited α] {l : List α} {i : Int} (h : 0 ≤ i ∧ i < (l.length : Int)) : l.take (i + 1).toNat = l.take i.toNat ++ [el l i] := by
  have e : (i + 1).toNat = i.toNat + 1 := by omega
  rw [e, List.take_add_one, el_get h]; rfl
theorem txt_len : ∀ (t : List (List Int)), (∀ r ∈ t, r.length ≤ 12) → (txtI t).length ≤ 13 * t.length
  | [], _ => by simp [txtI, joinI, Lib.join_nil]
  | x :: r, h => by
    unfold txtI joinI
    rw [List.map_cons, Lib.join_cons, List.length_append, Lib.joinTail_length]
    have h1 := h x (by simp)
    have h2 : Lib.lens (r.map digI) ≤ 12 * r.length := by
      have : ∀ (r : List (List Int)), (∀ q ∈ r, q.length ≤ 12) → Lib.lens (r.map digI) ≤ 12 * r.length := by
        intro r
        induction r with
        | nil => intro _; simp [Lib.lens]
        | cons q r ih =>
          intro hq
          have a := hq q (by simp)
          have b := ih fun q' hq' => hq q' (by simp [hq'])
          simp only [Lib.lens, List.map_cons, List.sum_cons, List.length_cons, digI_len] at b ⊢
          omega
      exact this r fun q hq => h q (by simp [hq])
    simp only [digI_len, List.length_map, List.length_cons, List.length_nil]
    omega
theorem row_le {t : List (List Int)} (ht : isTab t = true) : ∀ r ∈ t, r.length ≤ 12 := fun r hr => by
  obtain ⟨i, hi, rfl⟩ := mem_el hr
  have := rk_len ht hi
  have := isTab_len ht
  omega
end
section

end
section

end
section
def bytes (l : List Int) : Prop := ∀ i, 0 ≤ i → i < (l.length : Int) → 0 ≤ el l i ∧ el l i ≤ 255
def okS (c : List Int) (a h : Int) : Prop := (small c ∧ bytes c) ∧ (0 ≤ a ∧ a ≤ (c.length : Int)) ∧ 0 ≤ h ∧ h ≤ 18446744073709551615
def nxP (n r : Int) : Prop := (n < 1 → r = 0) ∧ (¬ n < 1 → 0 ≤ r ∧ r < n)
theorem and_bd (x : Nat) : 0 ≤ ((x &&& (16777215 : Int).toNat : Nat) : Int) ∧ ((x &&& (16777215 : Int).toNat : Nat) : Int) ≤ 16777215 := by
  have : x &&& (16777215 : Int).toNat ≤ (16777215 : Int).toNat := Nat.and_le_right
  omega
theorem shr_bd {u : Int} (h : 0 ≤ u ∧ u ≤ 18446744073709551615) (k : Nat) : 0 ≤ u / (2 : Int) ^ k ∧ u / (2 : Int) ^ k ≤ 18446744073709551615 := by
  have a : 0 ≤ u / (2 : Int) ^ k := Int.ediv_nonneg h.1 (Int.pow_nonneg (by omega))
  have b : u / (2 : Int) ^ k ≤ u := Int.ediv_le_self _ h.1
  omega
end
section

end
section
section
variable {a b : List (List Int)}
end
end
section
section
variable {t : List (List Int)} {p : List Int} {x y : Int} {o : List (List Int)}
end
section
variable {r : List (List Int)} (h : isRk r = true)
include h
end

end
section
/-! Least congruences. -/
section
variable {r : List (List Int)} (h : isRk r = true) {x y : Int} (hx : 0 ≤ x ∧ x < (r.length : Int)) (hy : 0 ≤ y ∧ y < (r.length : Int))
include h hx hy
end
/-! Least subracks. -/
section
variable {r : List (List Int)} (h : isRk r = true) {l : List Int} (hl : ∀ x ∈ l, 0 ≤ x ∧ x < (r.length : Int))
include h hl
end
end
section
section
variable {c : List (List Int)} (h : isCyc c = true)
include h
end
end
section
section
variable {α : Type} [Inhabited α] {f : α → α → Int} {a b : List α} {i : Int}
end
end
section
def lexL (a b : List Int) : Prop := ∃ j, (0 ≤ j ∧ j < (a.length : Int)) ∧ Upto j (fun m => el a m = el b m) ∧ el a j < el b j
section
variable {p : List Int} {i k : Int}
end
section
variable {n : Int}
end

end
section

end
section
def LexS (n : Nat) (l : List (List Int)) : Prop := l.Pairwise lexL ∧ ∀ x ∈ l, x.length = n
section
variable {x y : List Int}
end
section
variable {p : List Int} (hp : permB p = true)
include hp
end
end
section
section
variable {n : Int} {list : List (List Int)} (hn : 1 ≤ n ∧ n ≤ 12) (hP : permsN n list)
include hn hP
end
section
variable {n : Int} {list q : List (List Int)} {i k : Int}
end
end
section
structure OkM (a b : List (List (List Int))) (f : List Int) (u : List Bool) (s : List Int) : Prop where
  la : a.length = b.length
  ha : ∀ k, 0 ≤ k → k < (a.length : Int) → isTab (el a k) = true ∧ (el a k).length = f.length
  hb : ∀ k, 0 ≤ k → k < (b.length : Int) → isTab (el b k) = true ∧ (el b k).length = f.length
  sm : (a.length : Int) ≤ 1000
  lu : u.length = f.length
  n12 : 1 ≤ (f.length : Int) ∧ (f.length : Int) ≤ 12
  nd : s.Nodup
  mem : ∀ x, x ∈ s ↔ (0 ≤ x ∧ x < (f.length : Int)) ∧ 0 ≤ el f x
  val : ∀ x, 0 ≤ x → x < (f.length : Int) → el f x = -1 ∨ (0 ≤ el f x ∧ el f x < (f.length : Int))
  use : ∀ v, 0 ≤ v → v < (f.length : Int) → (el u v = true ↔ ∃ x, x ∈ s ∧ el f x = v)
  inj : ∀ x ∈ s, ∀ y ∈ s, el f x = el f y → x = y
section
variable {a b : List (List (List Int))} {f f' : List Int} {u u' : List Bool} {s s' : List Int}
theorem OkM.in_s (h : OkM a b f u s) {x : Int} (hx : x ∈ s) : (0 ≤ x ∧ x < (f.length : Int)) ∧ 0 ≤ el f x ∧ el f x < (f.length : Int) := by
  have h1 := (h.mem x).1 hx
  have := h.val x h1.1.1 h1.1.2
  exact ⟨h1.1, h1.2, by omega⟩
theorem OkM.len (h : OkM a b f u s) : (s.length : Int) ≤ (f.length : Int) := nodup_len_ran (by omega) h.nd fun x hx => (h.in_s hx).1
theorem OkM.add (h : OkM a b f u s) {x v : Int} (hx : 0 ≤ x ∧ x < (f.length : Int)) (hn : ¬ 0 ≤ el f x) (hv : 0 ≤ v ∧ v < (f.length : Int)) (hu : el u v = false) : OkM a b (se f x v) (se u v true) (s ++ [x]) := by
  have hl : (se f x v).length = f.length := by simp
  have hx2 : x ∉ s := fun hm => hn ((h.mem x).1 hm).2
  have same : ∀ y, 0 ≤ y → y ≠ x → el (se f x v) y = el f y := fun y y0 hy => el_se_ne hx.1 y0 (Ne.symm hy)
  have here : el (se f x v) x = v := el_se_same hx
  have old : ∀ y ∈ s, el (se f x v) y = el f y := fun y hy => same y (h.in_s hy).1.1 fun e => hx2 (e ▸ hy)
  refine ⟨h.la, fun k a b => by rw [hl]; exact h.ha k a b, fun k a b => by rw [hl]; exact h.hb k a b, h.sm, by simp [h.lu], by rw [hl]; exact h.n12, List.nodup_append.2 ⟨h.nd, by simp, fun y hy z hz e => by rw [List.mem_singleton.1 hz] at e; exact hx2 (e ▸ hy)⟩, fun y => ?_, fun y y0 y1 => ?_, fun w w0 w1 => ?_, fun y hy z hz e => ?_⟩
  · rw [hl, List.mem_append, List.mem_singleton, h.mem]
    by_cases e : y = x
    · subst e; rw [here]; exact ⟨fun _ => ⟨hx, hv.1⟩, fun _ => .inr rfl⟩
    · constructor
      · rintro (k | k)
        · exact ⟨k.1, by rw [same y k.1.1 e]; exact k.2⟩
        · exact absurd k e
      · rintro ⟨k1, k2⟩; exact .inl ⟨k1, by rwa [same y k1.1 e] at k2⟩
  · rw [hl] at y1 ⊢
    by_cases e : y = x
    · subst e; rw [here]; exact .inr hv
    · rw [same y y0 e]; exact h.val y y0 y1
  · rw [hl] at w1
    by_cases e : w = v
    · subst e; rw [el_se_same ⟨w0, by rw [h.lu]; exact w1⟩]; exact ⟨fun _ => ⟨x, by simp, here⟩, fun _ => rfl⟩
    · rw [el_se_ne hv.1 w0 (Ne.symm e), h.use w w0 w1]
      constructor
      · rintro ⟨y, hy, e2⟩; exact ⟨y, List.mem_append_left _ hy, by rw [old y hy]; exact e2⟩
      · rintro ⟨y, hy, e2⟩
        rcases List.mem_append.1 hy with hy | hy
        · exact ⟨y, hy, by rw [← old y hy]; exact e2⟩
        · rw [List.mem_singleton.1 hy, here] at e2; exact absurd e2.symm e
  · have nov : ∀ y ∈ s, el f y ≠ v := fun y hy e => by
      have := (h.use v hv.1 hv.2).2 ⟨y, hy, e⟩
      rw [hu] at this; cases this
    rcases List.mem_append.1 hy with hy | hy <;> rcases List.mem_append.1 hz with hz | hz
    · rw [old y hy, old z hz] at e; exact h.inj y hy z hz e
    · rw [List.mem_singleton.1 hz, here, old y hy] at e; exact absurd e (nov y hy)
    · rw [List.mem_singleton.1 hy, here, old z hz] at e; exact absurd e.symm (nov z hz)
    · rw [List.mem_singleton.1 hy, List.mem_singleton.1 hz]
end

end
section
section
variable {a b : List (List (List Int))} {f : List Int}
theorem LexS.filter {n : Nat} {l : List (List Int)} (h : LexS n l) (q : List Int → Bool) : LexS n (l.filter q) := ⟨List.Pairwise.filter _ h.1, fun x hx => h.2 x (List.mem_filter.1 hx).1⟩
end

end
section
section
variable {a b : List (List (List Int))} {p c d : List Int}
end
end
section

end
section
section
variable {l : List (List Int)} (h : CjqE l = 0)
include h
end
end
section
section
variable {n : Int} {list : List (List Int)} (hn : 1 ≤ n ∧ n ≤ 12) (hP : permsN n list)
include hn hP
end
section
variable {r : List (List Int)} (h : isRk r = true)
include h
end

end
section
section
variable {r s b : List (List Int)} (hr : isTab r = true) (hs : isTab s = true) (hb : isTab b = true)
include hs hb
omit hs in
include hr
end
section
variable {r : List (List Int)} (ht : isTab r = true)
include ht
end

end
section
def splS (s : List UInt8) (c : Int) : List (List UInt8) := s.foldr (fun b r => if (b.toNat : Int) = c then [] :: r else match r with | [] => [[b]] | x :: r => (b :: x) :: r) [[]]
def digV (b : Int) : Int := if 48 ≤ b ∧ b ≤ 57 then b - 48 else if 97 ≤ b ∧ b ≤ 98 then b - 87 else -1
def rdgB (s : List UInt8) : Bool := s.all fun b => decide (0 ≤ digV (b.toNat : Int))
def rdgV (s : List UInt8) : List Int := s.map fun b => digV (b.toNat : Int)
def rdgT (s : List UInt8) : List Int := if rdgB s then rdgV s else []
def rtbV (s : List UInt8) : List (List Int) := (splS s 47).map rdgV
def rtbB (s : List UInt8) : Bool := (splS s 47).all rdgB && isTab (rtbV s)
def rtbT (s : List UInt8) : List (List Int) := if rtbB s then rtbV s else []
def rdiT (s : List UInt8) : List (List Int) := if (s.length : Int) ≤ 156 ∧ (splS s 47).all rdgB = true then rtbV s else []
def pcyE (s : List UInt8) : Int := if rtbB s = true ∧ isCyc (rtbV s) = true then 0 else 6
def pcyT (s : List UInt8) : List (List Int) := if pcyE s = 0 then rtbV s else []
theorem splS_nil (c : Int) : splS [] c = [[]] := rfl
theorem splS_sep {b : UInt8} {s : List UInt8} {c : Int} (h : (b.toNat : Int) = c) : splS (b :: s) c = [] :: splS s c := by simp [splS, h]
theorem splS_ne (s : List UInt8) (c : Int) : ∃ x r, splS s c = x :: r := by
  cases s with
  | nil => exact ⟨_, _, rfl⟩
  | cons b s =>
    by_cases h : (b.toNat : Int) = c
    · exact ⟨_, _, splS_sep h⟩
    · unfold splS
      rw [List.foldr_cons, if_neg h]
      split <;> exact ⟨_, _, rfl⟩
theorem splS_oth {b : UInt8} {s : List UInt8} {c : Int} {x : List UInt8} {r : List (List UInt8)} (h : ¬ (b.toNat : Int) = c) (e : splS s c = x :: r) : splS (b :: s) c = (b :: x) :: r := by
  unfold splS at e ⊢
  rw [List.foldr_cons, if_neg h, e]
theorem splS_app {c : Int} {t : List UInt8} {y : List UInt8} {R : List (List UInt8)} (ht : splS t c = y :: R) : ∀ {s : List UInt8} {P : List (List UInt8)} {x : List UInt8}, splS s c = P ++ [x] → splS (s ++ t) c = P ++ (x ++ y) :: R
  | [], P, x, h => by
    rw [splS_nil] at h
    cases P with
    | nil => simp only [List.nil_append, List.cons.injEq, and_true] at h; subst h; simpa using ht
    | cons p P => simp at h
  | b :: s, P, x, h => by
    by_cases hb : (b.toNat : Int) = c
    · rw [splS_sep hb] at h
      cases P with
      | nil =>
        obtain ⟨u, v, e⟩ := splS_ne s c
        rw [e] at h; simp at h
      | cons p P =>
        simp only [List.cons_append, List.cons.injEq] at h
        obtain ⟨rfl, h⟩ := h
        rw [List.cons_append, splS_sep hb, splS_app ht h]; rfl
    · obtain ⟨u, v, e⟩ := splS_ne s c
      rw [splS_oth hb e] at h
      cases P with
      | nil =>
        simp only [List.nil_append, List.cons.injEq] at h
        obtain ⟨rfl, rfl⟩ := h
        have := splS_app ht (P := []) (x := u) (by rw [e]; rfl)
        rw [List.cons_append, splS_oth hb this]; rfl
      | cons p P =>
        simp only [List.cons_append, List.cons.injEq] at h
        obtain ⟨rfl, rfl⟩ := h
        have := splS_app ht (P := u :: P) (x := x) (by rw [e]; rfl)
        rw [List.cons_append, splS_oth hb this]; rfl
theorem splS_none {c : Int} : ∀ {s : List UInt8}, (∀ b ∈ s, ¬ (b.toNat : Int) = c) → splS s c = [s]
  | [], _ => rfl
  | b :: s, h => by rw [splS_oth (h b (by simp)) (splS_none fun x hx => h x (by simp [hx]))]
theorem splS_cut {c : Int} {p r : List UInt8} {b : UInt8} (hp : ∀ x ∈ p, ¬ (x.toNat : Int) = c) (hb : (b.toNat : Int) = c) : splS (p ++ b :: r) c = p :: splS r c := by
  rw [splS_app (y := []) (R := splS r c) (splS_sep hb) (P := []) (x := p) (by rw [splS_none hp]; rfl)]; simp
theorem splS_len {c : Int} : ∀ s : List UInt8, (splS s c).length = (s.filter fun b => decide ((b.toNat : Int) = c)).length + 1
  | [] => rfl
  | b :: s => by
    by_cases h : (b.toNat : Int) = c
    · rw [splS_sep h, List.filter_cons_of_pos (by simpa using h), List.length_cons, splS_len s, List.length_cons]
    · obtain ⟨u, v, e⟩ := splS_ne s c
      have := splS_len (c := c) s
      rw [splS_oth h e, List.filter_cons_of_neg (by simpa using h), List.length_cons, ← this, e, List.length_cons]
theorem splS_le (s : List UInt8) (c : Int) : (splS s c).length ≤ s.length + 1 := by
  rw [splS_len]; exact Nat.succ_le_succ (List.length_filter_le _ _)
theorem idxF_cons {α : Type} {b : α} {s : List α} {f : α → Bool} : idxF (b :: s) f = if f b then 0 else if idxF s f = -1 then -1 else idxF s f + 1 := by
  unfold idxF
  rw [List.any_cons, List.findIdx_cons]
  cases f b with
  | true => simp
  | false =>
    cases s.any f with
    | true => simp <;> omega
    | false => simp
theorem idx_cut {α : Type} {f : α → Bool} : ∀ {v : List α}, ¬ idxF v f < 0 → ∃ p b r, v = p ++ b :: r ∧ (∀ x ∈ p, f x = false) ∧ f b = true ∧ idxF v f = (p.length : Int)
  | [], h => absurd (show idxF [] f < 0 by simp [idxF]) h
  | b :: v, h => by
    rw [idxF_cons] at h ⊢
    cases hb : f b with
    | true => exact ⟨[], b, v, rfl, by simp, hb, by simp⟩
    | false =>
      rw [hb] at h
      simp only [Bool.false_eq_true, if_false] at h ⊢
      have hv : ¬ idxF v f < 0 := by
        intro g
        unfold idxF at g h
        split at g
        · omega
        · rename_i q; simp [q] at h
      obtain ⟨p, c, r, rfl, h1, h2, h3⟩ := idx_cut hv
      refine ⟨b :: p, c, r, rfl, fun x hx => (List.mem_cons.1 hx).elim (fun e => by rw [e]; exact hb) (h1 x), h2, ?_⟩
      rw [h3, if_neg (by omega)]; simp
theorem idx_no {α : Type} {f : α → Bool} {v : List α} (h : idxF v f < 0) : ∀ x ∈ v, f x = false := by
  intro x hx
  unfold idxF at h
  split at h
  · omega
  · rename_i q
    cases hf : f x with
    | false => rfl
    | true => exact absurd (List.any_eq_true.2 ⟨x, hx, hf⟩) q
theorem byt_el (s : List UInt8) (z : Int) : byt s z = ((el s z).toNat : Int) := rfl
theorem byt_in (s : List UInt8) (z : Int) : 0 ≤ byt s z ∧ byt s z ≤ 255 := by
  rw [byt_el]; have := (el s z).toNat_lt; omega
theorem idx_dig {c : Int} (h : 0 ≤ c ∧ c ≤ 255) : idxF ([48, 49, 50, 51, 52, 53, 54, 55, 56, 57, 97, 98] : List UInt8) (fun b_ => decide ((b_.toNat : Int) = c)) = digV c := by
  have k : ∀ k : Fin 256, idxF ([48, 49, 50, 51, 52, 53, 54, 55, 56, 57, 97, 98] : List UInt8) (fun b_ => decide ((b_.toNat : Int) = (k.val : Int))) = digV (k.val : Int) := by decide +kernel
  have := k ⟨c.toNat, by omega⟩
  simpa only [Int.toNat_of_nonneg h.1] using this
theorem rdgB_iff {s : List UInt8} : rdgB s = true ↔ ∀ j, 0 ≤ j → j < (s.length : Int) → 0 ≤ digV (byt s j) := by
  unfold rdgB
  rw [List.all_eq_true]
  exact ⟨fun h j j0 j1 => of_decide_eq_true (h _ (el_mem ⟨j0, j1⟩)), fun h b hb => by
    obtain ⟨j, hj, rfl⟩ := mem_el hb
    exact decide_eq_true (h j hj.1 hj.2)⟩
theorem rdgB_no {s : List UInt8} {j : Int} (hj : 0 ≤ j ∧ j < (s.length : Int)) (h : ¬ 0 ≤ digV (byt s j)) : rdgB s = false := by
  cases hb : rdgB s with
  | false => rfl
  | true => exact absurd (rdgB_iff.1 hb j hj.1 hj.2) h
theorem rdgV_el {s : List UInt8} {j : Int} (hj : 0 ≤ j ∧ j < (s.length : Int)) : el (rdgV s) j = digV (byt s j) := by
  unfold rdgV; rw [el_map hj]; rfl
@[simp] theorem rdgV_len (s : List UInt8) : (rdgV s).length = s.length := by simp [rdgV]
theorem splS_part {c : Int} : ∀ {s : List UInt8}, ∀ x ∈ splS s c, x.length ≤ s.length
  | [], x, hx => by rw [splS_nil] at hx; simp at hx; subst hx; simp
  | b :: s, x, hx => by
    by_cases h : (b.toNat : Int) = c
    · rw [splS_sep h] at hx
      rcases List.mem_cons.1 hx with rfl | hx
      · simp
      · have := splS_part x hx; simp only [List.length_cons]; omega
    · obtain ⟨u, v, e⟩ := splS_ne s c
      rw [splS_oth h e] at hx
      rcases List.mem_cons.1 hx with rfl | hx
      · have := splS_part (s := s) u (by rw [e]; simp); simp only [List.length_cons]; omega
      · have := splS_part (s := s) x (by rw [e]; simp [hx]); simp only [List.length_cons]; omega
def shortS (s : List UInt8) : Prop := (s.length : Int) ≤ 2000000
theorem join_splS : ∀ s : List UInt8, joinI (splS s 47) [47] = s
  | [] => rfl
  | b :: s => by
    obtain ⟨u, v, e⟩ := splS_ne s 47
    have ih := join_splS s
    rw [e] at ih
    unfold joinI at ih ⊢
    rw [Lib.join_cons] at ih
    by_cases h : (b.toNat : Int) = 47
    · have hb : b = 47 := by apply UInt8.toNat_inj.1; show b.toNat = 47; omega
      rw [splS_sep h, e, Lib.join_cons, Lib.joinTail, List.map_cons, List.flatten_cons, ← ih, hb]; simp [Lib.joinTail]
    · rw [splS_oth h e, Lib.join_cons, List.cons_append, ih]
theorem splS_join : ∀ {xs : List (List UInt8)}, xs ≠ [] → (∀ x ∈ xs, ∀ b ∈ x, ¬ (b.toNat : Int) = 47) → splS (joinI xs [47]) 47 = xs
  | [], h, _ => absurd rfl h
  | [x], _, h => by rw [joinI_one]; exact splS_none (h x (by simp))
  | x :: y :: r, _, h => by
    have e : joinI (x :: y :: r) [47] = x ++ 47 :: joinI (y :: r) [47] := by
      unfold joinI
      rw [Lib.join_cons, Lib.join_cons, Lib.joinTail, List.map_cons, List.flatten_cons]; simp [Lib.joinTail]
    rw [e, splS_cut (h x (by simp)) (by rfl), splS_join (by simp) fun z hz => h z (by simp [hz])]
theorem joinI_len : ∀ {xs : List (List UInt8)}, xs ≠ [] → (joinI xs [47]).length + 1 = xs.length + Lib.lens xs
  | [], h => absurd rfl h
  | x :: r, _ => by
    have := Lib.join_length x r [47]
    unfold joinI
    rw [this]; simp only [List.length_cons, List.length_nil]; omega
theorem digV_dgt : ∀ x : Int, 0 ≤ x → x < 12 → ((dgt x).toNat : Int) ≠ 47 ∧ digV ((dgt x).toNat : Int) = x := by
  have h : ∀ k : Fin 12, ((dgt (k.val : Int)).toNat : Int) ≠ 47 ∧ digV ((dgt (k.val : Int)).toNat : Int) = (k.val : Int) := by decide
  intro x h0 h1
  have e : ((x.toNat : Nat) : Int) = x := by omega
  have := h ⟨x.toNat, by omega⟩
  simpa only [e] using this
theorem dgt_digV (b : UInt8) (h : 0 ≤ digV (b.toNat : Int)) : dgt (digV (b.toNat : Int)) = b ∧ digV (b.toNat : Int) < 12 := by
  have hb := b.toNat_lt
  unfold digV at h ⊢
  split
  · rename_i g
    refine ⟨?_, by omega⟩
    unfold dgt
    rw [if_pos (by omega)]
    apply UInt8.toNat_inj.1
    rw [show ((48 : Int) + ((b.toNat : Int) - 48)).toNat = b.toNat by omega]
    simp
  · split
    · rename_i g
      refine ⟨?_, by omega⟩
      unfold dgt
      rw [if_neg (by omega)]
      apply UInt8.toNat_inj.1
      rw [show ((97 : Int) + ((b.toNat : Int) - 87) - 10).toNat = b.toNat by omega]
      simp
    · rename_i g1 g2; simp [g1, g2] at h
theorem digI_rdgV {s : List UInt8} (h : rdgB s = true) : digI (rdgV s) = s := by
  unfold digI rdgV
  rw [List.map_map]
  refine (List.map_congr_left fun b hb => ?_).trans (List.map_id s)
  have := List.all_eq_true.1 h b hb
  exact (dgt_digV b (of_decide_eq_true this)).1
theorem rdg_digI {l : List Int} (h : digs l) : rdgB (digI l) = true ∧ rdgV (digI l) = l := by
  have hm : ∀ x ∈ l, 0 ≤ x ∧ x < 12 := fun x hx => by
    obtain ⟨i, hi, rfl⟩ := mem_el hx
    exact h i hi.1 hi.2
  constructor
  · unfold rdgB digI
    rw [List.all_eq_true]
    intro b hb
    obtain ⟨x, hx, rfl⟩ := List.mem_map.1 hb
    have := hm x hx
    exact decide_eq_true (by rw [(digV_dgt x this.1 this.2).2]; exact this.1)
  · unfold rdgV digI
    rw [List.map_map]
    exact (List.map_congr_left fun x hx => (digV_dgt x (hm x hx).1 (hm x hx).2).2).trans (List.map_id l)
theorem rtb_txt {t : List (List Int)} (ht : isTab t = true) : rtbB (txtI t) = true ∧ rtbT (txtI t) = t := by
  have hn := isTab_len ht
  have hrow : ∀ r ∈ t, digs r := fun r hr => by
    obtain ⟨i, hi, rfl⟩ := mem_el hr
    exact (digs_row ht hi).2
  have e : splS (txtI t) 47 = t.map digI := by
    unfold txtI
    refine splS_join (by intro h; have := congrArg List.length h; simp at this; subst this; simp at hn) fun x hx b hb => ?_
    obtain ⟨r, hr, rfl⟩ := List.mem_map.1 hx
    obtain ⟨z, hz, rfl⟩ := List.mem_map.1 hb
    obtain ⟨i, hi, rfl⟩ := mem_el hz
    have := hrow r hr i hi.1 hi.2
    exact (digV_dgt _ this.1 this.2).1
  have v : rtbV (txtI t) = t := by
    unfold rtbV
    rw [e, List.map_map]
    exact (List.map_congr_left fun r hr => (rdg_digI (hrow r hr)).2).trans (List.map_id t)
  have b : rtbB (txtI t) = true := by
    unfold rtbB
    rw [v, ht, Bool.and_true, e, List.all_eq_true]
    intro x hx
    obtain ⟨r, hr, rfl⟩ := List.mem_map.1 hx
    exact (rdg_digI (hrow r hr)).1
  exact ⟨b, by unfold rtbT; rw [if_pos b, v]⟩
theorem txt_rtb {s : List UInt8} (h : rtbB s = true) : txtI (rtbT s) = s := by
  have h' := h
  unfold rtbB at h'
  rw [Bool.and_eq_true, List.all_eq_true] at h'
  unfold rtbT
  rw [if_pos h]
  unfold txtI rtbV
  have e : (splS s 47).map (digI ∘ rdgV) = splS s 47 := (List.map_congr_left fun x hx => digI_rdgV (h'.1 x hx)).trans (List.map_id _)
  rw [List.map_map, e, join_splS]
theorem rtb_tab {s : List UInt8} (h : rtbB s = true) : isTab (rtbT s) = true := by
  have h' := h
  unfold rtbB at h'
  rw [Bool.and_eq_true] at h'
  unfold rtbT
  rw [if_pos h]; exact h'.2
theorem rtb_short {s : List UInt8} (h : rtbB s = true) : (s.length : Int) ≤ 156 := by
  have e := txt_rtb h
  have ht := rtb_tab h
  have := txt_len (rtbT s) (row_le ht)
  have hn := isTab_len ht
  rw [e] at this
  have l := joinI_len (xs := splS s 47) (by obtain ⟨u, v, e⟩ := splS_ne s 47; rw [e]; simp)
  rw [join_splS] at l
  have v : rtbT s = rtbV s := by unfold rtbT; rw [if_pos h]
  have q : (splS s 47).length = (rtbT s).length := by rw [v]; unfold rtbV; simp
  have w : Lib.lens (splS s 47) ≤ 12 * (splS s 47).length := by
    have hr := row_le ht
    rw [v] at hr
    unfold rtbV at hr
    have : ∀ (r : List (List UInt8)), (∀ q ∈ r, q.length ≤ 12) → Lib.lens r ≤ 12 * r.length := by
      intro r
      induction r with
      | nil => intro _; simp [Lib.lens]
      | cons q r ih =>
        intro hq
        have a := hq q (by simp)
        have b := ih fun q' hq' => hq q' (by simp [hq'])
        simp only [Lib.lens, List.map_cons, List.sum_cons, List.length_cons] at b ⊢
        omega
    exact this _ fun q hq => by have := hr (rdgV q) (List.mem_map.2 ⟨q, hq, rfl⟩); unfold rdgV at this; simpa using this
  omega

end
section
def aff1 (v : Int) : Prop := -1 ≤ v ∧ v ≤ 13
section
variable {r s : List (List Int)}
end

end
end Go.Proofs.YtjolbldlhjfciaaDoor
